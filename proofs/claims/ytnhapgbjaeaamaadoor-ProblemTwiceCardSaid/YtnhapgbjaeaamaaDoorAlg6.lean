/- The contracts of algebra.Home, of its reference and of Turn's reference. -/
import Derived.Test.YtnhapgbjaeaamaaDoorAlgH
import Derived.Test.YtnhapgbjaeaamaaDoorAlg5
import Derived.Test.YtnhapgbjaeaamaaDoorAlg4
import Derived.Test.YtnhapgbjaeaamaaDoorCellS
namespace Go.Proofs.YtnhapgbjaeaamaaDoor
open Go Go.RowKit
set_option linter.unusedSimpArgs false
set_option linter.unusedVariables false
set_option maxRecDepth 100000
attribute [local go_sem ↓ high] eq_cl neq_cl eq_pt neq_pt
theorem pat_BoxU6 (A : Option Addr) (n c : Nat) (l : List (Int × Int × Int)) (w : World) (hR : Rd encC 3 w A n l) (hn : n ≤ 1000000) : Calls Tryd.prog 32 #[.slice A n c] w fun e w' => e = .returned (.tuple #[.agg #[.int .i64 (hmX l), .int .i64 (hmY l), .int .i64 (arW (bxPos l)), .int .i64 (arH (bxPos l))], .bool (arOk (bxPos l))]) ∧ Below w.heap.size w w' := pat_Box A n c l w hR hn
set_option maxHeartbeats 4000000 in
theorem alg_Home (A : Option Addr) (n c : Nat) (l : List (Int × Int × Int)) (w : World) (hR : Rd encC 3 w A n l) (hn : n ≤ 1000000) (hnc : n ≤ c) :
    Calls Tryd.prog 18 #[.slice A n c] w fun e w' => ∃ A2 c2, e = .returned (.slice A2 n c2) ∧ Rd encC 3 w' A2 n (hmL l) ∧ n ≤ c2 ∧ Below w.heap.size w w' := by
  have kB := fun w1 (h : Rd encC 3 w1 A n l) => pat_BoxU6 A n c l w1 h hn
  by_cases hg : rightC l = true ∧ 0 < l.length
  · obtain ⟨hr, h0⟩ := hg
    obtain ⟨e0, e1, _, _⟩ := hm_good hr h0
    have hbd := hm_bound hr h0
    have HE := Lib.hid e1
    rw [e0] at kB
    have hel := Lib.hid (okCells_right hr)
    have kR := fun w1 (h : Rd encC 3 w1 A n l) => pat_RightV (A := A) (n := n) (c := c) hr w1 h (by omega)
    generalize hmX l = X at kB hbd HE
    generalize hmY l = Y at kB hbd HE
    generalize arW (bxPos l) = W0 at kB
    generalize arH (bxPos l) = H0 at kB
    clear e0 e1 hr h0
    obtain ⟨b1, b2, b3, b4⟩ := hbd
    go_enter Tryd.func18, Tryd.ntmps18
    go_wp2_with fail; go_at_call 32; refine (kB _ hR).mono ?_; rintro e w1 ⟨rfl, hb1⟩; have hs1 := hb1.size; (try simp only [World.size_alloc, World.size_drew, World.size_setCell] at hs1)
    have xb := BoxAt.new w1 X Y W0 H0 73
    go_wp2_with fail; go_at_call 33; refine (kR _ (hR.of (by (repeat' (first | exact Below.refl _ _ | assumption | (refine Below.alloc ?_ ?_ _) | (refine Below.setCell ?_ ?_ _) | (refine Below.drew ?_) | (refine below_drewN ?_ _) | (refine below_after (Ext.below _) ?_ ?_) | (refine below_after (by assumption) ?_ ?_) | (simp; done) | omega | (simp; omega)))))).mono ?_; rintro e w2 ⟨rfl, hb2⟩; have hs2 := hb2.size; (try simp only [World.size_alloc, World.size_drew, World.size_setCell] at hs2)
    obtain ⟨q0, q1, q2, q3, q4⟩ := xb.of hb2
    have hB2 : Below w.heap.size w w2 := by (repeat' (first | exact Below.refl _ _ | assumption | (refine Below.alloc ?_ ?_ _) | (refine Below.setCell ?_ ?_ _) | (refine Below.drew ?_) | (refine below_drewN ?_ _) | (refine below_after (Ext.below _) ?_ ?_) | (refine below_after (by assumption) ?_ ?_) | (simp; done) | omega | (simp; omega)))
    have hR2 : Rd encC 3 w2 A n l := hR.of hB2
    have hs0 := hB2.size
    have hs12 : w1.heap.size < w2.heap.size := by omega
    clear hb1 hb2 hs1 hs2 kB kR hR xb
    go_wp2_with (first | (at_make; refine wpList_make_el rfl (.const (.int .i64 0)) (.tmp 22) 30 rfl encC 3 40 (.agg #[.int .i64 0, .int .i64 0, .int .i64 0]) 24 Tryd.underlying30 (by kernel_rfl) (w2.heap.size) _ (n) rfl rfl (rfl) (by omega) (by omega) (by first | omega | (simp; done) | (simp; omega)) ?_; intro w5 hown5 hb5; obtain ⟨hc5, hf5⟩ := bcell hb5; have hs5 := hb5.size; (try simp only [World.size_alloc, World.size_setCell, World.size_drew] at hc5 hf5); (try simp at hs5)))
    clear hc5 hf5 hs5
    go_loopw [5, 26] (fun v i wr => ∃ (E : Option Addr) (d j : Nat), v = .slice E j d ∧ i = .int .i64 j ∧ j ≤ n ∧ Own encC 3 40 w2.heap.size wr E j d ((l.take j).map (mv5 (-X) (-Y))) ∧ Below w2.heap.size w2 wr) (fun _ i _ => n - (intOf i).toNat)
    case atStart => exact ⟨_, n, 0, rfl, rfl, by omega, hown5, hb5⟩
    case round =>
      obtain ⟨E, d, j, rfl, rfl, hj, hown, hb⟩ := hrel
      obtain ⟨hc, hf⟩ := bcell hb
      have hs := hb.size
      by_cases hlt : j < n
      · have dj : decide ((j : Int) < n) = true := decide_eq_true (by omega)
        obtain ⟨x', y', s', bo, o, hx, rfl, hbl, g1, g2, g3⟩ := hR2.cell hlt
        have hpt := (hel.out _ (List.mem_of_getElem? hx.out)).1
        unfold Pt at hpt
        simp only at hpt
        obtain ⟨p1, p2, p3, p4⟩ := hpt
        have hst := Lib.hid (show (l.take (j + 1)).map (mv5 (-X) (-Y)) = (l.take j).map (mv5 (-X) (-Y)) ++ [(x' - X, y' - Y, s')] by rw [map_step _ hx.out]; simp only [mv5]; congr 3)
        have ex : IntKind.i64.wrap (x' - X) = x' - X := IntWalk.i64_in _ (by omega)
        have ey : IntKind.i64.wrap (y' - Y) = y' - Y := IntWalk.i64_in _ (by omega)
        go_wp2_with (first | (at_builtin; refine wpList_append_el rfl (.tmp 30) (.tmp 44) 30 rfl encC 3 40 (.agg #[.int .i64 0, .int .i64 0, .int .i64 0]) 24 Tryd.underlying30 (by kernel_rfl) rfl (by decide) encC_len encC_one (w2.heap.size) _ _ _ _ rfl (((hown.alloc _).alloc _)) (x' - X, y' - Y, s') ⟨wr.heap.size + 1, 0, none⟩ 1 rfl (by have h := cells_new ((wr.alloc (.cells #[.int .i64 x', .int .i64 y', .int .i64 s'] 40))) (encC (x' - X, y' - Y, s')) 40; simp only [World.size_alloc] at h; exact h) (by omega) (by omega) (by first | omega | (simp; done) | (simp; omega)) ?_; intro A7 c7 w7 hown7 hg7 hb7; obtain ⟨hc7, hf7⟩ := bcell hb7; have hs7 := hb7.size; (try simp only [World.size_alloc, World.size_setCell, World.size_drew] at hc7 hf7); (try simp at hs7)))
        go_roundw
        case rel => exact ⟨A7, c7, j + 1, rfl, by go_num, by omega, by rw [hst.out]; exact hown7, by (repeat' (first | exact Below.refl _ _ | assumption | (refine Below.alloc ?_ ?_ _) | (refine Below.setCell ?_ ?_ _) | (refine Below.drew ?_) | (refine below_drewN ?_ _) | (refine below_after (Ext.below _) ?_ ?_) | (refine below_after (by assumption) ?_ ?_) | (simp; done) | omega | (simp; omega)))⟩
        case measure => simp [intOf]; omega
      · obtain rfl : j = n := by omega
        have dj : decide ((j : Int) < j) = false := decide_eq_false (by omega)
        rw [List.take_of_length_le (by rw [hR2.len]; omega)] at hown
        have hcap := own_cap hown
        go_wp2_with fail
        go_ret
        exact ⟨E, d, rfl, by rw [HE.out]; exact hown.rd encC_len, hcap, below_after hb hB2 (by omega)⟩
  · have hbad : rightC l = false ∨ l.length = 0 := by
      cases hr : rightC l with
      | false => exact .inl rfl
      | true => exact .inr (by rcases Nat.eq_zero_or_pos l.length with h | h; exact h; exact absurd ⟨hr, h⟩ hg)
    obtain ⟨e0, e1⟩ := hm_bad hbad
    have HE := Lib.hid e1
    rw [e0] at kB
    generalize hmX l = X at kB
    generalize hmY l = Y at kB
    generalize arW (bxPos l) = W0 at kB
    generalize arH (bxPos l) = H0 at kB
    clear e0 e1 hg hbad
    go_enter Tryd.func18, Tryd.ntmps18
    go_wp2_with fail; go_at_call 32; refine (kB _ hR).mono ?_; rintro e w1 ⟨rfl, hb1⟩; have hs1 := hb1.size; (try simp only [World.size_alloc, World.size_drew, World.size_setCell] at hs1)
    go_wp2_with fail
    go_ret
    exact ⟨A, c, rfl, by rw [HE.out]; exact hR.of (by (repeat' (first | exact Below.refl _ _ | assumption | (refine Below.alloc ?_ ?_ _) | (refine Below.setCell ?_ ?_ _) | (refine Below.drew ?_) | (refine below_drewN ?_ _) | (refine below_after (Ext.below _) ?_ ?_) | (refine below_after (by assumption) ?_ ?_) | (simp; done) | omega | (simp; omega)))), hnc, by (repeat' (first | exact Below.refl _ _ | assumption | (refine Below.alloc ?_ ?_ _) | (refine Below.setCell ?_ ?_ _) | (refine Below.drew ?_) | (refine below_drewN ?_ _) | (refine below_after (Ext.below _) ?_ ?_) | (refine below_after (by assumption) ?_ ?_) | (simp; done) | omega | (simp; omega)))⟩
end Go.Proofs.YtnhapgbjaeaamaaDoor
