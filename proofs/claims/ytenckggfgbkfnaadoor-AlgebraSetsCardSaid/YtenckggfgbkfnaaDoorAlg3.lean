/- The contracts of algebra.Cut, Turn and Home. -/
import Derived.Test.YtenckggfgbkfnaaDoorAlg1
import Derived.Test.YtenckggfgbkfnaaDoorSym
import Derived.Test.YtenckggfgbkfnaaDoorPLN
namespace Go.Proofs.YtenckggfgbkfnaaDoor
open Go Go.RowKit
set_option linter.unusedSimpArgs false
set_option linter.unusedVariables false
set_option maxRecDepth 100000
attribute [local go_sem ↓ high] eq_cl neq_cl eq_pt neq_pt
theorem alg_in (n : Int) (w : World) : Calls Tryd.prog 70 #[.int .i64 n] w fun e w' => e = .returned (.bool (decide (-1048576 ≤ n ∧ n ≤ 1048576))) ∧ w = w' := by
  go_enter Tryd.func70, Tryd.ntmps70
  go_wp2
  all_goals (go_ret; refine ⟨ret_bool ?_, rfl⟩; rw [Bool.eq_iff_iff]; simp; try omega)
set_option maxHeartbeats 400000 in
theorem alg_valid (x y wd h : Int) (w : World) : Calls Tryd.prog 56 #[.agg #[.int .i64 x, .int .i64 y, .int .i64 wd, .int .i64 h]] w fun e w' => e = .returned (.bool (rightB x y wd h)) ∧ Below w.heap.size w w' := by
  go_enter Tryd.func56, Tryd.ntmps56
  go_wp2_with (first | (go_at_call 70; refine (alg_in _ _).mono ?_; rintro e w' ⟨rfl, rfl⟩))
  all_goals (go_ret; refine ⟨ret_bool ?_, by (repeat' (first | exact Below.refl _ _ | assumption | (refine Below.alloc ?_ ?_ _) | (refine Below.setCell ?_ ?_ _) | (refine Below.drew ?_) | (refine below_drewN ?_ _) | (refine below_after (Ext.below _) ?_ ?_) | (refine below_after (by assumption) ?_ ?_) | (simp; done) | omega | (simp; omega)))⟩; rw [Bool.eq_iff_iff]; simp [rightB]; omega)
theorem alg_validV {x y wd h : Int} {q : Bool} (hq : rightB x y wd h = q) (w : World) : Calls Tryd.prog 56 #[.agg #[.int .i64 x, .int .i64 y, .int .i64 wd, .int .i64 h]] w fun e w' => e = .returned (.bool q) ∧ Below w.heap.size w w' := by
  rw [← hq]; exact alg_valid x y wd h w
set_option maxHeartbeats 4000000 in
theorem alg_Cut (A : Option Addr) (n c : Nat) (l : List (Int × Int × Int)) (x y wd h : Int) (w : World) (hR : Rd encC 3 w A n l) (hn : n ≤ 1000000) :
    Calls Tryd.prog 32 #[.slice A n c, .agg #[.int .i64 x, .int .i64 y, .int .i64 wd, .int .i64 h]] w fun e w' => ∃ A2 n2 c2, e = .returned (.slice A2 n2 c2) ∧ Rd encC 3 w' A2 n2 (ctL l x y wd h) ∧ n2 ≤ n ∧ n2 ≤ c2 ∧ Below w.heap.size w w' := by
  have hR := hR.of (show Below w.heap.size w (w.alloc (.cells #[.int .i64 x, .int .i64 y, .int .i64 wd, .int .i64 h] 43)) from (Below.refl _ _).alloc (Nat.le_refl _) _)
  have xb := BoxAt.new w x y wd h 43
  cases hr : rightC l with
  | false =>
    have HE := Lib.hid (ctL_no (x := x) (y := y) (w := wd) (h := h) (.inl hr))
    have kR := fun w1 (h : Rd encC 3 w1 A n l) => pat_RightV (A := A) (n := n) (c := c) hr w1 h (by omega)
    clear hr
    go_enter Tryd.func32, Tryd.ntmps32
    go_wp2_with fail; go_at_call 28; refine (kR _ hR).mono ?_; rintro e w1 ⟨rfl, hb1⟩; have hs1 := hb1.size; (try simp only [World.size_alloc, World.size_drew, World.size_setCell] at hs1)
    go_wp2_with fail
    go_ret
    exact ⟨none, 0, 0, rfl, by rw [HE.out]; exact Rd.nil_, by omega, by omega, by (repeat' (first | exact Below.refl _ _ | assumption | (refine Below.alloc ?_ ?_ _) | (refine Below.setCell ?_ ?_ _) | (refine Below.drew ?_) | (refine below_drewN ?_ _) | (refine below_after (Ext.below _) ?_ ?_) | (refine below_after (by assumption) ?_ ?_) | (simp; done) | omega | (simp; omega)))⟩
  | true =>
    have kR := fun w1 (h : Rd encC 3 w1 A n l) => pat_RightV (A := A) (n := n) (c := c) hr w1 h (by omega)
    cases hv : rightB x y wd h with
    | false =>
      have HE := Lib.hid (ctL_no (l := l) (.inr hv))
      have kV := fun w1 => alg_validV hv w1
      clear hr hv
      go_enter Tryd.func32, Tryd.ntmps32
      go_wp2_with fail; go_at_call 28; refine (kR _ hR).mono ?_; rintro e w1 ⟨rfl, hb1⟩; have hs1 := hb1.size; (try simp only [World.size_alloc, World.size_drew, World.size_setCell] at hs1); obtain ⟨hc1, hf1⟩ := bcell hb1; (try simp only [World.size_alloc, World.size_setCell, World.size_drew] at hc1 hf1)
      go_wp2_with fail; go_at_call 56; refine (kV _).mono ?_; rintro e w2 ⟨rfl, hb2⟩; have hs2 := hb2.size; (try simp only [World.size_alloc, World.size_drew, World.size_setCell] at hs2)
      go_wp2_with fail
      go_ret
      exact ⟨none, 0, 0, rfl, by rw [HE.out]; exact Rd.nil_, by omega, by omega, by (repeat' (first | exact Below.refl _ _ | assumption | (refine Below.alloc ?_ ?_ _) | (refine Below.setCell ?_ ?_ _) | (refine Below.drew ?_) | (refine below_drewN ?_ _) | (refine below_after (Ext.below _) ?_ ?_) | (refine below_after (by assumption) ?_ ?_) | (simp; done) | omega | (simp; omega)))⟩
    | true =>
      have HE := Lib.hid (ctL_yes (l := l) hr hv)
      have hbd := rightB_iff.1 hv
      have kV := fun w1 => alg_validV hv w1
      have hel := Lib.hid (okCells_right hr)
      clear hr hv
      have ex : IntKind.i64.wrap (x + wd) = x + wd := IntWalk.i64_in _ (by omega)
      have ey : IntKind.i64.wrap (y + h) = y + h := IntWalk.i64_in _ (by omega)
      go_enter Tryd.func32, Tryd.ntmps32
      go_wp2_with fail; go_at_call 28; refine (kR _ hR).mono ?_; rintro e w1 ⟨rfl, hb1⟩; have hs1 := hb1.size; (try simp only [World.size_alloc, World.size_drew, World.size_setCell] at hs1); obtain ⟨hc1, hf1⟩ := bcell hb1; (try simp only [World.size_alloc, World.size_setCell, World.size_drew] at hc1 hf1)
      go_wp2_with fail; go_at_call 56; refine (kV _).mono ?_; rintro e w2 ⟨rfl, hb2⟩; have hs2 := hb2.size; (try simp only [World.size_alloc, World.size_drew, World.size_setCell] at hs2); obtain ⟨hc2, hf2⟩ := bcell hb2; (try simp only [World.size_alloc, World.size_setCell, World.size_drew] at hc2 hf2)
      have hB2 : Below w.heap.size w w2 := by (repeat' (first | exact Below.refl _ _ | assumption | (refine Below.alloc ?_ ?_ _) | (refine Below.setCell ?_ ?_ _) | (refine Below.drew ?_) | (refine below_drewN ?_ _) | (refine below_after (Ext.below _) ?_ ?_) | (refine below_after (by assumption) ?_ ?_) | (simp; done) | omega | (simp; omega)))
      have hR2 : Rd encC 3 w2 A n l := (hR.of hb1).of hb2
      obtain ⟨q0, q1, q2, q3, q4⟩ := (xb.of hb1).of hb2
      have hs0 := hB2.size
      clear hb1 hb2 hs1 hs2 hc1 hf1 hc2 hf2 kR kV hR xb
      go_wp2_with fail
      go_loopw [5, 18] (fun v i wr => ∃ (E : Option Addr) (m d j : Nat), v = .slice E m d ∧ i = .int .i64 j ∧ j ≤ n ∧ m ≤ j ∧ Own encC 3 54 w2.heap.size wr E m d ((l.take j).filter (ctP x y wd h)) ∧ Below w2.heap.size w2 wr) (fun _ i _ => n - (intOf i).toNat)
      case atStart => exact ⟨none, 0, 0, 0, rfl, rfl, by omega, by omega, Own.nil_, Below.refl _ _⟩
      case round =>
        obtain ⟨E, m, d, j, rfl, rfl, hj, hm, hown, hb⟩ := hrel
        obtain ⟨hc, hf⟩ := bcell hb
        have hs := hb.size
        by_cases hlt : j < n
        · have dj : decide ((j : Int) < n) = true := decide_eq_true (by omega)
          obtain ⟨x', y', s', bo, o, hx, rfl, hbl, g1, g2, g3⟩ := hR2.cell hlt
          have hst := filter_step (ctP x y wd h) hx.out
          have hways : (decide (x ≤ x') = false ∧ ctP x y wd h (x', y', s') = false) ∨ (decide (x ≤ x') = true ∧ decide (x' < x + wd) = false ∧ ctP x y wd h (x', y', s') = false) ∨ (decide (x ≤ x') = true ∧ decide (x' < x + wd) = true ∧ decide (y ≤ y') = false ∧ ctP x y wd h (x', y', s') = false) ∨
              (decide (x ≤ x') = true ∧ decide (x' < x + wd) = true ∧ decide (y ≤ y') = true ∧ decide (y' < y + h) = false ∧ ctP x y wd h (x', y', s') = false) ∨ (decide (x ≤ x') = true ∧ decide (x' < x + wd) = true ∧ decide (y ≤ y') = true ∧ decide (y' < y + h) = true ∧ ctP x y wd h (x', y', s') = true) := by
            unfold ctP; simp only [decide_eq_true_eq, decide_eq_false_iff_not]; omega
          rcases hways with ⟨d1, hq⟩ | ⟨d1, d2, hq⟩ | ⟨d1, d2, d3, hq⟩ | ⟨d1, d2, d3, d4, hq⟩ | ⟨d1, d2, d3, d4, hq⟩
          iterate 4
            · have HT := Lib.hid (show (l.take (j + 1)).filter (ctP x y wd h) = (l.take j).filter (ctP x y wd h) by rw [hst, hq]; simp)
              clear hst hq
              go_wp2_with fail
              go_roundw
              case rel => exact ⟨E, m, d, j + 1, rfl, by go_num, by omega, by omega, by rw [HT.out]; exact hown.alloc _, by (repeat' (first | exact Below.refl _ _ | assumption | (refine Below.alloc ?_ ?_ _) | (refine Below.setCell ?_ ?_ _) | (refine Below.drew ?_) | (refine below_drewN ?_ _) | (refine below_after (Ext.below _) ?_ ?_) | (refine below_after (by assumption) ?_ ?_) | (simp; done) | omega | (simp; omega)))⟩
              case measure => simp [intOf]; omega
          · have HT := Lib.hid (show (l.take (j + 1)).filter (ctP x y wd h) = (l.take j).filter (ctP x y wd h) ++ [(x', y', s')] by rw [hst, hq]; simp)
            clear hst hq
            go_wp2_with (first | (at_builtin; refine wpList_append_el rfl (.tmp 54) (.tmp 56) 23 rfl encC 3 54 (.agg #[.int .i64 0, .int .i64 0, .int .i64 0]) 24 Tryd.underlying23 (by kernel_rfl) rfl (by decide) encC_len encC_one (w2.heap.size) _ _ _ _ rfl (((hown.alloc _).alloc _)) (x', y', s') ⟨wr.heap.size + 1, 0, none⟩ 1 rfl (by have h := cells_new ((wr.alloc (.cells #[.int .i64 x', .int .i64 y', .int .i64 s'] 54))) (encC (x', y', s')) 54; simp only [World.size_alloc] at h; exact h) (by omega) (by omega) (by first | omega | (simp; done) | (simp; omega)) ?_; intro A5 c5 w5 hown5 hg5 hb5; obtain ⟨hc5, hf5⟩ := bcell hb5; have hs5 := hb5.size; (try simp only [World.size_alloc, World.size_setCell, World.size_drew] at hc5 hf5); (try simp at hs5)))
            go_roundw
            case rel => exact ⟨A5, m + 1, c5, j + 1, rfl, by go_num, by omega, by omega, by rw [HT.out]; exact hown5, by (repeat' (first | exact Below.refl _ _ | assumption | (refine Below.alloc ?_ ?_ _) | (refine Below.setCell ?_ ?_ _) | (refine Below.drew ?_) | (refine below_drewN ?_ _) | (refine below_after (Ext.below _) ?_ ?_) | (refine below_after (by assumption) ?_ ?_) | (simp; done) | omega | (simp; omega)))⟩
            case measure => simp [intOf]; omega
        · obtain rfl : j = n := by omega
          have dj : decide ((j : Int) < j) = false := decide_eq_false (by omega)
          rw [List.take_of_length_le (by rw [hR2.len]; omega)] at hown
          have hcap := own_cap hown
          go_wp2_with fail
          go_ret
          exact ⟨E, m, d, rfl, by rw [HE.out]; exact hown.rd encC_len, hm, hcap, below_after hb hB2 (by omega)⟩
end Go.Proofs.YtenckggfgbkfnaaDoor
