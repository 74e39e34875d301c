/- The contract of algebra.Turn. -/
import Derived.Test.YtenckggfgbkfnaaDoorAlg3
namespace Go.Proofs.YtenckggfgbkfnaaDoor
open Go Go.RowKit
set_option linter.unusedSimpArgs false
set_option linter.unusedVariables false
set_option maxRecDepth 100000
attribute [local go_sem ↓ high] eq_cl neq_cl eq_pt neq_pt
/-- The code that Turn returns, and the pattern. -/
def tuE (l : List (Int × Int × Int)) : Int := if rightC l = true then 0 else 2
def tuL (k : Int) (l : List (Int × Int × Int)) : List (Int × Int × Int) := if rightC l = true then trL k l else []
set_option maxHeartbeats 4000000 in
theorem alg_Turn (k : Int) (A : Option Addr) (n c : Nat) (l : List (Int × Int × Int)) (w : World) (hM : Mx w) (hR : Rd encC 3 w A n l) (hn : n ≤ 1000000) :
    Calls Tryd.prog 17 #[.int .i64 k, .slice A n c] w fun e w' => ∃ A2 n2 c2, e = .returned (.tuple #[.slice A2 n2 c2, .int .i64 (tuE l)]) ∧ Rd encC 3 w' A2 n2 (tuL k l) ∧ n2 ≤ n ∧ n2 ≤ c2 ∧ Below w.heap.size w w' := by
  cases hr : rightC l with
  | false =>
    have HE := Lib.hid (show tuE l = 2 ∧ tuL k l = [] by unfold tuE tuL; rw [hr]; exact ⟨rfl, rfl⟩)
    have kR := fun w1 (h : Rd encC 3 w1 A n l) => pat_RightV (A := A) (n := n) (c := c) hr w1 h (by omega)
    clear hr
    go_enter Tryd.func17, Tryd.ntmps17
    go_wp2_with fail; go_at_call 28; refine (kR _ hR).mono ?_; rintro e w1 ⟨rfl, hb1⟩; have hs1 := hb1.size; (try simp only [World.size_alloc, World.size_drew, World.size_setCell] at hs1)
    go_wp2_with fail
    go_ret2
    exact ⟨none, 0, 0, ret_pe HE.out.1.symm, by rw [HE.out.2]; exact Rd.nil_, by omega, by omega, by (repeat' (first | exact Below.refl _ _ | assumption | (refine Below.alloc ?_ ?_ _) | (refine Below.setCell ?_ ?_ _) | (refine Below.drew ?_) | (refine below_drewN ?_ _) | (refine below_after (Ext.below _) ?_ ?_) | (refine below_after (by assumption) ?_ ?_) | (simp; done) | omega | (simp; omega)))⟩
  | true =>
    have HE := Lib.hid (show tuE l = 0 ∧ tuL k l = trL k l by unfold tuE tuL; rw [hr]; exact ⟨rfl, rfl⟩)
    have HN := Lib.hid (tr_cells k hr)
    have hn5 : n ≤ 5000 := by rw [← hR.len]; exact (rightC_ok hr).1
    have kR := fun w1 (h : Rd encC 3 w1 A n l) => pat_RightV (A := A) (n := n) (c := c) hr w1 h (by omega)
    clear hr
    go_enter Tryd.func17, Tryd.ntmps17
    go_wp2_with fail; go_at_call 28; refine (kR _ hR).mono ?_; rintro e w1 ⟨rfl, hb1⟩; have hs1 := hb1.size; (try simp only [World.size_alloc, World.size_drew, World.size_setCell] at hs1)
    have hR1 := hR.of hb1
    have hM1 := hM.of hb1
    have hB1 := hb1
    clear hb1 kR hR hM
    go_wp2_with (first | (at_make; refine wpList_make_el rfl (.const (.int .i64 0)) (.tmp 14) 23 rfl encC 3 54 (.agg #[.int .i64 0, .int .i64 0, .int .i64 0]) 24 Tryd.underlying23 (by kernel_rfl) (w1.heap.size) _ (n) rfl rfl (rfl) (by omega) (by omega) (by first | omega | (simp; done) | (simp; omega)) ?_; intro w5 hown5 hb5; obtain ⟨hc5, hf5⟩ := bcell hb5; have hs5 := hb5.size; (try simp only [World.size_alloc, World.size_setCell, World.size_drew] at hc5 hf5); (try simp at hs5)))
    have hB5 : Below w.heap.size w w5 := by (repeat' (first | exact Below.refl _ _ | assumption | (refine Below.alloc ?_ ?_ _) | (refine Below.setCell ?_ ?_ _) | (refine Below.drew ?_) | (refine below_drewN ?_ _) | (refine below_after (Ext.below _) ?_ ?_) | (refine below_after (by assumption) ?_ ?_) | (simp; done) | omega | (simp; omega)))
    have hR5 := hR1.of hb5
    have hM5 := hM1.of hb5
    have hs50 := hb5.size
    clear hc5 hf5 hs5
    go_loopw [6, 18] (fun v i wr => ∃ (E : Option Addr) (m d j : Nat), v = .slice E m d ∧ i = .int .i64 j ∧ j ≤ n ∧ m = j ∧ Own encC 3 54 w1.heap.size wr E m d ((l.take j).map (trn k)) ∧ Below w1.heap.size w1 wr) (fun _ i _ => n - (intOf i).toNat)
    case atStart => exact ⟨_, 0, n, 0, rfl, rfl, by omega, rfl, hown5, hb5⟩
    case round =>
      obtain ⟨E, m, d, j, rfl, rfl, hj, rfl, hown, hb⟩ := hrel
      obtain ⟨hc, hf⟩ := bcell hb
      have hs := hb.size
      by_cases hlt : m < n
      · have dj : decide ((m : Int) < n) = true := decide_eq_true (by omega)
        obtain ⟨x', y', s', bo, o, hx, rfl, hbl, g1, g2, g3⟩ := hR1.cell hlt
        have hst := Lib.hid (map_step (trn k) hx.out)
        have kA := fun w9 (h : Mx w9) => sym_Apply k x' y' w9 h
        have hMr := hM1.of hb
        go_wp2_with fail
        go_at_call 44
        refine (kA _ (hMr.of (by (repeat' (first | exact Below.refl _ _ | assumption | (refine Below.alloc ?_ ?_ _) | (refine Below.setCell ?_ ?_ _) | (refine Below.drew ?_) | (refine below_drewN ?_ _) | (refine below_after (Ext.below _) ?_ ?_) | (refine below_after (by assumption) ?_ ?_) | (simp; done) | omega | (simp; omega)))))).mono ?_
        rintro e w6 ⟨rfl, hb6⟩
        obtain ⟨hc6, hf6⟩ := bcell hb6
        have hs6 := hb6.size
        simp only [World.size_alloc] at hc6 hf6 hs6
        have hown6 : Own encC 3 54 w1.heap.size w6 E m d ((l.take m).map (trn k)) := hown.of (by (repeat' (first | exact Below.refl _ _ | assumption | (refine Below.alloc ?_ ?_ _) | (refine Below.setCell ?_ ?_ _) | (refine Below.drew ?_) | (refine below_drewN ?_ _) | (refine below_after (Ext.below _) ?_ ?_) | (refine below_after (by assumption) ?_ ?_) | (simp; done) | omega | (simp; omega))))
        have hst2 := Lib.hid (show (l.take (m + 1)).map (trn k) = (l.take m).map (trn k) ++ [((app k x' y').1, (app k x' y').2, s')] from hst.out)
        generalize (app k x' y').1 = u1 at hst2 ⊢
        generalize (app k x' y').2 = u2 at hst2 ⊢
        go_wp2_with (first | (at_builtin; refine wpList_append_el rfl (.tmp 29) (.tmp 37) 23 rfl encC 3 54 (.agg #[.int .i64 0, .int .i64 0, .int .i64 0]) 24 Tryd.underlying23 (by kernel_rfl) rfl (by decide) encC_len encC_one (w1.heap.size) _ _ _ _ rfl (((hown6.alloc _).alloc _)) (u1, u2, s') ⟨w6.heap.size + 1, 0, none⟩ 1 rfl (by have h := cells_new ((w6.alloc (.cells #[.int .i64 u1, .int .i64 u2] 39))) (encC (u1, u2, s')) 54; simp only [World.size_alloc] at h; exact h) (by omega) (by omega) (by first | omega | (simp; done) | (simp; omega)) ?_; intro A7 c7 w7 hown7 hg7 hb7; obtain ⟨hc7, hf7⟩ := bcell hb7; have hs7 := hb7.size; (try simp only [World.size_alloc, World.size_setCell, World.size_drew] at hc7 hf7); (try simp at hs7)))
        go_roundw
        case rel => exact ⟨A7, m + 1, c7, m + 1, rfl, by go_num, by omega, rfl, by rw [hst2.out]; exact hown7, by (repeat' (first | exact Below.refl _ _ | assumption | (refine Below.alloc ?_ ?_ _) | (refine Below.setCell ?_ ?_ _) | (refine Below.drew ?_) | (refine below_drewN ?_ _) | (refine below_after (Ext.below _) ?_ ?_) | (refine below_after (by assumption) ?_ ?_) | (simp; done) | omega | (simp; omega)))⟩
        case measure => simp [intOf]; omega
      · obtain rfl : m = n := by omega
        have dj : decide ((m : Int) < m) = false := decide_eq_false (by omega)
        rw [List.take_of_length_le (by rw [hR1.len]; omega)] at hown
        go_wp2_with fail
        go_at_call 45
        refine (alg_order_sort w1.heap.size _ _ _ _ _ hown hs (by omega)).mono ?_
        rintro e w8 ⟨rfl, l', hown8, hperm, hwc, hb8⟩
        have hcap := own_cap hown8
        have HL := Lib.hid (sort_fin hperm hwc HN.out.2.1)
        have hR8 := hown8.rd encC_len
        clear hperm hwc hown8 hown
        go_wp2
        go_ret2
        exact ⟨E, m, d, ret_pe HE.out.1.symm, by rw [HE.out.2]; unfold trL; rw [HL.out]; exact hR8, Nat.le_refl _, hcap, hB1.trans ((hb.trans hb8).mono hB1.size)⟩
end Go.Proofs.YtenckggfgbkfnaaDoor
