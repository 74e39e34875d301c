/- The contracts of the reference's Right, and of Get and Top. -/
import Derived.Test.YtnhapgbjaeaamaaDoorCell2
namespace Go.Proofs.YtnhapgbjaeaamaaDoor
open Go Go.RowKit
set_option linter.unusedSimpArgs false
set_option linter.unusedVariables false
set_option maxRecDepth 100000
attribute [local go_sem ↓ high] eq_cl neq_cl eq_pt neq_pt
set_option maxHeartbeats 1000000 in
theorem pat_Top (A : Option Addr) (n c : Nat) (l : List (Int × Int × Int)) (w : World) (hR : Rd encC 3 w A n l) (hn : n ≤ 1000000) :
    Calls Tryd.prog 54 #[.slice A n c] w fun e w' => e = .returned (.int .i64 (topC l)) ∧ Below w.heap.size w w' := by
  go_enter Tryd.func54, Tryd.ntmps54
  go_wp2
  go_loopw [3, 7] (fun v i wr => ∃ j : Nat, v = .int .i64 (topC (l.take j)) ∧ j ≤ n ∧ i = .int .i64 j ∧ Below w.heap.size w wr) (fun _ i _ => n - (intOf i).toNat)
  case atStart => exact ⟨0, rfl, by omega, rfl, Below.refl _ _⟩
  case round =>
    obtain ⟨j, rfl, hj, rfl, hb⟩ := hrel
    obtain ⟨hc, hf⟩ := bcell hb
    have hs := hb.size
    by_cases hlt : j < n
    · obtain ⟨x', y', s', bo, o, hx, rfl, hbl, hcell, hcell2, hcell3⟩ := hR.cell hlt
      have hst := Lib.hid (topC_step hx.out)
      generalize topC (l.take j) = m at hst ⊢
      go_wp2
      go_roundw
      case rel => exact ⟨j + 1, by rw [hst.out], by omega, by go_num, by (repeat' (first | exact Below.refl _ _ | assumption | (refine Below.alloc ?_ ?_ _) | (refine Below.setCell ?_ ?_ _) | (refine Below.drew ?_) | (refine below_drewN ?_ _) | (refine below_after (Ext.below _) ?_ ?_) | (refine below_after (by assumption) ?_ ?_) | (simp; done) | omega | (simp; omega)))⟩
      case measure => simp [intOf]; omega
    · obtain rfl : j = n := by omega
      have ht := Lib.hid (show l.take j = l from List.take_of_length_le (by rw [hR.len]; omega))
      go_wp2
      go_ret
      exact ⟨ret_int (by rw [ht.out]), hb⟩
end Go.Proofs.YtnhapgbjaeaamaaDoor
