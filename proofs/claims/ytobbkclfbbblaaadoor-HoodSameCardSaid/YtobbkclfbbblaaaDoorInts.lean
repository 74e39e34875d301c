/- Contracts of the reference's Has and Same on lists of integers. -/
import Derived.Test.YtobbkclfbbblaaaDoorProg
import Derived.Test.YtobbkclfbbblaaaDoorRd
import Derived.Test.YtobbkclfbbblaaaDoorIntsP
namespace Go.Proofs.YtobbkclfbbblaaaDoor
open Go Go.RowKit
set_option linter.unusedSimpArgs false
set_option linter.unusedVariables false
set_option maxRecDepth 100000
set_option maxHeartbeats 400000 in
theorem ref_Has (A : Option Addr) (n c : Nat) (l : List Int) (m : Int) (w : World) (hR : Rd encI 1 w A n l) (hn : n ≤ 4611686018427387904) :
    Calls Tryd.prog 29 #[.slice A n c, .int .i64 m] w fun e w' => e = .returned (.bool (hasI l m)) ∧ w = w' := by
  go_enter Tryd.func29, Tryd.ntmps29
  go_wp2
  go_loop [5] (fun i => ∃ j : Nat, j ≤ n ∧ i = .int .i64 j ∧ Hid (∀ i, i < j → l[i]? ≠ some m)) (fun i => n - (intOf i).toNat)
  case atStart => exact ⟨0, by omega, rfl, fun r hr => absurd hr (by omega)⟩
  case round =>
    obtain ⟨j, hj, rfl, hno⟩ := hrel
    by_cases hlt : j < n
    · obtain ⟨x, b, o, hx, rfl, hb, hcell⟩ := hR.int hlt
      by_cases hq : x = m
      · subst hq
        go_wp2
        go_ret
        exact ⟨ret_bool (contains_some hx.out).symm, rfl⟩
      · have hq' : (x == m) = false := by simpa using hq
        have HQ := Lib.hid hq
        clear hq
        go_wp2
        go_round
        case rel => exact ⟨j + 1, by omega, by go_num, contains_step hno.out hx.out HQ.out⟩
        case measure => simp [intOf]; omega
    · obtain rfl : j = n := by omega
      go_wp2
      go_ret
      exact ⟨ret_bool (contains_none hR.len hno.out).symm, rfl⟩
set_option maxHeartbeats 400000 in
theorem ref_SameI (A B : Option Addr) (n m c d : Nat) (l r : List Int) (w : World) (hR : Rd encI 1 w A n l) (hS : Rd encI 1 w B m r) (hn : n ≤ 4611686018427387904) :
    Calls Tryd.prog 27 #[.slice A n c, .slice B m d] w fun e w' => e = .returned (.bool (sameL l r)) ∧ Below w.heap.size w w' := by
  by_cases hnm : n = m
  · subst hnm
    go_enter Tryd.func27, Tryd.ntmps27
    go_wp2
    go_loopw [5] (fun i wr => ∃ j : Nat, j ≤ n ∧ i = .int .i64 j ∧ Below w.heap.size w wr ∧ Hid (∀ i, i < j → l[i]? = r[i]?)) (fun i _ => n - (intOf i).toNat)
    case atStart => exact ⟨0, by omega, rfl, Below.refl _ _, fun r hr => absurd hr (by omega)⟩
    case round =>
      obtain ⟨j, hj, rfl, hb, hno⟩ := hrel
      obtain ⟨hc, hf⟩ := bcell hb
      have hs := hb.size
      by_cases hlt : j < n
      · obtain ⟨x, b, o, hx, rfl, hbl, hcell⟩ := hR.int hlt
        obtain ⟨y, b', o', hy, rfl, hbl', hcell'⟩ := hS.int hlt
        by_cases hq : x = y
        · subst hq
          go_wp2
          (refine wp_region_ext_lit (by kernel_rfl) (by kernel_rfl) ?_; (repeat (go_big_quiet_step (fail))); refine wpQuiet_nil ?_; intro _ hw'; obtain ⟨z1, hw''⟩ := hw'; subst hw''; have hs1 := z1.size; obtain ⟨hc1, hf1⟩ := bcell z1.below; (try simp only [World.size_alloc, World.size_setCell, World.size_drew] at hc1 hf1); (try simp at hs1))
          go_wp2
          go_roundw
          case rel => exact ⟨j + 1, by omega, by go_num, (by (repeat' (first | exact Below.refl _ _ | assumption | (refine Below.alloc ?_ ?_ _) | (refine Below.setCell ?_ ?_ _) | (refine Below.drew ?_) | (refine below_drewN ?_ _) | (refine below_after (Ext.below _) ?_ ?_) | (refine below_after (by assumption) ?_ ?_) | (simp; done) | omega | (simp; omega)))), same_step hno.out (hx.out.trans hy.out.symm)⟩
          case measure => simp [intOf]; omega
        · have hq' : (x == y) = false := by simpa using hq
          have hq2 : (x != y) = true := by simpa using hq
          have HQ := Lib.hid hq
          clear hq
          go_wp2
          (refine wp_region_ext_lit (by kernel_rfl) (by kernel_rfl) ?_; (repeat (go_big_quiet_step (fail))); refine wpQuiet_nil ?_; intro _ hw'; obtain ⟨z1, hw''⟩ := hw'; subst hw''; have hs1 := z1.size; obtain ⟨hc1, hf1⟩ := bcell z1.below; (try simp only [World.size_alloc, World.size_setCell, World.size_drew] at hc1 hf1); (try simp at hs1))
          go_wp2
          go_ret
          exact ⟨ret_bool (sameL_ne hx.out hy.out HQ.out).symm, by (repeat' (first | exact Below.refl _ _ | assumption | (refine Below.alloc ?_ ?_ _) | (refine Below.setCell ?_ ?_ _) | (refine Below.drew ?_) | (refine below_drewN ?_ _) | (refine below_after (Ext.below _) ?_ ?_) | (refine below_after (by assumption) ?_ ?_) | (simp; done) | omega | (simp; omega)))⟩
      · obtain rfl : j = n := by omega
        go_wp2
        go_ret
        exact ⟨ret_bool (sameL_all hR.len hS.len hno.out).symm, by (repeat' (first | exact Below.refl _ _ | assumption | (refine Below.alloc ?_ ?_ _) | (refine Below.setCell ?_ ?_ _) | (refine Below.drew ?_) | (refine below_drewN ?_ _) | (refine below_after (Ext.below _) ?_ ?_) | (refine below_after (by assumption) ?_ ?_) | (simp; done) | omega | (simp; omega)))⟩
  · have hq : ((n : Int) != (m : Int)) = true := by simp; omega
    have hq2 : ((n : Int) == (m : Int)) = false := by simp; omega
    have hlen := Lib.hid (sameL_len hR.len hS.len hnm)
    clear hnm
    go_enter Tryd.func27, Tryd.ntmps27
    go_wp2
    go_ret
    exact ⟨ret_bool hlen.out.symm, by (repeat' (first | exact Below.refl _ _ | assumption | (refine Below.alloc ?_ ?_ _) | (refine Below.setCell ?_ ?_ _) | (refine Below.drew ?_) | (refine below_drewN ?_ _) | (refine below_after (Ext.below _) ?_ ?_) | (refine below_after (by assumption) ?_ ?_) | (simp; done) | omega | (simp; omega)))⟩
end Go.Proofs.YtobbkclfbbblaaaDoor
