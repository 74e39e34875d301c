/- The contract of the reference's Same of chapter 03. -/
import Derived.Test.YtnhnkmppmicjoaaProg
import Derived.Test.YtnhnkmppmicjoaaEq
import Derived.Test.YtnhnkmppmicjoaaRd
import Derived.Test.YtnhnkmppmicjoaaPtsP
namespace Go.Proofs.Ytnhnkmppmicjoaa
open Go Go.RowKit
set_option linter.unusedSimpArgs false
set_option linter.unusedVariables false
set_option maxRecDepth 100000
attribute [local go_sem ↓ high] eq_pt neq_pt
theorem same_ne_pt {l r : List (Int × Int)} {j : Nat} {a b a' b' : Int} (hx : l[j]? = some (a, b)) (hy : r[j]? = some (a', b')) (h : ¬(a = a' ∧ b = b')) : sameL l r = false :=
  sameL_ne hx hy (fun e => h (by injection e with e1 e2; exact ⟨e1, e2⟩))
set_option maxHeartbeats 400000 in
theorem ref03_Same (A B : Option Addr) (n m c d : Nat) (l r : List (Int × Int)) (w : World) (hR : Rd encP 2 w A n l) (hS : Rd encP 2 w B m r) (hn : n ≤ 1000000) :
    Calls Try.prog 19 #[.slice A n c, .slice B m d] w fun e w' => e = .returned (.bool (sameL l r)) ∧ Below w.heap.size w w' := by
  by_cases hnm : n = m
  · subst hnm
    go_enter Try.func19, Try.ntmps19
    go_wp2
    go_loopw [5] (fun i wr => ∃ j : Nat, j ≤ n ∧ i = .int .i64 j ∧ Below w.heap.size w wr ∧ Hid (∀ i, i < j → l[i]? = r[i]?)) (fun i _ => n - (intOf i).toNat)
    case atStart => exact ⟨0, by omega, rfl, Below.refl _ _, fun r hr => absurd hr (by omega)⟩
    case round =>
      obtain ⟨j, hj, rfl, hb, hno⟩ := hrel
      obtain ⟨hc, hf⟩ := bcell hb
      have hs := hb.size
      by_cases hlt : j < n
      · obtain ⟨a, b, bo, o, hx, rfl, hbl, hcell, hcell2⟩ := hR.pt hlt
        obtain ⟨a', b', bo', o', hy, rfl, hbl', hcell', hcell2'⟩ := hS.pt hlt
        by_cases hq : a = a' ∧ b = b'
        · obtain ⟨rfl, rfl⟩ := hq
          go_wp2
          (refine wp_region_ext_lit (by kernel_rfl) (by kernel_rfl) ?_; (repeat (go_big_quiet_step (fail))); refine wpQuiet_nil ?_; intro _ hw'; obtain ⟨z1, hw''⟩ := hw'; subst hw''; have hs1 := z1.size; obtain ⟨hc1, hf1⟩ := bcell z1.below; (try simp only [World.size_alloc, World.size_setCell, World.size_drew] at hc1 hf1); (try simp at hs1))
          go_wp2
          go_roundw
          case rel => exact ⟨j + 1, by omega, by go_num, (by (repeat' (first | exact Below.refl _ _ | assumption | (refine Below.alloc ?_ ?_ _) | (refine Below.setCell ?_ ?_ _) | (refine Below.drew ?_) | (refine below_drewN ?_ _) | (refine below_after (Ext.below _) ?_ ?_) | (refine below_after (by assumption) ?_ ?_) | (simp; done) | omega | (simp; omega)))), same_step hno.out (hx.out.trans hy.out.symm)⟩
          case measure => simp [intOf]; omega
        · have hq' : decide (a = a' ∧ b = b') = false := decide_eq_false hq
          have HQ := Lib.hid hq
          clear hq
          go_wp2
          (refine wp_region_ext_lit (by kernel_rfl) (by kernel_rfl) ?_; (repeat (go_big_quiet_step (fail))); refine wpQuiet_nil ?_; intro _ hw'; obtain ⟨z1, hw''⟩ := hw'; subst hw''; have hs1 := z1.size; obtain ⟨hc1, hf1⟩ := bcell z1.below; (try simp only [World.size_alloc, World.size_setCell, World.size_drew] at hc1 hf1); (try simp at hs1))
          go_wp2
          go_ret
          exact ⟨ret_bool (same_ne_pt hx.out hy.out HQ.out).symm, by (repeat' (first | exact Below.refl _ _ | assumption | (refine Below.alloc ?_ ?_ _) | (refine Below.setCell ?_ ?_ _) | (refine Below.drew ?_) | (refine below_drewN ?_ _) | (refine below_after (Ext.below _) ?_ ?_) | (refine below_after (by assumption) ?_ ?_) | (simp; done) | omega | (simp; omega)))⟩
      · obtain rfl : j = n := by omega
        go_wp2
        go_ret
        exact ⟨ret_bool (sameL_all hR.len hS.len hno.out).symm, by (repeat' (first | exact Below.refl _ _ | assumption | (refine Below.alloc ?_ ?_ _) | (refine Below.setCell ?_ ?_ _) | (refine Below.drew ?_) | (refine below_drewN ?_ _) | (refine below_after (Ext.below _) ?_ ?_) | (refine below_after (by assumption) ?_ ?_) | (simp; done) | omega | (simp; omega)))⟩
  · have hq : ((n : Int) != (m : Int)) = true := by simp; omega
    have hq2 : ((n : Int) == (m : Int)) = false := by simp; omega
    have hlen := Lib.hid (sameL_len hR.len hS.len hnm)
    clear hnm
    go_enter Try.func19, Try.ntmps19
    go_wp2
    go_ret
    exact ⟨ret_bool hlen.out.symm, Below.refl _ _⟩
end Go.Proofs.Ytnhnkmppmicjoaa
