/- Contracts of hood.Same and of the reference's Same and Index of chapter 07. The contracts of hood.Right and of the reference's Right. The contracts of Radius and Centre, of hood and of its reference. The contracts of hood.collect at its three predicates, and of Moore, Neumann and Hex of hood. -/
import Derived.Test.YtellglbmbocgkaaGreatDoorPts
import Derived.Test.YtellglbmbocgkaaGreatDoorCEL
import Derived.Test.YtellglbmbocgkaaGreatDoorMEM
import Derived.Laws.Tables
import Derived.StillTail
set_option linter.unusedSimpArgs false
set_option linter.unusedVariables false
section
namespace Go.Proofs.YtellglbmbocgkaaGreatDoor
open Go Go.RowKit
set_option maxRecDepth 100000
attribute [local go_sem ↓ high] eq_pt neq_pt
theorem same_ne_pt {l r : List (Int × Int)} {j : Nat} {a b a' b' : Int} (hx : l[j]? = some (a, b)) (hy : r[j]? = some (a', b')) (h : ¬(a = a' ∧ b = b')) : sameL l r = false :=
  sameL_ne hx hy (fun e => h (by injection e with e1 e2; exact ⟨e1, e2⟩))
set_option maxHeartbeats 400000 in
theorem slices_EqualP (A B : Option Addr) (n m c d : Nat) (l r : List (Int × Int)) (w : World) (hR : Rd encP 2 w A n l) (hS : Rd encP 2 w B m r) (hn : n ≤ 1000000) :
    Calls Tryz.prog 255 #[.slice A n c, .slice B m d] w fun e w' => e = .returned (.bool (sameL l r)) ∧ Below w.heap.size w w' := by
  by_cases hnm : n = m
  · subst hnm
    go_enter Tryz.func255, Tryz.ntmps255
    go_wp2
    go_loopw [13] (fun i wr => ∃ j : Nat, j ≤ n ∧ i = .int .i64 j ∧ Below w.heap.size w wr ∧ Hid (∀ i, i < j → l[i]? = r[i]?)) (fun i _ => n - (intOf i).toNat)
    case atStart => exact ⟨0, by omega, rfl, Below.refl _ _, fun r hr => absurd hr (by omega)⟩
    case round =>
      obtain ⟨j, hj, rfl, hb, hno⟩ := hrel
      obtain ⟨hc, hf⟩ := bcell hb
      have hs := hb.size
      by_cases hlt : j < n
      · obtain ⟨a, b, bo, o, hx, rfl, hbl, hcell, hcell2⟩ := hR.pt hlt
        obtain ⟨a', b', bo', o', hy, rfl, hbl', hcell', hcell2'⟩ := hS.pt hlt
        by_cases hq : a = a' ∧ b = b'
        · obtain ⟨rfl, rfl⟩ := hq
          go_wp2
          (refine wp_region_ext_lit (by kernel_rfl) (by kernel_rfl) ?_; (repeat (go_big_quiet_step (fail))); refine wpQuiet_nil ?_; intro _ hw'; obtain ⟨z1, hw''⟩ := hw'; subst hw''; have hs1 := z1.size; obtain ⟨hc1, hf1⟩ := bcell z1.below; (try simp only [World.size_alloc, World.size_setCell, World.size_drew] at hc1 hf1); (try simp at hs1))
          go_wp2
          go_roundw
          case rel => exact ⟨j + 1, by omega, by go_num, (by (repeat' (first | exact Below.refl _ _ | assumption | (refine Below.alloc ?_ ?_ _) | (refine Below.setCell ?_ ?_ _) | (refine Below.drew ?_) | (refine below_drewN ?_ _) | (refine below_after (Ext.below _) ?_ ?_) | (refine below_after (by assumption) ?_ ?_) | (simp; done) | omega | (simp; omega)))), same_step hno.out (hx.out.trans hy.out.symm)⟩
          case measure => simp [intOf]; omega
        · have hq' : decide (a = a' ∧ b = b') = false := decide_eq_false hq
          have HQ := Lib.hid hq
          clear hq
          go_wp2
          (refine wp_region_ext_lit (by kernel_rfl) (by kernel_rfl) ?_; (repeat (go_big_quiet_step (fail))); refine wpQuiet_nil ?_; intro _ hw'; obtain ⟨z1, hw''⟩ := hw'; subst hw''; have hs1 := z1.size; obtain ⟨hc1, hf1⟩ := bcell z1.below; (try simp only [World.size_alloc, World.size_setCell, World.size_drew] at hc1 hf1); (try simp at hs1))
          go_wp2
          go_ret
          exact ⟨ret_bool (same_ne_pt hx.out hy.out HQ.out).symm, by (repeat' (first | exact Below.refl _ _ | assumption | (refine Below.alloc ?_ ?_ _) | (refine Below.setCell ?_ ?_ _) | (refine Below.drew ?_) | (refine below_drewN ?_ _) | (refine below_after (Ext.below _) ?_ ?_) | (refine below_after (by assumption) ?_ ?_) | (simp; done) | omega | (simp; omega)))⟩
      · obtain rfl : j = n := by omega
        go_wp2
        go_ret
        exact ⟨ret_bool (sameL_all hR.len hS.len hno.out).symm, by (repeat' (first | exact Below.refl _ _ | assumption | (refine Below.alloc ?_ ?_ _) | (refine Below.setCell ?_ ?_ _) | (refine Below.drew ?_) | (refine below_drewN ?_ _) | (refine below_after (Ext.below _) ?_ ?_) | (refine below_after (by assumption) ?_ ?_) | (simp; done) | omega | (simp; omega)))⟩
  · have hq : ((n : Int) != (m : Int)) = true := by simp; omega
    have hq2 : ((n : Int) == (m : Int)) = false := by simp; omega
    have hlen := Lib.hid (sameL_len hR.len hS.len hnm)
    clear hnm
    go_enter Tryz.func255, Tryz.ntmps255
    go_wp2
    go_ret
    exact ⟨ret_bool hlen.out.symm, Below.refl _ _⟩
theorem hood_Same (A B : Option Addr) (n m c d : Nat) (l r : List (Int × Int)) (w : World) (hR : Rd encP 2 w A n l) (hS : Rd encP 2 w B m r) (hn : n ≤ 1000000) :
    Calls Tryz.prog 214 #[.slice A n c, .slice B m d] w fun e w' => e = .returned (.bool (sameL l r)) ∧ Below w.heap.size w w' := by
  go_enter Tryz.func214, Tryz.ntmps214
  go_wp2_with (first | (go_at_call 255; refine (slices_EqualP _ _ _ _ _ _ _ _ _ hR hS hn).mono ?_; rintro e w1 ⟨rfl, hb1⟩; obtain ⟨hc1, hf1⟩ := bcell hb1; have hs1 := hb1.size; (try simp only [World.size_alloc, World.size_setCell, World.size_drew] at hc1 hf1); (try simp at hs1)))
  go_ret
  exact ⟨rfl, hb1⟩
end Go.Proofs.YtellglbmbocgkaaGreatDoor
end
section
namespace Go.Proofs.YtellglbmbocgkaaGreatDoor
open Go Go.RowKit
set_option maxRecDepth 100000
attribute [local go_sem ↓ high] eq_pt neq_pt
theorem range_cases (x y : Int) : (decide (x < -2) = true) ∨ (decide (x < -2) = false ∧ decide (2 < x) = true) ∨ (decide (x < -2) = false ∧ decide (2 < x) = false ∧ decide (y < -2) = true) ∨
    (decide (x < -2) = false ∧ decide (2 < x) = false ∧ decide (y < -2) = false ∧ decide (2 < y) = true) ∨ (decide (x < -2) = false ∧ decide (2 < x) = false ∧ decide (y < -2) = false ∧ decide (2 < y) = false) := by
  simp only [decide_eq_true_eq, decide_eq_false_iff_not]; omega
set_option maxHeartbeats 1000000 in
theorem hood_Right_round (A : Option Addr) (n c : Nat) (l : List (Int × Int)) (w : World) (hR : Rd encP 2 w A n l) (h1 : 1 ≤ n) (h25 : n ≤ 25) :
    Calls Tryz.prog 138 #[.slice A n c] w fun e w' => e = .returned (.bool (rightL l)) ∧ Below w.heap.size w w' := by
  go_enter Tryz.func138, Tryz.ntmps138
  go_wp2
  go_loopw [15] (fun i wr => ∃ j : Nat, j ≤ n ∧ i = .int .i64 j ∧ Below w.heap.size w wr ∧ Hid (∀ r, r < j → okAt l r = true)) (fun i _ => n - (intOf i).toNat)
  case atStart => exact ⟨0, by omega, rfl, Below.refl _ _, fun r hr => absurd hr (by omega)⟩
  case round =>
    obtain ⟨j, hj, rfl, hb, hno⟩ := hrel
    obtain ⟨hc, hf⟩ := bcell hb
    have hs := hb.size
    by_cases hlt : j < n
    · obtain ⟨x, y, bo, o, hx, rfl, hbl, hcell, hcell2⟩ := hR.pt hlt
      have hbad := fun h => Lib.hid (rightL_bad hR.len hlt (okAt_out hx.out h))
      rcases range_cases x y with d1 | ⟨d1, d2⟩ | ⟨d1, d2, d3⟩ | ⟨d1, d2, d3, d4⟩ | ⟨d1, d2, d3, d4⟩
      · have hbd := hbad (.inl (of_decide_eq_true d1))
        clear hbad
        go_wp2
        (refine wp_region_ext_lit (by kernel_rfl) (by kernel_rfl) ?_; (repeat (go_big_quiet_step (fail))); refine wpQuiet_nil ?_; intro _ hw'; obtain ⟨z1, hw''⟩ := hw'; subst hw''; have hs1 := z1.size; obtain ⟨hc1, hf1⟩ := bcell z1.below; (try simp only [World.size_alloc, World.size_setCell, World.size_drew] at hc1 hf1); (try simp at hs1))
        go_wp2
        go_ret
        exact ⟨ret_bool hbd.out.symm, by (repeat' (first | exact Below.refl _ _ | assumption | (refine Below.alloc ?_ ?_ _) | (refine Below.setCell ?_ ?_ _) | (refine Below.drew ?_) | (refine below_drewN ?_ _) | (refine below_after (Ext.below _) ?_ ?_) | (refine below_after (by assumption) ?_ ?_) | (simp; done) | omega | (simp; omega)))⟩
      · have hbd := hbad (.inr (.inl (of_decide_eq_true d2)))
        clear hbad
        go_wp2
        (refine wp_region_ext_lit (by kernel_rfl) (by kernel_rfl) ?_; (repeat (go_big_quiet_step (fail))); refine wpQuiet_nil ?_; intro _ hw'; obtain ⟨z1, hw''⟩ := hw'; subst hw''; have hs1 := z1.size; obtain ⟨hc1, hf1⟩ := bcell z1.below; (try simp only [World.size_alloc, World.size_setCell, World.size_drew] at hc1 hf1); (try simp at hs1))
        go_wp2
        go_ret
        exact ⟨ret_bool hbd.out.symm, by (repeat' (first | exact Below.refl _ _ | assumption | (refine Below.alloc ?_ ?_ _) | (refine Below.setCell ?_ ?_ _) | (refine Below.drew ?_) | (refine below_drewN ?_ _) | (refine below_after (Ext.below _) ?_ ?_) | (refine below_after (by assumption) ?_ ?_) | (simp; done) | omega | (simp; omega)))⟩
      · have hbd := hbad (.inr (.inr (.inl (of_decide_eq_true d3))))
        clear hbad
        go_wp2
        (refine wp_region_ext_lit (by kernel_rfl) (by kernel_rfl) ?_; (repeat (go_big_quiet_step (fail))); refine wpQuiet_nil ?_; intro _ hw'; obtain ⟨z1, hw''⟩ := hw'; subst hw''; have hs1 := z1.size; obtain ⟨hc1, hf1⟩ := bcell z1.below; (try simp only [World.size_alloc, World.size_setCell, World.size_drew] at hc1 hf1); (try simp at hs1))
        go_wp2
        go_ret
        exact ⟨ret_bool hbd.out.symm, by (repeat' (first | exact Below.refl _ _ | assumption | (refine Below.alloc ?_ ?_ _) | (refine Below.setCell ?_ ?_ _) | (refine Below.drew ?_) | (refine below_drewN ?_ _) | (refine below_after (Ext.below _) ?_ ?_) | (refine below_after (by assumption) ?_ ?_) | (simp; done) | omega | (simp; omega)))⟩
      · have hbd := hbad (.inr (.inr (.inr (of_decide_eq_true d4))))
        clear hbad
        go_wp2
        (refine wp_region_ext_lit (by kernel_rfl) (by kernel_rfl) ?_; (repeat (go_big_quiet_step (fail))); refine wpQuiet_nil ?_; intro _ hw'; obtain ⟨z1, hw''⟩ := hw'; subst hw''; have hs1 := z1.size; obtain ⟨hc1, hf1⟩ := bcell z1.below; (try simp only [World.size_alloc, World.size_setCell, World.size_drew] at hc1 hf1); (try simp at hs1))
        go_wp2
        go_ret
        exact ⟨ret_bool hbd.out.symm, by (repeat' (first | exact Below.refl _ _ | assumption | (refine Below.alloc ?_ ?_ _) | (refine Below.setCell ?_ ?_ _) | (refine Below.drew ?_) | (refine below_drewN ?_ _) | (refine below_after (Ext.below _) ?_ ?_) | (refine below_after (by assumption) ?_ ?_) | (simp; done) | omega | (simp; omega)))⟩
      have hin : -2 ≤ x ∧ x ≤ 2 ∧ -2 ≤ y ∧ y ≤ 2 := by
        have := of_decide_eq_false d1; have := of_decide_eq_false d2; have := of_decide_eq_false d3; have := of_decide_eq_false d4; omega
      clear hbad
      rcases Nat.eq_zero_or_pos j with rfl | hj0
      · have hok := Lib.hid (ok_step hno.out (okAt_first hx.out hin))
        clear hin
        simp only [Nat.zero_mul, Nat.add_zero] at hcell hcell2
        go_wp2
        (refine wp_region_ext_lit (by kernel_rfl) (by kernel_rfl) ?_; (repeat (go_big_quiet_step (fail))); refine wpQuiet_nil ?_; intro _ hw'; obtain ⟨z1, hw''⟩ := hw'; subst hw''; have hs1 := z1.size; obtain ⟨hc1, hf1⟩ := bcell z1.below; (try simp only [World.size_alloc, World.size_setCell, World.size_drew] at hc1 hf1); (try simp at hs1))
        go_wp2
        go_roundw
        case rel => exact ⟨1, by omega, by go_num, (by (repeat' (first | exact Below.refl _ _ | assumption | (refine Below.alloc ?_ ?_ _) | (refine Below.setCell ?_ ?_ _) | (refine Below.drew ?_) | (refine below_drewN ?_ _) | (refine below_after (Ext.below _) ?_ ?_) | (refine below_after (by assumption) ?_ ?_) | (simp; done) | omega | (simp; omega)))), hok.out⟩
        case measure => simp [intOf]; omega
      · obtain ⟨i, rfl⟩ := Nat.exists_eq_add_of_le' hj0
        obtain ⟨a, b, bo', o', hp, he, hbl', hcell', hcell2'⟩ := hR.pt (i := i) (by omega)
        obtain ⟨rfl, rfl⟩ : bo = bo' ∧ o = o' := by injection he with he; injection he with e1 e2; exact ⟨e1, e2⟩
        have hok := Lib.hid (okAt_next hj0 hx.out hp.out hin)
        have hcb := cmpP_bef a b x y
        have d5 : decide (0 < ((i : Int) + 1)) = true := decide_eq_true (by omega)
        clear hin he
        cases hbf : befP a b x y with
        | true =>
          rw [hbf] at hcb hok
          have hcb' : decide (0 ≤ cmpP a b x y) = false := hcb
          clear hcb hbf
          have hnx := Lib.hid (ok_step hno.out hok.out)
          go_wp2
          (refine wp_region_ext_lit (by kernel_rfl) (by kernel_rfl) ?_; (repeat (go_big_quiet_step (first | (go_at_call 141; exact calls_ext (point_Compare _ _ _ _ _))))); refine wpQuiet_nil ?_; intro _ hw'; obtain ⟨z1, hw''⟩ := hw'; subst hw''; have hs1 := z1.size; obtain ⟨hc1, hf1⟩ := bcell z1.below; (try simp only [World.size_alloc, World.size_setCell, World.size_drew] at hc1 hf1); (try simp at hs1))
          go_wp2
          go_roundw
          case rel => exact ⟨i + 1 + 1, by omega, by go_num, (by (repeat' (first | exact Below.refl _ _ | assumption | (refine Below.alloc ?_ ?_ _) | (refine Below.setCell ?_ ?_ _) | (refine Below.drew ?_) | (refine below_drewN ?_ _) | (refine below_after (Ext.below _) ?_ ?_) | (refine below_after (by assumption) ?_ ?_) | (simp; done) | omega | (simp; omega)))), hnx.out⟩
          case measure => simp [intOf]; omega
        | false =>
          rw [hbf] at hcb hok
          have hcb' : decide (0 ≤ cmpP a b x y) = true := hcb
          clear hcb hbf
          have hbd := Lib.hid (rightL_bad hR.len hlt hok.out)
          go_wp2
          (refine wp_region_ext_lit (by kernel_rfl) (by kernel_rfl) ?_; (repeat (go_big_quiet_step (first | (go_at_call 141; exact calls_ext (point_Compare _ _ _ _ _))))); refine wpQuiet_nil ?_; intro _ hw'; obtain ⟨z1, hw''⟩ := hw'; subst hw''; have hs1 := z1.size; obtain ⟨hc1, hf1⟩ := bcell z1.below; (try simp only [World.size_alloc, World.size_setCell, World.size_drew] at hc1 hf1); (try simp at hs1))
          go_wp2
          go_ret
          exact ⟨ret_bool hbd.out.symm, by (repeat' (first | exact Below.refl _ _ | assumption | (refine Below.alloc ?_ ?_ _) | (refine Below.setCell ?_ ?_ _) | (refine Below.drew ?_) | (refine below_drewN ?_ _) | (refine below_after (Ext.below _) ?_ ?_) | (refine below_after (by assumption) ?_ ?_) | (simp; done) | omega | (simp; omega)))⟩
    · obtain rfl : j = n := by omega
      have hall := Lib.hid (rightL_all hR.len h1 h25 hno.out)
      go_wp2
      go_ret
      exact ⟨ret_bool hall.out.symm, by (repeat' (first | exact Below.refl _ _ | assumption | (refine Below.alloc ?_ ?_ _) | (refine Below.setCell ?_ ?_ _) | (refine Below.drew ?_) | (refine below_drewN ?_ _) | (refine below_after (Ext.below _) ?_ ?_) | (refine below_after (by assumption) ?_ ?_) | (simp; done) | omega | (simp; omega)))⟩
theorem hood_Right (A : Option Addr) (n c : Nat) (l : List (Int × Int)) (w : World) (hR : Rd encP 2 w A n l) :
    Calls Tryz.prog 138 #[.slice A n c] w fun e w' => e = .returned (.bool (rightL l)) ∧ Below w.heap.size w w' := by
  by_cases h1 : n < 1
  · have hbd := Lib.hid (rightL_len hR.len (.inl h1))
    have d1 : decide ((n : Int) < 1) = true := decide_eq_true (by omega)
    go_enter Tryz.func138, Tryz.ntmps138
    go_wp2
    go_ret
    exact ⟨ret_bool hbd.out.symm, Below.refl _ _⟩
  by_cases h2 : 25 < n
  · have hbd := Lib.hid (rightL_len hR.len (.inr h2))
    have d1 : decide ((n : Int) < 1) = false := decide_eq_false (by omega)
    have d2 : decide (25 < (n : Int)) = true := decide_eq_true (by omega)
    go_enter Tryz.func138, Tryz.ntmps138
    go_wp2
    go_ret
    exact ⟨ret_bool hbd.out.symm, Below.refl _ _⟩
  exact hood_Right_round A n c l w hR (by omega) (by omega)
theorem ref_before (ax ay bx bx' : Int) (w : World) {r : Bool} (h : befP ax ay bx bx' = r) : Calls Tryz.prog 199 #[.agg #[.int .i64 ax, .int .i64 ay], .agg #[.int .i64 bx, .int .i64 bx']] w fun e w' => e = .returned (.bool r) ∧ Below w.heap.size w w' := by
  rw [← h]
  have hbef := Lib.hid (show befP ax ay bx bx' = (decide (ay < bx') || (decide (ay = bx') && decide (ax < bx))) by unfold befP; simp)
  clear h
  go_enter Tryz.func199, Tryz.ntmps199
  go_wp2
  all_goals
    go_ret
    exact ⟨ret_bool (by rw [hbef.out]; simp [*]), by (repeat' (first | exact Below.refl _ _ | assumption | (refine Below.alloc ?_ ?_ _) | (refine Below.setCell ?_ ?_ _) | (refine Below.drew ?_) | (refine below_drewN ?_ _) | (refine below_after (Ext.below _) ?_ ?_) | (refine below_after (by assumption) ?_ ?_) | (simp; done) | omega | (simp; omega)))⟩
set_option maxHeartbeats 1000000 in
theorem ref_Right7_round (A : Option Addr) (n c : Nat) (l : List (Int × Int)) (w : World) (hR : Rd encP 2 w A n l) (h1 : 1 ≤ n) (h25 : n ≤ 25) :
    Calls Tryz.prog 142 #[.slice A n c] w fun e w' => e = .returned (.bool (rightL l)) ∧ Below w.heap.size w w' := by
  go_enter Tryz.func142, Tryz.ntmps142
  go_wp2
  go_loopw [3] (fun i wr => ∃ j : Nat, j ≤ n ∧ i = .int .i64 j ∧ Below w.heap.size w wr ∧ Hid (∀ r, r < j → okAt l r = true)) (fun i _ => n - (intOf i).toNat)
  case atStart => exact ⟨0, by omega, rfl, Below.refl _ _, fun r hr => absurd hr (by omega)⟩
  case round =>
    obtain ⟨j, hj, rfl, hb, hno⟩ := hrel
    obtain ⟨hc, hf⟩ := bcell hb
    have hs := hb.size
    by_cases hlt : j < n
    · obtain ⟨x, y, bo, o, hx, rfl, hbl, hcell, hcell2⟩ := hR.pt hlt
      have hbad := fun h => Lib.hid (rightL_bad hR.len hlt (okAt_out hx.out h))
      rcases range_cases x y with d1 | ⟨d1, d2⟩ | ⟨d1, d2, d3⟩ | ⟨d1, d2, d3, d4⟩ | ⟨d1, d2, d3, d4⟩
      · have hbd := hbad (.inl (of_decide_eq_true d1))
        clear hbad
        go_wp2
        (refine wp_region_ext_lit (by kernel_rfl) (by kernel_rfl) ?_; (repeat (go_big_quiet_step (fail))); refine wpQuiet_nil ?_; intro _ hw'; obtain ⟨z1, hw''⟩ := hw'; subst hw''; have hs1 := z1.size; obtain ⟨hc1, hf1⟩ := bcell z1.below; (try simp only [World.size_alloc, World.size_setCell, World.size_drew] at hc1 hf1); (try simp at hs1))
        go_wp2
        go_ret
        exact ⟨ret_bool hbd.out.symm, by (repeat' (first | exact Below.refl _ _ | assumption | (refine Below.alloc ?_ ?_ _) | (refine Below.setCell ?_ ?_ _) | (refine Below.drew ?_) | (refine below_drewN ?_ _) | (refine below_after (Ext.below _) ?_ ?_) | (refine below_after (by assumption) ?_ ?_) | (simp; done) | omega | (simp; omega)))⟩
      · have hbd := hbad (.inr (.inl (of_decide_eq_true d2)))
        clear hbad
        go_wp2
        (refine wp_region_ext_lit (by kernel_rfl) (by kernel_rfl) ?_; (repeat (go_big_quiet_step (fail))); refine wpQuiet_nil ?_; intro _ hw'; obtain ⟨z1, hw''⟩ := hw'; subst hw''; have hs1 := z1.size; obtain ⟨hc1, hf1⟩ := bcell z1.below; (try simp only [World.size_alloc, World.size_setCell, World.size_drew] at hc1 hf1); (try simp at hs1))
        go_wp2
        go_ret
        exact ⟨ret_bool hbd.out.symm, by (repeat' (first | exact Below.refl _ _ | assumption | (refine Below.alloc ?_ ?_ _) | (refine Below.setCell ?_ ?_ _) | (refine Below.drew ?_) | (refine below_drewN ?_ _) | (refine below_after (Ext.below _) ?_ ?_) | (refine below_after (by assumption) ?_ ?_) | (simp; done) | omega | (simp; omega)))⟩
      · have hbd := hbad (.inr (.inr (.inl (of_decide_eq_true d3))))
        clear hbad
        go_wp2
        (refine wp_region_ext_lit (by kernel_rfl) (by kernel_rfl) ?_; (repeat (go_big_quiet_step (fail))); refine wpQuiet_nil ?_; intro _ hw'; obtain ⟨z1, hw''⟩ := hw'; subst hw''; have hs1 := z1.size; obtain ⟨hc1, hf1⟩ := bcell z1.below; (try simp only [World.size_alloc, World.size_setCell, World.size_drew] at hc1 hf1); (try simp at hs1))
        go_wp2
        go_ret
        exact ⟨ret_bool hbd.out.symm, by (repeat' (first | exact Below.refl _ _ | assumption | (refine Below.alloc ?_ ?_ _) | (refine Below.setCell ?_ ?_ _) | (refine Below.drew ?_) | (refine below_drewN ?_ _) | (refine below_after (Ext.below _) ?_ ?_) | (refine below_after (by assumption) ?_ ?_) | (simp; done) | omega | (simp; omega)))⟩
      · have hbd := hbad (.inr (.inr (.inr (of_decide_eq_true d4))))
        clear hbad
        go_wp2
        (refine wp_region_ext_lit (by kernel_rfl) (by kernel_rfl) ?_; (repeat (go_big_quiet_step (fail))); refine wpQuiet_nil ?_; intro _ hw'; obtain ⟨z1, hw''⟩ := hw'; subst hw''; have hs1 := z1.size; obtain ⟨hc1, hf1⟩ := bcell z1.below; (try simp only [World.size_alloc, World.size_setCell, World.size_drew] at hc1 hf1); (try simp at hs1))
        go_wp2
        go_ret
        exact ⟨ret_bool hbd.out.symm, by (repeat' (first | exact Below.refl _ _ | assumption | (refine Below.alloc ?_ ?_ _) | (refine Below.setCell ?_ ?_ _) | (refine Below.drew ?_) | (refine below_drewN ?_ _) | (refine below_after (Ext.below _) ?_ ?_) | (refine below_after (by assumption) ?_ ?_) | (simp; done) | omega | (simp; omega)))⟩
      have hin : -2 ≤ x ∧ x ≤ 2 ∧ -2 ≤ y ∧ y ≤ 2 := by
        have := of_decide_eq_false d1; have := of_decide_eq_false d2; have := of_decide_eq_false d3; have := of_decide_eq_false d4; omega
      clear hbad
      rcases Nat.eq_zero_or_pos j with rfl | hj0
      · have hok := Lib.hid (ok_step hno.out (okAt_first hx.out hin))
        clear hin
        simp only [Nat.zero_mul, Nat.add_zero] at hcell hcell2
        go_wp2
        (refine wp_region_ext_lit (by kernel_rfl) (by kernel_rfl) ?_; (repeat (go_big_quiet_step (fail))); refine wpQuiet_nil ?_; intro _ hw'; obtain ⟨z1, hw''⟩ := hw'; subst hw''; have hs1 := z1.size; obtain ⟨hc1, hf1⟩ := bcell z1.below; (try simp only [World.size_alloc, World.size_setCell, World.size_drew] at hc1 hf1); (try simp at hs1))
        go_wp2
        go_roundw
        case rel => exact ⟨1, by omega, by go_num, (by (repeat' (first | exact Below.refl _ _ | assumption | (refine Below.alloc ?_ ?_ _) | (refine Below.setCell ?_ ?_ _) | (refine Below.drew ?_) | (refine below_drewN ?_ _) | (refine below_after (Ext.below _) ?_ ?_) | (refine below_after (by assumption) ?_ ?_) | (simp; done) | omega | (simp; omega)))), hok.out⟩
        case measure => simp [intOf]; omega
      · obtain ⟨i, rfl⟩ := Nat.exists_eq_add_of_le' hj0
        obtain ⟨a, b, bo', o', hp, he, hbl', hcell', hcell2'⟩ := hR.pt (i := i) (by omega)
        obtain ⟨rfl, rfl⟩ : bo = bo' ∧ o = o' := by injection he with he; injection he with e1 e2; exact ⟨e1, e2⟩
        have hok := Lib.hid (okAt_next hj0 hx.out hp.out hin)
        have d5 : decide (0 < ((i : Int) + 1)) = true := decide_eq_true (by omega)
        clear hin he
        cases hbf : befP a b x y with
        | true =>
          rw [hbf] at hok
          have hnx := Lib.hid (ok_step hno.out hok.out)
          go_wp2
          (refine wp_region_ext_lit (by kernel_rfl) (by kernel_rfl) ?_; (repeat (go_big_quiet_step (first | (go_at_call 199; exact calls_ext (ref_before _ _ _ _ _ hbf))))); refine wpQuiet_nil ?_; intro _ hw'; obtain ⟨z1, hw''⟩ := hw'; subst hw''; have hs1 := z1.size; obtain ⟨hc1, hf1⟩ := bcell z1.below; (try simp only [World.size_alloc, World.size_setCell, World.size_drew] at hc1 hf1); (try simp at hs1))
          go_wp2
          go_roundw
          case rel => exact ⟨i + 1 + 1, by omega, by go_num, (by (repeat' (first | exact Below.refl _ _ | assumption | (refine Below.alloc ?_ ?_ _) | (refine Below.setCell ?_ ?_ _) | (refine Below.drew ?_) | (refine below_drewN ?_ _) | (refine below_after (Ext.below _) ?_ ?_) | (refine below_after (by assumption) ?_ ?_) | (simp; done) | omega | (simp; omega)))), hnx.out⟩
          case measure => simp [intOf]; omega
        | false =>
          rw [hbf] at hok
          have hbd := Lib.hid (rightL_bad hR.len hlt hok.out)
          go_wp2
          (refine wp_region_ext_lit (by kernel_rfl) (by kernel_rfl) ?_; (repeat (go_big_quiet_step (first | (go_at_call 199; exact calls_ext (ref_before _ _ _ _ _ hbf))))); refine wpQuiet_nil ?_; intro _ hw'; obtain ⟨z1, hw''⟩ := hw'; subst hw''; have hs1 := z1.size; obtain ⟨hc1, hf1⟩ := bcell z1.below; (try simp only [World.size_alloc, World.size_setCell, World.size_drew] at hc1 hf1); (try simp at hs1))
          go_wp2
          go_ret
          exact ⟨ret_bool hbd.out.symm, by (repeat' (first | exact Below.refl _ _ | assumption | (refine Below.alloc ?_ ?_ _) | (refine Below.setCell ?_ ?_ _) | (refine Below.drew ?_) | (refine below_drewN ?_ _) | (refine below_after (Ext.below _) ?_ ?_) | (refine below_after (by assumption) ?_ ?_) | (simp; done) | omega | (simp; omega)))⟩
    · obtain rfl : j = n := by omega
      have hall := Lib.hid (rightL_all hR.len h1 h25 hno.out)
      go_wp2
      go_ret
      exact ⟨ret_bool hall.out.symm, by (repeat' (first | exact Below.refl _ _ | assumption | (refine Below.alloc ?_ ?_ _) | (refine Below.setCell ?_ ?_ _) | (refine Below.drew ?_) | (refine below_drewN ?_ _) | (refine below_after (Ext.below _) ?_ ?_) | (refine below_after (by assumption) ?_ ?_) | (simp; done) | omega | (simp; omega)))⟩
theorem ref_Right7 (A : Option Addr) (n c : Nat) (l : List (Int × Int)) (w : World) (hR : Rd encP 2 w A n l) :
    Calls Tryz.prog 142 #[.slice A n c] w fun e w' => e = .returned (.bool (rightL l)) ∧ Below w.heap.size w w' := by
  by_cases h1 : n < 1
  · have hbd := Lib.hid (rightL_len hR.len (.inl h1))
    have d1 : decide ((n : Int) < 1) = true := decide_eq_true (by omega)
    go_enter Tryz.func142, Tryz.ntmps142
    go_wp2
    go_ret
    exact ⟨ret_bool hbd.out.symm, Below.refl _ _⟩
  by_cases h2 : 25 < n
  · have hbd := Lib.hid (rightL_len hR.len (.inr h2))
    have d1 : decide ((n : Int) < 1) = false := decide_eq_false (by omega)
    have d2 : decide (25 < (n : Int)) = true := decide_eq_true (by omega)
    go_enter Tryz.func142, Tryz.ntmps142
    go_wp2
    go_ret
    exact ⟨ret_bool hbd.out.symm, Below.refl _ _⟩
  exact ref_Right7_round A n c l w hR (by omega) (by omega)
end Go.Proofs.YtellglbmbocgkaaGreatDoor
end
section
namespace Go.Proofs.YtellglbmbocgkaaGreatDoor
open Go Go.RowKit
set_option maxRecDepth 100000
attribute [local go_sem ↓ high] eq_pt neq_pt
def centL (l : List (Int × Int)) : Int := if rightL l = true then idxP l 0 0 else -1
theorem hood_Centre (A : Option Addr) (n c : Nat) (l : List (Int × Int)) (w : World) (hR : Rd encP 2 w A n l) (hn : n ≤ 1000000) :
    Calls Tryz.prog 114 #[.slice A n c] w fun e w' => e = .returned (.int .i64 (centL l)) ∧ Below w.heap.size w w' := by
  cases hr : rightL l with
  | true =>
    have hcl := Lib.hid (show centL l = idxP l 0 0 by unfold centL; rw [hr]; rfl)
    go_enter Tryz.func114, Tryz.ntmps114
    go_wp2_with (first | (go_at_call 138; refine (hood_Right _ _ _ _ _ hR).mono ?_; rintro e w1 ⟨rfl, hb1⟩; obtain ⟨hc1, hf1⟩ := bcell hb1; have hs1 := hb1.size; (try simp only [World.size_alloc, World.size_setCell, World.size_drew] at hc1 hf1); (try simp at hs1)) | (go_at_call 167; refine (slices_IndexP _ _ _ _ _ _ _ (hR.of (by (repeat' (first | exact Below.refl _ _ | assumption | (refine Below.alloc ?_ ?_ _) | (refine Below.setCell ?_ ?_ _) | (refine Below.drew ?_) | (refine below_drewN ?_ _) | (refine below_after (Ext.below _) ?_ ?_) | (refine below_after (by assumption) ?_ ?_) | (simp; done) | omega | (simp; omega))))) hn).mono ?_; rintro e w2 ⟨rfl, hb2⟩; obtain ⟨hc2, hf2⟩ := bcell hb2; have hs2 := hb2.size; (try simp only [World.size_alloc, World.size_setCell, World.size_drew] at hc2 hf2); (try simp at hs2)))
    go_ret
    exact ⟨ret_int hcl.out.symm, by (repeat' (first | exact Below.refl _ _ | assumption | (refine Below.alloc ?_ ?_ _) | (refine Below.setCell ?_ ?_ _) | (refine Below.drew ?_) | (refine below_drewN ?_ _) | (refine below_after (Ext.below _) ?_ ?_) | (refine below_after (by assumption) ?_ ?_) | (simp; done) | omega | (simp; omega)))⟩
  | false =>
    have hcl := Lib.hid (show centL l = -1 by unfold centL; rw [hr]; rfl)
    go_enter Tryz.func114, Tryz.ntmps114
    go_wp2_with (first | (go_at_call 138; refine (hood_Right _ _ _ _ _ hR).mono ?_; rintro e w1 ⟨rfl, hb1⟩; obtain ⟨hc1, hf1⟩ := bcell hb1; have hs1 := hb1.size; (try simp only [World.size_alloc, World.size_setCell, World.size_drew] at hc1 hf1); (try simp at hs1)))
    go_ret
    exact ⟨ret_int hcl.out.symm, by (repeat' (first | exact Below.refl _ _ | assumption | (refine Below.alloc ?_ ?_ _) | (refine Below.setCell ?_ ?_ _) | (refine Below.drew ?_) | (refine below_drewN ?_ _) | (refine below_after (Ext.below _) ?_ ?_) | (refine below_after (by assumption) ?_ ?_) | (simp; done) | omega | (simp; omega)))⟩
end Go.Proofs.YtellglbmbocgkaaGreatDoor
end
section
namespace Go.Proofs.YtellglbmbocgkaaGreatDoor
open Go Go.RowKit
set_option maxRecDepth 100000
/-- The place number q of the square of the radius r, row by row. -/
def sqPt (r q : Nat) : Int × Int := (((q % (2 * r + 1) : Nat) : Int) - r, ((q / (2 * r + 1) : Nat) : Int) - r)
def sqAt (p : Int → Int → Bool) (r q : Nat) : List (Int × Int) := ((List.range q).map (sqPt r)).filter fun u => p u.1 u.2
def sqL (p : Int → Int → Bool) (r : Nat) : List (Int × Int) := sqAt p r ((2 * r + 1) * (2 * r + 1))
theorem sqAt_succ (p : Int → Int → Bool) (r q : Nat) : sqAt p r (q + 1) = sqAt p r q ++ (if p (sqPt r q).1 (sqPt r q).2 then [sqPt r q] else []) := by
  unfold sqAt
  rw [List.range_succ, List.map_append, List.filter_append]
  congr 1
  simp [List.filter_cons]
theorem sqPt_at {r k i : Nat} (hi : i < 2 * r + 1) : sqPt r (k * (2 * r + 1) + i) = ((i : Int) - r, (k : Int) - r) := by
  unfold sqPt
  have e1 : (k * (2 * r + 1) + i) % (2 * r + 1) = i := by rw [Nat.mul_comm, Nat.mul_add_mod]; exact Nat.mod_eq_of_lt hi
  have e2 : (k * (2 * r + 1) + i) / (2 * r + 1) = k := by rw [Nat.mul_comm, Nat.mul_add_div (by omega), Nat.div_eq_of_lt hi, Nat.add_zero]
  rw [e1, e2]
theorem moore1 (x y : Int) (w : World) : Calls Tryz.prog 158 #[.int .i64 x, .int .i64 y] w fun e w' => e = .returned (.bool true) ∧ w = w' := by
  go_enter Tryz.func158, Tryz.ntmps158
  go_wp2
  go_ret
  exact ⟨rfl, rfl⟩
set_option maxHeartbeats 1000000 in
theorem collect_Moore (r : Nat) (hr : r ≤ 2) (w : World) :
    Calls Tryz.prog 157 #[.int .i64 (r : Int), .func (.func 158) #[] #[]] w fun e w' => ∃ A n c, e = .returned (.slice A n c) ∧ Rd encP 2 w' A n (sqL (fun _ _ => true) r) ∧ n ≤ 25 ∧ Below w.heap.size w w' := by
  go_enter Tryz.func157, Tryz.ntmps157
  go_wp2
  go_loopw [5, 6] (fun v i wr => ∃ (A : Option Addr) (n c k : Nat), v = .slice A n c ∧ i = .int .i64 ((k : Int) - r) ∧ k ≤ 2 * r + 1 ∧ n ≤ k * (2 * r + 1) ∧ Own encP 2 139 w.heap.size wr A n c (sqAt (fun _ _ => true) r (k * (2 * r + 1))) ∧ Below w.heap.size w wr) (fun _ i _ => 2 * r + 1 - (intOf i + r).toNat)
  case atStart => exact ⟨none, 0, 0, 0, rfl, by go_num, by omega, by omega, by rw [Nat.zero_mul]; exact Own.nil_, Below.refl _ _⟩
  case round =>
    obtain ⟨A, n, c, k, rfl, rfl, hk, hnk, hown, hb⟩ := hrel
    have hs := hb.size
    by_cases hlt : k < 2 * r + 1
    · have d1 : decide ((k : Int) - r ≤ r) = true := decide_eq_true (by omega)
      go_wp2
      go_loopw [5, 7] (fun v i wr => ∃ (A : Option Addr) (n c i' : Nat), v = .slice A n c ∧ i = .int .i64 ((i' : Int) - r) ∧ i' ≤ 2 * r + 1 ∧ n ≤ k * (2 * r + 1) + i' ∧ Own encP 2 139 w.heap.size wr A n c (sqAt (fun _ _ => true) r (k * (2 * r + 1) + i')) ∧ Below w.heap.size w wr) (fun _ i _ => 2 * r + 1 - (intOf i + r).toNat)
      case atStart => exact ⟨A, n, c, 0, rfl, by go_num, by omega, hnk, hown, hb⟩
      case round =>
        clear hown hb hs hnk
        obtain ⟨A, n, c, i, rfl, rfl, hi, hnk, hown, hb⟩ := hrel
        have hs := hb.size
        obtain ⟨hc, hf⟩ := bcell hb
        have hkb : k * (2 * r + 1) + (2 * r + 1) ≤ (2 * r + 1) * (2 * r + 1) := by
          have h : (k + 1) * (2 * r + 1) ≤ (2 * r + 1) * (2 * r + 1) := Nat.mul_le_mul_right (2 * r + 1) hlt
          have h2 : (k + 1) * (2 * r + 1) = k * (2 * r + 1) + (2 * r + 1) := by rw [Nat.add_mul, Nat.one_mul]
          rw [h2] at h
          exact h
        have hsq : (2 * r + 1) * (2 * r + 1) ≤ 25 := Nat.mul_le_mul (show 2 * r + 1 ≤ 5 by omega) (show 2 * r + 1 ≤ 5 by omega)
        by_cases hlti : i < 2 * r + 1
        · have d2 : decide ((i : Int) - r ≤ r) = true := decide_eq_true (by omega)
          have hn25 : n < 25 := by omega
          have hsn := Lib.hid (show sqAt (fun _ _ => true) r (k * (2 * r + 1) + (i + 1)) = sqAt (fun _ _ => true) r (k * (2 * r + 1) + i) ++ [((i : Int) - r, (k : Int) - r)] by rw [← Nat.add_assoc, sqAt_succ, sqPt_at hlti]; rfl)
          have hnk' := Lib.hid hnk
          clear hkb hsq hnk
          go_wp2_with (first | (go_at_call 158; refine (moore1 _ _ _).mono ?_; rintro e w' ⟨rfl, rfl⟩) | (at_builtin; refine wpList_append_el rfl (.tmp 26) (.tmp 30) 22 rfl encP 2 139 (.agg #[.int .i64 0, .int .i64 0]) 16 Tryz.underlying22 (by kernel_rfl) rfl (by decide) encP_len encP_one (w.heap.size) _ _ _ _ rfl (hown.alloc _) ((i : Int) - r, (k : Int) - r) ⟨(wr).heap.size, 0, none⟩ 1 rfl (cells_new (wr) _ _) (by omega) (by omega) (by first | omega | (simp; done) | (simp; omega)) ?_; intro A1 c1 w1 hown1 hg1 hb1; obtain ⟨hc1, hf1⟩ := bcell hb1; have hs1 := hb1.size; (try simp only [World.size_alloc, World.size_setCell, World.size_drew] at hc1 hf1); (try simp at hs1)))
          go_roundw
          case rel => exact ⟨A1, n + 1, c1, i + 1, rfl, by go_num, by omega, by have := hnk'.out; omega, by rw [hsn.out]; exact hown1, by (repeat' (first | exact Below.refl _ _ | assumption | (refine Below.alloc ?_ ?_ _) | (refine Below.setCell ?_ ?_ _) | (refine Below.drew ?_) | (refine below_drewN ?_ _) | (refine below_after (Ext.below _) ?_ ?_) | (refine below_after (by assumption) ?_ ?_) | (simp; done) | omega | (simp; omega)))⟩
          case measure => simp [intOf]; omega
        · obtain rfl : i = 2 * r + 1 := by omega
          have d2 : decide (((2 * r + 1 : Nat) : Int) - r ≤ r) = false := decide_eq_false (by omega)
          have he := Lib.hid (show (k + 1) * (2 * r + 1) = k * (2 * r + 1) + (2 * r + 1) by rw [Nat.add_mul, Nat.one_mul])
          have hnk' := Lib.hid hnk
          clear hkb hsq hnk
          go_wp2
          go_roundw
          case rel => exact ⟨A, n, c, k + 1, rfl, by go_num, by omega, by rw [he.out]; exact hnk'.out, by rw [he.out]; exact hown, hb⟩
          case measure => simp [intOf]; omega
    · obtain rfl : k = 2 * r + 1 := by omega
      have d1 : decide (((2 * r + 1 : Nat) : Int) - r ≤ r) = false := decide_eq_false (by omega)
      have hsq := Lib.hid (Nat.mul_le_mul (show 2 * r + 1 ≤ 5 by omega) (show 2 * r + 1 ≤ 5 by omega))
      have hnk' := Lib.hid hnk
      clear hnk
      go_wp2
      go_ret
      exact ⟨A, n, c, rfl, hown.rd encP_len, by have := hnk'.out; have := hsq.out; omega, hb⟩
end Go.Proofs.YtellglbmbocgkaaGreatDoor
end
