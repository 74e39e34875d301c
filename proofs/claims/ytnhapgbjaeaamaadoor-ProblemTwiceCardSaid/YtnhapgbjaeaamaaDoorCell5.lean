/- The contracts of the reference's Compare and Same. -/
import Derived.Test.YtnhapgbjaeaamaaDoorCell4
namespace Go.Proofs.YtnhapgbjaeaamaaDoor
open Go Go.RowKit
set_option linter.unusedSimpArgs false
set_option linter.unusedVariables false
set_option maxRecDepth 100000
attribute [local go_sem ↓ high] eq_cl neq_cl eq_pt neq_pt
set_option maxHeartbeats 2000000 in
theorem ref05_Compare (A B : Option Addr) (n m c d : Nat) (l r : List (Int × Int × Int)) (w : World) (hR : Rd encC 3 w A n l) (hS : Rd encC 3 w B m r) (hn : n ≤ 1000000) (hm : m ≤ 1000000) :
    Calls Tryd.prog 24 #[.slice A n c, .slice B m d] w fun e w' => e = .returned (.int .i64 (cmpL l r)) ∧ Below w.heap.size w w' := by
  go_enter Tryd.func24, Tryd.ntmps24
  go_wp2
  go_loopw [5] (fun i wr => ∃ j : Nat, j ≤ n ∧ j ≤ m ∧ i = .int .i64 j ∧ Below w.heap.size w wr ∧ Hid (∀ i, i < j → l[i]? = r[i]?)) (fun i _ => n - (intOf i).toNat)
  case atStart => exact ⟨0, by omega, by omega, rfl, Below.refl _ _, fun r hr => absurd hr (by omega)⟩
  case round =>
    obtain ⟨j, hj, hjm, rfl, hb, hno⟩ := hrel
    obtain ⟨hc, hf⟩ := bcell hb
    have hs := hb.size
    by_cases hend : j = n ∨ j = m
    · have HV := Lib.hid (cmpL_end hR.len hS.len hj hjm hno.out hend)
      have dd : decide ((j : Int) < n) = false ∨ (decide ((j : Int) < n) = true ∧ decide ((j : Int) < m) = false) := by simp only [decide_eq_true_eq, decide_eq_false_iff_not]; omega
      clear hend
      have ee : decide (j < n) = false ∨ (decide (j < n) = true ∧ decide (j < m) = false) := by simp only [decide_eq_true_eq, decide_eq_false_iff_not] at dd ⊢; omega
      rcases dd with d1 | ⟨d1, d2⟩ <;> rcases ee with e1 | ⟨e1, e2⟩
      all_goals (try (exfalso; simp only [decide_eq_true_eq, decide_eq_false_iff_not] at *; omega))
      all_goals
        go_wp2_with (first | (go_at_call 40; refine (ref05_order _ _ _).mono ?_; rintro e w' ⟨rfl, rfl⟩))
        go_ret
        exact ⟨ret_int HV.out.symm, by (repeat' (first | exact Below.refl _ _ | assumption | (refine Below.alloc ?_ ?_ _) | (refine Below.setCell ?_ ?_ _) | (refine Below.drew ?_) | (refine below_drewN ?_ _) | (refine below_after (Ext.below _) ?_ ?_) | (refine below_after (by assumption) ?_ ?_) | (simp; done) | omega | (simp; omega)))⟩
    · have hlt : j < n := by omega
      have hltm : j < m := by omega
      have d1 : decide ((j : Int) < n) = true := decide_eq_true (by omega)
      have d2 : decide ((j : Int) < m) = true := decide_eq_true (by omega)
      have e1 : decide (j < n) = true := decide_eq_true (by omega)
      have e2 : decide (j < m) = true := decide_eq_true (by omega)
      obtain ⟨a, b, s, bo, o, hx, rfl, hbl, g1, g2, g3⟩ := hR.cell hlt
      obtain ⟨a', b', s', bo', o', hy, rfl, hbl', k1, k2, k3⟩ := hS.cell hltm
      by_cases h1 : b = b'
      · by_cases h2 : a = a'
        · by_cases h3 : s = s'
          · subst h1 h2 h3
            have HS : Hid (∀ i, i < j + 1 → l[i]? = r[i]?) := same_step hno.out (hx.out.trans hy.out.symm)
            go_wp2
            (refine wp_region_ext_lit (by kernel_rfl) (by kernel_rfl) ?_; (repeat (go_big_quiet_step (fail))); refine wpQuiet_nil ?_; intro _ hw'; obtain ⟨z2, hw''⟩ := hw'; subst hw''; have hs2 := z2.size; obtain ⟨hc2, hf2⟩ := bcell z2.below; (try simp only [World.size_alloc, World.size_setCell, World.size_drew] at hc2 hf2); (try simp at hs2))
            go_wp2
            (refine wp_region_ext_lit (by kernel_rfl) (by kernel_rfl) ?_; (repeat (go_big_quiet_step (fail))); refine wpQuiet_nil ?_; intro _ hw'; obtain ⟨z3, hw''⟩ := hw'; subst hw''; have hs3 := z3.size; obtain ⟨hc3, hf3⟩ := bcell z3.below; (try simp only [World.size_alloc, World.size_setCell, World.size_drew] at hc3 hf3); (try simp at hs3))
            go_wp2
            (refine wp_region_ext_lit (by kernel_rfl) (by kernel_rfl) ?_; (repeat (go_big_quiet_step (fail))); refine wpQuiet_nil ?_; intro _ hw'; obtain ⟨z4, hw''⟩ := hw'; subst hw''; have hs4 := z4.size; obtain ⟨hc4, hf4⟩ := bcell z4.below; (try simp only [World.size_alloc, World.size_setCell, World.size_drew] at hc4 hf4); (try simp at hs4))
            go_wp2
            go_roundw
            case rel => exact ⟨j + 1, by omega, by omega, by go_num, (by (repeat' (first | exact Below.refl _ _ | assumption | (refine Below.alloc ?_ ?_ _) | (refine Below.setCell ?_ ?_ _) | (refine Below.drew ?_) | (refine below_drewN ?_ _) | (refine below_after (Ext.below _) ?_ ?_) | (refine below_after (by assumption) ?_ ?_) | (simp; done) | omega | (simp; omega)))), HS.out⟩
            case measure => simp [intOf]; omega
          · have HV := Lib.hid ((cmpL_at hno.out hx.out hy.out (fun e => h3 (by injection e with e1 e2; injection e2))).trans (cmpC_s h1 h2))
            subst h1 h2
            have q3 : (s != s') = true := by simpa using h3
            clear h3
            go_wp2
            (refine wp_region_ext_lit (by kernel_rfl) (by kernel_rfl) ?_; (repeat (go_big_quiet_step (fail))); refine wpQuiet_nil ?_; intro _ hw'; obtain ⟨z2, hw''⟩ := hw'; subst hw''; have hs2 := z2.size; obtain ⟨hc2, hf2⟩ := bcell z2.below; (try simp only [World.size_alloc, World.size_setCell, World.size_drew] at hc2 hf2); (try simp at hs2))
            go_wp2
            (refine wp_region_ext_lit (by kernel_rfl) (by kernel_rfl) ?_; (repeat (go_big_quiet_step (fail))); refine wpQuiet_nil ?_; intro _ hw'; obtain ⟨z3, hw''⟩ := hw'; subst hw''; have hs3 := z3.size; obtain ⟨hc3, hf3⟩ := bcell z3.below; (try simp only [World.size_alloc, World.size_setCell, World.size_drew] at hc3 hf3); (try simp at hs3))
            go_wp2
            (refine wp_region_ext_lit (by kernel_rfl) (by kernel_rfl) ?_; (repeat (go_big_quiet_step (fail))); refine wpQuiet_nil ?_; intro _ hw'; obtain ⟨z4, hw''⟩ := hw'; subst hw''; have hs4 := z4.size; obtain ⟨hc4, hf4⟩ := bcell z4.below; (try simp only [World.size_alloc, World.size_setCell, World.size_drew] at hc4 hf4); (try simp at hs4))
            go_wp2
            (refine wp_region_ext_lit (by kernel_rfl) (by kernel_rfl) ?_; (repeat (go_big_quiet_step ((go_at_call 40; exact calls_ext_same (ref05_order _ _ _))))); refine wpQuiet_nil ?_; intro _ hw'; obtain ⟨z5, hw''⟩ := hw'; subst hw''; have hs5 := z5.size; obtain ⟨hc5, hf5⟩ := bcell z5.below; (try simp only [World.size_alloc, World.size_setCell, World.size_drew] at hc5 hf5); (try simp at hs5))
            go_wp2
            go_ret
            exact ⟨ret_int HV.out.symm, by (repeat' (first | exact Below.refl _ _ | assumption | (refine Below.alloc ?_ ?_ _) | (refine Below.setCell ?_ ?_ _) | (refine Below.drew ?_) | (refine below_drewN ?_ _) | (refine below_after (Ext.below _) ?_ ?_) | (refine below_after (by assumption) ?_ ?_) | (simp; done) | omega | (simp; omega)))⟩
        · have HV := Lib.hid ((cmpL_at hno.out hx.out hy.out (fun e => h2 (by injection e))).trans (cmpC_x h1 h2))
          subst h1
          have q2 : (a != a') = true := by simpa using h2
          clear h2
          go_wp2
          (refine wp_region_ext_lit (by kernel_rfl) (by kernel_rfl) ?_; (repeat (go_big_quiet_step (fail))); refine wpQuiet_nil ?_; intro _ hw'; obtain ⟨z2, hw''⟩ := hw'; subst hw''; have hs2 := z2.size; obtain ⟨hc2, hf2⟩ := bcell z2.below; (try simp only [World.size_alloc, World.size_setCell, World.size_drew] at hc2 hf2); (try simp at hs2))
          go_wp2
          (refine wp_region_ext_lit (by kernel_rfl) (by kernel_rfl) ?_; (repeat (go_big_quiet_step (fail))); refine wpQuiet_nil ?_; intro _ hw'; obtain ⟨z3, hw''⟩ := hw'; subst hw''; have hs3 := z3.size; obtain ⟨hc3, hf3⟩ := bcell z3.below; (try simp only [World.size_alloc, World.size_setCell, World.size_drew] at hc3 hf3); (try simp at hs3))
          go_wp2
          (refine wp_region_ext_lit (by kernel_rfl) (by kernel_rfl) ?_; (repeat (go_big_quiet_step ((go_at_call 40; exact calls_ext_same (ref05_order _ _ _))))); refine wpQuiet_nil ?_; intro _ hw'; obtain ⟨z5, hw''⟩ := hw'; subst hw''; have hs5 := z5.size; obtain ⟨hc5, hf5⟩ := bcell z5.below; (try simp only [World.size_alloc, World.size_setCell, World.size_drew] at hc5 hf5); (try simp at hs5))
          go_wp2
          go_ret
          exact ⟨ret_int HV.out.symm, by (repeat' (first | exact Below.refl _ _ | assumption | (refine Below.alloc ?_ ?_ _) | (refine Below.setCell ?_ ?_ _) | (refine Below.drew ?_) | (refine below_drewN ?_ _) | (refine below_after (Ext.below _) ?_ ?_) | (refine below_after (by assumption) ?_ ?_) | (simp; done) | omega | (simp; omega)))⟩
      · have HV := Lib.hid ((cmpL_at hno.out hx.out hy.out (fun e => h1 (by injection e with e1 e2; injection e2))).trans (cmpC_y h1))
        have q1 : (b != b') = true := by simpa using h1
        clear h1
        go_wp2
        (refine wp_region_ext_lit (by kernel_rfl) (by kernel_rfl) ?_; (repeat (go_big_quiet_step (fail))); refine wpQuiet_nil ?_; intro _ hw'; obtain ⟨z2, hw''⟩ := hw'; subst hw''; have hs2 := z2.size; obtain ⟨hc2, hf2⟩ := bcell z2.below; (try simp only [World.size_alloc, World.size_setCell, World.size_drew] at hc2 hf2); (try simp at hs2))
        go_wp2
        (refine wp_region_ext_lit (by kernel_rfl) (by kernel_rfl) ?_; (repeat (go_big_quiet_step ((go_at_call 40; exact calls_ext_same (ref05_order _ _ _))))); refine wpQuiet_nil ?_; intro _ hw'; obtain ⟨z5, hw''⟩ := hw'; subst hw''; have hs5 := z5.size; obtain ⟨hc5, hf5⟩ := bcell z5.below; (try simp only [World.size_alloc, World.size_setCell, World.size_drew] at hc5 hf5); (try simp at hs5))
        go_wp2
        go_ret
        exact ⟨ret_int HV.out.symm, by (repeat' (first | exact Below.refl _ _ | assumption | (refine Below.alloc ?_ ?_ _) | (refine Below.setCell ?_ ?_ _) | (refine Below.drew ?_) | (refine below_drewN ?_ _) | (refine below_after (Ext.below _) ?_ ?_) | (refine below_after (by assumption) ?_ ?_) | (simp; done) | omega | (simp; omega)))⟩
theorem cmpL_same : ∀ (l r : List (Int × Int × Int)), (cmpL l r == 0) = sameL l r
  | [], [] => rfl
  | [], b :: r => rfl
  | a :: l, [] => rfl
  | a :: l, b :: r => by
    have ih := cmpL_same l r
    show ((if a = b then cmpL l r else cmpC a b) == 0) = _
    by_cases e : a = b
    · subst e
      rw [if_pos rfl, ih]
      unfold sameL; simp
    · rw [if_neg e]
      have h1 : (cmpC a b == 0) = false := by simp only [beq_eq_false_iff_ne, ne_eq]; exact fun h => e (cmpC_zero h)
      rw [h1]
      unfold sameL
      symm; exact decide_eq_false (fun h => e (by injection h))
theorem ref05_Same (A B : Option Addr) (n m c d : Nat) (l r : List (Int × Int × Int)) (w : World) (hR : Rd encC 3 w A n l) (hS : Rd encC 3 w B m r) (hn : n ≤ 1000000) (hm : m ≤ 1000000) :
    Calls Tryd.prog 14 #[.slice A n c, .slice B m d] w fun e w' => e = .returned (.bool (sameL l r)) ∧ Below w.heap.size w w' := by
  have hq := cmpL_same l r
  generalize sameL l r = q at hq ⊢
  have HQ := Lib.hid hq
  clear hq
  go_enter Tryd.func14, Tryd.ntmps14
  go_wp2_with (first | (go_at_call 24; refine (ref05_Compare _ _ _ _ _ _ _ _ _ hR hS hn hm).mono ?_; rintro e w1 ⟨rfl, hb1⟩; obtain ⟨hc1, hf1⟩ := bcell hb1; have hs1 := hb1.size; (try simp only [World.size_alloc, World.size_setCell, World.size_drew] at hc1 hf1); (try simp at hs1)))
  go_ret
  exact ⟨ret_bool HQ.out, hb1⟩
end Go.Proofs.YtnhapgbjaeaamaaDoor
