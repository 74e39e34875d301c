/- The contracts of Right, of pattern and of its reference. -/
import Derived.Test.YtnhapgbjaeaamaaDoorCell
namespace Go.Proofs.YtnhapgbjaeaamaaDoor
open Go Go.RowKit
set_option linter.unusedSimpArgs false
set_option linter.unusedVariables false
set_option maxRecDepth 100000
attribute [local go_sem ↓ high] eq_cl neq_cl eq_pt neq_pt
theorem ord_bef {a b x y : Int} {q : Bool} (h : befP a b x y = q) : decide (0 ≤ cmpP a b x y) = !q := by rw [← h]; exact cmpP_bef a b x y
/-- The ways of one cell's test. -/
theorem okC_ways {l : List (Int × Int × Int)} {j : Nat} {x y s : Int} (hx : l[j]? = some (x, y, s)) :
    (validB x y = false ∧ okC l j = false) ∨ (validB x y = true ∧ s < 1 ∧ okC l j = false) ∨ (validB x y = true ∧ 1 ≤ s ∧ 8 ≤ s ∧ okC l j = false) ∨ (validB x y = true ∧ 1 ≤ s ∧ s ≤ 7 ∧ j = 0 ∧ okC l j = true) ∨
    (validB x y = true ∧ 1 ≤ s ∧ s ≤ 7 ∧ 0 < j ∧ ∃ a b c, l[j - 1]? = some (a, b, c) ∧ okC l j = befP a b x y) := by
  cases hv : validB x y with
  | false => exact .inl ⟨rfl, okC_place hx hv⟩
  | true =>
    by_cases h1 : s < 1
    · exact .inr (.inl ⟨rfl, h1, okC_state hx (.inl h1)⟩)
    · by_cases h2 : 8 ≤ s
      · exact .inr (.inr (.inl ⟨rfl, by omega, h2, okC_state hx (.inr (by omega))⟩))
      · rcases Nat.eq_zero_or_pos j with rfl | h0
        · exact .inr (.inr (.inr (.inl ⟨rfl, by omega, by omega, rfl, okC_first hx hv ⟨by omega, by omega⟩⟩)))
        · have hl := (List.getElem?_eq_some_iff.1 hx).1
          refine .inr (.inr (.inr (.inr ⟨rfl, by omega, by omega, h0, _, _, _, List.getElem?_eq_getElem (by omega), okC_next h0 hx (List.getElem?_eq_getElem (by omega)) hv ⟨by omega, by omega⟩⟩)))
set_option maxHeartbeats 2000000 in
theorem pat_Right (A : Option Addr) (n c : Nat) (l : List (Int × Int × Int)) (w : World) (hR : Rd encC 3 w A n l) (hn : n ≤ 9223372036854775807) :
    Calls Tryd.prog 33 #[.slice A n c] w fun e w' => e = .returned (.bool (rightC l)) ∧ Below w.heap.size w w' := by
  rcases Nat.lt_or_ge 5000 n with h5 | h5
  · have HV := Lib.hid (rightC_len hR.len h5)
    go_enter Tryd.func33, Tryd.ntmps33
    go_wp2
    go_ret
    exact ⟨ret_bool HV.out.symm, by (repeat' (first | exact Below.refl _ _ | assumption | (refine Below.alloc ?_ ?_ _) | (refine Below.setCell ?_ ?_ _) | (refine Below.drew ?_) | (refine below_drewN ?_ _) | (refine below_after (Ext.below _) ?_ ?_) | (refine below_after (by assumption) ?_ ?_) | (simp; done) | omega | (simp; omega)))⟩
  · go_enter Tryd.func33, Tryd.ntmps33
    go_wp2
    go_loopw [10] (fun i wr => ∃ j : Nat, j ≤ n ∧ i = .int .i64 j ∧ Below w.heap.size w wr ∧ Hid (∀ r, r < j → okC l r = true)) (fun i _ => n - (intOf i).toNat)
    case atStart => exact ⟨0, by omega, rfl, Below.refl _ _, fun r hr => absurd hr (by omega)⟩
    case round =>
      obtain ⟨j, hj, rfl, hb, hno⟩ := hrel
      obtain ⟨hc, hf⟩ := bcell hb
      have hs := hb.size
      by_cases hlt : j < n
      · obtain ⟨x, y, s, bo, o, hx, rfl, hbl, hcell, hcell2, hcell3⟩ := hR.cell hlt
        rcases okC_ways hx.out with ⟨hv, ho⟩ | ⟨hv, h1, ho⟩ | ⟨hv, h1, h2, ho⟩ | ⟨hv, h1, h2, hj0, ho⟩ | ⟨hv, h1, h2, h0, a, b, c', hp, ho⟩
        · have HB := Lib.hid (rightC_bad hR.len hlt ho)
          have kP := fun w1 => pat_placedV hv w1
          clear hv ho
          go_wp2
          (refine wp_region_ext_lit (by kernel_rfl) (by kernel_rfl) ?_; (repeat (go_big_quiet_step (first | (go_at_call 47; exact calls_ext (pat_at _ _ _ _)) | (go_at_call 46; exact calls_ext (kP _))))); refine wpQuiet_nil ?_; intro _ hw'; obtain ⟨z1, hw''⟩ := hw'; subst hw''; have hs1 := z1.size; obtain ⟨hc1, hf1⟩ := bcell z1.below; (try simp only [World.size_alloc, World.size_setCell, World.size_drew] at hc1 hf1); (try simp at hs1))
          go_wp2
          go_ret
          exact ⟨ret_bool HB.out.symm, by (repeat' (first | exact Below.refl _ _ | assumption | (refine Below.alloc ?_ ?_ _) | (refine Below.setCell ?_ ?_ _) | (refine Below.drew ?_) | (refine below_drewN ?_ _) | (refine below_after (Ext.below _) ?_ ?_) | (refine below_after (by assumption) ?_ ?_) | (simp; done) | omega | (simp; omega)))⟩
        · have HB := Lib.hid (rightC_bad hR.len hlt ho)
          have kP := fun w1 => pat_placedV hv w1
          have d1 : decide (s < 1) = true := decide_eq_true h1
          clear hv ho
          go_wp2
          (refine wp_region_ext_lit (by kernel_rfl) (by kernel_rfl) ?_; (repeat (go_big_quiet_step (first | (go_at_call 47; exact calls_ext (pat_at _ _ _ _)) | (go_at_call 46; exact calls_ext (kP _))))); refine wpQuiet_nil ?_; intro _ hw'; obtain ⟨z1, hw''⟩ := hw'; subst hw''; have hs1 := z1.size; obtain ⟨hc1, hf1⟩ := bcell z1.below; (try simp only [World.size_alloc, World.size_setCell, World.size_drew] at hc1 hf1); (try simp at hs1))
          go_wp2
          go_ret
          exact ⟨ret_bool HB.out.symm, by (repeat' (first | exact Below.refl _ _ | assumption | (refine Below.alloc ?_ ?_ _) | (refine Below.setCell ?_ ?_ _) | (refine Below.drew ?_) | (refine below_drewN ?_ _) | (refine below_after (Ext.below _) ?_ ?_) | (refine below_after (by assumption) ?_ ?_) | (simp; done) | omega | (simp; omega)))⟩
        · have HB := Lib.hid (rightC_bad hR.len hlt ho)
          have kP := fun w1 => pat_placedV hv w1
          have d1 : decide (s < 1) = false := decide_eq_false (by omega)
          have d2 : decide (8 ≤ s) = true := decide_eq_true h2
          clear hv ho
          go_wp2
          (refine wp_region_ext_lit (by kernel_rfl) (by kernel_rfl) ?_; (repeat (go_big_quiet_step (first | (go_at_call 47; exact calls_ext (pat_at _ _ _ _)) | (go_at_call 46; exact calls_ext (kP _))))); refine wpQuiet_nil ?_; intro _ hw'; obtain ⟨z1, hw''⟩ := hw'; subst hw''; have hs1 := z1.size; obtain ⟨hc1, hf1⟩ := bcell z1.below; (try simp only [World.size_alloc, World.size_setCell, World.size_drew] at hc1 hf1); (try simp at hs1))
          go_wp2
          go_ret
          exact ⟨ret_bool HB.out.symm, by (repeat' (first | exact Below.refl _ _ | assumption | (refine Below.alloc ?_ ?_ _) | (refine Below.setCell ?_ ?_ _) | (refine Below.drew ?_) | (refine below_drewN ?_ _) | (refine below_after (Ext.below _) ?_ ?_) | (refine below_after (by assumption) ?_ ?_) | (simp; done) | omega | (simp; omega)))⟩
        · have HO := Lib.hid ho
          have kP := fun w1 => pat_placedV hv w1
          have d1 : decide (s < 1) = false := decide_eq_false (by omega)
          have d2 : decide (8 ≤ s) = false := decide_eq_false (by omega)
          have d3 : decide ((0 : Int) < j) = false := decide_eq_false (by omega)
          have d3' : decide (0 < j) = false := decide_eq_false (by omega)
          clear hv ho hj0
          go_wp2
          (refine wp_region_ext_lit (by kernel_rfl) (by kernel_rfl) ?_; (repeat (go_big_quiet_step (first | (go_at_call 47; exact calls_ext (pat_at _ _ _ _)) | (go_at_call 46; exact calls_ext (kP _))))); refine wpQuiet_nil ?_; intro _ hw'; obtain ⟨z1, hw''⟩ := hw'; subst hw''; have hs1 := z1.size; obtain ⟨hc1, hf1⟩ := bcell z1.below; (try simp only [World.size_alloc, World.size_setCell, World.size_drew] at hc1 hf1); (try simp at hs1))
          go_wp2
          go_roundw
          case rel => exact ⟨j + 1, by omega, by go_num, (by (repeat' (first | exact Below.refl _ _ | assumption | (refine Below.alloc ?_ ?_ _) | (refine Below.setCell ?_ ?_ _) | (refine Below.drew ?_) | (refine below_drewN ?_ _) | (refine below_after (Ext.below _) ?_ ?_) | (refine below_after (by assumption) ?_ ?_) | (simp; done) | omega | (simp; omega)))), okC_step hno.out HO.out⟩
          case measure => simp [intOf]; omega
        · have kP := fun w1 => pat_placedV hv w1
          have d1 : decide (s < 1) = false := decide_eq_false (by omega)
          have d2 : decide (8 ≤ s) = false := decide_eq_false (by omega)
          have d3 : decide ((0 : Int) < j) = true := decide_eq_true (by omega)
          have d3' : decide (0 < j) = true := decide_eq_true (by omega)
          obtain ⟨a', b', c2, bo', o', hp', he, hbl', g1, g2, g3⟩ := hR.cell (i := j - 1) (by omega)
          obtain ⟨rfl, rfl⟩ : bo = bo' ∧ o = o' := by injection he with he; injection he with e1 e2; exact ⟨e1, e2⟩
          obtain ⟨rfl, rfl, rfl⟩ : a = a' ∧ b = b' ∧ c' = c2 := by have := hp'.out; rw [hp] at this; simpa using this
          have hkm : ((j : Int) - 1).toNat = j - 1 := by omega
          have hk0 : (0 : Int) ≤ (j : Int) - 1 := by omega
          have wk : IntKind.i64.wrap ((j : Int) - 1) = (j : Int) - 1 := IntWalk.i64_in _ (by omega)
          clear he hp hp' hv
          cases hq : befP a b x y with
          | false =>
            have HB := Lib.hid (rightC_bad hR.len hlt (ho.trans hq))
            have d4 : decide (0 ≤ cmpP a b x y) = true := ord_bef hq
            clear ho hq
            go_wp2
            (refine wp_region_ext_lit (by kernel_rfl) (by kernel_rfl) ?_; (repeat (go_big_quiet_step (first | (go_at_call 47; exact calls_ext (pat_at _ _ _ _)) | (go_at_call 46; exact calls_ext (kP _)) | (go_at_call 48; exact calls_ext (pat_order _ _ _ _ _ _ _))))); refine wpQuiet_nil ?_; intro _ hw'; obtain ⟨z1, hw''⟩ := hw'; subst hw''; have hs1 := z1.size; obtain ⟨hc1, hf1⟩ := bcell z1.below; (try simp only [World.size_alloc, World.size_setCell, World.size_drew] at hc1 hf1); (try simp at hs1))
            go_wp2
            go_ret
            exact ⟨ret_bool HB.out.symm, by (repeat' (first | exact Below.refl _ _ | assumption | (refine Below.alloc ?_ ?_ _) | (refine Below.setCell ?_ ?_ _) | (refine Below.drew ?_) | (refine below_drewN ?_ _) | (refine below_after (Ext.below _) ?_ ?_) | (refine below_after (by assumption) ?_ ?_) | (simp; done) | omega | (simp; omega)))⟩
          | true =>
            have HO := Lib.hid (ho.trans hq)
            have d4 : decide (0 ≤ cmpP a b x y) = false := ord_bef hq
            clear ho hq
            go_wp2
            (refine wp_region_ext_lit (by kernel_rfl) (by kernel_rfl) ?_; (repeat (go_big_quiet_step (first | (go_at_call 47; exact calls_ext (pat_at _ _ _ _)) | (go_at_call 46; exact calls_ext (kP _)) | (go_at_call 48; exact calls_ext (pat_order _ _ _ _ _ _ _))))); refine wpQuiet_nil ?_; intro _ hw'; obtain ⟨z1, hw''⟩ := hw'; subst hw''; have hs1 := z1.size; obtain ⟨hc1, hf1⟩ := bcell z1.below; (try simp only [World.size_alloc, World.size_setCell, World.size_drew] at hc1 hf1); (try simp at hs1))
            go_wp2
            go_roundw
            case rel => exact ⟨j + 1, by omega, by go_num, (by (repeat' (first | exact Below.refl _ _ | assumption | (refine Below.alloc ?_ ?_ _) | (refine Below.setCell ?_ ?_ _) | (refine Below.drew ?_) | (refine below_drewN ?_ _) | (refine below_after (Ext.below _) ?_ ?_) | (refine below_after (by assumption) ?_ ?_) | (simp; done) | omega | (simp; omega)))), okC_step hno.out HO.out⟩
            case measure => simp [intOf]; omega
      · obtain rfl : j = n := by omega
        go_wp2
        go_ret
        exact ⟨ret_bool (rightC_all hR.len h5 hno.out).symm, by (repeat' (first | exact Below.refl _ _ | assumption | (refine Below.alloc ?_ ?_ _) | (refine Below.setCell ?_ ?_ _) | (refine Below.drew ?_) | (refine below_drewN ?_ _) | (refine below_after (Ext.below _) ?_ ?_) | (refine below_after (by assumption) ?_ ?_) | (simp; done) | omega | (simp; omega)))⟩
end Go.Proofs.YtnhapgbjaeaamaaDoor
