/- The contracts of the reference's Right, and of Get and Top. -/
import Derived.Test.YtnhapgbjaeaamaaGreatDoorCell2
namespace Go.Proofs.YtnhapgbjaeaamaaGreatDoor
open Go Go.RowKit
set_option linter.unusedSimpArgs false
set_option linter.unusedVariables false
set_option maxRecDepth 100000
attribute [local go_sem ↓ high] eq_cl neq_cl eq_pt neq_pt
set_option maxHeartbeats 2000000 in
theorem ref05_Right (A : Option Addr) (n c : Nat) (l : List (Int × Int × Int)) (w : World) (hR : Rd encC 3 w A n l) (hn : n ≤ 9223372036854775807) :
    Calls Tryz.prog 45 #[.slice A n c] w fun e w' => e = .returned (.bool (rightC l)) ∧ Below w.heap.size w w' := by
  go_enter Tryz.func45, Tryz.ntmps45
  go_wp2
  go_loopw [3] (fun i wr => ∃ j : Nat, j ≤ n ∧ i = .int .i64 j ∧ Below w.heap.size w wr ∧ Hid (∀ r, r < j → okC l r = true)) (fun i _ => n - (intOf i).toNat)
  case atStart => exact ⟨0, by omega, rfl, Below.refl _ _, fun r hr => absurd hr (by omega)⟩
  case round =>
    obtain ⟨j, hj, rfl, hb, hno⟩ := hrel
    obtain ⟨hc, hf⟩ := bcell hb
    have hs := hb.size
    by_cases hlt : j < n
    · obtain ⟨x, y, s, bo, o, hx, rfl, hbl, hcell, hcell2, hcell3⟩ := hR.cell hlt
      rcases okC_ways hx.out with ⟨hv, ho⟩ | ⟨hv, h1, ho⟩ | ⟨hv, h1, h2, ho⟩ | ⟨hv, h1, h2, hj0, ho⟩ | ⟨hv, h1, h2, h0, a, b, c', hp, ho⟩
      · have HB := Lib.hid (rightC_bad hR.len hlt ho)
        have kP := fun w1 => ref05_PlaceV hv w1
        clear hv ho
        go_wp2
        (refine wp_region_ext_lit (by kernel_rfl) (by kernel_rfl) ?_; (repeat (go_big_quiet_step ((go_at_call 67; exact calls_ext_same (kP _))))); refine wpQuiet_nil ?_; intro _ hw'; obtain ⟨z1, hw''⟩ := hw'; subst hw''; have hs1 := z1.size; obtain ⟨hc1, hf1⟩ := bcell z1.below; (try simp only [World.size_alloc, World.size_setCell, World.size_drew] at hc1 hf1); (try simp at hs1))
        go_wp2
        go_ret
        exact ⟨ret_bool HB.out.symm, by (repeat' (first | exact Below.refl _ _ | assumption | (refine Below.alloc ?_ ?_ _) | (refine Below.setCell ?_ ?_ _) | (refine Below.drew ?_) | (refine below_drewN ?_ _) | (refine below_after (Ext.below _) ?_ ?_) | (refine below_after (by assumption) ?_ ?_) | (simp; done) | omega | (simp; omega)))⟩
      · have HB := Lib.hid (rightC_bad hR.len hlt ho)
        have kP := fun w1 => ref05_PlaceV hv w1
        have d1 : decide (s < 1) = true := decide_eq_true h1
        clear hv ho
        go_wp2
        (refine wp_region_ext_lit (by kernel_rfl) (by kernel_rfl) ?_; (repeat (go_big_quiet_step ((go_at_call 67; exact calls_ext_same (kP _))))); refine wpQuiet_nil ?_; intro _ hw'; obtain ⟨z1, hw''⟩ := hw'; subst hw''; have hs1 := z1.size; obtain ⟨hc1, hf1⟩ := bcell z1.below; (try simp only [World.size_alloc, World.size_setCell, World.size_drew] at hc1 hf1); (try simp at hs1))
        go_wp2
        go_ret
        exact ⟨ret_bool HB.out.symm, by (repeat' (first | exact Below.refl _ _ | assumption | (refine Below.alloc ?_ ?_ _) | (refine Below.setCell ?_ ?_ _) | (refine Below.drew ?_) | (refine below_drewN ?_ _) | (refine below_after (Ext.below _) ?_ ?_) | (refine below_after (by assumption) ?_ ?_) | (simp; done) | omega | (simp; omega)))⟩
      · have HB := Lib.hid (rightC_bad hR.len hlt ho)
        have kP := fun w1 => ref05_PlaceV hv w1
        have d1 : decide (s < 1) = false := decide_eq_false (by omega)
        have d2 : decide (8 ≤ s) = true := decide_eq_true h2
        clear hv ho
        go_wp2
        (refine wp_region_ext_lit (by kernel_rfl) (by kernel_rfl) ?_; (repeat (go_big_quiet_step ((go_at_call 67; exact calls_ext_same (kP _))))); refine wpQuiet_nil ?_; intro _ hw'; obtain ⟨z1, hw''⟩ := hw'; subst hw''; have hs1 := z1.size; obtain ⟨hc1, hf1⟩ := bcell z1.below; (try simp only [World.size_alloc, World.size_setCell, World.size_drew] at hc1 hf1); (try simp at hs1))
        go_wp2
        go_ret
        exact ⟨ret_bool HB.out.symm, by (repeat' (first | exact Below.refl _ _ | assumption | (refine Below.alloc ?_ ?_ _) | (refine Below.setCell ?_ ?_ _) | (refine Below.drew ?_) | (refine below_drewN ?_ _) | (refine below_after (Ext.below _) ?_ ?_) | (refine below_after (by assumption) ?_ ?_) | (simp; done) | omega | (simp; omega)))⟩
      · have HO := Lib.hid ho
        have kP := fun w1 => ref05_PlaceV hv w1
        have d1 : decide (s < 1) = false := decide_eq_false (by omega)
        have d2 : decide (8 ≤ s) = false := decide_eq_false (by omega)
        have d3 : decide ((0 : Int) < j) = false := decide_eq_false (by omega)
        have d3' : decide (0 < j) = false := decide_eq_false (by omega)
        clear hv ho hj0
        go_wp2
        (refine wp_region_ext_lit (by kernel_rfl) (by kernel_rfl) ?_; (repeat (go_big_quiet_step ((go_at_call 67; exact calls_ext_same (kP _))))); refine wpQuiet_nil ?_; intro _ hw'; obtain ⟨z1, hw''⟩ := hw'; subst hw''; have hs1 := z1.size; obtain ⟨hc1, hf1⟩ := bcell z1.below; (try simp only [World.size_alloc, World.size_setCell, World.size_drew] at hc1 hf1); (try simp at hs1))
        go_wp2
        go_roundw
        case rel => exact ⟨j + 1, by omega, by go_num, (by (repeat' (first | exact Below.refl _ _ | assumption | (refine Below.alloc ?_ ?_ _) | (refine Below.setCell ?_ ?_ _) | (refine Below.drew ?_) | (refine below_drewN ?_ _) | (refine below_after (Ext.below _) ?_ ?_) | (refine below_after (by assumption) ?_ ?_) | (simp; done) | omega | (simp; omega)))), okC_step hno.out HO.out⟩
        case measure => simp [intOf]; omega
      · have kP := fun w1 => ref05_PlaceV hv w1
        have d1 : decide (s < 1) = false := decide_eq_false (by omega)
        have d2 : decide (8 ≤ s) = false := decide_eq_false (by omega)
        have d3 : decide ((0 : Int) < j) = true := decide_eq_true (by omega)
        have d3' : decide (0 < j) = true := decide_eq_true (by omega)
        obtain ⟨a', b', c2, bo', o', hp', he, hbl', g1, g2, g3⟩ := hR.cell (i := j - 1) (by omega)
        obtain ⟨rfl, rfl⟩ : bo = bo' ∧ o = o' := by injection he with he; injection he with e1 e2; exact ⟨e1, e2⟩
        obtain ⟨rfl, rfl, rfl⟩ : a = a' ∧ b = b' ∧ c' = c2 := by have := hp'.out; rw [hp] at this; simpa using this
        have hkm : ((j : Int) - 1).toNat = j - 1 := by omega
        have hk0 : (0 : Int) ≤ (j : Int) - 1 := by omega
        have wk : IntKind.i64.wrap ((j : Int) - 1) = (j : Int) - 1 := IntWalk.i64_in _ (by omega)
        clear he hp hp' hv
        cases hq : befP a b x y with
        | false =>
          have HB := Lib.hid (rightC_bad hR.len hlt (ho.trans hq))
          have kB := fun s s1 w1 => ref05_beforeV hq s s1 w1
          clear ho hq
          go_wp2
          (refine wp_region_ext_lit (by kernel_rfl) (by kernel_rfl) ?_; (repeat (go_big_quiet_step (first | (go_at_call 67; exact calls_ext_same (kP _)) | (go_at_call 72; exact calls_ext (kB _ _ _))))); refine wpQuiet_nil ?_; intro _ hw'; obtain ⟨z1, hw''⟩ := hw'; subst hw''; have hs1 := z1.size; obtain ⟨hc1, hf1⟩ := bcell z1.below; (try simp only [World.size_alloc, World.size_setCell, World.size_drew] at hc1 hf1); (try simp at hs1))
          go_wp2
          go_ret
          exact ⟨ret_bool HB.out.symm, by (repeat' (first | exact Below.refl _ _ | assumption | (refine Below.alloc ?_ ?_ _) | (refine Below.setCell ?_ ?_ _) | (refine Below.drew ?_) | (refine below_drewN ?_ _) | (refine below_after (Ext.below _) ?_ ?_) | (refine below_after (by assumption) ?_ ?_) | (simp; done) | omega | (simp; omega)))⟩
        | true =>
          have HO := Lib.hid (ho.trans hq)
          have kB := fun s s1 w1 => ref05_beforeV hq s s1 w1
          clear ho hq
          go_wp2
          (refine wp_region_ext_lit (by kernel_rfl) (by kernel_rfl) ?_; (repeat (go_big_quiet_step (first | (go_at_call 67; exact calls_ext_same (kP _)) | (go_at_call 72; exact calls_ext (kB _ _ _))))); refine wpQuiet_nil ?_; intro _ hw'; obtain ⟨z1, hw''⟩ := hw'; subst hw''; have hs1 := z1.size; obtain ⟨hc1, hf1⟩ := bcell z1.below; (try simp only [World.size_alloc, World.size_setCell, World.size_drew] at hc1 hf1); (try simp at hs1))
          go_wp2
          go_roundw
          case rel => exact ⟨j + 1, by omega, by go_num, (by (repeat' (first | exact Below.refl _ _ | assumption | (refine Below.alloc ?_ ?_ _) | (refine Below.setCell ?_ ?_ _) | (refine Below.drew ?_) | (refine below_drewN ?_ _) | (refine below_after (Ext.below _) ?_ ?_) | (refine below_after (by assumption) ?_ ?_) | (simp; done) | omega | (simp; omega)))), okC_step hno.out HO.out⟩
          case measure => simp [intOf]; omega
    · obtain rfl : j = n := by omega
      have HV : Hid (decide ((j : Int) ≤ 5000) = rightC l) := by
        show _ = _
        by_cases h5 : j ≤ 5000
        · rw [rightC_all hR.len h5 hno.out]; exact decide_eq_true (by omega)
        · rw [rightC_len hR.len (by omega)]; exact decide_eq_false (by omega)
      go_wp2
      go_ret
      exact ⟨ret_bool HV.out, by (repeat' (first | exact Below.refl _ _ | assumption | (refine Below.alloc ?_ ?_ _) | (refine Below.setCell ?_ ?_ _) | (refine Below.drew ?_) | (refine below_drewN ?_ _) | (refine below_after (Ext.below _) ?_ ?_) | (refine below_after (by assumption) ?_ ?_) | (simp; done) | omega | (simp; omega)))⟩
set_option maxHeartbeats 1000000 in
theorem ref05_Get (A : Option Addr) (n c : Nat) (l : List (Int × Int × Int)) (x y : Int) (w : World) (hR : Rd encC 3 w A n l) (hn : n ≤ 1000000) :
    Calls Tryz.prog 115 #[.slice A n c, .int .i64 x, .int .i64 y] w fun e w' => e = .returned (.int .i64 (getC l x y)) ∧ Below w.heap.size w w' := by
  go_enter Tryz.func115, Tryz.ntmps115
  go_wp2
  go_loopw [7] (fun i wr => ∃ j : Nat, j ≤ n ∧ i = .int .i64 j ∧ Below w.heap.size w wr ∧ Hid (∀ r a b c, r < j → l[r]? = some (a, b, c) → ¬(a = x ∧ b = y))) (fun i _ => n - (intOf i).toNat)
  case atStart => exact ⟨0, by omega, rfl, Below.refl _ _, fun r a b c hr => absurd hr (by omega)⟩
  case round =>
    obtain ⟨j, hj, rfl, hb, hno⟩ := hrel
    obtain ⟨hc, hf⟩ := bcell hb
    have hs := hb.size
    by_cases hlt : j < n
    · obtain ⟨x', y', s', bo, o, hx, rfl, hbl, hcell, hcell2, hcell3⟩ := hR.cell hlt
      by_cases h1 : x' = x
      · by_cases h2 : y' = y
        · subst h1 h2
          have HV := Lib.hid (getC_found hno.out hx.out)
          go_wp2
          go_ret
          exact ⟨ret_int HV.out.symm, by (repeat' (first | exact Below.refl _ _ | assumption | (refine Below.alloc ?_ ?_ _) | (refine Below.setCell ?_ ?_ _) | (refine Below.drew ?_) | (refine below_drewN ?_ _) | (refine below_after (Ext.below _) ?_ ?_) | (refine below_after (by assumption) ?_ ?_) | (simp; done) | omega | (simp; omega)))⟩
        · have d1 : (x' == x) = true := by simp [h1]
          have d2 : (y' == y) = false := by simpa using h2
          have HN : Hid (∀ r a b c, r < j + 1 → l[r]? = some (a, b, c) → ¬(a = x ∧ b = y)) := by
            intro r a b c hr hy
            by_cases e : r = j
            · rw [e, hx.out] at hy; cases hy; exact fun h => h2 h.2
            · exact hno.out r a b c (by omega) hy
          clear h1 h2
          go_wp2
          go_roundw
          case rel => exact ⟨j + 1, by omega, by go_num, (by (repeat' (first | exact Below.refl _ _ | assumption | (refine Below.alloc ?_ ?_ _) | (refine Below.setCell ?_ ?_ _) | (refine Below.drew ?_) | (refine below_drewN ?_ _) | (refine below_after (Ext.below _) ?_ ?_) | (refine below_after (by assumption) ?_ ?_) | (simp; done) | omega | (simp; omega)))), HN.out⟩
          case measure => simp [intOf]; omega
      · have d1 : (x' == x) = false := by simpa using h1
        have HN : Hid (∀ r a b c, r < j + 1 → l[r]? = some (a, b, c) → ¬(a = x ∧ b = y)) := by
          intro r a b c hr hy
          by_cases e : r = j
          · rw [e, hx.out] at hy; cases hy; exact fun h => h1 h.1
          · exact hno.out r a b c (by omega) hy
        clear h1
        go_wp2
        go_roundw
        case rel => exact ⟨j + 1, by omega, by go_num, (by (repeat' (first | exact Below.refl _ _ | assumption | (refine Below.alloc ?_ ?_ _) | (refine Below.setCell ?_ ?_ _) | (refine Below.drew ?_) | (refine below_drewN ?_ _) | (refine below_after (Ext.below _) ?_ ?_) | (refine below_after (by assumption) ?_ ?_) | (simp; done) | omega | (simp; omega)))), HN.out⟩
        case measure => simp [intOf]; omega
    · obtain rfl : j = n := by omega
      have HV := Lib.hid (getC_none (l := l) (x := x) (y := y) (fun r a b c h => hno.out r a b c (by have := (List.getElem?_eq_some_iff.1 h).1; rw [hR.len] at this; exact this) h))
      go_wp2
      go_ret
      exact ⟨ret_int HV.out.symm, by (repeat' (first | exact Below.refl _ _ | assumption | (refine Below.alloc ?_ ?_ _) | (refine Below.setCell ?_ ?_ _) | (refine Below.drew ?_) | (refine below_drewN ?_ _) | (refine below_after (Ext.below _) ?_ ?_) | (refine below_after (by assumption) ?_ ?_) | (simp; done) | omega | (simp; omega)))⟩
set_option maxHeartbeats 1000000 in
theorem pat_Top (A : Option Addr) (n c : Nat) (l : List (Int × Int × Int)) (w : World) (hR : Rd encC 3 w A n l) (hn : n ≤ 1000000) :
    Calls Tryz.prog 90 #[.slice A n c] w fun e w' => e = .returned (.int .i64 (topC l)) ∧ Below w.heap.size w w' := by
  go_enter Tryz.func90, Tryz.ntmps90
  go_wp2
  go_loopw [3, 7] (fun v i wr => ∃ j : Nat, v = .int .i64 (topC (l.take j)) ∧ j ≤ n ∧ i = .int .i64 j ∧ Below w.heap.size w wr) (fun _ i _ => n - (intOf i).toNat)
  case atStart => exact ⟨0, rfl, by omega, rfl, Below.refl _ _⟩
  case round =>
    obtain ⟨j, rfl, hj, rfl, hb⟩ := hrel
    obtain ⟨hc, hf⟩ := bcell hb
    have hs := hb.size
    by_cases hlt : j < n
    · obtain ⟨x', y', s', bo, o, hx, rfl, hbl, hcell, hcell2, hcell3⟩ := hR.cell hlt
      have hst := Lib.hid (topC_step hx.out)
      generalize topC (l.take j) = m at hst ⊢
      go_wp2
      go_roundw
      case rel => exact ⟨j + 1, by rw [hst.out], by omega, by go_num, by (repeat' (first | exact Below.refl _ _ | assumption | (refine Below.alloc ?_ ?_ _) | (refine Below.setCell ?_ ?_ _) | (refine Below.drew ?_) | (refine below_drewN ?_ _) | (refine below_after (Ext.below _) ?_ ?_) | (refine below_after (by assumption) ?_ ?_) | (simp; done) | omega | (simp; omega)))⟩
      case measure => simp [intOf]; omega
    · obtain rfl : j = n := by omega
      have ht := Lib.hid (show l.take j = l from List.take_of_length_le (by rw [hR.len]; omega))
      go_wp2
      go_ret
      exact ⟨ret_int (by rw [ht.out]), hb⟩
end Go.Proofs.YtnhapgbjaeaamaaGreatDoor
