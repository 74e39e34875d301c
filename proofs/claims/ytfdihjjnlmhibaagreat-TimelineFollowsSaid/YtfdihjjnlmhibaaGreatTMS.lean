/- The reference's SameChanges and Same. The reference's Same. By mktim15.py. timeline.Same. timeline.Same. -/
import Derived.Test.YtfdihjjnlmhibaaGreatTim8
import Derived.Test.YtfdihjjnlmhibaaGreatTMC
import Derived.Test.YtfdihjjnlmhibaaGreatMEM
set_option linter.unusedSimpArgs false
set_option linter.unusedVariables false
section
namespace Go.Proofs.YtfdihjjnlmhibaaGreat
open Go Go.RowKit
set_option maxRecDepth 100000
set_option linter.unusedSimpArgs false
set_option linter.unusedVariables false
attribute [local go_sem ↓ high] eq_cg neq_cg
theorem ret_boolS {a b : Bool} (h : b = a) : Ending.returned (.bool a) = .returned (.bool b) := by rw [h]
theorem take_eq_step {α : Type} {l r : List α} {j : Nat} {x : α} (h : l.take j = r.take j) (hl : l[j]? = some x) (hr : r[j]? = some x) : l.take (j + 1) = r.take (j + 1) := by
  rw [List.take_add_one, List.take_add_one, h, hl, hr]
theorem ne_at {α : Type} {l r : List α} {j : Nat} {x y : α} (hl : l[j]? = some x) (hr : r[j]? = some y) (h : x ≠ y) : l ≠ r := by
  intro e
  rw [e, hr] at hl
  injection hl with hl
  exact h hl.symm
set_option maxHeartbeats 4000000 in
theorem ref54_SameChanges (A B : Option Addr) (n c m d : Nat) (l r : List Chg) (w : World) (hR : Rd encG 4 w A n l) (hS : Rd encG 4 w B m r) (hn : n ≤ 1000000) (hm : m ≤ 1000000) :
    Calls Tryz.prog 16 #[.slice A n c, .slice B m d] w fun e w' => e = .returned (.bool (decide (l = r))) ∧ Below w.heap.size w w' := by
  have hRl := Lib.hid hR.len
  have hSl := Lib.hid hS.len
  by_cases hnm : n = m
  · subst hnm
    go_enter Tryz.func16, Tryz.ntmps16
    go_wp2_with fail
    go_loopw [5] (fun i wr => ∃ j : Nat, i = .int .i64 j ∧ j ≤ n ∧ Hid (l.take j = r.take j) ∧ Below w.heap.size w wr) (fun i _ => n - (intOf i).toNat)
    case atStart => exact ⟨0, rfl, by omega, Lib.hid rfl, Below.refl _ _⟩
    case round =>
      obtain ⟨j, rfl, hj, heq, hb⟩ := hrel
      by_cases hlt : j < n
      · have dj : decide ((j : Int) < n) = true := decide_eq_true (by omega)
        have dj' : decide (j < n) = true := decide_eq_true hlt
        obtain ⟨x, y, s, t, bo, o, hx, rfl, hbo, g1, g2, g3, g4⟩ := (hR.of hb).chg hlt
        obtain ⟨x', y', s', t', bo', o', hx', rfl, hbo', g1', g2', g3', g4'⟩ := (hS.of hb).chg hlt
        by_cases hq : x = x' ∧ y = y' ∧ s = s' ∧ t = t'
        · have dq : decide (x = x' ∧ y = y' ∧ s = s' ∧ t = t') = true := decide_eq_true hq
          have hst := Lib.hid (take_eq_step heq.out hx.out (by obtain ⟨rfl, rfl, rfl, rfl⟩ := hq; exact hx'.out))
          clear hq
          go_wp2_with fail
          (refine wp_region_ext_lit (by kernel_rfl) (by kernel_rfl) ?_; (repeat (go_big_quiet_step (fail))); refine wpQuiet_nil ?_; intro _ hw'; obtain ⟨z1, hw''⟩ := hw'; subst hw''; have hs1 := z1.size; obtain ⟨hc1, hf1⟩ := bcell z1.below; (try simp only [World.size_alloc, World.size_setCell, World.size_drew] at hc1 hf1); (try simp at hs1))
          have hB1 : Below w.heap.size w z1.world := below_thru hb z1.below
          go_wp2_with fail
          go_roundw
          case rel => exact ⟨j + 1, by go_num, by omega, hst, hB1⟩
          case measure => simp [intOf]; omega
        · have dq : decide (x = x' ∧ y = y' ∧ s = s' ∧ t = t') = false := decide_eq_false hq
          have HE := Lib.hid (decide_eq_false (ne_at hx.out hx'.out (fun e => hq (by injection e with e1 e2; injection e2 with e2 e3; injection e3 with e3 e4; exact ⟨e1, e2, e3, e4⟩))))
          clear hq
          go_wp2_with fail
          (refine wp_region_ext_lit (by kernel_rfl) (by kernel_rfl) ?_; (repeat (go_big_quiet_step (fail))); refine wpQuiet_nil ?_; intro _ hw'; obtain ⟨z1, hw''⟩ := hw'; subst hw''; have hs1 := z1.size; obtain ⟨hc1, hf1⟩ := bcell z1.below; (try simp only [World.size_alloc, World.size_setCell, World.size_drew] at hc1 hf1); (try simp at hs1))
          have hB1 : Below w.heap.size w z1.world := below_thru hb z1.below
          go_wp2_with fail
          go_ret
          exact ⟨ret_boolS HE.out, hB1⟩
      · obtain rfl : j = n := by omega
        have dj : decide ((j : Int) < j) = false := decide_eq_false (by omega)
        have dj' : decide (j < j) = false := decide_eq_false (by omega)
        have HE := Lib.hid (decide_eq_true (show l = r by
          have := heq.out
          rwa [List.take_of_length_le (by rw [hRl.out]; exact Nat.le_refl _), List.take_of_length_le (by rw [hSl.out]; exact Nat.le_refl _)] at this))
        go_wp2_with fail
        go_ret
        exact ⟨ret_boolS HE.out, hb⟩
  · have HE := Lib.hid (decide_eq_false (show ¬ l = r from fun e => hnm (by rw [← hRl.out, ← hSl.out, e])))
    have dn : ((n : Int) != m) = true := by simp; omega
    have dn' : (n != m) = true := by simpa using hnm
    have dn2 : (n : Int) = m ↔ False := by constructor; omega; exact False.elim
    go_enter Tryz.func16, Tryz.ntmps16
    go_wp2_with fail
    go_ret
    exact ⟨ret_boolS HE.out, by (repeat' (first | exact Below.refl _ _ | assumption | (refine Below.alloc ?_ ?_ _) | (refine Below.setCell ?_ ?_ _) | (refine Below.drew ?_) | (refine below_drewN ?_ _) | (refine below_after (Ext.below _) ?_ ?_) | (refine below_after (by assumption) ?_ ?_) | (simp; done) | omega | (simp; omega)))⟩
end Go.Proofs.YtfdihjjnlmhibaaGreat
end
section
namespace Go.Proofs.YtfdihjjnlmhibaaGreat
open Go Go.RowKit
set_option maxRecDepth 100000
set_option linter.unusedSimpArgs false
set_option linter.unusedVariables false
noncomputable def tlS (ka : Int) (fa : List TFr) (kb : Int) (fb : List TFr) : Bool := @decide (ka = kb ∧ fa = fb) (Classical.propDecidable _)
theorem tlS_key {ka kb : Int} {fa fb : List TFr} (h : ka ≠ kb) : tlS ka fa kb fb = false := @decide_eq_false _ (Classical.propDecidable _) fun e => h e.1
theorem tlS_len {ka kb : Int} {fa fb : List TFr} {n m : Nat} (ha : fa.length = n) (hb : fb.length = m) (h : n ≠ m) : tlS ka fa kb fb = false := @decide_eq_false _ (Classical.propDecidable _) fun e => h (by rw [← ha, ← hb, e.2])
theorem tlS_at {ka kb : Int} {fa fb : List TFr} {j : Nat} {x y : TFr} (ha : fa[j]? = some x) (hb : fb[j]? = some y) (h : x ≠ y) : tlS ka fa kb fb = false := @decide_eq_false _ (Classical.propDecidable _) fun e => ne_at ha hb h e.2
theorem tlS_all {k : Int} {fa fb : List TFr} {n : Nat} (ha : fa.length = n) (hb : fb.length = n) (h : fa.take n = fb.take n) : tlS k fa k fb = true := by
  rw [List.take_of_length_le (by omega), List.take_of_length_le (by omega)] at h
  exact @decide_eq_true _ (Classical.propDecidable _) ⟨rfl, h⟩
theorem two_boxesS (w : World) (ka kb : Int) (A B : Option Addr) (n c m d : Nat) (t : TypeId) : ∃ we, we = (w.alloc (.cells #[.int .i64 ka, .slice A n c] t)).alloc (.cells #[.int .i64 kb, .slice B m d] t) ∧
    BxW we w.heap.size [.int .i64 ka, .slice A n c] ∧ BxW we (w.heap.size + 1) [.int .i64 kb, .slice B m d] ∧ Below w.heap.size w we ∧ we.heap.size = w.heap.size + 2 := by
  have h2 := BxW.new (w.alloc (.cells #[.int .i64 ka, .slice A n c] t)) [.int .i64 kb, .slice B m d] t
  rw [World.size_alloc] at h2
  exact ⟨_, rfl, (BxW.new w [_, _] t).of ((Below.refl _ _).alloc (Nat.le_refl _) _), h2, ((Below.refl _ _).alloc (Nat.le_refl _) _).alloc (by simp) _, by simp⟩
end Go.Proofs.YtfdihjjnlmhibaaGreat
end
section
namespace Go.Proofs.YtfdihjjnlmhibaaGreat
open Go Go.RowKit
set_option maxRecDepth 100000
set_option linter.unusedSimpArgs false
set_option linter.unusedVariables false
attribute [local go_sem ↓ high] eq_cg neq_cg
set_option maxHeartbeats 4000000 in
theorem slices_EqualG (A B : Option Addr) (n c m d : Nat) (l r : List Chg) (w : World) (hR : Rd encG 4 w A n l) (hS : Rd encG 4 w B m r) (hn : n ≤ 1000000) (hm : m ≤ 1000000) :
    Calls Tryz.prog 45 #[.slice A n c, .slice B m d] w fun e w' => e = .returned (.bool (decide (l = r))) ∧ Below w.heap.size w w' := by
  have hRl := Lib.hid hR.len
  have hSl := Lib.hid hS.len
  by_cases hnm : n = m
  · subst hnm
    go_enter Tryz.func45, Tryz.ntmps45
    go_wp2_with fail
    go_loopw [13] (fun i wr => ∃ j : Nat, i = .int .i64 j ∧ j ≤ n ∧ Hid (l.take j = r.take j) ∧ Below w.heap.size w wr) (fun i _ => n - (intOf i).toNat)
    case atStart => exact ⟨0, rfl, by omega, Lib.hid rfl, Below.refl _ _⟩
    case round =>
      obtain ⟨j, rfl, hj, heq, hb⟩ := hrel
      by_cases hlt : j < n
      · have dj : decide ((j : Int) < n) = true := decide_eq_true (by omega)
        have dj' : decide (j < n) = true := decide_eq_true hlt
        obtain ⟨x, y, s, t, bo, o, hx, rfl, hbo, g1, g2, g3, g4⟩ := (hR.of hb).chg hlt
        obtain ⟨x', y', s', t', bo', o', hx', rfl, hbo', g1', g2', g3', g4'⟩ := (hS.of hb).chg hlt
        by_cases hq : x = x' ∧ y = y' ∧ s = s' ∧ t = t'
        · have dq : decide (x = x' ∧ y = y' ∧ s = s' ∧ t = t') = true := decide_eq_true hq
          have hst := Lib.hid (take_eq_step heq.out hx.out (by obtain ⟨rfl, rfl, rfl, rfl⟩ := hq; exact hx'.out))
          clear hq
          go_wp2_with fail
          (refine wp_region_ext_lit (by kernel_rfl) (by kernel_rfl) ?_; (repeat (go_big_quiet_step (fail))); refine wpQuiet_nil ?_; intro _ hw'; obtain ⟨z1, hw''⟩ := hw'; subst hw''; have hs1 := z1.size; obtain ⟨hc1, hf1⟩ := bcell z1.below; (try simp only [World.size_alloc, World.size_setCell, World.size_drew] at hc1 hf1); (try simp at hs1))
          have hB1 : Below w.heap.size w z1.world := below_thru hb z1.below
          go_wp2_with fail
          go_roundw
          case rel => exact ⟨j + 1, by go_num, by omega, hst, hB1⟩
          case measure => simp [intOf]; omega
        · have dq : decide (x = x' ∧ y = y' ∧ s = s' ∧ t = t') = false := decide_eq_false hq
          have HE := Lib.hid (decide_eq_false (ne_at hx.out hx'.out (fun e => hq (by injection e with e1 e2; injection e2 with e2 e3; injection e3 with e3 e4; exact ⟨e1, e2, e3, e4⟩))))
          clear hq
          go_wp2_with fail
          (refine wp_region_ext_lit (by kernel_rfl) (by kernel_rfl) ?_; (repeat (go_big_quiet_step (fail))); refine wpQuiet_nil ?_; intro _ hw'; obtain ⟨z1, hw''⟩ := hw'; subst hw''; have hs1 := z1.size; obtain ⟨hc1, hf1⟩ := bcell z1.below; (try simp only [World.size_alloc, World.size_setCell, World.size_drew] at hc1 hf1); (try simp at hs1))
          have hB1 : Below w.heap.size w z1.world := below_thru hb z1.below
          go_wp2_with fail
          go_ret
          exact ⟨ret_boolS HE.out, hB1⟩
      · obtain rfl : j = n := by omega
        have dj : decide ((j : Int) < j) = false := decide_eq_false (by omega)
        have dj' : decide (j < j) = false := decide_eq_false (by omega)
        have HE := Lib.hid (decide_eq_true (show l = r by
          have := heq.out
          rwa [List.take_of_length_le (by rw [hRl.out]; exact Nat.le_refl _), List.take_of_length_le (by rw [hSl.out]; exact Nat.le_refl _)] at this))
        go_wp2_with fail
        go_ret
        exact ⟨ret_boolS HE.out, hb⟩
  · have HE := Lib.hid (decide_eq_false (show ¬ l = r from fun e => hnm (by rw [← hRl.out, ← hSl.out, e])))
    have dn : ((n : Int) != m) = true := by simp; omega
    have dn' : (n != m) = true := by simpa using hnm
    have dn2 : (n : Int) = m ↔ False := by constructor; omega; exact False.elim
    go_enter Tryz.func45, Tryz.ntmps45
    go_wp2_with fail
    go_ret
    exact ⟨ret_boolS HE.out, by (repeat' (first | exact Below.refl _ _ | assumption | (refine Below.alloc ?_ ?_ _) | (refine Below.setCell ?_ ?_ _) | (refine Below.drew ?_) | (refine below_drewN ?_ _) | (refine below_after (Ext.below _) ?_ ?_) | (refine below_after (by assumption) ?_ ?_) | (simp; done) | omega | (simp; omega)))⟩
/-- Two frames' boxes. -/
theorem two_boxesF2 (w : World) (g g' : Int) (fu fu' : Bool) (h1 h2 h1' h2' : Hdl) (t : TypeId) : ∃ we, we = (w.alloc (.cells #[.int .i64 g, .bool fu, .slice h1.1 h1.2.1 h1.2.2, .slice h2.1 h2.2.1 h2.2.2] t)).alloc (.cells #[.int .i64 g', .bool fu', .slice h1'.1 h1'.2.1 h1'.2.2, .slice h2'.1 h2'.2.1 h2'.2.2] t) ∧
    BxW we w.heap.size [.int .i64 g, .bool fu, .slice h1.1 h1.2.1 h1.2.2, .slice h2.1 h2.2.1 h2.2.2] ∧ BxW we (w.heap.size + 1) [.int .i64 g', .bool fu', .slice h1'.1 h1'.2.1 h1'.2.2, .slice h2'.1 h2'.2.1 h2'.2.2] ∧ Below w.heap.size w we := by
  have h2 := BxW.new (w.alloc (.cells #[.int .i64 g, .bool fu, .slice h1.1 h1.2.1 h1.2.2, .slice h2.1 h2.2.1 h2.2.2] t)) [.int .i64 g', .bool fu', .slice h1'.1 h1'.2.1 h1'.2.2, .slice h2'.1 h2'.2.1 h2'.2.2] t
  rw [World.size_alloc] at h2
  exact ⟨_, rfl, (BxW.new w [_, _, _, _] t).of ((Below.refl _ _).alloc (Nat.le_refl _) _), h2, ((Below.refl _ _).alloc (Nat.le_refl _) _).alloc (by simp) _⟩
noncomputable def frS (f f' : TFr) : Bool := @decide (f = f') (Classical.propDecidable _)
theorem frS_no {f f' : TFr} (h : f ≠ f') : frS f f' = false := @decide_eq_false _ (Classical.propDecidable _) h
theorem frS_yes {f f' : TFr} (h : f = f') : frS f f' = true := @decide_eq_true _ (Classical.propDecidable _) h
set_option maxHeartbeats 8000000 in
theorem tl_same1 (g g' : Int) (fu fu' : Bool) (CA DA CA' DA' : Option Addr) (cn cc dn dc cn' cc' dn' dc' : Nat) (C C' : List Cel) (D D' : List Chg) (w : World) (hC : Rd encC 3 w CA cn C) (hD : Rd encG 4 w DA dn D) (hC' : Rd encC 3 w CA' cn' C') (hD' : Rd encG 4 w DA' dn' D') (sc : cn ≤ 1000000) (sd : dn ≤ 1000000) (sd' : dn' ≤ 1000000) :
    Calls Tryz.prog 44 #[.agg #[.int .i64 g, .bool fu, .slice CA cn cc, .slice DA dn dc], .agg #[.int .i64 g', .bool fu', .slice CA' cn' cc', .slice DA' dn' dc']] w fun e w' => e = .returned (.bool (frS (g, fu, C, D) (g', fu', C', D'))) ∧ Below w.heap.size w w' := by
  have kS := fun w1 h1 h2 => pat_Same CA CA' cn cn' cc cc' C C' w1 h1 h2 sc
  have kD := fun w1 h1 h2 => slices_EqualG DA DA' dn dc dn' dc' D D' w1 h1 h2 sd sd'
  by_cases q1 : g = g'
  · subst q1
    by_cases q2 : fu = fu'
    · subst q2
      by_cases q3 : C = C'
      · have e3 : sameL C C' = true := by unfold sameL; exact decide_eq_true q3
        rw [e3] at kS
        by_cases q4 : D = D'
        · have e4 : decide (D = D') = true := decide_eq_true q4
          rw [e4] at kD
          have HE := Lib.hid (frS_yes (show ((g, fu, C, D) : TFr) = (g, fu, C', D') by rw [q3, q4]))
          clear q3 q4
          go_enter Tryz.func44, Tryz.ntmps44
          go_wp2_with fail
          obtain ⟨we, hwe, hxb, hyb, hB⟩ := two_boxesF2 w g g fu fu (CA, cn, cc) (DA, dn, dc) (CA', cn', cc') (DA', dn', dc') 36
          simp only at hwe hxb hyb
          rw [← hwe]
          clear hwe
          obtain ⟨xb, hxe⟩ : ∃ xb, xb = w.heap.size := ⟨_, rfl⟩
          obtain ⟨yb, hye⟩ : ∃ yb, yb = w.heap.size + 1 := ⟨_, rfl⟩
          rw [← hxe] at hxb
          rw [← hye] at hyb
          rw [← hye, ← hxe]
          have hxq := Lib.hid hxe
          clear hxe hye
          replace hC := hC.of hB
          replace hD := hD.of hB
          replace hC' := hC'.of hB
          replace hD' := hD'.of hB
          have ⟨_, x0, x1, x2, x3, _, _, _, _⟩ := hxb.open4
          have ⟨_, y0, y1, y2, y3, _, _, _, _⟩ := hyb.open4
          go_wp2_with fail
          go_at_call 26
          refine (kS _ hC hC').mono ?_
          rintro e1 w1 ⟨rfl, hb1⟩
          clear x0 x1 x2 x3 y0 y1 y2 y3
          replace hxb := hxb.of hb1
          replace hyb := hyb.of hb1
          replace hD := hD.of hb1
          replace hD' := hD'.of hb1
          replace hB := below_thru hB hb1
          have ⟨_, x0, x1, x2, x3, _, _, _, _⟩ := hxb.open4
          have ⟨_, y0, y1, y2, y3, _, _, _, _⟩ := hyb.open4
          go_wp2_with fail
          go_at_call 45
          refine (kD _ hD hD').mono ?_
          rintro e2 w2 ⟨rfl, hb2⟩
          replace hB := below_thru hB hb2
          go_wp2_with fail
          go_ret
          exact ⟨ret_boolS HE.out, by first | exact hB | (rw [hxq.out]; exact hB)⟩
        · have e4 : decide (D = D') = false := decide_eq_false q4
          rw [e4] at kD
          have HE := Lib.hid (frS_no (show ((g, fu, C, D) : TFr) ≠ (g, fu, C', D') from fun e => q4 (by injection e with _ e; injection e with _ e; injection e)))
          go_enter Tryz.func44, Tryz.ntmps44
          go_wp2_with fail
          obtain ⟨we, hwe, hxb, hyb, hB⟩ := two_boxesF2 w g g fu fu (CA, cn, cc) (DA, dn, dc) (CA', cn', cc') (DA', dn', dc') 36
          simp only at hwe hxb hyb
          rw [← hwe]
          clear hwe
          obtain ⟨xb, hxe⟩ : ∃ xb, xb = w.heap.size := ⟨_, rfl⟩
          obtain ⟨yb, hye⟩ : ∃ yb, yb = w.heap.size + 1 := ⟨_, rfl⟩
          rw [← hxe] at hxb
          rw [← hye] at hyb
          rw [← hye, ← hxe]
          have hxq := Lib.hid hxe
          clear hxe hye
          replace hC := hC.of hB
          replace hD := hD.of hB
          replace hC' := hC'.of hB
          replace hD' := hD'.of hB
          have ⟨_, x0, x1, x2, x3, _, _, _, _⟩ := hxb.open4
          have ⟨_, y0, y1, y2, y3, _, _, _, _⟩ := hyb.open4
          go_wp2_with fail
          go_at_call 26
          refine (kS _ hC hC').mono ?_
          rintro e1 w1 ⟨rfl, hb1⟩
          clear x0 x1 x2 x3 y0 y1 y2 y3
          replace hxb := hxb.of hb1
          replace hyb := hyb.of hb1
          replace hD := hD.of hb1
          replace hD' := hD'.of hb1
          replace hB := below_thru hB hb1
          have ⟨_, x0, x1, x2, x3, _, _, _, _⟩ := hxb.open4
          have ⟨_, y0, y1, y2, y3, _, _, _, _⟩ := hyb.open4
          go_wp2_with fail
          go_at_call 45
          refine (kD _ hD hD').mono ?_
          rintro e2 w2 ⟨rfl, hb2⟩
          replace hB := below_thru hB hb2
          go_wp2_with fail
          go_ret
          exact ⟨ret_boolS HE.out, by first | exact hB | (rw [hxq.out]; exact hB)⟩
      · have e3 : sameL C C' = false := by unfold sameL; exact decide_eq_false q3
        rw [e3] at kS
        have HE := Lib.hid (frS_no (show ((g, fu, C, D) : TFr) ≠ (g, fu, C', D') from fun e => q3 (by injection e with _ e; injection e with _ e; injection e)))
        go_enter Tryz.func44, Tryz.ntmps44
        go_wp2_with fail
        obtain ⟨we, hwe, hxb, hyb, hB⟩ := two_boxesF2 w g g fu fu (CA, cn, cc) (DA, dn, dc) (CA', cn', cc') (DA', dn', dc') 36
        simp only at hwe hxb hyb
        rw [← hwe]
        clear hwe
        obtain ⟨xb, hxe⟩ : ∃ xb, xb = w.heap.size := ⟨_, rfl⟩
        obtain ⟨yb, hye⟩ : ∃ yb, yb = w.heap.size + 1 := ⟨_, rfl⟩
        rw [← hxe] at hxb
        rw [← hye] at hyb
        rw [← hye, ← hxe]
        have hxq := Lib.hid hxe
        clear hxe hye
        replace hC := hC.of hB
        replace hD := hD.of hB
        replace hC' := hC'.of hB
        replace hD' := hD'.of hB
        have ⟨_, x0, x1, x2, x3, _, _, _, _⟩ := hxb.open4
        have ⟨_, y0, y1, y2, y3, _, _, _, _⟩ := hyb.open4
        go_wp2_with fail
        go_at_call 26
        refine (kS _ hC hC').mono ?_
        rintro e1 w1 ⟨rfl, hb1⟩
        clear x0 x1 x2 x3 y0 y1 y2 y3
        replace hxb := hxb.of hb1
        replace hyb := hyb.of hb1
        replace hD := hD.of hb1
        replace hD' := hD'.of hb1
        replace hB := below_thru hB hb1
        have ⟨_, x0, x1, x2, x3, _, _, _, _⟩ := hxb.open4
        have ⟨_, y0, y1, y2, y3, _, _, _, _⟩ := hyb.open4
        go_wp2_with fail
        go_ret
        exact ⟨ret_boolS HE.out, by first | exact hB | (rw [hxq.out]; exact hB)⟩
    · have HE := Lib.hid (frS_no (show ((g, fu, C, D) : TFr) ≠ (g, fu', C', D') from fun e => q2 (by injection e with _ e; injection e)))
      have dq : (fu == fu') = false := by simpa using q2
      go_enter Tryz.func44, Tryz.ntmps44
      go_wp2_with fail
      obtain ⟨we, hwe, hxb, hyb, hB⟩ := two_boxesF2 w g g fu fu' (CA, cn, cc) (DA, dn, dc) (CA', cn', cc') (DA', dn', dc') 36
      simp only at hwe hxb hyb
      rw [← hwe]
      clear hwe
      obtain ⟨xb, hxe⟩ : ∃ xb, xb = w.heap.size := ⟨_, rfl⟩
      obtain ⟨yb, hye⟩ : ∃ yb, yb = w.heap.size + 1 := ⟨_, rfl⟩
      rw [← hxe] at hxb
      rw [← hye] at hyb
      rw [← hye, ← hxe]
      have hxq := Lib.hid hxe
      clear hxe hye
      replace hC := hC.of hB
      replace hD := hD.of hB
      replace hC' := hC'.of hB
      replace hD' := hD'.of hB
      have ⟨_, x0, x1, x2, x3, _, _, _, _⟩ := hxb.open4
      have ⟨_, y0, y1, y2, y3, _, _, _, _⟩ := hyb.open4
      go_wp2_with fail
      go_ret
      exact ⟨ret_boolS HE.out, by first | exact hB | (rw [hxq.out]; exact hB)⟩
  · have HE := Lib.hid (frS_no (show ((g, fu, C, D) : TFr) ≠ (g', fu', C', D') from fun e => q1 (by injection e)))
    have dq : (g == g') = false := by simpa using q1
    go_enter Tryz.func44, Tryz.ntmps44
    go_wp2_with fail
    obtain ⟨we, hwe, hxb, hyb, hB⟩ := two_boxesF2 w g g' fu fu' (CA, cn, cc) (DA, dn, dc) (CA', cn', cc') (DA', dn', dc') 36
    simp only at hwe hxb hyb
    rw [← hwe]
    clear hwe
    obtain ⟨xb, hxe⟩ : ∃ xb, xb = w.heap.size := ⟨_, rfl⟩
    obtain ⟨yb, hye⟩ : ∃ yb, yb = w.heap.size + 1 := ⟨_, rfl⟩
    rw [← hxe] at hxb
    rw [← hye] at hyb
    rw [← hye, ← hxe]
    have hxq := Lib.hid hxe
    clear hxe hye
    replace hC := hC.of hB
    replace hD := hD.of hB
    replace hC' := hC'.of hB
    replace hD' := hD'.of hB
    have ⟨_, x0, x1, x2, x3, _, _, _, _⟩ := hxb.open4
    have ⟨_, y0, y1, y2, y3, _, _, _, _⟩ := hyb.open4
    go_wp2_with fail
    go_ret
    exact ⟨ret_boolS HE.out, by first | exact hB | (rw [hxq.out]; exact hB)⟩
end Go.Proofs.YtfdihjjnlmhibaaGreat
end
section
namespace Go.Proofs.YtfdihjjnlmhibaaGreat
open Go Go.RowKit
set_option maxRecDepth 100000
set_option linter.unusedSimpArgs false
set_option linter.unusedVariables false
set_option maxHeartbeats 8000000 in
theorem fr_EqualFunc (k : Int) (A B : Option Addr) (n c m d : Nat) (fa fb : List TFr) (w : World) (hF : RdX ekFr w A n fa) (hG : RdX ekFr w B m fb) (hsa : SmT fa) (hsb : SmT fb) (hn : n ≤ 1000000) :
    Calls Tryz.prog 43 #[.slice A n c, .slice B m d, .func (.func 44) #[] #[]] w fun e w' => e = .returned (.bool (tlS k fa k fb)) ∧ Below w.heap.size w w' := by
  have hFl := Lib.hid hF.len
  have hGl := Lib.hid hG.len
  by_cases hnm : n = m
  · subst hnm
    go_enter Tryz.func43, Tryz.ntmps43
    go_wp2_with fail
    go_loopw [17] (fun i wr => ∃ j : Nat, i = .int .i64 j ∧ j ≤ n ∧ Hid (fa.take j = fb.take j) ∧ Below w.heap.size w wr) (fun i _ => n - (intOf i).toNat)
    case atStart => exact ⟨0, rfl, by omega, Lib.hid rfl, Below.refl _ _⟩
    case round =>
      obtain ⟨j, rfl, hj, heq, hb⟩ := hrel
      have hsz := hb.size
      by_cases hlt : j < n
      · have dj : decide ((j : Int) < n) = true := decide_eq_true (by omega)
        have dj' : decide (j < n) = true := decide_eq_true hlt
        obtain ⟨g, fu, C, D, CA, cn, cc, DA, dn, dc, bo, o, hx, rfl, hbo, g1, g2, g3, g4, hC, hcc, hD, hdc⟩ := (hF.of hb).frm hlt
        obtain ⟨g', fu', C', D', CA', cn', cc', DA', dn', dc', bo', o', hx', rfl, hbo', g1', g2', g3', g4', hC', hcc', hD', hdc'⟩ := (hG.of hb).frm hlt
        have sc : cn ≤ 1000000 := by rw [← hC.len]; exact (hsa.at_ hx.out).1
        have sd : dn ≤ 1000000 := by rw [← hD.len]; exact (hsa.at_ hx.out).2
        have sd' : dn' ≤ 1000000 := by rw [← hD'.len]; exact (hsb.at_ hx'.out).2
        have kS := fun w1 h1 h2 h3 h4 => tl_same1 g g' fu fu' CA DA CA' DA' cn cc dn dc cn' cc' dn' dc' C C' D D' w1 h1 h2 h3 h4 sc sd sd'
        by_cases hq : ((g, fu, C, D) : TFr) = (g', fu', C', D')
        · have hst := Lib.hid (take_eq_step heq.out hx.out (by rw [hx'.out, hq]))
          rw [frS_yes hq] at kS
          clear hq
          go_wp2_with fail
          go_at_call 44
          refine (kS _ (hC.of (by (repeat' (first | exact Below.refl _ _ | assumption | (refine Below.alloc ?_ ?_ _) | (refine Below.setCell ?_ ?_ _) | (refine Below.drew ?_) | (refine below_drewN ?_ _) | (refine below_after (Ext.below _) ?_ ?_) | (refine below_after (by assumption) ?_ ?_) | (simp; done) | omega | (simp; omega))))) (hD.of (by (repeat' (first | exact Below.refl _ _ | assumption | (refine Below.alloc ?_ ?_ _) | (refine Below.setCell ?_ ?_ _) | (refine Below.drew ?_) | (refine below_drewN ?_ _) | (refine below_after (Ext.below _) ?_ ?_) | (refine below_after (by assumption) ?_ ?_) | (simp; done) | omega | (simp; omega))))) (hC'.of (by (repeat' (first | exact Below.refl _ _ | assumption | (refine Below.alloc ?_ ?_ _) | (refine Below.setCell ?_ ?_ _) | (refine Below.drew ?_) | (refine below_drewN ?_ _) | (refine below_after (Ext.below _) ?_ ?_) | (refine below_after (by assumption) ?_ ?_) | (simp; done) | omega | (simp; omega))))) (hD'.of (by (repeat' (first | exact Below.refl _ _ | assumption | (refine Below.alloc ?_ ?_ _) | (refine Below.setCell ?_ ?_ _) | (refine Below.drew ?_) | (refine below_drewN ?_ _) | (refine below_after (Ext.below _) ?_ ?_) | (refine below_after (by assumption) ?_ ?_) | (simp; done) | omega | (simp; omega)))))).mono ?_
          rintro e1 w1 ⟨rfl, hb1⟩
          have hB1 : Below w.heap.size w w1 := below_thru (by (repeat' (first | exact Below.refl _ _ | assumption | (refine Below.alloc ?_ ?_ _) | (refine Below.setCell ?_ ?_ _) | (refine Below.drew ?_) | (refine below_drewN ?_ _) | (refine below_after (Ext.below _) ?_ ?_) | (refine below_after (by assumption) ?_ ?_) | (simp; done) | omega | (simp; omega)))) hb1
          go_wp2_with fail
          go_roundw
          case rel => exact ⟨j + 1, by go_num, by omega, hst, hB1⟩
          case measure => simp [intOf]; omega
        · have HE := Lib.hid (tlS_at (ka := k) (kb := k) hx.out hx'.out hq)
          rw [frS_no hq] at kS
          clear hq
          go_wp2_with fail
          go_at_call 44
          refine (kS _ (hC.of (by (repeat' (first | exact Below.refl _ _ | assumption | (refine Below.alloc ?_ ?_ _) | (refine Below.setCell ?_ ?_ _) | (refine Below.drew ?_) | (refine below_drewN ?_ _) | (refine below_after (Ext.below _) ?_ ?_) | (refine below_after (by assumption) ?_ ?_) | (simp; done) | omega | (simp; omega))))) (hD.of (by (repeat' (first | exact Below.refl _ _ | assumption | (refine Below.alloc ?_ ?_ _) | (refine Below.setCell ?_ ?_ _) | (refine Below.drew ?_) | (refine below_drewN ?_ _) | (refine below_after (Ext.below _) ?_ ?_) | (refine below_after (by assumption) ?_ ?_) | (simp; done) | omega | (simp; omega))))) (hC'.of (by (repeat' (first | exact Below.refl _ _ | assumption | (refine Below.alloc ?_ ?_ _) | (refine Below.setCell ?_ ?_ _) | (refine Below.drew ?_) | (refine below_drewN ?_ _) | (refine below_after (Ext.below _) ?_ ?_) | (refine below_after (by assumption) ?_ ?_) | (simp; done) | omega | (simp; omega))))) (hD'.of (by (repeat' (first | exact Below.refl _ _ | assumption | (refine Below.alloc ?_ ?_ _) | (refine Below.setCell ?_ ?_ _) | (refine Below.drew ?_) | (refine below_drewN ?_ _) | (refine below_after (Ext.below _) ?_ ?_) | (refine below_after (by assumption) ?_ ?_) | (simp; done) | omega | (simp; omega)))))).mono ?_
          rintro e1 w1 ⟨rfl, hb1⟩
          have hB1 : Below w.heap.size w w1 := below_thru (by (repeat' (first | exact Below.refl _ _ | assumption | (refine Below.alloc ?_ ?_ _) | (refine Below.setCell ?_ ?_ _) | (refine Below.drew ?_) | (refine below_drewN ?_ _) | (refine below_after (Ext.below _) ?_ ?_) | (refine below_after (by assumption) ?_ ?_) | (simp; done) | omega | (simp; omega)))) hb1
          go_wp2_with fail
          go_ret
          exact ⟨ret_boolS HE.out, hB1⟩
      · obtain rfl : j = n := by omega
        have dj : decide ((j : Int) < j) = false := decide_eq_false (by omega)
        have dj' : decide (j < j) = false := decide_eq_false (by omega)
        have HE := Lib.hid (tlS_all (k := k) hFl.out hGl.out heq.out)
        go_wp2_with fail
        go_ret
        exact ⟨ret_boolS HE.out, hb⟩
  · have HE := Lib.hid (tlS_len (ka := k) (kb := k) hFl.out hGl.out hnm)
    have dn : ((n : Int) != m) = true := by simp; omega
    have dn' : (n != m) = true := by simpa using hnm
    go_enter Tryz.func43, Tryz.ntmps43
    go_wp2_with fail
    go_ret
    exact ⟨ret_boolS HE.out, by (repeat' (first | exact Below.refl _ _ | assumption | (refine Below.alloc ?_ ?_ _) | (refine Below.setCell ?_ ?_ _) | (refine Below.drew ?_) | (refine below_drewN ?_ _) | (refine below_after (Ext.below _) ?_ ?_) | (refine below_after (by assumption) ?_ ?_) | (simp; done) | omega | (simp; omega)))⟩
set_option maxHeartbeats 8000000 in
theorem tl_Same (ka kb : Int) (A B : Option Addr) (n c m d : Nat) (fa fb : List TFr) (w : World) (hF : RdX ekFr w A n fa) (hG : RdX ekFr w B m fb) (hsa : SmT fa) (hsb : SmT fb) (hn : n ≤ 1000000) :
    Calls Tryz.prog 19 #[.agg #[.int .i64 ka, .slice A n c], .agg #[.int .i64 kb, .slice B m d]] w fun e w' => e = .returned (.bool (tlS ka fa kb fb)) ∧ Below w.heap.size w w' := by
  by_cases hk : ka = kb
  · subst hk
    have kE := fun w1 h1 h2 => fr_EqualFunc ka A B n c m d fa fb w1 h1 h2 hsa hsb hn
    generalize tlS ka fa ka fb = v at kE ⊢
    go_enter Tryz.func19, Tryz.ntmps19
    go_wp2_with fail
    go_at_call 43
    refine (kE _ (hF.of (by (repeat' (first | exact Below.refl _ _ | assumption | (refine Below.alloc ?_ ?_ _) | (refine Below.setCell ?_ ?_ _) | (refine Below.drew ?_) | (refine below_drewN ?_ _) | (refine below_after (Ext.below _) ?_ ?_) | (refine below_after (by assumption) ?_ ?_) | (simp; done) | omega | (simp; omega))))) (hG.of (by (repeat' (first | exact Below.refl _ _ | assumption | (refine Below.alloc ?_ ?_ _) | (refine Below.setCell ?_ ?_ _) | (refine Below.drew ?_) | (refine below_drewN ?_ _) | (refine below_after (Ext.below _) ?_ ?_) | (refine below_after (by assumption) ?_ ?_) | (simp; done) | omega | (simp; omega)))))).mono ?_
    rintro e1 w1 ⟨rfl, hb1⟩
    have hB1 : Below w.heap.size w w1 := below_thru (by (repeat' (first | exact Below.refl _ _ | assumption | (refine Below.alloc ?_ ?_ _) | (refine Below.setCell ?_ ?_ _) | (refine Below.drew ?_) | (refine below_drewN ?_ _) | (refine below_after (Ext.below _) ?_ ?_) | (refine below_after (by assumption) ?_ ?_) | (simp; done) | omega | (simp; omega)))) hb1
    go_wp2_with fail
    go_ret
    exact ⟨rfl, hB1⟩
  · have HE := Lib.hid (tlS_key (fa := fa) (fb := fb) hk)
    have dk : (ka == kb) = false := by simpa using hk
    go_enter Tryz.func19, Tryz.ntmps19
    go_wp2_with fail
    go_ret
    exact ⟨ret_boolS HE.out, by (repeat' (first | exact Below.refl _ _ | assumption | (refine Below.alloc ?_ ?_ _) | (refine Below.setCell ?_ ?_ _) | (refine Below.drew ?_) | (refine below_drewN ?_ _) | (refine below_after (Ext.below _) ?_ ?_) | (refine below_after (by assumption) ?_ ?_) | (simp; done) | omega | (simp; omega)))⟩
end Go.Proofs.YtfdihjjnlmhibaaGreat
end
