/- The reference's SameChanges and Same. The reference's Same. By mktim15.py. timeline.Same. timeline.Same. -/
import Derived.Test.YtabfefhicfmabaaGreatTim8
import Derived.Test.YtabfefhicfmabaaGreatTMC
import Derived.Test.YtabfefhicfmabaaGreatMEM
set_option linter.unusedSimpArgs false
set_option linter.unusedVariables false
section
namespace Go.Proofs.YtabfefhicfmabaaGreat
open Go Go.RowKit
set_option maxRecDepth 100000
attribute [local go_sem ↓ high] eq_cg neq_cg
theorem ret_boolS {a b : Bool} (h : b = a) : Ending.returned (.bool a) = .returned (.bool b) := by rw [h]
theorem take_eq_step {α : Type} {l r : List α} {j : Nat} {x : α} (h : l.take j = r.take j) (hl : l[j]? = some x) (hr : r[j]? = some x) : l.take (j + 1) = r.take (j + 1) := by
  rw [List.take_add_one, List.take_add_one, h, hl, hr]
theorem ne_at {α : Type} {l r : List α} {j : Nat} {x y : α} (hl : l[j]? = some x) (hr : r[j]? = some y) (h : x ≠ y) : l ≠ r := by
  intro e
  rw [e, hr] at hl
  injection hl with hl
  exact h hl.symm
set_option maxHeartbeats 4000000 in
theorem ref54_SameChanges (A B : Option Addr) (n c m d : Nat) (l r : List Chg) (w : World) (hR : Rd encG 4 w A n l) (hS : Rd encG 4 w B m r) (hn : n ≤ 1000000) (hm : m ≤ 1000000) :
    Calls Tryz.prog 34 #[.slice A n c, .slice B m d] w fun e w' => e = .returned (.bool (decide (l = r))) ∧ Below w.heap.size w w' := by
  have hRl := Lib.hid hR.len
  have hSl := Lib.hid hS.len
  by_cases hnm : n = m
  · subst hnm
    go_enter Tryz.func34, Tryz.ntmps34
    go_wp2_with fail
    go_loopw [5] (fun i wr => ∃ j : Nat, i = .int .i64 j ∧ j ≤ n ∧ Hid (l.take j = r.take j) ∧ Below w.heap.size w wr) (fun i _ => n - (intOf i).toNat)
    case atStart => exact ⟨0, rfl, by omega, Lib.hid rfl, Below.refl _ _⟩
    case round =>
      obtain ⟨j, rfl, hj, heq, hb⟩ := hrel
      by_cases hlt : j < n
      · have dj : decide ((j : Int) < n) = true := decide_eq_true (by omega)
        have dj' : decide (j < n) = true := decide_eq_true hlt
        obtain ⟨x, y, s, t, bo, o, hx, rfl, hbo, g1, g2, g3, g4⟩ := (hR.of hb).chg hlt
        obtain ⟨x', y', s', t', bo', o', hx', rfl, hbo', g1', g2', g3', g4'⟩ := (hS.of hb).chg hlt
        by_cases hq : x = x' ∧ y = y' ∧ s = s' ∧ t = t'
        · have dq : decide (x = x' ∧ y = y' ∧ s = s' ∧ t = t') = true := decide_eq_true hq
          have hst := Lib.hid (take_eq_step heq.out hx.out (by obtain ⟨rfl, rfl, rfl, rfl⟩ := hq; exact hx'.out))
          clear hq
          go_wp2_with fail
          (refine wp_region_ext_lit (by kernel_rfl) (by kernel_rfl) ?_; (repeat (go_big_quiet_step (fail))); refine wpQuiet_nil ?_; intro _ hw'; obtain ⟨z1, hw''⟩ := hw'; subst hw''; have hs1 := z1.size; obtain ⟨hc1, hf1⟩ := bcell z1.below; (try simp only [World.size_alloc, World.size_setCell, World.size_drew] at hc1 hf1); (try simp at hs1))
          have hB1 : Below w.heap.size w z1.world := below_thru hb z1.below
          go_wp2_with fail
          go_roundw
          case rel => exact ⟨j + 1, by go_num, by omega, hst, hB1⟩
          case measure => simp [intOf]; omega
        · have dq : decide (x = x' ∧ y = y' ∧ s = s' ∧ t = t') = false := decide_eq_false hq
          have HE := Lib.hid (decide_eq_false (ne_at hx.out hx'.out (fun e => hq (by injection e with e1 e2; injection e2 with e2 e3; injection e3 with e3 e4; exact ⟨e1, e2, e3, e4⟩))))
          clear hq
          go_wp2_with fail
          (refine wp_region_ext_lit (by kernel_rfl) (by kernel_rfl) ?_; (repeat (go_big_quiet_step (fail))); refine wpQuiet_nil ?_; intro _ hw'; obtain ⟨z1, hw''⟩ := hw'; subst hw''; have hs1 := z1.size; obtain ⟨hc1, hf1⟩ := bcell z1.below; (try simp only [World.size_alloc, World.size_setCell, World.size_drew] at hc1 hf1); (try simp at hs1))
          have hB1 : Below w.heap.size w z1.world := below_thru hb z1.below
          go_wp2_with fail
          go_ret
          exact ⟨ret_boolS HE.out, hB1⟩
      · obtain rfl : j = n := by omega
        have dj : decide ((j : Int) < j) = false := decide_eq_false (by omega)
        have dj' : decide (j < j) = false := decide_eq_false (by omega)
        have HE := Lib.hid (decide_eq_true (show l = r by
          have := heq.out
          rwa [List.take_of_length_le (by rw [hRl.out]; exact Nat.le_refl _), List.take_of_length_le (by rw [hSl.out]; exact Nat.le_refl _)] at this))
        go_wp2_with fail
        go_ret
        exact ⟨ret_boolS HE.out, hb⟩
  · have HE := Lib.hid (decide_eq_false (show ¬ l = r from fun e => hnm (by rw [← hRl.out, ← hSl.out, e])))
    have dn : ((n : Int) != m) = true := by simp; omega
    have dn' : (n != m) = true := by simpa using hnm
    have dn2 : (n : Int) = m ↔ False := by constructor; omega; exact False.elim
    go_enter Tryz.func34, Tryz.ntmps34
    go_wp2_with fail
    go_ret
    exact ⟨ret_boolS HE.out, by (repeat' (first | exact Below.refl _ _ | assumption | (refine Below.alloc ?_ ?_ _) | (refine Below.setCell ?_ ?_ _) | (refine Below.drew ?_) | (refine below_drewN ?_ _) | (refine below_after (Ext.below _) ?_ ?_) | (refine below_after (by assumption) ?_ ?_) | (simp; done) | omega | (simp; omega)))⟩
end Go.Proofs.YtabfefhicfmabaaGreat
end
section
namespace Go.Proofs.YtabfefhicfmabaaGreat
open Go Go.RowKit
set_option maxRecDepth 100000
/-- Two timelines are equal. -/
noncomputable def tlS (ka : Int) (fa : List TFr) (kb : Int) (fb : List TFr) : Bool := @decide (ka = kb ∧ fa = fb) (Classical.propDecidable _)
theorem tlS_key {ka kb : Int} {fa fb : List TFr} (h : ka ≠ kb) : tlS ka fa kb fb = false := @decide_eq_false _ (Classical.propDecidable _) fun e => h e.1
theorem tlS_len {ka kb : Int} {fa fb : List TFr} {n m : Nat} (ha : fa.length = n) (hb : fb.length = m) (h : n ≠ m) : tlS ka fa kb fb = false := @decide_eq_false _ (Classical.propDecidable _) fun e => h (by rw [← ha, ← hb, e.2])
theorem tlS_at {ka kb : Int} {fa fb : List TFr} {j : Nat} {x y : TFr} (ha : fa[j]? = some x) (hb : fb[j]? = some y) (h : x ≠ y) : tlS ka fa kb fb = false := @decide_eq_false _ (Classical.propDecidable _) fun e => ne_at ha hb h e.2
theorem tlS_all {k : Int} {fa fb : List TFr} {n : Nat} (ha : fa.length = n) (hb : fb.length = n) (h : fa.take n = fb.take n) : tlS k fa k fb = true := by
  rw [List.take_of_length_le (by omega), List.take_of_length_le (by omega)] at h
  exact @decide_eq_true _ (Classical.propDecidable _) ⟨rfl, h⟩
/-- Two timelines' boxes. -/
theorem two_boxesS (w : World) (ka kb : Int) (A B : Option Addr) (n c m d : Nat) (t : TypeId) : ∃ we, we = (w.alloc (.cells #[.int .i64 ka, .slice A n c] t)).alloc (.cells #[.int .i64 kb, .slice B m d] t) ∧
    BxW we w.heap.size [.int .i64 ka, .slice A n c] ∧ BxW we (w.heap.size + 1) [.int .i64 kb, .slice B m d] ∧ Below w.heap.size w we ∧ we.heap.size = w.heap.size + 2 := by
  have h2 := BxW.new (w.alloc (.cells #[.int .i64 ka, .slice A n c] t)) [.int .i64 kb, .slice B m d] t
  rw [World.size_alloc] at h2
  exact ⟨_, rfl, (BxW.new w [_, _] t).of ((Below.refl _ _).alloc (Nat.le_refl _) _), h2, ((Below.refl _ _).alloc (Nat.le_refl _) _).alloc (by simp) _, by simp⟩
set_option maxHeartbeats 16000000 in
theorem ref54_Same (ka kb : Int) (A B : Option Addr) (n c m d : Nat) (fa fb : List TFr) (w : World) (hF : RdX ekFr w A n fa) (hG : RdX ekFr w B m fb) (hsa : SmT fa) (hsb : SmT fb) (hn : n ≤ 1000000) :
    Calls Tryz.prog 19 #[.agg #[.int .i64 ka, .slice A n c], .agg #[.int .i64 kb, .slice B m d]] w fun e w' => e = .returned (.bool (tlS ka fa kb fb)) ∧ Below w.heap.size w w' := by
  have hFl := Lib.hid hF.len
  have hGl := Lib.hid hG.len
  by_cases hk : ka = kb
  · by_cases hnm : n = m
    · subst hnm
      subst hk
      go_enter Tryz.func19, Tryz.ntmps19
      go_wp2_with fail
      obtain ⟨we, hwe, hxb, hyb, hB, hsw⟩ := two_boxesS w ka ka A B n c n d 34
      rw [← hwe]
      clear hwe
      obtain ⟨xb, hxe⟩ : ∃ xb, xb = w.heap.size := ⟨_, rfl⟩
      obtain ⟨yb, hye⟩ : ∃ yb, yb = w.heap.size + 1 := ⟨_, rfl⟩
      rw [← hxe] at hxb
      rw [← hye] at hyb
      rw [← hye, ← hxe]
      have hxq := Lib.hid hxe
      clear hxe hye
      replace hF := hF.of hB
      replace hG := hG.of hB
      have ⟨_, x0, x1, _, _⟩ := hxb.open2
      have ⟨_, y0, y1, _, _⟩ := hyb.open2
      go_wp2_with fail
      clear x0 x1 y0 y1
      go_loopw [5] (fun i wr => ∃ j : Nat, i = .int .i64 j ∧ j ≤ n ∧ Hid (fa.take j = fb.take j) ∧ Below we.heap.size we wr) (fun i _ => n - (intOf i).toNat)
      case atStart => exact ⟨0, rfl, by omega, Lib.hid rfl, Below.refl _ _⟩
      case round =>
        obtain ⟨j, rfl, hj, heq, hb⟩ := hrel
        have ⟨_, x0, x1, _, _⟩ := (hxb.of hb).open2
        have ⟨_, y0, y1, _, _⟩ := (hyb.of hb).open2
        have hB1 : Below w.heap.size w wr := below_thru hB hb
        have hsz := hb.size
        by_cases hlt : j < n
        · have dj : decide ((j : Int) < n) = true := decide_eq_true (by omega)
          have dj' : decide (j < n) = true := decide_eq_true hlt
          obtain ⟨g, fu, C, D, CA, cn, cc, DA, dn, dc, bo, o, hx, rfl, hbo, g1, g2, g3, g4, hC, hcc, hD, hdc⟩ := (hF.of hb).frm hlt
          obtain ⟨g', fu', C', D', CA', cn', cc', DA', dn', dc', bo', o', hx', rfl, hbo', g1', g2', g3', g4', hC', hcc', hD', hdc'⟩ := (hG.of hb).frm hlt
          have sc : cn ≤ 1000000 := by rw [← hC.len]; exact (hsa.at_ hx.out).1
          have sd : dn ≤ 1000000 := by rw [← hD.len]; exact (hsa.at_ hx.out).2
          have sc' : cn' ≤ 1000000 := by rw [← hC'.len]; exact (hsb.at_ hx'.out).1
          have sd' : dn' ≤ 1000000 := by rw [← hD'.len]; exact (hsb.at_ hx'.out).2
          have kS := fun w1 h1 h2 => ref05_Same CA CA' cn cn' cc cc' C C' w1 h1 h2 sc sc'
          have kD := fun w1 h1 h2 => ref54_SameChanges DA DA' dn dc dn' dc' D D' w1 h1 h2 sd sd'
          by_cases q1 : g = g'
          · subst q1
            by_cases q2 : fu = fu'
            · subst q2
              by_cases q3 : C = C'
              · have e3 : sameL C C' = true := by unfold sameL; exact decide_eq_true q3
                rw [e3] at kS
                by_cases q4 : D = D'
                · have e4 : decide (D = D') = true := decide_eq_true q4
                  rw [e4] at kD
                  have hst := Lib.hid (take_eq_step heq.out hx.out (by rw [hx'.out, q3, q4]))
                  clear q3 q4
                  go_wp2_with fail
                  (refine' wp_region_fresh2 [false, false, false, false, false, false, false, false, false, false, true, true, true, true] 10 12 6 33 54 (.agg #[.int .i64 0, .bool false, .slice none 0 0, .slice none 0 0]) _ 11 13 7 38 54 (.agg #[.int .i64 0, .bool false, .slice none 0 0, .slice none 0 0]) _ (fun u hu => ?hqh5) (by kernel_rfl) (by kernel_rfl) (by kernel_rfl) (by kernel_rfl) rfl rfl Tryz.zeroValue54 rfl rfl Tryz.zeroValue54 ?s1h5 ?s2h5 ?s3h5 (by decide) ?s4h5 ?s5h5 ?s6h5 ?s7h5 ?s8h5 ?s9h5 ?s10h5 ?s11h5 ?finh5; (case hqh5 => (obtain ⟨hcu, hfu⟩ := bcell hu; have hsu := hu.size; simp only [stripM, blankO]; (repeat (go_big_quiet_step (fail))); refine wpQuiet_nil ?_; rfl)); (case s1h5 => rfl); (case s2h5 => simp); (case s3h5 => simp); (case s4h5 => rfl); (case s5h5 => kernel_rfl); (case s6h5 => rfl); (case s7h5 => simp [Value.oneCell']); (case s8h5 => rfl); (case s9h5 => kernel_rfl); (case s10h5 => rfl); (case s11h5 => simp [Value.oneCell']); intro bk5 bj5 w5 hbl5 hbh5 hbl'5 hbh'5 hbb5 hb5 hh5 hj5; obtain ⟨hc5, hf5⟩ := bcell hb5; have hs5 := hb5.size; have hk5 := cellOf_row hh5; have hl5 := frozenOf_row hh5; have hk'5 := cellOf_row hj5; have hl'5 := frozenOf_row hj5; clear hh5 hj5; (try simp only [World.size_alloc, World.size_setCell, World.size_drew] at hc5 hf5); (try simp at hs5 hbl5 hbl'5); simp only [Act.put, List.setIfInBounds_toArray, List.set_cons_zero, List.set_cons_succ])
                  have hB5 : Below w.heap.size w w5 := below_thru hB1 hb5
                  have hBe5 : Below we.heap.size we w5 := below_thru hb hb5
                  have hC5 := hC.of hb5
                  have hC5' := hC'.of hb5
                  have hD5 := hD.of hb5
                  have hD5' := hD'.of hb5
                  have u0 : w5.cell? ⟨bk5, 0, none⟩ = some (.int .i64 g) := by rw [hc5, if_neg (by omega), hk5]; rfl
                  have u1 : w5.cell? ⟨bk5, 1, none⟩ = some (.bool fu) := by rw [hc5, if_neg (by omega), hk5]; rfl
                  have u2 : w5.cell? ⟨bk5, 2, none⟩ = some (.slice CA cn cc) := by rw [hc5, if_neg (by omega), hk5]; rfl
                  have u3 : w5.cell? ⟨bk5, 3, none⟩ = some (.slice DA dn dc) := by rw [hc5, if_neg (by omega), hk5]; rfl
                  have v0 : w5.cell? ⟨bj5, 0, none⟩ = some (.int .i64 g) := by rw [hc5, if_neg (by omega), hk'5]; rfl
                  have v1 : w5.cell? ⟨bj5, 1, none⟩ = some (.bool fu) := by rw [hc5, if_neg (by omega), hk'5]; rfl
                  have v2 : w5.cell? ⟨bj5, 2, none⟩ = some (.slice CA' cn' cc') := by rw [hc5, if_neg (by omega), hk'5]; rfl
                  have v3 : w5.cell? ⟨bj5, 3, none⟩ = some (.slice DA' dn' dc') := by rw [hc5, if_neg (by omega), hk'5]; rfl
                  clear hc5 hf5 hk5 hk'5 hl5 hl'5 g1 g2 g3 g4 g1' g2' g3' g4' x0 x1 y0 y1
                  go_wp2_with fail
                  go_at_call 22
                  refine (kS _ hC5 hC5').mono ?_
                  rintro e1 w1 ⟨rfl, hb1⟩
                  have hs1 := hb1.size
                  have hB6 : Below w.heap.size w w1 := below_thru hB5 hb1
                  have hBe6 : Below we.heap.size we w1 := below_thru hBe5 hb1
                  have hD6 := hD5.of hb1
                  have hD6' := hD5'.of hb1
                  have u3n := (hb1.cell (p := ⟨_, _, none⟩) hbh5).trans u3
                  have v3n := (hb1.cell (p := ⟨_, _, none⟩) hbh'5).trans v3
                  clear u0 u1 u2 u3 v0 v1 v2 v3
                  go_wp2_with fail
                  go_at_call 34
                  refine (kD _ hD6 hD6').mono ?_
                  rintro e2 w2 ⟨rfl, hb2⟩
                  have hB7 : Below w.heap.size w w2 := below_thru hB6 hb2
                  have hBe7 : Below we.heap.size we w2 := below_thru hBe6 hb2
                  go_wp2_with fail
                  go_roundw
                  case rel => exact ⟨j + 1, by go_num, by omega, hst, hBe7⟩
                  case measure => simp [intOf]; omega
                · skip
                  have HE := Lib.hid (tlS_at (ka := ka) (kb := ka) hx.out hx'.out (fun e => q4 (by injection e with _ e; injection e with _ e; injection e)))
                  have e4 : decide (D = D') = false := decide_eq_false q4
                  rw [e4] at kD
                  go_wp2_with fail
                  (refine' wp_region_fresh2 [false, false, false, false, false, false, false, false, false, false, true, true, true, true] 10 12 6 33 54 (.agg #[.int .i64 0, .bool false, .slice none 0 0, .slice none 0 0]) _ 11 13 7 38 54 (.agg #[.int .i64 0, .bool false, .slice none 0 0, .slice none 0 0]) _ (fun u hu => ?hqh6) (by kernel_rfl) (by kernel_rfl) (by kernel_rfl) (by kernel_rfl) rfl rfl Tryz.zeroValue54 rfl rfl Tryz.zeroValue54 ?s1h6 ?s2h6 ?s3h6 (by decide) ?s4h6 ?s5h6 ?s6h6 ?s7h6 ?s8h6 ?s9h6 ?s10h6 ?s11h6 ?finh6; (case hqh6 => (obtain ⟨hcu, hfu⟩ := bcell hu; have hsu := hu.size; simp only [stripM, blankO]; (repeat (go_big_quiet_step (fail))); refine wpQuiet_nil ?_; rfl)); (case s1h6 => rfl); (case s2h6 => simp); (case s3h6 => simp); (case s4h6 => rfl); (case s5h6 => kernel_rfl); (case s6h6 => rfl); (case s7h6 => simp [Value.oneCell']); (case s8h6 => rfl); (case s9h6 => kernel_rfl); (case s10h6 => rfl); (case s11h6 => simp [Value.oneCell']); intro bk6 bj6 w6 hbl6 hbh6 hbl'6 hbh'6 hbb6 hb6 hh6 hj6; obtain ⟨hc6, hf6⟩ := bcell hb6; have hs6 := hb6.size; have hk6 := cellOf_row hh6; have hl6 := frozenOf_row hh6; have hk'6 := cellOf_row hj6; have hl'6 := frozenOf_row hj6; clear hh6 hj6; (try simp only [World.size_alloc, World.size_setCell, World.size_drew] at hc6 hf6); (try simp at hs6 hbl6 hbl'6); simp only [Act.put, List.setIfInBounds_toArray, List.set_cons_zero, List.set_cons_succ])
                  have hB5 : Below w.heap.size w w6 := below_thru hB1 hb6
                  have hBe5 : Below we.heap.size we w6 := below_thru hb hb6
                  have hC5 := hC.of hb6
                  have hC5' := hC'.of hb6
                  have hD5 := hD.of hb6
                  have hD5' := hD'.of hb6
                  have u0 : w6.cell? ⟨bk6, 0, none⟩ = some (.int .i64 g) := by rw [hc6, if_neg (by omega), hk6]; rfl
                  have u1 : w6.cell? ⟨bk6, 1, none⟩ = some (.bool fu) := by rw [hc6, if_neg (by omega), hk6]; rfl
                  have u2 : w6.cell? ⟨bk6, 2, none⟩ = some (.slice CA cn cc) := by rw [hc6, if_neg (by omega), hk6]; rfl
                  have u3 : w6.cell? ⟨bk6, 3, none⟩ = some (.slice DA dn dc) := by rw [hc6, if_neg (by omega), hk6]; rfl
                  have v0 : w6.cell? ⟨bj6, 0, none⟩ = some (.int .i64 g) := by rw [hc6, if_neg (by omega), hk'6]; rfl
                  have v1 : w6.cell? ⟨bj6, 1, none⟩ = some (.bool fu) := by rw [hc6, if_neg (by omega), hk'6]; rfl
                  have v2 : w6.cell? ⟨bj6, 2, none⟩ = some (.slice CA' cn' cc') := by rw [hc6, if_neg (by omega), hk'6]; rfl
                  have v3 : w6.cell? ⟨bj6, 3, none⟩ = some (.slice DA' dn' dc') := by rw [hc6, if_neg (by omega), hk'6]; rfl
                  clear hc6 hf6 hk6 hk'6 hl6 hl'6 g1 g2 g3 g4 g1' g2' g3' g4' x0 x1 y0 y1
                  go_wp2_with fail
                  go_at_call 22
                  refine (kS _ hC5 hC5').mono ?_
                  rintro e1 w1 ⟨rfl, hb1⟩
                  have hs1 := hb1.size
                  have hB6 : Below w.heap.size w w1 := below_thru hB5 hb1
                  have hBe6 : Below we.heap.size we w1 := below_thru hBe5 hb1
                  have hD6 := hD5.of hb1
                  have hD6' := hD5'.of hb1
                  have u3n := (hb1.cell (p := ⟨_, _, none⟩) hbh6).trans u3
                  have v3n := (hb1.cell (p := ⟨_, _, none⟩) hbh'6).trans v3
                  clear u0 u1 u2 u3 v0 v1 v2 v3
                  go_wp2_with fail
                  go_at_call 34
                  refine (kD _ hD6 hD6').mono ?_
                  rintro e2 w2 ⟨rfl, hb2⟩
                  have hB7 : Below w.heap.size w w2 := below_thru hB6 hb2
                  have hBe7 : Below we.heap.size we w2 := below_thru hBe6 hb2
                  go_wp2_with fail
                  go_ret
                  exact ⟨ret_boolS HE.out, by first | exact hB7 | (rw [hxq.out]; exact hB7)⟩
              · skip
                have HE := Lib.hid (tlS_at (ka := ka) (kb := ka) hx.out hx'.out (fun e => q3 (by injection e with _ e; injection e with _ e; injection e)))
                have e3 : sameL C C' = false := by unfold sameL; exact decide_eq_false q3
                rw [e3] at kS
                go_wp2_with fail
                (refine' wp_region_fresh2 [false, false, false, false, false, false, false, false, false, false, true, true, true, true] 10 12 6 33 54 (.agg #[.int .i64 0, .bool false, .slice none 0 0, .slice none 0 0]) _ 11 13 7 38 54 (.agg #[.int .i64 0, .bool false, .slice none 0 0, .slice none 0 0]) _ (fun u hu => ?hqh7) (by kernel_rfl) (by kernel_rfl) (by kernel_rfl) (by kernel_rfl) rfl rfl Tryz.zeroValue54 rfl rfl Tryz.zeroValue54 ?s1h7 ?s2h7 ?s3h7 (by decide) ?s4h7 ?s5h7 ?s6h7 ?s7h7 ?s8h7 ?s9h7 ?s10h7 ?s11h7 ?finh7; (case hqh7 => (obtain ⟨hcu, hfu⟩ := bcell hu; have hsu := hu.size; simp only [stripM, blankO]; (repeat (go_big_quiet_step (fail))); refine wpQuiet_nil ?_; rfl)); (case s1h7 => rfl); (case s2h7 => simp); (case s3h7 => simp); (case s4h7 => rfl); (case s5h7 => kernel_rfl); (case s6h7 => rfl); (case s7h7 => simp [Value.oneCell']); (case s8h7 => rfl); (case s9h7 => kernel_rfl); (case s10h7 => rfl); (case s11h7 => simp [Value.oneCell']); intro bk7 bj7 w7 hbl7 hbh7 hbl'7 hbh'7 hbb7 hb7 hh7 hj7; obtain ⟨hc7, hf7⟩ := bcell hb7; have hs7 := hb7.size; have hk7 := cellOf_row hh7; have hl7 := frozenOf_row hh7; have hk'7 := cellOf_row hj7; have hl'7 := frozenOf_row hj7; clear hh7 hj7; (try simp only [World.size_alloc, World.size_setCell, World.size_drew] at hc7 hf7); (try simp at hs7 hbl7 hbl'7); simp only [Act.put, List.setIfInBounds_toArray, List.set_cons_zero, List.set_cons_succ])
                have hB5 : Below w.heap.size w w7 := below_thru hB1 hb7
                have hBe5 : Below we.heap.size we w7 := below_thru hb hb7
                have hC5 := hC.of hb7
                have hC5' := hC'.of hb7
                have hD5 := hD.of hb7
                have hD5' := hD'.of hb7
                have u0 : w7.cell? ⟨bk7, 0, none⟩ = some (.int .i64 g) := by rw [hc7, if_neg (by omega), hk7]; rfl
                have u1 : w7.cell? ⟨bk7, 1, none⟩ = some (.bool fu) := by rw [hc7, if_neg (by omega), hk7]; rfl
                have u2 : w7.cell? ⟨bk7, 2, none⟩ = some (.slice CA cn cc) := by rw [hc7, if_neg (by omega), hk7]; rfl
                have u3 : w7.cell? ⟨bk7, 3, none⟩ = some (.slice DA dn dc) := by rw [hc7, if_neg (by omega), hk7]; rfl
                have v0 : w7.cell? ⟨bj7, 0, none⟩ = some (.int .i64 g) := by rw [hc7, if_neg (by omega), hk'7]; rfl
                have v1 : w7.cell? ⟨bj7, 1, none⟩ = some (.bool fu) := by rw [hc7, if_neg (by omega), hk'7]; rfl
                have v2 : w7.cell? ⟨bj7, 2, none⟩ = some (.slice CA' cn' cc') := by rw [hc7, if_neg (by omega), hk'7]; rfl
                have v3 : w7.cell? ⟨bj7, 3, none⟩ = some (.slice DA' dn' dc') := by rw [hc7, if_neg (by omega), hk'7]; rfl
                clear hc7 hf7 hk7 hk'7 hl7 hl'7 g1 g2 g3 g4 g1' g2' g3' g4' x0 x1 y0 y1
                go_wp2_with fail
                go_at_call 22
                refine (kS _ hC5 hC5').mono ?_
                rintro e1 w1 ⟨rfl, hb1⟩
                have hs1 := hb1.size
                have hB6 : Below w.heap.size w w1 := below_thru hB5 hb1
                have hBe6 : Below we.heap.size we w1 := below_thru hBe5 hb1
                have hD6 := hD5.of hb1
                have hD6' := hD5'.of hb1
                have u3n := (hb1.cell (p := ⟨_, _, none⟩) hbh7).trans u3
                have v3n := (hb1.cell (p := ⟨_, _, none⟩) hbh'7).trans v3
                clear u0 u1 u2 u3 v0 v1 v2 v3
                go_wp2_with fail
                go_ret
                exact ⟨ret_boolS HE.out, by first | exact hB6 | (rw [hxq.out]; exact hB6)⟩
            · skip
              have HE := Lib.hid (tlS_at (ka := ka) (kb := ka) hx.out hx'.out (fun e => q2 (by injection e with _ e2; injection e2)))
              have dq : (fu != fu') = true := by simpa using q2
              go_wp2_with fail
              (refine' wp_region_fresh2 [false, false, false, false, false, false, false, false, false, false, true, true, true, true] 10 12 6 33 54 (.agg #[.int .i64 0, .bool false, .slice none 0 0, .slice none 0 0]) _ 11 13 7 38 54 (.agg #[.int .i64 0, .bool false, .slice none 0 0, .slice none 0 0]) _ (fun u hu => ?hqh8) (by kernel_rfl) (by kernel_rfl) (by kernel_rfl) (by kernel_rfl) rfl rfl Tryz.zeroValue54 rfl rfl Tryz.zeroValue54 ?s1h8 ?s2h8 ?s3h8 (by decide) ?s4h8 ?s5h8 ?s6h8 ?s7h8 ?s8h8 ?s9h8 ?s10h8 ?s11h8 ?finh8; (case hqh8 => (obtain ⟨hcu, hfu⟩ := bcell hu; have hsu := hu.size; simp only [stripM, blankO]; (repeat (go_big_quiet_step (fail))); refine wpQuiet_nil ?_; rfl)); (case s1h8 => rfl); (case s2h8 => simp); (case s3h8 => simp); (case s4h8 => rfl); (case s5h8 => kernel_rfl); (case s6h8 => rfl); (case s7h8 => simp [Value.oneCell']); (case s8h8 => rfl); (case s9h8 => kernel_rfl); (case s10h8 => rfl); (case s11h8 => simp [Value.oneCell']); intro bk8 bj8 w8 hbl8 hbh8 hbl'8 hbh'8 hbb8 hb8 hh8 hj8; obtain ⟨hc8, hf8⟩ := bcell hb8; have hs8 := hb8.size; have hk8 := cellOf_row hh8; have hl8 := frozenOf_row hh8; have hk'8 := cellOf_row hj8; have hl'8 := frozenOf_row hj8; clear hh8 hj8; (try simp only [World.size_alloc, World.size_setCell, World.size_drew] at hc8 hf8); (try simp at hs8 hbl8 hbl'8); simp only [Act.put, List.setIfInBounds_toArray, List.set_cons_zero, List.set_cons_succ])
              have hB5 : Below w.heap.size w w8 := below_thru hB1 hb8
              have hBe5 : Below we.heap.size we w8 := below_thru hb hb8
              have hC5 := hC.of hb8
              have hC5' := hC'.of hb8
              have hD5 := hD.of hb8
              have hD5' := hD'.of hb8
              go_wp2_with fail
              go_ret
              exact ⟨ret_boolS HE.out, by first | exact hB5 | (rw [hxq.out]; exact hB5)⟩
          · skip
            have HE := Lib.hid (tlS_at (ka := ka) (kb := ka) hx.out hx'.out (fun e => q1 (by injection e)))
            have dq : (g != g') = true := by simpa using q1
            go_wp2_with fail
            (refine' wp_region_fresh2 [false, false, false, false, false, false, false, false, false, false, true, true, true, true] 10 12 6 33 54 (.agg #[.int .i64 0, .bool false, .slice none 0 0, .slice none 0 0]) _ 11 13 7 38 54 (.agg #[.int .i64 0, .bool false, .slice none 0 0, .slice none 0 0]) _ (fun u hu => ?hqh9) (by kernel_rfl) (by kernel_rfl) (by kernel_rfl) (by kernel_rfl) rfl rfl Tryz.zeroValue54 rfl rfl Tryz.zeroValue54 ?s1h9 ?s2h9 ?s3h9 (by decide) ?s4h9 ?s5h9 ?s6h9 ?s7h9 ?s8h9 ?s9h9 ?s10h9 ?s11h9 ?finh9; (case hqh9 => (obtain ⟨hcu, hfu⟩ := bcell hu; have hsu := hu.size; simp only [stripM, blankO]; (repeat (go_big_quiet_step (fail))); refine wpQuiet_nil ?_; rfl)); (case s1h9 => rfl); (case s2h9 => simp); (case s3h9 => simp); (case s4h9 => rfl); (case s5h9 => kernel_rfl); (case s6h9 => rfl); (case s7h9 => simp [Value.oneCell']); (case s8h9 => rfl); (case s9h9 => kernel_rfl); (case s10h9 => rfl); (case s11h9 => simp [Value.oneCell']); intro bk9 bj9 w9 hbl9 hbh9 hbl'9 hbh'9 hbb9 hb9 hh9 hj9; obtain ⟨hc9, hf9⟩ := bcell hb9; have hs9 := hb9.size; have hk9 := cellOf_row hh9; have hl9 := frozenOf_row hh9; have hk'9 := cellOf_row hj9; have hl'9 := frozenOf_row hj9; clear hh9 hj9; (try simp only [World.size_alloc, World.size_setCell, World.size_drew] at hc9 hf9); (try simp at hs9 hbl9 hbl'9); simp only [Act.put, List.setIfInBounds_toArray, List.set_cons_zero, List.set_cons_succ])
            have hB5 : Below w.heap.size w w9 := below_thru hB1 hb9
            have hBe5 : Below we.heap.size we w9 := below_thru hb hb9
            have hC5 := hC.of hb9
            have hC5' := hC'.of hb9
            have hD5 := hD.of hb9
            have hD5' := hD'.of hb9
            go_wp2_with fail
            go_ret
            exact ⟨ret_boolS HE.out, by first | exact hB5 | (rw [hxq.out]; exact hB5)⟩
        · obtain rfl : j = n := by omega
          have dj : decide ((j : Int) < j) = false := decide_eq_false (by omega)
          have dj' : decide (j < j) = false := decide_eq_false (by omega)
          have HE := Lib.hid (tlS_all (k := ka) hFl.out hGl.out heq.out)
          go_wp2_with fail
          go_ret
          exact ⟨ret_boolS HE.out, by first | exact hB1 | (rw [hxq.out]; exact hB1)⟩
    · have HE := Lib.hid (tlS_len (ka := ka) (kb := kb) hFl.out hGl.out hnm)
      have dk : (ka != kb) = false := by simpa using hk
      have dn : ((n : Int) != m) = true := by simp; omega
      have dn' : (n != m) = true := by simpa using hnm
      clear hk
      go_enter Tryz.func19, Tryz.ntmps19
      go_wp2_with fail
      obtain ⟨we, hwe, hxb, hyb, hB, hsw⟩ := two_boxesS w ka kb A B n c m d 34
      rw [← hwe]
      clear hwe
      obtain ⟨xb, hxe⟩ : ∃ xb, xb = w.heap.size := ⟨_, rfl⟩
      obtain ⟨yb, hye⟩ : ∃ yb, yb = w.heap.size + 1 := ⟨_, rfl⟩
      rw [← hxe] at hxb
      rw [← hye] at hyb
      rw [← hye, ← hxe]
      have hxq := Lib.hid hxe
      clear hxe hye
      replace hF := hF.of hB
      replace hG := hG.of hB
      have ⟨_, x0, x1, _, _⟩ := hxb.open2
      have ⟨_, y0, y1, _, _⟩ := hyb.open2
      go_wp2_with fail
      go_wp2_with fail
      go_ret
      exact ⟨ret_boolS HE.out, by first | exact hB | (rw [hxq.out]; exact hB)⟩
  · have HE := Lib.hid (tlS_key (fa := fa) (fb := fb) hk)
    have dk : (ka != kb) = true := by simpa using hk
    go_enter Tryz.func19, Tryz.ntmps19
    go_wp2_with fail
    obtain ⟨we, hwe, hxb, hyb, hB, hsw⟩ := two_boxesS w ka kb A B n c m d 34
    rw [← hwe]
    clear hwe
    obtain ⟨xb, hxe⟩ : ∃ xb, xb = w.heap.size := ⟨_, rfl⟩
    obtain ⟨yb, hye⟩ : ∃ yb, yb = w.heap.size + 1 := ⟨_, rfl⟩
    rw [← hxe] at hxb
    rw [← hye] at hyb
    rw [← hye, ← hxe]
    have hxq := Lib.hid hxe
    clear hxe hye
    replace hF := hF.of hB
    replace hG := hG.of hB
    have ⟨_, x0, x1, _, _⟩ := hxb.open2
    have ⟨_, y0, y1, _, _⟩ := hyb.open2
    go_wp2_with fail
    go_wp2_with fail
    go_ret
    exact ⟨ret_boolS HE.out, by first | exact hB | (rw [hxq.out]; exact hB)⟩
end Go.Proofs.YtabfefhicfmabaaGreat
end
section
namespace Go.Proofs.YtabfefhicfmabaaGreat
open Go Go.RowKit
set_option maxRecDepth 100000
attribute [local go_sem ↓ high] eq_cg neq_cg
set_option maxHeartbeats 4000000 in
theorem slices_EqualG (A B : Option Addr) (n c m d : Nat) (l r : List Chg) (w : World) (hR : Rd encG 4 w A n l) (hS : Rd encG 4 w B m r) (hn : n ≤ 1000000) (hm : m ≤ 1000000) :
    Calls Tryz.prog 84 #[.slice A n c, .slice B m d] w fun e w' => e = .returned (.bool (decide (l = r))) ∧ Below w.heap.size w w' := by
  have hRl := Lib.hid hR.len
  have hSl := Lib.hid hS.len
  by_cases hnm : n = m
  · subst hnm
    go_enter Tryz.func84, Tryz.ntmps84
    go_wp2_with fail
    go_loopw [13] (fun i wr => ∃ j : Nat, i = .int .i64 j ∧ j ≤ n ∧ Hid (l.take j = r.take j) ∧ Below w.heap.size w wr) (fun i _ => n - (intOf i).toNat)
    case atStart => exact ⟨0, rfl, by omega, Lib.hid rfl, Below.refl _ _⟩
    case round =>
      obtain ⟨j, rfl, hj, heq, hb⟩ := hrel
      by_cases hlt : j < n
      · have dj : decide ((j : Int) < n) = true := decide_eq_true (by omega)
        have dj' : decide (j < n) = true := decide_eq_true hlt
        obtain ⟨x, y, s, t, bo, o, hx, rfl, hbo, g1, g2, g3, g4⟩ := (hR.of hb).chg hlt
        obtain ⟨x', y', s', t', bo', o', hx', rfl, hbo', g1', g2', g3', g4'⟩ := (hS.of hb).chg hlt
        by_cases hq : x = x' ∧ y = y' ∧ s = s' ∧ t = t'
        · have dq : decide (x = x' ∧ y = y' ∧ s = s' ∧ t = t') = true := decide_eq_true hq
          have hst := Lib.hid (take_eq_step heq.out hx.out (by obtain ⟨rfl, rfl, rfl, rfl⟩ := hq; exact hx'.out))
          clear hq
          go_wp2_with fail
          (refine wp_region_ext_lit (by kernel_rfl) (by kernel_rfl) ?_; (repeat (go_big_quiet_step (fail))); refine wpQuiet_nil ?_; intro _ hw'; obtain ⟨z1, hw''⟩ := hw'; subst hw''; have hs1 := z1.size; obtain ⟨hc1, hf1⟩ := bcell z1.below; (try simp only [World.size_alloc, World.size_setCell, World.size_drew] at hc1 hf1); (try simp at hs1))
          have hB1 : Below w.heap.size w z1.world := below_thru hb z1.below
          go_wp2_with fail
          go_roundw
          case rel => exact ⟨j + 1, by go_num, by omega, hst, hB1⟩
          case measure => simp [intOf]; omega
        · have dq : decide (x = x' ∧ y = y' ∧ s = s' ∧ t = t') = false := decide_eq_false hq
          have HE := Lib.hid (decide_eq_false (ne_at hx.out hx'.out (fun e => hq (by injection e with e1 e2; injection e2 with e2 e3; injection e3 with e3 e4; exact ⟨e1, e2, e3, e4⟩))))
          clear hq
          go_wp2_with fail
          (refine wp_region_ext_lit (by kernel_rfl) (by kernel_rfl) ?_; (repeat (go_big_quiet_step (fail))); refine wpQuiet_nil ?_; intro _ hw'; obtain ⟨z1, hw''⟩ := hw'; subst hw''; have hs1 := z1.size; obtain ⟨hc1, hf1⟩ := bcell z1.below; (try simp only [World.size_alloc, World.size_setCell, World.size_drew] at hc1 hf1); (try simp at hs1))
          have hB1 : Below w.heap.size w z1.world := below_thru hb z1.below
          go_wp2_with fail
          go_ret
          exact ⟨ret_boolS HE.out, hB1⟩
      · obtain rfl : j = n := by omega
        have dj : decide ((j : Int) < j) = false := decide_eq_false (by omega)
        have dj' : decide (j < j) = false := decide_eq_false (by omega)
        have HE := Lib.hid (decide_eq_true (show l = r by
          have := heq.out
          rwa [List.take_of_length_le (by rw [hRl.out]; exact Nat.le_refl _), List.take_of_length_le (by rw [hSl.out]; exact Nat.le_refl _)] at this))
        go_wp2_with fail
        go_ret
        exact ⟨ret_boolS HE.out, hb⟩
  · have HE := Lib.hid (decide_eq_false (show ¬ l = r from fun e => hnm (by rw [← hRl.out, ← hSl.out, e])))
    have dn : ((n : Int) != m) = true := by simp; omega
    have dn' : (n != m) = true := by simpa using hnm
    have dn2 : (n : Int) = m ↔ False := by constructor; omega; exact False.elim
    go_enter Tryz.func84, Tryz.ntmps84
    go_wp2_with fail
    go_ret
    exact ⟨ret_boolS HE.out, by (repeat' (first | exact Below.refl _ _ | assumption | (refine Below.alloc ?_ ?_ _) | (refine Below.setCell ?_ ?_ _) | (refine Below.drew ?_) | (refine below_drewN ?_ _) | (refine below_after (Ext.below _) ?_ ?_) | (refine below_after (by assumption) ?_ ?_) | (simp; done) | omega | (simp; omega)))⟩
/-- Two frames' boxes. -/
theorem two_boxesF2 (w : World) (g g' : Int) (fu fu' : Bool) (h1 h2 h1' h2' : Hdl) (t : TypeId) : ∃ we, we = (w.alloc (.cells #[.int .i64 g, .bool fu, .slice h1.1 h1.2.1 h1.2.2, .slice h2.1 h2.2.1 h2.2.2] t)).alloc (.cells #[.int .i64 g', .bool fu', .slice h1'.1 h1'.2.1 h1'.2.2, .slice h2'.1 h2'.2.1 h2'.2.2] t) ∧
    BxW we w.heap.size [.int .i64 g, .bool fu, .slice h1.1 h1.2.1 h1.2.2, .slice h2.1 h2.2.1 h2.2.2] ∧ BxW we (w.heap.size + 1) [.int .i64 g', .bool fu', .slice h1'.1 h1'.2.1 h1'.2.2, .slice h2'.1 h2'.2.1 h2'.2.2] ∧ Below w.heap.size w we := by
  have h2 := BxW.new (w.alloc (.cells #[.int .i64 g, .bool fu, .slice h1.1 h1.2.1 h1.2.2, .slice h2.1 h2.2.1 h2.2.2] t)) [.int .i64 g', .bool fu', .slice h1'.1 h1'.2.1 h1'.2.2, .slice h2'.1 h2'.2.1 h2'.2.2] t
  rw [World.size_alloc] at h2
  exact ⟨_, rfl, (BxW.new w [_, _, _, _] t).of ((Below.refl _ _).alloc (Nat.le_refl _) _), h2, ((Below.refl _ _).alloc (Nat.le_refl _) _).alloc (by simp) _⟩
noncomputable def frS (f f' : TFr) : Bool := @decide (f = f') (Classical.propDecidable _)
theorem frS_no {f f' : TFr} (h : f ≠ f') : frS f f' = false := @decide_eq_false _ (Classical.propDecidable _) h
theorem frS_yes {f f' : TFr} (h : f = f') : frS f f' = true := @decide_eq_true _ (Classical.propDecidable _) h
set_option maxHeartbeats 8000000 in
theorem tl_same1 (g g' : Int) (fu fu' : Bool) (CA DA CA' DA' : Option Addr) (cn cc dn dc cn' cc' dn' dc' : Nat) (C C' : List Cel) (D D' : List Chg) (w : World) (hC : Rd encC 3 w CA cn C) (hD : Rd encG 4 w DA dn D) (hC' : Rd encC 3 w CA' cn' C') (hD' : Rd encG 4 w DA' dn' D') (sc : cn ≤ 1000000) (sd : dn ≤ 1000000) (sd' : dn' ≤ 1000000) :
    Calls Tryz.prog 83 #[.agg #[.int .i64 g, .bool fu, .slice CA cn cc, .slice DA dn dc], .agg #[.int .i64 g', .bool fu', .slice CA' cn' cc', .slice DA' dn' dc']] w fun e w' => e = .returned (.bool (frS (g, fu, C, D) (g', fu', C', D'))) ∧ Below w.heap.size w w' := by
  have kS := fun w1 h1 h2 => pat_Same CA CA' cn cn' cc cc' C C' w1 h1 h2 sc
  have kD := fun w1 h1 h2 => slices_EqualG DA DA' dn dc dn' dc' D D' w1 h1 h2 sd sd'
  by_cases q1 : g = g'
  · subst q1
    by_cases q2 : fu = fu'
    · subst q2
      by_cases q3 : C = C'
      · have e3 : sameL C C' = true := by unfold sameL; exact decide_eq_true q3
        rw [e3] at kS
        by_cases q4 : D = D'
        · have e4 : decide (D = D') = true := decide_eq_true q4
          rw [e4] at kD
          have HE := Lib.hid (frS_yes (show ((g, fu, C, D) : TFr) = (g, fu, C', D') by rw [q3, q4]))
          clear q3 q4
          go_enter Tryz.func83, Tryz.ntmps83
          go_wp2_with fail
          obtain ⟨we, hwe, hxb, hyb, hB⟩ := two_boxesF2 w g g fu fu (CA, cn, cc) (DA, dn, dc) (CA', cn', cc') (DA', dn', dc') 54
          simp only at hwe hxb hyb
          rw [← hwe]
          clear hwe
          obtain ⟨xb, hxe⟩ : ∃ xb, xb = w.heap.size := ⟨_, rfl⟩
          obtain ⟨yb, hye⟩ : ∃ yb, yb = w.heap.size + 1 := ⟨_, rfl⟩
          rw [← hxe] at hxb
          rw [← hye] at hyb
          rw [← hye, ← hxe]
          have hxq := Lib.hid hxe
          clear hxe hye
          replace hC := hC.of hB
          replace hD := hD.of hB
          replace hC' := hC'.of hB
          replace hD' := hD'.of hB
          have ⟨_, x0, x1, x2, x3, _, _, _, _⟩ := hxb.open4
          have ⟨_, y0, y1, y2, y3, _, _, _, _⟩ := hyb.open4
          go_wp2_with fail
          go_at_call 73
          refine (kS _ hC hC').mono ?_
          rintro e1 w1 ⟨rfl, hb1⟩
          clear x0 x1 x2 x3 y0 y1 y2 y3
          replace hxb := hxb.of hb1
          replace hyb := hyb.of hb1
          replace hD := hD.of hb1
          replace hD' := hD'.of hb1
          replace hB := below_thru hB hb1
          have ⟨_, x0, x1, x2, x3, _, _, _, _⟩ := hxb.open4
          have ⟨_, y0, y1, y2, y3, _, _, _, _⟩ := hyb.open4
          go_wp2_with fail
          go_at_call 84
          refine (kD _ hD hD').mono ?_
          rintro e2 w2 ⟨rfl, hb2⟩
          replace hB := below_thru hB hb2
          go_wp2_with fail
          go_ret
          exact ⟨ret_boolS HE.out, by first | exact hB | (rw [hxq.out]; exact hB)⟩
        · have e4 : decide (D = D') = false := decide_eq_false q4
          rw [e4] at kD
          have HE := Lib.hid (frS_no (show ((g, fu, C, D) : TFr) ≠ (g, fu, C', D') from fun e => q4 (by injection e with _ e; injection e with _ e; injection e)))
          go_enter Tryz.func83, Tryz.ntmps83
          go_wp2_with fail
          obtain ⟨we, hwe, hxb, hyb, hB⟩ := two_boxesF2 w g g fu fu (CA, cn, cc) (DA, dn, dc) (CA', cn', cc') (DA', dn', dc') 54
          simp only at hwe hxb hyb
          rw [← hwe]
          clear hwe
          obtain ⟨xb, hxe⟩ : ∃ xb, xb = w.heap.size := ⟨_, rfl⟩
          obtain ⟨yb, hye⟩ : ∃ yb, yb = w.heap.size + 1 := ⟨_, rfl⟩
          rw [← hxe] at hxb
          rw [← hye] at hyb
          rw [← hye, ← hxe]
          have hxq := Lib.hid hxe
          clear hxe hye
          replace hC := hC.of hB
          replace hD := hD.of hB
          replace hC' := hC'.of hB
          replace hD' := hD'.of hB
          have ⟨_, x0, x1, x2, x3, _, _, _, _⟩ := hxb.open4
          have ⟨_, y0, y1, y2, y3, _, _, _, _⟩ := hyb.open4
          go_wp2_with fail
          go_at_call 73
          refine (kS _ hC hC').mono ?_
          rintro e1 w1 ⟨rfl, hb1⟩
          clear x0 x1 x2 x3 y0 y1 y2 y3
          replace hxb := hxb.of hb1
          replace hyb := hyb.of hb1
          replace hD := hD.of hb1
          replace hD' := hD'.of hb1
          replace hB := below_thru hB hb1
          have ⟨_, x0, x1, x2, x3, _, _, _, _⟩ := hxb.open4
          have ⟨_, y0, y1, y2, y3, _, _, _, _⟩ := hyb.open4
          go_wp2_with fail
          go_at_call 84
          refine (kD _ hD hD').mono ?_
          rintro e2 w2 ⟨rfl, hb2⟩
          replace hB := below_thru hB hb2
          go_wp2_with fail
          go_ret
          exact ⟨ret_boolS HE.out, by first | exact hB | (rw [hxq.out]; exact hB)⟩
      · have e3 : sameL C C' = false := by unfold sameL; exact decide_eq_false q3
        rw [e3] at kS
        have HE := Lib.hid (frS_no (show ((g, fu, C, D) : TFr) ≠ (g, fu, C', D') from fun e => q3 (by injection e with _ e; injection e with _ e; injection e)))
        go_enter Tryz.func83, Tryz.ntmps83
        go_wp2_with fail
        obtain ⟨we, hwe, hxb, hyb, hB⟩ := two_boxesF2 w g g fu fu (CA, cn, cc) (DA, dn, dc) (CA', cn', cc') (DA', dn', dc') 54
        simp only at hwe hxb hyb
        rw [← hwe]
        clear hwe
        obtain ⟨xb, hxe⟩ : ∃ xb, xb = w.heap.size := ⟨_, rfl⟩
        obtain ⟨yb, hye⟩ : ∃ yb, yb = w.heap.size + 1 := ⟨_, rfl⟩
        rw [← hxe] at hxb
        rw [← hye] at hyb
        rw [← hye, ← hxe]
        have hxq := Lib.hid hxe
        clear hxe hye
        replace hC := hC.of hB
        replace hD := hD.of hB
        replace hC' := hC'.of hB
        replace hD' := hD'.of hB
        have ⟨_, x0, x1, x2, x3, _, _, _, _⟩ := hxb.open4
        have ⟨_, y0, y1, y2, y3, _, _, _, _⟩ := hyb.open4
        go_wp2_with fail
        go_at_call 73
        refine (kS _ hC hC').mono ?_
        rintro e1 w1 ⟨rfl, hb1⟩
        clear x0 x1 x2 x3 y0 y1 y2 y3
        replace hxb := hxb.of hb1
        replace hyb := hyb.of hb1
        replace hD := hD.of hb1
        replace hD' := hD'.of hb1
        replace hB := below_thru hB hb1
        have ⟨_, x0, x1, x2, x3, _, _, _, _⟩ := hxb.open4
        have ⟨_, y0, y1, y2, y3, _, _, _, _⟩ := hyb.open4
        go_wp2_with fail
        go_ret
        exact ⟨ret_boolS HE.out, by first | exact hB | (rw [hxq.out]; exact hB)⟩
    · have HE := Lib.hid (frS_no (show ((g, fu, C, D) : TFr) ≠ (g, fu', C', D') from fun e => q2 (by injection e with _ e; injection e)))
      have dq : (fu == fu') = false := by simpa using q2
      go_enter Tryz.func83, Tryz.ntmps83
      go_wp2_with fail
      obtain ⟨we, hwe, hxb, hyb, hB⟩ := two_boxesF2 w g g fu fu' (CA, cn, cc) (DA, dn, dc) (CA', cn', cc') (DA', dn', dc') 54
      simp only at hwe hxb hyb
      rw [← hwe]
      clear hwe
      obtain ⟨xb, hxe⟩ : ∃ xb, xb = w.heap.size := ⟨_, rfl⟩
      obtain ⟨yb, hye⟩ : ∃ yb, yb = w.heap.size + 1 := ⟨_, rfl⟩
      rw [← hxe] at hxb
      rw [← hye] at hyb
      rw [← hye, ← hxe]
      have hxq := Lib.hid hxe
      clear hxe hye
      replace hC := hC.of hB
      replace hD := hD.of hB
      replace hC' := hC'.of hB
      replace hD' := hD'.of hB
      have ⟨_, x0, x1, x2, x3, _, _, _, _⟩ := hxb.open4
      have ⟨_, y0, y1, y2, y3, _, _, _, _⟩ := hyb.open4
      go_wp2_with fail
      go_ret
      exact ⟨ret_boolS HE.out, by first | exact hB | (rw [hxq.out]; exact hB)⟩
  · have HE := Lib.hid (frS_no (show ((g, fu, C, D) : TFr) ≠ (g', fu', C', D') from fun e => q1 (by injection e)))
    have dq : (g == g') = false := by simpa using q1
    go_enter Tryz.func83, Tryz.ntmps83
    go_wp2_with fail
    obtain ⟨we, hwe, hxb, hyb, hB⟩ := two_boxesF2 w g g' fu fu' (CA, cn, cc) (DA, dn, dc) (CA', cn', cc') (DA', dn', dc') 54
    simp only at hwe hxb hyb
    rw [← hwe]
    clear hwe
    obtain ⟨xb, hxe⟩ : ∃ xb, xb = w.heap.size := ⟨_, rfl⟩
    obtain ⟨yb, hye⟩ : ∃ yb, yb = w.heap.size + 1 := ⟨_, rfl⟩
    rw [← hxe] at hxb
    rw [← hye] at hyb
    rw [← hye, ← hxe]
    have hxq := Lib.hid hxe
    clear hxe hye
    replace hC := hC.of hB
    replace hD := hD.of hB
    replace hC' := hC'.of hB
    replace hD' := hD'.of hB
    have ⟨_, x0, x1, x2, x3, _, _, _, _⟩ := hxb.open4
    have ⟨_, y0, y1, y2, y3, _, _, _, _⟩ := hyb.open4
    go_wp2_with fail
    go_ret
    exact ⟨ret_boolS HE.out, by first | exact hB | (rw [hxq.out]; exact hB)⟩
end Go.Proofs.YtabfefhicfmabaaGreat
end
section
namespace Go.Proofs.YtabfefhicfmabaaGreat
open Go Go.RowKit
set_option maxRecDepth 100000
set_option maxHeartbeats 8000000 in
theorem fr_EqualFunc (k : Int) (A B : Option Addr) (n c m d : Nat) (fa fb : List TFr) (w : World) (hF : RdX ekFr w A n fa) (hG : RdX ekFr w B m fb) (hsa : SmT fa) (hsb : SmT fb) (hn : n ≤ 1000000) :
    Calls Tryz.prog 82 #[.slice A n c, .slice B m d, .func (.func 83) #[] #[]] w fun e w' => e = .returned (.bool (tlS k fa k fb)) ∧ Below w.heap.size w w' := by
  have hFl := Lib.hid hF.len
  have hGl := Lib.hid hG.len
  by_cases hnm : n = m
  · subst hnm
    go_enter Tryz.func82, Tryz.ntmps82
    go_wp2_with fail
    go_loopw [17] (fun i wr => ∃ j : Nat, i = .int .i64 j ∧ j ≤ n ∧ Hid (fa.take j = fb.take j) ∧ Below w.heap.size w wr) (fun i _ => n - (intOf i).toNat)
    case atStart => exact ⟨0, rfl, by omega, Lib.hid rfl, Below.refl _ _⟩
    case round =>
      obtain ⟨j, rfl, hj, heq, hb⟩ := hrel
      have hsz := hb.size
      by_cases hlt : j < n
      · have dj : decide ((j : Int) < n) = true := decide_eq_true (by omega)
        have dj' : decide (j < n) = true := decide_eq_true hlt
        obtain ⟨g, fu, C, D, CA, cn, cc, DA, dn, dc, bo, o, hx, rfl, hbo, g1, g2, g3, g4, hC, hcc, hD, hdc⟩ := (hF.of hb).frm hlt
        obtain ⟨g', fu', C', D', CA', cn', cc', DA', dn', dc', bo', o', hx', rfl, hbo', g1', g2', g3', g4', hC', hcc', hD', hdc'⟩ := (hG.of hb).frm hlt
        have sc : cn ≤ 1000000 := by rw [← hC.len]; exact (hsa.at_ hx.out).1
        have sd : dn ≤ 1000000 := by rw [← hD.len]; exact (hsa.at_ hx.out).2
        have sd' : dn' ≤ 1000000 := by rw [← hD'.len]; exact (hsb.at_ hx'.out).2
        have kS := fun w1 h1 h2 h3 h4 => tl_same1 g g' fu fu' CA DA CA' DA' cn cc dn dc cn' cc' dn' dc' C C' D D' w1 h1 h2 h3 h4 sc sd sd'
        by_cases hq : ((g, fu, C, D) : TFr) = (g', fu', C', D')
        · have hst := Lib.hid (take_eq_step heq.out hx.out (by rw [hx'.out, hq]))
          rw [frS_yes hq] at kS
          clear hq
          go_wp2_with fail
          go_at_call 83
          refine (kS _ (hC.of (by (repeat' (first | exact Below.refl _ _ | assumption | (refine Below.alloc ?_ ?_ _) | (refine Below.setCell ?_ ?_ _) | (refine Below.drew ?_) | (refine below_drewN ?_ _) | (refine below_after (Ext.below _) ?_ ?_) | (refine below_after (by assumption) ?_ ?_) | (simp; done) | omega | (simp; omega))))) (hD.of (by (repeat' (first | exact Below.refl _ _ | assumption | (refine Below.alloc ?_ ?_ _) | (refine Below.setCell ?_ ?_ _) | (refine Below.drew ?_) | (refine below_drewN ?_ _) | (refine below_after (Ext.below _) ?_ ?_) | (refine below_after (by assumption) ?_ ?_) | (simp; done) | omega | (simp; omega))))) (hC'.of (by (repeat' (first | exact Below.refl _ _ | assumption | (refine Below.alloc ?_ ?_ _) | (refine Below.setCell ?_ ?_ _) | (refine Below.drew ?_) | (refine below_drewN ?_ _) | (refine below_after (Ext.below _) ?_ ?_) | (refine below_after (by assumption) ?_ ?_) | (simp; done) | omega | (simp; omega))))) (hD'.of (by (repeat' (first | exact Below.refl _ _ | assumption | (refine Below.alloc ?_ ?_ _) | (refine Below.setCell ?_ ?_ _) | (refine Below.drew ?_) | (refine below_drewN ?_ _) | (refine below_after (Ext.below _) ?_ ?_) | (refine below_after (by assumption) ?_ ?_) | (simp; done) | omega | (simp; omega)))))).mono ?_
          rintro e1 w1 ⟨rfl, hb1⟩
          have hB1 : Below w.heap.size w w1 := below_thru (by (repeat' (first | exact Below.refl _ _ | assumption | (refine Below.alloc ?_ ?_ _) | (refine Below.setCell ?_ ?_ _) | (refine Below.drew ?_) | (refine below_drewN ?_ _) | (refine below_after (Ext.below _) ?_ ?_) | (refine below_after (by assumption) ?_ ?_) | (simp; done) | omega | (simp; omega)))) hb1
          go_wp2_with fail
          go_roundw
          case rel => exact ⟨j + 1, by go_num, by omega, hst, hB1⟩
          case measure => simp [intOf]; omega
        · have HE := Lib.hid (tlS_at (ka := k) (kb := k) hx.out hx'.out hq)
          rw [frS_no hq] at kS
          clear hq
          go_wp2_with fail
          go_at_call 83
          refine (kS _ (hC.of (by (repeat' (first | exact Below.refl _ _ | assumption | (refine Below.alloc ?_ ?_ _) | (refine Below.setCell ?_ ?_ _) | (refine Below.drew ?_) | (refine below_drewN ?_ _) | (refine below_after (Ext.below _) ?_ ?_) | (refine below_after (by assumption) ?_ ?_) | (simp; done) | omega | (simp; omega))))) (hD.of (by (repeat' (first | exact Below.refl _ _ | assumption | (refine Below.alloc ?_ ?_ _) | (refine Below.setCell ?_ ?_ _) | (refine Below.drew ?_) | (refine below_drewN ?_ _) | (refine below_after (Ext.below _) ?_ ?_) | (refine below_after (by assumption) ?_ ?_) | (simp; done) | omega | (simp; omega))))) (hC'.of (by (repeat' (first | exact Below.refl _ _ | assumption | (refine Below.alloc ?_ ?_ _) | (refine Below.setCell ?_ ?_ _) | (refine Below.drew ?_) | (refine below_drewN ?_ _) | (refine below_after (Ext.below _) ?_ ?_) | (refine below_after (by assumption) ?_ ?_) | (simp; done) | omega | (simp; omega))))) (hD'.of (by (repeat' (first | exact Below.refl _ _ | assumption | (refine Below.alloc ?_ ?_ _) | (refine Below.setCell ?_ ?_ _) | (refine Below.drew ?_) | (refine below_drewN ?_ _) | (refine below_after (Ext.below _) ?_ ?_) | (refine below_after (by assumption) ?_ ?_) | (simp; done) | omega | (simp; omega)))))).mono ?_
          rintro e1 w1 ⟨rfl, hb1⟩
          have hB1 : Below w.heap.size w w1 := below_thru (by (repeat' (first | exact Below.refl _ _ | assumption | (refine Below.alloc ?_ ?_ _) | (refine Below.setCell ?_ ?_ _) | (refine Below.drew ?_) | (refine below_drewN ?_ _) | (refine below_after (Ext.below _) ?_ ?_) | (refine below_after (by assumption) ?_ ?_) | (simp; done) | omega | (simp; omega)))) hb1
          go_wp2_with fail
          go_ret
          exact ⟨ret_boolS HE.out, hB1⟩
      · obtain rfl : j = n := by omega
        have dj : decide ((j : Int) < j) = false := decide_eq_false (by omega)
        have dj' : decide (j < j) = false := decide_eq_false (by omega)
        have HE := Lib.hid (tlS_all (k := k) hFl.out hGl.out heq.out)
        go_wp2_with fail
        go_ret
        exact ⟨ret_boolS HE.out, hb⟩
  · have HE := Lib.hid (tlS_len (ka := k) (kb := k) hFl.out hGl.out hnm)
    have dn : ((n : Int) != m) = true := by simp; omega
    have dn' : (n != m) = true := by simpa using hnm
    go_enter Tryz.func82, Tryz.ntmps82
    go_wp2_with fail
    go_ret
    exact ⟨ret_boolS HE.out, by (repeat' (first | exact Below.refl _ _ | assumption | (refine Below.alloc ?_ ?_ _) | (refine Below.setCell ?_ ?_ _) | (refine Below.drew ?_) | (refine below_drewN ?_ _) | (refine below_after (Ext.below _) ?_ ?_) | (refine below_after (by assumption) ?_ ?_) | (simp; done) | omega | (simp; omega)))⟩
set_option maxHeartbeats 8000000 in
theorem tl_Same (ka kb : Int) (A B : Option Addr) (n c m d : Nat) (fa fb : List TFr) (w : World) (hF : RdX ekFr w A n fa) (hG : RdX ekFr w B m fb) (hsa : SmT fa) (hsb : SmT fb) (hn : n ≤ 1000000) :
    Calls Tryz.prog 35 #[.agg #[.int .i64 ka, .slice A n c], .agg #[.int .i64 kb, .slice B m d]] w fun e w' => e = .returned (.bool (tlS ka fa kb fb)) ∧ Below w.heap.size w w' := by
  by_cases hk : ka = kb
  · subst hk
    have kE := fun w1 h1 h2 => fr_EqualFunc ka A B n c m d fa fb w1 h1 h2 hsa hsb hn
    generalize tlS ka fa ka fb = v at kE ⊢
    go_enter Tryz.func35, Tryz.ntmps35
    go_wp2_with fail
    go_at_call 82
    refine (kE _ (hF.of (by (repeat' (first | exact Below.refl _ _ | assumption | (refine Below.alloc ?_ ?_ _) | (refine Below.setCell ?_ ?_ _) | (refine Below.drew ?_) | (refine below_drewN ?_ _) | (refine below_after (Ext.below _) ?_ ?_) | (refine below_after (by assumption) ?_ ?_) | (simp; done) | omega | (simp; omega))))) (hG.of (by (repeat' (first | exact Below.refl _ _ | assumption | (refine Below.alloc ?_ ?_ _) | (refine Below.setCell ?_ ?_ _) | (refine Below.drew ?_) | (refine below_drewN ?_ _) | (refine below_after (Ext.below _) ?_ ?_) | (refine below_after (by assumption) ?_ ?_) | (simp; done) | omega | (simp; omega)))))).mono ?_
    rintro e1 w1 ⟨rfl, hb1⟩
    have hB1 : Below w.heap.size w w1 := below_thru (by (repeat' (first | exact Below.refl _ _ | assumption | (refine Below.alloc ?_ ?_ _) | (refine Below.setCell ?_ ?_ _) | (refine Below.drew ?_) | (refine below_drewN ?_ _) | (refine below_after (Ext.below _) ?_ ?_) | (refine below_after (by assumption) ?_ ?_) | (simp; done) | omega | (simp; omega)))) hb1
    go_wp2_with fail
    go_ret
    exact ⟨rfl, hB1⟩
  · have HE := Lib.hid (tlS_key (fa := fa) (fb := fb) hk)
    have dk : (ka == kb) = false := by simpa using hk
    go_enter Tryz.func35, Tryz.ntmps35
    go_wp2_with fail
    go_ret
    exact ⟨ret_boolS HE.out, by (repeat' (first | exact Below.refl _ _ | assumption | (refine Below.alloc ?_ ?_ _) | (refine Below.setCell ?_ ?_ _) | (refine Below.drew ?_) | (refine below_drewN ?_ _) | (refine below_after (Ext.below _) ?_ ?_) | (refine below_after (by assumption) ?_ ?_) | (simp; done) | omega | (simp; omega)))⟩
end Go.Proofs.YtabfefhicfmabaaGreat
end
