/- The contract of the reference's Value. The contract of tree.Right: the first refusals. The contract of tree.Right: the last node's level, the loops, and all together. The contract of tree.Right: the loops, and all together. The contract of the reference of tree.Right. The contracts of tree.Quiet and its reference. -/
import Derived.Test.YtmenokhnanghgaaGreatProg
import Derived.Test.YtmenokhnanghgaaGreatMEM
import Derived.Test.YtmenokhnanghgaaGreatPLN
import Derived.Test.YtmenokhnanghgaaGreatCEL
import Derived.Deep.OwnRows
import Derived.Deep.RegionHeld3
set_option linter.unusedSimpArgs false
set_option linter.unusedVariables false
section
namespace Go.Proofs.YtmenokhnanghgaaGreat
open Go Go.RowKit
set_option maxRecDepth 100000
def TrAt (w : World) (b : Nat) (x y z : Value) : Prop := b < w.heap.size ∧ w.cell? ⟨b, 0, none⟩ = some x ∧ w.cell? ⟨b, 1, none⟩ = some y ∧ w.cell? ⟨b, 2, none⟩ = some z
theorem TrAt.of {w w' : World} {b : Nat} {x y z : Value} (h : TrAt w b x y z) (hb : Below w.heap.size w w') : TrAt w' b x y z :=
  ⟨Nat.lt_of_lt_of_le h.1 hb.size, by rw [hb.cell (p := ⟨_, _, none⟩) h.1]; exact h.2.1, by rw [hb.cell (p := ⟨_, _, none⟩) h.1]; exact h.2.2.1, by rw [hb.cell (p := ⟨_, _, none⟩) h.1]; exact h.2.2.2⟩
theorem TrAt.new (w : World) (x y z : Value) (t : TypeId) : TrAt (w.alloc (.cells #[x, y, z] t)) w.heap.size x y z := by
  refine ⟨by simp, ?_, ?_, ?_⟩ <;> simp [cell_alloc_if]
end Go.Proofs.YtmenokhnanghgaaGreat
end
section
namespace Go.Proofs.YtmenokhnanghgaaGreat
open Go Go.RowKit
set_option maxRecDepth 100000
set_option maxHeartbeats 2000000 in
theorem tree_Right_head (st : Int) (A B : Option Addr) (n c m d : Nat) (H : List (Int × Int)) (N : List (Int × List Int)) (w : World) (hH : Rd encP 2 w A n H) (hN : RdX ekN w B m N) (hbad : st < 2 ∨ 8 < st ∨ rightL H = false ∨ m < 1 ∨ 4096 < m) :
    Calls Tryz.prog 50 #[.agg #[.int .i64 st, .slice A n c, .slice B m d]] w fun e w' => e = .returned (.bool (trR st H N)) ∧ Below w.heap.size w w' := by
  have hNl := hN.len
  have HE := Lib.hid (show trR st H N = false by
    rcases hbad with h | h | h | h | h
    · exact trR_states (.inl h)
    · exact trR_states (.inr h)
    · exact trR_hood h
    · exact trR_size hNl (.inl h)
    · exact trR_size hNl (.inr h))
  rcases (show (decide (st < 2) = true) ∨ (decide (st < 2) = false ∧ decide (8 < st) = true) ∨ (decide (st < 2) = false ∧ decide (8 < st) = false ∧ rightL H = false) ∨
      (decide (st < 2) = false ∧ decide (8 < st) = false ∧ rightL H = true ∧ decide ((m : Int) < 1) = true) ∨ (decide (st < 2) = false ∧ decide (8 < st) = false ∧ rightL H = true ∧ decide ((m : Int) < 1) = false ∧ decide (4096 < (m : Int)) = true) by
    simp only [decide_eq_true_eq, decide_eq_false_iff_not]
    cases hr : rightL H with
    | false => simp only [true_and, Bool.false_eq_true, false_and, or_false, and_true]; omega
    | true => rw [hr] at hbad; simp only [Bool.true_eq_false, false_or] at hbad; simp only [Bool.true_eq_false, and_false, true_and]; omega) with d1 | ⟨d1, d2⟩ | ⟨d1, d2, hr⟩ | ⟨d1, d2, hr, d3⟩ | ⟨d1, d2, hr, d3, d4⟩
  all_goals
    have kH := fun w1 h1 => hood_Right A n c H w1 h1
    (try rw [hr] at kH)
    (try clear hr)
    clear hbad hNl
    go_enter Tryz.func50, Tryz.ntmps50
    go_wp2_with fail
    (refine wp_region_ext_lit (by kernel_rfl) (by kernel_rfl) ?_; (repeat (go_big_quiet_step ((go_at_call 96; exact calls_ext (kH _ (hH.of (by (repeat' (first | exact Below.refl _ _ | assumption | (refine Below.alloc ?_ ?_ _) | (refine Below.setCell ?_ ?_ _) | (refine Below.drew ?_) | (refine below_drewN ?_ _) | (refine below_after (Ext.below _) ?_ ?_) | (refine below_after (by assumption) ?_ ?_) | (simp; done) | omega | (simp; omega)))))))))); refine wpQuiet_nil ?_; intro _ hw'; obtain ⟨z1, hw''⟩ := hw'; subst hw''; have hs1 := z1.size; obtain ⟨hc1, hf1⟩ := bcell z1.below; (try simp only [World.size_alloc, World.size_setCell, World.size_drew] at hc1 hf1); (try simp at hs1))
    go_wp2_with fail
    go_ret
    exact ⟨ret_bool HE.out.symm, by (repeat' (first | exact Below.refl _ _ | assumption | (refine Below.alloc ?_ ?_ _) | (refine Below.setCell ?_ ?_ _) | (refine Below.drew ?_) | (refine below_drewN ?_ _) | (refine below_after (Ext.below _) ?_ ?_) | (refine below_after (by assumption) ?_ ?_) | (simp; done) | omega | (simp; omega)))⟩
end Go.Proofs.YtmenokhnanghgaaGreat
end
section
namespace Go.Proofs.YtmenokhnanghgaaGreat
open Go Go.RowKit
set_option maxRecDepth 100000
/-- A box of two values. -/
def DuAt (w : World) (b : Nat) (x y : Value) : Prop := b < w.heap.size ∧ w.cell? ⟨b, 0, none⟩ = some x ∧ w.cell? ⟨b, 1, none⟩ = some y
theorem DuAt.of {w w' : World} {b : Nat} {x y : Value} (h : DuAt w b x y) (hb : Below w.heap.size w w') : DuAt w' b x y :=
  ⟨Nat.lt_of_lt_of_le h.1 hb.size, by rw [hb.cell (p := ⟨_, _, none⟩) h.1]; exact h.2.1, by rw [hb.cell (p := ⟨_, _, none⟩) h.1]; exact h.2.2⟩
theorem DuAt.new (w : World) (x y : Value) (t : TypeId) : DuAt (w.alloc (.cells #[x, y] t)) w.heap.size x y := by
  refine ⟨by simp, ?_, ?_⟩ <;> simp [cell_alloc_if]
theorem last_lv {N : List (Int × List Int)} {q : Nat} {lv : Int} {nx : List Int} (hl : N.length = q + 1) (h : N[q]? = some (lv, nx)) : lastLv N = lv := by
  unfold lastLv; rw [hl, show q + 1 - 1 = q by omega, h]; rfl
set_option maxHeartbeats 2000000 in
theorem tree_Right_last (st : Int) (A B : Option Addr) (n c m d : Nat) (H : List (Int × Int)) (N : List (Int × List Int)) (w : World) (hH : Rd encP 2 w A n H) (hN : RdX ekN w B m N) (h1 : 2 ≤ st) (h2 : st ≤ 8) (hr : rightL H = true) (h3 : 1 ≤ m) (h4 : m ≤ 4096) (hbad : lastLv N ≠ n) :
    Calls Tryz.prog 50 #[.agg #[.int .i64 st, .slice A n c, .slice B m d]] w fun e w' => e = .returned (.bool (trR st H N)) ∧ Below w.heap.size w w' := by
  have hNl := hN.len
  have hHl := hH.len
  obtain ⟨q, rfl⟩ : ∃ q, m = q + 1 := ⟨m - 1, by omega⟩
  obtain ⟨lv, nx, E, me, ce, b, o, hx, rfl, hb, g1, g2, _, _⟩ := hN.node (i := q) (by omega)
  have hlast := last_lv hNl hx.out
  have HE := Lib.hid (show trR st H N = false from trR_last (x := (lv, nx)) hNl hx.out hHl (by rw [hlast] at hbad; exact hbad))
  have d1 : decide (st < 2) = false := decide_eq_false (by omega)
  have d2 : decide (8 < st) = false := decide_eq_false (by omega)
  have d3 : decide (((q + 1 : Nat) : Int) < 1) = false := decide_eq_false (by omega)
  have d3' : decide ((q : Int) + 1 < 1) = false := decide_eq_false (by omega)
  have d4 : decide (4096 < ((q + 1 : Nat) : Int)) = false := decide_eq_false (by omega)
  have d4' : decide (4096 < (q : Int) + 1) = false := decide_eq_false (by omega)
  have b0 : IntKind.i64.wrap ((q : Int) + 1 - 1) = (q : Int) := by rw [IntWalk.i64_in _ (by omega)]; omega
  have d5 : (lv == (n : Int)) = false := by rw [hlast] at hbad; simpa using hbad
  have d6 : (lv != (n : Int)) = true := by rw [hlast] at hbad; simpa using hbad
  have kH := fun w1 h1 => hood_Right A n c H w1 h1
  rw [hr] at kH
  clear hr hbad hlast hNl hHl hx
  go_enter Tryz.func50, Tryz.ntmps50
  go_wp2_with fail
  (refine wp_region_ext_lit (by kernel_rfl) (by kernel_rfl) ?_; (repeat (go_big_quiet_step ((go_at_call 96; exact calls_ext (kH _ (hH.of (by (repeat' (first | exact Below.refl _ _ | assumption | (refine Below.alloc ?_ ?_ _) | (refine Below.setCell ?_ ?_ _) | (refine Below.drew ?_) | (refine below_drewN ?_ _) | (refine below_after (Ext.below _) ?_ ?_) | (refine below_after (by assumption) ?_ ?_) | (simp; done) | omega | (simp; omega)))))))))); refine wpQuiet_nil ?_; intro _ hw'; obtain ⟨z1, hw''⟩ := hw'; subst hw''; have hs1 := z1.size; obtain ⟨hc1, hf1⟩ := bcell z1.below; (try simp only [World.size_alloc, World.size_setCell, World.size_drew] at hc1 hf1); (try simp at hs1))
  go_wp2_with fail
  go_ret
  exact ⟨ret_bool HE.out.symm, by (repeat' (first | exact Below.refl _ _ | assumption | (refine Below.alloc ?_ ?_ _) | (refine Below.setCell ?_ ?_ _) | (refine Below.drew ?_) | (refine below_drewN ?_ _) | (refine below_after (Ext.below _) ?_ ?_) | (refine below_after (by assumption) ?_ ?_) | (simp; done) | omega | (simp; omega)))⟩
end Go.Proofs.YtmenokhnanghgaaGreat
end
section
namespace Go.Proofs.YtmenokhnanghgaaGreat
open Go Go.RowKit
set_option maxRecDepth 100000
set_option maxHeartbeats 8000000 in
theorem tree_Right_main (st : Int) (A B : Option Addr) (n c m d : Nat) (H : List (Int × Int)) (N : List (Int × List Int)) (w : World) (hH : Rd encP 2 w A n H) (hN : RdX ekN w B m N) (h1 : 2 ≤ st) (h2 : st ≤ 8) (hr : rightL H = true) (h3 : 1 ≤ m) (h4 : m ≤ 4096) (hlv : lastLv N = n) :
    Calls Tryz.prog 50 #[.agg #[.int .i64 st, .slice A n c, .slice B m d]] w fun e w' => e = .returned (.bool (trR st H N)) ∧ Below w.heap.size w w' := by
  have hNl := hN.len
  have hHl := hH.len
  have hn25 : n ≤ 25 := by rw [← hHl]; exact (hood_in hr).1
  obtain ⟨q, rfl⟩ : ∃ q, m = q + 1 := ⟨m - 1, by omega⟩
  obtain ⟨lv0, nx0, E0, me0, ce0, b0, o0, hx0, rfl, hb0, g10, g20, _, _⟩ := hN.node (i := q) (by omega)
  have hlast := last_lv hNl hx0.out
  obtain rfl : lv0 = (n : Int) := by rw [← hlast]; exact hlv
  have HT := Lib.hid (fun (h5 : ∀ i, i < q + 1 → ndOk st n N i = true) => trR_all (st := st) (H := H) (x := ((n : Int), nx0)) ⟨h1, h2⟩ hr hNl ⟨h3, h4⟩ hx0.out hHl rfl h5)
  have HF := Lib.hid (fun (i : Nat) (hi : i < q + 1) (h : ndOk st n N i = false) => trR_node (st := st) (H := H) (N := N) (i := i) (by rw [hNl]; exact hi) (by rw [hHl]; exact h))
  have d1 : decide (st < 2) = false := decide_eq_false (by omega)
  have d2 : decide (8 < st) = false := decide_eq_false (by omega)
  have d3 : decide (((q + 1 : Nat) : Int) < 1) = false := decide_eq_false (by omega)
  have d3' : decide ((q : Int) + 1 < 1) = false := decide_eq_false (by omega)
  have d4 : decide (4096 < ((q + 1 : Nat) : Int)) = false := decide_eq_false (by omega)
  have d4' : decide (4096 < (q : Int) + 1) = false := decide_eq_false (by omega)
  have b0w : IntKind.i64.wrap ((q : Int) + 1 - 1) = (q : Int) := by rw [IntWalk.i64_in _ (by omega)]; omega
  have d5 : ((n : Int) == (n : Int)) = true := by simp
  have d6 : ((n : Int) != (n : Int)) = false := by simp
  have kH := fun w1 h1 => hood_Right A n c H w1 h1
  rw [hr] at kH
  clear hr hlast hlv hx0
  replace hNl := Lib.hid hNl
  replace hHl := Lib.hid hHl
  go_enter Tryz.func50, Tryz.ntmps50
  go_wp2_with fail
  have hbx := TrAt.new w (.int .i64 st) (.slice A n c) (.slice (some ⟨b0, o0, none⟩) (q + 1) d) 37
  have hbe : Below w.heap.size w (w.alloc (.cells #[.int .i64 st, .slice A n c, .slice (some ⟨b0, o0, none⟩) (q + 1) d] 37)) := (Below.refl _ _).alloc (Nat.le_refl _) _
  obtain ⟨we, hwe⟩ : ∃ we, we = w.alloc (.cells #[.int .i64 st, .slice A n c, .slice (some ⟨b0, o0, none⟩) (q + 1) d] 37) := ⟨_, rfl⟩
  rw [← hwe] at hbx hbe ⊢
  replace hH := hH.of hbe
  replace hN := hN.of hbe
  have g10e : we.cell? ⟨b0, o0 + q * 2, none⟩ = some (.int .i64 (n : Int)) := by rw [hbe.cell (p := ⟨_, _, none⟩) hb0]; exact g10
  have hb0e : b0 < we.heap.size := Nat.lt_of_lt_of_le hb0 hbe.size
  clear hwe g10 g20 hb0
  obtain ⟨hbs, t0, t1, t2⟩ := hbx
  (refine wp_region_ext_lit (by kernel_rfl) (by kernel_rfl) ?_; (repeat (go_big_quiet_step ((go_at_call 96; exact calls_ext (kH _ (hH.of (by (repeat' (first | exact Below.refl _ _ | assumption | (refine Below.alloc ?_ ?_ _) | (refine Below.setCell ?_ ?_ _) | (refine Below.drew ?_) | (refine below_drewN ?_ _) | (refine below_after (Ext.below _) ?_ ?_) | (refine below_after (by assumption) ?_ ?_) | (simp; done) | omega | (simp; omega)))))))))); refine wpQuiet_nil ?_; intro _ hw'; obtain ⟨z1, hw''⟩ := hw'; subst hw''; have hs1 := z1.size; obtain ⟨hc1, hf1⟩ := bcell z1.below; (try simp only [World.size_alloc, World.size_setCell, World.size_drew] at hc1 hf1); (try simp at hs1))
  have hB0 : Below we.heap.size we z1.world := z1.below
  obtain ⟨wr0, hwr0⟩ : ∃ wr0, wr0 = z1.world := ⟨_, rfl⟩
  rw [← hwr0] at hB0 ⊢
  have hc0 := (bcell hB0).1
  have hf0 := (bcell hB0).2
  have hs0 := hB0.size
  clear hwr0 hc1 hf1 hs1 z1
  go_wp2_with fail
  clear kH d1 d2 d3 d3' d4 d4' b0w d5 d6 g10e hc0 hf0
  go_loopw [49] (fun t wr => ∃ j : Nat, t = .int .i64 j ∧ j ≤ q + 1 ∧ Below we.heap.size we wr ∧ Hid (∀ i, i < j → ndOk st n N i = true)) (fun t _ => q + 1 - (intOf t).toNat)
  case atStart => exact ⟨0, rfl, by omega, hB0, Lib.hid fun i hi => absurd hi (by omega)⟩
  case round =>
    clear hB0 hs0
    obtain ⟨j, rfl, hj, hb, hok⟩ := hrel
    have hsz := hb.size
    obtain ⟨hbsr, u0, u1, u2⟩ := (show TrAt we w.heap.size _ _ _ from ⟨hbs, t0, t1, t2⟩).of hb
    by_cases hlj : j < q + 1
    · have dj : decide ((j : Int) < (q : Int) + 1) = true := decide_eq_true (by omega)
      have dj' : decide (j < q + 1) = true := decide_eq_true (by omega)
      obtain ⟨lv, nx, E, me, ce, b, o, hx, hAe, hbl, g1, g2, hE, _⟩ := (hN.of hb).node hlj
      injection hAe with hAe
      injection hAe with e1 e2
      subst e1 e2
      have hEl := hE.len
      rcases (show (lv < 1 ∨ (n : Int) < lv ∨ (me : Int) ≠ st) ∨ (1 ≤ lv ∧ lv ≤ n ∧ (me : Int) = st) by omega) with hbad | ⟨l1, l2, l3⟩
      · have HE := Lib.hid (HF.out j hlj (ndOk_head hx.out (by simp only; rw [hEl]; exact hbad)))
        have hways : decide (lv < 1) = true ∨ (decide (lv < 1) = false ∧ decide ((n : Int) < lv) = true) ∨ (decide (lv < 1) = false ∧ decide ((n : Int) < lv) = false ∧ ((me : Int) == st) = false ∧ ((me : Int) != st) = true) := by
          simp only [decide_eq_true_eq, decide_eq_false_iff_not, beq_eq_false_iff_ne, bne_iff_ne]; omega
        clear hbad hx hEl hE
        rcases hways with e1 | ⟨e1, e2⟩ | ⟨e1, e2, e3, e4⟩
        all_goals
          go_wp2_with fail
          go_ret
          exact ⟨ret_bool HE.out.symm, by (repeat' (first | exact Below.refl _ _ | assumption | (refine Below.alloc ?_ ?_ _) | (refine Below.setCell ?_ ?_ _) | (refine Below.drew ?_) | (refine below_drewN ?_ _) | (refine below_after (Ext.below _) ?_ ?_) | (refine below_after (by assumption) ?_ ?_) | (simp; done) | omega | (simp; omega)))⟩
      · subst l3
        have e1 : decide (lv < 1) = false := decide_eq_false (by omega)
        have e2 : decide ((n : Int) < lv) = false := decide_eq_false (by omega)
        have e3 : ((me : Int) == (me : Int)) = true := by simp
        have e4 : ((me : Int) != (me : Int)) = false := by simp
        have hln := hx.out
        replace hx := Lib.hid hln
        clear hln
        replace hEl := Lib.hid hEl
        go_wp2_with fail
        have hdu := DuAt.new wr (.int .i64 lv) (.slice E me ce) 93
        have hbd : Below wr.heap.size wr (wr.alloc (.cells #[.int .i64 lv, .slice E me ce] 93)) := (Below.refl _ _).alloc (Nat.le_refl _) _
        obtain ⟨wa, hwa⟩ : ∃ wa, wa = wr.alloc (.cells #[.int .i64 lv, .slice E me ce] 93) := ⟨_, rfl⟩
        rw [← hwa] at hdu hbd ⊢
        have hba : Below we.heap.size we wa := below_thru hb hbd
        replace hE := hE.of hbd
        clear hwa e1 e2 e3 e4 g1 g2 dj dj'
        go_loopw [76] (fun t wq => ∃ k : Nat, t = .int .i64 k ∧ k ≤ me ∧ Below wa.heap.size wa wq ∧ Hid (∀ k' x, k' < k → nx[k']? = some x → nxOk me N lv j x = true)) (fun t _ => me - (intOf t).toNat)
        case atStart => exact ⟨0, rfl, by omega, Below.refl _ _, Lib.hid fun k' x hk' => absurd hk' (by omega)⟩
        case round =>
          obtain ⟨k, rfl, hk, hbq, hoq⟩ := hrel
          have hsq := hbq.size
          have hsa := hba.size
          have hbw : Below we.heap.size we wr := below_thru hba hbq
          have hfin : Below w.heap.size w wr := below_thru hbe hbw
          obtain ⟨hbt, v0, v1, v2⟩ := (show TrAt we w.heap.size _ _ _ from ⟨hbs, t0, t1, t2⟩).of hbw
          obtain ⟨hbn, n0, n1⟩ := hdu.of hbq
          by_cases hlk : k < me
          · have dk : decide ((k : Int) < me) = true := decide_eq_true (by omega)
            obtain ⟨x2, be, oe, hxe, rfl, hbe2, hce⟩ := (hE.of hbq).int hlk
            rcases (show x2 < 0 ∨ (0 ≤ x2 ∧ lv = 1 ∧ (me : Int) ≤ x2) ∨ (0 ≤ x2 ∧ 1 < lv ∧ (j : Int) ≤ x2) ∨ (0 ≤ x2 ∧ lv = 1 ∧ x2 < me) ∨ (0 ≤ x2 ∧ 1 < lv ∧ x2 < j) by omega) with c1 | ⟨c1, rfl, c3⟩ | ⟨c1, c2, c3⟩ | ⟨c1, rfl, c3⟩ | ⟨c1, c2, c3⟩
            · have HE := Lib.hid (HF.out j hlj (ndOk_elem hx.out hxe.out (nxOk_neg c1)))
              have f1 : decide (x2 < 0) = true := decide_eq_true c1
              clear hxe
              go_wp2_with fail
              (refine wp_region_ext_lit (by kernel_rfl) (by kernel_rfl) ?_; (repeat (go_big_quiet_step (fail))); refine wpQuiet_nil ?_; intro _ hw'; obtain ⟨z3, hw''⟩ := hw'; subst hw''; have hs3 := z3.size; obtain ⟨hc3, hf3⟩ := bcell z3.below; (try simp only [World.size_alloc, World.size_setCell, World.size_drew] at hc3 hf3); (try simp at hs3))
              go_wp2_with fail
              go_ret
              exact ⟨ret_bool HE.out.symm, by (repeat' (first | exact Below.refl _ _ | assumption | (refine Below.alloc ?_ ?_ _) | (refine Below.setCell ?_ ?_ _) | (refine Below.drew ?_) | (refine below_drewN ?_ _) | (refine below_after (Ext.below _) ?_ ?_) | (refine below_after (by assumption) ?_ ?_) | (simp; done) | omega | (simp; omega)))⟩
            · have HE := Lib.hid (HF.out j hlj (ndOk_elem hx.out hxe.out (by simp only; rw [nxOk_leaf c1]; exact decide_eq_false (by omega))))
              have f1 : decide (x2 < 0) = false := decide_eq_false (by omega)
              have f2 : decide ((me : Int) ≤ x2) = true := decide_eq_true c3
              clear hxe
              go_wp2_with fail
              (refine wp_region_ext_lit (by kernel_rfl) (by kernel_rfl) ?_; (repeat (go_big_quiet_step (fail))); refine wpQuiet_nil ?_; intro _ hw'; obtain ⟨z3, hw''⟩ := hw'; subst hw''; have hs3 := z3.size; obtain ⟨hc3, hf3⟩ := bcell z3.below; (try simp only [World.size_alloc, World.size_setCell, World.size_drew] at hc3 hf3); (try simp at hs3))
              go_wp2_with fail
              go_ret
              exact ⟨ret_bool HE.out.symm, by (repeat' (first | exact Below.refl _ _ | assumption | (refine Below.alloc ?_ ?_ _) | (refine Below.setCell ?_ ?_ _) | (refine Below.drew ?_) | (refine below_drewN ?_ _) | (refine below_after (Ext.below _) ?_ ?_) | (refine below_after (by assumption) ?_ ?_) | (simp; done) | omega | (simp; omega)))⟩
            · have HE := Lib.hid (HF.out j hlj (ndOk_elem hx.out hxe.out (nxOk_far c2 c3)))
              have f1 : decide (x2 < 0) = false := decide_eq_false (by omega)
              have f2 : (lv == 1) = false := by simp; omega
              have f3 : decide (1 < lv) = true := decide_eq_true c2
              have f4 : decide ((j : Int) ≤ x2) = true := decide_eq_true c3
              clear hxe
              go_wp2_with fail
              (refine wp_region_ext_lit (by kernel_rfl) (by kernel_rfl) ?_; (repeat (go_big_quiet_step (fail))); refine wpQuiet_nil ?_; intro _ hw'; obtain ⟨z3, hw''⟩ := hw'; subst hw''; have hs3 := z3.size; obtain ⟨hc3, hf3⟩ := bcell z3.below; (try simp only [World.size_alloc, World.size_setCell, World.size_drew] at hc3 hf3); (try simp at hs3))
              go_wp2_with fail
              go_ret
              exact ⟨ret_bool HE.out.symm, by (repeat' (first | exact Below.refl _ _ | assumption | (refine Below.alloc ?_ ?_ _) | (refine Below.setCell ?_ ?_ _) | (refine Below.drew ?_) | (refine below_drewN ?_ _) | (refine below_after (Ext.below _) ?_ ?_) | (refine below_after (by assumption) ?_ ?_) | (simp; done) | omega | (simp; omega)))⟩
            · have HK := Lib.hid (show nxOk me N 1 j x2 = true by rw [nxOk_leaf c1]; exact decide_eq_true c3)
              have f1 : decide (x2 < 0) = false := decide_eq_false (by omega)
              have f2 : decide ((me : Int) ≤ x2) = false := decide_eq_false (by omega)
              go_wp2_with fail
              (refine wp_region_ext_lit (by kernel_rfl) (by kernel_rfl) ?_; (repeat (go_big_quiet_step (fail))); refine wpQuiet_nil ?_; intro _ hw'; obtain ⟨z3, hw''⟩ := hw'; subst hw''; have hs3 := z3.size; obtain ⟨hc3, hf3⟩ := bcell z3.below; (try simp only [World.size_alloc, World.size_setCell, World.size_drew] at hc3 hf3); (try simp at hs3))
              go_wp2_with fail
              go_roundw
              case rel => exact ⟨k + 1, by go_num, by omega, (by (repeat' (first | exact Below.refl _ _ | assumption | (refine Below.alloc ?_ ?_ _) | (refine Below.setCell ?_ ?_ _) | (refine Below.drew ?_) | (refine below_drewN ?_ _) | (refine below_after (Ext.below _) ?_ ?_) | (refine below_after (by assumption) ?_ ?_) | (simp; done) | omega | (simp; omega)))), Lib.hid fun k' x hk' hx' => by
                rcases Nat.lt_or_ge k' k with h | h
                · exact hoq.out k' x h hx'
                · obtain rfl : k' = k := by omega
                  rw [hxe.out] at hx'; injection hx' with hx'; rw [← hx']; exact HK.out⟩
              case measure => simp [intOf]; omega
            · obtain ⟨r, rfl⟩ := Int.eq_ofNat_of_zero_le c1
              obtain ⟨ly, ny, Ey, my, cy, by_, oy, hy, hAy, hbly, y1, _, _, _⟩ := ((hN.of hbw)).node (i := r) (by omega)
              injection hAy with hAy
              injection hAy with e1 e2
              subst e1 e2
              have HQ := Lib.hid (nxOk_node (st := (me : Int)) (i := j) c2 c1 c3 (show N[((r : Nat) : Int).toNat]? = some (ly, ny) from hy.out))
              have f1 : decide ((r : Int) < 0) = false := decide_eq_false (by omega)
              have f2 : (lv == 1) = false := by simp; omega
              have f3 : decide (1 < lv) = true := decide_eq_true c2
              have f4 : decide ((j : Int) ≤ (r : Int)) = false := decide_eq_false (by omega)
              have f4' : decide (j ≤ r) = false := decide_eq_false (by omega)
              have f5 : IntKind.i64.wrap (lv - 1) = lv - 1 := IntWalk.i64_in _ (by omega)
              by_cases hq : ly = lv - 1
              · subst hq
                have f6 : (lv - 1 == lv - 1) = true := by simp
                have f7 : (lv - 1 != lv - 1) = false := by simp
                have HK := Lib.hid (show nxOk me N lv j (r : Int) = true by rw [HQ.out]; exact decide_eq_true rfl)
                clear HQ
                go_wp2_with fail
                (refine wp_region_ext_lit (by kernel_rfl) (by kernel_rfl) ?_; (repeat (go_big_quiet_step (fail))); refine wpQuiet_nil ?_; intro _ hw'; obtain ⟨z3, hw''⟩ := hw'; subst hw''; have hs3 := z3.size; obtain ⟨hc3, hf3⟩ := bcell z3.below; (try simp only [World.size_alloc, World.size_setCell, World.size_drew] at hc3 hf3); (try simp at hs3))
                go_wp2_with fail
                go_roundw
                case rel => exact ⟨k + 1, by go_num, by omega, (by (repeat' (first | exact Below.refl _ _ | assumption | (refine Below.alloc ?_ ?_ _) | (refine Below.setCell ?_ ?_ _) | (refine Below.drew ?_) | (refine below_drewN ?_ _) | (refine below_after (Ext.below _) ?_ ?_) | (refine below_after (by assumption) ?_ ?_) | (simp; done) | omega | (simp; omega)))), Lib.hid fun k' x hk' hx' => by
                  rcases Nat.lt_or_ge k' k with h | h
                  · exact hoq.out k' x h hx'
                  · obtain rfl : k' = k := by omega
                    rw [hxe.out] at hx'; injection hx' with hx'; rw [← hx']; exact HK.out⟩
                case measure => simp [intOf]; omega
              · have f6 : (ly == lv - 1) = false := by simpa using hq
                have f7 : (ly != lv - 1) = true := by simpa using hq
                have HE := Lib.hid (HF.out j hlj (ndOk_elem hx.out hxe.out (by simp only; rw [HQ.out]; exact decide_eq_false hq)))
                clear HQ hxe hq
                go_wp2_with fail
                (refine wp_region_ext_lit (by kernel_rfl) (by kernel_rfl) ?_; (repeat (go_big_quiet_step (fail))); refine wpQuiet_nil ?_; intro _ hw'; obtain ⟨z3, hw''⟩ := hw'; subst hw''; have hs3 := z3.size; obtain ⟨hc3, hf3⟩ := bcell z3.below; (try simp only [World.size_alloc, World.size_setCell, World.size_drew] at hc3 hf3); (try simp at hs3))
                go_wp2_with fail
                go_ret
                exact ⟨ret_bool HE.out.symm, by (repeat' (first | exact Below.refl _ _ | assumption | (refine Below.alloc ?_ ?_ _) | (refine Below.setCell ?_ ?_ _) | (refine Below.drew ?_) | (refine below_drewN ?_ _) | (refine below_after (Ext.below _) ?_ ?_) | (refine below_after (by assumption) ?_ ?_) | (simp; done) | omega | (simp; omega)))⟩
          · obtain rfl : k = me := by omega
            have dk : decide ((k : Int) < k) = false := decide_eq_false (by omega)
            have hnd := Lib.hid (ndOk_all (st := (k : Int)) (N := N) hx.out l1 l2 (by simp only; rw [hEl.out]) (fun k' x hk' hx' => hoq.out k' x (by simp only at hk'; rw [← hEl.out]; exact hk') hx'))
            go_wp2_with fail
            go_roundw
            case rel => exact ⟨j + 1, by go_num, by omega, hbw, Lib.hid fun i hi => by
              rcases Nat.lt_or_ge i j with h | h
              · exact hok.out i h
              · obtain rfl : i = j := by omega
                exact hnd.out⟩
            case measure => simp [intOf]; omega
    · obtain rfl : j = q + 1 := by omega
      have dj : decide ((q : Int) + 1 < (q : Int) + 1) = false := decide_eq_false (by omega)
      have HE := Lib.hid (HT.out hok.out)
      have hfin : Below w.heap.size w wr := below_thru hbe hb
      go_wp2_with fail
      go_ret
      exact ⟨ret_bool HE.out.symm, hfin⟩
theorem tree_Right (st : Int) (A B : Option Addr) (n c m d : Nat) (H : List (Int × Int)) (N : List (Int × List Int)) (w : World) (hH : Rd encP 2 w A n H) (hN : RdX ekN w B m N) :
    Calls Tryz.prog 50 #[.agg #[.int .i64 st, .slice A n c, .slice B m d]] w fun e w' => e = .returned (.bool (trR st H N)) ∧ Below w.heap.size w w' := by
  by_cases hbad : st < 2 ∨ 8 < st ∨ rightL H = false ∨ m < 1 ∨ 4096 < m
  · exact tree_Right_head st A B n c m d H N w hH hN hbad
  · have hr : rightL H = true := by
      cases h : rightL H with
      | true => rfl
      | false => exact absurd (.inr (.inr (.inl h))) hbad
    by_cases hl : lastLv N = n
    · exact tree_Right_main st A B n c m d H N w hH hN (by omega) (by omega) hr (by omega) (by omega) hl
    · exact tree_Right_last st A B n c m d H N w hH hN (by omega) (by omega) hr (by omega) (by omega) hl
end Go.Proofs.YtmenokhnanghgaaGreat
end
section
namespace Go.Proofs.YtmenokhnanghgaaGreat
open Go Go.RowKit
set_option maxRecDepth 100000
set_option maxHeartbeats 2000000 in
theorem ref12_Right_head (st : Int) (A B : Option Addr) (n c m d : Nat) (H : List (Int × Int)) (N : List (Int × List Int)) (w : World) (hH : Rd encP 2 w A n H) (hN : RdX ekN w B m N) (hbad : st < 2 ∨ 8 < st ∨ rightL H = false ∨ m < 1 ∨ 4096 < m) :
    Calls Tryz.prog 52 #[.agg #[.int .i64 st, .slice A n c, .slice B m d]] w fun e w' => e = .returned (.bool (trR st H N)) ∧ Below w.heap.size w w' := by
  have hNl := hN.len
  have HE := Lib.hid (show trR st H N = false by
    rcases hbad with h | h | h | h | h
    · exact trR_states (.inl h)
    · exact trR_states (.inr h)
    · exact trR_hood h
    · exact trR_size hNl (.inl h)
    · exact trR_size hNl (.inr h))
  rcases (show (decide (st < 2) = true) ∨ (decide (st < 2) = false ∧ decide (8 < st) = true) ∨ (decide (st < 2) = false ∧ decide (8 < st) = false ∧ rightL H = false) ∨
      (decide (st < 2) = false ∧ decide (8 < st) = false ∧ rightL H = true ∧ decide ((m : Int) < 1) = true) ∨ (decide (st < 2) = false ∧ decide (8 < st) = false ∧ rightL H = true ∧ decide ((m : Int) < 1) = false ∧ decide (4096 < (m : Int)) = true) by
    simp only [decide_eq_true_eq, decide_eq_false_iff_not]
    cases hr : rightL H with
    | false => simp only [true_and, Bool.false_eq_true, false_and, or_false, and_true]; omega
    | true => rw [hr] at hbad; simp only [Bool.true_eq_false, false_or] at hbad; simp only [Bool.true_eq_false, and_false, true_and]; omega) with d1 | ⟨d1, d2⟩ | ⟨d1, d2, hr⟩ | ⟨d1, d2, hr, d3⟩ | ⟨d1, d2, hr, d3, d4⟩
  all_goals
    have kH := fun w1 h1 => ref_Right7 A n c H w1 h1
    (try rw [hr] at kH)
    (try clear hr)
    clear hbad hNl
    go_enter Tryz.func52, Tryz.ntmps52
    go_wp2_with (go_at_call 76; refine (kH _ (hH.of (by (repeat' (first | exact Below.refl _ _ | assumption | (refine Below.alloc ?_ ?_ _) | (refine Below.setCell ?_ ?_ _) | (refine Below.drew ?_) | (refine below_drewN ?_ _) | (refine below_after (Ext.below _) ?_ ?_) | (refine below_after (by assumption) ?_ ?_) | (simp; done) | omega | (simp; omega)))))).mono ?_; rintro e w1 ⟨rfl, hb1⟩)
    go_ret
    exact ⟨ret_bool HE.out.symm, by (repeat' (first | exact Below.refl _ _ | assumption | (refine Below.alloc ?_ ?_ _) | (refine Below.setCell ?_ ?_ _) | (refine Below.drew ?_) | (refine below_drewN ?_ _) | (refine below_after (Ext.below _) ?_ ?_) | (refine below_after (by assumption) ?_ ?_) | (simp; done) | omega | (simp; omega)))⟩
set_option maxHeartbeats 8000000 in
theorem ref12_Right_main (st : Int) (A B : Option Addr) (n c m d : Nat) (H : List (Int × Int)) (N : List (Int × List Int)) (w : World) (hH : Rd encP 2 w A n H) (hN : RdX ekN w B m N) (h1 : 2 ≤ st) (h2 : st ≤ 8) (hr : rightL H = true) (h3 : 1 ≤ m) (h4 : m ≤ 4096) :
    Calls Tryz.prog 52 #[.agg #[.int .i64 st, .slice A n c, .slice B m d]] w fun e w' => e = .returned (.bool (trR st H N)) ∧ Below w.heap.size w w' := by
  have hNl := hN.len
  have hHl := hH.len
  have hn25 : n ≤ 25 := by rw [← hHl]; exact (hood_in hr).1
  obtain ⟨q, rfl⟩ : ∃ q, m = q + 1 := ⟨m - 1, by omega⟩
  obtain ⟨lv0, nx0, E0, me0, ce0, b0, o0, hx0, rfl, hb0, g10, g20, _, _⟩ := hN.node (i := q) (by omega)
  have hlast := last_lv hNl hx0.out
  have HT := Lib.hid (fun (e : lv0 = (n : Int)) (h5 : ∀ i, i < q + 1 → ndOk st n N i = true) => trR_all (st := st) (H := H) (x := (lv0, nx0)) ⟨h1, h2⟩ hr hNl ⟨h3, h4⟩ hx0.out hHl e h5)
  have HL := Lib.hid (fun (e : lv0 ≠ (n : Int)) => trR_last (st := st) (H := H) (x := (lv0, nx0)) hNl hx0.out hHl e)
  have HF := Lib.hid (fun (i : Nat) (hi : i < q + 1) (h : ndOk st n N i = false) => trR_node (st := st) (H := H) (N := N) (i := i) (by rw [hNl]; exact hi) (by rw [hHl]; exact h))
  have d1 : decide (st < 2) = false := decide_eq_false (by omega)
  have d2 : decide (8 < st) = false := decide_eq_false (by omega)
  have d3 : decide (((q + 1 : Nat) : Int) < 1) = false := decide_eq_false (by omega)
  have d3' : decide ((q : Int) + 1 < 1) = false := decide_eq_false (by omega)
  have d4 : decide (4096 < ((q + 1 : Nat) : Int)) = false := decide_eq_false (by omega)
  have d4' : decide (4096 < (q : Int) + 1) = false := decide_eq_false (by omega)
  have b0w : IntKind.i64.wrap ((q : Int) + 1 - 1) = (q : Int) := by rw [IntWalk.i64_in _ (by omega)]; omega
  have kH := fun w1 h1 => ref_Right7 A n c H w1 h1
  rw [hr] at kH
  clear hr hlast hx0
  replace hNl := Lib.hid hNl
  replace hHl := Lib.hid hHl
  go_enter Tryz.func52, Tryz.ntmps52
  go_wp2_with fail
  have hbx := TrAt.new w (.int .i64 st) (.slice A n c) (.slice (some ⟨b0, o0, none⟩) (q + 1) d) 37
  have hbe : Below w.heap.size w (w.alloc (.cells #[.int .i64 st, .slice A n c, .slice (some ⟨b0, o0, none⟩) (q + 1) d] 37)) := (Below.refl _ _).alloc (Nat.le_refl _) _
  obtain ⟨we, hwe⟩ : ∃ we, we = w.alloc (.cells #[.int .i64 st, .slice A n c, .slice (some ⟨b0, o0, none⟩) (q + 1) d] 37) := ⟨_, rfl⟩
  rw [← hwe] at hbx hbe ⊢
  replace hH := hH.of hbe
  replace hN := hN.of hbe
  have g10e : we.cell? ⟨b0, o0 + q * 2, none⟩ = some (.int .i64 lv0) := by rw [hbe.cell (p := ⟨_, _, none⟩) hb0]; exact g10
  have hb0e : b0 < we.heap.size := Nat.lt_of_lt_of_le hb0 hbe.size
  clear hwe g10 g20 hb0
  obtain ⟨hbs, t0, t1, t2⟩ := hbx
  go_at_call 76
  refine (kH _ hH).mono ?_
  rintro e w1 ⟨rfl, hB0⟩
  have hc0 := (bcell hB0).1
  have hf0 := (bcell hB0).2
  have hs0 := hB0.size
  go_wp2_with fail
  clear kH d1 d2 d3 d3' d4 d4' hc0 hf0
  go_loopw [4] (fun t wr => ∃ j : Nat, t = .int .i64 j ∧ j ≤ q + 1 ∧ Below we.heap.size we wr ∧ Hid (∀ i, i < j → ndOk st n N i = true)) (fun t _ => q + 1 - (intOf t).toNat)
  case atStart => exact ⟨0, rfl, by omega, hB0, Lib.hid fun i hi => absurd hi (by omega)⟩
  case round =>
    clear hB0 hs0
    obtain ⟨j, rfl, hj, hb, hok⟩ := hrel
    have hsz := hb.size
    obtain ⟨hbsr, u0, u1, u2⟩ := (show TrAt we w.heap.size _ _ _ from ⟨hbs, t0, t1, t2⟩).of hb
    by_cases hlj : j < q + 1
    · have dj : decide ((j : Int) < (q : Int) + 1) = true := decide_eq_true (by omega)
      have dj' : decide (j < q + 1) = true := decide_eq_true (by omega)
      obtain ⟨lv, nx, E, me, ce, b, o, hx, hAe, hbl, g1, g2, hE, _⟩ := (hN.of hb).node hlj
      injection hAe with hAe
      injection hAe with e1 e2
      subst e1 e2
      have hEl := hE.len
      rcases (show (lv < 1 ∨ (n : Int) < lv ∨ (me : Int) ≠ st) ∨ (1 ≤ lv ∧ lv ≤ n ∧ (me : Int) = st) by omega) with hbad | ⟨l1, l2, l3⟩
      · have HE := Lib.hid (HF.out j hlj (ndOk_head hx.out (by simp only; rw [hEl]; exact hbad)))
        have hways : decide (lv < 1) = true ∨ (decide (lv < 1) = false ∧ decide ((n : Int) < lv) = true) ∨ (decide (lv < 1) = false ∧ decide ((n : Int) < lv) = false ∧ ((me : Int) == st) = false ∧ ((me : Int) != st) = true) := by
          simp only [decide_eq_true_eq, decide_eq_false_iff_not, beq_eq_false_iff_ne, bne_iff_ne]; omega
        clear hbad hx hEl hE
        rcases hways with e1 | ⟨e1, e2⟩ | ⟨e1, e2, e3, e4⟩
        all_goals
          go_wp2_with fail
          go_ret
          exact ⟨ret_bool HE.out.symm, by (repeat' (first | exact Below.refl _ _ | assumption | (refine Below.alloc ?_ ?_ _) | (refine Below.setCell ?_ ?_ _) | (refine Below.drew ?_) | (refine below_drewN ?_ _) | (refine below_after (Ext.below _) ?_ ?_) | (refine below_after (by assumption) ?_ ?_) | (simp; done) | omega | (simp; omega)))⟩
      · subst l3
        have e1 : decide (lv < 1) = false := decide_eq_false (by omega)
        have e2 : decide ((n : Int) < lv) = false := decide_eq_false (by omega)
        have e3 : ((me : Int) == (me : Int)) = true := by simp
        have e4 : ((me : Int) != (me : Int)) = false := by simp
        have hln := hx.out
        replace hx := Lib.hid hln
        clear hln
        replace hEl := Lib.hid hEl
        go_wp2_with fail
        have hdu := DuAt.new wr (.int .i64 lv) (.slice E me ce) 93
        have hbd : Below wr.heap.size wr (wr.alloc (.cells #[.int .i64 lv, .slice E me ce] 93)) := (Below.refl _ _).alloc (Nat.le_refl _) _
        obtain ⟨wa, hwa⟩ : ∃ wa, wa = wr.alloc (.cells #[.int .i64 lv, .slice E me ce] 93) := ⟨_, rfl⟩
        rw [← hwa] at hdu hbd ⊢
        have hba : Below we.heap.size we wa := below_thru hb hbd
        replace hE := hE.of hbd
        clear hwa e1 e2 e3 e4 g1 g2 dj dj'
        go_loopw [6] (fun t wq => ∃ k : Nat, t = .int .i64 k ∧ k ≤ me ∧ Below wa.heap.size wa wq ∧ Hid (∀ k' x, k' < k → nx[k']? = some x → nxOk me N lv j x = true)) (fun t _ => me - (intOf t).toNat)
        case atStart => exact ⟨0, rfl, by omega, Below.refl _ _, Lib.hid fun k' x hk' => absurd hk' (by omega)⟩
        case round =>
          obtain ⟨k, rfl, hk, hbq, hoq⟩ := hrel
          have hsq := hbq.size
          have hsa := hba.size
          have hbw : Below we.heap.size we wr := below_thru hba hbq
          have hfin : Below w.heap.size w wr := below_thru hbe hbw
          obtain ⟨hbt, v0, v1, v2⟩ := (show TrAt we w.heap.size _ _ _ from ⟨hbs, t0, t1, t2⟩).of hbw
          obtain ⟨hbn, n0, n1⟩ := hdu.of hbq
          by_cases hlk : k < me
          · have dk : decide ((k : Int) < me) = true := decide_eq_true (by omega)
            obtain ⟨x2, be, oe, hxe, rfl, hbe2, hce⟩ := (hE.of hbq).int hlk
            rcases (show x2 < 0 ∨ (0 ≤ x2 ∧ lv = 1 ∧ (me : Int) ≤ x2) ∨ (0 ≤ x2 ∧ 1 < lv ∧ (j : Int) ≤ x2) ∨ (0 ≤ x2 ∧ lv = 1 ∧ x2 < me) ∨ (0 ≤ x2 ∧ 1 < lv ∧ x2 < j) by omega) with c1 | ⟨c1, rfl, c3⟩ | ⟨c1, c2, c3⟩ | ⟨c1, rfl, c3⟩ | ⟨c1, c2, c3⟩
            · have HE := Lib.hid (HF.out j hlj (ndOk_elem hx.out hxe.out (nxOk_neg c1)))
              have f1 : decide (x2 < 0) = true := decide_eq_true c1
              clear hxe
              go_wp2_with fail
              go_wp2_with fail
              go_ret
              exact ⟨ret_bool HE.out.symm, by (repeat' (first | exact Below.refl _ _ | assumption | (refine Below.alloc ?_ ?_ _) | (refine Below.setCell ?_ ?_ _) | (refine Below.drew ?_) | (refine below_drewN ?_ _) | (refine below_after (Ext.below _) ?_ ?_) | (refine below_after (by assumption) ?_ ?_) | (simp; done) | omega | (simp; omega)))⟩
            · have HE := Lib.hid (HF.out j hlj (ndOk_elem hx.out hxe.out (by simp only; rw [nxOk_leaf c1]; exact decide_eq_false (by omega))))
              have f1 : decide (x2 < 0) = false := decide_eq_false (by omega)
              have f2 : decide ((me : Int) ≤ x2) = true := decide_eq_true c3
              clear hxe
              go_wp2_with fail
              go_wp2_with fail
              go_ret
              exact ⟨ret_bool HE.out.symm, by (repeat' (first | exact Below.refl _ _ | assumption | (refine Below.alloc ?_ ?_ _) | (refine Below.setCell ?_ ?_ _) | (refine Below.drew ?_) | (refine below_drewN ?_ _) | (refine below_after (Ext.below _) ?_ ?_) | (refine below_after (by assumption) ?_ ?_) | (simp; done) | omega | (simp; omega)))⟩
            · have HE := Lib.hid (HF.out j hlj (ndOk_elem hx.out hxe.out (nxOk_far c2 c3)))
              have f1 : decide (x2 < 0) = false := decide_eq_false (by omega)
              have f2 : (lv == 1) = false := by simp; omega
              have f3 : decide (1 < lv) = true := decide_eq_true c2
              have f4 : decide ((j : Int) ≤ x2) = true := decide_eq_true c3
              clear hxe
              go_wp2_with fail
              (refine wp_region_ext_lit (by kernel_rfl) (by kernel_rfl) ?_; (repeat (go_big_quiet_step (fail))); refine wpQuiet_nil ?_; intro _ hw'; obtain ⟨z3, hw''⟩ := hw'; subst hw''; have hs3 := z3.size; obtain ⟨hc3, hf3⟩ := bcell z3.below; (try simp only [World.size_alloc, World.size_setCell, World.size_drew] at hc3 hf3); (try simp at hs3))
              go_wp2_with fail
              go_ret
              exact ⟨ret_bool HE.out.symm, by (repeat' (first | exact Below.refl _ _ | assumption | (refine Below.alloc ?_ ?_ _) | (refine Below.setCell ?_ ?_ _) | (refine Below.drew ?_) | (refine below_drewN ?_ _) | (refine below_after (Ext.below _) ?_ ?_) | (refine below_after (by assumption) ?_ ?_) | (simp; done) | omega | (simp; omega)))⟩
            · have HK := Lib.hid (show nxOk me N 1 j x2 = true by rw [nxOk_leaf c1]; exact decide_eq_true c3)
              have f1 : decide (x2 < 0) = false := decide_eq_false (by omega)
              have f2 : decide ((me : Int) ≤ x2) = false := decide_eq_false (by omega)
              go_wp2_with fail
              (refine wp_region_ext_lit (by kernel_rfl) (by kernel_rfl) ?_; (repeat (go_big_quiet_step (fail))); refine wpQuiet_nil ?_; intro _ hw'; obtain ⟨z3, hw''⟩ := hw'; subst hw''; have hs3 := z3.size; obtain ⟨hc3, hf3⟩ := bcell z3.below; (try simp only [World.size_alloc, World.size_setCell, World.size_drew] at hc3 hf3); (try simp at hs3))
              go_wp2_with fail
              go_roundw
              case rel => exact ⟨k + 1, by go_num, by omega, (by (repeat' (first | exact Below.refl _ _ | assumption | (refine Below.alloc ?_ ?_ _) | (refine Below.setCell ?_ ?_ _) | (refine Below.drew ?_) | (refine below_drewN ?_ _) | (refine below_after (Ext.below _) ?_ ?_) | (refine below_after (by assumption) ?_ ?_) | (simp; done) | omega | (simp; omega)))), Lib.hid fun k' x hk' hx' => by
                rcases Nat.lt_or_ge k' k with h | h
                · exact hoq.out k' x h hx'
                · obtain rfl : k' = k := by omega
                  rw [hxe.out] at hx'; injection hx' with hx'; rw [← hx']; exact HK.out⟩
              case measure => simp [intOf]; omega
            · obtain ⟨r, rfl⟩ := Int.eq_ofNat_of_zero_le c1
              obtain ⟨ly, ny, Ey, my, cy, by_, oy, hy, hAy, hbly, y1, _, _, _⟩ := ((hN.of hbw)).node (i := r) (by omega)
              injection hAy with hAy
              injection hAy with e1 e2
              subst e1 e2
              have HQ := Lib.hid (nxOk_node (st := (me : Int)) (i := j) c2 c1 c3 (show N[((r : Nat) : Int).toNat]? = some (ly, ny) from hy.out))
              have f1 : decide ((r : Int) < 0) = false := decide_eq_false (by omega)
              have f2 : (lv == 1) = false := by simp; omega
              have f3 : decide (1 < lv) = true := decide_eq_true c2
              have f4 : decide ((j : Int) ≤ (r : Int)) = false := decide_eq_false (by omega)
              have f4' : decide (j ≤ r) = false := decide_eq_false (by omega)
              have f5 : IntKind.i64.wrap (lv - 1) = lv - 1 := IntWalk.i64_in _ (by omega)
              by_cases hq : ly = lv - 1
              · subst hq
                have f6 : (lv - 1 == lv - 1) = true := by simp
                have f7 : (lv - 1 != lv - 1) = false := by simp
                have HK := Lib.hid (show nxOk me N lv j (r : Int) = true by rw [HQ.out]; exact decide_eq_true rfl)
                clear HQ
                go_wp2_with fail
                (refine wp_region_ext_lit (by kernel_rfl) (by kernel_rfl) ?_; (repeat (go_big_quiet_step (fail))); refine wpQuiet_nil ?_; intro _ hw'; obtain ⟨z3, hw''⟩ := hw'; subst hw''; have hs3 := z3.size; obtain ⟨hc3, hf3⟩ := bcell z3.below; (try simp only [World.size_alloc, World.size_setCell, World.size_drew] at hc3 hf3); (try simp at hs3))
                go_wp2_with fail
                go_roundw
                case rel => exact ⟨k + 1, by go_num, by omega, (by (repeat' (first | exact Below.refl _ _ | assumption | (refine Below.alloc ?_ ?_ _) | (refine Below.setCell ?_ ?_ _) | (refine Below.drew ?_) | (refine below_drewN ?_ _) | (refine below_after (Ext.below _) ?_ ?_) | (refine below_after (by assumption) ?_ ?_) | (simp; done) | omega | (simp; omega)))), Lib.hid fun k' x hk' hx' => by
                  rcases Nat.lt_or_ge k' k with h | h
                  · exact hoq.out k' x h hx'
                  · obtain rfl : k' = k := by omega
                    rw [hxe.out] at hx'; injection hx' with hx'; rw [← hx']; exact HK.out⟩
                case measure => simp [intOf]; omega
              · have f6 : (ly == lv - 1) = false := by simpa using hq
                have f7 : (ly != lv - 1) = true := by simpa using hq
                have HE := Lib.hid (HF.out j hlj (ndOk_elem hx.out hxe.out (by simp only; rw [HQ.out]; exact decide_eq_false hq)))
                clear HQ hxe hq
                go_wp2_with fail
                (refine wp_region_ext_lit (by kernel_rfl) (by kernel_rfl) ?_; (repeat (go_big_quiet_step (fail))); refine wpQuiet_nil ?_; intro _ hw'; obtain ⟨z3, hw''⟩ := hw'; subst hw''; have hs3 := z3.size; obtain ⟨hc3, hf3⟩ := bcell z3.below; (try simp only [World.size_alloc, World.size_setCell, World.size_drew] at hc3 hf3); (try simp at hs3))
                go_wp2_with fail
                go_ret
                exact ⟨ret_bool HE.out.symm, by (repeat' (first | exact Below.refl _ _ | assumption | (refine Below.alloc ?_ ?_ _) | (refine Below.setCell ?_ ?_ _) | (refine Below.drew ?_) | (refine below_drewN ?_ _) | (refine below_after (Ext.below _) ?_ ?_) | (refine below_after (by assumption) ?_ ?_) | (simp; done) | omega | (simp; omega)))⟩
          · obtain rfl : k = me := by omega
            have dk : decide ((k : Int) < k) = false := decide_eq_false (by omega)
            have hnd := Lib.hid (ndOk_all (st := (k : Int)) (N := N) hx.out l1 l2 (by simp only; rw [hEl.out]) (fun k' x hk' hx' => hoq.out k' x (by simp only at hk'; rw [← hEl.out]; exact hk') hx'))
            go_wp2_with fail
            go_roundw
            case rel => exact ⟨j + 1, by go_num, by omega, hbw, Lib.hid fun i hi => by
              rcases Nat.lt_or_ge i j with h | h
              · exact hok.out i h
              · obtain rfl : i = j := by omega
                exact hnd.out⟩
            case measure => simp [intOf]; omega
    · obtain rfl : j = q + 1 := by omega
      have dj : decide ((q : Int) + 1 < (q : Int) + 1) = false := decide_eq_false (by omega)
      have hfin : Below w.heap.size w wr := below_thru hbe hb
      have g1 : wr.cell? ⟨b0, o0 + q * 2, none⟩ = some (.int .i64 lv0) := by rw [hb.cell (p := ⟨_, _, none⟩) hb0e]; exact g10e
      have hb0r : b0 < wr.heap.size := Nat.lt_of_lt_of_le hb0e hb.size
      by_cases hlv : lv0 = (n : Int)
      · have HE := Lib.hid (HT.out hlv hok.out)
        have d5 : (lv0 == (n : Int)) = true := by simpa using hlv
        clear hlv
        go_wp2_with fail
        (refine wp_region_ext_lit (by kernel_rfl) (by kernel_rfl) ?_; (repeat (go_big_quiet_step (fail))); refine wpQuiet_nil ?_; intro _ hw'; obtain ⟨z3, hw''⟩ := hw'; subst hw''; have hs3 := z3.size; obtain ⟨hc3, hf3⟩ := bcell z3.below; (try simp only [World.size_alloc, World.size_setCell, World.size_drew] at hc3 hf3); (try simp at hs3))
        go_wp2_with fail
        go_ret
        exact ⟨ret_bool HE.out.symm, by (repeat' (first | exact Below.refl _ _ | assumption | (refine Below.alloc ?_ ?_ _) | (refine Below.setCell ?_ ?_ _) | (refine Below.drew ?_) | (refine below_drewN ?_ _) | (refine below_after (Ext.below _) ?_ ?_) | (refine below_after (by assumption) ?_ ?_) | (simp; done) | omega | (simp; omega)))⟩
      · have HE := Lib.hid (HL.out hlv)
        have d5 : (lv0 == (n : Int)) = false := by simpa using hlv
        clear hlv
        go_wp2_with fail
        (refine wp_region_ext_lit (by kernel_rfl) (by kernel_rfl) ?_; (repeat (go_big_quiet_step (fail))); refine wpQuiet_nil ?_; intro _ hw'; obtain ⟨z3, hw''⟩ := hw'; subst hw''; have hs3 := z3.size; obtain ⟨hc3, hf3⟩ := bcell z3.below; (try simp only [World.size_alloc, World.size_setCell, World.size_drew] at hc3 hf3); (try simp at hs3))
        go_wp2_with fail
        go_ret
        exact ⟨ret_bool HE.out.symm, by (repeat' (first | exact Below.refl _ _ | assumption | (refine Below.alloc ?_ ?_ _) | (refine Below.setCell ?_ ?_ _) | (refine Below.drew ?_) | (refine below_drewN ?_ _) | (refine below_after (Ext.below _) ?_ ?_) | (refine below_after (by assumption) ?_ ?_) | (simp; done) | omega | (simp; omega)))⟩
theorem ref12_Right (st : Int) (A B : Option Addr) (n c m d : Nat) (H : List (Int × Int)) (N : List (Int × List Int)) (w : World) (hH : Rd encP 2 w A n H) (hN : RdX ekN w B m N) :
    Calls Tryz.prog 52 #[.agg #[.int .i64 st, .slice A n c, .slice B m d]] w fun e w' => e = .returned (.bool (trR st H N)) ∧ Below w.heap.size w w' := by
  by_cases hbad : st < 2 ∨ 8 < st ∨ rightL H = false ∨ m < 1 ∨ 4096 < m
  · exact ref12_Right_head st A B n c m d H N w hH hN hbad
  · have hr : rightL H = true := by
      cases h : rightL H with
      | true => rfl
      | false => exact absurd (.inr (.inr (.inl h))) hbad
    exact ref12_Right_main st A B n c m d H N w hH hN (by omega) (by omega) hr (by omega) (by omega)
end Go.Proofs.YtmenokhnanghgaaGreat
end
section
namespace Go.Proofs.YtmenokhnanghgaaGreat
open Go Go.RowKit
set_option maxRecDepth 100000
theorem FrW.tr {W w' : World} {b : Nat} {x y z : Value} (h : FrW W w') (t : TrAt W b x y z) : FrW W w' ∧ w'.cell? ⟨b, 0, none⟩ = some x ∧ w'.cell? ⟨b, 1, none⟩ = some y ∧ w'.cell? ⟨b, 2, none⟩ = some z :=
  ⟨h, (t.of h.below).2⟩
section
variable (st : Int) (A B : Option Addr) (n c m d : Nat) (H : List (Int × Int)) (N : List (Int × List Int)) (w : World)
end
end Go.Proofs.YtmenokhnanghgaaGreat
end
