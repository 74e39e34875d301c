/- The walk of AlgebraGroup. -/
import Derived.Test.YtenckggfgbkfnaaDoorLaw06a
import Derived.Test.YtenckggfgbkfnaaDoorSym2
namespace Go.Proofs.YtenckggfgbkfnaaDoor
open Go Go.RowKit
set_option linter.unusedSimpArgs false
set_option linter.unusedVariables false
set_option maxRecDepth 100000
attribute [local go_sem ↓ high] eq_cl neq_cl eq_pt neq_pt eq_box neq_box
/-- A box of two small numbers. -/
def TwoAt (w : World) (b : Nat) (u v : Value) : Prop := b < w.heap.size ∧ w.cell? ⟨b, 0, none⟩ = some u ∧ w.cell? ⟨b, 1, none⟩ = some v
theorem TwoAt.of {w w' : World} {b : Nat} {u v : Value} (h : TwoAt w b u v) (hb : Below w.heap.size w w') : TwoAt w' b u v :=
  ⟨Nat.lt_of_lt_of_le h.1 hb.size, by rw [hb.cell (p := ⟨b, 0, none⟩) h.1]; exact h.2.1, by rw [hb.cell (p := ⟨b, 1, none⟩) h.1]; exact h.2.2⟩
theorem TwoAt.new (w : World) (u v : Value) (t : TypeId) : TwoAt (w.alloc (.cells #[u, v] t)) w.heap.size u v := by
  refine ⟨by simp, ?_, ?_⟩
  · rw [cell_alloc_if, if_neg (by omega), if_pos rfl]; rfl
  · rw [cell_alloc_if, if_neg (by omega), if_pos rfl]; rfl
theorem sh_ways {l : List (Int × Int × Int)} (h : rightC l = true) (dx dy : Int) : (shE l dx dy = 0 ∧ shL l dx dy = l.map (mv5 dx dy) ∧ rightC (l.map (mv5 dx dy)) = true) ∨ (shE l dx dy = 5 ∧ shL l dx dy = []) := by
  cases hf : farB dx dy with
  | false => exact Or.inr ⟨shE_far h hf, shL_no (shE_far h hf) (by omega)⟩
  | true =>
    cases ha : (l.map (mv dx dy)).all plC with
    | false => exact Or.inr ⟨shE_out h hf ha, shL_no (shE_out h hf ha) (by omega)⟩
    | true =>
      refine Or.inl ⟨shE_ok h hf ha, shL_ok (shE_ok h hf ha), rightC_mv h fun c hc => ?_⟩
      have := List.all_eq_true.1 ha _ (List.mem_map.2 ⟨c, hc, rfl⟩)
      unfold plC at this
      exact validB_iff.1 this
theorem tu_right {l : List (Int × Int × Int)} (h : rightC l = true) (k : Int) : tuE l = 0 ∧ tuL k l = trL k l := by
  unfold tuE tuL; rw [h]; exact ⟨rfl, rfl⟩
set_option maxHeartbeats 8000000 in
theorem law_agroup (A : Option Addr) (n c : Nat) (l : List (Int × Int × Int)) (k0 k1 m0 m1 : Int) (w : World) (hM : Mx w) (hR : Rd encC 3 w A n l) (hnc : n ≤ c) (hm0 : -128 ≤ m0 ∧ m0 ≤ 127) (hm1 : -128 ≤ m1 ∧ m1 ≤ 127) :
    Calls Tryd.prog 9 #[.slice A n c, .agg #[.int .i64 k0, .int .i64 k1], .agg #[.int .i8 m0, .int .i8 m1]] w fun e w' => e = .returned (.bool true) ∧ Below w.heap.size w w' := by
  by_cases hn : n ≤ 300
  case neg =>
    have dn : decide (300 < (n : Int)) = true := decide_eq_true (by omega)
    go_enter Tryd.func9, Tryd.ntmps9
    go_wp2_with fail; go_at_call 11; refine (awake_06 _ (hM.of (by (repeat' (first | exact Below.refl _ _ | assumption | (refine Below.alloc ?_ ?_ _) | (refine Below.setCell ?_ ?_ _) | (refine Below.drew ?_) | (refine below_drewN ?_ _) | (refine below_after (Ext.below _) ?_ ?_) | (refine below_after (by assumption) ?_ ?_) | (simp; done) | omega | (simp; omega)))))).mono ?_; rintro e w1 ⟨rfl, hb1⟩; have hs1 := hb1.size; (try simp only [World.size_alloc, World.size_drew, World.size_setCell] at hs1)
    go_wp2_with fail
    go_ret
    exact ⟨rfl, by (repeat' (first | exact Below.refl _ _ | assumption | (refine Below.alloc ?_ ?_ _) | (refine Below.setCell ?_ ?_ _) | (refine Below.drew ?_) | (refine below_drewN ?_ _) | (refine below_after (Ext.below _) ?_ ?_) | (refine below_after (by assumption) ?_ ?_) | (simp; done) | omega | (simp; omega)))⟩
  case pos =>
    have dn : decide (300 < (n : Int)) = false := decide_eq_false (by omega)
    cases hr : rightC l with
    | false =>
      have kR := fun w1 (h : Rd encC 3 w1 A n l) => ref05_RightV (A := A) (n := n) (c := c) hr w1 h (by omega)
      clear hr
      go_enter Tryd.func9, Tryd.ntmps9
      go_wp2_with fail; go_at_call 23; refine (kR _ (hR.of (by (repeat' (first | exact Below.refl _ _ | assumption | (refine Below.alloc ?_ ?_ _) | (refine Below.setCell ?_ ?_ _) | (refine Below.drew ?_) | (refine below_drewN ?_ _) | (refine below_after (Ext.below _) ?_ ?_) | (refine below_after (by assumption) ?_ ?_) | (simp; done) | omega | (simp; omega)))))).mono ?_; rintro e w1 ⟨rfl, hb1⟩; have hs1 := hb1.size; (try simp only [World.size_alloc, World.size_drew, World.size_setCell] at hs1)
      go_wp2_with fail; go_at_call 11; refine (awake_06 _ (hM.of (by (repeat' (first | exact Below.refl _ _ | assumption | (refine Below.alloc ?_ ?_ _) | (refine Below.setCell ?_ ?_ _) | (refine Below.drew ?_) | (refine below_drewN ?_ _) | (refine below_after (Ext.below _) ?_ ?_) | (refine below_after (by assumption) ?_ ?_) | (simp; done) | omega | (simp; omega)))))).mono ?_; rintro e w2 ⟨rfl, hb2⟩; have hs2 := hb2.size; (try simp only [World.size_alloc, World.size_drew, World.size_setCell] at hs2)
      go_wp2_with fail
      go_ret
      exact ⟨rfl, by (repeat' (first | exact Below.refl _ _ | assumption | (refine Below.alloc ?_ ?_ _) | (refine Below.setCell ?_ ?_ _) | (refine Below.drew ?_) | (refine below_drewN ?_ _) | (refine below_after (Ext.below _) ?_ ?_) | (refine below_after (by assumption) ?_ ?_) | (simp; done) | omega | (simp; omega)))⟩
    | true =>
      have kR := fun w1 (h : Rd encC 3 w1 A n l) => ref05_RightV (A := A) (n := n) (c := c) hr w1 h (by omega)
      have hlen := hR.len
      have r1 := tr_right k0 hr
      have kT1 := fun w1 h0 h1 => alg_TurnV (k := k0) A n c w1 (tu_right hr k0).1 (tu_right hr k0).2 (p := n) (by rw [tr_len, hlen]) h0 h1 (by omega)
      have kT2 := fun A1 c1 w1 h0 h1 => alg_TurnV (k := k1) A1 n c1 w1 (tu_right r1 k1).1 ((tu_right r1 k1).2.trans (tr_comp k0 k1 hr)) (p := n) (by rw [tr_len, hlen]) h0 h1 (by omega)
      have kT3 := fun w1 h0 h1 => alg_TurnV (k := comp k0 k1) A n c w1 (tu_right hr (comp k0 k1)).1 (tu_right hr (comp k0 k1)).2 (p := n) (by rw [tr_len, hlen]) h0 h1 (by omega)
      have kT4 := fun A1 c1 w1 h0 h1 => alg_TurnV (k := inv k0) A1 n c1 w1 (tu_right r1 (inv k0)).1 ((tu_right r1 (inv k0)).2.trans (tr_inv k0 hr)) (p := n) (by rw [hlen]) h0 h1 (by omega)
      have kC := fun w1 h0 => sym_Compose k0 k1 w1 h0
      have kI := fun w1 h0 => sym_Inverse k0 w1 h0
      have hw := Lib.hid (fun dx dy => sh_ways hr dx dy)
      have hhm := Lib.hid (fun dx dy h => hm_mv (l := l) (dx := dx) (dy := dy) hr h)
      have kH := fun w1 h1 => alg_HomeV A n c w1 (rfl : hmL l = hmL l) h1 (by omega) hnc
      clear hr r1
      generalize trL k0 l = s1 at *
      generalize trL (comp k0 k1) l = s2 at *
      generalize comp k0 k1 = kc at *
      generalize inv k0 = ki at *
      go_enter Tryd.func9, Tryd.ntmps9
      have xa : TwoAt ((w.alloc (.cells #[.int .i64 k0, .int .i64 k1] 46)).alloc (.cells #[.int .i8 m0, .int .i8 m1] 48)) w.heap.size (.int .i64 k0) (.int .i64 k1) := (TwoAt.new w (.int .i64 k0) (.int .i64 k1) 46).of (by (repeat' (first | exact Below.refl _ _ | assumption | (refine Below.alloc ?_ ?_ _) | (refine Below.setCell ?_ ?_ _) | (refine Below.drew ?_) | (refine below_drewN ?_ _) | (refine below_after (Ext.below _) ?_ ?_) | (refine below_after (by assumption) ?_ ?_) | (simp; done) | omega | (simp; omega))))
      have xc := TwoAt.new (w.alloc (.cells #[.int .i64 k0, .int .i64 k1] 46)) (.int .i8 m0) (.int .i8 m1) 48
      rw [World.size_alloc] at xc
      go_wp2_with fail; go_at_call 23; refine (kR _ (hR.of (by (repeat' (first | exact Below.refl _ _ | assumption | (refine Below.alloc ?_ ?_ _) | (refine Below.setCell ?_ ?_ _) | (refine Below.drew ?_) | (refine below_drewN ?_ _) | (refine below_after (Ext.below _) ?_ ?_) | (refine below_after (by assumption) ?_ ?_) | (simp; done) | omega | (simp; omega)))))).mono ?_; rintro e w1 ⟨rfl, hb1⟩; have hs1 := hb1.size; (try simp only [World.size_alloc, World.size_drew, World.size_setCell] at hs1)
      have hR1 : Rd encC 3 w1 A n l := hR.of (by (repeat' (first | exact Below.refl _ _ | assumption | (refine Below.alloc ?_ ?_ _) | (refine Below.setCell ?_ ?_ _) | (refine Below.drew ?_) | (refine below_drewN ?_ _) | (refine below_after (Ext.below _) ?_ ?_) | (refine below_after (by assumption) ?_ ?_) | (simp; done) | omega | (simp; omega))))
      have hM1 : Mx w1 := hM.of (by (repeat' (first | exact Below.refl _ _ | assumption | (refine Below.alloc ?_ ?_ _) | (refine Below.setCell ?_ ?_ _) | (refine Below.drew ?_) | (refine below_drewN ?_ _) | (refine below_after (Ext.below _) ?_ ?_) | (refine below_after (by assumption) ?_ ?_) | (simp; done) | omega | (simp; omega))))
      have hB1 : Below w.heap.size w w1 := by (repeat' (first | exact Below.refl _ _ | assumption | (refine Below.alloc ?_ ?_ _) | (refine Below.setCell ?_ ?_ _) | (refine Below.drew ?_) | (refine below_drewN ?_ _) | (refine below_after (Ext.below _) ?_ ?_) | (refine below_after (by assumption) ?_ ?_) | (simp; done) | omega | (simp; omega)))
      have xa := xa.of hb1
      have xc := xc.of hb1
      have hs0 := hB1.size
      clear hb1 hs1
      obtain ⟨qa0, qa1, qa2⟩ := id xa
      go_wp2_with fail; go_at_call 17; refine (kT1 _ hM1 hR1).mono ?_; rintro e w2 ⟨A2, c2, rfl, h2, hc2, hb2⟩; have hs2 := hb2.size; (try simp only [World.size_alloc, World.size_drew, World.size_setCell] at hs2)
      have hR2 := hR1.of hb2
      have hM2 := hM1.of hb2
      have xa := xa.of hb2
      have xc := xc.of hb2
      clear qa0 qa1 qa2
      obtain ⟨qa0, qa1, qa2⟩ := id xa
      go_wp2_with fail; go_at_call 17; refine (kT2 _ _ _ hM2 h2).mono ?_; rintro e w3 ⟨A3, c3, rfl, h3, hc3, hb3⟩; have hs3 := hb3.size; (try simp only [World.size_alloc, World.size_drew, World.size_setCell] at hs3)
      have h2 := h2.of hb3
      have hR3 := hR2.of hb3
      have hM3 := hM2.of hb3
      have xa := xa.of hb3
      have xc := xc.of hb3
      clear qa0 qa1 qa2
      obtain ⟨qa0, qa1, qa2⟩ := id xa
      go_wp2_with fail; go_at_call 34; refine (kC _ hM3).mono ?_; rintro e w4 ⟨rfl, hb4⟩; have hs4 := hb4.size; (try simp only [World.size_alloc, World.size_drew, World.size_setCell] at hs4)
      have hM4 := hM3.of hb4
      have hR4 := hR3.of hb4
      go_wp2_with fail; go_at_call 17; refine (kT3 _ hM4 hR4).mono ?_; rintro e w5 ⟨A5, c5, rfl, h5, hc5, hb5⟩; have hs5 := hb5.size; (try simp only [World.size_alloc, World.size_drew, World.size_setCell] at hs5)
      have hM5 := hM4.of hb5
      have hR5 := hR4.of hb5
      have h2 := (h2.of hb4).of hb5
      have h3 := (h3.of hb4).of hb5
      have xa := (xa.of hb4).of hb5
      have xc := (xc.of hb4).of hb5
      clear qa0 qa1 qa2
      obtain ⟨qa0, qa1, qa2⟩ := id xa
      go_wp2_with fail; go_at_call 35; refine (kI _ hM5).mono ?_; rintro e w6 ⟨rfl, hb6⟩; have hs6 := hb6.size; (try simp only [World.size_alloc, World.size_drew, World.size_setCell] at hs6)
      have hM6 := hM5.of hb6
      have h2 := h2.of hb6
      go_wp2_with fail; go_at_call 17; refine (kT4 _ _ _ hM6 h2).mono ?_; rintro e w7 ⟨A7, c7, rfl, h7, hc7, hb7⟩; have hs7 := hb7.size; (try simp only [World.size_alloc, World.size_drew, World.size_setCell] at hs7)
      have hM7 := hM6.of hb7
      have hR7 := (hR5.of hb6).of hb7
      have h3 := (h3.of hb6).of hb7
      have h5 := (h5.of hb6).of hb7
      have xc := (xc.of hb6).of hb7
      clear qa0 qa1 qa2 xa
      have hB7 : Below w.heap.size w w7 := by (repeat' (first | exact Below.refl _ _ | assumption | (refine Below.alloc ?_ ?_ _) | (refine Below.setCell ?_ ?_ _) | (refine Below.drew ?_) | (refine below_drewN ?_ _) | (refine below_after (Ext.below _) ?_ ?_) | (refine below_after (by assumption) ?_ ?_) | (simp; done) | omega | (simp; omega)))
      have hs0 := hB7.size
      clear hb2 hb3 hb4 hb5 hb6 hb7 hs2 hs3 hs4 hs5 hs6 hs7 hB1 hR1 hR2 hR3 hR4 hR5 hM1 hM2 hM3 hM4 hM5 hM6 kT1 kT2 kT3 kT4 kC kI kR h2
      go_wp2_with fail; go_at_call 16; refine (ref05_SameV (sameL_self s2) _ _ _ _ _ _ _ h3 h5 (by omega) (by omega)).mono ?_; rintro e w8 ⟨rfl, hb8⟩; have hs8 := hb8.size; (try simp only [World.size_alloc, World.size_drew, World.size_setCell] at hs8)
      have hR8 := hR7.of hb8
      go_wp2_with fail; go_at_call 16; refine (ref05_SameV (sameL_self l) _ _ _ _ _ _ _ (h7.of hb8) hR8 (by omega) (by omega)).mono ?_; rintro e w9 ⟨rfl, hb9⟩; have hs9 := hb9.size; (try simp only [World.size_alloc, World.size_drew, World.size_setCell] at hs9)
      have hR9 := hR8.of hb9
      have hM9 := (hM7.of hb8).of hb9
      have hB9 : Below w.heap.size w w9 := by (repeat' (first | exact Below.refl _ _ | assumption | (refine Below.alloc ?_ ?_ _) | (refine Below.setCell ?_ ?_ _) | (refine Below.drew ?_) | (refine below_drewN ?_ _) | (refine below_after (Ext.below _) ?_ ?_) | (refine below_after (by assumption) ?_ ?_) | (simp; done) | omega | (simp; omega)))
      have hs0 := hB9.size
      obtain ⟨qc0, qc1, qc2⟩ := (xc.of hb8).of hb9
      clear hb8 hb9 hs8 hs9 xc h3 h5 h7 hR7 hR8 hM7 hB7
      have b0 : -100 ≤ m0.tmod 101 ∧ m0.tmod 101 ≤ 100 := by
        have h1 := Int.tmod_lt_of_pos m0 (show (0 : Int) < 101 by omega)
        have h2 := Int.lt_tmod_of_pos m0 (show (0 : Int) < 101 by omega)
        omega
      have b1 : -100 ≤ m1.tmod 101 ∧ m1.tmod 101 ≤ 100 := by
        have h1 := Int.tmod_lt_of_pos m1 (show (0 : Int) < 101 by omega)
        have h2 := Int.lt_tmod_of_pos m1 (show (0 : Int) < 101 by omega)
        omega
      have e0 : IntKind.i64.wrap m0 = m0 := IntWalk.i64_in _ (by omega)
      have e1 : IntKind.i64.wrap m1 = m1 := IntWalk.i64_in _ (by omega)
      generalize hd0 : m0.tmod 101 = dx at b0
      generalize hd1 : m1.tmod 101 = dy at b1
      have f0 : IntKind.i64.wrap dx = dx := IntWalk.i64_in _ (by omega)
      have f1 : IntKind.i64.wrap dy = dy := IntWalk.i64_in _ (by omega)
      have kS := fun w1 h1 => pat_ShiftC A n c l dx dy w1 h1 (by omega)
      rcases hw.out dx dy with ⟨s1', s2', s3'⟩ | ⟨s1', s2'⟩
      · rw [s1', s2'] at kS
        have hhm' := hhm.out dx dy s3'
        have kH2 := fun A1 p c1 w1 h1 h2 h3 => alg_HomeV A1 p c1 w1 hhm' h1 h2 h3
        clear s1' s2' s3' hw hhm hhm'
        generalize l.map (mv5 dx dy) = s3 at *
        generalize hmL l = s4 at *
        go_wp2_with fail; go_at_call 36; refine (kS _ hR9).mono ?_; rintro e w10 ⟨A10, n10, c10, rfl, h10, hn10, hc10, hb10⟩; have hs10 := hb10.size; (try simp only [World.size_alloc, World.size_drew, World.size_setCell] at hs10)
        have hR10 := hR9.of hb10
        clear qc0 qc1 qc2 e0 e1 f0 f1 hd0 hd1
        go_wp2_with fail; go_at_call 19; refine (kH _ hR10).mono ?_; rintro e w11 ⟨A11, c11, rfl, h11, hc11, hb11⟩; have hs11 := hb11.size; (try simp only [World.size_alloc, World.size_drew, World.size_setCell] at hs11)
        have h10 := h10.of hb11
        go_wp2_with fail; go_at_call 19; refine (kH2 _ _ _ _ h10 (by omega) hc10).mono ?_; rintro e w12 ⟨A12, c12, rfl, h12, hc12, hb12⟩; have hs12 := hb12.size; (try simp only [World.size_alloc, World.size_drew, World.size_setCell] at hs12)
        have h11 := h11.of hb12
        go_wp2_with fail; go_at_call 16; refine (ref05_SameV (sameL_self s4) _ _ _ _ _ _ _ h12 h11 (by omega) (by omega)).mono ?_; rintro e w13 ⟨rfl, hb13⟩; have hs13 := hb13.size; (try simp only [World.size_alloc, World.size_drew, World.size_setCell] at hs13)
        go_wp2_with fail; go_at_call 11; refine (awake_06 _ (hM.of (by (repeat' (first | exact Below.refl _ _ | assumption | (refine Below.alloc ?_ ?_ _) | (refine Below.setCell ?_ ?_ _) | (refine Below.drew ?_) | (refine below_drewN ?_ _) | (refine below_after (Ext.below _) ?_ ?_) | (refine below_after (by assumption) ?_ ?_) | (simp; done) | omega | (simp; omega)))))).mono ?_; rintro e w14 ⟨rfl, hb14⟩; have hs14 := hb14.size; (try simp only [World.size_alloc, World.size_drew, World.size_setCell] at hs14)
        go_wp2_with fail
        go_ret
        exact ⟨rfl, by (repeat' (first | exact Below.refl _ _ | assumption | (refine Below.alloc ?_ ?_ _) | (refine Below.setCell ?_ ?_ _) | (refine Below.drew ?_) | (refine below_drewN ?_ _) | (refine below_after (Ext.below _) ?_ ?_) | (refine below_after (by assumption) ?_ ?_) | (simp; done) | omega | (simp; omega)))⟩
      · rw [s1', s2'] at kS
        clear s1' s2' hw hhm
        generalize hmL l = s4 at *
        go_wp2_with fail; go_at_call 36; refine (kS _ hR9).mono ?_; rintro e w10 ⟨A10, n10, c10, rfl, h10, hn10, hc10, hb10⟩; have hs10 := hb10.size; (try simp only [World.size_alloc, World.size_drew, World.size_setCell] at hs10)
        have hR10 := hR9.of hb10
        clear qc0 qc1 qc2 e0 e1 f0 f1 hd0 hd1
        go_wp2_with fail; go_at_call 19; refine (kH _ hR10).mono ?_; rintro e w11 ⟨A11, c11, rfl, h11, hc11, hb11⟩; have hs11 := hb11.size; (try simp only [World.size_alloc, World.size_drew, World.size_setCell] at hs11)
        go_wp2_with fail; go_at_call 11; refine (awake_06 _ (hM.of (by (repeat' (first | exact Below.refl _ _ | assumption | (refine Below.alloc ?_ ?_ _) | (refine Below.setCell ?_ ?_ _) | (refine Below.drew ?_) | (refine below_drewN ?_ _) | (refine below_after (Ext.below _) ?_ ?_) | (refine below_after (by assumption) ?_ ?_) | (simp; done) | omega | (simp; omega)))))).mono ?_; rintro e w12 ⟨rfl, hb12⟩; have hs12 := hb12.size; (try simp only [World.size_alloc, World.size_drew, World.size_setCell] at hs12)
        go_wp2_with fail
        go_ret
        exact ⟨rfl, by (repeat' (first | exact Below.refl _ _ | assumption | (refine Below.alloc ?_ ?_ _) | (refine Below.setCell ?_ ?_ _) | (refine Below.drew ?_) | (refine below_drewN ?_ _) | (refine below_after (Ext.below _) ?_ ?_) | (refine below_after (by assumption) ?_ ?_) | (simp; done) | omega | (simp; omega)))⟩
end Go.Proofs.YtenckggfgbkfnaaDoor
