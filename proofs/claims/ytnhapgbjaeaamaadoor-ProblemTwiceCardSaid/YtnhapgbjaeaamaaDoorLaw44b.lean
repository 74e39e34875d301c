/- The fixed examples of chapter 44. -/
import Derived.Test.YtnhapgbjaeaamaaDoorLaw44a
import Derived.Test.YtnhapgbjaeaamaaDoorGRP
namespace Go.Proofs.YtnhapgbjaeaamaaDoor
open Go Go.RowKit
set_option linter.unusedSimpArgs false
set_option linter.unusedVariables false
set_option maxRecDepth 100000
set_option linter.unusedSimpArgs false
set_option linter.unusedVariables false
theorem ev44_1 : slvB 2 hood44 node44 2 2 1 1 0 [] pat44 = true := by decide +kernel
theorem ev44_2 : begE 2 hood44 node44 2 2 1 1 0 [] pat44 = 0 := by decide +kernel
theorem ev44_3 : slvB 2 hood44 node44 2 2 2 1 0 [] pat44 = false := by decide +kernel
theorem ev44_4 : begE 2 hood44 node44 2 2 2 1 0 [] pat44 = 0 := by decide +kernel
theorem ev44_5 : excB 2 hood44 node44 2 2 2 2 0 [] pat44 = false := by decide +kernel
theorem ev44_6 : begE 2 hood44 node44 2 2 2 2 0 [] pat44 = 0 := by decide +kernel
theorem ev44_7 : boxE 2 2 1 0 0 [2] = 0 := by decide +kernel
theorem ev44_8 : freL 2 2 1 0 0 [2] = [0, 1] := by
  unfold freL orbP
  rw [if_pos ev44_7, grp_2]
  decide +kernel
theorem ev44_9 : celE 2 2 1 1 0 [] [1, 0, 0, 1] = 0 := by decide +kernel
theorem ev44_10 : celL 2 2 1 1 0 [] [1, 0, 0, 1] = pat44 := by decide +kernel
theorem ev44_11 : chkE 2 hood44 node44 2 3 1 0 0 [1] = 2 := by decide +kernel
theorem ev44_12 : chkE 0 [] [] 2 2 1 1 0 [] = 11 := by decide +kernel
section
variable {A B D Q : Option Addr} {c d e cl : Nat} {w : World}
theorem slv44a (hM : Mx w) (hH : Rd encP 2 w A 1 hood44) (hN : RdX ekN w B 1 node44) (hP : Rd encC 3 w D 2 pat44) (he : 2 ≤ e) :
    Calls Tryd.prog 7 #[.agg #[.int .i64 2, .slice A 1 c, .slice B 1 d], .agg #[.int .i64 2, .int .i64 2, .int .i64 1, .int .i64 1, .int .i64 0, .slice none 0 0], .slice D 2 e] w fun e w' => e = .returned (.tuple #[.bool true, .int .i64 0]) ∧ Below w.heap.size w w' := by
  have h := prb_Solves 2 A B none D 1 c 1 d 0 0 2 e hood44 node44 2 2 1 1 0 [] pat44 w hM hH hN Rd.nil_ (by omega) hP (by omega) he
  rw [ev44_1, ev44_2] at h
  exact h
theorem slv44b (hM : Mx w) (hH : Rd encP 2 w A 1 hood44) (hN : RdX ekN w B 1 node44) (hP : Rd encC 3 w D 2 pat44) (he : 2 ≤ e) :
    Calls Tryd.prog 7 #[.agg #[.int .i64 2, .slice A 1 c, .slice B 1 d], .agg #[.int .i64 2, .int .i64 2, .int .i64 2, .int .i64 1, .int .i64 0, .slice none 0 0], .slice D 2 e] w fun e w' => e = .returned (.tuple #[.bool false, .int .i64 0]) ∧ Below w.heap.size w w' := by
  have h := prb_Solves 2 A B none D 1 c 1 d 0 0 2 e hood44 node44 2 2 2 1 0 [] pat44 w hM hH hN Rd.nil_ (by omega) hP (by omega) he
  rw [ev44_3, ev44_4] at h
  exact h
theorem exc44 (hM : Mx w) (hH : Rd encP 2 w A 1 hood44) (hN : RdX ekN w B 1 node44) (hP : Rd encC 3 w D 2 pat44) (he : 2 ≤ e) :
    Calls Tryd.prog 10 #[.agg #[.int .i64 2, .slice A 1 c, .slice B 1 d], .agg #[.int .i64 2, .int .i64 2, .int .i64 2, .int .i64 2, .int .i64 0, .slice none 0 0], .slice D 2 e] w fun e w' => e = .returned (.tuple #[.bool false, .int .i64 0]) ∧ Below w.heap.size w w' := by
  have h := prb_Exact 2 A B none D 1 c 1 d 0 0 2 e hood44 node44 2 2 2 2 0 [] pat44 w hM hH hN Rd.nil_ (by omega) hP (by omega) he
  rw [ev44_5, ev44_6] at h
  exact h
theorem fre44 (hM : Mx w) (hR : Rd encI 1 w Q 1 [2]) :
    Calls Tryd.prog 11 #[.agg #[.int .i64 2, .int .i64 2, .int .i64 1, .int .i64 0, .int .i64 0, .slice Q 1 cl]] w fun e w' => ∃ A2 c2, e = .returned (.tuple #[.slice A2 2 c2, .int .i64 0]) ∧ Rd encI 1 w' A2 2 [0, 1] ∧ Below w.heap.size w w' := by
  refine (prb_Free 2 2 1 0 0 [2] Q 1 cl w hM hR (by omega)).mono ?_
  rintro e w' ⟨A2, n2, c2, rfl, h2, _, _, hb⟩
  rw [ev44_7]
  rw [ev44_8] at h2
  obtain rfl : n2 = 2 := h2.len.symm
  exact ⟨A2, c2, rfl, h2, hb⟩
theorem cel44 (hQ : Rd encI 1 w Q 4 [1, 0, 0, 1]) :
    Calls Tryd.prog 12 #[.agg #[.int .i64 2, .int .i64 2, .int .i64 1, .int .i64 1, .int .i64 0, .slice none 0 0], .slice Q 4 cl] w fun e w' => ∃ A2 c2, e = .returned (.tuple #[.slice A2 2 c2, .int .i64 0]) ∧ Rd encC 3 w' A2 2 pat44 ∧ Below w.heap.size w w' := by
  refine (prb_Cells 2 2 1 1 0 [] none Q 0 0 4 cl [1, 0, 0, 1] w Rd.nil_ (by omega) hQ (by omega)).mono ?_
  rintro e w' ⟨A2, n2, c2, rfl, h2, hb⟩
  rw [ev44_9]
  rw [ev44_10] at h2
  obtain rfl : n2 = 2 := h2.rd.len.symm
  exact ⟨A2, c2, rfl, h2.rd, hb⟩
theorem chk44a (hH : Rd encP 2 w A 1 hood44) (hN : RdX ekN w B 1 node44) (hR : Rd encI 1 w Q 1 [1]) :
    Calls Tryd.prog 15 #[.agg #[.int .i64 2, .slice A 1 c, .slice B 1 d], .agg #[.int .i64 2, .int .i64 3, .int .i64 1, .int .i64 0, .int .i64 0, .slice Q 1 cl]] w fun e w' => e = .returned (.int .i64 2) ∧ Below w.heap.size w w' := by
  have h := prb_Check 2 A B Q 1 c 1 d 1 cl hood44 node44 2 3 1 0 0 [1] w hH hN hR (by omega)
  rw [ev44_11] at h
  exact h
theorem chk44b : Calls Tryd.prog 15 #[.agg #[.int .i64 0, .slice none 0 0, .slice none 0 0], .agg #[.int .i64 2, .int .i64 2, .int .i64 1, .int .i64 1, .int .i64 0, .slice none 0 0]] w fun e w' => e = .returned (.int .i64 11) ∧ Below w.heap.size w w' := by
  have h := prb_Check 0 none none none 0 0 0 0 0 0 [] [] 2 2 1 1 0 [] w Rd.nil_ RdX.nil_ Rd.nil_ (by omega)
  rw [ev44_12] at h
  exact h
theorem int44 {A2 : Option Addr} {c2 : Nat} (hR : Rd encI 1 w A 2 [0, 1]) (hS : Rd encI 1 w A2 2 [0, 1]) :
    Calls Tryd.prog 13 #[.slice A 2 c, .slice A2 2 c2] w fun e w' => e = .returned (.bool true) ∧ Below w.heap.size w w' := by
  have h := law_Ints A A2 2 2 c c2 [0, 1] [0, 1] w hR hS (by omega) (by omega)
  rw [sameL_self] at h
  exact h
theorem FrW.pb {W w' : World} {b : Nat} {X Y G DX DY : Int} {v : Value} (h : FrW W w') (t : PbAt W b X Y G DX DY v) : FrW W w' ∧ w'.cell? ⟨b, 0, none⟩ = some (.int .i64 X) ∧ w'.cell? ⟨b, 1, none⟩ = some (.int .i64 Y) ∧ w'.cell? ⟨b, 2, none⟩ = some (.int .i64 G) ∧ w'.cell? ⟨b, 3, none⟩ = some (.int .i64 DX) ∧ w'.cell? ⟨b, 4, none⟩ = some (.int .i64 DY) ∧ w'.cell? ⟨b, 5, none⟩ = some v :=
  ⟨h, ((t.of h.below).open).2⟩
end
set_option maxHeartbeats 8000000 in
theorem awake_44 (w : World) (hM : Mx w) : Calls Tryd.prog 6 #[] w fun e w' => e = .returned (.bool true) ∧ Below w.heap.size w w' := by
  go_enter Tryd.func6, Tryd.ntmps6
  go_wp2_with fail
  have hbx := (PbAt.new w 2 2 1 1 0 (.slice none 0 0) 28).of ((Below.refl _ _).alloc (Nat.le_refl _) (.cells #[.int .i64 0, .int .i64 0, .int .i64 1, .int .i64 1, .int .i64 1, .int .i64 1] 40))
  have hP := rd_litC (w.alloc (.cells #[.int .i64 2, .int .i64 2, .int .i64 1, .int .i64 1, .int .i64 0, .slice none 0 0] 28)) pat44 #[.int .i64 0, .int .i64 0, .int .i64 1, .int .i64 1, .int .i64 1, .int .i64 1] 2 rfl (by omega) rfl
  rw [World.size_alloc] at hP
  have hB : Below w.heap.size w ((w.alloc (.cells #[.int .i64 2, .int .i64 2, .int .i64 1, .int .i64 1, .int .i64 0, .slice none 0 0] 28)).alloc (.cells #[.int .i64 0, .int .i64 0, .int .i64 1, .int .i64 1, .int .i64 1, .int .i64 1] 40)) := by (repeat' (first | exact Below.refl _ _ | assumption | (refine Below.alloc ?_ ?_ _) | (refine Below.setCell ?_ ?_ _) | (refine Below.drew ?_) | (refine below_drewN ?_ _) | (refine below_after (Ext.below _) ?_ ?_) | (refine below_after (by assumption) ?_ ?_) | (simp; done) | omega | (simp; omega)))
  obtain ⟨we, hwe⟩ : ∃ we, we = ((w.alloc (.cells #[.int .i64 2, .int .i64 2, .int .i64 1, .int .i64 1, .int .i64 0, .slice none 0 0] 28)).alloc (.cells #[.int .i64 0, .int .i64 0, .int .i64 1, .int .i64 1, .int .i64 1, .int .i64 1] 40)) := ⟨_, rfl⟩
  rw [← hwe] at hbx hP hB ⊢
  clear hwe
  replace hM := hM.of hB
  go_region_held3 (fun w' => FrW we w' ∧ w'.cell? ⟨w.heap.size, 0, none⟩ = some (.int .i64 2) ∧ w'.cell? ⟨w.heap.size, 1, none⟩ = some (.int .i64 2) ∧ w'.cell? ⟨w.heap.size, 2, none⟩ = some (.int .i64 1) ∧ w'.cell? ⟨w.heap.size, 3, none⟩ = some (.int .i64 1) ∧ w'.cell? ⟨w.heap.size, 4, none⟩ = some (.int .i64 0) ∧ w'.cell? ⟨w.heap.size, 5, none⟩ = some (.slice none 0 0))
    (((try go_split_ands); refine FrW.pb ?_ hbx; first | exact FrW.drew (FrW.here _) | exact FrW.of ‹_› hb | exact FrW.drew ‹_› | exact FrW.alloc ‹_› _ | exact FrW.here _ | fail))
    ((first
    | (go_at_call 9; (try go_split_ands); refine (law_shift _).mono ?_; rintro e7 w7 ⟨A7, B7, rfl, hH7, hN7, hb⟩)
    | (go_at_call 7; (try go_split_ands); refine (slv44a (hM.of (FrW.below ‹_›)) hH7 hN7 (hP.of (FrW.below ‹_›)) (by omega)).mono ?_; rintro e2 w2 ⟨rfl, hb⟩)
    | fail))
  (try go_split_ands)
  have hB2 : Below we.heap.size we w2 := FrW.below ‹_›
  replace hbx := hbx.of hB2
  replace hM := hM.of hB2
  replace hP := hP.of hB2
  replace hB := below_thru hB hB2
  clear hH7 hN7
  go_wp2_with fail
  go_at_call 9
  refine (law_shift _).mono ?_
  rintro e3 w3 ⟨A3, B3, rfl, hH3, hN3, hb3⟩
  replace hbx := hbx.of hb3
  replace hM := hM.of hb3
  replace hP := hP.of hb3
  replace hB := below_thru hB hb3
  go_wp2_with fail
  go_at_call 7
  refine (slv44b hM hH3 hN3 hP (by omega)).mono ?_
  rintro e4 w4 ⟨rfl, hb4⟩
  replace hbx := hbx.of hb4
  replace hM := hM.of hb4
  replace hP := hP.of hb4
  replace hB := below_thru hB hb4
  clear hH3 hN3
  go_wp2_with fail
  go_at_call 9
  refine (law_shift _).mono ?_
  rintro e5 w5 ⟨A5, B5, rfl, hH5, hN5, hb5⟩
  replace hbx := hbx.of hb5
  replace hM := hM.of hb5
  replace hP := hP.of hb5
  replace hB := below_thru hB hb5
  go_wp2_with fail
  go_at_call 10
  refine (exc44 hM hH5 hN5 hP (by omega)).mono ?_
  rintro e6 w6 ⟨rfl, hb6⟩
  replace hbx := hbx.of hb6
  replace hM := hM.of hb6
  replace hP := hP.of hb6
  replace hB := below_thru hB hb6
  clear hH5 hN5
  go_wp2_with fail
  have hl8 := rd_litI w6 [2] #[.int .i64 2] 1 rfl (by omega) rfl
  have hbl : Below w6.heap.size w6 (w6.alloc (.cells #[.int .i64 2] 3)) := (Below.refl _ _).alloc (Nat.le_refl _) _
  go_at_call 11
  refine (fre44 (hM.of hbl) hl8).mono ?_
  rintro e8 w8 ⟨A8, c8, rfl, hR8, hb8⟩
  replace hb8 := below_thru hbl hb8
  replace hbx := hbx.of hb8
  replace hM := hM.of hb8
  replace hP := hP.of hb8
  replace hB := below_thru hB hb8
  clear hl8 hbl
  obtain ⟨_, p0, p1, p2, p3, p4, p5⟩ := hbx.open
  go_wp2_with fail
  have hl9 := rd_litI w8 [1, 0, 0, 1] #[.int .i64 1, .int .i64 0, .int .i64 0, .int .i64 1] 4 rfl (by omega) rfl
  have hbl : Below w8.heap.size w8 (w8.alloc (.cells #[.int .i64 1, .int .i64 0, .int .i64 0, .int .i64 1] 3)) := (Below.refl _ _).alloc (Nat.le_refl _) _
  go_at_call 12
  refine (cel44 hl9).mono ?_
  rintro e9 w9 ⟨A9, c9, rfl, hR9, hb9⟩
  replace hb9 := below_thru hbl hb9
  replace hbx := hbx.of hb9
  replace hM := hM.of hb9
  replace hP := hP.of hb9
  replace hR8 := hR8.of hb9
  replace hB := below_thru hB hb9
  clear hl9 hbl p0 p1 p2 p3 p4 p5
  go_wp2_with fail
  have hl10 := rd_litI w9 [0, 1] #[.int .i64 0, .int .i64 1] 2 rfl (by omega) rfl
  have hbl : Below w9.heap.size w9 (w9.alloc (.cells #[.int .i64 0, .int .i64 1] 3)) := (Below.refl _ _).alloc (Nat.le_refl _) _
  go_at_call 13
  refine (int44 (hR8.of hbl) hl10).mono ?_
  rintro e10 w10 ⟨rfl, hb10⟩
  replace hb10 := below_thru hbl hb10
  replace hbx := hbx.of hb10
  replace hP := hP.of hb10
  replace hR9 := hR9.of hb10
  replace hB := below_thru hB hb10
  clear hl10 hbl hR8 hM
  go_wp2_with fail
  go_at_call 14
  refine (ref05_SameV (sameL_self pat44) A9 _ 2 2 c9 2 _ hR9 hP (by omega) (by omega)).mono ?_
  rintro e11 w11 ⟨rfl, hb11⟩
  replace hbx := hbx.of hb11
  replace hB := below_thru hB hb11
  clear hR9 hP
  go_wp2_with fail
  go_at_call 9
  refine (law_shift _).mono ?_
  rintro e12 w12 ⟨A12, B12, rfl, hH12, hN12, hb12⟩
  replace hbx := hbx.of hb12
  replace hB := below_thru hB hb12
  go_wp2_with fail
  have hl13 := rd_litI w12 [1] #[.int .i64 1] 1 rfl (by omega) rfl
  have hbl : Below w12.heap.size w12 (w12.alloc (.cells #[.int .i64 1] 3)) := (Below.refl _ _).alloc (Nat.le_refl _) _
  go_at_call 15
  refine (chk44a (hH12.of hbl) (hN12.of hbl) hl13).mono ?_
  rintro e13 w13 ⟨rfl, hb13⟩
  replace hb13 := below_thru hbl hb13
  replace hbx := hbx.of hb13
  replace hB := below_thru hB hb13
  clear hl13 hbl hH12 hN12
  obtain ⟨_, p0, p1, p2, p3, p4, p5⟩ := hbx.open
  go_wp2_with fail
  go_at_call 15
  refine chk44b.mono ?_
  rintro e14 w14 ⟨rfl, hb14⟩
  replace hB := below_thru hB hb14
  go_wp2_with fail
  go_ret
  exact ⟨rfl, hB⟩
end Go.Proofs.YtnhapgbjaeaamaaDoor
