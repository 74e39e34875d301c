/- The contract of problem.solves. The contract of slices.ContainsFunc at problem.Exact's test. The contracts of slices.ContainsFunc at problem.Exact's test, of problem.Solves and problem.Exact. The contract of problem.Exact. The contracts of problem.Cells and the reference's Cells. The contracts of problem.Free and the reference's Free. -/
import Derived.Test.YtnhapgbjaeaamaaDoorPRA
import Derived.Test.YtnhapgbjaeaamaaDoorDIR
import Derived.Test.YtnhapgbjaeaamaaDoorCell4
import Derived.Test.YtnhapgbjaeaamaaDoorCell7
import Derived.Test.YtnhapgbjaeaamaaDoorAlg6
import Derived.Test.YtnhapgbjaeaamaaDoorMEM
import Derived.Deep.RegionHeld3
import Derived.Test.YtnhapgbjaeaamaaDoorGRP
set_option linter.unusedSimpArgs false
set_option linter.unusedVariables false
section
namespace Go.Proofs.YtnhapgbjaeaamaaDoor
open Go Go.RowKit
set_option maxRecDepth 100000
set_option linter.unusedSimpArgs false
set_option linter.unusedVariables false
/-- Is a pattern a solution? (Of a valid problem; the pattern fits the rule.) -/
def solB (st : Int) (Hd : List (Int × Int)) (N : List (Int × List Int)) (a b : Nat) (G DX DY : Int) (S : List Int) (p : List (Int × Int × Int)) : Bool :=
  inPB a b p && !(S.any (symX a b (gridL p 0 0 a b))) && decide (runE st Hd N p G = 0) && sameL (runL st Hd N p G) (shL p DX DY)
theorem box_shift {a b : Nat} {DX DY : Int} {p : List (Int × Int × Int)} (hr : rightC p = true) (hi : inPB a b p = true) (ha : a ≤ 16) (hb : b ≤ 16) (hx : -24 ≤ DX ∧ DX ≤ 24) (hy : -24 ≤ DY ∧ DY ≤ 24) : shE p DX DY = 0 := by
  refine shE_ok hr (by unfold farB; exact decide_eq_true (by omega)) ?_
  rw [List.all_eq_true]
  intro c hc
  obtain ⟨d, hd, rfl⟩ := List.mem_map.1 hc
  have := inPB_at hi hd
  unfold plC mv validB
  exact decide_eq_true (by simp only; omega)
section
variable {st : Int} {Hd : List (Int × Int)} {N : List (Int × List Int)} {a b : Nat} {G DX DY : Int} {S : List Int} {p : List (Int × Int × Int)}
theorem sol_out (h : inPB a b p = false) : solB st Hd N a b G DX DY S p = false := by unfold solB; rw [h]; simp
theorem sol_sym (h : S.any (symX a b (gridL p 0 0 a b)) = true) : solB st Hd N a b G DX DY S p = false := by unfold solB; rw [h]; simp
theorem sol_err (h : runE st Hd N p G ≠ 0) : solB st Hd N a b G DX DY S p = false := by unfold solB; rw [decide_eq_false h]; simp
theorem sol_all (h1 : inPB a b p = true) (h2 : S.any (symX a b (gridL p 0 0 a b)) = false) (h3 : runE st Hd N p G = 0) : solB st Hd N a b G DX DY S p = sameL (runL st Hd N p G) (shL p DX DY) := by unfold solB; rw [h1, h2, decide_eq_true h3]; simp
theorem his_at {GG : Nat} (h : runE st Hd N p GG = 0) {i : Nat} (hi : i ≤ GG) : (hisL st Hd N p GG)[i]? = some (itS Hd N p i).2 ∧ (hisL st Hd N p GG).length = GG + 1 := by
  unfold hisL
  rw [if_pos h, Int.toNat_natCast, List.getElem?_map, List.getElem?_range (by omega), List.length_map, List.length_range]
  exact ⟨rfl, rfl⟩
end
section
variable (st : Int) (A B P D : Option Addr) (n c m d ns cs k e a b GG : Nat) (Hd : List (Int × Int)) (N : List (Int × List Int)) (DX DY : Int) (S : List Int) (p : List (Int × Int × Int)) (w : World)
set_option maxHeartbeats 8000000 in
theorem prb_solves (hM : Mx w) (hH : Rd encP 2 w A n Hd) (hN : RdX ekN w B m N) (hR : Rd encI 1 w P ns S) (hns : ns ≤ 1000000) (hP : Rd encC 3 w D k p) (hke : k ≤ e) (ho : PrbOk a b GG DX DY S) (hf : FitsR st Hd N p) :
    Calls Tryd.prog 17 #[.agg #[.int .i64 st, .slice A n c, .slice B m d], .agg #[.int .i64 a, .int .i64 b, .int .i64 (GG : Int), .int .i64 DX, .int .i64 DY, .slice P ns cs], .slice D k e] w fun e w' => ∃ A2 n2 c2, e = .returned (.tuple #[.bool (solB st Hd N a b GG DX DY S p), .slice A2 n2 c2]) ∧ (solB st Hd N a b GG DX DY S p = true → RdX ekC w' A2 n2 (hisL st Hd N p GG)) ∧ n2 ≤ c2 ∧ Below w.heap.size w w' := by
  have hk5 : k ≤ 5000 := by rw [← hP.len]; exact (rightC_ok hf.pat).1
  have ha : 1 ≤ a ∧ a ≤ 16 := by have := ho.w; omega
  have hb : 1 ≤ b ∧ b ≤ 16 := by have := ho.h; omega
  have hg : GG ≤ 6 := by have := ho.g; omega
  have hm : b * a ≤ 16 := by
    have h1 := ho.a.2
    have h2 : ((b * a : Nat) : Int) = (a : Int) * (b : Int) := by rw [Nat.mul_comm]; exact Int.natCast_mul a b
    omega
  have hsy := ho.s
  have hdx := ho.dx
  have hdy := ho.dy
  cases hi : inPB a b p with
  | false =>
    rw [sol_out hi]
    have kS := fun w1 h1 => prb_states_no a b GG DX DY P D ns cs k e p w1 ha hb hm h1 hf.pat hi
    clear hi ho
    go_enter Tryd.func17, Tryd.ntmps17
    go_wp2_with fail; go_at_call 26; refine (kS _ (hP.of (by (repeat' (first | exact Below.refl _ _ | assumption | (refine Below.alloc ?_ ?_ _) | (refine Below.setCell ?_ ?_ _) | (refine Below.drew ?_) | (refine below_drewN ?_ _) | (refine below_after (Ext.below _) ?_ ?_) | (refine below_after (by assumption) ?_ ?_) | (simp; done) | omega | (simp; omega)))))).mono ?_; rintro e w1 ⟨rfl, hb1⟩; have hs1 := hb1.size; (try simp only [World.size_alloc, World.size_drew, World.size_setCell] at hs1)
    go_wp2_with fail
    go_ret2
    exact ⟨none, 0, 0, rfl, fun h => (by cases h), Nat.le_refl _, by (repeat' (first | exact Below.refl _ _ | assumption | (refine Below.alloc ?_ ?_ _) | (refine Below.setCell ?_ ?_ _) | (refine Below.drew ?_) | (refine below_drewN ?_ _) | (refine below_after (Ext.below _) ?_ ?_) | (refine below_after (by assumption) ?_ ?_) | (simp; done) | omega | (simp; omega)))⟩
  | true =>
    have kS := fun w1 h1 => prb_states_yes a b GG DX DY P D ns cs k e p w1 ha hb hm h1 hf.pat hi
    have kC := fun Q cq bp bl w1 h1 h2 h3 h4 h5 h6 => containsFunc_sym a b GG DX DY P Q ns cs (b * a) cq (gridL p 0 0 a b) S bp bl w1 h1 ha hb hm hsy h2 hns h3 rfl h4 h5 h6
    have hsh := box_shift (DX := DX) (DY := DY) hf.pat hi ha.2 hb.2 hdx hdy
    have kT := fun w1 h1 => pat_ShiftC D k e p DX DY w1 h1 (by omega)
    rw [hsh] at kT
    have kH := fun w1 h1 h2 h3 => direct_History st A B D n c m d k e Hd N p w1 GG h1 h2 h3 (by omega) hke
    have hsa := fun h2 h3 => sol_all (st := st) (Hd := Hd) (N := N) (G := GG) (DX := DX) (DY := DY) (S := S) hi h2 h3
    have hss := fun h => sol_sym (st := st) (Hd := Hd) (N := N) (a := a) (b := b) (G := GG) (DX := DX) (DY := DY) (S := S) (p := p) h
    have hse := fun h => sol_err (st := st) (Hd := Hd) (N := N) (a := a) (b := b) (G := GG) (DX := DX) (DY := DY) (S := S) (p := p) h
    generalize gridL p 0 0 a b = g at kS kC hsa hss
    generalize solB st Hd N a b GG DX DY S p = q at hsa hss hse ⊢
    obtain ⟨nq, hnq⟩ : ∃ nq, b * a = nq := ⟨_, rfl⟩
    rw [hnq] at kS kC
    clear hnq hm hi ho hsy
    go_enter Tryd.func17, Tryd.ntmps17
    go_wp2_with fail
    obtain ⟨we, hwe, hbt, hbp, hbe, hsw⟩ := two_boxes w (.int .i64 st) (.slice A n c) (.slice B m d) 25 28 a b GG DX DY (.slice P ns cs)
    rw [← hwe]
    clear hwe
    replace hM := hM.of hbe
    replace hH := hH.of hbe
    replace hN := hN.of hbe
    replace hR := hR.of hbe
    replace hP := hP.of hbe
    go_at_call 26
    refine (kS _ hP).mono ?_
    rintro e1 w1 ⟨Q, rfl, hQ, hb1⟩
    have hs1 := hb1.size
    obtain ⟨_, t0, t1, t2⟩ := (hbt.of hb1).open
    obtain ⟨_, p0, p1, p2, p3, p4, p5⟩ := (hbp.of hb1).open
    have kC1 := fun h4 h5 h6 => kC Q nq (w.heap.size + 1) w1.heap.size (w1.alloc (.cells #[.slice Q nq nq] 26)) (hM.of (by (repeat' (first | exact Below.refl _ _ | assumption | (refine Below.alloc ?_ ?_ _) | (refine Below.setCell ?_ ?_ _) | (refine Below.drew ?_) | (refine below_drewN ?_ _) | (refine below_after (Ext.below _) ?_ ?_) | (refine below_after (by assumption) ?_ ?_) | (simp; done) | omega | (simp; omega))))) (hR.of (by (repeat' (first | exact Below.refl _ _ | assumption | (refine Below.alloc ?_ ?_ _) | (refine Below.setCell ?_ ?_ _) | (refine Below.drew ?_) | (refine below_drewN ?_ _) | (refine below_after (Ext.below _) ?_ ?_) | (refine below_after (by assumption) ?_ ?_) | (simp; done) | omega | (simp; omega))))) (hQ.of (by (repeat' (first | exact Below.refl _ _ | assumption | (refine Below.alloc ?_ ?_ _) | (refine Below.setCell ?_ ?_ _) | (refine Below.drew ?_) | (refine below_drewN ?_ _) | (refine below_after (Ext.below _) ?_ ?_) | (refine below_after (by assumption) ?_ ?_) | (simp; done) | omega | (simp; omega))))) h4 h5 h6
    replace kC1 := kC1 ((hbp.of hb1).of (by (repeat' (first | exact Below.refl _ _ | assumption | (refine Below.alloc ?_ ?_ _) | (refine Below.setCell ?_ ?_ _) | (refine Below.drew ?_) | (refine below_drewN ?_ _) | (refine below_after (Ext.below _) ?_ ?_) | (refine below_after (by assumption) ?_ ?_) | (simp; done) | omega | (simp; omega))))) (by rw [cell_alloc_if, if_neg (by omega), if_pos rfl]; rfl) (by simp)
    cases hy : S.any (symX a b g) with
    | true =>
      have hE := Lib.hid (hss hy)
      rw [hy] at kC1
      clear hy hsa hss hse
      go_wp2_with fail
      go_at_call 27
      refine kC1.mono ?_
      rintro e2 w2 ⟨rfl, hb2⟩
      go_wp2_with fail
      go_ret2
      have hE := hE.out
      subst hE
      exact ⟨none, 0, 0, rfl, fun h => (by cases h), Nat.le_refl _, by (repeat' (first | exact Below.refl _ _ | assumption | (refine Below.alloc ?_ ?_ _) | (refine Below.setCell ?_ ?_ _) | (refine Below.drew ?_) | (refine below_drewN ?_ _) | (refine below_after (Ext.below _) ?_ ?_) | (refine below_after (by assumption) ?_ ?_) | (simp; done) | omega | (simp; omega)))⟩
    | false =>
      rw [hy] at kC1
      have hsb := hsa hy
      clear hy hsa hss
      go_wp2_with fail
      go_at_call 27
      refine kC1.mono ?_
      rintro e2 w2 ⟨rfl, hb2⟩
      have hs2 := hb2.size
      have hB2 : Below we.heap.size we w2 := by (repeat' (first | exact Below.refl _ _ | assumption | (refine Below.alloc ?_ ?_ _) | (refine Below.setCell ?_ ?_ _) | (refine Below.drew ?_) | (refine below_drewN ?_ _) | (refine below_after (Ext.below _) ?_ ?_) | (refine below_after (by assumption) ?_ ?_) | (simp; done) | omega | (simp; omega)))
      rw [World.size_alloc] at hs2
      obtain ⟨_, t0', t1', t2'⟩ := (hbt.of hB2).open
      obtain ⟨_, p0', p1', p2', p3', p4', p5'⟩ := (hbp.of hB2).open
      clear t0 t1 t2 p0 p1 p2 p3 p4 p5 kC1 kC kS
      go_wp2_with fail
      go_at_call 30
      refine (kH _ (hH.of hB2) (hN.of hB2) (hP.of hB2)).mono ?_
      rintro e3 w3 ⟨A3, n3, c3, rfl, hX, hnc, hb3⟩
      have hs3 := hb3.size
      have hB3 : Below we.heap.size we w3 := by (repeat' (first | exact Below.refl _ _ | assumption | (refine Below.alloc ?_ ?_ _) | (refine Below.setCell ?_ ?_ _) | (refine Below.drew ?_) | (refine below_drewN ?_ _) | (refine below_after (Ext.below _) ?_ ?_) | (refine below_after (by assumption) ?_ ?_) | (simp; done) | omega | (simp; omega)))
      clear t0' t1' t2' p0' p1' p2' p3' p4' p5'
      obtain ⟨_, p0, p1, p2, p3, p4, p5⟩ := (hbp.of hB3).open
      by_cases h0 : runE st Hd N p GG = 0
      · have hE := hsb h0
        obtain ⟨l1, l2⟩ := his_at (i := GG) h0 (Nat.le_refl _)
        have hrl : runL st Hd N p GG = (itS Hd N p GG).2 := by unfold runL; rw [if_pos h0, Int.toNat_natCast]
        rw [hrl] at hE
        have hn3 : n3 = GG + 1 := by rw [← hX.len]; exact l2
        subst hn3
        obtain ⟨E, mf, cf, lf, bo, o, hlf, rfl, hbo, g1, hRf, hmf⟩ := hX.pat (i := GG) (by omega)
        have hlf1 := hlf.out
        rw [l1] at hlf1
        injection hlf1 with hlf1
        have hmf5 : mf ≤ 5000 := by rw [← hRf.len, ← hlf1]; exact (rightC_ok (it_fits hf GG).pat).1
        rw [hlf1] at hE
        rw [h0]
        have hXk := Lib.hid hX
        clear l1 l2 hrl hlf hlf1 hX hsb hse h0
        go_wp2_with fail
        go_at_call 31
        refine (kT _ (hP.of hB3)).mono ?_
        rintro e4 w4 ⟨A4, n4, c4, rfl, hR4, hn4, hnc4, hb4⟩
        have hs4 := hb4.size
        have hB4 : Below we.heap.size we w4 := by (repeat' (first | exact Below.refl _ _ | assumption | (refine Below.alloc ?_ ?_ _) | (refine Below.setCell ?_ ?_ _) | (refine Below.drew ?_) | (refine below_drewN ?_ _) | (refine below_after (Ext.below _) ?_ ?_) | (refine below_after (by assumption) ?_ ?_) | (simp; done) | omega | (simp; omega)))
        obtain ⟨_, u0, u1, u2, u3, u4, u5⟩ := (hbp.of hB4).open
        have g1' : w4.cell? ⟨bo, o + GG, none⟩ = some (.slice E mf cf) := by rw [hb4.cell (p := ⟨_, _, none⟩) hbo]; exact g1
        have kE := fun w1 h1 h2 => pat_Same E A4 mf n4 cf c4 lf (shL p DX DY) w1 h1 h2 (by omega)
        have hRf4 := hRf.of hb4
        generalize sameL lf (shL p DX DY) = r at kE hE
        replace hE := Lib.hid hE
        have i1 : (GG : Int) < ((GG + 1 : Nat) : Int) := by omega
        have i0 : (0 : Int) ≤ (GG : Int) := by omega
        clear p0 p1 p2 p3 p4 p5 g1
        go_wp2_with fail
        go_at_call 21
        refine (kE _ hRf4 hR4).mono ?_
        rintro e5 w5 ⟨rfl, hb5⟩
        have hs5 := hb5.size
        go_wp2_with fail
        go_ret2
        exact ⟨_, _, _, by rw [hE.out]; rfl, fun _ => hXk.out.of (by (repeat' (first | exact Below.refl _ _ | assumption | (refine Below.alloc ?_ ?_ _) | (refine Below.setCell ?_ ?_ _) | (refine Below.drew ?_) | (refine below_drewN ?_ _) | (refine below_after (Ext.below _) ?_ ?_) | (refine below_after (by assumption) ?_ ?_) | (simp; done) | omega | (simp; omega)))), hnc, by (repeat' (first | exact Below.refl _ _ | assumption | (refine Below.alloc ?_ ?_ _) | (refine Below.setCell ?_ ?_ _) | (refine Below.drew ?_) | (refine below_drewN ?_ _) | (refine below_after (Ext.below _) ?_ ?_) | (refine below_after (by assumption) ?_ ?_) | (simp; done) | omega | (simp; omega)))⟩
      · have hE := Lib.hid (hse h0)
        have t3 : (runE st Hd N p GG != 0) = true := by simpa using h0
        generalize runE st Hd N p GG = q2 at t3 ⊢
        clear hse hsb
        go_wp2_with fail
        go_ret2
        have hE := hE.out
        subst hE
        exact ⟨none, 0, 0, rfl, fun h => (by cases h), Nat.le_refl _, by (repeat' (first | exact Below.refl _ _ | assumption | (refine Below.alloc ?_ ?_ _) | (refine Below.setCell ?_ ?_ _) | (refine Below.drew ?_) | (refine below_drewN ?_ _) | (refine below_after (Ext.below _) ?_ ?_) | (refine below_after (by assumption) ?_ ?_) | (simp; done) | omega | (simp; omega)))⟩
end
end Go.Proofs.YtnhapgbjaeaamaaDoor
end
section
namespace Go.Proofs.YtnhapgbjaeaamaaDoor
open Go Go.RowKit
set_option maxRecDepth 100000
set_option linter.unusedSimpArgs false
set_option linter.unusedVariables false
theorem FrW.cl {W w' : World} {b i : Nat} {u : Value} (h : FrW W w') (hb : b < W.heap.size) (s : W.cell? ⟨b, i, none⟩ = some u) : FrW W w' ∧ w'.cell? ⟨b, i, none⟩ = some u :=
  ⟨h, by rw [h.below.cell (p := ⟨_, _, none⟩) hb]; exact s⟩
/-- A run of patterns in a block. -/
def PatsAt (w : World) (b o q : Nat) (L : List (List (Int × Int × Int))) : Prop := L.length = q ∧ ∀ j, j < q → ∃ E m c l, L[j]? = some l ∧ b < w.heap.size ∧ w.cell? ⟨b, o + j, none⟩ = some (.slice E m c) ∧ Rd encC 3 w E m l ∧ m ≤ c
theorem PatsAt.of {w w' : World} {b o q : Nat} {L : List (List (Int × Int × Int))} (h : PatsAt w b o q L) (hb : Below w.heap.size w w') : PatsAt w' b o q L :=
  ⟨h.1, fun j hj => by
    obtain ⟨E, m, c, l, h1, h2, h3, h4, h5⟩ := h.2 j hj
    exact ⟨E, m, c, l, h1, Nat.lt_of_lt_of_le h2 hb.size, by rw [hb.cell (p := ⟨_, _, none⟩) h2]; exact h3, h4.of hb, h5⟩⟩
def hmS (h l : List (Int × Int × Int)) : Bool := sameL (hmL l) h
set_option maxHeartbeats 4000000 in
theorem prb_Exact1 (E C : Option Addr) (m c nh ch bh : Nat) (l h : List (Int × Int × Int)) (w : World) (hR : Rd encC 3 w E m l) (hm : m ≤ 1000000) (hmc : m ≤ c) (hC : Rd encC 3 w C nh h) (hcell : w.cell? ⟨bh, 0, none⟩ = some (.slice C nh ch)) (hbh : bh < w.heap.size) :
    Calls Tryd.prog 20 #[.slice E m c, .pointer (some ⟨bh, 0, none⟩)] w fun e w' => e = .returned (.bool (hmS h l)) ∧ Below w.heap.size w w' := by
  have kH := fun w1 h1 => alg_Home E m c l w1 h1 hm hmc
  have kS := fun A2 c2 w1 h1 h2 => pat_Same A2 C m nh c2 ch (hmL l) h w1 h1 h2 hm
  have hq : hmS h l = sameL (hmL l) h := rfl
  generalize hmS h l = q at hq ⊢
  generalize sameL (hmL l) h = r at kS hq
  subst hq
  generalize hmL l = l2 at kH kS
  go_enter Tryd.func20, Tryd.ntmps20
  go_wp2_with fail
  go_region_held3 (fun w' => FrW w w' ∧ w'.cell? ⟨bh, 0, none⟩ = some (.slice C nh ch))
    (((try go_split_ands); refine FrW.cl ?_ hbh hcell; first | exact FrW.drew (FrW.here _) | exact FrW.drew ‹_› | exact FrW.here _ | exact FrW.of ‹_› hb2 | exact FrW.of ‹_› hb3 | fail))
    ((first
    | (go_at_call 18; (try go_split_ands); refine (kH _ (hR.of (FrW.below ‹_›))).mono ?_; rintro e2 w2 ⟨A2, c2, rfl, hR2, hc2, hb2⟩; have hsz2 := hb2.size)
    | (go_at_call 21; (try go_split_ands); refine (kS A2 c2 _ (by first | exact hR2 | exact hR2.drew | exact hR2.drew.drew | fail) (hC.of (FrW.below ‹_›))).mono ?_; rintro e3 w3 ⟨rfl, hb3⟩; have hsz3 := hb3.size)
    | fail))
  (try go_split_ands)
  have hfw : Below w.heap.size w w3 := FrW.below ‹_›
  go_wp2_with fail
  go_ret
  exact ⟨rfl, hfw⟩
end Go.Proofs.YtnhapgbjaeaamaaDoor
end
section
namespace Go.Proofs.YtnhapgbjaeaamaaDoor
open Go Go.RowKit
set_option maxRecDepth 100000
set_option linter.unusedSimpArgs false
set_option linter.unusedVariables false
section
variable (b o q cq : Nat) (C : Option Addr) (nh ch bh : Nat) (L : List (List (Int × Int × Int))) (h : List (Int × Int × Int)) (w : World)
set_option maxHeartbeats 4000000 in
theorem indexFunc_hm (hL : PatsAt w b o q L) (hlen : ∀ l ∈ L, l.length ≤ 5000) (hq : q ≤ 1000000) (hC : Rd encC 3 w C nh h) (hcell : w.cell? ⟨bh, 0, none⟩ = some (.slice C nh ch)) (hbh : bh < w.heap.size) :
    Calls Tryd.prog 34 #[.slice (some ⟨b, o, none⟩) q cq, .func (.func 20) #[] #[.pointer (some ⟨bh, 0, none⟩)]] w fun e w' => ∃ r : Int, e = .returned (.int .i64 r) ∧ Hid (L.any (hmS h) = decide (0 ≤ r)) ∧ Below w.heap.size w w' := by
  replace hlen := Lib.hid hlen
  have hLl := Lib.hid hL.1
  go_enter Tryd.func34, Tryd.ntmps34
  go_wp2
  go_loopw [8] (fun i wr => ∃ j : Nat, j ≤ q ∧ i = .int .i64 j ∧ Below w.heap.size w wr ∧ Hid (∀ i x, i < j → L[i]? = some x → hmS h x = false)) (fun i _ => q - (intOf i).toNat)
  case atStart => exact ⟨0, by omega, rfl, Below.refl _ _, fun r x hr => absurd hr (by omega)⟩
  case round =>
    obtain ⟨j, hj, rfl, hb0, hno⟩ := hrel
    have hsz := hb0.size
    by_cases hlt : j < q
    · obtain ⟨E, m, c, l, hx, hbl, g1, hRl, hmc⟩ := (hL.of hb0).2 j hlt
      replace hx := Lib.hid hx
      have hm5 : m ≤ 5000 := by rw [← hRl.len]; exact hlen.out _ (List.mem_of_getElem? hx.out)
      have hsy := prb_Exact1 E C m c nh ch bh l h wr hRl (by omega) hmc (hC.of hb0) ((hb0.cell (p := ⟨bh, 0, none⟩) hbh).trans hcell) (by omega)
      cases hv : hmS h l with
      | true =>
        rw [hv] at hsy
        go_wp2_with fail; go_at_call 20; refine (hsy).mono ?_; rintro e w1 ⟨rfl, hb1⟩; have hs1 := hb1.size; (try simp only [World.size_alloc, World.size_drew, World.size_setCell] at hs1)
        go_wp2_with fail
        go_ret
        exact ⟨_, rfl, by show _ = _; rw [show L.any (hmS h) = true from any_yes' hx.out hv]; simp, by (repeat' (first | exact Below.refl _ _ | assumption | (refine Below.alloc ?_ ?_ _) | (refine Below.setCell ?_ ?_ _) | (refine Below.drew ?_) | (refine below_drewN ?_ _) | (refine below_after (Ext.below _) ?_ ?_) | (refine below_after (by assumption) ?_ ?_) | (simp; done) | omega | (simp; omega)))⟩
      | false =>
        rw [hv] at hsy
        go_wp2_with fail; go_at_call 20; refine (hsy).mono ?_; rintro e w1 ⟨rfl, hb1⟩; have hs1 := hb1.size; (try simp only [World.size_alloc, World.size_drew, World.size_setCell] at hs1)
        go_wp2_with fail
        go_roundw
        case rel => exact ⟨j + 1, by omega, by go_num, (by (repeat' (first | exact Below.refl _ _ | assumption | (refine Below.alloc ?_ ?_ _) | (refine Below.setCell ?_ ?_ _) | (refine Below.drew ?_) | (refine below_drewN ?_ _) | (refine below_after (Ext.below _) ?_ ?_) | (refine below_after (by assumption) ?_ ?_) | (simp; done) | omega | (simp; omega)))), none_step' hno.out hx.out hv⟩
        case measure => simp [intOf]; omega
    · obtain rfl : j = q := by omega
      go_wp2
      go_ret
      exact ⟨_, rfl, by show _ = _; rw [show L.any (hmS h) = false from any_none' hLl.out hno.out]; simp, hb0⟩
theorem containsFunc_hm (hL : PatsAt w b o q L) (hlen : ∀ l ∈ L, l.length ≤ 5000) (hq : q ≤ 1000000) (hC : Rd encC 3 w C nh h) (hcell : w.cell? ⟨bh, 0, none⟩ = some (.slice C nh ch)) (hbh : bh < w.heap.size) :
    Calls Tryd.prog 19 #[.slice (some ⟨b, o, none⟩) q cq, .func (.func 20) #[] #[.pointer (some ⟨bh, 0, none⟩)]] w fun e w' => e = .returned (.bool (L.any (hmS h))) ∧ Below w.heap.size w w' := by
  go_enter Tryd.func19, Tryd.ntmps19
  go_wp2_with (first | (go_at_call 34; refine (indexFunc_hm b o q cq C nh ch bh L h w hL hlen hq hC hcell hbh).mono ?_; rintro e w' ⟨r, rfl, hr, hbr⟩))
  go_ret
  exact ⟨ret_bool hr.out.symm, hbr⟩
end
/-- What Solves answers. -/
def slvB (st : Int) (Hd : List (Int × Int)) (N : List (Int × List Int)) (W H G DX DY : Int) (S : List Int) (p : List (Int × Int × Int)) : Bool :=
  decide (begE st Hd N W H G DX DY S p = 0) && solB st Hd N W.toNat H.toNat G DX DY S p
section
variable (st : Int) (A B P D : Option Addr) (n c m d ns cs k e : Nat) (Hd : List (Int × Int)) (N : List (Int × List Int)) (W H G DX DY : Int) (S : List Int) (p : List (Int × Int × Int)) (w : World)
set_option maxHeartbeats 8000000 in
theorem prb_Solves (hM : Mx w) (hH : Rd encP 2 w A n Hd) (hN : RdX ekN w B m N) (hR : Rd encI 1 w P ns S) (hns : ns ≤ 1000000) (hP : Rd encC 3 w D k p) (hk : k ≤ 1000000) (hke : k ≤ e) :
    Calls Tryd.prog 7 #[.agg #[.int .i64 st, .slice A n c, .slice B m d], .agg #[.int .i64 W, .int .i64 H, .int .i64 G, .int .i64 DX, .int .i64 DY, .slice P ns cs], .slice D k e] w fun e w' => e = .returned (.tuple #[.bool (slvB st Hd N W H G DX DY S p), .int .i64 (begE st Hd N W H G DX DY S p)]) ∧ Below w.heap.size w w' := by
  have kB := fun w1 h1 h2 h3 h4 => prb_begin st A B P n c m d ns cs Hd N W H G DX DY S w1 D k e p h1 h2 h3 hns h4 hk hke
  by_cases h0 : begE st Hd N W H G DX DY S p = 0
  · obtain ⟨ho, hf⟩ := beg_zero h0
    obtain ⟨a, rfl⟩ := Int.eq_ofNat_of_zero_le (show 0 ≤ W by have := ho.w; omega)
    obtain ⟨b, rfl⟩ := Int.eq_ofNat_of_zero_le (show 0 ≤ H by have := ho.h; omega)
    obtain ⟨GG, rfl⟩ := Int.eq_ofNat_of_zero_le (show 0 ≤ G by have := ho.g; omega)
    have hq : slvB st Hd N a b GG DX DY S p = solB st Hd N a b GG DX DY S p := by unfold slvB; rw [decide_eq_true h0]; rfl
    have kS := fun w1 g1 g2 g3 g4 g5 => prb_solves st A B P D n c m d ns cs k e a b GG Hd N DX DY S p w1 g1 g2 g3 g4 hns g5 hke ho hf
    rw [hq, h0]
    rw [h0] at kB
    generalize solB st Hd N a b GG DX DY S p = q at kS ⊢
    clear hq h0
    go_enter Tryd.func7, Tryd.ntmps7
    go_wp2_with fail; go_at_call 16; refine (kB _ (hH.of (by (repeat' (first | exact Below.refl _ _ | assumption | (refine Below.alloc ?_ ?_ _) | (refine Below.setCell ?_ ?_ _) | (refine Below.drew ?_) | (refine below_drewN ?_ _) | (refine below_after (Ext.below _) ?_ ?_) | (refine below_after (by assumption) ?_ ?_) | (simp; done) | omega | (simp; omega))))) (hN.of (by (repeat' (first | exact Below.refl _ _ | assumption | (refine Below.alloc ?_ ?_ _) | (refine Below.setCell ?_ ?_ _) | (refine Below.drew ?_) | (refine below_drewN ?_ _) | (refine below_after (Ext.below _) ?_ ?_) | (refine below_after (by assumption) ?_ ?_) | (simp; done) | omega | (simp; omega))))) (hR.of (by (repeat' (first | exact Below.refl _ _ | assumption | (refine Below.alloc ?_ ?_ _) | (refine Below.setCell ?_ ?_ _) | (refine Below.drew ?_) | (refine below_drewN ?_ _) | (refine below_after (Ext.below _) ?_ ?_) | (refine below_after (by assumption) ?_ ?_) | (simp; done) | omega | (simp; omega))))) (hP.of (by (repeat' (first | exact Below.refl _ _ | assumption | (refine Below.alloc ?_ ?_ _) | (refine Below.setCell ?_ ?_ _) | (refine Below.drew ?_) | (refine below_drewN ?_ _) | (refine below_after (Ext.below _) ?_ ?_) | (refine below_after (by assumption) ?_ ?_) | (simp; done) | omega | (simp; omega)))))).mono ?_; rintro e w1 ⟨rfl, hb1⟩; have hs1 := hb1.size; (try simp only [World.size_alloc, World.size_drew, World.size_setCell] at hs1); obtain ⟨hc1, hf1⟩ := bcell hb1; (try simp only [World.size_alloc, World.size_setCell, World.size_drew] at hc1 hf1)
    go_wp2_with fail; go_at_call 17; refine (kS _ (hM.of (by (repeat' (first | exact Below.refl _ _ | assumption | (refine Below.alloc ?_ ?_ _) | (refine Below.setCell ?_ ?_ _) | (refine Below.drew ?_) | (refine below_drewN ?_ _) | (refine below_after (Ext.below _) ?_ ?_) | (refine below_after (by assumption) ?_ ?_) | (simp; done) | omega | (simp; omega))))) (hH.of (by (repeat' (first | exact Below.refl _ _ | assumption | (refine Below.alloc ?_ ?_ _) | (refine Below.setCell ?_ ?_ _) | (refine Below.drew ?_) | (refine below_drewN ?_ _) | (refine below_after (Ext.below _) ?_ ?_) | (refine below_after (by assumption) ?_ ?_) | (simp; done) | omega | (simp; omega))))) (hN.of (by (repeat' (first | exact Below.refl _ _ | assumption | (refine Below.alloc ?_ ?_ _) | (refine Below.setCell ?_ ?_ _) | (refine Below.drew ?_) | (refine below_drewN ?_ _) | (refine below_after (Ext.below _) ?_ ?_) | (refine below_after (by assumption) ?_ ?_) | (simp; done) | omega | (simp; omega))))) (hR.of (by (repeat' (first | exact Below.refl _ _ | assumption | (refine Below.alloc ?_ ?_ _) | (refine Below.setCell ?_ ?_ _) | (refine Below.drew ?_) | (refine below_drewN ?_ _) | (refine below_after (Ext.below _) ?_ ?_) | (refine below_after (by assumption) ?_ ?_) | (simp; done) | omega | (simp; omega))))) (hP.of (by (repeat' (first | exact Below.refl _ _ | assumption | (refine Below.alloc ?_ ?_ _) | (refine Below.setCell ?_ ?_ _) | (refine Below.drew ?_) | (refine below_drewN ?_ _) | (refine below_after (Ext.below _) ?_ ?_) | (refine below_after (by assumption) ?_ ?_) | (simp; done) | omega | (simp; omega)))))).mono ?_; rintro e w2 ⟨A2, n2, c2, rfl, hX, hc2, hb2⟩; have hs2 := hb2.size; (try simp only [World.size_alloc, World.size_drew, World.size_setCell] at hs2); obtain ⟨hc2, hf2⟩ := bcell hb2; (try simp only [World.size_alloc, World.size_setCell, World.size_drew] at hc2 hf2)
    clear hX
    go_wp2_with fail
    go_ret2
    exact ⟨rfl, by (repeat' (first | exact Below.refl _ _ | assumption | (refine Below.alloc ?_ ?_ _) | (refine Below.setCell ?_ ?_ _) | (refine Below.drew ?_) | (refine below_drewN ?_ _) | (refine below_after (Ext.below _) ?_ ?_) | (refine below_after (by assumption) ?_ ?_) | (simp; done) | omega | (simp; omega)))⟩
  · have hq : slvB st Hd N W H G DX DY S p = false := by unfold slvB; rw [decide_eq_false h0]; rfl
    rw [hq]
    generalize begE st Hd N W H G DX DY S p = r at h0 kB ⊢
    have t0 : (r != 0) = true := by simpa using h0
    clear h0 hq
    go_enter Tryd.func7, Tryd.ntmps7
    go_wp2_with fail; go_at_call 16; refine (kB _ (hH.of (by (repeat' (first | exact Below.refl _ _ | assumption | (refine Below.alloc ?_ ?_ _) | (refine Below.setCell ?_ ?_ _) | (refine Below.drew ?_) | (refine below_drewN ?_ _) | (refine below_after (Ext.below _) ?_ ?_) | (refine below_after (by assumption) ?_ ?_) | (simp; done) | omega | (simp; omega))))) (hN.of (by (repeat' (first | exact Below.refl _ _ | assumption | (refine Below.alloc ?_ ?_ _) | (refine Below.setCell ?_ ?_ _) | (refine Below.drew ?_) | (refine below_drewN ?_ _) | (refine below_after (Ext.below _) ?_ ?_) | (refine below_after (by assumption) ?_ ?_) | (simp; done) | omega | (simp; omega))))) (hR.of (by (repeat' (first | exact Below.refl _ _ | assumption | (refine Below.alloc ?_ ?_ _) | (refine Below.setCell ?_ ?_ _) | (refine Below.drew ?_) | (refine below_drewN ?_ _) | (refine below_after (Ext.below _) ?_ ?_) | (refine below_after (by assumption) ?_ ?_) | (simp; done) | omega | (simp; omega))))) (hP.of (by (repeat' (first | exact Below.refl _ _ | assumption | (refine Below.alloc ?_ ?_ _) | (refine Below.setCell ?_ ?_ _) | (refine Below.drew ?_) | (refine below_drewN ?_ _) | (refine below_after (Ext.below _) ?_ ?_) | (refine below_after (by assumption) ?_ ?_) | (simp; done) | omega | (simp; omega)))))).mono ?_; rintro e w1 ⟨rfl, hb1⟩; have hs1 := hb1.size; (try simp only [World.size_alloc, World.size_drew, World.size_setCell] at hs1); obtain ⟨hc1, hf1⟩ := bcell hb1; (try simp only [World.size_alloc, World.size_setCell, World.size_drew] at hc1 hf1)
    go_wp2_with fail
    go_ret2
    exact ⟨rfl, by (repeat' (first | exact Below.refl _ _ | assumption | (refine Below.alloc ?_ ?_ _) | (refine Below.setCell ?_ ?_ _) | (refine Below.drew ?_) | (refine below_drewN ?_ _) | (refine below_after (Ext.below _) ?_ ?_) | (refine below_after (by assumption) ?_ ?_) | (simp; done) | omega | (simp; omega)))⟩
end
end Go.Proofs.YtnhapgbjaeaamaaDoor
end
section
namespace Go.Proofs.YtnhapgbjaeaamaaDoor
open Go Go.RowKit
set_option maxRecDepth 100000
set_option linter.unusedSimpArgs false
set_option linter.unusedVariables false
/-- The generations between the first and the last. -/
def midL (st : Int) (Hd : List (Int × Int)) (N : List (Int × List Int)) (p : List (Int × Int × Int)) (GG : Nat) : List (List (Int × Int × Int)) := (List.range (GG - 1)).map fun k => (itS Hd N p (k + 1)).2
/-- What Exact answers. -/
def excB (st : Int) (Hd : List (Int × Int)) (N : List (Int × List Int)) (W H G DX DY : Int) (S : List Int) (p : List (Int × Int × Int)) : Bool :=
  slvB st Hd N W H G DX DY S p && !p.isEmpty && !((midL st Hd N p G.toNat).any (hmS (hmL p)))
theorem mid_pats {st : Int} {Hd : List (Int × Int)} {N : List (Int × List Int)} {p : List (Int × Int × Int)} {GG b o : Nat} {w : World} (h : RdX ekC w (some ⟨b, o, none⟩) (GG + 1) (hisL st Hd N p GG)) (h0 : runE st Hd N p GG = 0) : PatsAt w b (o + 1) (GG - 1) (midL st Hd N p GG) := by
  refine ⟨by unfold midL; simp, fun j hj => ?_⟩
  obtain ⟨E, m, c, l, b', o', hl, he, hb, hc, hR, hmc⟩ := h.pat (i := j + 1) (by omega)
  injection he with he
  injection he with he1 he2
  subst he1 he2
  refine ⟨E, m, c, l, ?_, hb, by rw [show o + 1 + j = o + (j + 1) by omega]; exact hc, hR, hmc⟩
  have h1 := (his_at h0 (i := j + 1) (by omega)).1
  rw [hl.out] at h1
  unfold midL
  rw [List.getElem?_map, List.getElem?_range (by omega)]
  exact h1.symm
theorem mid_len {st : Int} {Hd : List (Int × Int)} {N : List (Int × List Int)} {p : List (Int × Int × Int)} {GG : Nat} (hf : FitsR st Hd N p) : ∀ l ∈ midL st Hd N p GG, l.length ≤ 5000 := by
  intro l hl
  unfold midL at hl
  obtain ⟨k, _, rfl⟩ := List.mem_map.1 hl
  exact (rightC_ok (it_fits hf (k + 1)).pat).1
theorem sol_zero {st : Int} {Hd : List (Int × Int)} {N : List (Int × List Int)} {a b : Nat} {G DX DY : Int} {S : List Int} {p : List (Int × Int × Int)} (h : solB st Hd N a b G DX DY S p = true) : inPB a b p = true ∧ S.any (symX a b (gridL p 0 0 a b)) = false ∧ runE st Hd N p G = 0 ∧ runL st Hd N p G = shL p DX DY := by
  unfold solB at h
  simp only [Bool.and_eq_true, Bool.not_eq_true', decide_eq_true_eq] at h
  obtain ⟨⟨⟨h1, h2⟩, h3⟩, h4⟩ := h
  exact ⟨h1, h2, h3, by unfold sameL at h4; exact of_decide_eq_true h4⟩
section
variable (st : Int) (A B P D : Option Addr) (n c m d ns cs k e : Nat) (Hd : List (Int × Int)) (N : List (Int × List Int)) (W H G DX DY : Int) (S : List Int) (p : List (Int × Int × Int)) (w : World)
set_option maxHeartbeats 8000000 in
theorem prb_Exact (hM : Mx w) (hH : Rd encP 2 w A n Hd) (hN : RdX ekN w B m N) (hR : Rd encI 1 w P ns S) (hns : ns ≤ 1000000) (hP : Rd encC 3 w D k p) (hk : k ≤ 1000000) (hke : k ≤ e) :
    Calls Tryd.prog 10 #[.agg #[.int .i64 st, .slice A n c, .slice B m d], .agg #[.int .i64 W, .int .i64 H, .int .i64 G, .int .i64 DX, .int .i64 DY, .slice P ns cs], .slice D k e] w fun e w' => e = .returned (.tuple #[.bool (excB st Hd N W H G DX DY S p), .int .i64 (begE st Hd N W H G DX DY S p)]) ∧ Below w.heap.size w w' := by
  have kB := fun w1 h1 h2 h3 h4 => prb_begin st A B P n c m d ns cs Hd N W H G DX DY S w1 D k e p h1 h2 h3 hns h4 hk hke
  by_cases h0 : begE st Hd N W H G DX DY S p = 0
  · obtain ⟨ho, hf⟩ := beg_zero h0
    obtain ⟨a, rfl⟩ := Int.eq_ofNat_of_zero_le (show 0 ≤ W by have := ho.w; omega)
    obtain ⟨b, rfl⟩ := Int.eq_ofNat_of_zero_le (show 0 ≤ H by have := ho.h; omega)
    obtain ⟨GG, rfl⟩ := Int.eq_ofNat_of_zero_le (show 0 ≤ G by have := ho.g; omega)
    have hg : 1 ≤ GG ∧ GG ≤ 6 := by have := ho.g; omega
    have hq : slvB st Hd N a b GG DX DY S p = solB st Hd N a b GG DX DY S p := by unfold slvB; rw [decide_eq_true h0]; rfl
    have kS := fun w1 g1 g2 g3 g4 g5 => prb_solves st A B P D n c m d ns cs k e a b GG Hd N DX DY S p w1 g1 g2 g3 g4 hns g5 hke ho hf
    have hx : excB st Hd N a b GG DX DY S p = (solB st Hd N a b GG DX DY S p && !p.isEmpty && !((midL st Hd N p GG).any (hmS (hmL p)))) := by unfold excB; rw [hq, Int.toNat_natCast]
    have hpl := hP.len
    have h3 := fun h => (sol_zero (st := st) (Hd := Hd) (N := N) (a := a) (b := b) (G := GG) (DX := DX) (DY := DY) (S := S) (p := p) h).2.2.1
    rw [hx, h0]
    rw [h0] at kB
    clear hx hq h0
    cases hv : solB st Hd N a b GG DX DY S p with
    | false =>
      rw [hv] at kS
      clear hv h3 hpl
      go_enter Tryd.func10, Tryd.ntmps10
      go_wp2_with fail; go_at_call 16; refine (kB _ (hH.of (by (repeat' (first | exact Below.refl _ _ | assumption | (refine Below.alloc ?_ ?_ _) | (refine Below.setCell ?_ ?_ _) | (refine Below.drew ?_) | (refine below_drewN ?_ _) | (refine below_after (Ext.below _) ?_ ?_) | (refine below_after (by assumption) ?_ ?_) | (simp; done) | omega | (simp; omega))))) (hN.of (by (repeat' (first | exact Below.refl _ _ | assumption | (refine Below.alloc ?_ ?_ _) | (refine Below.setCell ?_ ?_ _) | (refine Below.drew ?_) | (refine below_drewN ?_ _) | (refine below_after (Ext.below _) ?_ ?_) | (refine below_after (by assumption) ?_ ?_) | (simp; done) | omega | (simp; omega))))) (hR.of (by (repeat' (first | exact Below.refl _ _ | assumption | (refine Below.alloc ?_ ?_ _) | (refine Below.setCell ?_ ?_ _) | (refine Below.drew ?_) | (refine below_drewN ?_ _) | (refine below_after (Ext.below _) ?_ ?_) | (refine below_after (by assumption) ?_ ?_) | (simp; done) | omega | (simp; omega))))) (hP.of (by (repeat' (first | exact Below.refl _ _ | assumption | (refine Below.alloc ?_ ?_ _) | (refine Below.setCell ?_ ?_ _) | (refine Below.drew ?_) | (refine below_drewN ?_ _) | (refine below_after (Ext.below _) ?_ ?_) | (refine below_after (by assumption) ?_ ?_) | (simp; done) | omega | (simp; omega)))))).mono ?_; rintro e w1 ⟨rfl, hb1⟩; have hs1 := hb1.size; (try simp only [World.size_alloc, World.size_drew, World.size_setCell] at hs1); obtain ⟨hc1, hf1⟩ := bcell hb1; (try simp only [World.size_alloc, World.size_setCell, World.size_drew] at hc1 hf1)
      go_wp2_with fail; go_at_call 17; refine (kS _ (hM.of (by (repeat' (first | exact Below.refl _ _ | assumption | (refine Below.alloc ?_ ?_ _) | (refine Below.setCell ?_ ?_ _) | (refine Below.drew ?_) | (refine below_drewN ?_ _) | (refine below_after (Ext.below _) ?_ ?_) | (refine below_after (by assumption) ?_ ?_) | (simp; done) | omega | (simp; omega))))) (hH.of (by (repeat' (first | exact Below.refl _ _ | assumption | (refine Below.alloc ?_ ?_ _) | (refine Below.setCell ?_ ?_ _) | (refine Below.drew ?_) | (refine below_drewN ?_ _) | (refine below_after (Ext.below _) ?_ ?_) | (refine below_after (by assumption) ?_ ?_) | (simp; done) | omega | (simp; omega))))) (hN.of (by (repeat' (first | exact Below.refl _ _ | assumption | (refine Below.alloc ?_ ?_ _) | (refine Below.setCell ?_ ?_ _) | (refine Below.drew ?_) | (refine below_drewN ?_ _) | (refine below_after (Ext.below _) ?_ ?_) | (refine below_after (by assumption) ?_ ?_) | (simp; done) | omega | (simp; omega))))) (hR.of (by (repeat' (first | exact Below.refl _ _ | assumption | (refine Below.alloc ?_ ?_ _) | (refine Below.setCell ?_ ?_ _) | (refine Below.drew ?_) | (refine below_drewN ?_ _) | (refine below_after (Ext.below _) ?_ ?_) | (refine below_after (by assumption) ?_ ?_) | (simp; done) | omega | (simp; omega))))) (hP.of (by (repeat' (first | exact Below.refl _ _ | assumption | (refine Below.alloc ?_ ?_ _) | (refine Below.setCell ?_ ?_ _) | (refine Below.drew ?_) | (refine below_drewN ?_ _) | (refine below_after (Ext.below _) ?_ ?_) | (refine below_after (by assumption) ?_ ?_) | (simp; done) | omega | (simp; omega)))))).mono ?_; rintro e w2 ⟨A2, n2, c2, rfl, hX, hc2, hb2⟩; have hs2 := hb2.size; (try simp only [World.size_alloc, World.size_drew, World.size_setCell] at hs2); obtain ⟨hc2, hf2⟩ := bcell hb2; (try simp only [World.size_alloc, World.size_setCell, World.size_drew] at hc2 hf2)
      clear hX
      go_wp2_with fail
      go_ret2
      exact ⟨rfl, by (repeat' (first | exact Below.refl _ _ | assumption | (refine Below.alloc ?_ ?_ _) | (refine Below.setCell ?_ ?_ _) | (refine Below.drew ?_) | (refine below_drewN ?_ _) | (refine below_after (Ext.below _) ?_ ?_) | (refine below_after (by assumption) ?_ ?_) | (simp; done) | omega | (simp; omega)))⟩
    | true =>
      rw [hv] at kS
      have h3 := h3 hv
      clear hv
      by_cases hk0 : k = 0
      · subst hk0
        have hp0 : p = [] := List.length_eq_zero_iff.1 hpl
        have hpe : p.isEmpty = true := by rw [hp0]; rfl
        rw [hpe]
        clear hp0 hpe hpl
        go_enter Tryd.func10, Tryd.ntmps10
        go_wp2_with fail; go_at_call 16; refine (kB _ (hH.of (by (repeat' (first | exact Below.refl _ _ | assumption | (refine Below.alloc ?_ ?_ _) | (refine Below.setCell ?_ ?_ _) | (refine Below.drew ?_) | (refine below_drewN ?_ _) | (refine below_after (Ext.below _) ?_ ?_) | (refine below_after (by assumption) ?_ ?_) | (simp; done) | omega | (simp; omega))))) (hN.of (by (repeat' (first | exact Below.refl _ _ | assumption | (refine Below.alloc ?_ ?_ _) | (refine Below.setCell ?_ ?_ _) | (refine Below.drew ?_) | (refine below_drewN ?_ _) | (refine below_after (Ext.below _) ?_ ?_) | (refine below_after (by assumption) ?_ ?_) | (simp; done) | omega | (simp; omega))))) (hR.of (by (repeat' (first | exact Below.refl _ _ | assumption | (refine Below.alloc ?_ ?_ _) | (refine Below.setCell ?_ ?_ _) | (refine Below.drew ?_) | (refine below_drewN ?_ _) | (refine below_after (Ext.below _) ?_ ?_) | (refine below_after (by assumption) ?_ ?_) | (simp; done) | omega | (simp; omega))))) (hP.of (by (repeat' (first | exact Below.refl _ _ | assumption | (refine Below.alloc ?_ ?_ _) | (refine Below.setCell ?_ ?_ _) | (refine Below.drew ?_) | (refine below_drewN ?_ _) | (refine below_after (Ext.below _) ?_ ?_) | (refine below_after (by assumption) ?_ ?_) | (simp; done) | omega | (simp; omega)))))).mono ?_; rintro e w1 ⟨rfl, hb1⟩; have hs1 := hb1.size; (try simp only [World.size_alloc, World.size_drew, World.size_setCell] at hs1); obtain ⟨hc1, hf1⟩ := bcell hb1; (try simp only [World.size_alloc, World.size_setCell, World.size_drew] at hc1 hf1)
        go_wp2_with fail; go_at_call 17; refine (kS _ (hM.of (by (repeat' (first | exact Below.refl _ _ | assumption | (refine Below.alloc ?_ ?_ _) | (refine Below.setCell ?_ ?_ _) | (refine Below.drew ?_) | (refine below_drewN ?_ _) | (refine below_after (Ext.below _) ?_ ?_) | (refine below_after (by assumption) ?_ ?_) | (simp; done) | omega | (simp; omega))))) (hH.of (by (repeat' (first | exact Below.refl _ _ | assumption | (refine Below.alloc ?_ ?_ _) | (refine Below.setCell ?_ ?_ _) | (refine Below.drew ?_) | (refine below_drewN ?_ _) | (refine below_after (Ext.below _) ?_ ?_) | (refine below_after (by assumption) ?_ ?_) | (simp; done) | omega | (simp; omega))))) (hN.of (by (repeat' (first | exact Below.refl _ _ | assumption | (refine Below.alloc ?_ ?_ _) | (refine Below.setCell ?_ ?_ _) | (refine Below.drew ?_) | (refine below_drewN ?_ _) | (refine below_after (Ext.below _) ?_ ?_) | (refine below_after (by assumption) ?_ ?_) | (simp; done) | omega | (simp; omega))))) (hR.of (by (repeat' (first | exact Below.refl _ _ | assumption | (refine Below.alloc ?_ ?_ _) | (refine Below.setCell ?_ ?_ _) | (refine Below.drew ?_) | (refine below_drewN ?_ _) | (refine below_after (Ext.below _) ?_ ?_) | (refine below_after (by assumption) ?_ ?_) | (simp; done) | omega | (simp; omega))))) (hP.of (by (repeat' (first | exact Below.refl _ _ | assumption | (refine Below.alloc ?_ ?_ _) | (refine Below.setCell ?_ ?_ _) | (refine Below.drew ?_) | (refine below_drewN ?_ _) | (refine below_after (Ext.below _) ?_ ?_) | (refine below_after (by assumption) ?_ ?_) | (simp; done) | omega | (simp; omega)))))).mono ?_; rintro e w2 ⟨A2, n2, c2, rfl, hX, hc2, hb2⟩; have hs2 := hb2.size; (try simp only [World.size_alloc, World.size_drew, World.size_setCell] at hs2); obtain ⟨hc2, hf2⟩ := bcell hb2; (try simp only [World.size_alloc, World.size_setCell, World.size_drew] at hc2 hf2)
        clear hX
        go_wp2_with fail
        go_ret2
        exact ⟨rfl, by (repeat' (first | exact Below.refl _ _ | assumption | (refine Below.alloc ?_ ?_ _) | (refine Below.setCell ?_ ?_ _) | (refine Below.drew ?_) | (refine below_drewN ?_ _) | (refine below_after (Ext.below _) ?_ ?_) | (refine below_after (by assumption) ?_ ?_) | (simp; done) | omega | (simp; omega)))⟩
      · have hpe : p.isEmpty = false := by
          cases p with
          | nil => simp at hpl; omega
          | cons x l => rfl
        rw [hpe]
        have t0 : ((k : Int) == 0) = false := by simpa using hk0
        have t0' : (k == 0) = false := by simpa using hk0
        have kHm := fun w1 h1 => alg_Home D k e p w1 h1 hk hke
        have hmid := fun (w1 : World) (b1 o1 : Nat) (h1 : RdX ekC w1 (some ⟨b1, o1, none⟩) (GG + 1) (hisL st Hd N p GG)) => mid_pats h1 h3
        have hlen := mid_len (GG := GG) hf
        have hl2 := (his_at h3 (i := 0) (by omega)).2
        have kC := fun b1 o1 cq C nh ch bh w1 g1 g2 g3 g4 => containsFunc_hm b1 o1 (GG - 1) cq C nh ch bh (midL st Hd N p GG) (hmL p) w1 g1 hlen (by omega) g2 g3 g4
        generalize (midL st Hd N p GG).any (hmS (hmL p)) = r at kC ⊢
        generalize midL st Hd N p GG = L at kC hmid hlen
        generalize hmL p = hp at kC kHm
        clear hpl hpe hlen hk0
        replace hl2 := Lib.hid hl2
        go_enter Tryd.func10, Tryd.ntmps10
        go_wp2_with fail; go_at_call 16; refine (kB _ (hH.of (by (repeat' (first | exact Below.refl _ _ | assumption | (refine Below.alloc ?_ ?_ _) | (refine Below.setCell ?_ ?_ _) | (refine Below.drew ?_) | (refine below_drewN ?_ _) | (refine below_after (Ext.below _) ?_ ?_) | (refine below_after (by assumption) ?_ ?_) | (simp; done) | omega | (simp; omega))))) (hN.of (by (repeat' (first | exact Below.refl _ _ | assumption | (refine Below.alloc ?_ ?_ _) | (refine Below.setCell ?_ ?_ _) | (refine Below.drew ?_) | (refine below_drewN ?_ _) | (refine below_after (Ext.below _) ?_ ?_) | (refine below_after (by assumption) ?_ ?_) | (simp; done) | omega | (simp; omega))))) (hR.of (by (repeat' (first | exact Below.refl _ _ | assumption | (refine Below.alloc ?_ ?_ _) | (refine Below.setCell ?_ ?_ _) | (refine Below.drew ?_) | (refine below_drewN ?_ _) | (refine below_after (Ext.below _) ?_ ?_) | (refine below_after (by assumption) ?_ ?_) | (simp; done) | omega | (simp; omega))))) (hP.of (by (repeat' (first | exact Below.refl _ _ | assumption | (refine Below.alloc ?_ ?_ _) | (refine Below.setCell ?_ ?_ _) | (refine Below.drew ?_) | (refine below_drewN ?_ _) | (refine below_after (Ext.below _) ?_ ?_) | (refine below_after (by assumption) ?_ ?_) | (simp; done) | omega | (simp; omega)))))).mono ?_; rintro e w1 ⟨rfl, hb1⟩; have hs1 := hb1.size; (try simp only [World.size_alloc, World.size_drew, World.size_setCell] at hs1); obtain ⟨hc1, hf1⟩ := bcell hb1; (try simp only [World.size_alloc, World.size_setCell, World.size_drew] at hc1 hf1)
        go_wp2_with fail; go_at_call 17; refine (kS _ (hM.of (by (repeat' (first | exact Below.refl _ _ | assumption | (refine Below.alloc ?_ ?_ _) | (refine Below.setCell ?_ ?_ _) | (refine Below.drew ?_) | (refine below_drewN ?_ _) | (refine below_after (Ext.below _) ?_ ?_) | (refine below_after (by assumption) ?_ ?_) | (simp; done) | omega | (simp; omega))))) (hH.of (by (repeat' (first | exact Below.refl _ _ | assumption | (refine Below.alloc ?_ ?_ _) | (refine Below.setCell ?_ ?_ _) | (refine Below.drew ?_) | (refine below_drewN ?_ _) | (refine below_after (Ext.below _) ?_ ?_) | (refine below_after (by assumption) ?_ ?_) | (simp; done) | omega | (simp; omega))))) (hN.of (by (repeat' (first | exact Below.refl _ _ | assumption | (refine Below.alloc ?_ ?_ _) | (refine Below.setCell ?_ ?_ _) | (refine Below.drew ?_) | (refine below_drewN ?_ _) | (refine below_after (Ext.below _) ?_ ?_) | (refine below_after (by assumption) ?_ ?_) | (simp; done) | omega | (simp; omega))))) (hR.of (by (repeat' (first | exact Below.refl _ _ | assumption | (refine Below.alloc ?_ ?_ _) | (refine Below.setCell ?_ ?_ _) | (refine Below.drew ?_) | (refine below_drewN ?_ _) | (refine below_after (Ext.below _) ?_ ?_) | (refine below_after (by assumption) ?_ ?_) | (simp; done) | omega | (simp; omega))))) (hP.of (by (repeat' (first | exact Below.refl _ _ | assumption | (refine Below.alloc ?_ ?_ _) | (refine Below.setCell ?_ ?_ _) | (refine Below.drew ?_) | (refine below_drewN ?_ _) | (refine below_after (Ext.below _) ?_ ?_) | (refine below_after (by assumption) ?_ ?_) | (simp; done) | omega | (simp; omega)))))).mono ?_; rintro e w2 ⟨A2, n2, c2, rfl, hX, hc2, hb2⟩; have hs2 := hb2.size; (try simp only [World.size_alloc, World.size_drew, World.size_setCell] at hs2); obtain ⟨hc2, hf2⟩ := bcell hb2; (try simp only [World.size_alloc, World.size_setCell, World.size_drew] at hc2 hf2)
        have hX2 := hX (by trivial)
        have hn2 : n2 = GG + 1 := by rw [← hX2.len]; exact hl2.out
        subst hn2
        obtain ⟨_, _, _, _, bo, o, _, rfl, hbo, _, _, _⟩ := hX2.pat (i := 0) (by omega)
        have hPA := hmid _ _ _ hX2
        have hX := Lib.hid hX2
        clear hX2
        go_wp2_with fail; go_at_call 18; refine (kHm _ (hP.of (by (repeat' (first | exact Below.refl _ _ | assumption | (refine Below.alloc ?_ ?_ _) | (refine Below.setCell ?_ ?_ _) | (refine Below.drew ?_) | (refine below_drewN ?_ _) | (refine below_after (Ext.below _) ?_ ?_) | (refine below_after (by assumption) ?_ ?_) | (simp; done) | omega | (simp; omega)))))).mono ?_; rintro e w3 ⟨A3, c3, rfl, hR3, hc3, hb3⟩; have hs3 := hb3.size; (try simp only [World.size_alloc, World.size_drew, World.size_setCell] at hs3); obtain ⟨hc3, hf3⟩ := bcell hb3; (try simp only [World.size_alloc, World.size_setCell, World.size_drew] at hc3 hf3)
        have hPA3 := hPA.of hb3
        go_wp2_with fail
        go_at_call 19
        refine (kC bo (o + 1) _ A3 k c3 w3.heap.size _ (hPA3.of (by (repeat' (first | exact Below.refl _ _ | assumption | (refine Below.alloc ?_ ?_ _) | (refine Below.setCell ?_ ?_ _) | (refine Below.drew ?_) | (refine below_drewN ?_ _) | (refine below_after (Ext.below _) ?_ ?_) | (refine below_after (by assumption) ?_ ?_) | (simp; done) | omega | (simp; omega))))) (hR3.of (by (repeat' (first | exact Below.refl _ _ | assumption | (refine Below.alloc ?_ ?_ _) | (refine Below.setCell ?_ ?_ _) | (refine Below.drew ?_) | (refine below_drewN ?_ _) | (refine below_after (Ext.below _) ?_ ?_) | (refine below_after (by assumption) ?_ ?_) | (simp; done) | omega | (simp; omega))))) (by rw [cell_alloc_if, if_neg (by omega), if_pos rfl]; rfl) (by simp)).mono ?_
        rintro e4 w4 ⟨rfl, hb4⟩
        have hs4 := hb4.size
        go_wp2_with fail
        go_ret2
        exact ⟨rfl, by (repeat' (first | exact Below.refl _ _ | assumption | (refine Below.alloc ?_ ?_ _) | (refine Below.setCell ?_ ?_ _) | (refine Below.drew ?_) | (refine below_drewN ?_ _) | (refine below_after (Ext.below _) ?_ ?_) | (refine below_after (by assumption) ?_ ?_) | (simp; done) | omega | (simp; omega)))⟩
  · have hq : slvB st Hd N W H G DX DY S p = false := by unfold slvB; rw [decide_eq_false h0]; rfl
    have hx : excB st Hd N W H G DX DY S p = false := by unfold excB; rw [hq]; rfl
    rw [hx]
    generalize begE st Hd N W H G DX DY S p = r at h0 kB ⊢
    have t0 : (r != 0) = true := by simpa using h0
    clear h0 hq hx
    go_enter Tryd.func10, Tryd.ntmps10
    go_wp2_with fail; go_at_call 16; refine (kB _ (hH.of (by (repeat' (first | exact Below.refl _ _ | assumption | (refine Below.alloc ?_ ?_ _) | (refine Below.setCell ?_ ?_ _) | (refine Below.drew ?_) | (refine below_drewN ?_ _) | (refine below_after (Ext.below _) ?_ ?_) | (refine below_after (by assumption) ?_ ?_) | (simp; done) | omega | (simp; omega))))) (hN.of (by (repeat' (first | exact Below.refl _ _ | assumption | (refine Below.alloc ?_ ?_ _) | (refine Below.setCell ?_ ?_ _) | (refine Below.drew ?_) | (refine below_drewN ?_ _) | (refine below_after (Ext.below _) ?_ ?_) | (refine below_after (by assumption) ?_ ?_) | (simp; done) | omega | (simp; omega))))) (hR.of (by (repeat' (first | exact Below.refl _ _ | assumption | (refine Below.alloc ?_ ?_ _) | (refine Below.setCell ?_ ?_ _) | (refine Below.drew ?_) | (refine below_drewN ?_ _) | (refine below_after (Ext.below _) ?_ ?_) | (refine below_after (by assumption) ?_ ?_) | (simp; done) | omega | (simp; omega))))) (hP.of (by (repeat' (first | exact Below.refl _ _ | assumption | (refine Below.alloc ?_ ?_ _) | (refine Below.setCell ?_ ?_ _) | (refine Below.drew ?_) | (refine below_drewN ?_ _) | (refine below_after (Ext.below _) ?_ ?_) | (refine below_after (by assumption) ?_ ?_) | (simp; done) | omega | (simp; omega)))))).mono ?_; rintro e w1 ⟨rfl, hb1⟩; have hs1 := hb1.size; (try simp only [World.size_alloc, World.size_drew, World.size_setCell] at hs1); obtain ⟨hc1, hf1⟩ := bcell hb1; (try simp only [World.size_alloc, World.size_setCell, World.size_drew] at hc1 hf1)
    go_wp2_with fail
    go_ret2
    exact ⟨rfl, by (repeat' (first | exact Below.refl _ _ | assumption | (refine Below.alloc ?_ ?_ _) | (refine Below.setCell ?_ ?_ _) | (refine Below.drew ?_) | (refine below_drewN ?_ _) | (refine below_after (Ext.below _) ?_ ?_) | (refine below_after (by assumption) ?_ ?_) | (simp; done) | omega | (simp; omega)))⟩
end
end Go.Proofs.YtnhapgbjaeaamaaDoor
end
section
namespace Go.Proofs.YtnhapgbjaeaamaaDoor
open Go Go.RowKit
set_option maxRecDepth 100000
set_option linter.unusedSimpArgs false
set_option linter.unusedVariables false
/-- The cells of the first states. -/
def celP (a : Nat) (l : List Int) : Nat → List (Int × Int × Int)
  | 0 => []
  | j + 1 => celP a l j ++ (if 0 < l.getD j 0 then [(((j % a : Nat) : Int), ((j / a : Nat) : Int), l.getD j 0)] else [])
theorem celP_skip {a j : Nat} {l : List Int} {s : Int} (h : l[j]? = some s) (hs : ¬ 0 < s) : celP a l (j + 1) = celP a l j := by
  show celP a l j ++ _ = _
  rw [getD_some h, if_neg hs, List.append_nil]
theorem celP_more {a j : Nat} {l : List Int} {s : Int} (h : l[j]? = some s) (hs : 0 < s) : celP a l (j + 1) = celP a l j ++ [(((j % a : Nat) : Int), ((j / a : Nat) : Int), s)] := by
  show celP a l j ++ _ = _
  rw [getD_some h, if_pos hs]
def okSt (s : Int) : Bool := decide (0 ≤ s ∧ s ≤ 7)
/-- What Cells answers. -/
def celE (W H G DX DY : Int) (S l : List Int) : Int := if boxE W H G DX DY S = 0 then (if (l.length : Int) = W * H then (if l.all okSt = true then 0 else 10) else 2) else boxE W H G DX DY S
def celL (W H G DX DY : Int) (S l : List Int) : List (Int × Int × Int) := if celE W H G DX DY S l = 0 then celP W.toNat l l.length else []
section
variable {W H G DX DY : Int} {S l : List Int}
theorem cel_bad (h : boxE W H G DX DY S ≠ 0) : celE W H G DX DY S l = boxE W H G DX DY S ∧ celL W H G DX DY S l = [] := by
  have h1 : celE W H G DX DY S l = boxE W H G DX DY S := by unfold celE; rw [if_neg h]
  exact ⟨h1, by unfold celL; rw [if_neg (by rw [h1]; exact h)]⟩
theorem cel_len (h : boxE W H G DX DY S = 0) (h2 : (l.length : Int) ≠ W * H) : celE W H G DX DY S l = 2 ∧ celL W H G DX DY S l = [] := by
  have h1 : celE W H G DX DY S l = 2 := by unfold celE; rw [if_pos h, if_neg h2]
  exact ⟨h1, by unfold celL; rw [if_neg (by rw [h1]; omega)]⟩
theorem cel_state (h : boxE W H G DX DY S = 0) (h2 : (l.length : Int) = W * H) {i : Nat} {s : Int} (hs : l[i]? = some s) (h3 : ¬(0 ≤ s ∧ s ≤ 7)) : celE W H G DX DY S l = 10 ∧ celL W H G DX DY S l = [] := by
  have h4 : l.all okSt = false := by rw [List.all_eq_false]; exact ⟨s, List.mem_of_getElem? hs, by unfold okSt; simpa using h3⟩
  have h1 : celE W H G DX DY S l = 10 := by unfold celE; rw [if_pos h, if_pos h2, if_neg (by rw [h4]; simp)]
  exact ⟨h1, by unfold celL; rw [if_neg (by rw [h1]; omega)]⟩
theorem cel_ok (h : boxE W H G DX DY S = 0) (h2 : (l.length : Int) = W * H) (h3 : ∀ (i : Nat) s, l[i]? = some s → 0 ≤ s ∧ s ≤ 7) : celE W H G DX DY S l = 0 ∧ celL W H G DX DY S l = celP W.toNat l l.length := by
  have h4 : l.all okSt = true := by
    rw [List.all_eq_true]; intro s hs
    obtain ⟨i, hi⟩ := List.getElem?_of_mem hs
    exact decide_eq_true (h3 i s hi)
  have h1 : celE W H G DX DY S l = 0 := by unfold celE; rw [if_pos h, if_pos h2, if_pos h4]
  exact ⟨h1, by unfold celL; rw [if_pos h1]⟩
end
theorem st_step {l : List Int} {j : Nat} {s : Int} (h : ∀ (i : Nat) x, i < j → l[i]? = some x → 0 ≤ x ∧ x ≤ 7) (hs : l[j]? = some s) (h7 : 0 ≤ s ∧ s ≤ 7) : ∀ (i : Nat) x, i < j + 1 → l[i]? = some x → 0 ≤ x ∧ x ≤ 7 := by
  intro i x hi hx
  by_cases e : i = j
  · subst e; rw [hs] at hx; cases hx; exact h7
  · exact h i x (by omega) hx
set_option maxHeartbeats 8000000 in
theorem prb_Cells (W H G DX DY : Int) (S : List Int) (P Q : Option Addr) (ns cs nl cl : Nat) (l : List Int) (w : World) (hR : Rd encI 1 w P ns S) (hns : ns ≤ 1000000) (hQ : Rd encI 1 w Q nl l) (hnl : nl ≤ 1000000) :
    Calls Tryd.prog 12 #[.agg #[.int .i64 W, .int .i64 H, .int .i64 G, .int .i64 DX, .int .i64 DY, .slice P ns cs], .slice Q nl cl] w fun e w' => ∃ A2 n2 c2, e = .returned (.tuple #[.slice A2 n2 c2, .int .i64 (celE W H G DX DY S l)]) ∧ NewP w.heap.size w' A2 n2 c2 (celL W H G DX DY S l) ∧ Below w.heap.size w w' := by
  have kF := fun w1 h1 => prb_first W H G DX DY S P ns cs w1 h1 hns
  have hQl := hQ.len
  by_cases h0 : boxE W H G DX DY S = 0
  · have ho := box_iff.1 h0
    rw [h0] at kF
    obtain ⟨a, rfl⟩ := Int.eq_ofNat_of_zero_le (show 0 ≤ W by have := ho.w; omega)
    obtain ⟨b, rfl⟩ := Int.eq_ofNat_of_zero_le (show 0 ≤ H by have := ho.h; omega)
    have ha : 1 ≤ a ∧ a ≤ 16 := by have := ho.w; omega
    have hab := ho.a
    obtain ⟨M, hM⟩ : ∃ M, a * b = M := ⟨_, rfl⟩
    have q2 : (a : Int) * (b : Int) = (M : Int) := by rw [← hM]; exact (Int.natCast_mul a b).symm
    have hM16 : M ≤ 16 := by omega
    have e2 : IntKind.i64.wrap ((a : Int) * (b : Int)) = (M : Int) := by rw [q2]; exact IntWalk.i64_in _ (by omega)
    have e2' : wrap64 ((a : Int) * (b : Int)) = (M : Int) := by rw [q2]; unfold wrap64; omega
    by_cases hlm : nl = M
    · have hlen : (l.length : Int) = (a : Int) * (b : Int) := by rw [q2]; omega
      have hbad := Lib.hid (fun (i : Nat) (s : Int) hs h3 => cel_state (l := l) h0 hlen (i := i) (s := s) hs h3)
      have hgood := Lib.hid (fun h3 => cel_ok (l := l) h0 hlen h3)
      generalize celE a b G DX DY S l = ce at hbad hgood ⊢
      generalize celL a b G DX DY S l = cl2 at hbad hgood ⊢
      have t0 : ((nl : Int) != (M : Int)) = false := by rw [hlm]; simp
      replace hlm := Lib.hid hlm
      replace hQl := Lib.hid hQl
      clear q2 hM hlen h0 ho hab
      go_enter Tryd.func12, Tryd.ntmps12
      go_wp2_with fail
      have hbx := PbAt.new w (a : Int) (b : Int) G DX DY (.slice P ns cs) 28
      have hbe : Below w.heap.size w (w.alloc (.cells #[.int .i64 (a : Int), .int .i64 (b : Int), .int .i64 G, .int .i64 DX, .int .i64 DY, .slice P ns cs] 28)) := (Below.refl _ _).alloc (Nat.le_refl _) _
      obtain ⟨we, hwe⟩ : ∃ we, we = w.alloc (.cells #[.int .i64 (a : Int), .int .i64 (b : Int), .int .i64 G, .int .i64 DX, .int .i64 DY, .slice P ns cs] 28) := ⟨_, rfl⟩
      have hsw : we.heap.size = w.heap.size + 1 := by rw [hwe]; simp
      rw [← hwe] at hbx hbe ⊢
      clear hwe
      replace hR := hR.of hbe
      replace hQ := hQ.of hbe
      go_at_call 22
      refine (kF _ hR).mono ?_
      rintro e1 w1 ⟨rfl, hb1⟩
      have hs1 := hb1.size
      have hB1 : Below w.heap.size w w1 := below_thru hbe hb1
      replace hbx := hbx.of hb1
      replace hQ := hQ.of hb1
      obtain ⟨hbs, p0, p1, p2, p3, p4, p5⟩ := hbx.open
      clear hR hb1 hbe kF
      go_wp2_with fail
      clear p0 p1 p2 p3 p4 p5 e2 e2' t0
      go_loopw [7, 25] (fun v t wr => ∃ (E : Option Addr) (n c j : Nat), v = .slice E n c ∧ t = .int .i64 j ∧ j ≤ nl ∧ n ≤ j ∧ Own encC 3 40 w1.heap.size wr E n c (celP a l j) ∧ Hid (∀ (i : Nat) x, i < j → l[i]? = some x → 0 ≤ x ∧ x ≤ 7) ∧ Below w1.heap.size w1 wr) (fun _ t _ => nl - (intOf t).toNat)
      case atStart => exact ⟨none, 0, 0, 0, rfl, rfl, by omega, by omega, Own.nil_, Lib.hid (fun i x hi => absurd hi (by omega)), Below.refl _ _⟩
      case round =>
        obtain ⟨E, n, c, j, rfl, rfl, hj, hnj, hown, hal, hb⟩ := hrel
        have hsz := hb.size
        obtain ⟨_, p0, p1, _, _, _, _⟩ := (hbx.of hb).open
        by_cases hlj : j < nl
        · have dj : decide ((j : Int) < nl) = true := decide_eq_true (by omega)
          have dj' : decide (j < nl) = true := decide_eq_true hlj
          obtain ⟨s, bo, o, hx, rfl, hbo, o1⟩ := hQ.int hlj
          have g1 : wr.cell? ⟨bo, o + j, none⟩ = some (.int .i64 s) := by rw [hb.cell (p := ⟨_, _, none⟩) hbo]; exact o1
          clear o1
          have i0 : (0 : Int) ≤ (j : Int) := by omega
          have i1 : (j : Int) < (nl : Int) := by omega
          by_cases h7 : 0 ≤ s ∧ s ≤ 7
          · have d1 : decide (s < 0) = false := decide_eq_false (by omega)
            have d2 : decide (8 ≤ s) = false := decide_eq_false (by omega)
            have hal2 := Lib.hid (st_step hal.out hx.out h7)
            by_cases hs0 : 0 < s
            · have d3 : decide (0 < s) = true := decide_eq_true hs0
              have hst := Lib.hid (celP_more (a := a) hx.out hs0)
              obtain ⟨KM, hKM⟩ : ∃ r, r = j % a := ⟨_, rfl⟩
              obtain ⟨KD, hKD⟩ : ∃ r, r = j / a := ⟨_, rfl⟩
              have t1 : (j : Int).tmod (a : Int) = (KM : Int) := by rw [hKM]; rfl
              have t2 : (j : Int).tdiv (a : Int) = (KD : Int) := by rw [hKD]; rfl
              have hKD1 : KD ≤ j := by rw [hKD]; exact Nat.div_le_self _ _
              rw [← hKM, ← hKD] at hst
              clear hKM hKD
              have e0 : IntKind.i64.wrap (KD : Int) = (KD : Int) := IntWalk.i64_in _ (by omega)
              have e00 : wrap64 (KD : Int) = (KD : Int) := by unfold wrap64; omega
              have hw0 : ((a : Int) == 0) = false := by simp; omega
              have hw1 : (a : Int) ≠ 0 := by omega
              have hw2 : a ≠ 0 := by omega
              have hw3 : decide (a = 0) = false := decide_eq_false hw2
              go_wp2_with fail
              (go_region_held3 (fun w' => w'.cell? ⟨w.heap.size, 0, none⟩ = some (.int .i64 (a : Int)) ∧ w'.cell? ⟨w.heap.size, 1, none⟩ = some (.int .i64 (b : Int))) (first | go_keep | (go_split_ands; refine ⟨?_, ?_⟩ <;> first | go_keep | (rw [hb4.cell (p := ⟨_, _, none⟩) (by first | omega | (simp; done) | (simp; omega))]; go_keep))) ((refine step_append_el (by rfl) (.tmp 40) (.tmp 51) 30 (by rfl) encC 3 40 (.agg #[.int .i64 0, .int .i64 0, .int .i64 0]) 24 Tryd.underlying30 (by kernel_rfl) rfl (by decide) encC_len encC_one (w1.heap.size) _ _ _ _ (by rfl) (hown.drew.alloc _) ((KM : Int), (KD : Int), s) ⟨(wr.drew).heap.size, 0, none⟩ 1 (by rfl) (cells_new (wr.drew) _ _) (by omega) (by omega) (by first | omega | (simp; done) | (simp; omega)) ?_; intro A4 c4 w4 hown4 hg4 hb4)))
              (try go_split_ands)
              go_wp2_with fail
              go_roundw
              case rel => exact ⟨A4, n + 1, c4, j + 1, rfl, by go_num, by omega, by omega, by rw [hst.out]; exact hown4, hal2, below_after hb4 ((hb.drew).alloc (by simpa using hsz) _) (Nat.le_refl _)⟩
              case measure => simp [intOf]; omega
            · have d3 : decide (0 < s) = false := decide_eq_false hs0
              have hst := Lib.hid (celP_skip (a := a) hx.out hs0)
              go_wp2_with fail
              go_roundw
              case rel => exact ⟨E, n, c, j + 1, rfl, by go_num, by omega, by omega, by rw [hst.out]; exact hown, hal2, hb⟩
              case measure => simp [intOf]; omega
          · have HE := Lib.hid (hbad.out j s hx.out h7)
            have hways : decide (s < 0) = true ∨ (decide (s < 0) = false ∧ decide (8 ≤ s) = true) := by
              simp only [decide_eq_true_eq, decide_eq_false_iff_not]; omega
            clear h7 hown
            rcases hways with d1 | ⟨d1, d2⟩
            all_goals
              go_wp2_with fail
              go_ret2
              exact ⟨none, 0, 0, by rw [HE.out.1]; rfl, by rw [HE.out.2]; exact NewP.nil_, below_thru hB1 hb⟩
        · obtain rfl : j = nl := by omega
          have dj : decide ((j : Int) < j) = false := decide_eq_false (by omega)
          have dj' : decide (j < j) = false := decide_eq_false (by omega)
          have HE := Lib.hid (hgood.out (fun i s hs => hal.out i s (by have := (List.getElem?_eq_some_iff.1 hs).1; rw [hQl.out] at this; exact this) hs))
          go_wp2_with fail
          go_ret2
          exact ⟨E, n, c, by rw [HE.out.1]; rfl, by rw [HE.out.2, hQl.out, Int.toNat_natCast]; exact (NewP.own hown).more (by omega), below_thru hB1 hb⟩
    · obtain ⟨e5, e6⟩ := cel_len (l := l) h0 (by rw [q2]; omega)
      rw [e5, e6]
      have t0 : ((nl : Int) != (M : Int)) = true := by simp; omega
      clear q2 hM e5 e6 h0 ho hab hlm
      go_enter Tryd.func12, Tryd.ntmps12
      go_wp2_with fail; go_at_call 22; refine (kF _ (hR.of (by (repeat' (first | exact Below.refl _ _ | assumption | (refine Below.alloc ?_ ?_ _) | (refine Below.setCell ?_ ?_ _) | (refine Below.drew ?_) | (refine below_drewN ?_ _) | (refine below_after (Ext.below _) ?_ ?_) | (refine below_after (by assumption) ?_ ?_) | (simp; done) | omega | (simp; omega)))))).mono ?_; rintro e w1 ⟨rfl, hb1⟩; have hs1 := hb1.size; (try simp only [World.size_alloc, World.size_drew, World.size_setCell] at hs1); obtain ⟨hc1, hf1⟩ := bcell hb1; (try simp only [World.size_alloc, World.size_setCell, World.size_drew] at hc1 hf1)
      go_wp2_with fail
      go_ret2
      exact ⟨none, 0, 0, rfl, NewP.nil_, by (repeat' (first | exact Below.refl _ _ | assumption | (refine Below.alloc ?_ ?_ _) | (refine Below.setCell ?_ ?_ _) | (refine Below.drew ?_) | (refine below_drewN ?_ _) | (refine below_after (Ext.below _) ?_ ?_) | (refine below_after (by assumption) ?_ ?_) | (simp; done) | omega | (simp; omega)))⟩
  · obtain ⟨e5, e6⟩ := cel_bad (l := l) h0
    rw [e5, e6]
    generalize boxE W H G DX DY S = r at h0 kF ⊢
    have t0 : (r != 0) = true := by simpa using h0
    clear h0 e5 e6
    go_enter Tryd.func12, Tryd.ntmps12
    go_wp2_with fail; go_at_call 22; refine (kF _ (hR.of (by (repeat' (first | exact Below.refl _ _ | assumption | (refine Below.alloc ?_ ?_ _) | (refine Below.setCell ?_ ?_ _) | (refine Below.drew ?_) | (refine below_drewN ?_ _) | (refine below_after (Ext.below _) ?_ ?_) | (refine below_after (by assumption) ?_ ?_) | (simp; done) | omega | (simp; omega)))))).mono ?_; rintro e w1 ⟨rfl, hb1⟩; have hs1 := hb1.size; (try simp only [World.size_alloc, World.size_drew, World.size_setCell] at hs1); obtain ⟨hc1, hf1⟩ := bcell hb1; (try simp only [World.size_alloc, World.size_setCell, World.size_drew] at hc1 hf1)
    go_wp2_with fail
    go_ret2
    exact ⟨none, 0, 0, rfl, NewP.nil_, by (repeat' (first | exact Below.refl _ _ | assumption | (refine Below.alloc ?_ ?_ _) | (refine Below.setCell ?_ ?_ _) | (refine Below.drew ?_) | (refine below_drewN ?_ _) | (refine below_after (Ext.below _) ?_ ?_) | (refine below_after (by assumption) ?_ ?_) | (simp; done) | omega | (simp; omega)))⟩
end Go.Proofs.YtnhapgbjaeaamaaDoor
end
section
namespace Go.Proofs.YtnhapgbjaeaamaaDoor
open Go Go.RowKit
set_option maxRecDepth 100000
set_option linter.unusedSimpArgs false
set_option linter.unusedVariables false
theorem even_cm : ∀ a : Nat, a < 8 → ∀ b : Nat, b < 8 → a % 2 = 0 → b % 2 = 0 → cm a b % 2 = 0 := by
  intro a ha b hb h1 h2
  rw [cm_cmT a ha b hb]
  have h : ∀ a : Nat, a < 8 → ∀ b : Nat, b < 8 → a % 2 = 0 → b % 2 = 0 → cmT a b % 2 = 0 := by decide +kernel
  exact h a ha b hb h1 h2
/-- The group of symmetries that map the box to itself holds only such ones. -/
theorem syms_grp {W H : Int} {S : List Int} (h : symsB W H S = true) (hn : W ≠ H) : anyOdd (grp S) = false := by
  have ho : Over S (fun k => decide (k % 2 = 0)) := by
    refine ⟨rfl, fun m hm => ?_, fun a b ha hb h1 h2 => ?_⟩
    · have := syms_ok h hm
      refine decide_eq_true ?_
      unfold r8
      have h3 : ¬ m % 2 = 1 := fun e => hn (this.2.2 e)
      omega
    · exact decide_eq_true (even_cm a ha b hb (of_decide_eq_true h1) (of_decide_eq_true h2))
  unfold anyOdd
  rw [List.any_eq_false]
  intro m hm
  obtain ⟨k, hk, rfl, hg⟩ := mem_grp_nat hm
  have h1 : k % 2 = 0 := of_decide_eq_true (grpB_iff.1 hg _ ho)
  rw [odd_nat hk]
  simp [h1]
/-- The numbers that are the least of their orbit. -/
def frP (L : List Int) : Nat → List Int
  | 0 => []
  | j + 1 => frP L j ++ (if L.getD j 0 = (j : Int) then [(j : Int)] else [])
theorem frP_skip {j : Nat} {L : List Int} {s : Int} (h : L[j]? = some s) (hs : ¬ s = (j : Int)) : frP L (j + 1) = frP L j := by
  show frP L j ++ _ = _
  rw [getD_some h, if_neg hs, List.append_nil]
theorem frP_more {j : Nat} {L : List Int} {s : Int} (h : L[j]? = some s) (hs : s = (j : Int)) : frP L (j + 1) = frP L j ++ [(j : Int)] := by
  show frP L j ++ _ = _
  rw [getD_some h, if_pos hs]
noncomputable def orbP (a b : Nat) (S : List Int) : List Int := orb (wF (a : Int) (b : Int)) (grp S) a (b * a)
noncomputable def freL (W H G DX DY : Int) (S : List Int) : List Int := if boxE W H G DX DY S = 0 then frP (orbP W.toNat H.toNat S) (H.toNat * W.toNat) else []
set_option maxHeartbeats 8000000 in
theorem prb_Free (W H G DX DY : Int) (S : List Int) (P : Option Addr) (ns cs : Nat) (w : World) (hM : Mx w) (hR : Rd encI 1 w P ns S) (hns : ns ≤ 1000000) :
    Calls Tryd.prog 11 #[.agg #[.int .i64 W, .int .i64 H, .int .i64 G, .int .i64 DX, .int .i64 DY, .slice P ns cs]] w fun e w' => ∃ A2 n2 c2, e = .returned (.tuple #[.slice A2 n2 c2, .int .i64 (boxE W H G DX DY S)]) ∧ Rd encI 1 w' A2 n2 (freL W H G DX DY S) ∧ n2 ≤ 16 ∧ n2 ≤ c2 ∧ Below w.heap.size w w' := by
  have kF := fun w1 h1 => prb_first W H G DX DY S P ns cs w1 h1 hns
  by_cases h0 : boxE W H G DX DY S = 0
  · have ho := box_iff.1 h0
    rw [h0] at kF
    obtain ⟨a, rfl⟩ := Int.eq_ofNat_of_zero_le (show 0 ≤ W by have := ho.w; omega)
    obtain ⟨b, rfl⟩ := Int.eq_ofNat_of_zero_le (show 0 ≤ H by have := ho.h; omega)
    have ha : 1 ≤ a ∧ a ≤ 16 := by have := ho.w; omega
    have hb : 1 ≤ b ∧ b ≤ 16 := by have := ho.h; omega
    have hab := ho.a
    obtain ⟨M, hM1⟩ : ∃ M, b * a = M := ⟨_, rfl⟩
    have q2 : (a : Int) * (b : Int) = (M : Int) := by rw [← hM1, Nat.mul_comm]; exact (Int.natCast_mul a b).symm
    have hM16 : M ≤ 16 := by omega
    have kO := fun w1 h1 h2 => sym_Orbits_yes P ns cs S a b w1 h1 h2 (by omega) (by omega) (by omega) (by rw [q2]; omega) (by by_cases e : (a : Int) = b; exact .inl (by simpa using e); exact .inr ⟨by simpa using e, syms_grp ho.s e⟩)
    have hfl : freL a b G DX DY S = frP (orbP a b S) M := by unfold freL; rw [if_pos h0, Int.toNat_natCast, Int.toNat_natCast, hM1]
    have hLl : (orbP a b S).length = M := by unfold orbP; rw [orb_len, hM1]
    rw [hM1] at kO
    rw [hfl, h0]
    have hLd : orbP a b S = orb (wF (a : Int) (b : Int)) (grp S) a M := by unfold orbP; rw [hM1]
    rw [← hLd] at kO
    generalize orbP a b S = L at kO hLl ⊢
    clear hLd hfl q2 hM1 h0 hab ho
    replace hLl := Lib.hid hLl
    go_enter Tryd.func11, Tryd.ntmps11
    go_wp2_with fail
    have hbx := PbAt.new w (a : Int) (b : Int) G DX DY (.slice P ns cs) 28
    have hbe : Below w.heap.size w (w.alloc (.cells #[.int .i64 (a : Int), .int .i64 (b : Int), .int .i64 G, .int .i64 DX, .int .i64 DY, .slice P ns cs] 28)) := (Below.refl _ _).alloc (Nat.le_refl _) _
    obtain ⟨we, hwe⟩ : ∃ we, we = w.alloc (.cells #[.int .i64 (a : Int), .int .i64 (b : Int), .int .i64 G, .int .i64 DX, .int .i64 DY, .slice P ns cs] 28) := ⟨_, rfl⟩
    have hsw : we.heap.size = w.heap.size + 1 := by rw [hwe]; simp
    rw [← hwe] at hbx hbe ⊢
    clear hwe
    replace hR := hR.of hbe
    replace hM := hM.of hbe
    go_at_call 22
    refine (kF _ hR).mono ?_
    rintro e1 w1 ⟨rfl, hb1⟩
    have hs1 := hb1.size
    obtain ⟨hbs, p0, p1, p2, p3, p4, p5⟩ := (hbx.of hb1).open
    go_wp2_with fail
    go_at_call 23
    refine (kO _ (hM.of hb1) (hR.of hb1)).mono ?_
    rintro e2 w2 ⟨Q, cq, rfl, hQ, hb2⟩
    have hs2 := hb2.size
    have hB2 : Below w.heap.size w w2 := below_thru hbe (hb1.trans (hb2.mono hs1))
    clear p0 p1 p2 p3 p4 p5 hbx hR hb1 hb2 hbe kO kF hM
    go_wp2_with fail
    go_loopw [7, 30] (fun v t wr => ∃ (E : Option Addr) (n c j : Nat), v = .slice E n c ∧ t = .int .i64 j ∧ j ≤ M ∧ n ≤ j ∧ Own encI 1 3 w2.heap.size wr E n c (frP L j) ∧ Below w2.heap.size w2 wr) (fun _ t _ => M - (intOf t).toNat)
    case atStart => exact ⟨none, 0, 0, 0, rfl, rfl, by omega, by omega, Own.nil_, Below.refl _ _⟩
    case round =>
      obtain ⟨E, n, c, j, rfl, rfl, hj, hnj, hown, hb⟩ := hrel
      have hsz := hb.size
      by_cases hlj : j < M
      · have dj : decide ((j : Int) < M) = true := decide_eq_true (by omega)
        have dj' : decide (j < M) = true := decide_eq_true hlj
        obtain ⟨s, bo, o, hx, rfl, hbo, g1⟩ := (hQ.of hb).int hlj
        by_cases hs : s = (j : Int)
        · have t0 : ((j : Int) == s) = true := by rw [hs]; simp
          have hst := Lib.hid (frP_more hx.out hs)
          clear hs
          go_wp2_with (first | (at_builtin; refine wpList_append_el rfl (.tmp 38) (.tmp 40) 26 rfl encI 1 3 (.int .i64 0) 8 Tryd.underlying26 (by kernel_rfl) rfl (by decide) encI_len encI_one (w2.heap.size) _ _ _ _ rfl (hown.alloc _) (j : Int) ⟨(wr).heap.size, 0, none⟩ 1 rfl (cells_new (wr) _ _) (by omega) (by omega) (by first | omega | (simp; done) | (simp; omega)) ?_; intro A6 c6 w6 hown6 hg6 hb6; obtain ⟨hc6, hf6⟩ := bcell hb6; have hs6 := hb6.size; (try simp only [World.size_alloc, World.size_setCell, World.size_drew] at hc6 hf6); (try simp at hs6)))
          go_roundw
          case rel => exact ⟨A6, n + 1, c6, j + 1, rfl, by go_num, by omega, by omega, by rw [hst.out]; exact hown6, by (repeat' (first | exact Below.refl _ _ | assumption | (refine Below.alloc ?_ ?_ _) | (refine Below.setCell ?_ ?_ _) | (refine Below.drew ?_) | (refine below_drewN ?_ _) | (refine below_after (Ext.below _) ?_ ?_) | (refine below_after (by assumption) ?_ ?_) | (simp; done) | omega | (simp; omega)))⟩
          case measure => simp [intOf]; omega
        · have t0 : ((j : Int) == s) = false := by simp; omega
          have hst := Lib.hid (frP_skip hx.out hs)
          clear hs
          go_wp2_with fail
          go_roundw
          case rel => exact ⟨E, n, c, j + 1, rfl, by go_num, by omega, by omega, by rw [hst.out]; exact hown, hb⟩
          case measure => simp [intOf]; omega
      · obtain rfl : j = M := by omega
        have dj : decide ((j : Int) < j) = false := decide_eq_false (by omega)
        have dj' : decide (j < j) = false := decide_eq_false (by omega)
        go_wp2_with fail
        go_ret2
        exact ⟨E, n, c, rfl, hown.rd encI_len, by omega, own_cap hown, below_thru hB2 hb⟩
  · have hfl : freL W H G DX DY S = [] := by unfold freL; rw [if_neg h0]
    rw [hfl]
    generalize boxE W H G DX DY S = r at h0 kF ⊢
    have t0 : (r != 0) = true := by simpa using h0
    clear h0 hfl
    go_enter Tryd.func11, Tryd.ntmps11
    go_wp2_with fail; go_at_call 22; refine (kF _ (hR.of (by (repeat' (first | exact Below.refl _ _ | assumption | (refine Below.alloc ?_ ?_ _) | (refine Below.setCell ?_ ?_ _) | (refine Below.drew ?_) | (refine below_drewN ?_ _) | (refine below_after (Ext.below _) ?_ ?_) | (refine below_after (by assumption) ?_ ?_) | (simp; done) | omega | (simp; omega)))))).mono ?_; rintro e w1 ⟨rfl, hb1⟩; have hs1 := hb1.size; (try simp only [World.size_alloc, World.size_drew, World.size_setCell] at hs1); obtain ⟨hc1, hf1⟩ := bcell hb1; (try simp only [World.size_alloc, World.size_setCell, World.size_drew] at hc1 hf1)
    go_wp2_with fail
    go_ret2
    exact ⟨none, 0, 0, rfl, Rd.nil_, by omega, by omega, by (repeat' (first | exact Below.refl _ _ | assumption | (refine Below.alloc ?_ ?_ _) | (refine Below.setCell ?_ ?_ _) | (refine Below.drew ?_) | (refine below_drewN ?_ _) | (refine below_after (Ext.below _) ?_ ?_) | (refine below_after (by assumption) ?_ ?_) | (simp; done) | omega | (simp; omega)))⟩
end Go.Proofs.YtnhapgbjaeaamaaDoor
end
