/- The contract of the reference's Exact. -/
import Derived.Test.YtnhapgbjaeaamaaGreatDoorPrb14
import Derived.Test.YtnhapgbjaeaamaaGreatDoorPRZ
namespace Go.Proofs.YtnhapgbjaeaamaaGreatDoor
open Go Go.RowKit
set_option linter.unusedSimpArgs false
set_option linter.unusedVariables false
set_option maxRecDepth 100000
set_option linter.unusedSimpArgs false
set_option linter.unusedVariables false
theorem mid_any {st : Int} {Hd : List (Int × Int)} {N : List (Int × List Int)} {p h : List (Int × Int × Int)} {GG i : Nat} (h1 : 1 ≤ i) (h2 : i < GG) (hq : hmS h (itS Hd N p i).2 = true) : (midL st Hd N p GG).any (hmS h) = true := by
  refine List.any_eq_true.2 ⟨_, List.mem_map.2 ⟨i - 1, List.mem_range.2 (by omega), rfl⟩, ?_⟩
  rw [show i - 1 + 1 = i by omega]; exact hq
theorem mid_all {st : Int} {Hd : List (Int × Int)} {N : List (Int × List Int)} {p h : List (Int × Int × Int)} {GG : Nat} (hq : ∀ i, 1 ≤ i → i < GG → hmS h (itS Hd N p i).2 = false) : (midL st Hd N p GG).any (hmS h) = false := by
  rw [List.any_eq_false]
  intro l hl
  obtain ⟨k, hk, rfl⟩ := List.mem_map.1 hl
  have := List.mem_range.1 hk
  rw [hq (k + 1) (by omega) (by omega)]
  simp
section
variable (st : Int) (A B P D : Option Addr) (n c m d ns cs k e : Nat) (Hd : List (Int × Int)) (N : List (Int × List Int)) (W H G DX DY : Int) (S : List Int) (p : List (Int × Int × Int)) (w : World)
set_option maxHeartbeats 16000000 in
theorem ref44_Exact (hH : Rd encP 2 w A n Hd) (hN : RdX ekN w B m N) (hR : Rd encI 1 w P ns S) (hns : ns ≤ 1000000) (hP : Rd encC 3 w D k p) (hk : k ≤ 1000000) (hke : k ≤ e) :
    Calls Tryz.prog 22 #[.agg #[.int .i64 st, .slice A n c, .slice B m d], .agg #[.int .i64 W, .int .i64 H, .int .i64 G, .int .i64 DX, .int .i64 DY, .slice P ns cs], .slice D k e] w fun e w' => e = .returned (.tuple #[.bool (excB st Hd N W H G DX DY S p), .int .i64 (begE st Hd N W H G DX DY S p)]) ∧ Below w.heap.size w w' := by
  have kS := fun w1 h1 h2 h3 h4 => ref44_Solves st A B P D n c m d ns cs k e Hd N W H G DX DY S p w1 h1 h2 h3 hns h4 hk hke
  by_cases h0 : begE st Hd N W H G DX DY S p = 0
  · have hx : excB st Hd N W H G DX DY S p = (slvB st Hd N W H G DX DY S p && !p.isEmpty && !((midL st Hd N p G.toNat).any (hmS (hmL p)))) := rfl
    cases hv : slvB st Hd N W H G DX DY S p with
    | false =>
      rw [hv] at kS hx
      have hx2 : excB st Hd N W H G DX DY S p = false := by rw [hx]; rfl
      rw [hx2, h0]
      rw [h0] at kS
      clear hx hx2 hv h0
      go_enter Tryz.func22, Tryz.ntmps22
      go_wp2_with fail; go_at_call 20; refine (kS _ (hH.of (by (repeat' (first | exact Below.refl _ _ | assumption | (refine Below.alloc ?_ ?_ _) | (refine Below.setCell ?_ ?_ _) | (refine Below.drew ?_) | (refine below_drewN ?_ _) | (refine below_after (Ext.below _) ?_ ?_) | (refine below_after (by assumption) ?_ ?_) | (simp; done) | omega | (simp; omega))))) (hN.of (by (repeat' (first | exact Below.refl _ _ | assumption | (refine Below.alloc ?_ ?_ _) | (refine Below.setCell ?_ ?_ _) | (refine Below.drew ?_) | (refine below_drewN ?_ _) | (refine below_after (Ext.below _) ?_ ?_) | (refine below_after (by assumption) ?_ ?_) | (simp; done) | omega | (simp; omega))))) (hR.of (by (repeat' (first | exact Below.refl _ _ | assumption | (refine Below.alloc ?_ ?_ _) | (refine Below.setCell ?_ ?_ _) | (refine Below.drew ?_) | (refine below_drewN ?_ _) | (refine below_after (Ext.below _) ?_ ?_) | (refine below_after (by assumption) ?_ ?_) | (simp; done) | omega | (simp; omega))))) (hP.of (by (repeat' (first | exact Below.refl _ _ | assumption | (refine Below.alloc ?_ ?_ _) | (refine Below.setCell ?_ ?_ _) | (refine Below.drew ?_) | (refine below_drewN ?_ _) | (refine below_after (Ext.below _) ?_ ?_) | (refine below_after (by assumption) ?_ ?_) | (simp; done) | omega | (simp; omega)))))).mono ?_; rintro e w1 ⟨rfl, hb1⟩; have hs1 := hb1.size; (try simp only [World.size_alloc, World.size_drew, World.size_setCell] at hs1); obtain ⟨hc1, hf1⟩ := bcell hb1; (try simp only [World.size_alloc, World.size_setCell, World.size_drew] at hc1 hf1)
      go_wp2_with fail
      go_ret2
      exact ⟨rfl, by (repeat' (first | exact Below.refl _ _ | assumption | (refine Below.alloc ?_ ?_ _) | (refine Below.setCell ?_ ?_ _) | (refine Below.drew ?_) | (refine below_drewN ?_ _) | (refine below_after (Ext.below _) ?_ ?_) | (refine below_after (by assumption) ?_ ?_) | (simp; done) | omega | (simp; omega)))⟩
    | true =>
      rw [hv] at kS hx
      have hpl := hP.len
      by_cases hk0 : k = 0
      · subst hk0
        have hp0 : p = [] := List.length_eq_zero_iff.1 hpl
        have hx2 : excB st Hd N W H G DX DY S p = false := by rw [hx, hp0]; rfl
        rw [hx2, h0]
        rw [h0] at kS
        clear hx hx2 hv h0 hp0 hpl
        go_enter Tryz.func22, Tryz.ntmps22
        go_wp2_with fail; go_at_call 20; refine (kS _ (hH.of (by (repeat' (first | exact Below.refl _ _ | assumption | (refine Below.alloc ?_ ?_ _) | (refine Below.setCell ?_ ?_ _) | (refine Below.drew ?_) | (refine below_drewN ?_ _) | (refine below_after (Ext.below _) ?_ ?_) | (refine below_after (by assumption) ?_ ?_) | (simp; done) | omega | (simp; omega))))) (hN.of (by (repeat' (first | exact Below.refl _ _ | assumption | (refine Below.alloc ?_ ?_ _) | (refine Below.setCell ?_ ?_ _) | (refine Below.drew ?_) | (refine below_drewN ?_ _) | (refine below_after (Ext.below _) ?_ ?_) | (refine below_after (by assumption) ?_ ?_) | (simp; done) | omega | (simp; omega))))) (hR.of (by (repeat' (first | exact Below.refl _ _ | assumption | (refine Below.alloc ?_ ?_ _) | (refine Below.setCell ?_ ?_ _) | (refine Below.drew ?_) | (refine below_drewN ?_ _) | (refine below_after (Ext.below _) ?_ ?_) | (refine below_after (by assumption) ?_ ?_) | (simp; done) | omega | (simp; omega))))) (hP.of (by (repeat' (first | exact Below.refl _ _ | assumption | (refine Below.alloc ?_ ?_ _) | (refine Below.setCell ?_ ?_ _) | (refine Below.drew ?_) | (refine below_drewN ?_ _) | (refine below_after (Ext.below _) ?_ ?_) | (refine below_after (by assumption) ?_ ?_) | (simp; done) | omega | (simp; omega)))))).mono ?_; rintro e w1 ⟨rfl, hb1⟩; have hs1 := hb1.size; (try simp only [World.size_alloc, World.size_drew, World.size_setCell] at hs1); obtain ⟨hc1, hf1⟩ := bcell hb1; (try simp only [World.size_alloc, World.size_setCell, World.size_drew] at hc1 hf1)
        go_wp2_with fail
        go_ret2
        exact ⟨rfl, by (repeat' (first | exact Below.refl _ _ | assumption | (refine Below.alloc ?_ ?_ _) | (refine Below.setCell ?_ ?_ _) | (refine Below.drew ?_) | (refine below_drewN ?_ _) | (refine below_after (Ext.below _) ?_ ?_) | (refine below_after (by assumption) ?_ ?_) | (simp; done) | omega | (simp; omega)))⟩
      · obtain ⟨ho, hf⟩ := beg_zero h0
        obtain ⟨a, rfl⟩ := Int.eq_ofNat_of_zero_le (show 0 ≤ W by have := ho.w; omega)
        obtain ⟨b, rfl⟩ := Int.eq_ofNat_of_zero_le (show 0 ≤ H by have := ho.h; omega)
        obtain ⟨GG, rfl⟩ := Int.eq_ofNat_of_zero_le (show 0 ≤ G by have := ho.g; omega)
        have hg : 1 ≤ GG ∧ GG ≤ 6 := by have := ho.g; omega
        have hpe : p.isEmpty = false := by
          cases p with
          | nil => simp at hpl; omega
          | cons x l => rfl
        have h3 : runE st Hd N p GG = 0 := by
          unfold slvB at hv
          rw [Bool.and_eq_true] at hv
          exact (sol_zero hv.2).2.2.1
        rw [hpe, Int.toNat_natCast] at hx
        have m0 := Lib.hid (fun i g1 g2 g3 => mid_any (st := st) (Hd := Hd) (N := N) (p := p) (h := hmL p) (GG := GG) (i := i) g1 g2 g3)
        have m1 := Lib.hid (fun g1 => mid_all (st := st) (Hd := Hd) (N := N) (p := p) (h := hmL p) (GG := GG) g1)
        have hx3 : excB st Hd N a b GG DX DY S p = !((midL st Hd N p GG).any (hmS (hmL p))) := by rw [hx]; rfl
        rw [hx3, h0]
        rw [h0] at kS
        generalize (midL st Hd N p GG).any (hmS (hmL p)) = z at m0 m1 ⊢
        have kH := fun w1 h1 h2 h3 => ref20_History st A B D n c m d k e Hd N p w1 GG h1 h2 h3 hk hke
        rw [h3] at kH
        have hat := Lib.hid (fun i (hi : i ≤ GG) => his_at h3 hi)
        have hit := Lib.hid (fun i => (rightC_ok (it_fits hf i).pat).1)
        have kP := fun w1 h1 => ref06_Home D k e p w1 h1 hk
        have t0 : ((k : Int) == 0) = false := by simpa using hk0
        have t0' : (k == 0) = false := by simpa using hk0
        clear hx hx3 hv h0 hpe hpl hk0 h3 ho hf
        go_enter Tryz.func22, Tryz.ntmps22
        go_wp2_with fail
        obtain ⟨we, hwe, hbt, hbp, hB, hsw⟩ := two_boxes w (.int .i64 st) (.slice A n c) (.slice B m d) 25 28 a b GG DX DY (.slice P ns cs)
        rw [← hwe]
        clear hwe
        replace hH := hH.of hB
        replace hN := hN.of hB
        replace hR := hR.of hB
        replace hP := hP.of hB
        go_at_call 20
        refine (kS _ hH hN hR hP).mono ?_
        rintro e1 w1 ⟨rfl, hb1⟩
        replace hbt := hbt.of hb1
        replace hbp := hbp.of hb1
        replace hH := hH.of hb1
        replace hN := hN.of hb1
        replace hP := hP.of hb1
        replace hB := below_thru hB hb1
        clear hb1 kS hR
        have ⟨_, t0, t1, t2⟩ := hbt.open
        have ⟨_, p0, p1, p2, p3, p4, p5⟩ := hbp.open
        go_wp2_with fail
        go_at_call 43
        refine (kH _ hH hN hP).mono ?_
        rintro e2 w2 ⟨A2, n2, c2, rfl, hX, hc2, hb2⟩
        have hn2 : n2 = GG + 1 := by rw [← hX.len]; exact (hat.out GG (Nat.le_refl _)).2
        subst hn2
        clear t0 t1 t2 p0 p1 p2 p3 p4 p5
        replace hbp := hbp.of hb2
        replace hP := hP.of hb2
        replace hB := below_thru hB hb2
        clear hb2 kH hH hN hbt
        go_wp2_with fail
        go_loopw [12] (fun t wr => ∃ j : Nat, t = .int .i64 j ∧ 1 ≤ j ∧ j ≤ GG ∧ Hid (∀ i, 1 ≤ i → i < j → hmS (hmL p) (itS Hd N p i).2 = false) ∧ Below w2.heap.size w2 wr) (fun t _ => GG - (intOf t).toNat)
        case atStart => exact ⟨1, rfl, by omega, hg.1, Lib.hid (fun i h1 h2 => absurd h1 (by omega)), Below.refl _ _⟩
        case round =>
          obtain ⟨j, rfl, hj1, hj, hno, hb0⟩ := hrel
          have hsz := hb0.size
          have ⟨_, p0, p1, p2, p3, p4, p5⟩ := (hbp.of hb0).open
          by_cases hlj : j < GG
          · have dj : decide ((j : Int) < GG) = true := decide_eq_true (by omega)
            have dj' : decide (j < GG) = true := decide_eq_true hlj
            obtain ⟨E, mf, cf, lf, bo, o, hlf, rfl, hbo, g1, hRf, hmf⟩ := (hX.of hb0).pat (i := j) (by omega)
            have hlf1 : lf = (itS Hd N p j).2 := by
              have h1 := (hat.out j hj).1
              rw [hlf.out] at h1
              injection h1
            have hmf5 : mf ≤ 5000 := by rw [← hRf.len, hlf1]; exact hit.out j
            have kE := fun w9 h9 => ref06_Home E mf cf lf w9 h9 (by omega)
            have kC := fun A9 c9 A8 c8 w9 h9 h8 => ref05_Same A9 A8 mf k c9 c8 (hmL lf) (hmL p) w9 h9 h8 (by omega) hk
            have hPv := hP.of hb0
            have i0 : (0 : Int) ≤ (j : Int) := by omega
            have i1 : (j : Int) < ((GG + 1 : Nat) : Int) := by omega
            cases hq : sameL (hmL lf) (hmL p) with
            | true =>
              have hE := Lib.hid (m0.out j hj1 hlj (by rw [← hlf1]; exact hq))
              rw [hq] at kC
              clear hlf1 hlf hq
              generalize hmL lf = hl1 at kE kC
              generalize hmL p = hl2 at kP kC
              go_wp2_with fail
              go_at_call 44
              refine (kE _ hRf).mono ?_
              rintro e7 w7 ⟨A7, c7, rfl, hR7, hb7⟩
              have hs7 := hb7.size
              go_wp2_with fail
              go_at_call 44
              refine (kP _ (hPv.of hb7)).mono ?_
              rintro e8 w8 ⟨A8, c8, rfl, hR8, hb8⟩
              have hs8 := hb8.size
              go_wp2_with fail
              go_at_call 17
              refine (kC _ _ _ _ _ (hR7.of hb8) hR8).mono ?_
              rintro e9 w9 ⟨rfl, hb9⟩
              have hfw : Below wr.heap.size wr w9 := (hb7.trans (hb8.mono hs7)).trans (hb9.mono (by omega))
              have hfin := below_thru hB (hb0.trans (hfw.mono hsz))
              go_wp2_with fail
              go_ret2
              exact ⟨by rw [hE.out]; rfl, hfin⟩
            | false =>
              have hst := Lib.hid (show ∀ i, 1 ≤ i → i < j + 1 → hmS (hmL p) (itS Hd N p i).2 = false from fun i h1 h2 => by
                by_cases e : i = j
                · subst e; rw [← hlf1]; exact hq
                · exact hno.out i h1 (by omega))
              rw [hq] at kC
              clear hlf1 hlf hq
              generalize hmL lf = hl1 at kE kC
              go_wp2_with fail
              go_at_call 44
              refine (kE _ hRf).mono ?_
              rintro e7 w7 ⟨A7, c7, rfl, hR7, hb7⟩
              have hs7 := hb7.size
              go_wp2_with fail
              go_at_call 44
              refine (kP _ (hPv.of hb7)).mono ?_
              rintro e8 w8 ⟨A8, c8, rfl, hR8, hb8⟩
              have hs8 := hb8.size
              go_wp2_with fail
              go_at_call 17
              refine (kC _ _ _ _ _ (hR7.of hb8) hR8).mono ?_
              rintro e9 w9 ⟨rfl, hb9⟩
              have hfw : Below wr.heap.size wr w9 := (hb7.trans (hb8.mono hs7)).trans (hb9.mono (by omega))
              go_wp2_with fail
              go_roundw
              case rel => exact ⟨j + 1, by go_num, by omega, by omega, hst, hb0.trans (hfw.mono hsz)⟩
              case measure => simp [intOf]; omega
          · obtain rfl : j = GG := by omega
            have dj : decide ((j : Int) < j) = false := decide_eq_false (by omega)
            have dj' : decide (j < j) = false := decide_eq_false (by omega)
            have hE := Lib.hid (m1.out hno.out)
            go_wp2_with fail
            go_ret2
            exact ⟨by rw [hE.out]; rfl, below_thru hB hb0⟩
  · have hq : slvB st Hd N W H G DX DY S p = false := by unfold slvB; rw [decide_eq_false h0]; rfl
    have hx : excB st Hd N W H G DX DY S p = false := by unfold excB; rw [hq]; rfl
    rw [hx]
    rw [hq] at kS
    generalize begE st Hd N W H G DX DY S p = r at h0 kS ⊢
    have t0 : (r != 0) = true := by simpa using h0
    clear h0 hq hx
    go_enter Tryz.func22, Tryz.ntmps22
    go_wp2_with fail; go_at_call 20; refine (kS _ (hH.of (by (repeat' (first | exact Below.refl _ _ | assumption | (refine Below.alloc ?_ ?_ _) | (refine Below.setCell ?_ ?_ _) | (refine Below.drew ?_) | (refine below_drewN ?_ _) | (refine below_after (Ext.below _) ?_ ?_) | (refine below_after (by assumption) ?_ ?_) | (simp; done) | omega | (simp; omega))))) (hN.of (by (repeat' (first | exact Below.refl _ _ | assumption | (refine Below.alloc ?_ ?_ _) | (refine Below.setCell ?_ ?_ _) | (refine Below.drew ?_) | (refine below_drewN ?_ _) | (refine below_after (Ext.below _) ?_ ?_) | (refine below_after (by assumption) ?_ ?_) | (simp; done) | omega | (simp; omega))))) (hR.of (by (repeat' (first | exact Below.refl _ _ | assumption | (refine Below.alloc ?_ ?_ _) | (refine Below.setCell ?_ ?_ _) | (refine Below.drew ?_) | (refine below_drewN ?_ _) | (refine below_after (Ext.below _) ?_ ?_) | (refine below_after (by assumption) ?_ ?_) | (simp; done) | omega | (simp; omega))))) (hP.of (by (repeat' (first | exact Below.refl _ _ | assumption | (refine Below.alloc ?_ ?_ _) | (refine Below.setCell ?_ ?_ _) | (refine Below.drew ?_) | (refine below_drewN ?_ _) | (refine below_after (Ext.below _) ?_ ?_) | (refine below_after (by assumption) ?_ ?_) | (simp; done) | omega | (simp; omega)))))).mono ?_; rintro e w1 ⟨rfl, hb1⟩; have hs1 := hb1.size; (try simp only [World.size_alloc, World.size_drew, World.size_setCell] at hs1); obtain ⟨hc1, hf1⟩ := bcell hb1; (try simp only [World.size_alloc, World.size_setCell, World.size_drew] at hc1 hf1)
    go_wp2_with fail
    go_ret2
    exact ⟨rfl, by (repeat' (first | exact Below.refl _ _ | assumption | (refine Below.alloc ?_ ?_ _) | (refine Below.setCell ?_ ?_ _) | (refine Below.drew ?_) | (refine below_drewN ?_ _) | (refine below_after (Ext.below _) ?_ ?_) | (refine below_after (by assumption) ?_ ?_) | (simp; done) | omega | (simp; omega)))⟩
end
end Go.Proofs.YtnhapgbjaeaamaaGreatDoor
