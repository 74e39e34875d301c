/- The contracts of chapter 34's reference: home and Find. -/
import Derived.Test.YtnhapgbjaeaamaaGreatDoorPrbM
import Derived.Test.YtnhapgbjaeaamaaGreatDoorPrb14
namespace Go.Proofs.YtnhapgbjaeaamaaGreatDoor
open Go Go.RowKit
set_option linter.unusedSimpArgs false
set_option linter.unusedVariables false
set_option maxRecDepth 100000
set_option linter.unusedSimpArgs false
set_option linter.unusedVariables false
theorem hd_at {l : List (Int × Int × Int)} {c : Int × Int × Int} (h : l[0]? = some c) : hd34 l = c := by
  unfold hd34; rw [List.getD_eq_getElem?_getD, h]; rfl
set_option maxHeartbeats 8000000 in
theorem ref34_home (A : Option Addr) (n c : Nat) (l : List (Int × Int × Int)) (w : World) (hR : Rd encC 3 w A n l) (hr : rightC l = true) :
    Calls Tryz.prog 47 #[.slice A n c] w fun e w' => ∃ A2 c2, e = .returned (.slice A2 n c2) ∧ Rd encC 3 w' A2 n (h34 l) ∧ Below w.heap.size w w' := by
  have hn5 : n ≤ 5000 := by rw [← hR.len]; exact (rightC_ok hr).1
  have hRl := Lib.hid hR.len
  have hok := Lib.hid (okCells_right hr)
  clear hr
  go_enter Tryz.func47, Tryz.ntmps47
  go_wp2_with fail
  go_loopw [3, 4] (fun v i wr => ∃ (E : Option Addr) (d j : Nat), v = .slice E j d ∧ i = .int .i64 j ∧ j ≤ n ∧ Own encC 3 49 w.heap.size wr E j d ((l.take j).map (mv5 (-(hd34 l).1) (-(hd34 l).2.1))) ∧ Below w.heap.size w wr) (fun _ i _ => n - (intOf i).toNat)
  case atStart => exact ⟨none, 0, 0, rfl, rfl, by omega, Own.nil_, Below.refl _ _⟩
  case round =>
    obtain ⟨E, d, j, rfl, rfl, hj, hown, hb⟩ := hrel
    have hs := hb.size
    by_cases hlt : j < n
    · have dj : decide ((j : Int) < n) = true := decide_eq_true (by omega)
      have dj' : decide (j < n) = true := decide_eq_true hlt
      obtain ⟨x, y, s, bo, o, hx, rfl, hbl, o1, o2, o3⟩ := hR.cell hlt
      obtain ⟨x0, y0, s0, bo', o', hx0, he, _, z1, z2, _⟩ := hR.cell (show 0 < n by omega)
      injection he with he
      injection he with he1 he2
      subst he1 he2
      have hp1 := (hok.out _ (List.mem_of_getElem? hx.out)).1
      have hp0 := (hok.out _ (List.mem_of_getElem? hx0.out)).1
      have hh := hd_at hx0.out
      unfold Pt at hp1 hp0
      simp only at hp1 hp0
      obtain ⟨u1, hu1⟩ : ∃ u, x - x0 = u := ⟨_, rfl⟩
      obtain ⟨u2, hu2⟩ : ∃ u, y - y0 = u := ⟨_, rfl⟩
      have hst := Lib.hid (show (l.take (j + 1)).map (mv5 (-(hd34 l).1) (-(hd34 l).2.1)) = (l.take j).map (mv5 (-(hd34 l).1) (-(hd34 l).2.1)) ++ [(u1, u2, s)] by
        rw [map_step' _ hx.out, hh, ← hu1, ← hu2]; rfl)
      have e1 : IntKind.i64.wrap (x - x0) = u1 := by rw [IntWalk.i64_in _ (by omega)]; exact hu1
      have e1' : wrap64 (x - x0) = u1 := by unfold wrap64; omega
      have e2 : IntKind.i64.wrap (y - y0) = u2 := by clear e1 e1'; rw [IntWalk.i64_in _ (by omega)]; exact hu2
      have e2' : wrap64 (y - y0) = u2 := by clear e1 e1' e2; unfold wrap64; omega
      rw [Nat.zero_mul, Nat.add_zero] at z1 z2
      have g1 : wr.cell? ⟨bo, o + j * 3, none⟩ = some (.int .i64 x) := by rw [hb.cell (p := ⟨_, _, none⟩) hbl]; exact o1
      have g2 : wr.cell? ⟨bo, o + j * 3 + 1, none⟩ = some (.int .i64 y) := by rw [hb.cell (p := ⟨_, _, none⟩) hbl]; exact o2
      have g3 : wr.cell? ⟨bo, o + j * 3 + 2, none⟩ = some (.int .i64 s) := by rw [hb.cell (p := ⟨_, _, none⟩) hbl]; exact o3
      have g4 : wr.cell? ⟨bo, o, none⟩ = some (.int .i64 x0) := by rw [hb.cell (p := ⟨_, _, none⟩) hbl]; exact z1
      have g5 : wr.cell? ⟨bo, o + 1, none⟩ = some (.int .i64 y0) := by rw [hb.cell (p := ⟨_, _, none⟩) hbl]; exact z2
      have i0 : (0 : Int) ≤ (j : Int) := by omega
      have i1 : (j : Int) < (n : Int) := by omega
      have i2 : (0 : Int) < (n : Int) := by omega
      have i3 : 0 < n := by omega
      have i4 : decide (0 < n) = true := decide_eq_true i3
      clear hp1 hp0 hh hu1 hu2 o1 o2 o3 z1 z2 hx hx0
      go_wp2_with fail
      (go_region_held3 (fun w' => w'.cell? ⟨bo, o + j * 3, none⟩ = some (.int .i64 x) ∧ w'.cell? ⟨bo, o + j * 3 + 1, none⟩ = some (.int .i64 y) ∧ w'.cell? ⟨bo, o + j * 3 + 2, none⟩ = some (.int .i64 s) ∧ w'.cell? ⟨bo, o, none⟩ = some (.int .i64 x0) ∧ w'.cell? ⟨bo, o + 1, none⟩ = some (.int .i64 y0)) (first | go_keep | (go_split_ands; refine ⟨?_, ?_, ?_, ?_, ?_⟩ <;> first | go_keep | (rw [hb4.cell (p := ⟨_, _, none⟩) (by first | omega | (simp; done) | (simp; omega))]; go_keep))) ((refine step_append_el (by rfl) (.tmp 11) (.tmp 38) 36 (by rfl) encC 3 49 (.agg #[.int .i64 0, .int .i64 0, .int .i64 0]) 24 Tryz.underlying36 (by kernel_rfl) rfl (by decide) encC_len encC_one (w.heap.size) _ _ _ _ (by rfl) (hown.drew.alloc _) (u1, u2, s) ⟨(wr.drew).heap.size, 0, none⟩ 1 (by rfl) (cells_new (wr.drew) _ _) (by omega) (by omega) (by first | omega | (simp; done) | (simp; omega)) ?_; intro A4 c4 w4 hown4 hg4 hb4)))
      (try go_split_ands)
      go_wp2_with fail
      go_roundw
      case rel => exact ⟨A4, c4, j + 1, rfl, by go_num, by omega, by rw [hst.out]; exact hown4, below_after hb4 ((hb.drew).alloc (by simpa using hs) _) (Nat.le_refl _)⟩
      case measure => simp [intOf]; omega
    · obtain rfl : j = n := by omega
      have dj : decide ((j : Int) < j) = false := decide_eq_false (by omega)
      have dj' : decide (j < j) = false := decide_eq_false (by omega)
      rw [List.take_of_length_le (by rw [hRl.out]; exact Nat.le_refl _)] at hown
      go_wp2_with fail
      go_ret
      exact ⟨E, d, rfl, hown.rd encC_len, hb⟩
section
variable (st : Int) (A B D : Option Addr) (n c m d k e : Nat) (Hd : List (Int × Int)) (N : List (Int × List Int)) (p : List (Int × Int × Int)) (w : World)
set_option maxHeartbeats 16000000 in
theorem ref34_Find (hH : Rd encP 2 w A n Hd) (hN : RdX ekN w B m N) (hP : Rd encC 3 w D k p) (hke : k ≤ e) (hf : FitsR st Hd N p) (h0 : p ≠ []) :
    Calls Tryz.prog 24 #[.agg #[.int .i64 st, .slice A n c, .slice B m d], .slice D k e, .int .i64 6] w fun e w' => ∃ (er : Int) (has : Bool) (X Y Z : Int), e = .returned (.tuple #[.agg #[.int .i64 X, .int .i64 Y, .int .i64 Z], .bool has, .int .i64 er]) ∧ Fnd Hd N p er has X Y Z ∧ Below w.heap.size w w' := by
  have hk5 : k ≤ 5000 := by rw [← hP.len]; exact (rightC_ok hf.pat).1
  have hk0 : 0 < k := by
    rw [← hP.len]
    cases p with
    | nil => exact absurd rfl h0
    | cons x l => simp
  have kR := fun w1 h1 h2 h3 => ref20_Run st A B D n c m d k e Hd N p w1 0 h1 h2 h3 (by omega) hke
  rw [run_none, fit_iff.2 hf] at kR
  have hF := Lib.hid hf
  have t0 : ((k : Int) == 0) = false := by simp; omega
  have t0' : (k == 0) = false := by simp; omega
  obtain ⟨x0, y0, s0, bp, op, hx0, rfl, hbp, z1, z2, _⟩ := hP.cell hk0
  have hh0 := Lib.hid (hd_at hx0.out)
  have hp0 := (okCells_right hf.pat _ (List.mem_of_getElem? hx0.out)).1
  unfold Pt at hp0
  simp only at hp0
  rw [Nat.zero_mul, Nat.add_zero] at z1 z2
  clear hf h0 hx0
  go_enter Tryz.func24, Tryz.ntmps24
  go_wp2_with fail
  have hbt := (TrAt.new w (.int .i64 st) (.slice A n c) (.slice B m d) 25).of ((Below.refl _ _).alloc (Nat.le_refl _) (.cells #[.int .i64 0, .int .i64 0, .int .i64 0] 51))
  have hmo := SvAt.new (w.alloc (.cells #[.int .i64 st, .slice A n c, .slice B m d] 25)) #[.int .i64 0, .int .i64 0, .int .i64 0] 51
  have hfz : ∀ i, ((w.alloc (.cells #[.int .i64 st, .slice A n c, .slice B m d] 25)).alloc (.cells #[.int .i64 0, .int .i64 0, .int .i64 0] 51)).frozen? ⟨w.heap.size + 1, i, none⟩ = false := fun i => by simp [frozen_alloc_if]
  have hB : Below w.heap.size w ((w.alloc (.cells #[.int .i64 st, .slice A n c, .slice B m d] 25)).alloc (.cells #[.int .i64 0, .int .i64 0, .int .i64 0] 51)) := by (repeat' (first | exact Below.refl _ _ | assumption | (refine Below.alloc ?_ ?_ _) | (refine Below.setCell ?_ ?_ _) | (refine Below.drew ?_) | (refine below_drewN ?_ _) | (refine below_after (Ext.below _) ?_ ?_) | (refine below_after (by assumption) ?_ ?_) | (simp; done) | omega | (simp; omega)))
  rw [World.size_alloc] at hmo
  obtain ⟨we, hwe⟩ : ∃ we, we = (w.alloc (.cells #[.int .i64 st, .slice A n c, .slice B m d] 25)).alloc (.cells #[.int .i64 0, .int .i64 0, .int .i64 0] 51) := ⟨_, rfl⟩
  have hsw : we.heap.size = w.heap.size + 2 := by rw [hwe]; simp
  rw [← hwe] at hbt hmo hfz hB ⊢
  clear hwe
  have g1 : we.cell? ⟨bp, op, none⟩ = some (.int .i64 x0) := by rw [hB.cell (p := ⟨_, _, none⟩) hbp]; exact z1
  have g2 : we.cell? ⟨bp, op + 1, none⟩ = some (.int .i64 y0) := by rw [hB.cell (p := ⟨_, _, none⟩) hbp]; exact z2
  have hbp' : bp < we.heap.size := by omega
  clear z1 z2 hbp
  replace hH := hH.of hB
  replace hN := hN.of hB
  replace hP := hP.of hB
  replace hfz := Lib.hid hfz
  go_at_call 37
  refine (kR _ hH hN hP).mono ?_
  rintro e1 w1 ⟨A1, n1, c1, rfl, _, _, hb1⟩
  have hs1 := hb1.size
  go_wp2_with fail
  go_loopw [11, 12] (fun v t wr => ∃ (E : Option Addr) (q g j : Nat) (pj : List (Int × Int × Int)), v = .slice E q g ∧ t = .int .i64 j ∧ 1 ≤ j ∧ j ≤ 7 ∧ q ≤ g ∧ Hid (itS Hd N p (j - 1) = (0, pj)) ∧ Rd encC 3 wr E q pj ∧ Hid (∀ i, 1 ≤ i → i < j → ¬ trn34 Hd N p i) ∧ Below we.heap.size we wr) (fun _ t _ => 7 - (intOf t).toNat)
  case atStart => exact ⟨some ⟨bp, op, none⟩, k, e, 1, p, rfl, rfl, by omega, by omega, hke, Lib.hid rfl, hP.of hb1, Lib.hid (fun i h1 h2 => absurd h1 (by omega)), hb1⟩
  case round =>
    clear hb1 hs1
    obtain ⟨E, q, g, j, pj, rfl, rfl, hj1, hj7, hqg, hit, hRj, hno, hb⟩ := hrel
    have hsz := hb.size
    by_cases hlj : j ≤ 6
    · have dj : decide ((j : Int) ≤ 6) = true := decide_eq_true (by omega)
      have dj' : decide (j ≤ 6) = true := decide_eq_true hlj
      have hfj : FitsR st Hd N pj := by have := it_fits hF.out (j - 1); rw [hit.out] at this; exact this
      have hnx := Lib.hid (show itS Hd N p j = (stE Hd N pj, stL Hd N pj) by
        have := it_step (H := Hd) (N := N) (p := p) (k := j - 1) (by rw [hit.out])
        rw [hit.out, show j - 1 + 1 = j by omega] at this
        exact this)
      have kS := ref20_StepF st A B E n c m d q g Hd N pj wr (hH.of hb) (hN.of hb) hRj hfj
      have hfn := (st_fits hfj).pat
      have ⟨_, t1, t2, t3⟩ := (hbt.of hb).open
      generalize stE Hd N pj = qe at kS hnx
      generalize stL Hd N pj = ql at kS hnx hfn
      go_wp2_with fail
      go_at_call 46
      refine kS.mono ?_
      rintro e2 w2 ⟨A2, n2, c2, rfl, hX, hb2⟩
      have hs2 := hb2.size
      have hB2 : Below we.heap.size we w2 := hb.trans (hb2.mono hsz)
      have m0 : w2.cell? ⟨w.heap.size + 1, 0, none⟩ = some (.int .i64 0) := (hmo.of hB2).2 0
      have m1 : w2.cell? ⟨w.heap.size + 1, 1, none⟩ = some (.int .i64 0) := (hmo.of hB2).2 1
      have m2 : w2.cell? ⟨w.heap.size + 1, 2, none⟩ = some (.int .i64 0) := (hmo.of hB2).2 2
      have f0 : w2.frozen? ⟨w.heap.size + 1, 0, none⟩ = false := by rw [hB2.frozen (p := ⟨_, _, none⟩) (by show w.heap.size + 1 < _; omega)]; exact hfz.out 0
      have f1 : w2.frozen? ⟨w.heap.size + 1, 1, none⟩ = false := by rw [hB2.frozen (p := ⟨_, _, none⟩) (by show w.heap.size + 1 < _; omega)]; exact hfz.out 1
      have f2 : w2.frozen? ⟨w.heap.size + 1, 2, none⟩ = false := by rw [hB2.frozen (p := ⟨_, _, none⟩) (by show w.heap.size + 1 < _; omega)]; exact hfz.out 2
      have hbm : w.heap.size + 1 < w2.heap.size := by omega
      by_cases he : qe = 0
      · subst he
        have hnx1 := Lib.hid (show itS Hd N p (j + 1 - 1) = (0, ql) by rw [show j + 1 - 1 = j by omega, hnx.out])
        by_cases hq0 : n2 = 0
        · subst hq0
          have hl0 : ql = [] := List.length_eq_zero_iff.1 hX.rd.len
          have hno2 := Lib.hid (show ∀ i, 1 ≤ i → i < j + 1 → ¬ trn34 Hd N p i from fun i h1 h2 => by
            by_cases e : i = j
            · subst e; intro h; exact h.1 (by rw [hnx.out]; exact hl0)
            · exact hno.out i h1 (by omega))
          clear hl0
          go_wp2_with fail
          go_roundw
          case rel => exact ⟨A2, 0, c2, j + 1, ql, rfl, by go_num, by omega, by omega, hX.cap, hnx1, hX.rd, hno2, hB2⟩
          case measure => simp [intOf]; omega
        · have r0 : decide ((0 : Int) < (n2 : Int)) = true := decide_eq_true (by omega)
          have r0' : decide (0 < n2) = true := decide_eq_true (by omega)
          have hn25 : n2 ≤ 5000 := by rw [← hX.rd.len]; exact (rightC_ok hfn).1
          have kH := ref34_home A2 n2 c2 ql w2 hX.rd hfn
          have kP := fun w9 h9 => ref34_home (some ⟨bp, op, none⟩) k e p w9 h9 hF.out.pat
          have kC := fun A9 c9 A8 c8 w9 h9 h8 => ref05_Same A9 A8 n2 k c9 c8 (h34 ql) (h34 p) w9 h9 h8 (by omega) (by omega)
          have hP2 := hP.of hB2
          obtain ⟨x1, y1, s1, bq, oq, hx1, hAq, hbq, a1, a2, _⟩ := hX.rd.cell (show 0 < n2 by omega)
          subst hAq
          have hh1 := Lib.hid (hd_at hx1.out)
          have hp1 := (okCells_right hfn _ (List.mem_of_getElem? hx1.out)).1
          unfold Pt at hp1
          simp only at hp1
          rw [Nat.zero_mul, Nat.add_zero] at a1 a2
          have hqne : ql ≠ [] := fun e => by have := hX.rd.len; rw [e] at this; simp at this; omega
          replace hqne := Lib.hid hqne
          by_cases hsm : h34 ql = h34 p
          · have hs1 : sameL (h34 ql) (h34 p) = true := by unfold sameL; exact decide_eq_true hsm
            rw [hs1] at kC
            replace hsm := Lib.hid hsm
            clear hs1 hx1
            obtain ⟨v1, hv1⟩ : ∃ v, x1 - x0 = v := ⟨_, rfl⟩
            obtain ⟨v2, hv2⟩ : ∃ v, y1 - y0 = v := ⟨_, rfl⟩
            go_wp2_with fail
            go_at_call 47
            refine kH.mono ?_
            rintro e7 w7 ⟨A7, c7, rfl, hR7, hb7⟩
            have hs7 := hb7.size
            go_wp2_with fail
            go_at_call 47
            refine (kP _ (hP2.of hb7)).mono ?_
            rintro e8 w8 ⟨A8, c8, rfl, hR8, hb8⟩
            have hs8 := hb8.size
            go_wp2_with fail
            go_at_call 17
            refine (kC _ _ _ _ _ (hR7.of hb8) hR8).mono ?_
            rintro e9 w9 ⟨rfl, hb9⟩
            have hs9 := hb9.size
            have hfw : Below w2.heap.size w2 w9 := (hb7.trans (hb8.mono hs7)).trans (hb9.mono (by omega))
            have hB9 : Below we.heap.size we w9 := hB2.trans (hfw.mono (by omega))
            have m0' : w9.cell? ⟨w.heap.size + 1, 0, none⟩ = some (.int .i64 0) := (hmo.of hB9).2 0
            have m1' : w9.cell? ⟨w.heap.size + 1, 1, none⟩ = some (.int .i64 0) := (hmo.of hB9).2 1
            have m2' : w9.cell? ⟨w.heap.size + 1, 2, none⟩ = some (.int .i64 0) := (hmo.of hB9).2 2
            have f0' : w9.frozen? ⟨w.heap.size + 1, 0, none⟩ = false := by rw [hB9.frozen (p := ⟨_, _, none⟩) (by show w.heap.size + 1 < _; omega)]; exact hfz.out 0
            have f1' : w9.frozen? ⟨w.heap.size + 1, 1, none⟩ = false := by rw [hB9.frozen (p := ⟨_, _, none⟩) (by show w.heap.size + 1 < _; omega)]; exact hfz.out 1
            have f2' : w9.frozen? ⟨w.heap.size + 1, 2, none⟩ = false := by rw [hB9.frozen (p := ⟨_, _, none⟩) (by show w.heap.size + 1 < _; omega)]; exact hfz.out 2
            have b1 : w9.cell? ⟨bq, oq, none⟩ = some (.int .i64 x1) := by rw [hfw.cell (p := ⟨_, _, none⟩) hbq]; exact a1
            have b2 : w9.cell? ⟨bq, oq + 1, none⟩ = some (.int .i64 y1) := by rw [hfw.cell (p := ⟨_, _, none⟩) hbq]; exact a2
            have c1' : w9.cell? ⟨bp, op, none⟩ = some (.int .i64 x0) := by rw [hB9.cell (p := ⟨_, _, none⟩) hbp']; exact g1
            have c2' : w9.cell? ⟨bp, op + 1, none⟩ = some (.int .i64 y0) := by rw [hB9.cell (p := ⟨_, _, none⟩) hbp']; exact g2
            have hbm' : w.heap.size + 1 < w9.heap.size := by omega
            have hbq' : bq < w9.heap.size := by omega
            have hbp9 : bp < w9.heap.size := by omega
            have i2 : (0 : Int) < (n2 : Int) := by omega
            have i3 : 0 < n2 := by omega
            have i4 : (0 : Int) < (k : Int) := by omega
            have u1 : IntKind.i64.wrap (x1 - x0) = v1 := by rw [IntWalk.i64_in _ (by omega)]; exact hv1
            have u1' : wrap64 (x1 - x0) = v1 := by clear u1; unfold wrap64; omega
            have u2 : IntKind.i64.wrap (y1 - y0) = v2 := by clear u1 u1'; rw [IntWalk.i64_in _ (by omega)]; exact hv2
            have u2' : wrap64 (y1 - y0) = v2 := by clear u1 u1' u2; unfold wrap64; omega
            clear m0 m1 m2 f0 f1 f2 a1 a2 hp1
            replace hv1 := Lib.hid hv1
            replace hv2 := Lib.hid hv2
            go_wp2_with fail
            go_still_tail 20, (by kernel_rfl)
            go_wp2_with fail
            refine bodyPost_ret (v := .tuple #[.agg #[.int .i64 (j : Int), .int .i64 v1, .int .i64 v2], .bool true, .int .i64 0]) (by simp [results, Tryz.results24, go_sem, *, ↓IntWalk.iteOmega]) rfl ?_
            refine ⟨0, true, (j : Int), v1, v2, rfl, .inr (.inl ⟨rfl, rfl, j, hj1, hlj, by rw [hnx.out], ⟨by rw [hnx.out]; exact hqne.out, by rw [hnx.out]; exact hsm.out⟩, hno.out, rfl, ?_, ?_⟩), by (repeat' (first | exact Below.refl _ _ | assumption | (refine Below.alloc ?_ ?_ _) | (refine Below.setCell ?_ ?_ _) | (refine Below.drew ?_) | (refine below_drewN ?_ _) | (refine below_after (Ext.below _) ?_ ?_) | (refine below_after (by assumption) ?_ ?_) | (simp; done) | omega | (simp; omega)))⟩
            · rw [hnx.out, hh0.out]; simp only; rw [hh1.out]; exact hv1.out.symm
            · rw [hnx.out, hh0.out]; simp only; rw [hh1.out]; exact hv2.out.symm
          · have hs1 : sameL (h34 ql) (h34 p) = false := by unfold sameL; exact decide_eq_false hsm
            rw [hs1] at kC
            have hno2 := Lib.hid (show ∀ i, 1 ≤ i → i < j + 1 → ¬ trn34 Hd N p i from fun i h1 h2 => by
              by_cases e : i = j
              · subst e; intro h; apply hsm; have := h.2; rw [hnx.out] at this; exact this
              · exact hno.out i h1 (by omega))
            clear hs1 hsm hx1 a1 a2 hp1
            go_wp2_with fail
            go_at_call 47
            refine kH.mono ?_
            rintro e7 w7 ⟨A7, c7, rfl, hR7, hb7⟩
            have hs7 := hb7.size
            go_wp2_with fail
            go_at_call 47
            refine (kP _ (hP2.of hb7)).mono ?_
            rintro e8 w8 ⟨A8, c8, rfl, hR8, hb8⟩
            have hs8 := hb8.size
            go_wp2_with fail
            go_at_call 17
            refine (kC _ _ _ _ _ (hR7.of hb8) hR8).mono ?_
            rintro e9 w9 ⟨rfl, hb9⟩
            have hs9 := hb9.size
            have hfw : Below w2.heap.size w2 w9 := (hb7.trans (hb8.mono hs7)).trans (hb9.mono (by omega))
            have hB9 : Below we.heap.size we w9 := hB2.trans (hfw.mono (by omega))
            go_wp2_with fail
            go_roundw
            case rel => exact ⟨_, n2, c2, j + 1, ql, rfl, by go_num, by omega, by omega, hX.cap, hnx1, hX.rd.of hfw, hno2, hB9⟩
            case measure => simp [intOf]; omega
      · have r0 : (qe != 0) = true := by simpa using he
        go_wp2_with fail
        refine bodyPost_ret (v := .tuple #[.agg #[.int .i64 0, .int .i64 0, .int .i64 0], .bool false, .int .i64 qe]) (by simp [results, Tryz.results24, go_sem, *, ↓IntWalk.iteOmega]) rfl ?_
        exact ⟨qe, false, 0, 0, 0, rfl, .inl he, by (repeat' (first | exact Below.refl _ _ | assumption | (refine Below.alloc ?_ ?_ _) | (refine Below.setCell ?_ ?_ _) | (refine Below.drew ?_) | (refine below_drewN ?_ _) | (refine below_after (Ext.below _) ?_ ?_) | (refine below_after (by assumption) ?_ ?_) | (simp; done) | omega | (simp; omega)))⟩
    · obtain rfl : j = 7 := by omega
      have ⟨_, t1, t2, t3⟩ := (hbt.of hb).open
      have m0 : wr.cell? ⟨w.heap.size + 1, 0, none⟩ = some (.int .i64 0) := (hmo.of hb).2 0
      have m1 : wr.cell? ⟨w.heap.size + 1, 1, none⟩ = some (.int .i64 0) := (hmo.of hb).2 1
      have m2 : wr.cell? ⟨w.heap.size + 1, 2, none⟩ = some (.int .i64 0) := (hmo.of hb).2 2
      have f0 : wr.frozen? ⟨w.heap.size + 1, 0, none⟩ = false := by rw [hb.frozen (p := ⟨_, _, none⟩) (by show w.heap.size + 1 < _; omega)]; exact hfz.out 0
      have f1 : wr.frozen? ⟨w.heap.size + 1, 1, none⟩ = false := by rw [hb.frozen (p := ⟨_, _, none⟩) (by show w.heap.size + 1 < _; omega)]; exact hfz.out 1
      have f2 : wr.frozen? ⟨w.heap.size + 1, 2, none⟩ = false := by rw [hb.frozen (p := ⟨_, _, none⟩) (by show w.heap.size + 1 < _; omega)]; exact hfz.out 2
      have hbm : w.heap.size + 1 < wr.heap.size := by omega
      go_wp2_with fail
      refine bodyPost_ret (v := .tuple #[.agg #[.int .i64 0, .int .i64 0, .int .i64 0], .bool false, .int .i64 0]) (by simp [results, Tryz.results24, go_sem, *, ↓IntWalk.iteOmega]) rfl ?_
      exact ⟨0, false, 0, 0, 0, rfl, .inr (.inr ⟨rfl, rfl, fun i h1 h2 => hno.out i h1 (by omega)⟩), by (repeat' (first | exact Below.refl _ _ | assumption | (refine Below.alloc ?_ ?_ _) | (refine Below.setCell ?_ ?_ _) | (refine Below.drew ?_) | (refine below_drewN ?_ _) | (refine below_after (Ext.below _) ?_ ?_) | (refine below_after (by assumption) ?_ ?_) | (simp; done) | omega | (simp; omega)))⟩
end
end Go.Proofs.YtnhapgbjaeaamaaGreatDoor
