/- snapshot's reader: the closure of list, at cells. By mksnpd.py. snapshot's reader: list, cells. By mksnph.py. snapshot's reader: close, for any closure; TakePattern. -/
import Derived.Test.YtmenokhnanghgaaGreatSnpB
import Derived.Test.YtmenokhnanghgaaGreatSND
import Derived.Deep.CutRange
import Derived.Test.YtmenokhnanghgaaGreatCEL
set_option linter.unusedSimpArgs false
set_option linter.unusedVariables false
section
namespace Go.Proofs.YtmenokhnanghgaaGreat
open Go Go.RowKit
set_option maxRecDepth 100000
set_option maxHeartbeats 16000000 in
theorem snp_rlist1C (B1 : Nat) (w0 : World) (br bi bo bc b2 bt bp : Nat) (lst : List Cel) (x y : Int) (OA : Option Addr) (on oc : Nat) (A : Option Addr) (n c : Nat) (l : List Int) (s : RS) (i : Nat) (w : World)
    (hB : LsB w0.heap.size B1 br bi bo bc b2 bt bp) (hA : 0 < n → ∀ b o, A = some ⟨b, o, none⟩ → b < w0.heap.size) (hP : LsP encC 3 63 B1 w0 br bi bo bc b2 bt bp (.func (.func 90) #[] #[.pointer (some ⟨bo, 0, none⟩), .pointer (some ⟨bc, 0, none⟩)]) lst x y OA on oc w) (hS : RdS w br bi A n c l s) (hon : on ≤ 1000000) (hv : validB x y = true) :
    Calls Tryz.prog 114 #[.int .i64 (i : Int), .pointer (some ⟨b2, 0, none⟩), .pointer (some ⟨bp, 0, none⟩), .pointer (some ⟨bt, 0, none⟩)] w fun e w' => e = void ∧ ∃ OA' on' oc', LsP encC 3 63 B1 w0 br bi bo bc b2 bt bp (.func (.func 90) #[] #[.pointer (some ⟨bo, 0, none⟩), .pointer (some ⟨bc, 0, none⟩)]) (rndP (unB l) (tkC (unB l)) i (lst, x, y) s).1.1 (rndP (unB l) (tkC (unB l)) i (lst, x, y) s).1.2.1 (rndP (unB l) (tkC (unB l)) i (lst, x, y) s).1.2.2 OA' on' oc' w' ∧ RdS w' br bi A n c l (rndP (unB l) (tkC (unB l)) i (lst, x, y) s).2 := by
  have hxy : (-1048576 ≤ x ∧ x ≤ 1048576) ∧ -1048576 ≤ y ∧ y ≤ 1048576 := by
    unfold validB at hv; rw [decide_eq_true_eq] at hv; omega
  obtain ⟨Z, hZ⟩ : ∃ Z, Z = plcX (unB l) (i == 0) x y s := ⟨_, rfl⟩
  have hpl := plc_X (unB l) (i == 0) x y s
  rw [← hZ] at hpl
  have hr : rndP (unB l) (tkC (unB l)) i (lst, x, y) s = ((lst ++ [(tkC (unB l) (chkR Z.1.1 Z.1.2 Z.2).1.1 (chkR Z.1.1 Z.1.2 Z.2).1.2 (chkR Z.1.1 Z.1.2 Z.2).2).1], (chkR Z.1.1 Z.1.2 Z.2).1), (tkC (unB l) (chkR Z.1.1 Z.1.2 Z.2).1.1 (chkR Z.1.1 Z.1.2 Z.2).1.2 (chkR Z.1.1 Z.1.2 Z.2).2).2) := by
    unfold rndP
    simp only [hpl]
  rw [hr]
  clear hr hpl hv
  obtain ⟨⟨X, Y⟩, S⟩ := Z
  simp only
  replace hZ := Lib.hid hZ
  have ne1 := hB.dp
  have ne2 := hB.tp
  have hBh := Lib.hid hB
  have hAh := Lib.hid hA
  go_enter Tryz.func114, Tryz.ntmps114
  go_upto_if 7 with (fail)
  go_cut [] from 5 to 32 (fun wx => LsP encC 3 63 B1 w0 br bi bo bc b2 bt bp (.func (.func 90) #[] #[.pointer (some ⟨bo, 0, none⟩), .pointer (some ⟨bc, 0, none⟩)]) lst X Y OA on oc wx ∧ RdS wx br bi A n c l S)
  case first =>
    by_cases hi : i = 0
    · subst hi
      have hZ0 := hZ.out
      unfold plcX at hZ0
      rw [if_pos (by rfl)] at hZ0
      injection hZ0 with hZ1 hZ2
      injection hZ1 with hZ3 hZ4
      obtain ⟨_, d0, -⟩ := hP.d.open1
      obtain ⟨_, p0, p1, q0, q1⟩ := hP.p.open2
      have k1 := snp_signed br bi A n c l s w hS
      rw [← hZ3] at k1
      replace hZ4 := Lib.hid hZ4
      replace hZ2 := Lib.hid hZ2
      clear hZ3
      go_upto_region 2 with (go_at_call 115; refine k1.mono ?_; rintro e w1 ⟨rfl, hS1, hf1⟩; have hP1 := hP.read hB hf1; obtain ⟨_, d1, -⟩ := hP1.d.open1; obtain ⟨_, p10, p11, q10, q11⟩ := hP1.p.open2)
      obtain ⟨w2, hw2⟩ : ∃ w2, w2 = w1.setCell ⟨bp, 0, none⟩ (.int .i64 X) := ⟨_, rfl⟩
      have hP2 := hP1.put hB 0 (.int .i64 X) (x' := X) (y' := y) rfl (by omega)
      have hS2 := hS1.putP hB hA 0 (.int .i64 X)
      rw [← hw2] at hP2 hS2 ⊢
      clear hw2 k1 hP hS hP1 hS1 hf1 d0 p0 p1 q0 q1 d1 p10 p11 q10 q11
      obtain ⟨_, d0, -⟩ := hP2.d.open1
      obtain ⟨_, p0, p1, q0, q1⟩ := hP2.p.open2
      have k2 := snp_signed br bi A n c l _ w2 hS2
      rw [← hZ4.out, ← hZ2.out] at k2
      go_wp2_with (go_at_call 115; refine k2.mono ?_; rintro e w3 ⟨rfl, hS3, hf3⟩; have hP3 := hP2.read hB hf3; obtain ⟨_, d1, -⟩ := hP3.d.open1; obtain ⟨_, p10, p11, q10, q11⟩ := hP3.p.open2)
      go_meet
      exact ⟨hP3.put hB 1 (.int .i64 Y) (x' := X) (y' := Y) rfl (by omega), hS3.putP hB hA 1 _⟩
    · have d00 : ((i : Int) == 0) = false := by simp; omega
      have d01 : decide ((i : Int) = 0) = false := decide_eq_false (by omega)
      have hZ0 := hZ.out
      unfold plcX at hZ0
      rw [if_neg (by simpa using hi)] at hZ0
      obtain ⟨_, d0, -⟩ := hP.d.open1
      obtain ⟨_, p0, p1, q0, q1⟩ := hP.p.open2
      have k1 := snp_gamma br bi A n c l s w hS
      have hnn := gamR_nn (bs := unB l) (s := s)
      generalize gamR (unB l) s = g at k1 hnn hZ0
      obtain ⟨d, s1⟩ := g
      simp only at k1 hnn hZ0
      clear hi
      by_cases hd : d = 0
      · rw [if_pos hd] at hZ0
        subst hd
        injection hZ0 with hZ1 hZ2
        injection hZ1 with hZ3 hZ4
        subst hZ4
        have hnn2 := gamR_nn (bs := unB l) (s := s1)
        have k2 := fun w1 h1 => snp_gamma br bi A n c l s1 w1 h1
        rw [← hZ2] at k2
        generalize (gamR (unB l) s1).1 = g2 at k2 hnn2 hZ3
        have hg1 : addF x g2 = x + min g2 4194304 := rfl
        have k3 := fun w1 => snp_add w1 x g2 (by omega) (by omega)
        have k4 := fun w1 => snp_add w1 (addF x g2) 1 (by rw [hg1]; omega) (by omega)
        rw [← hZ3] at k4
        generalize addF x g2 = xg at k3 k4
        clear hg1 hZ2 hZ3
        go_upto_region 5 with (go_at_call 59; refine k1.mono ?_; rintro e w1 ⟨rfl, hS1, hf1⟩; have hP1 := hP.read hB hf1; obtain ⟨_, d1, -⟩ := hP1.d.open1; obtain ⟨_, p10, p11, q10, q11⟩ := hP1.p.open2)
        clear k1 hP hS hf1 d0 p0 p1 q0 q1
        have k2' : Calls Tryz.prog 59 #[.pointer (some ⟨br, 0, none⟩)] w1.drew fun e w3 => e = .returned (.int .i64 g2) ∧ Hid (LsP encC 3 63 B1 w0 br bi bo bc b2 bt bp (.func (.func 90) #[] #[.pointer (some ⟨bo, 0, none⟩), .pointer (some ⟨bc, 0, none⟩)]) lst x Y OA on oc w3 ∧ RdS w3 br bi A n c l S) ∧ bp < w3.heap.size ∧ w3.cell? ⟨bp, 0, none⟩ = some (.int .i64 x) ∧ w3.frozen? ⟨bp, 0, none⟩ = false := by
          refine (k2 _ (hS1.of (Below.refl _ _).drew)).mono ?_
          rintro e w3 ⟨rfl, hS3, hf3⟩
          have hP3 := (hP1.of (Below.refl _ _).drew).read hB hf3
          obtain ⟨h1, h2, _, h3, _⟩ := hP3.p.open2
          exact ⟨rfl, Lib.hid ⟨hP3, hS3⟩, h1, h2, h3⟩
        have kfin : ∀ w3 w4 w5 : World, Hid (LsP encC 3 63 B1 w0 br bi bo bc b2 bt bp (.func (.func 90) #[] #[.pointer (some ⟨bo, 0, none⟩), .pointer (some ⟨bc, 0, none⟩)]) lst x Y OA on oc w3 ∧ RdS w3 br bi A n c l S) → Below w3.heap.size w3 w4 → Below w4.heap.size w4 w5 → Hid (LsP encC 3 63 B1 w0 br bi bo bc b2 bt bp (.func (.func 90) #[] #[.pointer (some ⟨bo, 0, none⟩), .pointer (some ⟨bc, 0, none⟩)]) lst X Y OA on oc (w5.setCell ⟨bp, 0, none⟩ (.int .i64 X)) ∧ RdS (w5.setCell ⟨bp, 0, none⟩ (.int .i64 X)) br bi A n c l S) := by
          intro w3 w4 w5 h h34 h45
          exact Lib.hid ⟨((h.out.1.of h34).of h45).put hB 0 (.int .i64 X) (x' := X) (y' := Y) rfl (by omega), ((h.out.2.of h34).of h45).putP hB hA 0 _⟩
        clear hP1 hS1 k2
        go_region_law
          (first
          | (go_simp; go_at_call 59; refine k2'.mono ?_; rintro e w3 ⟨rfl, hw3, hz3, p30, q30⟩)
          | (go_simp; go_at_call 116; refine (k3 _).mono ?_; rintro e w4 ⟨rfl, hb4⟩; have p40 := (hb4.cell (p := ⟨bp, 0, none⟩) hz3).trans p30; have q40 := (hb4.frozen (p := ⟨bp, 0, none⟩) hz3).trans q30; have hz4 := Nat.lt_of_lt_of_le hz3 hb4.size)
          | (go_simp; go_at_call 116; refine (k4 _).mono ?_; rintro e w5 ⟨rfl, hb5⟩; have p50 := (hb5.cell (p := ⟨bp, 0, none⟩) hz4).trans p40; have q50 := (hb5.frozen (p := ⟨bp, 0, none⟩) hz4).trans q40))
        all_goals
          go_wp2_with fail
          go_meet
          exact (kfin w3 w4 w5 hw3 hb4 hb5).out
      · have dd0 : (d == 0) = false := by simpa using hd
        have dd1 : decide (d = 0) = false := decide_eq_false hd
        rw [if_neg hd] at hZ0
        injection hZ0 with hZ1 hZ2
        injection hZ1 with hZ3 hZ4
        have k3 := fun w1 => snp_add w1 y d (by omega) (by omega)
        rw [← hZ4] at k3
        replace hZ3 := Lib.hid hZ3
        replace hZ2 := Lib.hid hZ2
        clear hd hZ4
        go_upto_region 7 with (first | (go_at_call 59; refine k1.mono ?_; rintro e w1 ⟨rfl, hS1, hf1⟩; have hP1 := hP.read hB hf1; obtain ⟨_, d1, -⟩ := hP1.d.open1; obtain ⟨_, p10, p11, q10, q11⟩ := hP1.p.open2) | (go_at_call 116; refine (k3 _).mono ?_; rintro e w4 ⟨rfl, hb4⟩; have hP4 := hP1.of hb4; have hS4 := hS1.of hb4; obtain ⟨_, p40, p41, q40, q41⟩ := hP4.p.open2))
        obtain ⟨w2, hw2⟩ : ∃ w2, w2 = w4.setCell ⟨bp, 1, none⟩ (.int .i64 Y) := ⟨_, rfl⟩
        have hP2 := hP4.put hB 1 (.int .i64 Y) (x' := x) (y' := Y) rfl (by omega)
        have hS2 := hS4.putP hB hA 1 (.int .i64 Y)
        rw [← hw2] at hP2 hS2 ⊢
        clear hw2 k1 hP hS hP1 hS1 hf1 d0 p0 p1 q0 q1 d1 p10 p11 q10 q11 hP4 hS4 p40 p41 q40 q41 hb4 k3
        obtain ⟨_, d0, -⟩ := hP2.d.open1
        obtain ⟨_, p0, p1, q0, q1⟩ := hP2.p.open2
        have k2 := snp_signed br bi A n c l _ w2 hS2
        rw [← hZ3.out, ← hZ2.out] at k2
        go_wp2_with (go_at_call 115; refine k2.mono ?_; rintro e w3 ⟨rfl, hS3, hf3⟩; have hP3 := hP2.read hB hf3; obtain ⟨_, d1, -⟩ := hP3.d.open1; obtain ⟨_, p10, p11, q10, q11⟩ := hP3.p.open2)
        go_meet
        exact ⟨hP3.put hB 0 (.int .i64 X) (x' := X) (y' := Y) rfl (by omega), hS3.putP hB hA 0 _⟩
  case rest =>
    clear hP hS hZ
    obtain ⟨hP, hS⟩ := hcut
    obtain ⟨p, er⟩ := S
    obtain ⟨_, d0, -⟩ := hP.d.open1
    obtain ⟨_, t0, -⟩ := hP.t.open1
    obtain ⟨_, p0, p1, q0, q1⟩ := hP.p.open2
    obtain ⟨_, b0, b1, f0, f1⟩ := hS.box.open2
    simp only at b1
    by_cases he : er = 0
    · subst he
      cases hval : validB X Y with
      | true =>
        obtain ⟨v1, v2⟩ := valid_ok hval
        have hc : chkR X Y (p, 0) = ((X, Y), (p, 0)) := by unfold chkR; rw [if_neg (by rw [hval]; simp)]
        replace hc := Lib.hid hc
        have kC := snp_rcells1 B1 w0 br bi bo bc b2 bt bp _ lst X Y OA on oc A n c l (p, 0) wc hBh.out hAh.out hP hS hon
        clear hval
        go_wp2_with fail
        go_at_call 90
        refine kC.mono ?_
        rintro e w9 ⟨rfl, hfin⟩
        replace hfin := Lib.hid hfin
        go_wp2_with fail
        go_end0
        refine ⟨rfl, ?_⟩
        simp only [hc.out]
        exact hfin.out
      | false =>
        have hc : chkR X Y (p, 0) = ((X, Y), (p, 3)) := by unfold chkR; rw [if_pos ⟨rfl, hval⟩]
        replace hc := Lib.hid hc
        have hP2 : LsP encC 3 63 B1 w0 br bi bo bc b2 bt bp (.func (.func 90) #[] #[.pointer (some ⟨bo, 0, none⟩), .pointer (some ⟨bc, 0, none⟩)]) lst X Y OA on oc (wc.setCell ⟨br, 1, none⟩ (.int .i64 3)) := hP.read hBh.out ((Fr2.here wc (RB br bi)).put 1 (.int .i64 3) (.inl (.inl rfl)))
        have kC := snp_rcells1 B1 w0 br bi bo bc b2 bt bp _ lst X Y OA on oc A n c l (p, 3) _ hBh.out hAh.out hP2 (hS.err 3) hon
        have g1 : br < w0.heap.size := hBh.out.r1
        have g2 := hBh.out.p.1
        have g3 := hBh.out.t.1
        have g4 : br ≠ bp := by omega
        have g5 : br ≠ bt := by omega
        rcases valid_cases hval with v1 | ⟨v1, v2⟩
        all_goals
          clear hval
          go_wp2_with fail
          go_at_call 90
          refine kC.mono ?_
          rintro e w9 ⟨rfl, hfin⟩
          replace hfin := Lib.hid hfin
          go_wp2_with fail
          go_end0
          refine ⟨rfl, ?_⟩
          simp only [hc.out]
          exact hfin.out
    · have de : (er == 0) = false := by simpa using he
      have hc : chkR X Y (p, er) = ((X, Y), (p, er)) := by unfold chkR; rw [if_neg (fun k => he k.1)]
      replace hc := Lib.hid hc
      have kC := snp_rcells1 B1 w0 br bi bo bc b2 bt bp _ lst X Y OA on oc A n c l (p, er) wc hBh.out hAh.out hP hS hon
      clear he
      go_wp2_with fail
      go_at_call 90
      refine kC.mono ?_
      rintro e w9 ⟨rfl, hfin⟩
      replace hfin := Lib.hid hfin
      go_wp2_with fail
      go_end0
      refine ⟨rfl, ?_⟩
      simp only [hc.out]
      exact hfin.out
end Go.Proofs.YtmenokhnanghgaaGreat
end
section
namespace Go.Proofs.YtmenokhnanghgaaGreat
open Go Go.RowKit
set_option maxRecDepth 100000
set_option maxHeartbeats 16000000 in
theorem snp_rlistC (w0 : World) (br bi bo bc : Nat) (A : Option Addr) (n c : Nat) (l : List Int) (s : RS) (w : World) (hS : RdS w br bi A n c l s) (h1 : br < w0.heap.size) (h2 : bi < w0.heap.size) (h3 : w0.heap.size ≤ bo) (h4 : w0.heap.size ≤ bc) (h5 : bo ≠ bc)
    (hA : 0 < n → ∀ b o, A = some ⟨b, o, none⟩ → b < w0.heap.size) (hbo : BxW w bo [.slice none 0 0]) (hbc : BxW w bc [.pointer (some ⟨br, 0, none⟩)]) (hf : Fr2 (RB br bi) w0 w) :
    Calls Tryz.prog 89 #[.pointer (some ⟨br, 0, none⟩), .func (.func 90) #[] #[.pointer (some ⟨bo, 0, none⟩), .pointer (some ⟨bc, 0, none⟩)]] w fun e w' => e = void ∧ ∃ OA on oc, BxW w' bo [.slice OA on oc] ∧ Own encC 3 63 w.heap.size w' OA on oc (clsP (unB l) (tkC (unB l)) s).1.1 ∧ RdS w' br bi A n c l (clsP (unB l) (tkC (unB l)) s).2 ∧ Fr2 (RB br bi) w0 w' := by
  obtain ⟨b2, hb2⟩ : ∃ b2, b2 = w.heap.size := ⟨_, rfl⟩
  obtain ⟨bt, hbt⟩ : ∃ bt, bt = w.heap.size + 1 := ⟨_, rfl⟩
  obtain ⟨bp, hbp⟩ : ∃ bp, bp = w.heap.size + 2 := ⟨_, rfl⟩
  obtain ⟨B1, hB1⟩ : ∃ B1, B1 = w.heap.size + 3 := ⟨_, rfl⟩
  have hz := hf.size
  have hB : LsB w0.heap.size B1 br bi bo bc b2 bt bp := ⟨h1, h2, ⟨h3, by have := hbo.1; omega⟩, ⟨h4, by have := hbc.1; omega⟩, by omega, by omega, by omega, h5, by have := hbo.1; omega, by have := hbo.1; omega, by have := hbo.1; omega, by have := hbc.1; omega, by omega, by omega⟩
  obtain ⟨W, hW⟩ : ∃ W, W = ((w.alloc (.cells #[.pointer (some ⟨br, 0, none⟩)] 82)).alloc (.cells #[.func (.func 90) #[] #[.pointer (some ⟨bo, 0, none⟩), .pointer (some ⟨bc, 0, none⟩)]] 137)).alloc (.cells #[.int .i64 0, .int .i64 0] 66) := ⟨_, rfl⟩
  have hb : Below w.heap.size w W := by rw [hW]; exact (((Below.refl _ _).alloc (Nat.le_refl _) _).alloc (by simp) _).alloc (by simp; omega) _
  have hWs : W.heap.size = B1 := by rw [hW]; simp; omega
  have hx2 : BxW W b2 [.pointer (some ⟨br, 0, none⟩)] := by
    rw [hW, hb2]
    exact ((BxW.new1 w _ _).of ((Below.refl _ _).alloc (Nat.le_refl _) _)).of ((Below.refl _ _).alloc (Nat.le_refl _) _)
  have hxt : BxW W bt [.func (.func 90) #[] #[.pointer (some ⟨bo, 0, none⟩), .pointer (some ⟨bc, 0, none⟩)]] := by
    rw [hW, hbt]
    have h := (BxW.new1 (w.alloc (.cells #[.pointer (some ⟨br, 0, none⟩)] 82)) (.func (.func 90) #[] #[.pointer (some ⟨bo, 0, none⟩), .pointer (some ⟨bc, 0, none⟩)]) 137).of ((Below.refl _ _).alloc (Nat.le_refl _) (.cells #[.int .i64 0, .int .i64 0] 66))
    rw [World.size_alloc] at h
    exact h
  have hxp : BxW W bp [.int .i64 0, .int .i64 0] := by
    rw [hW, hbp]
    have h := BxW.new ((w.alloc (.cells #[.pointer (some ⟨br, 0, none⟩)] 82)).alloc (.cells #[.func (.func 90) #[] #[.pointer (some ⟨bo, 0, none⟩), .pointer (some ⟨bc, 0, none⟩)]] 137)) [.int .i64 0, .int .i64 0] 66
    rw [World.size_alloc, World.size_alloc] at h
    exact h
  have hP : LsP encC 3 63 B1 w0 br bi bo bc b2 bt bp (.func (.func 90) #[] #[.pointer (some ⟨bo, 0, none⟩), .pointer (some ⟨bc, 0, none⟩)]) [] 0 0 none 0 0 W := ⟨hbo.of hb, Own.nil_, hxp, hbc.of hb, hx2, hxt, hf.of hb, by omega⟩
  have hSW := hS.of hb
  have hn8 : 8 * n ≤ 524288 := by have := hS.d.le; omega
  have key := snp_timesN (α := List Cel × Int × Int) (rndP (unB l) (tkC (unB l))) (fun a s w' => ∃ OA on oc, LsP encC 3 63 B1 w0 br bi bo bc b2 bt bp (.func (.func 90) #[] #[.pointer (some ⟨bo, 0, none⟩), .pointer (some ⟨bc, 0, none⟩)]) a.1 a.2.1 a.2.2 OA on oc w' ∧ RdS w' br bi A n c l s ∧ a.1.length ≤ s.1 + 1 ∧ (s.2 = 0 → a.1.length ≤ s.1 ∧ validB a.2.1 a.2.2 = true)) 114 [.pointer (some ⟨b2, 0, none⟩), .pointer (some ⟨bp, 0, none⟩), .pointer (some ⟨bt, 0, none⟩)] br bi A n c l
    (enters_of Tryz.func114 (by kernel_rfl) rfl)
    (fun a s w' h => by obtain ⟨OA, on, oc, _, h, _⟩ := h; exact h)
    (fun i a s w' h0 h => by
      obtain ⟨OA, on, oc, k1, k2, k3, k4⟩ := h
      obtain ⟨k5, k6⟩ := k4 h0
      obtain ⟨lst, x, y⟩ := a
      have hon : on ≤ 1000000 := by have := k1.row.len; have := k2.le; simp only at *; omega
      refine (snp_rlist1C B1 w0 br bi bo bc b2 bt bp lst x y OA on oc A n c l s i w' hB hA k1 k2 hon k6).mono ?_
      rintro e w'' ⟨rfl, OA', on', oc', j1, j2⟩
      have m := rndP_m (bs := unB l) (s := s) (tkC_m (unB l)) i (lst, x, y)
      have ml := rndP_len (bs := unB l) (tk := tkC (unB l)) (s := s) (i := i) (a := (lst, x, y))
      simp only at ml k3 k5
      exact ⟨rfl, OA', on', oc', j1, j2, by rw [ml]; omega, fun z => ⟨by have := m.2 z; rw [ml]; omega, rndP_v (tkC_ok (unB l)) z⟩⟩)
    ([], 0, 0) s W hSW (fun w' j1 j2 => ⟨none, 0, 0, hP.read hB j2, j1, by simp, fun _ => ⟨by simp, by decide⟩⟩)
  rw [hb2, hbt, hbp] at key
  clear hSW hx2 hxt hxp hP hbo hbc
  go_enter Tryz.func89, Tryz.ntmps89
  go_wp2_with fail
  rw [← hW]
  go_at_call 56
  refine key.mono ?_
  rintro e w' ⟨rfl, OA, on, oc, k1, k2, k3⟩
  go_wp2_with fail
  go_end0
  refine ⟨rfl, OA, on, oc, k1.o, k1.row.more (by omega), k2, k1.f⟩
set_option maxHeartbeats 16000000 in
theorem snp_rcells (br bi : Nat) (A : Option Addr) (n c : Nat) (l : List Int) (s : RS) (w : World) (hS : RdS w br bi A n c l s) :
    Calls Tryz.prog 43 #[.pointer (some ⟨br, 0, none⟩)] w fun e w' => ∃ OA on oc, e = .returned (.slice OA on oc) ∧ Own encC 3 63 w.heap.size w' OA on oc (clsP (unB l) (tkC (unB l)) s).1.1 ∧ RdS w' br bi A n c l (clsP (unB l) (tkC (unB l)) s).2 ∧ Fr2 (RB br bi) w w' := by
  obtain ⟨bc, hbc⟩ : ∃ bc, bc = w.heap.size := ⟨_, rfl⟩
  obtain ⟨bo, hbo⟩ : ∃ bo, bo = w.heap.size + 1 := ⟨_, rfl⟩
  obtain ⟨W, hW⟩ : ∃ W, W = (w.alloc (.cells #[.pointer (some ⟨br, 0, none⟩)] 82)).alloc (.cells #[.slice none 0 0] 23) := ⟨_, rfl⟩
  have hb : Below w.heap.size w W := by rw [hW]; exact ((Below.refl _ _).alloc (Nat.le_refl _) _).alloc (by simp) _
  have hx1 : BxW W bc [.pointer (some ⟨br, 0, none⟩)] := by
    rw [hW, hbc]
    exact (BxW.new1 w _ _).of ((Below.refl _ _).alloc (Nat.le_refl _) _)
  have hx2 : BxW W bo [.slice none 0 0] := by
    rw [hW, hbo]
    have h := BxW.new1 (w.alloc (.cells #[.pointer (some ⟨br, 0, none⟩)] 82)) (.slice none 0 0) 23
    rw [World.size_alloc] at h
    exact h
  have kL := snp_rlistC w br bi bo bc A n c l s W (hS.of hb) hS.box.1 hS.d.box.1 (by omega) (by omega) (by omega) hS.low hx2 hx1 ((Fr2.here w _).of hb)
  have hsz := hb.size
  obtain ⟨_, c0, -⟩ := hx1.open1
  rw [hbo, hbc] at kL
  rw [hbc] at c0
  have hlow := hS.low
  have kLsz : w.heap.size + 1 < W.heap.size := by rw [hW]; simp
  have hbr := hS.box.1
  have hbi := hS.d.box.1
  clear hx1 hx2 hS
  go_enter Tryz.func43, Tryz.ntmps43
  go_wp2_with fail
  rw [← hW]
  clear hW
  go_at_call 89
  refine kL.mono ?_
  rintro e w' ⟨rfl, OA, on, oc, k1, k2, k3, k4⟩
  obtain ⟨_, o0, fo⟩ := k1.open1
  have hO := k2.more (show w.heap.size ≤ W.heap.size by omega)
  have hWb : w.heap.size < W.heap.size := by have := kLsz; omega
  have ho1 : w.heap.size + 1 < W.heap.size := kLsz
  have hrow : ∀ q, (Value.slice OA on oc).ownBlock = some q → W.heap.size ≤ q := fun q hq => (k2.row.lt q hq).1
  have hS' : RdS (w'.setCell ⟨w.heap.size + 1, 0, none⟩ (.slice OA on oc)) br bi A n c l (clsP (unB l) (tkC (unB l)) s).2 := k3.fr2 ((Fr2.here w' (fun q => q = w.heap.size + 1)).put 0 _ (.inl rfl)) (by omega) (by omega) (fun h0 b o e => by have := hlow h0 b o e; omega)
  have hf' := k4.put (b := w.heap.size + 1) 0 (.slice OA on oc) (.inr (by omega))
  have hO' := hO.over2 (grownBy_set w' (w.heap.size + 1) 0 (.slice OA on oc)) (fun q hq e => by injection e with e; have := hrow q hq; omega)
  replace hS' := Lib.hid hS'
  replace hf' := Lib.hid hf'
  replace hO' := Lib.hid hO'
  clear k1 k2 k3 k4 hO
  go_wp2_with fail
  refine bodyPost_ret (v := .slice OA on oc) (by simp [results, Tryz.results43, go_sem, *, ↓IntWalk.iteOmega]) rfl ?_
  exact ⟨OA, on, oc, rfl, hO'.out, hS'.out, hf'.out⟩
end Go.Proofs.YtmenokhnanghgaaGreat
end
section
namespace Go.Proofs.YtmenokhnanghgaaGreat
open Go Go.RowKit
set_option maxRecDepth 100000
theorem clsP_len {β : Type} {bs : List Bool} {tk : Int → Int → RS → β × RS} (ht : TkM tk) (s : RS) : (clsP bs tk s).1.1.length ≤ (clsP bs tk s).2.1 + 1 := by
  have h := lpR_keep (f := rndP bs tk) (P := fun a s => a.1.length ≤ s.1 + 1 ∧ (s.2 = 0 → a.1.length ≤ s.1)) (fun i a s h0 hp => by
    have m := rndP_m (bs := bs) (s := s) ht i a
    have ml := rndP_len (bs := bs) (tk := tk) (s := s) (i := i) (a := a)
    have h1 := hp.2 h0
    exact ⟨by rw [ml]; omega, fun z => by have := m.2 z; rw [ml]; omega⟩) (gamR bs s).1.toNat 0 ([], 0, 0) (gamR bs s).2 ⟨by simp, fun _ => by simp⟩
  exact h.1
theorem cloR_bad {bs : List Bool} {s : RS} {r : Bool} (h : s.2 ≠ 0) : cloR bs s r = s.2 := by unfold cloR; rw [if_neg h]
theorem cloR_end {bs : List Bool} {s : RS} {r : Bool} (h : s.2 = 0) (he : endR bs s = false) : cloR bs s r = 3 := by unfold cloR; rw [if_pos h, he, if_neg (by simp)]
theorem cloR_y {bs : List Bool} {s : RS} (h : s.2 = 0) (he : endR bs s = true) : cloR bs s true = 0 := by unfold cloR; rw [if_pos h, he, if_pos ⟨rfl, rfl⟩]
theorem cloR_no {bs : List Bool} {s : RS} (h : s.2 = 0) : cloR bs s false = 3 := by unfold cloR; rw [if_pos h, if_neg (by simp)]
set_option maxHeartbeats 8000000 in
theorem snp_closeN (r : Bool) (K : Nat) (caps : List Value) (br bi : Nat) (A : Option Addr) (n c : Nat) (l : List Int) (s : RS)
    (eK : ∀ args w, (callFunc K args).run Tryz.prog w = .ok (.enter K args) w)
    (w : World) (h : RdS w br bi A n c l s)
    (hr : ∀ w1, Below w.heap.size w w1 → Calls Tryz.prog K caps.toArray w1 fun e w2 => e = .returned (.bool r) ∧ Below w.heap.size w1 w2) :
    Calls Tryz.prog 44 #[.pointer (some ⟨br, 0, none⟩), .func (.func K) #[] caps.toArray] w fun e w' => e = .returned (.int .i64 (cloR (unB l) s r)) ∧ Below w.heap.size w w' := by
  obtain ⟨p, er⟩ := s
  have hle := h.le
  obtain ⟨_, b0, b1, f0, f1⟩ := h.box.open2
  simp only at b1 hle
  by_cases he : er = 0
  · subst he
    have kE := bio_REnd bi A n c p l w h.d hle
    have hb := Lib.hid h.box
    cases hend : endR (unB l) (p, 0) with
    | false =>
      rw [cloR_end rfl hend]
      rw [hend] at kE
      clear hr h hend
      go_enter Tryz.func44, Tryz.ntmps44
      go_wp2_with fail
      go_at_call 91
      refine kE.mono ?_
      rintro e w1 ⟨rfl, hb1⟩
      replace hb1 := Lib.hid hb1
      go_wp2_with fail
      go_ret
      exact ⟨rfl, hb1.out⟩
    | true =>
      rw [hend] at kE
      cases r with
      | true =>
        rw [cloR_y rfl hend]
        clear h hend
        go_enter Tryz.func44, Tryz.ntmps44
        go_wp2_with fail
        go_at_call 91
        refine kE.mono ?_
        rintro e w1 ⟨rfl, hb1⟩
        have kr := hr w1 hb1
        replace hb1 := Lib.hid hb1
        clear kE
        go_wp2_with fail
        go_at_fn K
        refine kr.mono ?_
        rintro e w2 ⟨rfl, hb2⟩
        have hB := Lib.hid (hb1.out.trans hb2)
        obtain ⟨_, c0, c1, g0, g1⟩ := (hb.out.of hB.out).open2
        clear kr hb2
        go_wp2_with fail
        go_ret
        exact ⟨rfl, hB.out⟩
      | false =>
        rw [cloR_no rfl]
        clear h hend
        go_enter Tryz.func44, Tryz.ntmps44
        go_wp2_with fail
        go_at_call 91
        refine kE.mono ?_
        rintro e w1 ⟨rfl, hb1⟩
        have kr := hr w1 hb1
        replace hb1 := Lib.hid hb1
        clear kE
        go_wp2_with fail
        go_at_fn K
        refine kr.mono ?_
        rintro e w2 ⟨rfl, hb2⟩
        have hB := Lib.hid (hb1.out.trans hb2)
        clear kr hb2
        go_wp2_with fail
        go_ret
        exact ⟨rfl, hB.out⟩
  · have d1 : (er == 0) = false := by simpa using he
    rw [cloR_bad he]
    clear hr h
    go_enter Tryz.func44, Tryz.ntmps44
    go_wp2_with fail
    go_ret
    exact ⟨rfl, Below.refl _ _⟩
set_option maxHeartbeats 4000000 in
theorem snp_TakePattern1 (bo : Nat) (OA : Option Addr) (on oc : Nat) (L : List Cel) (B : Nat) (w : World) (hB : B ≤ w.heap.size) (ho : BxW w bo [.slice OA on oc]) (hR : Rd encC 3 w OA on L) (hn : on ≤ 9223372036854775807) :
    Calls Tryz.prog 45 #[.pointer (some ⟨bo, 0, none⟩)] w fun e w' => e = .returned (.bool (rightC L)) ∧ Below B w w' := by
  have kR := pat_Right OA on oc L w hR hn
  obtain ⟨_, b0, f0⟩ := ho.open1
  clear ho hR
  go_enter Tryz.func45, Tryz.ntmps45
  go_wp2_with fail
  go_at_call 34
  refine kR.mono ?_
  rintro e w1 ⟨rfl, hb1⟩
  replace hb1 := Lib.hid (hb1.mono hB)
  go_wp2_with fail
  go_ret
  exact ⟨rfl, hb1.out⟩
theorem tp_bad {bs : List Bool} (h : tpE bs ≠ 0) : tpL bs = [] := by unfold tpL; rw [if_neg h]
theorem tp_ok {bs : List Bool} (h : tpE bs = 0) : tpL bs = (tpS bs).1.1 := by unfold tpL; rw [if_pos h]
set_option maxHeartbeats 8000000 in
theorem snp_TakePattern (A : Option Addr) (n c : Nat) (l : List Int) (w : World) (hR : Rd encU 1 w A n l) (hl : ByL l) (hn : n ≤ 65536) :
    Calls Tryz.prog 12 #[.slice A n c] w fun e w' => ∃ OA on oc, e = .returned (.tuple #[.slice OA on oc, .int .i64 (tpE (unB l))]) ∧ Rd encC 3 w' OA on (tpL (unB l)) ∧ Below w.heap.size w w' := by
  have kO := snp_open 1 A n c l w hR hl hn (by omega)
  have hE : tpE (unB l) = cloR (unB l) (tpS (unB l)).2 (rightC (tpS (unB l)).1.1) := rfl
  have hbd := tp_bad (bs := unB l)
  have hok := tp_ok (bs := unB l)
  have hlen : (tpS (unB l)).1.1.length ≤ 8 * n + 1 := by
    have h1 := clsP_len (bs := unB l) (tkC_m (unB l)) (opnR (unB l) 1)
    have h2 := clsP_le (bs := unB l) (s := opnR (unB l) 1) (tkC_ok (unB l)) (opnR_le _ _)
    rw [unB_len, hR.len] at h2
    unfold tpS
    omega
  generalize tpE (unB l) = E at hE hbd hok ⊢
  generalize tpL (unB l) = LL at hbd hok ⊢
  replace hE := Lib.hid hE
  replace hbd := Lib.hid hbd
  replace hok := Lib.hid hok
  clear hR
  go_enter Tryz.func12, Tryz.ntmps12
  go_wp2_with fail
  go_at_call 42
  refine kO.mono ?_
  rintro e w1 ⟨br, bi, A1, c1, rfl, hS1, hbr, hbi, hb1⟩
  replace hS1 := Lib.hid hS1
  replace hb1 := Lib.hid hb1
  clear kO
  go_wp2_with fail
  go_at_call 43
  refine (snp_rcells br bi A1 n c1 l _ w1 hS1.out).mono ?_
  rintro e w2 ⟨OA, on, oc, rfl, hO2, hS2, hf2⟩
  have hb2 := Lib.hid (hb1.out.trans (hf2.below (B := w.heap.size) hb1.out.size (fun q hq => by rcases hq with rfl | rfl <;> omega)))
  rw [show clsP (unB l) (tkC (unB l)) (opnR (unB l) ((1 : Nat) : Int)) = tpS (unB l) from rfl] at hO2 hS2
  generalize tpS (unB l) = S at *
  obtain ⟨⟨L, xy⟩, s⟩ := S
  have hon : on ≤ 9223372036854775807 := by have := hO2.len; simp only at this hlen; omega
  simp only at hE hok hO2 hS2
  go_upto_region 5 with (fail)
  obtain ⟨w3, hw3⟩ : ∃ w3, w3 = w2.alloc (.cells #[.slice OA on oc] 23) := ⟨_, rfl⟩
  have hb3 : Below w2.heap.size w2 w3 := by rw [hw3]; exact (Below.refl _ _).alloc (Nat.le_refl _) _
  have hB3 := Lib.hid (hb2.out.trans (hb3.mono hb2.out.size))
  have hx3 : BxW w3 w2.heap.size [.slice OA on oc] := by rw [hw3]; exact BxW.new1 w2 _ _
  have hS3 := hS2.of hb3
  have hO3 := (hO2.rd encC_len).of hb3
  rw [← hw3]
  clear hw3
  have kC := snp_closeN (rightC L) 45 [.pointer (some ⟨w2.heap.size, 0, none⟩)] br bi A1 n c1 l s (enters_of Tryz.func45 (by kernel_rfl) rfl) w3 hS3 (fun w4 h4 => snp_TakePattern1 w2.heap.size OA on oc L w3.heap.size w4 h4.size (hx3.of h4) (hO3.of h4) hon)
  have hx3h := Lib.hid hx3
  replace hO3 := Lib.hid hO3
  clear hx3 hS3 hO2 hS2 hf2 hb3
  rw [← hE.out] at kC
  have hb3z := hB3.out.size
  go_wp2_with fail
  go_at_call 44
  refine kC.mono ?_
  rintro e w4 ⟨rfl, hb4⟩
  have hB4 := Lib.hid (hB3.out.trans (hb4.mono hb3z))
  have hO4 := Lib.hid (hO3.out.of hb4)
  obtain ⟨_, x0, _⟩ := (hx3h.out.of hb4).open1
  clear kC hb4
  by_cases h0 : E = 0
  · subst h0
    obtain rfl := hok.out rfl
    go_wp2_with fail
    refine bodyPost_ret (v := .tuple #[.slice OA on oc, .int .i64 0]) (by simp [results, Tryz.results12, go_sem, *, ↓IntWalk.iteOmega]) rfl ?_
    exact ⟨OA, on, oc, rfl, hO4.out, hB4.out⟩
  · have d1 : (E == 0) = false := by simpa using h0
    have d2 : (E != 0) = true := by simpa using h0
    obtain rfl := hbd.out h0
    go_wp2_with fail
    refine bodyPost_ret (v := .tuple #[.slice none 0 0, .int .i64 E]) (by simp [results, Tryz.results12, go_sem, *, ↓IntWalk.iteOmega]) rfl ?_
    exact ⟨none, 0, 0, rfl, Rd.nil_, hB4.out⟩
end Go.Proofs.YtmenokhnanghgaaGreat
end
