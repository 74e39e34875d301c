/- The reference's reader of trees: TakeTree. By mkrgk.py. -/
import Derived.Test.YtmenokhnanghgaaGreatRgK
import Derived.Test.YtmenokhnanghgaaGreatTRE
import Derived.Deep.RegionHeld3
namespace Go.Proofs.YtmenokhnanghgaaGreat
open Go Go.RowKit
set_option linter.unusedSimpArgs false
set_option linter.unusedVariables false
set_option maxRecDepth 100000
set_option linter.unusedSimpArgs false
set_option linter.unusedVariables false
set_option maxHeartbeats 64000000 in
theorem ref55_TakeTree (A : Option Addr) (n c : Nat) (l : List Int) (w : World) (hR : Rd encU 1 w A n l) (hl : ByL l) (hn : n ≤ 65536) :
    Calls Tryz.prog 20 #[.slice A n c] w fun e w' => ∃ HA hn hc NA nn nc, e = .returned (.tuple #[.agg #[.int .i64 (ttV (unB l)).1, .slice HA hn hc, .slice NA nn nc], .int .i64 (ttE (unB l))]) ∧ Rd encP 2 w' HA hn (ttV (unB l)).2.1 ∧ RdX ekN w' NA nn (ttV (unB l)).2.2 ∧ Below w.heap.size w w' := by
  obtain ⟨W, hW⟩ : ∃ W, W = w.alloc (.cells #[.int .i64 0, .slice none 0 0, .slice none 0 0] 37) := ⟨_, rfl⟩
  have hb0 : Below w.heap.size w W := by rw [hW]; exact (Below.refl _ _).alloc (Nat.le_refl _) _
  have hrt : BxW W w.heap.size [.int .i64 0, .slice none 0 0, .slice none 0 0] := by rw [hW]; exact BxW.new w [_, _, _] _
  have hWz : W.heap.size = w.heap.size + 1 := by rw [hW]; simp
  have kT := ref55_take 2 A n c l W (hR.of hb0) hl hn (by omega)
  rw [show opnR (unB l) ((2 : Nat) : Int) = opnR (unB l) 2 from rfl] at kT
  obtain ⟨E, hE⟩ : ∃ E, E = ttE (unB l) := ⟨_, rfl⟩
  obtain ⟨V, hV⟩ : ∃ V, V = ttV (unB l) := ⟨_, rfl⟩
  rw [← hE, ← hV]
  have hok := tt_ok hE hV
  have hbd := tt_bad hE hV
  obtain ⟨VS, VH, VN⟩ := V
  clear hV
  simp only
  replace hE : E = cloR (unB l) (ttN (unB l)).2 (trR (ttS (unB l)) (ttH (unB l)).1 (ttN (unB l)).1) := hE
  obtain ⟨bs, hbs⟩ : ∃ bs, bs = unB l := ⟨_, rfl⟩
  rw [← hbs] at hE hok kT
  have hSd : ttS bs = (bitsR bs 3 (opnR bs 2)).1 + 1 := rfl
  have hNd : ttH bs = lpR (hdR bs) (gamR bs (bitsR bs 3 (opnR bs 2)).2).1.toNat 0 [] (gamR bs (bitsR bs 3 (opnR bs 2)).2).2 := rfl
  have hN2 : ttN bs = lpR (ndR bs (ttS bs).toNat) (gamR bs (ttH bs).2).1.toNat 0 [] (gamR bs (ttH bs).2).2 := rfl
  have hv := bitsR3 bs (opnR bs 2)
  obtain ⟨k, hk⟩ : ∃ k : Nat, ttS bs = (k : Int) := ⟨(ttS bs).toNat, by rw [hSd]; omega⟩
  have hk8 : k ≤ 8 := by rw [hk] at hSd; omega
  rw [hk] at hE hok hSd hN2
  rw [Int.toNat_natCast] at hN2
  clear hk
  obtain ⟨R2, hRn⟩ : ∃ R2, R2 = ttN bs := ⟨_, rfl⟩
  rw [← hRn] at hE hok hN2
  clear hRn
  obtain ⟨R, hRn⟩ : ∃ R, R = ttH bs := ⟨_, rfl⟩
  rw [← hRn] at hE hok hN2 hNd
  clear hRn
  generalize opnR bs 2 = s0 at kT hSd hNd hv
  have kF := fun br bi A1 k1 c1 w1 h1 => ref55_Rbits br bi A1 k1 c1 bs s0 w1 3 h1 (by omega)
  generalize bitsR bs 3 s0 = g1 at kF hSd hNd hv
  obtain ⟨a1, s1⟩ := g1
  simp only at kF hSd hNd hv
  have e0 : IntKind.i64.wrap (a1 + 1) = (k : Int) := by rw [IntWalk.i64_in _ (by omega)]; exact hSd.symm
  have kG := fun br bi A1 k1 c1 w1 h1 => ref55_Rgamma br bi A1 k1 c1 bs s1 w1 h1
  have hnn := gamR_nn (bs := bs) (s := s1)
  generalize gamR bs s1 = g2 at kG hNd hnn
  obtain ⟨gn, sA⟩ := g2
  simp only at kG hNd hnn
  obtain ⟨N, rfl⟩ : ∃ N : Nat, gn = (N : Int) := ⟨gn.toNat, by omega⟩
  rw [Int.toNat_natCast] at hNd
  have hN63 : N ≤ 9223372036854775807 := by omega
  replace hNd := Lib.hid hNd
  replace hN2 := Lib.hid hN2
  replace hE := Lib.hid hE
  replace hok := Lib.hid hok
  replace hbd := Lib.hid hbd
  replace hSd := Lib.hid hSd
  clear hR hnn hbs hv
  go_enter Tryz.func20, Tryz.ntmps20
  go_upto_region 1 with (fail)
  rw [← hW]
  clear hW
  go_upto_region 2 with (go_at_call 46; refine kT.mono ?_; rintro e w1 ⟨br, bi, A1, k1, c1, rfl, hS1, hbr, hbi, hb1⟩)
  clear kT
  replace kF := kF br bi A1 k1 c1 w1 hS1
  have hb01 := Lib.hid (hb0.trans (hb1.mono hb0.size))
  have hrt1 := Lib.hid (hrt.of hb1)
  have hz1 := hb1.size
  have hL1 := Lib.hid hS1.low
  have hn5 := hS1.d.le
  clear hb1 hb0 hrt hS1
  go_upto_region 3 with (go_at_call 61; refine kF.mono ?_; rintro e w3 ⟨rfl, hS3, hF3⟩)
  obtain ⟨w4, hw4⟩ : ∃ w4, w4 = w3.alloc (.cells #[.int .i64 (k : Int), .slice none 0 0, .slice none 0 0] 37) := ⟨_, rfl⟩
  have hb34 : Below w3.heap.size w3 w4 := by rw [hw4]; exact (Below.refl _ _).alloc (Nat.le_refl _) _
  have hx4 : BxW w4 w3.heap.size [.int .i64 (k : Int), .slice none 0 0, .slice none 0 0] := by rw [hw4]; exact BxW.new w3 [_, _, _] _
  rw [← hw4]
  clear hw4
  have hz3 := hF3.size
  obtain ⟨tb, htb⟩ : ∃ tb, tb = w3.heap.size := ⟨_, rfl⟩
  rw [← htb] at hx4 ⊢
  have hK : TaK w.heap.size tb br bi A1 k1 := ⟨by omega, by omega, hL1.out.mono (by omega)⟩
  have hT4 : TaS w tb br bi [.int .i64 0, .slice none 0 0, .slice none 0 0] [.int .i64 (k : Int), .slice none 0 0, .slice none 0 0] A1 k1 c1 bs s1 w4 :=
    ⟨(hrt1.out.frR hF3 (by rintro (k | k) <;> omega)).of hb34, hx4, hS3.of hb34, (hb01.out.trans (hF3.below (B := w.heap.size) hb01.out.size (fun q hq => by rcases hq with rfl | rfl <;> omega))).trans (hb34.mono (by have := hb01.out.size; omega))⟩
  have hrtB : w.heap.size < tb + 1 := by have := hK.r1; have := hK.t.br; omega
  clear hrt1 hL1 hb01 hS3 hF3 hb34 hx4 hz3 htb hz1 hWz kF
  replace kG := kG br bi A1 k1 c1 w4 hT4.s
  go_wp2_with fail
  go_at_call 62
  refine kG.mono ?_
  rintro e w5 ⟨rfl, hS5, hF5⟩
  have hT5 := hT4.read hK hS5 hF5
  clear hT4 hS5 hF5 kG
  replace hT5 := Lib.hid hT5
  clear e0
  go_wp2_with fail
  go_loopw [7] (fun v wr => ∃ (j : Nat) (L : List (Int × Int)) (s2 : RS) (HA : Option Addr) (hn hc : Nat), v = .int .i64 (j : Int) ∧ j ≤ N ∧ Hid (R = lpR (hdR bs) (N - j) j L s2) ∧ Hid (SzR L s2) ∧ TaS w tb br bi [.int .i64 0, .slice none 0 0, .slice none 0 0] [.int .i64 (k : Int), .slice HA hn hc, .slice none 0 0] A1 k1 c1 bs s2 wr ∧ Own encP 2 66 (tb + 1) wr HA hn hc L) (fun v _ => N - (intOf v).toNat)
  case atStart => exact ⟨0, [], sA, none, 0, 0, rfl, by omega, hNd, Lib.hid SzR.nil_, hT5.out, Own.nil_⟩
  case round =>
    clear hT5 hNd
    obtain ⟨j, L, s2, HA, hn, hc, rfl, hj, hR, hZ, hT, hO⟩ := hrel
    obtain ⟨hbz, b0, b1, -, -⟩ := hT.s.box.open2
    have hon : hn ≤ 1000000 := by have := hO.len; have := hZ.out.1; have := hT.s.le; omega
    by_cases hlt : j < N
    · have dj : decide ((j : Int) < N) = true := decide_eq_true (by omega)
      have dj' : decide (j < N) = true := decide_eq_true hlt
      by_cases he : s2.2 = 0
      · have hst := hR.out.trans (lpR_step hlt he)
        have hzst := SzR.step (hdR_m bs) (i := j) he hZ.out
        have ej : IntKind.i64.wrap ((j : Int) + 1) = ((j + 1 : Nat) : Int) := IntWalk.i64_in _ (by omega)
        have er : hdR bs j L s2 = (L ++ [((bitsR bs 3 s2).1 - 2, (bitsR bs 3 (bitsR bs 3 s2).2).1 - 2)], (bitsR bs 3 (bitsR bs 3 s2).2).2) := rfl
        rw [er] at hst hzst
        clear er
        have kE := fun w1 h1 => ref55_Rbits br bi A1 k1 c1 bs s2 w1 3 h1 (by omega)
        have v1 := bitsR_val bs 3 s2 (by omega)
        generalize bitsR bs 3 s2 = g1 at kE hst hzst v1
        obtain ⟨a1, s3⟩ := g1
        simp only at kE hst hzst v1
        have kF := fun w1 h1 => ref55_Rbits br bi A1 k1 c1 bs s3 w1 3 h1 (by omega)
        have v2 := bitsR_val bs 3 s3 (by omega)
        generalize bitsR bs 3 s3 = g2 at kF hst hzst v2
        obtain ⟨a2, s4⟩ := g2
        simp only at kF hst hzst v2
        have e1 : IntKind.i64.wrap (a1 - 2) = a1 - 2 := IntWalk.i64_in _ (by omega)
        have e2 : IntKind.i64.wrap (a2 - 2) = a2 - 2 := IntWalk.i64_in _ (by omega)
        replace hst := Lib.hid hst
        replace hzst := Lib.hid hzst
        rw [he] at b1
        have hTh := Lib.hid hT
        have hHh := Lib.hid hO
        clear hR hZ he hT hO
        go_wp2_with fail
        go_at_call 61
        refine (kE _ hTh.out.s).mono ?_
        rintro e w3 ⟨rfl, hS3, hF3⟩
        have hT3 := Lib.hid (hTh.out.read hK hS3 hF3)
        have hO3 := Lib.hid (TaS.own hK hHh.out hF3)
        clear hTh hHh hS3 hF3 kE b0 b1 hbz
        go_wp2_with fail
        go_at_call 61
        refine (kF _ hT3.out.s).mono ?_
        rintro e w4 ⟨rfl, hS4, hF4⟩
        have hT4 := hT3.out.read hK hS4 hF4
        have hO4 := Lib.hid (TaS.own hK hO3.out hF4)
        clear hT3 hO3 hS4 hF4 kF
        have tz := hT4.x.1
        have t1 : w4.cell? ⟨tb, 1, none⟩ = some (.slice HA hn hc) := hT4.x.2.1 1
        have ft1 : w4.frozen? ⟨tb, 1, none⟩ = false := hT4.x.2.2 1
        replace hT4 := Lib.hid hT4
        have hrow := Lib.hid (show ∀ q, (Value.slice HA hn hc).ownBlock = some q → tb < q from fun q hq => (hO4.out.row.lt q hq).1)
        go_wp2_with (at_builtin; refine wpList_append_el rfl (.tmp 39) (.tmp 45) 34 rfl encP 2 66 (.agg #[.int .i64 0, .int .i64 0]) 16 Tryz.underlying34 (by kernel_rfl) rfl (by decide) encP_len encP_one (tb + 1) _ _ _ _ rfl (hO4.out.alloc _) (a1 - 2, a2 - 2) ⟨(w4).heap.size, 0, none⟩ 1 rfl (cells_new (w4) _ _) (by omega) (by omega) (by first | omega | (simp; done) | (simp; omega)) ?_; intro A7 c7 w7 hown7 hg7 hb7; obtain ⟨hc7, hf7⟩ := bcell hb7; have hs7 := hb7.size; (try simp only [World.size_alloc, World.size_setCell, World.size_drew] at hc7 hf7); (try simp at hs7))
        have hal : Below w4.heap.size w4 (w4.alloc (.cells #[.int .i64 (a1 - 2), .int .i64 (a2 - 2)] 66)) := (Below.refl _ _).alloc (Nat.le_refl _) _
        have hT7 := (hT4.out.of hal).gr hK hg7 hrow.out
        have hT8 := Lib.hid (hT7.put hK 1 (.slice A7 (hn + 1) c7) (by simp))
        have hO8 := Lib.hid (hown7.setBelow (b := tb) (i := 1) (Nat.lt_succ_self _) (.slice A7 (hn + 1) c7))
        clear hT7
        go_roundw
        case rel => exact ⟨j + 1, L ++ [(a1 - 2, a2 - 2)], s4, A7, hn + 1, c7, by go_num, by omega, hst, hzst, hT8.out, hO8.out⟩
        case measure => simp [intOf]; omega
      · skip
        have d1 : (s2.2 == 0) = false := by simpa using he
        have hfin := Lib.hid (hR.out.trans (lpR_bad he))
        clear he
        have hE1 := hE.out
        rw [hfin.out] at hE1
        simp only at hE1
        have hok1 := hok.out
        rw [hfin.out] at hok1
        simp only at hok1
        have hN2' := hN2.out
        rw [hfin.out] at hN2'
        simp only at hN2'
        clear hE hok hN2 hfin hR
        have hE := Lib.hid hE1
        have hok := Lib.hid hok1
        clear hE1 hok1
        have kG := ref55_Rgamma br bi A1 k1 c1 bs s2 wr hT.s
        have hnn := gamR_nn (bs := bs) (s := s2)
        generalize gamR bs s2 = g3 at kG hN2' hnn
        obtain ⟨gm, sB⟩ := g3
        simp only at kG hN2' hnn
        obtain ⟨M, rfl⟩ : ∃ M : Nat, gm = (M : Int) := ⟨gm.toNat, by omega⟩
        rw [Int.toNat_natCast] at hN2'
        have hM63 : M ≤ 9223372036854775807 := by omega
        replace hN2' := Lib.hid hN2'
        have hTh := Lib.hid hT
        have hHh := Lib.hid hO
        clear hnn hT hO hZ
        go_wp2_with fail
        go_at_call 62
        refine kG.mono ?_
        rintro e w5 ⟨rfl, hS5, hF5⟩
        have hT5 := Lib.hid (hTh.out.read hK hS5 hF5)
        have hH5 := Lib.hid (TaS.own hK hHh.out hF5)
        clear hTh hHh hS5 hF5 kG b0 b1 hbz
        go_wp2_with fail
        go_loopw [10] (fun v wr => ∃ (i : Nat) (L2 : List Nd) (s3 : RS) (NA : Option Addr) (nn nc : Nat), v = .int .i64 (i : Int) ∧ i ≤ M ∧ Hid (R2 = lpR (ndR bs k) (M - i) i L2 s3) ∧ Hid (SzR L2 s3) ∧ TaS w tb br bi [.int .i64 0, .slice none 0 0, .slice none 0 0] [.int .i64 (k : Int), .slice HA hn hc, .slice NA nn nc] A1 k1 c1 bs s3 wr ∧ Own encP 2 66 (tb + 1) wr HA hn hc L ∧ OwnO ekN 93 (tb + 1) (fun _ => False) wr NA nn nc L2) (fun v _ => M - (intOf v).toNat)
        case atStart => exact ⟨0, [], sB, none, 0, 0, rfl, by omega, hN2', Lib.hid SzR.nil_, hT5.out, hH5.out, OwnO.nil_⟩
        case round =>
          clear hT5 hH5 hN2'
          obtain ⟨i, L2, s3, NA, nn, nc, rfl, hi, hR, hZ, hT, hO, hN⟩ := hrel
          obtain ⟨hbz, b0, b1, -, -⟩ := hT.s.box.open2
          have hon2 : nn ≤ 1000000 := by have := hN.len; have := hZ.out.1; have := hT.s.le; omega
          by_cases hlt : i < M
          · have dj : decide ((i : Int) < M) = true := decide_eq_true (by omega)
            have dj' : decide (i < M) = true := decide_eq_true hlt
            by_cases he : s3.2 = 0
            · have hst := hR.out.trans (lpR_step hlt he)
              have hzst := SzR.step (ndR_m bs k) (i := i) he hZ.out
              have ej : IntKind.i64.wrap ((i : Int) + 1) = ((i + 1 : Nat) : Int) := IntWalk.i64_in _ (by omega)
              have er : ndR bs k i L2 s3 = (L2 ++ [((gamR bs s3).1, (gmsR bs (gamR bs s3).2 k).1)], (gmsR bs (gamR bs s3).2 k).2) := rfl
              rw [er] at hst hzst
              clear er
              have kE := fun w1 h1 => ref55_Rgamma br bi A1 k1 c1 bs s3 w1 h1
              generalize gamR bs s3 = g1 at kE hst hzst
              obtain ⟨lv, s4⟩ := g1
              simp only at kE hst hzst
              obtain ⟨LN, hLN⟩ : ∃ LN, LN = (gmsR bs s4 k).1 := ⟨_, rfl⟩
              obtain ⟨SN, hSN⟩ : ∃ SN, SN = (gmsR bs s4 k).2 := ⟨_, rfl⟩
              rw [← hLN, ← hSN] at hst hzst
              replace hLN := Lib.hid hLN
              replace hSN := Lib.hid hSN
              replace hst := Lib.hid hst
              replace hzst := Lib.hid hzst
              rw [he] at b1
              have hTh := Lib.hid hT
              have hHh := Lib.hid hO
              have hOh := Lib.hid hN
              clear hR hZ he hT hO hN
              go_upto_region 15 with (go_at_call 62; refine (kE _ hTh.out.s).mono ?_; rintro e w1 ⟨rfl, hS1, hF1⟩)
              obtain ⟨w2, hw2⟩ : ∃ w2, w2 = w1.alloc (.cells #[.int .i64 lv, .slice none 0 0] 93) := ⟨_, rfl⟩
              have hb2 : Below w1.heap.size w1 w2 := by rw [hw2]; exact (Below.refl _ _).alloc (Nat.le_refl _) _
              have hxn : BxW w2 w1.heap.size [.int .i64 lv, .slice none 0 0] := by rw [hw2]; exact BxW.new w1 [_, _] _
              rw [← hw2]
              clear hw2
              have hz1 := hF1.size
              have hX2 : TnR wr w1.heap.size lv br bi A1 k1 c1 bs s4 0 none 0 w2 := ⟨hxn, Own.nil_, hF1.of hb2, hS1.of hb2⟩
              obtain ⟨xb, hxb⟩ : ∃ xb, xb = w1.heap.size := ⟨_, rfl⟩
              rw [← hxb] at hX2 ⊢
              have hxw : wr.heap.size ≤ xb := by omega
              have hxt : tb < xb := by have := hTh.out.x.1; omega
              replace hX2 := Lib.hid hX2
              clear hxb hz1 hxn hS1 hF1 kE hb2 b0 b1 hbz
              go_wp2_with fail
              obtain ⟨wo, hwo⟩ : ∃ wo, wo = wr := ⟨_, rfl⟩
              subst hwo
              go_loopw [12] (fun v wr => ∃ (j2 r : Nat) (E2 : Option Addr), v = .int .i64 (j2 : Int) ∧ j2 ≤ k ∧ TnR wo xb lv br bi A1 k1 c1 bs s4 j2 E2 r wr) (fun v _ => k - (intOf v).toNat)
              case atStart => exact ⟨0, 0, none, rfl, by omega, hX2.out⟩
              case round =>
                clear hX2
                obtain ⟨j2, r, E2, rfl, hj2, hX⟩ := hrel
                have hTr := hTh.out.read hK hX.s hX.f
                have tz := hTr.x.1
                have t0 : wr.cell? ⟨tb, 0, none⟩ = some (.int .i64 (k : Int)) := hTr.x.2.1 0
                obtain ⟨hxz, y0, y1, fy0, fy1⟩ := hX.x.open2
                by_cases hlt2 : j2 < k
                · have dk : decide ((j2 : Int) < k) = true := decide_eq_true (by omega)
                  have dk' : decide (j2 < k) = true := decide_eq_true hlt2
                  have ek : IntKind.i64.wrap ((j2 : Int) + 1) = ((j2 + 1 : Nat) : Int) := by rw [IntWalk.i64_in _ (by omega)]; omega
                  have hrow : ∀ q, (Value.slice E2 j2 r).ownBlock = some q → xb < q := fun q hq => by have := (hX.e.row.lt q hq).1; omega
                  have kG := fun w1 h1 => ref55_Rgamma br bi A1 k1 c1 bs (gmsR bs s4 j2).2 w1 h1
                  obtain ⟨a, ha⟩ : ∃ a, a = (gamR bs (gmsR bs s4 j2).2).1 := ⟨_, rfl⟩
                  rw [← ha] at kG
                  have hkb := hK.t.br
                  have hki := hK.t.bi
                  have kF' : Calls Tryz.prog 62 #[.pointer (some ⟨br, 0, none⟩)] wr.drew fun e w7 => e = .returned (.int .i64 a) ∧ Hid (BxW w7 xb [.int .i64 lv, .slice E2 j2 r] ∧ Fr2 (RB br bi) wo w7 ∧ RrS w7 br bi A1 k1 c1 bs (gmsR bs s4 (j2 + 1)).2) ∧ Own encI 1 3 (xb + 1) w7 E2 j2 r (gmsR bs s4 j2).1 ∧ xb < w7.heap.size ∧ w7.cell? ⟨xb, 1, none⟩ = some (.slice E2 j2 r) := by
                    have hd : Below wr.heap.size wr wr.drew := (Below.refl _ _).drew
                    refine (kG _ (hX.s.of hd)).mono ?_
                    rintro e w7 ⟨rfl, hS7, hf7⟩
                    have hx7 := (hX.x.of hd).frR hf7 (by rintro (k | k) <;> omega)
                    exact ⟨rfl, Lib.hid ⟨hx7, (hX.f.of hd).then hf7 (fun _ _ e => e), hS7⟩, (hX.e.of hd).fr2 hf7 (fun q hq => by have := hrow q hq; rintro (k | k) <;> omega), hx7.1, hx7.2.1 1⟩
                  have kA : ∀ (w7 : World), Hid (BxW w7 xb [.int .i64 lv, .slice E2 j2 r] ∧ Fr2 (RB br bi) wo w7 ∧ RrS w7 br bi A1 k1 c1 bs (gmsR bs s4 (j2 + 1)).2) → ∀ (A5 : Option Addr) (c5 : Nat) (w5 : World), Own encI 1 3 (xb + 1) w5 A5 (j2 + 1) c5 ((gmsR bs s4 j2).1 ++ [a]) → (w7.alloc (.cells #[.int .i64 a] 3)).grownBy w5 (Value.slice E2 j2 r).ownBlock →
                      w5.cell? ⟨xb, 1, none⟩ = some (.slice E2 j2 r) ∧ w5.frozen? ⟨xb, 1, none⟩ = false ∧ Hid (TnR wo xb lv br bi A1 k1 c1 bs s4 (j2 + 1) A5 c5 (w5.setCell ⟨xb, 1, none⟩ (.slice A5 (j2 + 1) c5))) := by
                    intro w7 h7 A5 c5 w5 hown5 hg5
                    obtain ⟨hx7, hf7, hS7⟩ := h7.out
                    have hal : Below w7.heap.size w7 (w7.alloc (.cells #[.int .i64 a] 3)) := (Below.refl _ _).alloc (Nat.le_refl _) _
                    have hx5 := (hx7.of hal).grown hg5 (fun e => by have := hrow _ e.symm; omega)
                    have hS5 := (hS7.of hal).gr hK.t hg5 (fun q hq => by have := hrow q hq; omega)
                    have hf5 := (hf7.of hal).grown hg5 (fun q hq => .inr (by have := hrow q hq; omega))
                    refine ⟨hx5.2.1 1, hx5.2.2 1, Lib.hid ⟨hx5.put 1 _ (by simp), ?_, hf5.put 1 _ (.inr hxw), hS5.gr hK.t (grownBy_set _ xb 1 _) (fun q e => by injection e with e; omega)⟩⟩
                    rw [show (gmsR bs s4 (j2 + 1)).1 = (gmsR bs s4 j2).1 ++ [a] by rw [ha]; rfl]
                    exact hown5.setBelow (by omega) _
                  generalize (gmsR bs s4 j2).1 = M2 at kF' kA
                  clear hX hTr fy0 fy1 y0 kG ha hrow
                  go_upto_region 18 with (fail)
                  go_region_law
                    (first
                    | (go_simp; go_at_call 62; refine kF'.mono ?_; rintro e w7 ⟨rfl, h7, hE7, hbx7, x7⟩)
                    | (refine step_append_el (by rfl) (.tmp 72) (.tmp 75) 91 (by rfl) encI 1 3 (.int .i64 0) 8 Tryz.underlying91 (by kernel_rfl) rfl (by decide) encI_len encI_one (xb + 1) _ _ _ M2 (by rfl) (Own.alloc hE7 _) a ⟨w7.heap.size, 0, none⟩ 1 (by rfl) (cells_new w7 (encI a) 3) (by omega) (by omega) (by simp only [World.size_alloc]; omega) ?_; intro A5 c5 w5 hown5 hg5 hb5; obtain ⟨o5, fo5, hfin⟩ := kA w7 h7 A5 c5 w5 hown5 hg5))
                  all_goals
                    go_wp2_with fail
                    go_roundw
                    case rel => exact ⟨j2 + 1, c5, A5, by go_num, by omega, hfin.out⟩
                    case measure => simp [intOf]; omega
                · obtain rfl : j2 = k := by omega
                  have dk : decide ((j2 : Int) < j2) = false := decide_eq_false (by omega)
                  have dk' : decide (j2 < j2) = false := decide_eq_false (by omega)
                  have ft2 : wr.frozen? ⟨tb, 2, none⟩ = false := hTr.x.2.2 2
                  have t2 : wr.cell? ⟨tb, 2, none⟩ = some (.slice NA nn nc) := hTr.x.2.1 2
                  have hOr := TaS.ownO hK hTh.out hOh.out hX.f
                  have hHr := TaS.own hK hHh.out hX.f
                  have hE2 := hX.e
                  have hSr := hX.s
                  rw [← hLN.out] at hE2
                  rw [← hSN.out] at hSr hTr
                  have hcap := hE2.capO
                  have hlenE := hE2.rd encI_len
                  have hEb := hE2.blk
                  have hlt9 := hOh.out.lt
                  have hHb := hOr.apart hHr (by decide)
                  have kA : ∀ (A5 : Option Addr) (c5 : Nat) (w5 : World), OwnO ekN 93 (tb + 1) (fun _ => False) w5 A5 (nn + 1) c5 (L2 ++ [(lv, LN)]) → (wr.alloc (.cells #[.int .i64 lv, .slice E2 j2 r] 93)).grownBy w5 (Value.slice NA nn nc).ownBlock →
                      w5.cell? ⟨tb, 2, none⟩ = some (.slice NA nn nc) ∧ w5.frozen? ⟨tb, 2, none⟩ = false ∧ tb < w5.heap.size ∧ Hid (TaS w tb br bi [.int .i64 0, .slice none 0 0, .slice none 0 0] [.int .i64 (j2 : Int), .slice HA hn hc, .slice A5 (nn + 1) c5] A1 k1 c1 bs SN (w5.setCell ⟨tb, 2, none⟩ (.slice A5 (nn + 1) c5)) ∧ Own encP 2 66 (tb + 1) (w5.setCell ⟨tb, 2, none⟩ (.slice A5 (nn + 1) c5)) HA hn hc L ∧ OwnO ekN 93 (tb + 1) (fun _ => False) (w5.setCell ⟨tb, 2, none⟩ (.slice A5 (nn + 1) c5)) A5 (nn + 1) c5 (L2 ++ [(lv, LN)])) := by
                    intro A5 c5 w5 hO5 hg5
                    have hal : Below wr.heap.size wr (wr.alloc (.cells #[.int .i64 lv, .slice E2 j2 r] 93)) := (Below.refl _ _).alloc (Nat.le_refl _) _
                    have hrow : ∀ q, (Value.slice NA nn nc).ownBlock = some q → tb < q := fun q hq => (hlt9 q hq).1
                    have hT5 := (hTr.of hal).gr hK hg5 hrow
                    have hH5 := (hHr.of hal).over2 hg5 (fun q hq e => hHb.2 q hq e)
                    exact ⟨hT5.x.2.1 2, hT5.x.2.2 2, hT5.x.1, Lib.hid ⟨hT5.put hK 2 _ (by simp), hH5.setBelow (Nat.lt_succ_self _) _, hO5.setO (b := tb) (Nat.lt_succ_self _) 2 _⟩⟩
                  clear hTr hHr hSr hX hHb hE2 fy0 fy1 hTh hHh hOh
                  go_wp2_with (first | (at_builtin; refine wpList_append_o (K := ekN) rfl (.tmp 79) (.tmp 81) 35 rfl 93 (.agg #[.int .i64 0, .slice none 0 0]) 32 Tryz.underlying35 (by kernel_rfl) rfl (tb + 1) _ _ _ _ rfl (OwnO.of hOr ((Below.refl _ _).alloc (Nat.le_refl _) _)) (lv, E2, j2, r) (lv, LN) ⟨rfl, hlenE.of ((Below.refl _ _).alloc (Nat.le_refl _) _), hcap⟩ (fun q hq => ⟨fun e => by have := (hEb q hq).2.1; have := (hlt9 q e.symm).2; omega, fun h => h, by have := (hEb q hq).2.1; omega⟩) ⟨wr.heap.size, 0, none⟩ 1 rfl (cells_new wr (encN (lv, E2, j2, r)) 93) (by omega) (by omega) (by simp only [World.size_alloc]; omega) ?_; intro A5 c5 w5 hO5 hg5 hb5 hl5; obtain ⟨x5, fx5, z5, hfin⟩ := kA A5 c5 w5 hO5 hg5; clear hO5 hg5 hb5 hl5))
                  all_goals
                    (try go_roundw)
                    case rel => exact ⟨i + 1, L2 ++ [(lv, LN)], SN, A5, nn + 1, c5, by go_num, by omega, hst, hzst, hfin.out.1, hfin.out.2.1, hfin.out.2.2⟩
                    case measure => simp [intOf]; omega
            · skip
              have d1 : (s3.2 == 0) = false := by simpa using he
              have hfin := Lib.hid (hR.out.trans (lpR_bad he))
              clear he
              have hHh := Lib.hid hO
              have hOh := Lib.hid hN
              obtain ⟨rc, hrc⟩ : ∃ rc, rc = trR (k : Int) L L2 := ⟨_, rfl⟩
              have hEf := hE.out
              rw [hfin.out] at hEf
              simp only at hEf
              have kR := ref12_Right (k : Int) HA NA hn hc nn nc L L2 wr (hO.rd encP_len) hN.rd
              rw [← hrc] at kR hEf
              replace hrc := Lib.hid hrc
              have hEf' := Lib.hid hEf
              obtain ⟨xz, x0, x1, x2⟩ := (⟨hT.x.1, hT.x.2.1 0, hT.x.2.1 1, hT.x.2.1 2⟩ : tb < wr.heap.size ∧ wr.cell? ⟨tb, 0, none⟩ = some (.int .i64 (k : Int)) ∧ wr.cell? ⟨tb, 1, none⟩ = some (.slice HA hn hc) ∧ wr.cell? ⟨tb, 2, none⟩ = some (.slice NA nn nc))
              replace hTh := Lib.hid hT
              clear hT hEf hO hN
              go_wp2_with fail
              go_at_call 52
              refine kR.mono ?_
              rintro e w6 ⟨rfl, hb6⟩
              have hT6 := hTh.out.of hb6
              replace hHh := Lib.hid (hHh.out.of hb6)
              replace hOh := Lib.hid (hOh.out.of hb6)
              have kE := ref55_Rend br bi A1 k1 c1 bs s3 w6 rc hT6.s
              rw [← hEf'.out] at kE
              replace hT6 := Lib.hid hT6
              clear hb6 kR xz x0 x1 x2
              obtain ⟨xz, x0, x1, x2⟩ := (⟨hT6.out.x.1, hT6.out.x.2.1 0, hT6.out.x.2.1 1, hT6.out.x.2.1 2⟩ : tb < w6.heap.size ∧ w6.cell? ⟨tb, 0, none⟩ = some (.int .i64 (k : Int)) ∧ w6.cell? ⟨tb, 1, none⟩ = some (.slice HA hn hc) ∧ w6.cell? ⟨tb, 2, none⟩ = some (.slice NA nn nc))
              go_wp2_with fail
              go_at_call 48
              refine kE.mono ?_
              rintro e w7 ⟨rfl, hb7⟩
              have hT7 := hT6.out.of hb7
              replace hHh := Lib.hid (hHh.out.of hb7)
              replace hOh := Lib.hid (hOh.out.of hb7)
              clear kE hb7 xz x0 x1 x2
              obtain ⟨xz, x0, x1, x2⟩ := (⟨hT7.x.1, hT7.x.2.1 0, hT7.x.2.1 1, hT7.x.2.1 2⟩ : tb < w7.heap.size ∧ w7.cell? ⟨tb, 0, none⟩ = some (.int .i64 (k : Int)) ∧ w7.cell? ⟨tb, 1, none⟩ = some (.slice HA hn hc) ∧ w7.cell? ⟨tb, 2, none⟩ = some (.slice NA nn nc))
              have r0 : w7.cell? ⟨w.heap.size, 0, none⟩ = some (.int .i64 0) := hT7.r.2.1 0
              have f0 : w7.frozen? ⟨w.heap.size, 0, none⟩ = false := hT7.r.2.2 0
              have r1 : w7.cell? ⟨w.heap.size, 1, none⟩ = some (.slice none 0 0) := hT7.r.2.1 1
              have f1 : w7.frozen? ⟨w.heap.size, 1, none⟩ = false := hT7.r.2.2 1
              have r2 : w7.cell? ⟨w.heap.size, 2, none⟩ = some (.slice none 0 0) := hT7.r.2.1 2
              have f2 : w7.frozen? ⟨w.heap.size, 2, none⟩ = false := hT7.r.2.2 2
              have rz := hT7.r.1
              have hrt7 := hT7.r
              have hB7 := Lib.hid hT7.b
              clear hT7
              by_cases h0 : E = 0
              · subst h0
                have hV := hok.out rfl
                injection hV with hv1 hv2
                injection hv2 with hv2 hv3
                rw [hfin.out] at hv3
                simp only at hv3
                replace hv1 := hv1.symm
                replace hv2 := hv2.symm
                replace hv3 := hv3.symm
                subst hv1 hv2 hv3
                have hB8 : Below w.heap.size w (((w7.setCell ⟨w.heap.size, 0, none⟩ (.int .i64 (k : Int))).setCell ⟨w.heap.size, 1, none⟩ (.slice HA hn hc)).setCell ⟨w.heap.size, 2, none⟩ (.slice NA nn nc)) := (((hB7.out.setCell (Nat.le_refl _) _).setCell (Nat.le_refl _) _).setCell (Nat.le_refl _) _)
                have hx8 : BxW (((w7.setCell ⟨w.heap.size, 0, none⟩ (.int .i64 (k : Int))).setCell ⟨w.heap.size, 1, none⟩ (.slice HA hn hc)).setCell ⟨w.heap.size, 2, none⟩ (.slice NA nn nc)) w.heap.size [.int .i64 (k : Int), .slice HA hn hc, .slice NA nn nc] := (((hrt7.put 0 _ (by simp)).put 1 _ (by simp)).put 2 _ (by simp))
                have hH8 := (((hHh.out.setBelow (b := w.heap.size) (i := 0) hrtB (.int .i64 (k : Int))).setBelow (b := w.heap.size) (i := 1) hrtB (.slice HA hn hc)).setBelow (b := w.heap.size) (i := 2) hrtB (.slice NA nn nc)).rd encP_len
                change Rd encP 2 (((w7.setCell ⟨w.heap.size, 0, none⟩ (.int .i64 (k : Int))).setCell ⟨w.heap.size, 1, none⟩ (.slice HA hn hc)).setCell ⟨w.heap.size, 2, none⟩ (.slice NA nn nc)) HA hn L at hH8
                replace hH8 := Lib.hid hH8
                have hO8 := (((hOh.out.setO (b := w.heap.size) hrtB 0 (.int .i64 (k : Int))).setO (b := w.heap.size) hrtB 1 (.slice HA hn hc)).setO (b := w.heap.size) hrtB 2 (.slice NA nn nc)).rd
                change RdX ekN (((w7.setCell ⟨w.heap.size, 0, none⟩ (.int .i64 (k : Int))).setCell ⟨w.heap.size, 1, none⟩ (.slice HA hn hc)).setCell ⟨w.heap.size, 2, none⟩ (.slice NA nn nc)) NA nn L2 at hO8
                replace hO8 := Lib.hid hO8
                replace hB8 := Lib.hid hB8
                clear hrt7
                go_wp2_with fail
                obtain ⟨w8, hw8⟩ : ∃ w8, w8 = ((w7.setCell ⟨w.heap.size, 0, none⟩ (.int .i64 (k : Int))).setCell ⟨w.heap.size, 1, none⟩ (.slice HA hn hc)).setCell ⟨w.heap.size, 2, none⟩ (.slice NA nn nc) := ⟨_, rfl⟩
                rw [← hw8] at hx8 hB8 hH8 hO8 ⊢
                clear hw8
                have y0 : w8.cell? ⟨w.heap.size, 0, none⟩ = some (.int .i64 (k : Int)) := hx8.2.1 0
                have y1 : w8.cell? ⟨w.heap.size, 1, none⟩ = some (.slice HA hn hc) := hx8.2.1 1
                have y2 : w8.cell? ⟨w.heap.size, 2, none⟩ = some (.slice NA nn nc) := hx8.2.1 2
                clear x0 r0 f0 x1 r1 f1 x2 r2 f2 hx8
                refine bodyPost_ret (v := .tuple #[.agg #[.int .i64 (k : Int), .slice HA hn hc, .slice NA nn nc], .int .i64 0]) (by simp [results, Tryz.results20, go_sem, *, ↓IntWalk.iteOmega]) rfl ?_
                exact ⟨HA, hn, hc, NA, nn, nc, rfl, hH8.out, hO8.out, hB8.out⟩
              · have d1 : (E == 0) = false := by simpa using h0
                have d2 : (E != 0) = true := by simpa using h0
                have hV := hbd.out h0
                injection hV with hv1 hv2
                injection hv2 with hv2 hv3
                subst hv1 hv2 hv3
                have hB8 : Below w.heap.size w (((w7.setCell ⟨w.heap.size, 0, none⟩ (.int .i64 0)).setCell ⟨w.heap.size, 1, none⟩ (.slice none 0 0)).setCell ⟨w.heap.size, 2, none⟩ (.slice none 0 0)) := (((hB7.out.setCell (Nat.le_refl _) _).setCell (Nat.le_refl _) _).setCell (Nat.le_refl _) _)
                have hx8 : BxW (((w7.setCell ⟨w.heap.size, 0, none⟩ (.int .i64 0)).setCell ⟨w.heap.size, 1, none⟩ (.slice none 0 0)).setCell ⟨w.heap.size, 2, none⟩ (.slice none 0 0)) w.heap.size [.int .i64 0, .slice none 0 0, .slice none 0 0] := (((hrt7.put 0 _ (by simp)).put 1 _ (by simp)).put 2 _ (by simp))
                replace hB8 := Lib.hid hB8
                clear hrt7
                go_wp2_with fail
                obtain ⟨w8, hw8⟩ : ∃ w8, w8 = ((w7.setCell ⟨w.heap.size, 0, none⟩ (.int .i64 0)).setCell ⟨w.heap.size, 1, none⟩ (.slice none 0 0)).setCell ⟨w.heap.size, 2, none⟩ (.slice none 0 0) := ⟨_, rfl⟩
                rw [← hw8] at hx8 hB8 ⊢
                clear hw8
                have y0 : w8.cell? ⟨w.heap.size, 0, none⟩ = some (.int .i64 0) := hx8.2.1 0
                have y1 : w8.cell? ⟨w.heap.size, 1, none⟩ = some (.slice none 0 0) := hx8.2.1 1
                have y2 : w8.cell? ⟨w.heap.size, 2, none⟩ = some (.slice none 0 0) := hx8.2.1 2
                clear x0 r0 f0 x1 r1 f1 x2 r2 f2 hx8
                refine bodyPost_ret (v := .tuple #[.agg #[.int .i64 0, .slice none 0 0, .slice none 0 0], .int .i64 E]) (by simp [results, Tryz.results20, go_sem, *, ↓IntWalk.iteOmega]) rfl ?_
                exact ⟨none, 0, 0, none, 0, 0, rfl, Rd.nil_, RdX.nil_, hB8.out⟩
          · skip
            obtain rfl : i = M := by omega
            have dj : decide ((i : Int) < i) = false := decide_eq_false (by omega)
            have dj' : decide (i < i) = false := decide_eq_false (by omega)
            have hfin := Lib.hid (hR.out.trans (lpR_done (Nat.le_refl _)))
            have hHh := Lib.hid hO
            have hOh := Lib.hid hN
            obtain ⟨rc, hrc⟩ : ∃ rc, rc = trR (k : Int) L L2 := ⟨_, rfl⟩
            have hEf := hE.out
            rw [hfin.out] at hEf
            simp only at hEf
            have kR := ref12_Right (k : Int) HA NA hn hc nn nc L L2 wr (hO.rd encP_len) hN.rd
            rw [← hrc] at kR hEf
            replace hrc := Lib.hid hrc
            have hEf' := Lib.hid hEf
            obtain ⟨xz, x0, x1, x2⟩ := (⟨hT.x.1, hT.x.2.1 0, hT.x.2.1 1, hT.x.2.1 2⟩ : tb < wr.heap.size ∧ wr.cell? ⟨tb, 0, none⟩ = some (.int .i64 (k : Int)) ∧ wr.cell? ⟨tb, 1, none⟩ = some (.slice HA hn hc) ∧ wr.cell? ⟨tb, 2, none⟩ = some (.slice NA nn nc))
            replace hTh := Lib.hid hT
            clear hT hEf hO hN
            go_wp2_with fail
            go_at_call 52
            refine kR.mono ?_
            rintro e w6 ⟨rfl, hb6⟩
            have hT6 := hTh.out.of hb6
            replace hHh := Lib.hid (hHh.out.of hb6)
            replace hOh := Lib.hid (hOh.out.of hb6)
            have kE := ref55_Rend br bi A1 k1 c1 bs s3 w6 rc hT6.s
            rw [← hEf'.out] at kE
            replace hT6 := Lib.hid hT6
            clear hb6 kR xz x0 x1 x2
            obtain ⟨xz, x0, x1, x2⟩ := (⟨hT6.out.x.1, hT6.out.x.2.1 0, hT6.out.x.2.1 1, hT6.out.x.2.1 2⟩ : tb < w6.heap.size ∧ w6.cell? ⟨tb, 0, none⟩ = some (.int .i64 (k : Int)) ∧ w6.cell? ⟨tb, 1, none⟩ = some (.slice HA hn hc) ∧ w6.cell? ⟨tb, 2, none⟩ = some (.slice NA nn nc))
            go_wp2_with fail
            go_at_call 48
            refine kE.mono ?_
            rintro e w7 ⟨rfl, hb7⟩
            have hT7 := hT6.out.of hb7
            replace hHh := Lib.hid (hHh.out.of hb7)
            replace hOh := Lib.hid (hOh.out.of hb7)
            clear kE hb7 xz x0 x1 x2
            obtain ⟨xz, x0, x1, x2⟩ := (⟨hT7.x.1, hT7.x.2.1 0, hT7.x.2.1 1, hT7.x.2.1 2⟩ : tb < w7.heap.size ∧ w7.cell? ⟨tb, 0, none⟩ = some (.int .i64 (k : Int)) ∧ w7.cell? ⟨tb, 1, none⟩ = some (.slice HA hn hc) ∧ w7.cell? ⟨tb, 2, none⟩ = some (.slice NA nn nc))
            have r0 : w7.cell? ⟨w.heap.size, 0, none⟩ = some (.int .i64 0) := hT7.r.2.1 0
            have f0 : w7.frozen? ⟨w.heap.size, 0, none⟩ = false := hT7.r.2.2 0
            have r1 : w7.cell? ⟨w.heap.size, 1, none⟩ = some (.slice none 0 0) := hT7.r.2.1 1
            have f1 : w7.frozen? ⟨w.heap.size, 1, none⟩ = false := hT7.r.2.2 1
            have r2 : w7.cell? ⟨w.heap.size, 2, none⟩ = some (.slice none 0 0) := hT7.r.2.1 2
            have f2 : w7.frozen? ⟨w.heap.size, 2, none⟩ = false := hT7.r.2.2 2
            have rz := hT7.r.1
            have hrt7 := hT7.r
            have hB7 := Lib.hid hT7.b
            clear hT7
            by_cases h0 : E = 0
            · subst h0
              have hV := hok.out rfl
              injection hV with hv1 hv2
              injection hv2 with hv2 hv3
              rw [hfin.out] at hv3
              simp only at hv3
              replace hv1 := hv1.symm
              replace hv2 := hv2.symm
              replace hv3 := hv3.symm
              subst hv1 hv2 hv3
              have hB8 : Below w.heap.size w (((w7.setCell ⟨w.heap.size, 0, none⟩ (.int .i64 (k : Int))).setCell ⟨w.heap.size, 1, none⟩ (.slice HA hn hc)).setCell ⟨w.heap.size, 2, none⟩ (.slice NA nn nc)) := (((hB7.out.setCell (Nat.le_refl _) _).setCell (Nat.le_refl _) _).setCell (Nat.le_refl _) _)
              have hx8 : BxW (((w7.setCell ⟨w.heap.size, 0, none⟩ (.int .i64 (k : Int))).setCell ⟨w.heap.size, 1, none⟩ (.slice HA hn hc)).setCell ⟨w.heap.size, 2, none⟩ (.slice NA nn nc)) w.heap.size [.int .i64 (k : Int), .slice HA hn hc, .slice NA nn nc] := (((hrt7.put 0 _ (by simp)).put 1 _ (by simp)).put 2 _ (by simp))
              have hH8 := (((hHh.out.setBelow (b := w.heap.size) (i := 0) hrtB (.int .i64 (k : Int))).setBelow (b := w.heap.size) (i := 1) hrtB (.slice HA hn hc)).setBelow (b := w.heap.size) (i := 2) hrtB (.slice NA nn nc)).rd encP_len
              change Rd encP 2 (((w7.setCell ⟨w.heap.size, 0, none⟩ (.int .i64 (k : Int))).setCell ⟨w.heap.size, 1, none⟩ (.slice HA hn hc)).setCell ⟨w.heap.size, 2, none⟩ (.slice NA nn nc)) HA hn L at hH8
              replace hH8 := Lib.hid hH8
              have hO8 := (((hOh.out.setO (b := w.heap.size) hrtB 0 (.int .i64 (k : Int))).setO (b := w.heap.size) hrtB 1 (.slice HA hn hc)).setO (b := w.heap.size) hrtB 2 (.slice NA nn nc)).rd
              change RdX ekN (((w7.setCell ⟨w.heap.size, 0, none⟩ (.int .i64 (k : Int))).setCell ⟨w.heap.size, 1, none⟩ (.slice HA hn hc)).setCell ⟨w.heap.size, 2, none⟩ (.slice NA nn nc)) NA nn L2 at hO8
              replace hO8 := Lib.hid hO8
              replace hB8 := Lib.hid hB8
              clear hrt7
              go_wp2_with fail
              obtain ⟨w8, hw8⟩ : ∃ w8, w8 = ((w7.setCell ⟨w.heap.size, 0, none⟩ (.int .i64 (k : Int))).setCell ⟨w.heap.size, 1, none⟩ (.slice HA hn hc)).setCell ⟨w.heap.size, 2, none⟩ (.slice NA nn nc) := ⟨_, rfl⟩
              rw [← hw8] at hx8 hB8 hH8 hO8 ⊢
              clear hw8
              have y0 : w8.cell? ⟨w.heap.size, 0, none⟩ = some (.int .i64 (k : Int)) := hx8.2.1 0
              have y1 : w8.cell? ⟨w.heap.size, 1, none⟩ = some (.slice HA hn hc) := hx8.2.1 1
              have y2 : w8.cell? ⟨w.heap.size, 2, none⟩ = some (.slice NA nn nc) := hx8.2.1 2
              clear x0 r0 f0 x1 r1 f1 x2 r2 f2 hx8
              refine bodyPost_ret (v := .tuple #[.agg #[.int .i64 (k : Int), .slice HA hn hc, .slice NA nn nc], .int .i64 0]) (by simp [results, Tryz.results20, go_sem, *, ↓IntWalk.iteOmega]) rfl ?_
              exact ⟨HA, hn, hc, NA, nn, nc, rfl, hH8.out, hO8.out, hB8.out⟩
            · have d1 : (E == 0) = false := by simpa using h0
              have d2 : (E != 0) = true := by simpa using h0
              have hV := hbd.out h0
              injection hV with hv1 hv2
              injection hv2 with hv2 hv3
              subst hv1 hv2 hv3
              have hB8 : Below w.heap.size w (((w7.setCell ⟨w.heap.size, 0, none⟩ (.int .i64 0)).setCell ⟨w.heap.size, 1, none⟩ (.slice none 0 0)).setCell ⟨w.heap.size, 2, none⟩ (.slice none 0 0)) := (((hB7.out.setCell (Nat.le_refl _) _).setCell (Nat.le_refl _) _).setCell (Nat.le_refl _) _)
              have hx8 : BxW (((w7.setCell ⟨w.heap.size, 0, none⟩ (.int .i64 0)).setCell ⟨w.heap.size, 1, none⟩ (.slice none 0 0)).setCell ⟨w.heap.size, 2, none⟩ (.slice none 0 0)) w.heap.size [.int .i64 0, .slice none 0 0, .slice none 0 0] := (((hrt7.put 0 _ (by simp)).put 1 _ (by simp)).put 2 _ (by simp))
              replace hB8 := Lib.hid hB8
              clear hrt7
              go_wp2_with fail
              obtain ⟨w8, hw8⟩ : ∃ w8, w8 = ((w7.setCell ⟨w.heap.size, 0, none⟩ (.int .i64 0)).setCell ⟨w.heap.size, 1, none⟩ (.slice none 0 0)).setCell ⟨w.heap.size, 2, none⟩ (.slice none 0 0) := ⟨_, rfl⟩
              rw [← hw8] at hx8 hB8 ⊢
              clear hw8
              have y0 : w8.cell? ⟨w.heap.size, 0, none⟩ = some (.int .i64 0) := hx8.2.1 0
              have y1 : w8.cell? ⟨w.heap.size, 1, none⟩ = some (.slice none 0 0) := hx8.2.1 1
              have y2 : w8.cell? ⟨w.heap.size, 2, none⟩ = some (.slice none 0 0) := hx8.2.1 2
              clear x0 r0 f0 x1 r1 f1 x2 r2 f2 hx8
              refine bodyPost_ret (v := .tuple #[.agg #[.int .i64 0, .slice none 0 0, .slice none 0 0], .int .i64 E]) (by simp [results, Tryz.results20, go_sem, *, ↓IntWalk.iteOmega]) rfl ?_
              exact ⟨none, 0, 0, none, 0, 0, rfl, Rd.nil_, RdX.nil_, hB8.out⟩
    · skip
      obtain rfl : j = N := by omega
      have dj : decide ((j : Int) < j) = false := decide_eq_false (by omega)
      have dj' : decide (j < j) = false := decide_eq_false (by omega)
      have hfin := Lib.hid (hR.out.trans (lpR_done (Nat.le_refl _)))
      have hE1 := hE.out
      rw [hfin.out] at hE1
      simp only at hE1
      have hok1 := hok.out
      rw [hfin.out] at hok1
      simp only at hok1
      have hN2' := hN2.out
      rw [hfin.out] at hN2'
      simp only at hN2'
      clear hE hok hN2 hfin hR
      have hE := Lib.hid hE1
      have hok := Lib.hid hok1
      clear hE1 hok1
      have kG := ref55_Rgamma br bi A1 k1 c1 bs s2 wr hT.s
      have hnn := gamR_nn (bs := bs) (s := s2)
      generalize gamR bs s2 = g3 at kG hN2' hnn
      obtain ⟨gm, sB⟩ := g3
      simp only at kG hN2' hnn
      obtain ⟨M, rfl⟩ : ∃ M : Nat, gm = (M : Int) := ⟨gm.toNat, by omega⟩
      rw [Int.toNat_natCast] at hN2'
      have hM63 : M ≤ 9223372036854775807 := by omega
      replace hN2' := Lib.hid hN2'
      have hTh := Lib.hid hT
      have hHh := Lib.hid hO
      clear hnn hT hO hZ
      go_wp2_with fail
      go_at_call 62
      refine kG.mono ?_
      rintro e w5 ⟨rfl, hS5, hF5⟩
      have hT5 := Lib.hid (hTh.out.read hK hS5 hF5)
      have hH5 := Lib.hid (TaS.own hK hHh.out hF5)
      clear hTh hHh hS5 hF5 kG b0 b1 hbz
      go_wp2_with fail
      go_loopw [10] (fun v wr => ∃ (i : Nat) (L2 : List Nd) (s3 : RS) (NA : Option Addr) (nn nc : Nat), v = .int .i64 (i : Int) ∧ i ≤ M ∧ Hid (R2 = lpR (ndR bs k) (M - i) i L2 s3) ∧ Hid (SzR L2 s3) ∧ TaS w tb br bi [.int .i64 0, .slice none 0 0, .slice none 0 0] [.int .i64 (k : Int), .slice HA hn hc, .slice NA nn nc] A1 k1 c1 bs s3 wr ∧ Own encP 2 66 (tb + 1) wr HA hn hc L ∧ OwnO ekN 93 (tb + 1) (fun _ => False) wr NA nn nc L2) (fun v _ => M - (intOf v).toNat)
      case atStart => exact ⟨0, [], sB, none, 0, 0, rfl, by omega, hN2', Lib.hid SzR.nil_, hT5.out, hH5.out, OwnO.nil_⟩
      case round =>
        clear hT5 hH5 hN2'
        obtain ⟨i, L2, s3, NA, nn, nc, rfl, hi, hR, hZ, hT, hO, hN⟩ := hrel
        obtain ⟨hbz, b0, b1, -, -⟩ := hT.s.box.open2
        have hon2 : nn ≤ 1000000 := by have := hN.len; have := hZ.out.1; have := hT.s.le; omega
        by_cases hlt : i < M
        · have dj : decide ((i : Int) < M) = true := decide_eq_true (by omega)
          have dj' : decide (i < M) = true := decide_eq_true hlt
          by_cases he : s3.2 = 0
          · have hst := hR.out.trans (lpR_step hlt he)
            have hzst := SzR.step (ndR_m bs k) (i := i) he hZ.out
            have ej : IntKind.i64.wrap ((i : Int) + 1) = ((i + 1 : Nat) : Int) := IntWalk.i64_in _ (by omega)
            have er : ndR bs k i L2 s3 = (L2 ++ [((gamR bs s3).1, (gmsR bs (gamR bs s3).2 k).1)], (gmsR bs (gamR bs s3).2 k).2) := rfl
            rw [er] at hst hzst
            clear er
            have kE := fun w1 h1 => ref55_Rgamma br bi A1 k1 c1 bs s3 w1 h1
            generalize gamR bs s3 = g1 at kE hst hzst
            obtain ⟨lv, s4⟩ := g1
            simp only at kE hst hzst
            obtain ⟨LN, hLN⟩ : ∃ LN, LN = (gmsR bs s4 k).1 := ⟨_, rfl⟩
            obtain ⟨SN, hSN⟩ : ∃ SN, SN = (gmsR bs s4 k).2 := ⟨_, rfl⟩
            rw [← hLN, ← hSN] at hst hzst
            replace hLN := Lib.hid hLN
            replace hSN := Lib.hid hSN
            replace hst := Lib.hid hst
            replace hzst := Lib.hid hzst
            rw [he] at b1
            have hTh := Lib.hid hT
            have hHh := Lib.hid hO
            have hOh := Lib.hid hN
            clear hR hZ he hT hO hN
            go_upto_region 15 with (go_at_call 62; refine (kE _ hTh.out.s).mono ?_; rintro e w1 ⟨rfl, hS1, hF1⟩)
            obtain ⟨w2, hw2⟩ : ∃ w2, w2 = w1.alloc (.cells #[.int .i64 lv, .slice none 0 0] 93) := ⟨_, rfl⟩
            have hb2 : Below w1.heap.size w1 w2 := by rw [hw2]; exact (Below.refl _ _).alloc (Nat.le_refl _) _
            have hxn : BxW w2 w1.heap.size [.int .i64 lv, .slice none 0 0] := by rw [hw2]; exact BxW.new w1 [_, _] _
            rw [← hw2]
            clear hw2
            have hz1 := hF1.size
            have hX2 : TnR wr w1.heap.size lv br bi A1 k1 c1 bs s4 0 none 0 w2 := ⟨hxn, Own.nil_, hF1.of hb2, hS1.of hb2⟩
            obtain ⟨xb, hxb⟩ : ∃ xb, xb = w1.heap.size := ⟨_, rfl⟩
            rw [← hxb] at hX2 ⊢
            have hxw : wr.heap.size ≤ xb := by omega
            have hxt : tb < xb := by have := hTh.out.x.1; omega
            replace hX2 := Lib.hid hX2
            clear hxb hz1 hxn hS1 hF1 kE hb2 b0 b1 hbz
            go_wp2_with fail
            obtain ⟨wo, hwo⟩ : ∃ wo, wo = wr := ⟨_, rfl⟩
            subst hwo
            go_loopw [12] (fun v wr => ∃ (j2 r : Nat) (E2 : Option Addr), v = .int .i64 (j2 : Int) ∧ j2 ≤ k ∧ TnR wo xb lv br bi A1 k1 c1 bs s4 j2 E2 r wr) (fun v _ => k - (intOf v).toNat)
            case atStart => exact ⟨0, 0, none, rfl, by omega, hX2.out⟩
            case round =>
              clear hX2
              obtain ⟨j2, r, E2, rfl, hj2, hX⟩ := hrel
              have hTr := hTh.out.read hK hX.s hX.f
              have tz := hTr.x.1
              have t0 : wr.cell? ⟨tb, 0, none⟩ = some (.int .i64 (k : Int)) := hTr.x.2.1 0
              obtain ⟨hxz, y0, y1, fy0, fy1⟩ := hX.x.open2
              by_cases hlt2 : j2 < k
              · have dk : decide ((j2 : Int) < k) = true := decide_eq_true (by omega)
                have dk' : decide (j2 < k) = true := decide_eq_true hlt2
                have ek : IntKind.i64.wrap ((j2 : Int) + 1) = ((j2 + 1 : Nat) : Int) := by rw [IntWalk.i64_in _ (by omega)]; omega
                have hrow : ∀ q, (Value.slice E2 j2 r).ownBlock = some q → xb < q := fun q hq => by have := (hX.e.row.lt q hq).1; omega
                have kG := fun w1 h1 => ref55_Rgamma br bi A1 k1 c1 bs (gmsR bs s4 j2).2 w1 h1
                obtain ⟨a, ha⟩ : ∃ a, a = (gamR bs (gmsR bs s4 j2).2).1 := ⟨_, rfl⟩
                rw [← ha] at kG
                have hkb := hK.t.br
                have hki := hK.t.bi
                have kF' : Calls Tryz.prog 62 #[.pointer (some ⟨br, 0, none⟩)] wr.drew fun e w7 => e = .returned (.int .i64 a) ∧ Hid (BxW w7 xb [.int .i64 lv, .slice E2 j2 r] ∧ Fr2 (RB br bi) wo w7 ∧ RrS w7 br bi A1 k1 c1 bs (gmsR bs s4 (j2 + 1)).2) ∧ Own encI 1 3 (xb + 1) w7 E2 j2 r (gmsR bs s4 j2).1 ∧ xb < w7.heap.size ∧ w7.cell? ⟨xb, 1, none⟩ = some (.slice E2 j2 r) := by
                  have hd : Below wr.heap.size wr wr.drew := (Below.refl _ _).drew
                  refine (kG _ (hX.s.of hd)).mono ?_
                  rintro e w7 ⟨rfl, hS7, hf7⟩
                  have hx7 := (hX.x.of hd).frR hf7 (by rintro (k | k) <;> omega)
                  exact ⟨rfl, Lib.hid ⟨hx7, (hX.f.of hd).then hf7 (fun _ _ e => e), hS7⟩, (hX.e.of hd).fr2 hf7 (fun q hq => by have := hrow q hq; rintro (k | k) <;> omega), hx7.1, hx7.2.1 1⟩
                have kA : ∀ (w7 : World), Hid (BxW w7 xb [.int .i64 lv, .slice E2 j2 r] ∧ Fr2 (RB br bi) wo w7 ∧ RrS w7 br bi A1 k1 c1 bs (gmsR bs s4 (j2 + 1)).2) → ∀ (A5 : Option Addr) (c5 : Nat) (w5 : World), Own encI 1 3 (xb + 1) w5 A5 (j2 + 1) c5 ((gmsR bs s4 j2).1 ++ [a]) → (w7.alloc (.cells #[.int .i64 a] 3)).grownBy w5 (Value.slice E2 j2 r).ownBlock →
                    w5.cell? ⟨xb, 1, none⟩ = some (.slice E2 j2 r) ∧ w5.frozen? ⟨xb, 1, none⟩ = false ∧ Hid (TnR wo xb lv br bi A1 k1 c1 bs s4 (j2 + 1) A5 c5 (w5.setCell ⟨xb, 1, none⟩ (.slice A5 (j2 + 1) c5))) := by
                  intro w7 h7 A5 c5 w5 hown5 hg5
                  obtain ⟨hx7, hf7, hS7⟩ := h7.out
                  have hal : Below w7.heap.size w7 (w7.alloc (.cells #[.int .i64 a] 3)) := (Below.refl _ _).alloc (Nat.le_refl _) _
                  have hx5 := (hx7.of hal).grown hg5 (fun e => by have := hrow _ e.symm; omega)
                  have hS5 := (hS7.of hal).gr hK.t hg5 (fun q hq => by have := hrow q hq; omega)
                  have hf5 := (hf7.of hal).grown hg5 (fun q hq => .inr (by have := hrow q hq; omega))
                  refine ⟨hx5.2.1 1, hx5.2.2 1, Lib.hid ⟨hx5.put 1 _ (by simp), ?_, hf5.put 1 _ (.inr hxw), hS5.gr hK.t (grownBy_set _ xb 1 _) (fun q e => by injection e with e; omega)⟩⟩
                  rw [show (gmsR bs s4 (j2 + 1)).1 = (gmsR bs s4 j2).1 ++ [a] by rw [ha]; rfl]
                  exact hown5.setBelow (by omega) _
                generalize (gmsR bs s4 j2).1 = M2 at kF' kA
                clear hX hTr fy0 fy1 y0 kG ha hrow
                go_upto_region 18 with (fail)
                go_region_law
                  (first
                  | (go_simp; go_at_call 62; refine kF'.mono ?_; rintro e w7 ⟨rfl, h7, hE7, hbx7, x7⟩)
                  | (refine step_append_el (by rfl) (.tmp 72) (.tmp 75) 91 (by rfl) encI 1 3 (.int .i64 0) 8 Tryz.underlying91 (by kernel_rfl) rfl (by decide) encI_len encI_one (xb + 1) _ _ _ M2 (by rfl) (Own.alloc hE7 _) a ⟨w7.heap.size, 0, none⟩ 1 (by rfl) (cells_new w7 (encI a) 3) (by omega) (by omega) (by simp only [World.size_alloc]; omega) ?_; intro A5 c5 w5 hown5 hg5 hb5; obtain ⟨o5, fo5, hfin⟩ := kA w7 h7 A5 c5 w5 hown5 hg5))
                all_goals
                  go_wp2_with fail
                  go_roundw
                  case rel => exact ⟨j2 + 1, c5, A5, by go_num, by omega, hfin.out⟩
                  case measure => simp [intOf]; omega
              · obtain rfl : j2 = k := by omega
                have dk : decide ((j2 : Int) < j2) = false := decide_eq_false (by omega)
                have dk' : decide (j2 < j2) = false := decide_eq_false (by omega)
                have ft2 : wr.frozen? ⟨tb, 2, none⟩ = false := hTr.x.2.2 2
                have t2 : wr.cell? ⟨tb, 2, none⟩ = some (.slice NA nn nc) := hTr.x.2.1 2
                have hOr := TaS.ownO hK hTh.out hOh.out hX.f
                have hHr := TaS.own hK hHh.out hX.f
                have hE2 := hX.e
                have hSr := hX.s
                rw [← hLN.out] at hE2
                rw [← hSN.out] at hSr hTr
                have hcap := hE2.capO
                have hlenE := hE2.rd encI_len
                have hEb := hE2.blk
                have hlt9 := hOh.out.lt
                have hHb := hOr.apart hHr (by decide)
                have kA : ∀ (A5 : Option Addr) (c5 : Nat) (w5 : World), OwnO ekN 93 (tb + 1) (fun _ => False) w5 A5 (nn + 1) c5 (L2 ++ [(lv, LN)]) → (wr.alloc (.cells #[.int .i64 lv, .slice E2 j2 r] 93)).grownBy w5 (Value.slice NA nn nc).ownBlock →
                    w5.cell? ⟨tb, 2, none⟩ = some (.slice NA nn nc) ∧ w5.frozen? ⟨tb, 2, none⟩ = false ∧ tb < w5.heap.size ∧ Hid (TaS w tb br bi [.int .i64 0, .slice none 0 0, .slice none 0 0] [.int .i64 (j2 : Int), .slice HA hn hc, .slice A5 (nn + 1) c5] A1 k1 c1 bs SN (w5.setCell ⟨tb, 2, none⟩ (.slice A5 (nn + 1) c5)) ∧ Own encP 2 66 (tb + 1) (w5.setCell ⟨tb, 2, none⟩ (.slice A5 (nn + 1) c5)) HA hn hc L ∧ OwnO ekN 93 (tb + 1) (fun _ => False) (w5.setCell ⟨tb, 2, none⟩ (.slice A5 (nn + 1) c5)) A5 (nn + 1) c5 (L2 ++ [(lv, LN)])) := by
                  intro A5 c5 w5 hO5 hg5
                  have hal : Below wr.heap.size wr (wr.alloc (.cells #[.int .i64 lv, .slice E2 j2 r] 93)) := (Below.refl _ _).alloc (Nat.le_refl _) _
                  have hrow : ∀ q, (Value.slice NA nn nc).ownBlock = some q → tb < q := fun q hq => (hlt9 q hq).1
                  have hT5 := (hTr.of hal).gr hK hg5 hrow
                  have hH5 := (hHr.of hal).over2 hg5 (fun q hq e => hHb.2 q hq e)
                  exact ⟨hT5.x.2.1 2, hT5.x.2.2 2, hT5.x.1, Lib.hid ⟨hT5.put hK 2 _ (by simp), hH5.setBelow (Nat.lt_succ_self _) _, hO5.setO (b := tb) (Nat.lt_succ_self _) 2 _⟩⟩
                clear hTr hHr hSr hX hHb hE2 fy0 fy1 hTh hHh hOh
                go_wp2_with (first | (at_builtin; refine wpList_append_o (K := ekN) rfl (.tmp 79) (.tmp 81) 35 rfl 93 (.agg #[.int .i64 0, .slice none 0 0]) 32 Tryz.underlying35 (by kernel_rfl) rfl (tb + 1) _ _ _ _ rfl (OwnO.of hOr ((Below.refl _ _).alloc (Nat.le_refl _) _)) (lv, E2, j2, r) (lv, LN) ⟨rfl, hlenE.of ((Below.refl _ _).alloc (Nat.le_refl _) _), hcap⟩ (fun q hq => ⟨fun e => by have := (hEb q hq).2.1; have := (hlt9 q e.symm).2; omega, fun h => h, by have := (hEb q hq).2.1; omega⟩) ⟨wr.heap.size, 0, none⟩ 1 rfl (cells_new wr (encN (lv, E2, j2, r)) 93) (by omega) (by omega) (by simp only [World.size_alloc]; omega) ?_; intro A5 c5 w5 hO5 hg5 hb5 hl5; obtain ⟨x5, fx5, z5, hfin⟩ := kA A5 c5 w5 hO5 hg5; clear hO5 hg5 hb5 hl5))
                all_goals
                  (try go_roundw)
                  case rel => exact ⟨i + 1, L2 ++ [(lv, LN)], SN, A5, nn + 1, c5, by go_num, by omega, hst, hzst, hfin.out.1, hfin.out.2.1, hfin.out.2.2⟩
                  case measure => simp [intOf]; omega
          · skip
            have d1 : (s3.2 == 0) = false := by simpa using he
            have hfin := Lib.hid (hR.out.trans (lpR_bad he))
            clear he
            have hHh := Lib.hid hO
            have hOh := Lib.hid hN
            obtain ⟨rc, hrc⟩ : ∃ rc, rc = trR (k : Int) L L2 := ⟨_, rfl⟩
            have hEf := hE.out
            rw [hfin.out] at hEf
            simp only at hEf
            have kR := ref12_Right (k : Int) HA NA hn hc nn nc L L2 wr (hO.rd encP_len) hN.rd
            rw [← hrc] at kR hEf
            replace hrc := Lib.hid hrc
            have hEf' := Lib.hid hEf
            obtain ⟨xz, x0, x1, x2⟩ := (⟨hT.x.1, hT.x.2.1 0, hT.x.2.1 1, hT.x.2.1 2⟩ : tb < wr.heap.size ∧ wr.cell? ⟨tb, 0, none⟩ = some (.int .i64 (k : Int)) ∧ wr.cell? ⟨tb, 1, none⟩ = some (.slice HA hn hc) ∧ wr.cell? ⟨tb, 2, none⟩ = some (.slice NA nn nc))
            replace hTh := Lib.hid hT
            clear hT hEf hO hN
            go_wp2_with fail
            go_at_call 52
            refine kR.mono ?_
            rintro e w6 ⟨rfl, hb6⟩
            have hT6 := hTh.out.of hb6
            replace hHh := Lib.hid (hHh.out.of hb6)
            replace hOh := Lib.hid (hOh.out.of hb6)
            have kE := ref55_Rend br bi A1 k1 c1 bs s3 w6 rc hT6.s
            rw [← hEf'.out] at kE
            replace hT6 := Lib.hid hT6
            clear hb6 kR xz x0 x1 x2
            obtain ⟨xz, x0, x1, x2⟩ := (⟨hT6.out.x.1, hT6.out.x.2.1 0, hT6.out.x.2.1 1, hT6.out.x.2.1 2⟩ : tb < w6.heap.size ∧ w6.cell? ⟨tb, 0, none⟩ = some (.int .i64 (k : Int)) ∧ w6.cell? ⟨tb, 1, none⟩ = some (.slice HA hn hc) ∧ w6.cell? ⟨tb, 2, none⟩ = some (.slice NA nn nc))
            go_wp2_with fail
            go_at_call 48
            refine kE.mono ?_
            rintro e w7 ⟨rfl, hb7⟩
            have hT7 := hT6.out.of hb7
            replace hHh := Lib.hid (hHh.out.of hb7)
            replace hOh := Lib.hid (hOh.out.of hb7)
            clear kE hb7 xz x0 x1 x2
            obtain ⟨xz, x0, x1, x2⟩ := (⟨hT7.x.1, hT7.x.2.1 0, hT7.x.2.1 1, hT7.x.2.1 2⟩ : tb < w7.heap.size ∧ w7.cell? ⟨tb, 0, none⟩ = some (.int .i64 (k : Int)) ∧ w7.cell? ⟨tb, 1, none⟩ = some (.slice HA hn hc) ∧ w7.cell? ⟨tb, 2, none⟩ = some (.slice NA nn nc))
            have r0 : w7.cell? ⟨w.heap.size, 0, none⟩ = some (.int .i64 0) := hT7.r.2.1 0
            have f0 : w7.frozen? ⟨w.heap.size, 0, none⟩ = false := hT7.r.2.2 0
            have r1 : w7.cell? ⟨w.heap.size, 1, none⟩ = some (.slice none 0 0) := hT7.r.2.1 1
            have f1 : w7.frozen? ⟨w.heap.size, 1, none⟩ = false := hT7.r.2.2 1
            have r2 : w7.cell? ⟨w.heap.size, 2, none⟩ = some (.slice none 0 0) := hT7.r.2.1 2
            have f2 : w7.frozen? ⟨w.heap.size, 2, none⟩ = false := hT7.r.2.2 2
            have rz := hT7.r.1
            have hrt7 := hT7.r
            have hB7 := Lib.hid hT7.b
            clear hT7
            by_cases h0 : E = 0
            · subst h0
              have hV := hok.out rfl
              injection hV with hv1 hv2
              injection hv2 with hv2 hv3
              rw [hfin.out] at hv3
              simp only at hv3
              replace hv1 := hv1.symm
              replace hv2 := hv2.symm
              replace hv3 := hv3.symm
              subst hv1 hv2 hv3
              have hB8 : Below w.heap.size w (((w7.setCell ⟨w.heap.size, 0, none⟩ (.int .i64 (k : Int))).setCell ⟨w.heap.size, 1, none⟩ (.slice HA hn hc)).setCell ⟨w.heap.size, 2, none⟩ (.slice NA nn nc)) := (((hB7.out.setCell (Nat.le_refl _) _).setCell (Nat.le_refl _) _).setCell (Nat.le_refl _) _)
              have hx8 : BxW (((w7.setCell ⟨w.heap.size, 0, none⟩ (.int .i64 (k : Int))).setCell ⟨w.heap.size, 1, none⟩ (.slice HA hn hc)).setCell ⟨w.heap.size, 2, none⟩ (.slice NA nn nc)) w.heap.size [.int .i64 (k : Int), .slice HA hn hc, .slice NA nn nc] := (((hrt7.put 0 _ (by simp)).put 1 _ (by simp)).put 2 _ (by simp))
              have hH8 := (((hHh.out.setBelow (b := w.heap.size) (i := 0) hrtB (.int .i64 (k : Int))).setBelow (b := w.heap.size) (i := 1) hrtB (.slice HA hn hc)).setBelow (b := w.heap.size) (i := 2) hrtB (.slice NA nn nc)).rd encP_len
              change Rd encP 2 (((w7.setCell ⟨w.heap.size, 0, none⟩ (.int .i64 (k : Int))).setCell ⟨w.heap.size, 1, none⟩ (.slice HA hn hc)).setCell ⟨w.heap.size, 2, none⟩ (.slice NA nn nc)) HA hn L at hH8
              replace hH8 := Lib.hid hH8
              have hO8 := (((hOh.out.setO (b := w.heap.size) hrtB 0 (.int .i64 (k : Int))).setO (b := w.heap.size) hrtB 1 (.slice HA hn hc)).setO (b := w.heap.size) hrtB 2 (.slice NA nn nc)).rd
              change RdX ekN (((w7.setCell ⟨w.heap.size, 0, none⟩ (.int .i64 (k : Int))).setCell ⟨w.heap.size, 1, none⟩ (.slice HA hn hc)).setCell ⟨w.heap.size, 2, none⟩ (.slice NA nn nc)) NA nn L2 at hO8
              replace hO8 := Lib.hid hO8
              replace hB8 := Lib.hid hB8
              clear hrt7
              go_wp2_with fail
              obtain ⟨w8, hw8⟩ : ∃ w8, w8 = ((w7.setCell ⟨w.heap.size, 0, none⟩ (.int .i64 (k : Int))).setCell ⟨w.heap.size, 1, none⟩ (.slice HA hn hc)).setCell ⟨w.heap.size, 2, none⟩ (.slice NA nn nc) := ⟨_, rfl⟩
              rw [← hw8] at hx8 hB8 hH8 hO8 ⊢
              clear hw8
              have y0 : w8.cell? ⟨w.heap.size, 0, none⟩ = some (.int .i64 (k : Int)) := hx8.2.1 0
              have y1 : w8.cell? ⟨w.heap.size, 1, none⟩ = some (.slice HA hn hc) := hx8.2.1 1
              have y2 : w8.cell? ⟨w.heap.size, 2, none⟩ = some (.slice NA nn nc) := hx8.2.1 2
              clear x0 r0 f0 x1 r1 f1 x2 r2 f2 hx8
              refine bodyPost_ret (v := .tuple #[.agg #[.int .i64 (k : Int), .slice HA hn hc, .slice NA nn nc], .int .i64 0]) (by simp [results, Tryz.results20, go_sem, *, ↓IntWalk.iteOmega]) rfl ?_
              exact ⟨HA, hn, hc, NA, nn, nc, rfl, hH8.out, hO8.out, hB8.out⟩
            · have d1 : (E == 0) = false := by simpa using h0
              have d2 : (E != 0) = true := by simpa using h0
              have hV := hbd.out h0
              injection hV with hv1 hv2
              injection hv2 with hv2 hv3
              subst hv1 hv2 hv3
              have hB8 : Below w.heap.size w (((w7.setCell ⟨w.heap.size, 0, none⟩ (.int .i64 0)).setCell ⟨w.heap.size, 1, none⟩ (.slice none 0 0)).setCell ⟨w.heap.size, 2, none⟩ (.slice none 0 0)) := (((hB7.out.setCell (Nat.le_refl _) _).setCell (Nat.le_refl _) _).setCell (Nat.le_refl _) _)
              have hx8 : BxW (((w7.setCell ⟨w.heap.size, 0, none⟩ (.int .i64 0)).setCell ⟨w.heap.size, 1, none⟩ (.slice none 0 0)).setCell ⟨w.heap.size, 2, none⟩ (.slice none 0 0)) w.heap.size [.int .i64 0, .slice none 0 0, .slice none 0 0] := (((hrt7.put 0 _ (by simp)).put 1 _ (by simp)).put 2 _ (by simp))
              replace hB8 := Lib.hid hB8
              clear hrt7
              go_wp2_with fail
              obtain ⟨w8, hw8⟩ : ∃ w8, w8 = ((w7.setCell ⟨w.heap.size, 0, none⟩ (.int .i64 0)).setCell ⟨w.heap.size, 1, none⟩ (.slice none 0 0)).setCell ⟨w.heap.size, 2, none⟩ (.slice none 0 0) := ⟨_, rfl⟩
              rw [← hw8] at hx8 hB8 ⊢
              clear hw8
              have y0 : w8.cell? ⟨w.heap.size, 0, none⟩ = some (.int .i64 0) := hx8.2.1 0
              have y1 : w8.cell? ⟨w.heap.size, 1, none⟩ = some (.slice none 0 0) := hx8.2.1 1
              have y2 : w8.cell? ⟨w.heap.size, 2, none⟩ = some (.slice none 0 0) := hx8.2.1 2
              clear x0 r0 f0 x1 r1 f1 x2 r2 f2 hx8
              refine bodyPost_ret (v := .tuple #[.agg #[.int .i64 0, .slice none 0 0, .slice none 0 0], .int .i64 E]) (by simp [results, Tryz.results20, go_sem, *, ↓IntWalk.iteOmega]) rfl ?_
              exact ⟨none, 0, 0, none, 0, 0, rfl, Rd.nil_, RdX.nil_, hB8.out⟩
        · skip
          obtain rfl : i = M := by omega
          have dj : decide ((i : Int) < i) = false := decide_eq_false (by omega)
          have dj' : decide (i < i) = false := decide_eq_false (by omega)
          have hfin := Lib.hid (hR.out.trans (lpR_done (Nat.le_refl _)))
          have hHh := Lib.hid hO
          have hOh := Lib.hid hN
          obtain ⟨rc, hrc⟩ : ∃ rc, rc = trR (k : Int) L L2 := ⟨_, rfl⟩
          have hEf := hE.out
          rw [hfin.out] at hEf
          simp only at hEf
          have kR := ref12_Right (k : Int) HA NA hn hc nn nc L L2 wr (hO.rd encP_len) hN.rd
          rw [← hrc] at kR hEf
          replace hrc := Lib.hid hrc
          have hEf' := Lib.hid hEf
          obtain ⟨xz, x0, x1, x2⟩ := (⟨hT.x.1, hT.x.2.1 0, hT.x.2.1 1, hT.x.2.1 2⟩ : tb < wr.heap.size ∧ wr.cell? ⟨tb, 0, none⟩ = some (.int .i64 (k : Int)) ∧ wr.cell? ⟨tb, 1, none⟩ = some (.slice HA hn hc) ∧ wr.cell? ⟨tb, 2, none⟩ = some (.slice NA nn nc))
          replace hTh := Lib.hid hT
          clear hT hEf hO hN
          go_wp2_with fail
          go_at_call 52
          refine kR.mono ?_
          rintro e w6 ⟨rfl, hb6⟩
          have hT6 := hTh.out.of hb6
          replace hHh := Lib.hid (hHh.out.of hb6)
          replace hOh := Lib.hid (hOh.out.of hb6)
          have kE := ref55_Rend br bi A1 k1 c1 bs s3 w6 rc hT6.s
          rw [← hEf'.out] at kE
          replace hT6 := Lib.hid hT6
          clear hb6 kR xz x0 x1 x2
          obtain ⟨xz, x0, x1, x2⟩ := (⟨hT6.out.x.1, hT6.out.x.2.1 0, hT6.out.x.2.1 1, hT6.out.x.2.1 2⟩ : tb < w6.heap.size ∧ w6.cell? ⟨tb, 0, none⟩ = some (.int .i64 (k : Int)) ∧ w6.cell? ⟨tb, 1, none⟩ = some (.slice HA hn hc) ∧ w6.cell? ⟨tb, 2, none⟩ = some (.slice NA nn nc))
          go_wp2_with fail
          go_at_call 48
          refine kE.mono ?_
          rintro e w7 ⟨rfl, hb7⟩
          have hT7 := hT6.out.of hb7
          replace hHh := Lib.hid (hHh.out.of hb7)
          replace hOh := Lib.hid (hOh.out.of hb7)
          clear kE hb7 xz x0 x1 x2
          obtain ⟨xz, x0, x1, x2⟩ := (⟨hT7.x.1, hT7.x.2.1 0, hT7.x.2.1 1, hT7.x.2.1 2⟩ : tb < w7.heap.size ∧ w7.cell? ⟨tb, 0, none⟩ = some (.int .i64 (k : Int)) ∧ w7.cell? ⟨tb, 1, none⟩ = some (.slice HA hn hc) ∧ w7.cell? ⟨tb, 2, none⟩ = some (.slice NA nn nc))
          have r0 : w7.cell? ⟨w.heap.size, 0, none⟩ = some (.int .i64 0) := hT7.r.2.1 0
          have f0 : w7.frozen? ⟨w.heap.size, 0, none⟩ = false := hT7.r.2.2 0
          have r1 : w7.cell? ⟨w.heap.size, 1, none⟩ = some (.slice none 0 0) := hT7.r.2.1 1
          have f1 : w7.frozen? ⟨w.heap.size, 1, none⟩ = false := hT7.r.2.2 1
          have r2 : w7.cell? ⟨w.heap.size, 2, none⟩ = some (.slice none 0 0) := hT7.r.2.1 2
          have f2 : w7.frozen? ⟨w.heap.size, 2, none⟩ = false := hT7.r.2.2 2
          have rz := hT7.r.1
          have hrt7 := hT7.r
          have hB7 := Lib.hid hT7.b
          clear hT7
          by_cases h0 : E = 0
          · subst h0
            have hV := hok.out rfl
            injection hV with hv1 hv2
            injection hv2 with hv2 hv3
            rw [hfin.out] at hv3
            simp only at hv3
            replace hv1 := hv1.symm
            replace hv2 := hv2.symm
            replace hv3 := hv3.symm
            subst hv1 hv2 hv3
            have hB8 : Below w.heap.size w (((w7.setCell ⟨w.heap.size, 0, none⟩ (.int .i64 (k : Int))).setCell ⟨w.heap.size, 1, none⟩ (.slice HA hn hc)).setCell ⟨w.heap.size, 2, none⟩ (.slice NA nn nc)) := (((hB7.out.setCell (Nat.le_refl _) _).setCell (Nat.le_refl _) _).setCell (Nat.le_refl _) _)
            have hx8 : BxW (((w7.setCell ⟨w.heap.size, 0, none⟩ (.int .i64 (k : Int))).setCell ⟨w.heap.size, 1, none⟩ (.slice HA hn hc)).setCell ⟨w.heap.size, 2, none⟩ (.slice NA nn nc)) w.heap.size [.int .i64 (k : Int), .slice HA hn hc, .slice NA nn nc] := (((hrt7.put 0 _ (by simp)).put 1 _ (by simp)).put 2 _ (by simp))
            have hH8 := (((hHh.out.setBelow (b := w.heap.size) (i := 0) hrtB (.int .i64 (k : Int))).setBelow (b := w.heap.size) (i := 1) hrtB (.slice HA hn hc)).setBelow (b := w.heap.size) (i := 2) hrtB (.slice NA nn nc)).rd encP_len
            change Rd encP 2 (((w7.setCell ⟨w.heap.size, 0, none⟩ (.int .i64 (k : Int))).setCell ⟨w.heap.size, 1, none⟩ (.slice HA hn hc)).setCell ⟨w.heap.size, 2, none⟩ (.slice NA nn nc)) HA hn L at hH8
            replace hH8 := Lib.hid hH8
            have hO8 := (((hOh.out.setO (b := w.heap.size) hrtB 0 (.int .i64 (k : Int))).setO (b := w.heap.size) hrtB 1 (.slice HA hn hc)).setO (b := w.heap.size) hrtB 2 (.slice NA nn nc)).rd
            change RdX ekN (((w7.setCell ⟨w.heap.size, 0, none⟩ (.int .i64 (k : Int))).setCell ⟨w.heap.size, 1, none⟩ (.slice HA hn hc)).setCell ⟨w.heap.size, 2, none⟩ (.slice NA nn nc)) NA nn L2 at hO8
            replace hO8 := Lib.hid hO8
            replace hB8 := Lib.hid hB8
            clear hrt7
            go_wp2_with fail
            obtain ⟨w8, hw8⟩ : ∃ w8, w8 = ((w7.setCell ⟨w.heap.size, 0, none⟩ (.int .i64 (k : Int))).setCell ⟨w.heap.size, 1, none⟩ (.slice HA hn hc)).setCell ⟨w.heap.size, 2, none⟩ (.slice NA nn nc) := ⟨_, rfl⟩
            rw [← hw8] at hx8 hB8 hH8 hO8 ⊢
            clear hw8
            have y0 : w8.cell? ⟨w.heap.size, 0, none⟩ = some (.int .i64 (k : Int)) := hx8.2.1 0
            have y1 : w8.cell? ⟨w.heap.size, 1, none⟩ = some (.slice HA hn hc) := hx8.2.1 1
            have y2 : w8.cell? ⟨w.heap.size, 2, none⟩ = some (.slice NA nn nc) := hx8.2.1 2
            clear x0 r0 f0 x1 r1 f1 x2 r2 f2 hx8
            refine bodyPost_ret (v := .tuple #[.agg #[.int .i64 (k : Int), .slice HA hn hc, .slice NA nn nc], .int .i64 0]) (by simp [results, Tryz.results20, go_sem, *, ↓IntWalk.iteOmega]) rfl ?_
            exact ⟨HA, hn, hc, NA, nn, nc, rfl, hH8.out, hO8.out, hB8.out⟩
          · have d1 : (E == 0) = false := by simpa using h0
            have d2 : (E != 0) = true := by simpa using h0
            have hV := hbd.out h0
            injection hV with hv1 hv2
            injection hv2 with hv2 hv3
            subst hv1 hv2 hv3
            have hB8 : Below w.heap.size w (((w7.setCell ⟨w.heap.size, 0, none⟩ (.int .i64 0)).setCell ⟨w.heap.size, 1, none⟩ (.slice none 0 0)).setCell ⟨w.heap.size, 2, none⟩ (.slice none 0 0)) := (((hB7.out.setCell (Nat.le_refl _) _).setCell (Nat.le_refl _) _).setCell (Nat.le_refl _) _)
            have hx8 : BxW (((w7.setCell ⟨w.heap.size, 0, none⟩ (.int .i64 0)).setCell ⟨w.heap.size, 1, none⟩ (.slice none 0 0)).setCell ⟨w.heap.size, 2, none⟩ (.slice none 0 0)) w.heap.size [.int .i64 0, .slice none 0 0, .slice none 0 0] := (((hrt7.put 0 _ (by simp)).put 1 _ (by simp)).put 2 _ (by simp))
            replace hB8 := Lib.hid hB8
            clear hrt7
            go_wp2_with fail
            obtain ⟨w8, hw8⟩ : ∃ w8, w8 = ((w7.setCell ⟨w.heap.size, 0, none⟩ (.int .i64 0)).setCell ⟨w.heap.size, 1, none⟩ (.slice none 0 0)).setCell ⟨w.heap.size, 2, none⟩ (.slice none 0 0) := ⟨_, rfl⟩
            rw [← hw8] at hx8 hB8 ⊢
            clear hw8
            have y0 : w8.cell? ⟨w.heap.size, 0, none⟩ = some (.int .i64 0) := hx8.2.1 0
            have y1 : w8.cell? ⟨w.heap.size, 1, none⟩ = some (.slice none 0 0) := hx8.2.1 1
            have y2 : w8.cell? ⟨w.heap.size, 2, none⟩ = some (.slice none 0 0) := hx8.2.1 2
            clear x0 r0 f0 x1 r1 f1 x2 r2 f2 hx8
            refine bodyPost_ret (v := .tuple #[.agg #[.int .i64 0, .slice none 0 0, .slice none 0 0], .int .i64 E]) (by simp [results, Tryz.results20, go_sem, *, ↓IntWalk.iteOmega]) rfl ?_
            exact ⟨none, 0, 0, none, 0, 0, rfl, Rd.nil_, RdX.nil_, hB8.out⟩
end Go.Proofs.YtmenokhnanghgaaGreat
