/- The reference's reader of timelines: TakeTimeline. By mkrgk.py. -/
import Derived.Test.YtmenokhnanghgaaGreatRgK
import Derived.Test.YtmenokhnanghgaaGreatDLS
namespace Go.Proofs.YtmenokhnanghgaaGreat
open Go Go.RowKit
set_option linter.unusedSimpArgs false
set_option linter.unusedVariables false
set_option maxRecDepth 100000
set_option linter.unusedSimpArgs false
set_option linter.unusedVariables false
set_option maxHeartbeats 64000000 in
theorem ref55_TakeTimeline (A : Option Addr) (n c : Nat) (l : List Int) (w : World) (hR : Rd encU 1 w A n l) (hl : ByL l) (hn : n ≤ 65536) :
    Calls Tryz.prog 31 #[.slice A n c] w fun e w' => ∃ NA nn nc, e = .returned (.tuple #[.agg #[.int .i64 (tmV (unB l)).1, .slice NA nn nc], .int .i64 (tmE (unB l))]) ∧ RdX ekFr w' NA nn (tmV (unB l)).2 ∧ nn ≤ 1000000 ∧ Below w.heap.size w w' := by
  obtain ⟨W, hW⟩ : ∃ W, W = w.alloc (.cells #[.int .i64 0, .slice none 0 0] 54) := ⟨_, rfl⟩
  have hb0 : Below w.heap.size w W := by rw [hW]; exact (Below.refl _ _).alloc (Nat.le_refl _) _
  have hrt : BxW W w.heap.size [.int .i64 0, .slice none 0 0] := by rw [hW]; exact BxW.new w [_, _] _
  have hWz : W.heap.size = w.heap.size + 1 := by rw [hW]; simp
  have kT := ref55_take 4 A n c l W (hR.of hb0) hl hn (by omega)
  rw [show opnR (unB l) ((4 : Nat) : Int) = opnR (unB l) 4 from rfl] at kT
  obtain ⟨E, hE⟩ : ∃ E, E = tmE (unB l) := ⟨_, rfl⟩
  obtain ⟨V, hV⟩ : ∃ V, V = tmV (unB l) := ⟨_, rfl⟩
  rw [← hE, ← hV]
  have hok := tm_ok hE hV
  have hbd := tm_bad hE hV
  obtain ⟨VS, VN⟩ := V
  clear hV
  simp only
  obtain ⟨hQ1, hQs⟩ := tmW_same (unB l)
  rw [← hE] at hQ1 hQs
  replace hE : E = cloR (unB l) (tmW (unB l)).2 (tlB (tmK (unB l)).1 (tmW (unB l)).1) := hQ1.symm
  clear hQ1
  obtain ⟨bs, hbs⟩ : ∃ bs, bs = unB l := ⟨_, rfl⟩
  rw [← hbs] at hE hok kT hQs
  have hNd : tmW bs = lpR (frW bs) (gamR bs (gamR bs (opnR bs 4)).2).1.toNat 0 [] (gamR bs (gamR bs (opnR bs 4)).2).2 := rfl
  have hKd : tmK bs = gamR bs (opnR bs 4) := rfl
  rw [hKd] at hE hok
  clear hKd
  obtain ⟨R, hRn⟩ : ∃ R, R = tmW bs := ⟨_, rfl⟩
  rw [← hRn] at hE hNd hQs
  clear hRn
  replace hQs : E = 0 → (tmF bs).1 = R.1 := fun h => (hQs h).symm
  generalize opnR bs 4 = s0 at kT hNd hE hok
  have kF := fun br bi A1 k1 c1 w1 h1 => ref55_Rgamma br bi A1 k1 c1 bs s0 w1 h1
  generalize gamR bs s0 = g1 at kF hNd hE hok
  obtain ⟨key, s1⟩ := g1
  simp only at kF hNd hE hok
  have kG := fun br bi A1 k1 c1 w1 h1 => ref55_Rgamma br bi A1 k1 c1 bs s1 w1 h1
  have hnn := gamR_nn (bs := bs) (s := s1)
  generalize gamR bs s1 = g2 at kG hNd hnn
  obtain ⟨gn, sA⟩ := g2
  simp only at kG hNd hnn
  obtain ⟨N, rfl⟩ : ∃ N : Nat, gn = (N : Int) := ⟨gn.toNat, by omega⟩
  rw [Int.toNat_natCast] at hNd
  have hN63 : N ≤ 9223372036854775807 := by omega
  replace hNd := Lib.hid hNd
  replace hE := Lib.hid hE
  replace hok := Lib.hid hok
  replace hbd := Lib.hid hbd
  replace hQs := Lib.hid hQs
  clear hR hnn hbs
  go_enter Tryz.func31, Tryz.ntmps31
  go_upto_region 1 with (fail)
  rw [← hW]
  clear hW
  go_upto_region 2 with (go_at_call 46; refine kT.mono ?_; rintro e w1 ⟨br, bi, A1, k1, c1, rfl, hS1, hbr, hbi, hb1⟩)
  clear kT
  replace kF := kF br bi A1 k1 c1 w1 hS1
  have hb01 := Lib.hid (hb0.trans (hb1.mono hb0.size))
  have hrt1 := Lib.hid (hrt.of hb1)
  have hz1 := hb1.size
  have hL1 := Lib.hid hS1.low
  have hn5 := hS1.d.le
  clear hb1 hb0 hrt hS1
  go_upto_region 3 with (go_at_call 62; refine kF.mono ?_; rintro e w3 ⟨rfl, hS3, hF3⟩)
  obtain ⟨w4, hw4⟩ : ∃ w4, w4 = w3.alloc (.cells #[.int .i64 key, .slice none 0 0] 54) := ⟨_, rfl⟩
  have hb34 : Below w3.heap.size w3 w4 := by rw [hw4]; exact (Below.refl _ _).alloc (Nat.le_refl _) _
  have hx4 : BxW w4 w3.heap.size [.int .i64 key, .slice none 0 0] := by rw [hw4]; exact BxW.new w3 [_, _] _
  rw [← hw4]
  clear hw4
  have hz3 := hF3.size
  obtain ⟨tb, htb⟩ : ∃ tb, tb = w3.heap.size := ⟨_, rfl⟩
  rw [← htb] at hx4 ⊢
  have hK : TaK w.heap.size tb br bi A1 k1 := ⟨by omega, by omega, hL1.out.mono (by omega)⟩
  have hT4 : TaS w tb br bi [.int .i64 0, .slice none 0 0] [.int .i64 key, .slice none 0 0] A1 k1 c1 bs s1 w4 :=
    ⟨(hrt1.out.frR hF3 (by rintro (k | k) <;> omega)).of hb34, hx4, hS3.of hb34, (hb01.out.trans (hF3.below (B := w.heap.size) hb01.out.size (fun q hq => by rcases hq with rfl | rfl <;> omega))).trans (hb34.mono (by have := hb01.out.size; omega))⟩
  have hrtB : w.heap.size < tb + 1 := by have := hK.r1; have := hK.t.br; omega
  clear hrt1 hL1 hb01 hS3 hF3 hb34 hx4 hz3 htb hz1 hWz kF
  replace kG := kG br bi A1 k1 c1 w4 hT4.s
  go_wp2_with fail
  go_at_call 62
  refine kG.mono ?_
  rintro e w5 ⟨rfl, hS5, hF5⟩
  have hT5 := hT4.read hK hS5 hF5
  clear hT4 hS5 hF5 kG
  replace hT5 := Lib.hid hT5
  go_wp2_with fail
  go_loopw [7] (fun v wr => ∃ (j : Nat) (L : List TFr) (s2 : RS) (NA : Option Addr) (nn nc : Nat), v = .int .i64 (j : Int) ∧ j ≤ N ∧ Hid (R = lpR (frW bs) (N - j) j L s2) ∧ Hid (SzR L s2) ∧ Hid (SmT L) ∧ TaS w tb br bi [.int .i64 0, .slice none 0 0] [.int .i64 key, .slice NA nn nc] A1 k1 c1 bs s2 wr ∧ OwnO ekFr 72 (tb + 1) (fun _ => False) wr NA nn nc L) (fun v _ => N - (intOf v).toNat)
  case atStart => exact ⟨0, [], sA, none, 0, 0, rfl, by omega, hNd, Lib.hid SzR.nil_, Lib.hid (fun f hf => (List.not_mem_nil hf).elim), hT5.out, OwnO.nil_⟩
  case round =>
    clear hT5 hNd
    obtain ⟨j, L, s2, NA, nn, nc, rfl, hj, hR, hZ, hsm, hT, hO⟩ := hrel
    obtain ⟨hbz, b0, b1, -, -⟩ := hT.s.box.open2
    have hon : nn ≤ 1000000 := by have := hO.len; have := hZ.out.1; have := hT.s.le; omega
    by_cases hlt : j < N
    · have dj : decide ((j : Int) < N) = true := decide_eq_true (by omega)
      have dj' : decide (j < N) = true := decide_eq_true hlt
      by_cases he : s2.2 = 0
      · have hst := hR.out.trans (lpR_step hlt he)
        have hzst := SzR.step (frW_m bs) (i := j) he hZ.out
        have ej : IntKind.i64.wrap ((j : Int) + 1) = ((j + 1 : Nat) : Int) := IntWalk.i64_in _ (by omega)
        have hQ : frW bs j L s2 = if (bitsR bs 1 (gamR bs s2).2).1 = 1 then (L ++ [((gamR bs s2).1, true, (clsQ bs (tkC bs) (bitsR bs 1 (gamR bs s2).2).2).1.1, [])], (clsQ bs (tkC bs) (bitsR bs 1 (gamR bs s2).2).2).2)
          else (L ++ [((gamR bs s2).1, false, [], (clsQ bs (tkG bs) (bitsR bs 1 (gamR bs s2).2).2).1.1)], (clsQ bs (tkG bs) (bitsR bs 1 (gamR bs s2).2).2).2) := rfl
        have kE := fun w1 h1 => ref55_Rgamma br bi A1 k1 c1 bs s2 w1 h1
        generalize gamR bs s2 = g1 at kE hQ
        obtain ⟨gen, s3⟩ := g1
        simp only at kE hQ
        have kF := fun w1 h1 => ref55_Rbits br bi A1 k1 c1 bs s3 w1 1 h1 (by omega)
        generalize bitsR bs 1 s3 = g2 at kF hQ
        obtain ⟨v, s4⟩ := g2
        simp only at kF hQ
        rw [he] at b1
        have hTh := Lib.hid hT
        have hOh := Lib.hid hO
        clear hR hZ he hT hO
        by_cases hv : v = 1
        · skip
          rw [if_pos hv] at hQ
          subst hv
          have dv : ((1 : Int) == 1) = true := by simp
          obtain ⟨LN, hLN⟩ : ∃ LN, LN = (clsQ bs (tkC bs) s4).1.1 := ⟨_, rfl⟩
          obtain ⟨SN, hSN⟩ : ∃ SN, SN = (clsQ bs (tkC bs) s4).2 := ⟨_, rfl⟩
          have kL := fun w1 h1 => ref55_Rcells br bi A1 k1 c1 bs s4 w1 h1
          rw [← hLN, ← hSN] at kL hQ
          clear hLN hSN
          rw [hQ] at hst hzst
          simp only at hst hzst
          clear hQ
          replace hst := Lib.hid hst
          replace hzst := Lib.hid hzst
          go_upto_region 8 with (go_at_call 62; refine (kE _ hTh.out.s).mono ?_; rintro e w1 ⟨rfl, hS1, hF1⟩)
          obtain ⟨w2, hw2⟩ : ∃ w2, w2 = w1.alloc (.cells #[.int .i64 gen, .bool false, .slice none 0 0, .slice none 0 0] 72) := ⟨_, rfl⟩
          have hb2 : Below w1.heap.size w1 w2 := by rw [hw2]; exact (Below.refl _ _).alloc (Nat.le_refl _) _
          have hxn : BxW w2 w1.heap.size [.int .i64 gen, .bool false, .slice none 0 0, .slice none 0 0] := by rw [hw2]; exact BxW.new w1 [_, _, _, _] _
          rw [← hw2]
          clear hw2
          have hz1 := hF1.size
          have hX2 : TgS wr w1.heap.size [.int .i64 gen, .bool false, .slice none 0 0, .slice none 0 0] br bi A1 k1 c1 bs s3 w2 := ⟨hxn, hF1.of hb2, hS1.of hb2⟩
          obtain ⟨xb, hxb⟩ : ∃ xb, xb = w1.heap.size := ⟨_, rfl⟩
          rw [← hxb] at hX2 ⊢
          have hxw : wr.heap.size ≤ xb := by omega
          have hxt : tb < xb := by have := hTh.out.x.1; omega
          clear hxb hz1 hxn hS1 hF1 kE hb2 b0 b1 hbz
          have kF2 := kF w2 hX2.s
          go_wp2_with fail
          go_at_call 61
          refine kF2.mono ?_
          rintro e w3 ⟨rfl, hS3, hF3⟩
          have hX3 := hX2.read hK hxt hS3 hF3
          have hx3z := hX3.x.1
          clear hX2 kF2 hS3 hF3 kF
          have x31 : w3.cell? ⟨xb, 1, none⟩ = some (.bool false) := hX3.x.2.1 1
          have f31 : w3.frozen? ⟨xb, 1, none⟩ = false := hX3.x.2.2 1
          have hX4 := Lib.hid (hX3.put hK hxt hxw 1 (.bool true) (by simp))
          clear hX3
          go_wp2_with fail
          obtain ⟨w4, hw4⟩ : ∃ w4, w4 = w3.setCell ⟨xb, 1, none⟩ (.bool true) := ⟨_, rfl⟩
          replace hX4 := hX4.out
          rw [← hw4] at hX4 ⊢
          clear hw4 x31 f31 hx3z
          simp only [List.set_cons_succ, List.set_cons_zero] at hX4
          go_at_call 47
          refine (kL w4 hX4.s).mono ?_
          rintro e w5 ⟨CA, cn, cc, rfl, hC5, hcn, hS5, hF5⟩
          have hX5 := hX4.read hK hxt hS5 hF5
          have hx4z := hX4.x.1
          have hx5z := hX5.x.1
          have x5 : w5.cell? ⟨xb, 2, none⟩ = some (.slice none 0 0) := hX5.x.2.1 2
          have f5 : w5.frozen? ⟨xb, 2, none⟩ = false := hX5.x.2.2 2
          clear hX4 hS5 kL hF5
          go_upto_region 12 with (fail)
          have hX6 := hX5.put hK hxt hxw 2 (.slice CA cn cc) (by simp)
          have hC6 := hC5.setBelow (i := 2) hx4z (.slice CA cn cc)
          obtain ⟨w6, hw6⟩ : ∃ w6, w6 = w5.setCell ⟨xb, 2, none⟩ (.slice CA cn cc) := ⟨_, rfl⟩
          rw [← hw6] at hX6 hC6 ⊢
          clear hw6 hX5 x5 f5 hx5z hC5
          simp only [List.set_cons_succ, List.set_cons_zero] at hX6
          have hTr := hTh.out.read hK hX6.s hX6.f
          have hOr := TaS.ownO hK hTh.out hOh.out hX6.f
          have hcap := hC6.capO
          have hlk : LN.length ≤ 1000000 := by have := hC6.len; omega
          have hsm2 : SmT (L ++ [((gen, true, LN, []) : TFr)]) := by
            intro f hf
            rcases List.mem_append.1 hf with hf | hf
            · exact hsm.out f hf
            · obtain rfl : f = _ := by simpa using hf
              exact ⟨by simpa using hlk, by simp⟩
          replace hsm2 := Lib.hid hsm2
          have hlenE := hC6.rd encC_len
          have hEb := hC6.blk
          have hx6z := hX6.x.1
          have y0 : w6.cell? ⟨xb, 0, none⟩ = some (.int .i64 gen) := hX6.x.2.1 0
          have y1 : w6.cell? ⟨xb, 1, none⟩ = some (.bool true) := hX6.x.2.1 1
          have y2 : w6.cell? ⟨xb, 2, none⟩ = some (.slice CA cn cc) := hX6.x.2.1 2
          have y3 : w6.cell? ⟨xb, 3, none⟩ = some (.slice none 0 0) := hX6.x.2.1 3
          have xz := hTr.x.1
          have x2 : w6.cell? ⟨tb, 1, none⟩ = some (.slice NA nn nc) := hTr.x.2.1 1
          have hlt2 := hOh.out.lt
          have hrow : ∀ q, (Value.slice NA nn nc).ownBlock = some q → tb < q := fun q hq => (hlt2 q hq).1
          have kA : ∀ (A5 : Option Addr) (c5 : Nat) (w5 : World), OwnO ekFr 72 (tb + 1) (fun _ => False) w5 A5 (nn + 1) c5 (L ++ [((gen, true, LN, []) : TFr)]) → (w6.alloc (.cells #[.int .i64 gen, .bool true, .slice CA cn cc, .slice none 0 0] 72)).grownBy w5 (Value.slice NA nn nc).ownBlock →
              w5.cell? ⟨tb, 1, none⟩ = some (.slice NA nn nc) ∧ w5.frozen? ⟨tb, 1, none⟩ = false ∧ tb < w5.heap.size ∧ Hid (TaS w tb br bi [.int .i64 0, .slice none 0 0] [.int .i64 key, .slice A5 (nn + 1) c5] A1 k1 c1 bs SN (w5.setCell ⟨tb, 1, none⟩ (.slice A5 (nn + 1) c5)) ∧ OwnO ekFr 72 (tb + 1) (fun _ => False) (w5.setCell ⟨tb, 1, none⟩ (.slice A5 (nn + 1) c5)) A5 (nn + 1) c5 (L ++ [((gen, true, LN, []) : TFr)])) := by
            intro A5 c5 w5 hO5 hg5
            have hal : Below w6.heap.size w6 (w6.alloc (.cells #[.int .i64 gen, .bool true, .slice CA cn cc, .slice none 0 0] 72)) := (Below.refl _ _).alloc (Nat.le_refl _) _
            have hT5 := (hTr.of hal).gr hK hg5 hrow
            exact ⟨hT5.x.2.1 1, hT5.x.2.2 1, hT5.x.1, Lib.hid ⟨hT5.put hK 1 _ (by simp), hO5.setO (b := tb) (Nat.lt_succ_self _) 1 _⟩⟩
          have hoff : ∀ q ∈ ekFr.blk ((gen, true, (CA, cn, cc), (none, 0, 0))), some q ≠ (Value.slice NA nn nc).ownBlock ∧ ¬ False ∧ tb + 1 ≤ q := by
            intro q hq
            have hq' : q ∈ blkH (CA, cn, cc) := by
              rcases List.mem_append.1 hq with hq | hq <;> first | exact hq | cases hq
            exact ⟨fun e => by have := (hEb q hq').2.1; have := (hlt2 q e.symm).2; omega, fun h => h, by have := (hEb q hq').2.1; omega⟩
          have hrel : ekFr.rel (w6.alloc (.cells #[.int .i64 gen, .bool true, .slice CA cn cc, .slice none 0 0] 72)) ((gen, true, (CA, cn, cc), (none, 0, 0))) (((gen, true, LN, []) : TFr)) := ⟨rfl, rfl, ⟨hlenE.of ((Below.refl _ _).alloc (Nat.le_refl _) _), hcap⟩, ⟨Rd.nil_, Nat.le_refl _⟩⟩
          clear hTr hX6 hEb hC6 hlenE hTh hOh
          go_wp2_with (first | (at_builtin; refine wpList_append_o (K := ekFr) rfl (.tmp 43) (.tmp 45) 52 rfl 72 (.agg #[.int .i64 0, .bool false, .slice none 0 0, .slice none 0 0]) 64 Tryz.underlying52 (by kernel_rfl) rfl (tb + 1) _ _ _ _ rfl (OwnO.of hOr ((Below.refl _ _).alloc (Nat.le_refl _) _)) ((gen, true, (CA, cn, cc), (none, 0, 0))) (((gen, true, LN, []) : TFr)) hrel hoff ⟨w6.heap.size, 0, none⟩ 1 rfl (cells_new w6 (encFr ((gen, true, (CA, cn, cc), (none, 0, 0)))) 72) (by omega) (by omega) (by simp only [World.size_alloc]; omega) ?_; intro A5 c5 w5 hO5 hg5 hb5 hl5; obtain ⟨x5, fx5, z5, hfin⟩ := kA A5 c5 w5 hO5 hg5; clear hO5 hg5 hb5 hl5))
          all_goals
            (try go_roundw)
            case rel => exact ⟨j + 1, L ++ [((gen, true, LN, []) : TFr)], SN, A5, nn + 1, c5, by go_num, by omega, hst, hzst, hsm2, hfin.out.1, hfin.out.2⟩
            case measure => simp [intOf]; omega
        · skip
          rw [if_neg hv] at hQ
          have dv : (v == 1) = false := by simpa using hv
          clear hv
          obtain ⟨LN, hLN⟩ : ∃ LN, LN = (clsQ bs (tkG bs) s4).1.1 := ⟨_, rfl⟩
          obtain ⟨SN, hSN⟩ : ∃ SN, SN = (clsQ bs (tkG bs) s4).2 := ⟨_, rfl⟩
          have kL := fun w1 h1 => ref55_Rchanges br bi A1 k1 c1 bs s4 w1 h1
          rw [← hLN, ← hSN] at kL hQ
          clear hLN hSN
          rw [hQ] at hst hzst
          simp only at hst hzst
          clear hQ
          replace hst := Lib.hid hst
          replace hzst := Lib.hid hzst
          go_upto_region 8 with (go_at_call 62; refine (kE _ hTh.out.s).mono ?_; rintro e w1 ⟨rfl, hS1, hF1⟩)
          obtain ⟨w2, hw2⟩ : ∃ w2, w2 = w1.alloc (.cells #[.int .i64 gen, .bool false, .slice none 0 0, .slice none 0 0] 72) := ⟨_, rfl⟩
          have hb2 : Below w1.heap.size w1 w2 := by rw [hw2]; exact (Below.refl _ _).alloc (Nat.le_refl _) _
          have hxn : BxW w2 w1.heap.size [.int .i64 gen, .bool false, .slice none 0 0, .slice none 0 0] := by rw [hw2]; exact BxW.new w1 [_, _, _, _] _
          rw [← hw2]
          clear hw2
          have hz1 := hF1.size
          have hX2 : TgS wr w1.heap.size [.int .i64 gen, .bool false, .slice none 0 0, .slice none 0 0] br bi A1 k1 c1 bs s3 w2 := ⟨hxn, hF1.of hb2, hS1.of hb2⟩
          obtain ⟨xb, hxb⟩ : ∃ xb, xb = w1.heap.size := ⟨_, rfl⟩
          rw [← hxb] at hX2 ⊢
          have hxw : wr.heap.size ≤ xb := by omega
          have hxt : tb < xb := by have := hTh.out.x.1; omega
          clear hxb hz1 hxn hS1 hF1 kE hb2 b0 b1 hbz
          have kF2 := kF w2 hX2.s
          go_wp2_with fail
          go_at_call 61
          refine kF2.mono ?_
          rintro e w3 ⟨rfl, hS3, hF3⟩
          have hX3 := hX2.read hK hxt hS3 hF3
          have hx3z := hX3.x.1
          clear hX2 kF2 hS3 hF3 kF
          have hX4 := Lib.hid hX3
          clear hX3
          go_wp2_with fail
          replace hX4 := hX4.out
          clear hx3z
          obtain ⟨w4, hw4⟩ : ∃ w4, w4 = w3 := ⟨_, rfl⟩
          rw [← hw4] at hX4 ⊢
          clear hw4
          go_at_call 74
          refine (kL w4 hX4.s).mono ?_
          rintro e w5 ⟨CA, cn, cc, rfl, hC5, hcn, hS5, hF5⟩
          have hX5 := hX4.read hK hxt hS5 hF5
          have hx4z := hX4.x.1
          have hx5z := hX5.x.1
          have x5 : w5.cell? ⟨xb, 3, none⟩ = some (.slice none 0 0) := hX5.x.2.1 3
          have f5 : w5.frozen? ⟨xb, 3, none⟩ = false := hX5.x.2.2 3
          clear hX4 hS5 kL hF5
          go_upto_region 12 with (fail)
          have hX6 := hX5.put hK hxt hxw 3 (.slice CA cn cc) (by simp)
          have hC6 := hC5.setBelow (i := 3) hx4z (.slice CA cn cc)
          obtain ⟨w6, hw6⟩ : ∃ w6, w6 = w5.setCell ⟨xb, 3, none⟩ (.slice CA cn cc) := ⟨_, rfl⟩
          rw [← hw6] at hX6 hC6 ⊢
          clear hw6 hX5 x5 f5 hx5z hC5
          simp only [List.set_cons_succ, List.set_cons_zero] at hX6
          have hTr := hTh.out.read hK hX6.s hX6.f
          have hOr := TaS.ownO hK hTh.out hOh.out hX6.f
          have hcap := hC6.capO
          have hlk : LN.length ≤ 1000000 := by have := hC6.len; omega
          have hsm2 : SmT (L ++ [((gen, false, [], LN) : TFr)]) := by
            intro f hf
            rcases List.mem_append.1 hf with hf | hf
            · exact hsm.out f hf
            · obtain rfl : f = _ := by simpa using hf
              exact ⟨by simp, by simpa using hlk⟩
          replace hsm2 := Lib.hid hsm2
          have hlenE := hC6.rd encG_len
          have hEb := hC6.blk
          have hx6z := hX6.x.1
          have y0 : w6.cell? ⟨xb, 0, none⟩ = some (.int .i64 gen) := hX6.x.2.1 0
          have y1 : w6.cell? ⟨xb, 1, none⟩ = some (.bool false) := hX6.x.2.1 1
          have y2 : w6.cell? ⟨xb, 2, none⟩ = some (.slice none 0 0) := hX6.x.2.1 2
          have y3 : w6.cell? ⟨xb, 3, none⟩ = some (.slice CA cn cc) := hX6.x.2.1 3
          have xz := hTr.x.1
          have x2 : w6.cell? ⟨tb, 1, none⟩ = some (.slice NA nn nc) := hTr.x.2.1 1
          have hlt2 := hOh.out.lt
          have hrow : ∀ q, (Value.slice NA nn nc).ownBlock = some q → tb < q := fun q hq => (hlt2 q hq).1
          have kA : ∀ (A5 : Option Addr) (c5 : Nat) (w5 : World), OwnO ekFr 72 (tb + 1) (fun _ => False) w5 A5 (nn + 1) c5 (L ++ [((gen, false, [], LN) : TFr)]) → (w6.alloc (.cells #[.int .i64 gen, .bool false, .slice none 0 0, .slice CA cn cc] 72)).grownBy w5 (Value.slice NA nn nc).ownBlock →
              w5.cell? ⟨tb, 1, none⟩ = some (.slice NA nn nc) ∧ w5.frozen? ⟨tb, 1, none⟩ = false ∧ tb < w5.heap.size ∧ Hid (TaS w tb br bi [.int .i64 0, .slice none 0 0] [.int .i64 key, .slice A5 (nn + 1) c5] A1 k1 c1 bs SN (w5.setCell ⟨tb, 1, none⟩ (.slice A5 (nn + 1) c5)) ∧ OwnO ekFr 72 (tb + 1) (fun _ => False) (w5.setCell ⟨tb, 1, none⟩ (.slice A5 (nn + 1) c5)) A5 (nn + 1) c5 (L ++ [((gen, false, [], LN) : TFr)])) := by
            intro A5 c5 w5 hO5 hg5
            have hal : Below w6.heap.size w6 (w6.alloc (.cells #[.int .i64 gen, .bool false, .slice none 0 0, .slice CA cn cc] 72)) := (Below.refl _ _).alloc (Nat.le_refl _) _
            have hT5 := (hTr.of hal).gr hK hg5 hrow
            exact ⟨hT5.x.2.1 1, hT5.x.2.2 1, hT5.x.1, Lib.hid ⟨hT5.put hK 1 _ (by simp), hO5.setO (b := tb) (Nat.lt_succ_self _) 1 _⟩⟩
          have hoff : ∀ q ∈ ekFr.blk ((gen, false, (none, 0, 0), (CA, cn, cc))), some q ≠ (Value.slice NA nn nc).ownBlock ∧ ¬ False ∧ tb + 1 ≤ q := by
            intro q hq
            have hq' : q ∈ blkH (CA, cn, cc) := by
              rcases List.mem_append.1 hq with hq | hq <;> first | cases hq | exact hq
            exact ⟨fun e => by have := (hEb q hq').2.1; have := (hlt2 q e.symm).2; omega, fun h => h, by have := (hEb q hq').2.1; omega⟩
          have hrel : ekFr.rel (w6.alloc (.cells #[.int .i64 gen, .bool false, .slice none 0 0, .slice CA cn cc] 72)) ((gen, false, (none, 0, 0), (CA, cn, cc))) (((gen, false, [], LN) : TFr)) := ⟨rfl, rfl, ⟨Rd.nil_, Nat.le_refl _⟩, ⟨hlenE.of ((Below.refl _ _).alloc (Nat.le_refl _) _), hcap⟩⟩
          clear hTr hX6 hEb hC6 hlenE hTh hOh
          go_wp2_with (first | (at_builtin; refine wpList_append_o (K := ekFr) rfl (.tmp 43) (.tmp 45) 52 rfl 72 (.agg #[.int .i64 0, .bool false, .slice none 0 0, .slice none 0 0]) 64 Tryz.underlying52 (by kernel_rfl) rfl (tb + 1) _ _ _ _ rfl (OwnO.of hOr ((Below.refl _ _).alloc (Nat.le_refl _) _)) ((gen, false, (none, 0, 0), (CA, cn, cc))) (((gen, false, [], LN) : TFr)) hrel hoff ⟨w6.heap.size, 0, none⟩ 1 rfl (cells_new w6 (encFr ((gen, false, (none, 0, 0), (CA, cn, cc)))) 72) (by omega) (by omega) (by simp only [World.size_alloc]; omega) ?_; intro A5 c5 w5 hO5 hg5 hb5 hl5; obtain ⟨x5, fx5, z5, hfin⟩ := kA A5 c5 w5 hO5 hg5; clear hO5 hg5 hb5 hl5))
          all_goals
            (try go_roundw)
            case rel => exact ⟨j + 1, L ++ [((gen, false, [], LN) : TFr)], SN, A5, nn + 1, c5, by go_num, by omega, hst, hzst, hsm2, hfin.out.1, hfin.out.2⟩
            case measure => simp [intOf]; omega
      · skip
        have d1 : (s2.2 == 0) = false := by simpa using he
        have hfin := Lib.hid (hR.out.trans (lpR_bad he))
        clear he
        have hOh := Lib.hid hO
        obtain ⟨rc, hrc⟩ : ∃ rc, rc = tlB key L := ⟨_, rfl⟩
        have hEf := hE.out
        rw [hfin.out] at hEf
        simp only at hEf
        have kR := ref54_Right key NA nn nc L wr hO.rd hsm.out
        rw [← hrc] at kR hEf
        replace hrc := Lib.hid hrc
        have hEf' := Lib.hid hEf
        obtain ⟨xz, x0, x1⟩ := (⟨hT.x.1, hT.x.2.1 0, hT.x.2.1 1⟩ : tb < wr.heap.size ∧ wr.cell? ⟨tb, 0, none⟩ = some (.int .i64 key) ∧ wr.cell? ⟨tb, 1, none⟩ = some (.slice NA nn nc))
        replace hTh := Lib.hid hT
        clear hT hEf hO
        go_wp2_with fail
        go_at_call 69
        refine kR.mono ?_
        rintro e w6 ⟨rfl, hb6⟩
        have hT6 := hTh.out.of hb6
        replace hOh := Lib.hid (hOh.out.of hb6)
        have kE := ref55_Rend br bi A1 k1 c1 bs s2 w6 rc hT6.s
        rw [← hEf'.out] at kE
        replace hT6 := Lib.hid hT6
        clear hb6 kR xz x0 x1
        obtain ⟨xz, x0, x1⟩ := (⟨hT6.out.x.1, hT6.out.x.2.1 0, hT6.out.x.2.1 1⟩ : tb < w6.heap.size ∧ w6.cell? ⟨tb, 0, none⟩ = some (.int .i64 key) ∧ w6.cell? ⟨tb, 1, none⟩ = some (.slice NA nn nc))
        go_wp2_with fail
        go_at_call 48
        refine kE.mono ?_
        rintro e w7 ⟨rfl, hb7⟩
        have hT7 := hT6.out.of hb7
        replace hOh := Lib.hid (hOh.out.of hb7)
        clear kE hb7 xz x0 x1
        obtain ⟨xz, x0, x1⟩ := (⟨hT7.x.1, hT7.x.2.1 0, hT7.x.2.1 1⟩ : tb < w7.heap.size ∧ w7.cell? ⟨tb, 0, none⟩ = some (.int .i64 key) ∧ w7.cell? ⟨tb, 1, none⟩ = some (.slice NA nn nc))
        have r0 : w7.cell? ⟨w.heap.size, 0, none⟩ = some (.int .i64 0) := hT7.r.2.1 0
        have f0 : w7.frozen? ⟨w.heap.size, 0, none⟩ = false := hT7.r.2.2 0
        have r1 : w7.cell? ⟨w.heap.size, 1, none⟩ = some (.slice none 0 0) := hT7.r.2.1 1
        have f1 : w7.frozen? ⟨w.heap.size, 1, none⟩ = false := hT7.r.2.2 1
        have rz := hT7.r.1
        have hrt7 := hT7.r
        have hB7 := Lib.hid hT7.b
        clear hT7
        by_cases h0 : E = 0
        · subst h0
          have hV := hok.out rfl
          injection hV with hv1 hv3
          rw [hQs.out rfl, hfin.out] at hv3
          simp only at hv3
          replace hv1 := hv1.symm
          replace hv3 := hv3.symm
          subst hv1 hv3
          have hB8 : Below w.heap.size w ((w7.setCell ⟨w.heap.size, 0, none⟩ (.int .i64 key)).setCell ⟨w.heap.size, 1, none⟩ (.slice NA nn nc)) := ((hB7.out.setCell (Nat.le_refl _) _).setCell (Nat.le_refl _) _)
          have hx8 : BxW ((w7.setCell ⟨w.heap.size, 0, none⟩ (.int .i64 key)).setCell ⟨w.heap.size, 1, none⟩ (.slice NA nn nc)) w.heap.size [.int .i64 key, .slice NA nn nc] := ((hrt7.put 0 _ (by simp)).put 1 _ (by simp))
          have hO8 := ((hOh.out.setO (b := w.heap.size) hrtB 0 (.int .i64 key)).setO (b := w.heap.size) hrtB 1 (.slice NA nn nc)).rd
          change RdX ekFr ((w7.setCell ⟨w.heap.size, 0, none⟩ (.int .i64 key)).setCell ⟨w.heap.size, 1, none⟩ (.slice NA nn nc)) NA nn L at hO8
          replace hO8 := Lib.hid hO8
          replace hB8 := Lib.hid hB8
          clear hrt7
          go_wp2_with fail
          obtain ⟨w8, hw8⟩ : ∃ w8, w8 = (w7.setCell ⟨w.heap.size, 0, none⟩ (.int .i64 key)).setCell ⟨w.heap.size, 1, none⟩ (.slice NA nn nc) := ⟨_, rfl⟩
          rw [← hw8] at hx8 hB8 hO8 ⊢
          clear hw8
          have y0 : w8.cell? ⟨w.heap.size, 0, none⟩ = some (.int .i64 key) := hx8.2.1 0
          have y1 : w8.cell? ⟨w.heap.size, 1, none⟩ = some (.slice NA nn nc) := hx8.2.1 1
          clear x0 r0 f0 x1 r1 f1 hx8
          refine bodyPost_ret (v := .tuple #[.agg #[.int .i64 key, .slice NA nn nc], .int .i64 0]) (by simp [results, Tryz.results31, go_sem, *, ↓IntWalk.iteOmega]) rfl ?_
          exact ⟨NA, nn, nc, rfl, hO8.out, hon, hB8.out⟩
        · have d1 : (E == 0) = false := by simpa using h0
          have d2 : (E != 0) = true := by simpa using h0
          have hV := hbd.out h0
          injection hV with hv1 hv3
          subst hv1 hv3
          have hB8 : Below w.heap.size w ((w7.setCell ⟨w.heap.size, 0, none⟩ (.int .i64 0)).setCell ⟨w.heap.size, 1, none⟩ (.slice none 0 0)) := ((hB7.out.setCell (Nat.le_refl _) _).setCell (Nat.le_refl _) _)
          have hx8 : BxW ((w7.setCell ⟨w.heap.size, 0, none⟩ (.int .i64 0)).setCell ⟨w.heap.size, 1, none⟩ (.slice none 0 0)) w.heap.size [.int .i64 0, .slice none 0 0] := ((hrt7.put 0 _ (by simp)).put 1 _ (by simp))
          replace hB8 := Lib.hid hB8
          clear hrt7
          go_wp2_with fail
          obtain ⟨w8, hw8⟩ : ∃ w8, w8 = (w7.setCell ⟨w.heap.size, 0, none⟩ (.int .i64 0)).setCell ⟨w.heap.size, 1, none⟩ (.slice none 0 0) := ⟨_, rfl⟩
          rw [← hw8] at hx8 hB8 ⊢
          clear hw8
          have y0 : w8.cell? ⟨w.heap.size, 0, none⟩ = some (.int .i64 0) := hx8.2.1 0
          have y1 : w8.cell? ⟨w.heap.size, 1, none⟩ = some (.slice none 0 0) := hx8.2.1 1
          clear x0 r0 f0 x1 r1 f1 hx8
          refine bodyPost_ret (v := .tuple #[.agg #[.int .i64 0, .slice none 0 0], .int .i64 E]) (by simp [results, Tryz.results31, go_sem, *, ↓IntWalk.iteOmega]) rfl ?_
          exact ⟨none, 0, 0, rfl, RdX.nil_, by omega, hB8.out⟩
    · skip
      obtain rfl : j = N := by omega
      have dj : decide ((j : Int) < j) = false := decide_eq_false (by omega)
      have dj' : decide (j < j) = false := decide_eq_false (by omega)
      have hfin := Lib.hid (hR.out.trans (lpR_done (Nat.le_refl _)))
      have hOh := Lib.hid hO
      obtain ⟨rc, hrc⟩ : ∃ rc, rc = tlB key L := ⟨_, rfl⟩
      have hEf := hE.out
      rw [hfin.out] at hEf
      simp only at hEf
      have kR := ref54_Right key NA nn nc L wr hO.rd hsm.out
      rw [← hrc] at kR hEf
      replace hrc := Lib.hid hrc
      have hEf' := Lib.hid hEf
      obtain ⟨xz, x0, x1⟩ := (⟨hT.x.1, hT.x.2.1 0, hT.x.2.1 1⟩ : tb < wr.heap.size ∧ wr.cell? ⟨tb, 0, none⟩ = some (.int .i64 key) ∧ wr.cell? ⟨tb, 1, none⟩ = some (.slice NA nn nc))
      replace hTh := Lib.hid hT
      clear hT hEf hO
      go_wp2_with fail
      go_at_call 69
      refine kR.mono ?_
      rintro e w6 ⟨rfl, hb6⟩
      have hT6 := hTh.out.of hb6
      replace hOh := Lib.hid (hOh.out.of hb6)
      have kE := ref55_Rend br bi A1 k1 c1 bs s2 w6 rc hT6.s
      rw [← hEf'.out] at kE
      replace hT6 := Lib.hid hT6
      clear hb6 kR xz x0 x1
      obtain ⟨xz, x0, x1⟩ := (⟨hT6.out.x.1, hT6.out.x.2.1 0, hT6.out.x.2.1 1⟩ : tb < w6.heap.size ∧ w6.cell? ⟨tb, 0, none⟩ = some (.int .i64 key) ∧ w6.cell? ⟨tb, 1, none⟩ = some (.slice NA nn nc))
      go_wp2_with fail
      go_at_call 48
      refine kE.mono ?_
      rintro e w7 ⟨rfl, hb7⟩
      have hT7 := hT6.out.of hb7
      replace hOh := Lib.hid (hOh.out.of hb7)
      clear kE hb7 xz x0 x1
      obtain ⟨xz, x0, x1⟩ := (⟨hT7.x.1, hT7.x.2.1 0, hT7.x.2.1 1⟩ : tb < w7.heap.size ∧ w7.cell? ⟨tb, 0, none⟩ = some (.int .i64 key) ∧ w7.cell? ⟨tb, 1, none⟩ = some (.slice NA nn nc))
      have r0 : w7.cell? ⟨w.heap.size, 0, none⟩ = some (.int .i64 0) := hT7.r.2.1 0
      have f0 : w7.frozen? ⟨w.heap.size, 0, none⟩ = false := hT7.r.2.2 0
      have r1 : w7.cell? ⟨w.heap.size, 1, none⟩ = some (.slice none 0 0) := hT7.r.2.1 1
      have f1 : w7.frozen? ⟨w.heap.size, 1, none⟩ = false := hT7.r.2.2 1
      have rz := hT7.r.1
      have hrt7 := hT7.r
      have hB7 := Lib.hid hT7.b
      clear hT7
      by_cases h0 : E = 0
      · subst h0
        have hV := hok.out rfl
        injection hV with hv1 hv3
        rw [hQs.out rfl, hfin.out] at hv3
        simp only at hv3
        replace hv1 := hv1.symm
        replace hv3 := hv3.symm
        subst hv1 hv3
        have hB8 : Below w.heap.size w ((w7.setCell ⟨w.heap.size, 0, none⟩ (.int .i64 key)).setCell ⟨w.heap.size, 1, none⟩ (.slice NA nn nc)) := ((hB7.out.setCell (Nat.le_refl _) _).setCell (Nat.le_refl _) _)
        have hx8 : BxW ((w7.setCell ⟨w.heap.size, 0, none⟩ (.int .i64 key)).setCell ⟨w.heap.size, 1, none⟩ (.slice NA nn nc)) w.heap.size [.int .i64 key, .slice NA nn nc] := ((hrt7.put 0 _ (by simp)).put 1 _ (by simp))
        have hO8 := ((hOh.out.setO (b := w.heap.size) hrtB 0 (.int .i64 key)).setO (b := w.heap.size) hrtB 1 (.slice NA nn nc)).rd
        change RdX ekFr ((w7.setCell ⟨w.heap.size, 0, none⟩ (.int .i64 key)).setCell ⟨w.heap.size, 1, none⟩ (.slice NA nn nc)) NA nn L at hO8
        replace hO8 := Lib.hid hO8
        replace hB8 := Lib.hid hB8
        clear hrt7
        go_wp2_with fail
        obtain ⟨w8, hw8⟩ : ∃ w8, w8 = (w7.setCell ⟨w.heap.size, 0, none⟩ (.int .i64 key)).setCell ⟨w.heap.size, 1, none⟩ (.slice NA nn nc) := ⟨_, rfl⟩
        rw [← hw8] at hx8 hB8 hO8 ⊢
        clear hw8
        have y0 : w8.cell? ⟨w.heap.size, 0, none⟩ = some (.int .i64 key) := hx8.2.1 0
        have y1 : w8.cell? ⟨w.heap.size, 1, none⟩ = some (.slice NA nn nc) := hx8.2.1 1
        clear x0 r0 f0 x1 r1 f1 hx8
        refine bodyPost_ret (v := .tuple #[.agg #[.int .i64 key, .slice NA nn nc], .int .i64 0]) (by simp [results, Tryz.results31, go_sem, *, ↓IntWalk.iteOmega]) rfl ?_
        exact ⟨NA, nn, nc, rfl, hO8.out, hon, hB8.out⟩
      · have d1 : (E == 0) = false := by simpa using h0
        have d2 : (E != 0) = true := by simpa using h0
        have hV := hbd.out h0
        injection hV with hv1 hv3
        subst hv1 hv3
        have hB8 : Below w.heap.size w ((w7.setCell ⟨w.heap.size, 0, none⟩ (.int .i64 0)).setCell ⟨w.heap.size, 1, none⟩ (.slice none 0 0)) := ((hB7.out.setCell (Nat.le_refl _) _).setCell (Nat.le_refl _) _)
        have hx8 : BxW ((w7.setCell ⟨w.heap.size, 0, none⟩ (.int .i64 0)).setCell ⟨w.heap.size, 1, none⟩ (.slice none 0 0)) w.heap.size [.int .i64 0, .slice none 0 0] := ((hrt7.put 0 _ (by simp)).put 1 _ (by simp))
        replace hB8 := Lib.hid hB8
        clear hrt7
        go_wp2_with fail
        obtain ⟨w8, hw8⟩ : ∃ w8, w8 = (w7.setCell ⟨w.heap.size, 0, none⟩ (.int .i64 0)).setCell ⟨w.heap.size, 1, none⟩ (.slice none 0 0) := ⟨_, rfl⟩
        rw [← hw8] at hx8 hB8 ⊢
        clear hw8
        have y0 : w8.cell? ⟨w.heap.size, 0, none⟩ = some (.int .i64 0) := hx8.2.1 0
        have y1 : w8.cell? ⟨w.heap.size, 1, none⟩ = some (.slice none 0 0) := hx8.2.1 1
        clear x0 r0 f0 x1 r1 f1 hx8
        refine bodyPost_ret (v := .tuple #[.agg #[.int .i64 0, .slice none 0 0], .int .i64 E]) (by simp [results, Tryz.results31, go_sem, *, ↓IntWalk.iteOmega]) rfl ?_
        exact ⟨none, 0, 0, rfl, RdX.nil_, by omega, hB8.out⟩
end Go.Proofs.YtmenokhnanghgaaGreat
