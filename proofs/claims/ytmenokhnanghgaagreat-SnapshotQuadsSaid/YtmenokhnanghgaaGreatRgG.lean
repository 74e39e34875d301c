/- The reference's reader of contents: TakeQuads. By mkrgk.py. -/
import Derived.Test.YtmenokhnanghgaaGreatRgK
import Derived.Test.YtmenokhnanghgaaGreatRGQ
import Derived.Test.YtmenokhnanghgaaGreatSNZ
namespace Go.Proofs.YtmenokhnanghgaaGreat
open Go Go.RowKit
set_option linter.unusedSimpArgs false
set_option linter.unusedVariables false
set_option maxRecDepth 100000
set_option linter.unusedSimpArgs false
set_option linter.unusedVariables false
set_option maxHeartbeats 64000000 in
theorem ref55_TakeQuads (A : Option Addr) (n c : Nat) (l : List Int) (w : World) (hR : Rd encU 1 w A n l) (hl : ByL l) (hn : n ≤ 65536) :
    Calls Tryz.prog 25 #[.slice A n c] w fun e w' => ∃ NA nn nc, e = .returned (.tuple #[.agg #[.int .i64 (tqV (unB l)).1, .slice NA nn nc], .int .i64 (tqE (unB l))]) ∧ Rd encQd 4 w' NA nn (tqV (unB l)).2 ∧ nn ≤ 1000000 ∧ Below w.heap.size w w' := by
  obtain ⟨W, hW⟩ : ∃ W, W = w.alloc (.cells #[.int .i64 0, .slice none 0 0] 46) := ⟨_, rfl⟩
  have hb0 : Below w.heap.size w W := by rw [hW]; exact (Below.refl _ _).alloc (Nat.le_refl _) _
  have hrt : BxW W w.heap.size [.int .i64 0, .slice none 0 0] := by rw [hW]; exact BxW.new w [_, _] _
  have hWz : W.heap.size = w.heap.size + 1 := by rw [hW]; simp
  have kT := ref55_take 3 A n c l W (hR.of hb0) hl hn (by omega)
  rw [show opnR (unB l) ((3 : Nat) : Int) = opnR (unB l) 3 from rfl] at kT
  obtain ⟨E, hE⟩ : ∃ E, E = tqE (unB l) := ⟨_, rfl⟩
  obtain ⟨V, hV⟩ : ∃ V, V = tqV (unB l) := ⟨_, rfl⟩
  rw [← hE, ← hV]
  have hok := tq_ok hE hV
  have hbd := tq_bad hE hV
  obtain ⟨VS, VN⟩ := V
  clear hV
  simp only
  replace hE : E = cloR (unB l) (tqN (unB l)).2 (qR (tqS (unB l)) (tqN (unB l)).1) := hE
  obtain ⟨bs, hbs⟩ : ∃ bs, bs = unB l := ⟨_, rfl⟩
  rw [← hbs] at hE hok kT
  have hSd : tqS bs = (bitsR bs 3 (opnR bs 3)).1 + 1 := rfl
  have hNd : tqN bs = lpR (qdR bs) (gamR bs (bitsR bs 3 (opnR bs 3)).2).1.toNat 0 [] (gamR bs (bitsR bs 3 (opnR bs 3)).2).2 := rfl
  generalize tqS bs = st at hE hok hSd
  obtain ⟨R, hRn⟩ : ∃ R, R = tqN bs := ⟨_, rfl⟩
  rw [← hRn] at hE hok hNd
  clear hRn
  have hv := bitsR3 bs (opnR bs 3)
  generalize opnR bs 3 = s0 at kT hSd hNd hv
  have kF := fun br bi A1 k1 c1 w1 h1 => ref55_Rbits br bi A1 k1 c1 bs s0 w1 3 h1 (by omega)
  generalize bitsR bs 3 s0 = g1 at kF hSd hNd hv
  obtain ⟨a1, s1⟩ := g1
  simp only at kF hSd hNd hv
  have e0 : IntKind.i64.wrap (a1 + 1) = st := by rw [IntWalk.i64_in _ (by omega)]; exact hSd.symm
  have kG := fun br bi A1 k1 c1 w1 h1 => ref55_Rgamma br bi A1 k1 c1 bs s1 w1 h1
  have hnn := gamR_nn (bs := bs) (s := s1)
  have hgl := fun h => gamR_le (bs := bs) (s := s1) h
  generalize gamR bs s1 = g2 at kG hNd hnn hgl
  obtain ⟨gn, sA⟩ := g2
  simp only at kG hNd hnn hgl
  obtain ⟨N, rfl⟩ : ∃ N : Nat, gn = (N : Int) := ⟨gn.toNat, by omega⟩
  rw [Int.toNat_natCast] at hNd
  have hN63 : N ≤ 9223372036854775807 := by omega
  replace hNd := Lib.hid hNd
  replace hE := Lib.hid hE
  replace hok := Lib.hid hok
  replace hbd := Lib.hid hbd
  replace hSd := Lib.hid hSd
  replace hgl := Lib.hid hgl
  clear hR hnn hbs hv
  go_enter Tryz.func25, Tryz.ntmps25
  go_upto_region 1 with (fail)
  rw [← hW]
  clear hW
  go_upto_region 2 with (go_at_call 46; refine kT.mono ?_; rintro e w1 ⟨br, bi, A1, k1, c1, rfl, hS1, hbr, hbi, hb1⟩)
  clear kT
  replace kF := kF br bi A1 k1 c1 w1 hS1
  have hb01 := Lib.hid (hb0.trans (hb1.mono hb0.size))
  have hrt1 := Lib.hid (hrt.of hb1)
  have hz1 := hb1.size
  have hL1 := Lib.hid hS1.low
  have hlen := Lib.hid hS1.len
  have hn5 := hS1.d.le
  clear hb1 hb0 hrt hS1
  go_wp2_with fail
  go_at_call 61
  refine kF.mono ?_
  rintro e w3 ⟨rfl, hS3, hF3⟩
  go_upto_region 3 with (fail)
  obtain ⟨w4, hw4⟩ : ∃ w4, w4 = w3.alloc (.cells #[.int .i64 st, .slice none 0 0] 46) := ⟨_, rfl⟩
  have hb34 : Below w3.heap.size w3 w4 := by rw [hw4]; exact (Below.refl _ _).alloc (Nat.le_refl _) _
  have hx4 : BxW w4 w3.heap.size [.int .i64 st, .slice none 0 0] := by rw [hw4]; exact BxW.new w3 [_, _] _
  rw [← hw4]
  clear hw4
  have hz3 := hF3.size
  obtain ⟨tb, htb⟩ : ∃ tb, tb = w3.heap.size := ⟨_, rfl⟩
  rw [← htb] at hx4 ⊢
  have hK : TaK w.heap.size tb br bi A1 k1 := ⟨by omega, by omega, hL1.out.mono (by omega)⟩
  have hT4 : TaS w tb br bi [.int .i64 0, .slice none 0 0] [.int .i64 st, .slice none 0 0] A1 k1 c1 bs s1 w4 :=
    ⟨(hrt1.out.frR hF3 (by rintro (k | k) <;> omega)).of hb34, hx4, hS3.of hb34, (hb01.out.trans (hF3.below (B := w.heap.size) hb01.out.size (fun q hq => by rcases hq with rfl | rfl <;> omega))).trans (hb34.mono (by have := hb01.out.size; omega))⟩
  have hrtB : w.heap.size < tb + 1 := by have := hK.r1; have := hK.t.br; omega
  have hs1l := hS3.le
  clear hrt1 hL1 hb01 hS3 hF3 hb34 hx4 hz3 htb hz1 hWz
  replace kG := kG br bi A1 k1 c1 w4 hT4.s
  replace hgl := hgl.out (by rw [hlen.out]; exact hs1l)
  rw [hlen.out] at hgl
  go_wp2_with fail
  go_at_call 62
  refine kG.mono ?_
  rintro e w5 ⟨rfl, hS5, hF5⟩
  have hT5 := hT4.read hK hS5 hF5
  clear hT4 hS5 hF5 kG kF e0
  replace hT5 := Lib.hid hT5
  go_wp2_with fail
  go_loopw [7] (fun v wr => ∃ (j : Nat) (L : List Qd) (s2 : RS) (NA : Option Addr) (nn nc : Nat), v = .int .i64 (j : Int) ∧ j ≤ N ∧ Hid (R = lpR (qdR bs) (N - j) j L s2) ∧ Hid (SzR L s2) ∧ TaS w tb br bi [.int .i64 0, .slice none 0 0] [.int .i64 st, .slice NA nn nc] A1 k1 c1 bs s2 wr ∧ Own encQd 4 69 (tb + 1) wr NA nn nc L) (fun v _ => N - (intOf v).toNat)
  case atStart => exact ⟨0, [], sA, none, 0, 0, rfl, by omega, hNd, Lib.hid SzR.nil_, hT5.out, Own.nil_⟩
  case round =>
    clear hT5 hNd
    obtain ⟨j, L, s2, NA, nn, nc, rfl, hj, hR, hZ, hT, hO⟩ := hrel
    obtain ⟨hbz, b0, b1, -, -⟩ := hT.s.box.open2
    have hon : nn ≤ 1000000 := by have := hO.len; have := hZ.out.1; have := hT.s.le; omega
    by_cases hlt : j < N
    · have dj : decide ((j : Int) < N) = true := decide_eq_true (by omega)
      have dj' : decide (j < N) = true := decide_eq_true hlt
      by_cases he : s2.2 = 0
      · have hst := Lib.hid (hR.out.trans (lpR_step hlt he))
        have hzst := Lib.hid (SzR.step (qdR_m bs) (i := j) he hZ.out)
        have ej : IntKind.i64.wrap ((j : Int) + 1) = ((j + 1 : Nat) : Int) := IntWalk.i64_in _ (by omega)
        obtain ⟨w2, hw2⟩ : ∃ w2, w2 = wr.alloc (.cells #[.int .i64 0, .int .i64 0, .int .i64 0, .int .i64 0] 69) := ⟨_, rfl⟩
        have hb2 : Below wr.heap.size wr w2 := by rw [hw2]; exact (Below.refl _ _).alloc (Nat.le_refl _) _
        have hxn : BxW w2 wr.heap.size (q4L bs s2 0) := by rw [hw2]; exact BxW.new wr [_, _, _, _] _
        obtain ⟨xb, hxb⟩ : ∃ xb, xb = wr.heap.size := ⟨_, rfl⟩
        rw [← hxb] at hxn
        have hxt : tb < xb := by have := hT.x.1; omega
        have hrow := Lib.hid (show ∀ q, (Value.slice NA nn nc).ownBlock = some q → tb < q ∧ q < xb from fun q hq => by have := hO.row.lt q hq; omega)
        have hT2 := Lib.hid (hT.of hb2)
        have hO2 := Lib.hid (hO.of hb2)
        have hxn2 := Lib.hid hxn
        rw [he] at b1
        clear hT hO hxn hb2 hR hZ he
        go_upto_region 8 with (fail)
        rw [← hw2]
        (try rw [← hxb])
        clear hw2 hxb b0 b1 hbz
        go_wp2_with fail
        go_loopw [9] (fun v wr => ∃ (r : Nat), v = .int .i64 (r : Int) ∧ r ≤ 4 ∧ TaS w tb br bi [.int .i64 0, .slice none 0 0] [.int .i64 st, .slice NA nn nc] A1 k1 c1 bs (q4S bs s2 r) wr ∧ BxW wr xb (q4L bs s2 r) ∧ Own encQd 4 69 (tb + 1) wr NA nn nc L) (fun v _ => 4 - (intOf v).toNat)
        case atStart => exact ⟨0, rfl, by omega, hT2.out, hxn2.out, hO2.out⟩
        case round =>
          clear hT2 hxn2 hO2
          obtain ⟨r, rfl, hr, hTq, hxq, hOq⟩ := hrel
          have hcase : r = 0 ∨ r = 1 ∨ r = 2 ∨ r = 3 ∨ r = 4 := by omega
          rcases hcase with rfl | rfl | rfl | rfl | rfl
          · have kG := ref55_Rgamma br bi A1 k1 c1 bs (q4S bs s2 0) wr hTq.s
            have hv : q4L bs s2 1 = (q4L bs s2 0).set 0 (.int .i64 (gamR bs (q4S bs s2 0)).1) := rfl
            have hs' : q4S bs s2 1 = (gamR bs (q4S bs s2 0)).2 := rfl
            rw [← hs'] at kG
            generalize (gamR bs (q4S bs s2 0)).1 = v at kG hv
            clear hs'
            go_wp2_with fail
            go_at_call 62
            refine kG.mono ?_
            rintro e w5 ⟨rfl, hS5, hf5⟩
            have hT5 := hTq.read hK hS5 hf5
            have hx5 := hxq.frR hf5 (by have := hK.t.br; have := hK.t.bi; rintro (k | k) <;> omega)
            have hO5 := TaS.own hK hOq hf5
            have hx5z := hx5.1
            have x5 : w5.cell? ⟨xb, 0, none⟩ = some (.int .i64 0) := hx5.2.1 0
            have f5 : w5.frozen? ⟨xb, 0, none⟩ = false := hx5.2.2 0
            have hT6 := Lib.hid (hT5.gr hK (grownBy_set w5 xb 0 (.int .i64 v)) (fun q e => by injection e with e; omega))
            have hx6 := hx5.put 0 (.int .i64 v) (by simp [q4L])
            have hO6 := Lib.hid (hO5.over2 (grownBy_set w5 xb 0 (.int .i64 v)) (fun q hq e => by have := hrow.out q hq; injection e with e; omega))
            rw [← hv] at hx6
            replace hx6 := Lib.hid hx6
            clear hTq hxq hOq hT5 hx5 hO5 kG hS5 hf5 hv
            go_wp2_with fail
            go_roundw
            case rel => exact ⟨1, by go_num, by omega, hT6.out, hx6.out, hO6.out⟩
            case measure => simp [intOf]
          · have kG := ref55_Rgamma br bi A1 k1 c1 bs (q4S bs s2 1) wr hTq.s
            have hv : q4L bs s2 2 = (q4L bs s2 1).set 1 (.int .i64 (gamR bs (q4S bs s2 1)).1) := rfl
            have hs' : q4S bs s2 2 = (gamR bs (q4S bs s2 1)).2 := rfl
            rw [← hs'] at kG
            generalize (gamR bs (q4S bs s2 1)).1 = v at kG hv
            clear hs'
            go_wp2_with fail
            go_at_call 62
            refine kG.mono ?_
            rintro e w5 ⟨rfl, hS5, hf5⟩
            have hT5 := hTq.read hK hS5 hf5
            have hx5 := hxq.frR hf5 (by have := hK.t.br; have := hK.t.bi; rintro (k | k) <;> omega)
            have hO5 := TaS.own hK hOq hf5
            have hx5z := hx5.1
            have x5 : w5.cell? ⟨xb, 1, none⟩ = some (.int .i64 0) := hx5.2.1 1
            have f5 : w5.frozen? ⟨xb, 1, none⟩ = false := hx5.2.2 1
            have hT6 := Lib.hid (hT5.gr hK (grownBy_set w5 xb 1 (.int .i64 v)) (fun q e => by injection e with e; omega))
            have hx6 := hx5.put 1 (.int .i64 v) (by simp [q4L])
            have hO6 := Lib.hid (hO5.over2 (grownBy_set w5 xb 1 (.int .i64 v)) (fun q hq e => by have := hrow.out q hq; injection e with e; omega))
            rw [← hv] at hx6
            replace hx6 := Lib.hid hx6
            clear hTq hxq hOq hT5 hx5 hO5 kG hS5 hf5 hv
            go_wp2_with fail
            go_roundw
            case rel => exact ⟨2, by go_num, by omega, hT6.out, hx6.out, hO6.out⟩
            case measure => simp [intOf]
          · have kG := ref55_Rgamma br bi A1 k1 c1 bs (q4S bs s2 2) wr hTq.s
            have hv : q4L bs s2 3 = (q4L bs s2 2).set 2 (.int .i64 (gamR bs (q4S bs s2 2)).1) := rfl
            have hs' : q4S bs s2 3 = (gamR bs (q4S bs s2 2)).2 := rfl
            rw [← hs'] at kG
            generalize (gamR bs (q4S bs s2 2)).1 = v at kG hv
            clear hs'
            go_wp2_with fail
            go_at_call 62
            refine kG.mono ?_
            rintro e w5 ⟨rfl, hS5, hf5⟩
            have hT5 := hTq.read hK hS5 hf5
            have hx5 := hxq.frR hf5 (by have := hK.t.br; have := hK.t.bi; rintro (k | k) <;> omega)
            have hO5 := TaS.own hK hOq hf5
            have hx5z := hx5.1
            have x5 : w5.cell? ⟨xb, 2, none⟩ = some (.int .i64 0) := hx5.2.1 2
            have f5 : w5.frozen? ⟨xb, 2, none⟩ = false := hx5.2.2 2
            have hT6 := Lib.hid (hT5.gr hK (grownBy_set w5 xb 2 (.int .i64 v)) (fun q e => by injection e with e; omega))
            have hx6 := hx5.put 2 (.int .i64 v) (by simp [q4L])
            have hO6 := Lib.hid (hO5.over2 (grownBy_set w5 xb 2 (.int .i64 v)) (fun q hq e => by have := hrow.out q hq; injection e with e; omega))
            rw [← hv] at hx6
            replace hx6 := Lib.hid hx6
            clear hTq hxq hOq hT5 hx5 hO5 kG hS5 hf5 hv
            go_wp2_with fail
            go_roundw
            case rel => exact ⟨3, by go_num, by omega, hT6.out, hx6.out, hO6.out⟩
            case measure => simp [intOf]
          · have kG := ref55_Rgamma br bi A1 k1 c1 bs (q4S bs s2 3) wr hTq.s
            have hv : q4L bs s2 4 = (q4L bs s2 3).set 3 (.int .i64 (gamR bs (q4S bs s2 3)).1) := rfl
            have hs' : q4S bs s2 4 = (gamR bs (q4S bs s2 3)).2 := rfl
            rw [← hs'] at kG
            generalize (gamR bs (q4S bs s2 3)).1 = v at kG hv
            clear hs'
            go_wp2_with fail
            go_at_call 62
            refine kG.mono ?_
            rintro e w5 ⟨rfl, hS5, hf5⟩
            have hT5 := hTq.read hK hS5 hf5
            have hx5 := hxq.frR hf5 (by have := hK.t.br; have := hK.t.bi; rintro (k | k) <;> omega)
            have hO5 := TaS.own hK hOq hf5
            have hx5z := hx5.1
            have x5 : w5.cell? ⟨xb, 3, none⟩ = some (.int .i64 0) := hx5.2.1 3
            have f5 : w5.frozen? ⟨xb, 3, none⟩ = false := hx5.2.2 3
            have hT6 := Lib.hid (hT5.gr hK (grownBy_set w5 xb 3 (.int .i64 v)) (fun q e => by injection e with e; omega))
            have hx6 := hx5.put 3 (.int .i64 v) (by simp [q4L])
            have hO6 := Lib.hid (hO5.over2 (grownBy_set w5 xb 3 (.int .i64 v)) (fun q hq e => by have := hrow.out q hq; injection e with e; omega))
            rw [← hv] at hx6
            replace hx6 := Lib.hid hx6
            clear hTq hxq hOq hT5 hx5 hO5 kG hS5 hf5 hv
            go_wp2_with fail
            go_roundw
            case rel => exact ⟨4, by go_num, by omega, hT6.out, hx6.out, hO6.out⟩
            case measure => simp [intOf]
          · obtain ⟨P1, hP1⟩ : ∃ P1, P1 = (qdR bs j L s2).1 := ⟨_, rfl⟩
            obtain ⟨P2, hP2⟩ : ∃ P2, P2 = (qdR bs j L s2).2 := ⟨_, rfl⟩
            rw [← hP1, ← hP2] at hst hzst
            rw [show q4S bs s2 4 = (qdR bs j L s2).2 from rfl, ← hP2] at hTq
            have hval : q4L bs s2 4 = encQd ((gamR bs s2).1, (gamR bs (gamR bs s2).2).1, (gamR bs (gamR bs (gamR bs s2).2).2).1, (gamR bs (gamR bs (gamR bs (gamR bs s2).2).2).2).1) := rfl
            replace hP1 : P1 = L ++ [((gamR bs s2).1, (gamR bs (gamR bs s2).2).1, (gamR bs (gamR bs (gamR bs s2).2).2).1, (gamR bs (gamR bs (gamR bs (gamR bs s2).2).2).2).1)] := by rw [hP1]; rfl
            clear hP2
            generalize (gamR bs s2).1 = v0 at hval hP1
            generalize (gamR bs (gamR bs s2).2).1 = v1 at hval hP1
            generalize (gamR bs (gamR bs (gamR bs s2).2).2).1 = v2 at hval hP1
            generalize (gamR bs (gamR bs (gamR bs (gamR bs s2).2).2).2).1 = v3 at hval hP1
            rw [hval] at hxq
            rw [hP1] at hst hzst
            obtain ⟨hxz, y0, y1, y2, y3⟩ : xb < wr.heap.size ∧ wr.cell? ⟨xb, 0, none⟩ = some (.int .i64 v0) ∧ wr.cell? ⟨xb, 1, none⟩ = some (.int .i64 v1) ∧ wr.cell? ⟨xb, 2, none⟩ = some (.int .i64 v2) ∧ wr.cell? ⟨xb, 3, none⟩ = some (.int .i64 v3) := ⟨hxq.1, hxq.2.1 0, hxq.2.1 1, hxq.2.1 2, hxq.2.1 3⟩
            obtain ⟨tz, t0, t1, ft0, ft1⟩ := hTq.x.open2
            have hTq' := Lib.hid hTq
            have hOq' := Lib.hid hOq
            clear hval hP1 hxq hTq hOq
            go_wp2_with (at_builtin; refine wpList_append_el rfl (.tmp 41) (.tmp 43) 44 rfl encQd 4 69 (.agg #[.int .i64 0, .int .i64 0, .int .i64 0, .int .i64 0]) 32 Tryz.underlying44 (by kernel_rfl) rfl (by decide) encQd_len encQd_one (tb + 1) _ _ _ _ rfl (hOq'.out.alloc _) (v0, v1, v2, v3) ⟨(wr).heap.size, 0, none⟩ 1 rfl (cells_new (wr) _ _) (by omega) (by omega) (by first | omega | (simp; done) | (simp; omega)) ?_; intro A7 c7 w7 hown7 hg7 hb7; obtain ⟨hc7, hf7⟩ := bcell hb7; have hs7 := hb7.size; (try simp only [World.size_alloc, World.size_setCell, World.size_drew] at hc7 hf7); (try simp at hs7))
            have hal : Below wr.heap.size wr (wr.alloc (.cells #[.int .i64 v0, .int .i64 v1, .int .i64 v2, .int .i64 v3] 69)) := (Below.refl _ _).alloc (Nat.le_refl _) _
            have hT7 := (hTq'.out.of hal).gr hK hg7 (fun q e => (hrow.out q e).1)
            have hT8 := Lib.hid (hT7.put hK 1 (.slice A7 (nn + 1) c7) (by simp))
            have hO8 := Lib.hid (hown7.setBelow (b := tb) (i := 1) (Nat.lt_succ_self _) (.slice A7 (nn + 1) c7))
            clear hT7
            go_roundw
            case rel => exact ⟨j + 1, L ++ [(v0, v1, v2, v3)], P2, A7, nn + 1, c7, by go_num, by omega, hst, hzst, hT8.out, hO8.out⟩
            case measure => simp [intOf]; omega
      · skip
        have d1 : (s2.2 == 0) = false := by simpa using he
        have hfin := Lib.hid (hR.out.trans (lpR_bad he))
        clear he
        have hOh := Lib.hid hO
        obtain ⟨rc, hrc⟩ : ∃ rc, rc = qR st L := ⟨_, rfl⟩
        have hEf := hE.out
        rw [hfin.out] at hEf
        simp only at hEf
        have kR := ref25_Right st NA nn nc L wr (hO.rd encQd_len) (by omega)
        rw [← hrc] at kR hEf
        replace hrc := Lib.hid hrc
        have hEf' := Lib.hid hEf
        obtain ⟨xz, x0, x1⟩ := (⟨hT.x.1, hT.x.2.1 0, hT.x.2.1 1⟩ : tb < wr.heap.size ∧ wr.cell? ⟨tb, 0, none⟩ = some (.int .i64 st) ∧ wr.cell? ⟨tb, 1, none⟩ = some (.slice NA nn nc))
        replace hTh := Lib.hid hT
        clear hT hEf hO
        go_wp2_with fail
        go_at_call 64
        refine kR.mono ?_
        rintro e w6 ⟨rfl, hb6⟩
        have hT6 := hTh.out.of hb6
        replace hOh := Lib.hid (hOh.out.of hb6)
        have kE := ref55_Rend br bi A1 k1 c1 bs s2 w6 rc hT6.s
        rw [← hEf'.out] at kE
        replace hT6 := Lib.hid hT6
        clear hb6 kR xz x0 x1
        obtain ⟨xz, x0, x1⟩ := (⟨hT6.out.x.1, hT6.out.x.2.1 0, hT6.out.x.2.1 1⟩ : tb < w6.heap.size ∧ w6.cell? ⟨tb, 0, none⟩ = some (.int .i64 st) ∧ w6.cell? ⟨tb, 1, none⟩ = some (.slice NA nn nc))
        go_wp2_with fail
        go_at_call 48
        refine kE.mono ?_
        rintro e w7 ⟨rfl, hb7⟩
        have hT7 := hT6.out.of hb7
        replace hOh := Lib.hid (hOh.out.of hb7)
        clear kE hb7 xz x0 x1
        obtain ⟨xz, x0, x1⟩ := (⟨hT7.x.1, hT7.x.2.1 0, hT7.x.2.1 1⟩ : tb < w7.heap.size ∧ w7.cell? ⟨tb, 0, none⟩ = some (.int .i64 st) ∧ w7.cell? ⟨tb, 1, none⟩ = some (.slice NA nn nc))
        have r0 : w7.cell? ⟨w.heap.size, 0, none⟩ = some (.int .i64 0) := hT7.r.2.1 0
        have f0 : w7.frozen? ⟨w.heap.size, 0, none⟩ = false := hT7.r.2.2 0
        have r1 : w7.cell? ⟨w.heap.size, 1, none⟩ = some (.slice none 0 0) := hT7.r.2.1 1
        have f1 : w7.frozen? ⟨w.heap.size, 1, none⟩ = false := hT7.r.2.2 1
        have rz := hT7.r.1
        have hrt7 := hT7.r
        have hB7 := Lib.hid hT7.b
        clear hT7
        by_cases h0 : E = 0
        · subst h0
          have hV := hok.out rfl
          injection hV with hv1 hv3
          rw [hfin.out] at hv3
          simp only at hv3
          replace hv1 := hv1.symm
          replace hv3 := hv3.symm
          subst hv1 hv3
          have hB8 : Below w.heap.size w ((w7.setCell ⟨w.heap.size, 0, none⟩ (.int .i64 st)).setCell ⟨w.heap.size, 1, none⟩ (.slice NA nn nc)) := ((hB7.out.setCell (Nat.le_refl _) _).setCell (Nat.le_refl _) _)
          have hx8 : BxW ((w7.setCell ⟨w.heap.size, 0, none⟩ (.int .i64 st)).setCell ⟨w.heap.size, 1, none⟩ (.slice NA nn nc)) w.heap.size [.int .i64 st, .slice NA nn nc] := ((hrt7.put 0 _ (by simp)).put 1 _ (by simp))
          have hO8 := ((hOh.out.setBelow (b := w.heap.size) (i := 0) hrtB (.int .i64 st)).setBelow (b := w.heap.size) (i := 1) hrtB (.slice NA nn nc)).rd encQd_len
          change Rd encQd 4 ((w7.setCell ⟨w.heap.size, 0, none⟩ (.int .i64 st)).setCell ⟨w.heap.size, 1, none⟩ (.slice NA nn nc)) NA nn L at hO8
          replace hO8 := Lib.hid hO8
          replace hB8 := Lib.hid hB8
          clear hrt7
          go_wp2_with fail
          obtain ⟨w8, hw8⟩ : ∃ w8, w8 = (w7.setCell ⟨w.heap.size, 0, none⟩ (.int .i64 st)).setCell ⟨w.heap.size, 1, none⟩ (.slice NA nn nc) := ⟨_, rfl⟩
          rw [← hw8] at hx8 hB8 hO8 ⊢
          clear hw8
          have y0 : w8.cell? ⟨w.heap.size, 0, none⟩ = some (.int .i64 st) := hx8.2.1 0
          have y1 : w8.cell? ⟨w.heap.size, 1, none⟩ = some (.slice NA nn nc) := hx8.2.1 1
          clear x0 r0 f0 x1 r1 f1 hx8
          refine bodyPost_ret (v := .tuple #[.agg #[.int .i64 st, .slice NA nn nc], .int .i64 0]) (by simp [results, Tryz.results25, go_sem, *, ↓IntWalk.iteOmega]) rfl ?_
          exact ⟨NA, nn, nc, rfl, hO8.out, hon, hB8.out⟩
        · have d1 : (E == 0) = false := by simpa using h0
          have d2 : (E != 0) = true := by simpa using h0
          have hV := hbd.out h0
          injection hV with hv1 hv3
          subst hv1 hv3
          have hB8 : Below w.heap.size w ((w7.setCell ⟨w.heap.size, 0, none⟩ (.int .i64 0)).setCell ⟨w.heap.size, 1, none⟩ (.slice none 0 0)) := ((hB7.out.setCell (Nat.le_refl _) _).setCell (Nat.le_refl _) _)
          have hx8 : BxW ((w7.setCell ⟨w.heap.size, 0, none⟩ (.int .i64 0)).setCell ⟨w.heap.size, 1, none⟩ (.slice none 0 0)) w.heap.size [.int .i64 0, .slice none 0 0] := ((hrt7.put 0 _ (by simp)).put 1 _ (by simp))
          replace hB8 := Lib.hid hB8
          clear hrt7
          go_wp2_with fail
          obtain ⟨w8, hw8⟩ : ∃ w8, w8 = (w7.setCell ⟨w.heap.size, 0, none⟩ (.int .i64 0)).setCell ⟨w.heap.size, 1, none⟩ (.slice none 0 0) := ⟨_, rfl⟩
          rw [← hw8] at hx8 hB8 ⊢
          clear hw8
          have y0 : w8.cell? ⟨w.heap.size, 0, none⟩ = some (.int .i64 0) := hx8.2.1 0
          have y1 : w8.cell? ⟨w.heap.size, 1, none⟩ = some (.slice none 0 0) := hx8.2.1 1
          clear x0 r0 f0 x1 r1 f1 hx8
          refine bodyPost_ret (v := .tuple #[.agg #[.int .i64 0, .slice none 0 0], .int .i64 E]) (by simp [results, Tryz.results25, go_sem, *, ↓IntWalk.iteOmega]) rfl ?_
          exact ⟨none, 0, 0, rfl, Rd.nil_, by omega, hB8.out⟩
    · skip
      obtain rfl : j = N := by omega
      have dj : decide ((j : Int) < j) = false := decide_eq_false (by omega)
      have dj' : decide (j < j) = false := decide_eq_false (by omega)
      have hfin := Lib.hid (hR.out.trans (lpR_done (Nat.le_refl _)))
      have hOh := Lib.hid hO
      obtain ⟨rc, hrc⟩ : ∃ rc, rc = qR st L := ⟨_, rfl⟩
      have hEf := hE.out
      rw [hfin.out] at hEf
      simp only at hEf
      have kR := ref25_Right st NA nn nc L wr (hO.rd encQd_len) (by omega)
      rw [← hrc] at kR hEf
      replace hrc := Lib.hid hrc
      have hEf' := Lib.hid hEf
      obtain ⟨xz, x0, x1⟩ := (⟨hT.x.1, hT.x.2.1 0, hT.x.2.1 1⟩ : tb < wr.heap.size ∧ wr.cell? ⟨tb, 0, none⟩ = some (.int .i64 st) ∧ wr.cell? ⟨tb, 1, none⟩ = some (.slice NA nn nc))
      replace hTh := Lib.hid hT
      clear hT hEf hO
      go_wp2_with fail
      go_at_call 64
      refine kR.mono ?_
      rintro e w6 ⟨rfl, hb6⟩
      have hT6 := hTh.out.of hb6
      replace hOh := Lib.hid (hOh.out.of hb6)
      have kE := ref55_Rend br bi A1 k1 c1 bs s2 w6 rc hT6.s
      rw [← hEf'.out] at kE
      replace hT6 := Lib.hid hT6
      clear hb6 kR xz x0 x1
      obtain ⟨xz, x0, x1⟩ := (⟨hT6.out.x.1, hT6.out.x.2.1 0, hT6.out.x.2.1 1⟩ : tb < w6.heap.size ∧ w6.cell? ⟨tb, 0, none⟩ = some (.int .i64 st) ∧ w6.cell? ⟨tb, 1, none⟩ = some (.slice NA nn nc))
      go_wp2_with fail
      go_at_call 48
      refine kE.mono ?_
      rintro e w7 ⟨rfl, hb7⟩
      have hT7 := hT6.out.of hb7
      replace hOh := Lib.hid (hOh.out.of hb7)
      clear kE hb7 xz x0 x1
      obtain ⟨xz, x0, x1⟩ := (⟨hT7.x.1, hT7.x.2.1 0, hT7.x.2.1 1⟩ : tb < w7.heap.size ∧ w7.cell? ⟨tb, 0, none⟩ = some (.int .i64 st) ∧ w7.cell? ⟨tb, 1, none⟩ = some (.slice NA nn nc))
      have r0 : w7.cell? ⟨w.heap.size, 0, none⟩ = some (.int .i64 0) := hT7.r.2.1 0
      have f0 : w7.frozen? ⟨w.heap.size, 0, none⟩ = false := hT7.r.2.2 0
      have r1 : w7.cell? ⟨w.heap.size, 1, none⟩ = some (.slice none 0 0) := hT7.r.2.1 1
      have f1 : w7.frozen? ⟨w.heap.size, 1, none⟩ = false := hT7.r.2.2 1
      have rz := hT7.r.1
      have hrt7 := hT7.r
      have hB7 := Lib.hid hT7.b
      clear hT7
      by_cases h0 : E = 0
      · subst h0
        have hV := hok.out rfl
        injection hV with hv1 hv3
        rw [hfin.out] at hv3
        simp only at hv3
        replace hv1 := hv1.symm
        replace hv3 := hv3.symm
        subst hv1 hv3
        have hB8 : Below w.heap.size w ((w7.setCell ⟨w.heap.size, 0, none⟩ (.int .i64 st)).setCell ⟨w.heap.size, 1, none⟩ (.slice NA nn nc)) := ((hB7.out.setCell (Nat.le_refl _) _).setCell (Nat.le_refl _) _)
        have hx8 : BxW ((w7.setCell ⟨w.heap.size, 0, none⟩ (.int .i64 st)).setCell ⟨w.heap.size, 1, none⟩ (.slice NA nn nc)) w.heap.size [.int .i64 st, .slice NA nn nc] := ((hrt7.put 0 _ (by simp)).put 1 _ (by simp))
        have hO8 := ((hOh.out.setBelow (b := w.heap.size) (i := 0) hrtB (.int .i64 st)).setBelow (b := w.heap.size) (i := 1) hrtB (.slice NA nn nc)).rd encQd_len
        change Rd encQd 4 ((w7.setCell ⟨w.heap.size, 0, none⟩ (.int .i64 st)).setCell ⟨w.heap.size, 1, none⟩ (.slice NA nn nc)) NA nn L at hO8
        replace hO8 := Lib.hid hO8
        replace hB8 := Lib.hid hB8
        clear hrt7
        go_wp2_with fail
        obtain ⟨w8, hw8⟩ : ∃ w8, w8 = (w7.setCell ⟨w.heap.size, 0, none⟩ (.int .i64 st)).setCell ⟨w.heap.size, 1, none⟩ (.slice NA nn nc) := ⟨_, rfl⟩
        rw [← hw8] at hx8 hB8 hO8 ⊢
        clear hw8
        have y0 : w8.cell? ⟨w.heap.size, 0, none⟩ = some (.int .i64 st) := hx8.2.1 0
        have y1 : w8.cell? ⟨w.heap.size, 1, none⟩ = some (.slice NA nn nc) := hx8.2.1 1
        clear x0 r0 f0 x1 r1 f1 hx8
        refine bodyPost_ret (v := .tuple #[.agg #[.int .i64 st, .slice NA nn nc], .int .i64 0]) (by simp [results, Tryz.results25, go_sem, *, ↓IntWalk.iteOmega]) rfl ?_
        exact ⟨NA, nn, nc, rfl, hO8.out, hon, hB8.out⟩
      · have d1 : (E == 0) = false := by simpa using h0
        have d2 : (E != 0) = true := by simpa using h0
        have hV := hbd.out h0
        injection hV with hv1 hv3
        subst hv1 hv3
        have hB8 : Below w.heap.size w ((w7.setCell ⟨w.heap.size, 0, none⟩ (.int .i64 0)).setCell ⟨w.heap.size, 1, none⟩ (.slice none 0 0)) := ((hB7.out.setCell (Nat.le_refl _) _).setCell (Nat.le_refl _) _)
        have hx8 : BxW ((w7.setCell ⟨w.heap.size, 0, none⟩ (.int .i64 0)).setCell ⟨w.heap.size, 1, none⟩ (.slice none 0 0)) w.heap.size [.int .i64 0, .slice none 0 0] := ((hrt7.put 0 _ (by simp)).put 1 _ (by simp))
        replace hB8 := Lib.hid hB8
        clear hrt7
        go_wp2_with fail
        obtain ⟨w8, hw8⟩ : ∃ w8, w8 = (w7.setCell ⟨w.heap.size, 0, none⟩ (.int .i64 0)).setCell ⟨w.heap.size, 1, none⟩ (.slice none 0 0) := ⟨_, rfl⟩
        rw [← hw8] at hx8 hB8 ⊢
        clear hw8
        have y0 : w8.cell? ⟨w.heap.size, 0, none⟩ = some (.int .i64 0) := hx8.2.1 0
        have y1 : w8.cell? ⟨w.heap.size, 1, none⟩ = some (.slice none 0 0) := hx8.2.1 1
        clear x0 r0 f0 x1 r1 f1 hx8
        refine bodyPost_ret (v := .tuple #[.agg #[.int .i64 0, .slice none 0 0], .int .i64 E]) (by simp [results, Tryz.results25, go_sem, *, ↓IntWalk.iteOmega]) rfl ?_
        exact ⟨none, 0, 0, rfl, Rd.nil_, by omega, hB8.out⟩
end Go.Proofs.YtmenokhnanghgaaGreat
