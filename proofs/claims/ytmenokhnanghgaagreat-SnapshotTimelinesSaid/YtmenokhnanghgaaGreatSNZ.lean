/- snapshot's TakeQuads: its first closure, a node. By mksnpy.py. snapshot's TakeQuads. -/
import Derived.Test.YtmenokhnanghgaaGreatSnpU
import Derived.Test.YtmenokhnanghgaaGreatQUR
import Derived.Test.YtmenokhnanghgaaGreatSnpS
set_option linter.unusedSimpArgs false
set_option linter.unusedVariables false
section
namespace Go.Proofs.YtmenokhnanghgaaGreat
open Go Go.RowKit
set_option maxRecDepth 100000
def q4L (bs : List Bool) (s : RS) : Nat → List Value
  | 0 => [.int .i64 0, .int .i64 0, .int .i64 0, .int .i64 0]
  | 1 => [.int .i64 (gamR bs s).1, .int .i64 0, .int .i64 0, .int .i64 0]
  | 2 => [.int .i64 (gamR bs s).1, .int .i64 (gamR bs (gamR bs s).2).1, .int .i64 0, .int .i64 0]
  | 3 => [.int .i64 (gamR bs s).1, .int .i64 (gamR bs (gamR bs s).2).1, .int .i64 (gamR bs (gamR bs (gamR bs s).2).2).1, .int .i64 0]
  | _ => [.int .i64 (gamR bs s).1, .int .i64 (gamR bs (gamR bs s).2).1, .int .i64 (gamR bs (gamR bs (gamR bs s).2).2).1, .int .i64 (gamR bs (gamR bs (gamR bs (gamR bs s).2).2).2).1]
def q4S (bs : List Bool) (s : RS) : Nat → RS
  | 0 => s
  | r + 1 => (gamR bs (q4S bs s r)).2
set_option maxHeartbeats 16000000 in
theorem snp_TakeQuads1 (B1 : Nat) (w0 : World) (br bi b4 bx : Nat) (st : Int) (F : List Qd) (OA : Option Addr) (on oc : Nat) (A : Option Addr) (n c : Nat) (l : List Int) (s : RS) (i : Nat) (w : World)
    (hK : TkK w0.heap.size B1 br bi b4 bx) (hA : 0 < n → ∀ b o, A = some ⟨b, o, none⟩ → b < w0.heap.size) (hT : TkB B1 w0 br bi b4 bx [.int .i64 st, .slice OA on oc] w) (hO : Own encQd 4 69 B1 w OA on oc F) (hS : RdS w br bi A n c l s) (hon : on ≤ 1000000) :
    Calls Tryz.prog 65 #[.int .i64 (i : Int), .pointer (some ⟨b4, 0, none⟩), .pointer (some ⟨bx, 0, none⟩)] w fun e w' => e = void ∧ ∃ OA' on' oc', TkB B1 w0 br bi b4 bx [.int .i64 st, .slice OA' on' oc'] w' ∧ Own encQd 4 69 B1 w' OA' on' oc' (qdR (unB l) i F s).1 ∧ RdS w' br bi A n c l (qdR (unB l) i F s).2 := by
  have hz := hT.z
  have hn1 := hK.r1
  have hn2 := hK.r2
  have hnx := hK.x
  have hnc := hK.c
  have hbw := hT.f.size
  have hlt2 : ∀ q, (Value.slice OA on oc).ownBlock = some q → B1 ≤ q ∧ q < w.heap.size := fun q hq => hO.row.lt q hq
  obtain ⟨P1, hP1⟩ : ∃ P1, P1 = (qdR (unB l) i F s).1 := ⟨_, rfl⟩
  obtain ⟨P2, hP2⟩ : ∃ P2, P2 = (qdR (unB l) i F s).2 := ⟨_, rfl⟩
  rw [← hP1, ← hP2]
  replace hP1 := Lib.hid hP1
  replace hP2 := Lib.hid hP2
  have hTh := Lib.hid hT
  have hOh := Lib.hid hO
  obtain ⟨w2, hw2⟩ : ∃ w2, w2 = w.alloc (.cells #[.int .i64 0, .int .i64 0, .int .i64 0, .int .i64 0] 69) := ⟨_, rfl⟩
  have hb2 : Below w.heap.size w w2 := by rw [hw2]; exact (Below.refl _ _).alloc (Nat.le_refl _) _
  have hxn : BxW w2 w.heap.size [.int .i64 0, .int .i64 0, .int .i64 0, .int .i64 0] := by rw [hw2]; exact BxW.new w [_, _, _, _] _
  have hX2 : TfS w w.heap.size (q4L (unB l) s 0) br bi A n c l (q4S (unB l) s 0) w2 := ⟨hxn, (Fr2.here w _).of hb2, hS.of hb2⟩
  obtain ⟨xb, hxb⟩ : ∃ xb, xb = w.heap.size := ⟨_, rfl⟩
  rw [← hxb] at hX2
  have hxw : w.heap.size ≤ xb := by omega
  have hxB : B1 ≤ xb := by omega
  replace hX2 := Lib.hid hX2
  clear hT hO hS hxn hb2
  go_enter Tryz.func65, Tryz.ntmps65
  go_upto_region 1 with (fail)
  rw [← hw2]
  rw [← hxb]
  clear hw2 hxb
  go_upto_region 2 with (fail)
  go_loopw [6] (fun v wr => ∃ (r : Nat), v = .int .i64 (r : Int) ∧ r ≤ 4 ∧ TfS w xb (q4L (unB l) s r) br bi A n c l (q4S (unB l) s r) wr) (fun v _ => 4 - (intOf v).toNat)
  case atStart => exact ⟨0, rfl, by omega, hX2.out⟩
  case round =>
    clear hX2
    obtain ⟨r, rfl, hr, hX⟩ := hrel
    obtain ⟨_, c0, _⟩ := (hTh.out.read hK hX.f).c.open1
    have hcase : r = 0 ∨ r = 1 ∨ r = 2 ∨ r = 3 ∨ r = 4 := by omega
    rcases hcase with rfl | rfl | rfl | rfl | rfl
    · have kG := snp_gamma br bi A n c l (q4S (unB l) s 0) wr hX.s
      have hv : q4L (unB l) s 1 = (q4L (unB l) s 0).set 0 (.int .i64 (gamR (unB l) (q4S (unB l) s 0)).1) := rfl
      have hs' : q4S (unB l) s 1 = (gamR (unB l) (q4S (unB l) s 0)).2 := rfl
      rw [← hs'] at kG
      generalize (gamR (unB l) (q4S (unB l) s 0)).1 = v at kG hv
      clear hs'
      go_wp2_with fail
      go_at_call 59
      refine kG.mono ?_
      rintro e w5 ⟨rfl, hS5, hf5⟩
      have hX5 := hX.read hK hxB hS5 hf5
      have hx5z := hX5.x.1
      have x5 : w5.cell? ⟨xb, 0, none⟩ = some (.int .i64 0) := hX5.x.2.1 0
      have f5 : w5.frozen? ⟨xb, 0, none⟩ = false := hX5.x.2.2 0
      have hX6 := hX5.put hK hA hxB hxw 0 (.int .i64 v) (by simp [q4L])
      rw [← hv] at hX6
      replace hX6 := Lib.hid hX6
      clear hX hX5 kG hS5 hf5 c0 hv
      go_wp2_with fail
      go_roundw
      case rel => exact ⟨1, by go_num, by omega, hX6.out⟩
      case measure => simp [intOf]
    · have kG := snp_gamma br bi A n c l (q4S (unB l) s 1) wr hX.s
      have hv : q4L (unB l) s 2 = (q4L (unB l) s 1).set 1 (.int .i64 (gamR (unB l) (q4S (unB l) s 1)).1) := rfl
      have hs' : q4S (unB l) s 2 = (gamR (unB l) (q4S (unB l) s 1)).2 := rfl
      rw [← hs'] at kG
      generalize (gamR (unB l) (q4S (unB l) s 1)).1 = v at kG hv
      clear hs'
      go_wp2_with fail
      go_at_call 59
      refine kG.mono ?_
      rintro e w5 ⟨rfl, hS5, hf5⟩
      have hX5 := hX.read hK hxB hS5 hf5
      have hx5z := hX5.x.1
      have x5 : w5.cell? ⟨xb, 1, none⟩ = some (.int .i64 0) := hX5.x.2.1 1
      have f5 : w5.frozen? ⟨xb, 1, none⟩ = false := hX5.x.2.2 1
      have hX6 := hX5.put hK hA hxB hxw 1 (.int .i64 v) (by simp [q4L])
      rw [← hv] at hX6
      replace hX6 := Lib.hid hX6
      clear hX hX5 kG hS5 hf5 c0 hv
      go_wp2_with fail
      go_roundw
      case rel => exact ⟨2, by go_num, by omega, hX6.out⟩
      case measure => simp [intOf]
    · have kG := snp_gamma br bi A n c l (q4S (unB l) s 2) wr hX.s
      have hv : q4L (unB l) s 3 = (q4L (unB l) s 2).set 2 (.int .i64 (gamR (unB l) (q4S (unB l) s 2)).1) := rfl
      have hs' : q4S (unB l) s 3 = (gamR (unB l) (q4S (unB l) s 2)).2 := rfl
      rw [← hs'] at kG
      generalize (gamR (unB l) (q4S (unB l) s 2)).1 = v at kG hv
      clear hs'
      go_wp2_with fail
      go_at_call 59
      refine kG.mono ?_
      rintro e w5 ⟨rfl, hS5, hf5⟩
      have hX5 := hX.read hK hxB hS5 hf5
      have hx5z := hX5.x.1
      have x5 : w5.cell? ⟨xb, 2, none⟩ = some (.int .i64 0) := hX5.x.2.1 2
      have f5 : w5.frozen? ⟨xb, 2, none⟩ = false := hX5.x.2.2 2
      have hX6 := hX5.put hK hA hxB hxw 2 (.int .i64 v) (by simp [q4L])
      rw [← hv] at hX6
      replace hX6 := Lib.hid hX6
      clear hX hX5 kG hS5 hf5 c0 hv
      go_wp2_with fail
      go_roundw
      case rel => exact ⟨3, by go_num, by omega, hX6.out⟩
      case measure => simp [intOf]
    · have kG := snp_gamma br bi A n c l (q4S (unB l) s 3) wr hX.s
      have hv : q4L (unB l) s 4 = (q4L (unB l) s 3).set 3 (.int .i64 (gamR (unB l) (q4S (unB l) s 3)).1) := rfl
      have hs' : q4S (unB l) s 4 = (gamR (unB l) (q4S (unB l) s 3)).2 := rfl
      rw [← hs'] at kG
      generalize (gamR (unB l) (q4S (unB l) s 3)).1 = v at kG hv
      clear hs'
      go_wp2_with fail
      go_at_call 59
      refine kG.mono ?_
      rintro e w5 ⟨rfl, hS5, hf5⟩
      have hX5 := hX.read hK hxB hS5 hf5
      have hx5z := hX5.x.1
      have x5 : w5.cell? ⟨xb, 3, none⟩ = some (.int .i64 0) := hX5.x.2.1 3
      have f5 : w5.frozen? ⟨xb, 3, none⟩ = false := hX5.x.2.2 3
      have hX6 := hX5.put hK hA hxB hxw 3 (.int .i64 v) (by simp [q4L])
      rw [← hv] at hX6
      replace hX6 := Lib.hid hX6
      clear hX hX5 kG hS5 hf5 c0 hv
      go_wp2_with fail
      go_roundw
      case rel => exact ⟨4, by go_num, by omega, hX6.out⟩
      case measure => simp [intOf]
    · have hTr := hTh.out.read hK hX.f
      have hOr := hOh.out.fr2 hX.f (fun q hq => by have := (hlt2 q hq).1; rintro (k | k) <;> omega)
      have hSr := hX.s
      rw [show q4S (unB l) s 4 = (qdR (unB l) i F s).2 from rfl, ← hP2.out] at hSr
      have hval : q4L (unB l) s 4 = encQd ((gamR (unB l) s).1, (gamR (unB l) (gamR (unB l) s).2).1, (gamR (unB l) (gamR (unB l) (gamR (unB l) s).2).2).1, (gamR (unB l) (gamR (unB l) (gamR (unB l) (gamR (unB l) s).2).2).2).1) := rfl
      replace hP1 : P1 = F ++ [((gamR (unB l) s).1, (gamR (unB l) (gamR (unB l) s).2).1, (gamR (unB l) (gamR (unB l) (gamR (unB l) s).2).2).1, (gamR (unB l) (gamR (unB l) (gamR (unB l) (gamR (unB l) s).2).2).2).1)] := by rw [hP1.out]; rfl
      generalize (gamR (unB l) s).1 = v0 at hval hP1
      generalize (gamR (unB l) (gamR (unB l) s).2).1 = v1 at hval hP1
      generalize (gamR (unB l) (gamR (unB l) (gamR (unB l) s).2).2).1 = v2 at hval hP1
      generalize (gamR (unB l) (gamR (unB l) (gamR (unB l) (gamR (unB l) s).2).2).2).1 = v3 at hval hP1
      have hx := hX.x
      rw [hval] at hx
      obtain ⟨hxz, y0, y1, y2, y3⟩ : xb < wr.heap.size ∧ wr.cell? ⟨xb, 0, none⟩ = some (.int .i64 v0) ∧ wr.cell? ⟨xb, 1, none⟩ = some (.int .i64 v1) ∧ wr.cell? ⟨xb, 2, none⟩ = some (.int .i64 v2) ∧ wr.cell? ⟨xb, 3, none⟩ = some (.int .i64 v3) := ⟨hx.1, hx.2.1 0, hx.2.1 1, hx.2.1 2, hx.2.1 3⟩
      replace hP1 := Lib.hid hP1
      have xz := hTr.x.1
      have x2 : wr.cell? ⟨bx, 1, none⟩ = some (.slice OA on oc) := hTr.x.2.1 1
      have hrow : ∀ q, (Value.slice OA on oc).ownBlock = some q → B1 ≤ q := fun q hq => (hlt2 q hq).1
      have kA : ∀ (A5 : Option Addr) (c5 : Nat) (w5 : World), Own encQd 4 69 B1 w5 A5 (on + 1) c5 (F ++ [(v0, v1, v2, v3)]) → (wr.alloc (.cells #[.int .i64 v0, .int .i64 v1, .int .i64 v2, .int .i64 v3] 69)).grownBy w5 (Value.slice OA on oc).ownBlock →
          w5.cell? ⟨bx, 1, none⟩ = some (.slice OA on oc) ∧ w5.frozen? ⟨bx, 1, none⟩ = false ∧ Hid (TkB B1 w0 br bi b4 bx [.int .i64 st, .slice A5 (on + 1) c5] (w5.setCell ⟨bx, 1, none⟩ (.slice A5 (on + 1) c5)) ∧ Own encQd 4 69 B1 (w5.setCell ⟨bx, 1, none⟩ (.slice A5 (on + 1) c5)) A5 (on + 1) c5 P1 ∧ RdS (w5.setCell ⟨bx, 1, none⟩ (.slice A5 (on + 1) c5)) br bi A n c l P2) := by
        intro A5 c5 w5 hO5 hg5
        have hal : Below wr.heap.size wr (wr.alloc (.cells #[.int .i64 v0, .int .i64 v1, .int .i64 v2, .int .i64 v3] 69)) := (Below.refl _ _).alloc (Nat.le_refl _) _
        have hT5 := (hTr.of hal).gr hK hg5 hrow
        have hS5 := (hSr.of hal).gr hK hA hg5 (fun q hq => by have := hrow q hq; omega)
        exact ⟨hT5.x.2.1 1, hT5.x.2.2 1, Lib.hid ⟨hT5.put hK 1 _ (by simp), by rw [hP1.out]; exact hO5.setBelow (by omega) _, hS5.gr hK hA (grownBy_set _ bx 1 _) (fun q e => by injection e with e; omega)⟩⟩
      have hBz : B1 ≤ wr.heap.size := hTr.z
      clear hTr hSr hX hval hx c0
      go_wp2_with (first | (at_builtin; refine wpList_append_el rfl (.tmp 16) (.tmp 18) 44 rfl encQd 4 69 (.agg #[.int .i64 0, .int .i64 0, .int .i64 0, .int .i64 0]) 32 Tryz.underlying44 (by kernel_rfl) rfl (by decide) encQd_len encQd_one B1 _ _ _ F rfl (Own.alloc hOr _) (v0, v1, v2, v3) ⟨wr.heap.size, 0, none⟩ 1 rfl (cells_new wr (encQd (v0, v1, v2, v3)) 69) (by omega) (by omega) (by simp only [World.size_alloc]; omega) ?_; intro A5 c5 w5 hO5 hg5 hb5; obtain ⟨x5, fx5, hfin⟩ := kA A5 c5 w5 hO5 hg5; clear hO5 hg5 hb5))
      all_goals
        go_end0
        exact ⟨rfl, A5, on + 1, c5, hfin.out⟩
end Go.Proofs.YtmenokhnanghgaaGreat
end
section
namespace Go.Proofs.YtmenokhnanghgaaGreat
open Go Go.RowKit
set_option maxRecDepth 100000
/-- The error of TakeQuads, and what it gives. -/
def tqE (bs : List Bool) : Int := cloR bs (tqN bs).2 (qR (tqS bs) (tqN bs).1)
def tqV (bs : List Bool) : Int × List Qd := if tqE bs = 0 then (tqS bs, (tqN bs).1) else (0, [])
theorem tq_ok {bs : List Bool} {E : Int} {V : Int × List Qd} (hE : E = tqE bs) (hV : V = tqV bs) (h : E = 0) : V = (tqS bs, (tqN bs).1) := by rw [hV]; unfold tqV; rw [if_pos (by rw [← hE]; exact h)]
theorem tq_bad {bs : List Bool} {E : Int} {V : Int × List Qd} (hE : E = tqE bs) (hV : V = tqV bs) (h : E ≠ 0) : V = (0, []) := by rw [hV]; unfold tqV; rw [if_neg (by rw [← hE]; exact h)]
set_option maxHeartbeats 4000000 in
theorem snp_TakeQuads2 (bx : Nat) (key : Int) (NA : Option Addr) (nn nc : Nat) (F : List Qd) (B : Nat) (w : World) (hB : B ≤ w.heap.size) (hx : BxW w bx [.int .i64 key, .slice NA nn nc]) (hN : Rd encQd 4 w NA nn F) (hnn : nn ≤ 1000000) :
    Calls Tryz.prog 66 #[.pointer (some ⟨bx, 0, none⟩)] w fun e w' => e = .returned (.bool (qR key F)) ∧ Below B w w' := by
  have kR := quad_Right key NA nn nc F w hN (by omega)
  have b0 : w.cell? ⟨bx, 0, none⟩ = some (.int .i64 key) := hx.2.1 0
  have b1 : w.cell? ⟨bx, 1, none⟩ = some (.slice NA nn nc) := hx.2.1 1
  have hxz := hx.1
  clear hx hN
  go_enter Tryz.func66, Tryz.ntmps66
  go_wp2_with fail
  go_at_call 63
  refine kR.mono ?_
  rintro e w1 ⟨rfl, hb1⟩
  replace hb1 := Lib.hid (hb1.mono hB)
  go_wp2_with fail
  go_ret
  exact ⟨rfl, hb1.out⟩
set_option maxHeartbeats 16000000 in
theorem snp_TakeQuads (A : Option Addr) (n c : Nat) (l : List Int) (w : World) (hR : Rd encU 1 w A n l) (hl : ByL l) (hn : n ≤ 65536) :
    Calls Tryz.prog 24 #[.slice A n c] w fun e w' => ∃ NA nn nc, e = .returned (.tuple #[.agg #[.int .i64 (tqV (unB l)).1, .slice NA nn nc], .int .i64 (tqE (unB l))]) ∧ Rd encQd 4 w' NA nn (tqV (unB l)).2 ∧ Below w.heap.size w w' := by
  obtain ⟨W, hW⟩ : ∃ W, W = w.alloc (.cells #[.int .i64 0, .slice none 0 0] 46) := ⟨_, rfl⟩
  have hb0 : Below w.heap.size w W := by rw [hW]; exact (Below.refl _ _).alloc (Nat.le_refl _) _
  have hrt : BxW W w.heap.size [.int .i64 0, .slice none 0 0] := by rw [hW]; exact BxW.new w [_, _] _
  have kO := snp_open 3 A n c l W (hR.of hb0) hl hn (by omega)
  rw [show opnR (unB l) ((3 : Nat) : Int) = opnR (unB l) 3 from rfl] at kO
  obtain ⟨E, hE⟩ : ∃ E, E = tqE (unB l) := ⟨_, rfl⟩
  obtain ⟨V, hV⟩ : ∃ V, V = tqV (unB l) := ⟨_, rfl⟩
  rw [← hE, ← hV]
  have hok := tq_ok hE hV
  have hbd := tq_bad hE hV
  obtain ⟨VS, VN⟩ := V
  clear hV
  simp only
  replace hE : E = cloR (unB l) (tqN (unB l)).2 (qR (tqS (unB l)) (tqN (unB l)).1) := hE
  have hSd : tqS (unB l) = (bitsR (unB l) 3 (opnR (unB l) 3)).1 + 1 := rfl
  have hNd : tqN (unB l) = lpR (qdR (unB l)) (gamR (unB l) (bitsR (unB l) 3 (opnR (unB l) 3)).2).1.toNat 0 [] (gamR (unB l) (bitsR (unB l) 3 (opnR (unB l) 3)).2).2 := rfl
  have hv := bitsR3 (unB l) (opnR (unB l) 3)
  replace hE := Lib.hid hE
  replace hbd := Lib.hid hbd
  replace hok := Lib.hid hok
  replace hNd := Lib.hid hNd
  replace hrt := Lib.hid hrt
  clear hR
  go_enter Tryz.func24, Tryz.ntmps24
  go_upto_region 1 with (fail)
  rw [← hW]
  clear hW
  replace hb0 := Lib.hid hb0
  go_upto_region 2 with (go_at_call 42; refine kO.mono ?_; rintro e w1 ⟨br, bi, A1, c1, rfl, hS1, hbr, hbi, hb1⟩; replace hS1 := Lib.hid hS1; replace hb1 := Lib.hid hb1)
  clear kO
  obtain ⟨w2, hw2⟩ : ∃ w2, w2 = w1.alloc (.cells #[.pointer (some ⟨br, 0, none⟩)] 82) := ⟨_, rfl⟩
  have hb2 : Below w1.heap.size w1 w2 := by rw [hw2]; exact (Below.refl _ _).alloc (Nat.le_refl _) _
  have hx2 : BxW w2 w1.heap.size [.pointer (some ⟨br, 0, none⟩)] := by rw [hw2]; exact BxW.new1 w1 _ _
  have hz2 : w2.heap.size = w1.heap.size + 1 := by rw [hw2]; simp
  rw [← hw2]
  clear hw2
  have hS2 := hS1.out.of hb2
  have hbr1 := hS1.out.box.1
  have hbi1 := hS1.out.d.box.1
  have hA1 := hS1.out.low
  obtain ⟨b4, hb4⟩ : ∃ b4, b4 = w1.heap.size := ⟨_, rfl⟩
  rw [← hb4] at hx2 hz2 ⊢
  replace hb4 := Lib.hid hb4
  replace hz2 := Lib.hid hz2
  have kF := snp_fixed br bi A1 n c1 l _ w2 3 hS2 (by omega)
  obtain ⟨_, c0, _⟩ := hx2.open1
  have e0 : IntKind.i64.wrap ((bitsR (unB l) 3 (opnR (unB l) 3)).1 + 1) = tqS (unB l) := by rw [IntWalk.i64_in _ (by omega)]; exact hSd.symm
  clear hSd
  generalize bitsR (unB l) 3 (opnR (unB l) 3) = K at kF hNd hv e0
  obtain ⟨kv, sk⟩ := K
  simp only at kF hNd hv e0
  generalize tqS (unB l) = key at hok hE e0
  go_wp2_with fail
  go_at_call 55
  refine kF.mono ?_
  rintro e w3 ⟨rfl, hS3, hf3⟩
  go_upto_region 5 with (fail)
  obtain ⟨w4, hw4⟩ : ∃ w4, w4 = w3.alloc (.cells #[.int .i64 key, .slice none 0 0] 46) := ⟨_, rfl⟩
  have hb34 : Below w3.heap.size w3 w4 := by rw [hw4]; exact (Below.refl _ _).alloc (Nat.le_refl _) _
  have hx4 : BxW w4 w3.heap.size [.int .i64 key, .slice none 0 0] := by rw [hw4]; exact BxW.new w3 [_, _] _
  have hz4 : w4.heap.size = w3.heap.size + 1 := by rw [hw4]; simp
  rw [← hw4]
  clear hw4
  obtain ⟨bx, hbx⟩ : ∃ bx, bx = w3.heap.size := ⟨_, rfl⟩
  rw [← hbx] at hx4 hz4 ⊢
  have hb4' := hb4.out
  have hz2' := hz2.out
  obtain ⟨B1, hB1⟩ : ∃ B1, B1 = w4.heap.size := ⟨_, rfl⟩
  have hz3 := hf3.size
  have hK : TkK w1.heap.size B1 br bi b4 bx := ⟨hbr1, hbi1, by omega, by omega, by omega⟩
  have hT4 : TkB B1 w1 br bi b4 bx [.int .i64 key, .slice none 0 0] w4 := ⟨hx4, (hx2.frR hf3 (by rintro (e | e) <;> omega)).of hb34, (((Fr2.here w1 _).of hb2).then hf3 (fun _ _ e => e)).of hb34, by omega⟩
  have hS4 := hS3.of hb34
  clear hb4' hz2' hb4 hz2 hbx hB1 hz4 hz3
  have hrtB : w.heap.size < B1 := by have := hK.c; have := hrt.out.1; have := hb1.out.size; omega
  have hA : 0 < n → ∀ b o, A1 = some ⟨b, o, none⟩ → b < w1.heap.size := hA1
  have hn8 : ∀ {t : RS} {w : World}, RdS w br bi A1 n c1 l t → t.1 ≤ 524288 := fun h => by have := h.le; omega
  have key1 := snp_timesN (α := List Qd) (qdR (unB l)) (fun a s w' => ∃ OA on oc, TkB B1 w1 br bi b4 bx [.int .i64 key, .slice OA on oc] w' ∧ Own encQd 4 69 B1 w' OA on oc a ∧ RdS w' br bi A1 n c1 l s ∧ SzR a s) 65 [.pointer (some ⟨b4, 0, none⟩), .pointer (some ⟨bx, 0, none⟩)] br bi A1 n c1 l
    (enters_of Tryz.func65 (by kernel_rfl) rfl)
    (fun a s w' h => by obtain ⟨OA, on, oc, _, _, h, _⟩ := h; exact h)
    (fun i a s w' h0 h => by
      obtain ⟨OA, on, oc, j1, j2, j3, j4⟩ := h
      have hon : on ≤ 1000000 := by have := j2.len; have := hn8 j3; have := j4.1; omega
      refine (snp_TakeQuads1 B1 w1 br bi b4 bx key a OA on oc A1 n c1 l s i w' hK hA j1 j2 j3 hon).mono ?_
      rintro e w'' ⟨rfl, OA', on', oc', i1, i2, i3⟩
      exact ⟨rfl, OA', on', oc', i1, i2, i3, j4.step (qdR_m (unB l)) h0⟩)
    [] sk w4 hS4 (fun w' j1 j2 => ⟨none, 0, 0, hT4.read hK j2, Own.nil_, j1, SzR.nil_⟩)
  rw [← hNd.out] at key1
  obtain ⟨_, c04, _⟩ := hT4.c.open1
  clear hT4 hS4 hx4 hb34 hS3 hS2 hx2 hb2 kF c0 hf3 hS1
  go_upto_region 6 with (go_at_call 56; refine key1.mono ?_; rintro e w6 ⟨he, NA, nn6, nc6, hT6, hN6, hS6, hsz6⟩; obtain rfl : e = .returned (.tuple #[]) := he)
  clear key1
  have hnn6 : nn6 ≤ 1000000 := by have := hN6.len; have := hn8 hS6; have := hsz6.1; omega
  have kC := snp_closeN (qR key (tqN (unB l)).1) 66 [.pointer (some ⟨bx, 0, none⟩)] br bi A1 n c1 l (tqN (unB l)).2 (enters_of Tryz.func66 (by kernel_rfl) rfl) w6 hS6 (fun w7 h7 => snp_TakeQuads2 bx key NA nn6 nc6 (tqN (unB l)).1 w6.heap.size w7 h7.size (hT6.x.of h7) ((hN6.rd encQd_len).of h7) hnn6)
  rw [← hE.out] at kC
  obtain ⟨_, c06, _⟩ := hT6.c.open1
  have hN6r := Lib.hid hN6
  have hT6h := Lib.hid hT6
  have hB6 : Below w.heap.size w w6 := (hb0.out.trans (hb1.out.mono hb0.out.size)).trans (hT6.f.below (by have := hb0.out.size; have := hb1.out.size; omega) (fun q hq => by have := hb0.out.size; rcases hq with rfl | rfl <;> omega))
  have hrt6 : BxW w6 w.heap.size [.int .i64 0, .slice none 0 0] := (hrt.out.of hb1.out).frR hT6.f (by have := hrt.out.1; rintro (e | e) <;> omega)
  replace hB6 := Lib.hid hB6
  replace hrt6 := Lib.hid hrt6
  clear hT6 hS6 hN6 hsz6 c04
  go_upto_region 7 with (go_at_call 44; refine kC.mono ?_; rintro e w7 ⟨rfl, hb7⟩)
  clear kC
  have hB7 := Lib.hid (hB6.out.trans (hb7.mono hB6.out.size))
  have hrt7 := hrt6.out.of hb7
  have hx7 := hT6h.out.x.of hb7
  have hN7 := Lib.hid (hN6r.out.of hb7)
  have x0 : w7.cell? ⟨bx, 0, none⟩ = some (.int .i64 key) := hx7.2.1 0
  have x1 : w7.cell? ⟨bx, 1, none⟩ = some (.slice NA nn6 nc6) := hx7.2.1 1
  have xz := hx7.1
  have r0 : w7.cell? ⟨w.heap.size, 0, none⟩ = some (.int .i64 0) := hrt7.2.1 0
  have r1 : w7.cell? ⟨w.heap.size, 1, none⟩ = some (.slice none 0 0) := hrt7.2.1 1
  have f0 : w7.frozen? ⟨w.heap.size, 0, none⟩ = false := hrt7.2.2 0
  have f1 : w7.frozen? ⟨w.heap.size, 1, none⟩ = false := hrt7.2.2 1
  have rz := hrt7.1
  clear hx7 hb7 c06
  by_cases h0 : E = 0
  · subst h0
    have hV := hok.out rfl
    injection hV with hv1 hv3
    subst hv1 hv3
    have hB8 : Below w.heap.size w ((w7.setCell ⟨w.heap.size, 0, none⟩ (.int .i64 VS)).setCell ⟨w.heap.size, 1, none⟩ (.slice NA nn6 nc6)) := (hB7.out.setCell (Nat.le_refl _) _).setCell (Nat.le_refl _) _
    have hx8 : BxW ((w7.setCell ⟨w.heap.size, 0, none⟩ (.int .i64 VS)).setCell ⟨w.heap.size, 1, none⟩ (.slice NA nn6 nc6)) w.heap.size [.int .i64 VS, .slice NA nn6 nc6] := (hrt7.put 0 _ (by simp)).put 1 _ (by simp)
    have hN8 : Rd encQd 4 ((w7.setCell ⟨w.heap.size, 0, none⟩ (.int .i64 VS)).setCell ⟨w.heap.size, 1, none⟩ (.slice NA nn6 nc6)) NA nn6 _ := ((hN7.out.setBelow hrtB _).setBelow hrtB _).rd encQd_len
    replace hB8 := Lib.hid hB8
    replace hN8 := Lib.hid hN8
    clear hrt7
    go_wp2_with fail
    obtain ⟨w8, hw8⟩ : ∃ w8, w8 = ((w7.setCell ⟨w.heap.size, 0, none⟩ (.int .i64 VS)).setCell ⟨w.heap.size, 1, none⟩ (.slice NA nn6 nc6)) := ⟨_, rfl⟩
    rw [← hw8] at hx8 hB8 hN8 ⊢
    clear hw8
    have y0 : w8.cell? ⟨w.heap.size, 0, none⟩ = some (.int .i64 VS) := hx8.2.1 0
    have y1 : w8.cell? ⟨w.heap.size, 1, none⟩ = some (.slice NA nn6 nc6) := hx8.2.1 1
    clear x0 x1 r0 r1 f0 f1 hx8
    refine bodyPost_ret (v := .tuple #[.agg #[.int .i64 VS, .slice NA nn6 nc6], .int .i64 0]) (by simp [results, Tryz.results24, go_sem, *, ↓IntWalk.iteOmega]) rfl ?_
    exact ⟨NA, nn6, ⟨nc6, rfl⟩, hN8.out, hB8.out⟩
  · have d1 : (E == 0) = false := by simpa using h0
    have d2 : (E != 0) = true := by simpa using h0
    have hV := hbd.out h0
    injection hV with hv1 hv3
    subst hv1 hv3
    have hB8 : Below w.heap.size w ((w7.setCell ⟨w.heap.size, 0, none⟩ (.int .i64 0)).setCell ⟨w.heap.size, 1, none⟩ (.slice none 0 0)) := (hB7.out.setCell (Nat.le_refl _) _).setCell (Nat.le_refl _) _
    have hx8 : BxW ((w7.setCell ⟨w.heap.size, 0, none⟩ (.int .i64 0)).setCell ⟨w.heap.size, 1, none⟩ (.slice none 0 0)) w.heap.size [.int .i64 0, .slice none 0 0] := (hrt7.put 0 _ (by simp)).put 1 _ (by simp)
    replace hB8 := Lib.hid hB8
    clear hrt7
    go_wp2_with fail
    obtain ⟨w8, hw8⟩ : ∃ w8, w8 = ((w7.setCell ⟨w.heap.size, 0, none⟩ (.int .i64 0)).setCell ⟨w.heap.size, 1, none⟩ (.slice none 0 0)) := ⟨_, rfl⟩
    rw [← hw8] at hx8 hB8 ⊢
    clear hw8
    have y0 : w8.cell? ⟨w.heap.size, 0, none⟩ = some (.int .i64 0) := hx8.2.1 0
    have y1 : w8.cell? ⟨w.heap.size, 1, none⟩ = some (.slice none 0 0) := hx8.2.1 1
    clear x0 x1 r0 r1 f0 f1 hx8
    refine bodyPost_ret (v := .tuple #[.agg #[.int .i64 0, .slice none 0 0], .int .i64 E]) (by simp [results, Tryz.results24, go_sem, *, ↓IntWalk.iteOmega]) rfl ?_
    exact ⟨none, 0, ⟨0, rfl⟩, Rd.nil_, hB8.out⟩
end Go.Proofs.YtmenokhnanghgaaGreat
end
