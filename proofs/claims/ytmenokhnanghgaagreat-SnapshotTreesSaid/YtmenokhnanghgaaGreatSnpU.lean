/- snapshot's TakeTimeline: its first closure, a frame. By mksnpu.py. -/
import Derived.Test.YtmenokhnanghgaaGreatSNK
import Derived.Test.YtmenokhnanghgaaGreatSNI
import Derived.Test.YtmenokhnanghgaaGreatDLS
import Derived.Deep.RegionHeld3
namespace Go.Proofs.YtmenokhnanghgaaGreat
open Go Go.RowKit
set_option linter.unusedSimpArgs false
set_option linter.unusedVariables false
set_option maxRecDepth 100000
set_option linter.unusedSimpArgs false
set_option linter.unusedVariables false
/-- The frame under way: its box xb and the reader. -/
structure TfS (w : World) (xb : Nat) (vs : List Value) (br bi : Nat) (A : Option Addr) (n c : Nat) (l : List Int) (s : RS) (wr : World) : Prop where
  x : BxW wr xb vs
  f : Fr2 (RB br bi) w wr
  s : RdS wr br bi A n c l s
section
variable {w w1 w2 w0 : World} {xb : Nat} {vs : List Value} {br bi b4 bx B1 : Nat} {A : Option Addr} {n c : Nat} {l : List Int} {s s' : RS}
theorem TfS.read (h : TfS w xb vs br bi A n c l s w1) (hK : TkK w0.heap.size B1 br bi b4 bx) (hx : B1 ≤ xb) (hs : RdS w2 br bi A n c l s') (hf : Fr2 (RB br bi) w1 w2) : TfS w xb vs br bi A n c l s' w2 := by
  have h1 := hK.r1
  have h2 := hK.r2
  have h3 := hK.x
  exact ⟨h.x.frR hf (by rintro (e | e) <;> omega), h.f.then hf (fun _ _ e => e), hs⟩
theorem TfS.put (h : TfS w xb vs br bi A n c l s w1) (hK : TkK w0.heap.size B1 br bi b4 bx) (hA : 0 < n → ∀ b o, A = some ⟨b, o, none⟩ → b < w0.heap.size) (hx : B1 ≤ xb) (hw : w.heap.size ≤ xb) (i : Nat) (v : Value) (hi : i < vs.length) : TfS w xb (vs.set i v) br bi A n c l s (w1.setCell ⟨xb, i, none⟩ v) := by
  have h3 := hK.x
  exact ⟨h.x.put i v hi, h.f.put i v (.inr hw), h.s.gr hK hA (grownBy_set _ xb i _) (fun q e => by injection e with e; omega)⟩
end
set_option maxHeartbeats 16000000 in
theorem snp_TakeTimeline1 (B1 : Nat) (w0 : World) (br bi b4 bx : Nat) (key : Int) (F : List TFr) (OA : Option Addr) (on oc : Nat) (A : Option Addr) (n c : Nat) (l : List Int) (s : RS) (i : Nat) (w : World)
    (hK : TkK w0.heap.size B1 br bi b4 bx) (hA : 0 < n → ∀ b o, A = some ⟨b, o, none⟩ → b < w0.heap.size) (hT : TkB B1 w0 br bi b4 bx [.int .i64 key, .slice OA on oc] w) (hO : OwnO ekFr 72 B1 (fun _ => False) w OA on oc F) (hS : RdS w br bi A n c l s) (hon : on ≤ 1000000) :
    Calls Tryz.prog 71 #[.int .i64 (i : Int), .pointer (some ⟨b4, 0, none⟩), .pointer (some ⟨bx, 0, none⟩)] w fun e w' => e = void ∧ ∃ OA' on' oc', TkB B1 w0 br bi b4 bx [.int .i64 key, .slice OA' on' oc'] w' ∧ OwnO ekFr 72 B1 (fun _ => False) w' OA' on' oc' (frP (unB l) i F s).1 ∧ RdS w' br bi A n c l (frP (unB l) i F s).2 := by
  have hz := hT.z
  have hn1 := hK.r1
  have hn2 := hK.r2
  have hnx := hK.x
  have hnc := hK.c
  have hbw := hT.f.size
  have hP : frP (unB l) i F s = if (bitsR (unB l) 1 (gamR (unB l) s).2).1 = 1 then (F ++ [((gamR (unB l) s).1, true, (clsP (unB l) (tkC (unB l)) (bitsR (unB l) 1 (gamR (unB l) s).2).2).1.1, [])], (clsP (unB l) (tkC (unB l)) (bitsR (unB l) 1 (gamR (unB l) s).2).2).2)
    else (F ++ [((gamR (unB l) s).1, false, [], (clsP (unB l) (tkG (unB l)) (bitsR (unB l) 1 (gamR (unB l) s).2).2).1.1)], (clsP (unB l) (tkG (unB l)) (bitsR (unB l) 1 (gamR (unB l) s).2).2).2) := rfl
  rw [hP]
  clear hP
  have kE := snp_gamma br bi A n c l s w hS
  generalize gamR (unB l) s = g1 at kE ⊢
  obtain ⟨gen, s1⟩ := g1
  simp only at kE ⊢
  have kF := fun w1 h1 => snp_fixed br bi A n c l s1 w1 1 h1 (by omega)
  generalize bitsR (unB l) 1 s1 = g2 at kF ⊢
  obtain ⟨v, s2⟩ := g2
  simp only at kF ⊢
  obtain ⟨_, c0, fc⟩ := hT.c.open1
  have hlt2 := hO.lt
  by_cases hv : v = 1
  ·
    rw [if_pos hv]
    subst hv
    have dv : ((1 : Int) == 1) = true := by simp
    obtain ⟨LN, hLN⟩ : ∃ LN, LN = (clsP (unB l) (tkC (unB l)) s2).1.1 := ⟨_, rfl⟩
    obtain ⟨SN, hSN⟩ : ∃ SN, SN = (clsP (unB l) (tkC (unB l)) s2).2 := ⟨_, rfl⟩
    have kL := fun w1 h1 => snp_rcells br bi A n c l s2 w1 h1
    rw [← hLN, ← hSN] at kL
    simp only
    rw [← hLN, ← hSN]
    clear hLN hSN
    go_enter Tryz.func71, Tryz.ntmps71
    go_upto_region 1 with (go_at_call 59; refine kE.mono ?_; rintro e w1 ⟨rfl, hS1, hf1⟩)
    obtain ⟨w2, hw2⟩ : ∃ w2, w2 = w1.alloc (.cells #[.int .i64 gen, .bool false, .slice none 0 0, .slice none 0 0] 72) := ⟨_, rfl⟩
    have hb2 : Below w1.heap.size w1 w2 := by rw [hw2]; exact (Below.refl _ _).alloc (Nat.le_refl _) _
    have hxn : BxW w2 w1.heap.size [.int .i64 gen, .bool false, .slice none 0 0, .slice none 0 0] := by rw [hw2]; exact BxW.new w1 [_, _, _, _] _
    rw [← hw2]
    clear hw2
    have hz1 := hf1.size
    have hX2 : TfS w w1.heap.size [.int .i64 gen, .bool false, .slice none 0 0, .slice none 0 0] br bi A n c l s1 w2 := ⟨hxn, hf1.of hb2, hS1.of hb2⟩
    obtain ⟨xb, hxb⟩ : ∃ xb, xb = w1.heap.size := ⟨_, rfl⟩
    rw [← hxb] at hX2 ⊢
    have hxw : w.heap.size ≤ xb := by omega
    clear hxb hz1 hxn hS1 hf1 kE c0 fc hb2
    have hxB : B1 ≤ xb := by omega
    have kF2 := kF w2 hX2.s
    obtain ⟨_, c02, _⟩ := (hT.read hK hX2.f).c.open1
    go_wp2_with fail
    go_at_call 55
    refine kF2.mono ?_
    rintro e w3 ⟨rfl, hS3, hf3⟩
    have hX3 := hX2.read hK hxB hS3 hf3
    have hx3z := hX3.x.1
    have x31 : w3.cell? ⟨xb, 1, none⟩ = some (.bool false) := hX3.x.2.1 1
    have f31 : w3.frozen? ⟨xb, 1, none⟩ = false := hX3.x.2.2 1
    clear hX2 c02 kF2 hS3 hf3
    go_upto_region 2 with (fail)
    have hX4 := hX3.put hK hA hxB hxw 1 (.bool true) (by simp)
    obtain ⟨w4, hw4⟩ : ∃ w4, w4 = w3.setCell ⟨xb, 1, none⟩ (.bool true) := ⟨_, rfl⟩
    rw [← hw4] at hX4
    (try rw [dv])
    rw [← hw4]
    clear hw4 hX3 x31 f31 hx3z
    simp only [List.set_cons_succ, List.set_cons_zero] at hX4
    have hx4z := hX4.x.1
    have x41 : w4.cell? ⟨xb, 1, none⟩ = some (.bool true) := hX4.x.2.1 1
    obtain ⟨_, c04, _⟩ := (hT.read hK hX4.f).c.open1
    go_wp2_with fail
    go_at_call 43
    refine (kL w4 hX4.s).mono ?_
    rintro e w5 ⟨CA, cn, cc, rfl, hC5, hS5, hf5⟩
    have hX5 := hX4.read hK hxB hS5 hf5
    have hx5z := hX5.x.1
    have x5 : w5.cell? ⟨xb, 2, none⟩ = some (.slice none 0 0) := hX5.x.2.1 2
    have f5 : w5.frozen? ⟨xb, 2, none⟩ = false := hX5.x.2.2 2
    clear x41 c04 hS5 kL
    go_upto_region 5 with (fail)
    have hX6 := hX5.put hK hA hxB hxw 2 (.slice CA cn cc) (by simp)
    have hC6 := hC5.setBelow (i := 2) hx4z (.slice CA cn cc)
    obtain ⟨w6, hw6⟩ : ∃ w6, w6 = w5.setCell ⟨xb, 2, none⟩ (.slice CA cn cc) := ⟨_, rfl⟩
    rw [← hw6] at hX6 hC6 ⊢
    clear hw6 hX5 hX4 x5 f5 hx5z hC5 hf5
    simp only [List.set_cons_succ, List.set_cons_zero] at hX6
    have hTr := hT.read hK hX6.f
    have hOr := hO.read hX6.f (by omega) (by omega) (Nat.lt_of_lt_of_le hn2 hbw)
    have hcap := hC6.capO
    have hlenE := hC6.rd encC_len
    have hEb := hC6.blk
    have hSr := hX6.s
    have hx6z := hX6.x.1
    have y0 : w6.cell? ⟨xb, 0, none⟩ = some (.int .i64 gen) := hX6.x.2.1 0
    have y1 : w6.cell? ⟨xb, 1, none⟩ = some (.bool true) := hX6.x.2.1 1
    have y2 : w6.cell? ⟨xb, 2, none⟩ = some (.slice CA cn cc) := hX6.x.2.1 2
    have y3 : w6.cell? ⟨xb, 3, none⟩ = some (.slice none 0 0) := hX6.x.2.1 3
    have xz := hTr.x.1
    have x2 : w6.cell? ⟨bx, 1, none⟩ = some (.slice OA on oc) := hTr.x.2.1 1
    have hrow : ∀ q, (Value.slice OA on oc).ownBlock = some q → B1 ≤ q := fun q hq => (hlt2 q hq).1
    have kA : ∀ (A5 : Option Addr) (c5 : Nat) (w5 : World), OwnO ekFr 72 B1 (fun _ => False) w5 A5 (on + 1) c5 (F ++ [((gen, true, LN, []) : TFr)]) → (w6.alloc (.cells #[.int .i64 gen, .bool true, .slice CA cn cc, .slice none 0 0] 72)).grownBy w5 (Value.slice OA on oc).ownBlock →
        w5.cell? ⟨bx, 1, none⟩ = some (.slice OA on oc) ∧ w5.frozen? ⟨bx, 1, none⟩ = false ∧ Hid (TkB B1 w0 br bi b4 bx [.int .i64 key, .slice A5 (on + 1) c5] (w5.setCell ⟨bx, 1, none⟩ (.slice A5 (on + 1) c5)) ∧ OwnO ekFr 72 B1 (fun _ => False) (w5.setCell ⟨bx, 1, none⟩ (.slice A5 (on + 1) c5)) A5 (on + 1) c5 (F ++ [((gen, true, LN, []) : TFr)]) ∧ RdS (w5.setCell ⟨bx, 1, none⟩ (.slice A5 (on + 1) c5)) br bi A n c l SN) := by
      intro A5 c5 w5 hO5 hg5
      have hal : Below w6.heap.size w6 (w6.alloc (.cells #[.int .i64 gen, .bool true, .slice CA cn cc, .slice none 0 0] 72)) := (Below.refl _ _).alloc (Nat.le_refl _) _
      have hT5 := (hTr.of hal).gr hK hg5 hrow
      have hS5 := (hSr.of hal).gr hK hA hg5 (fun q hq => by have := hrow q hq; omega)
      exact ⟨hT5.x.2.1 1, hT5.x.2.2 1, Lib.hid ⟨hT5.put hK 1 _ (by simp), hO5.grow (grownBy_set _ bx 1 _) (fun q hq e => by injection e with e; have := (hO5.lt q hq).1; omega) (fun q e => by injection e with e; exact .inr (by omega)) (fun _ _ e => e), hS5.gr hK hA (grownBy_set _ bx 1 _) (fun q e => by injection e with e; omega)⟩⟩
    have hoff : ∀ q ∈ ekFr.blk ((gen, true, (CA, cn, cc), (none, 0, 0))), some q ≠ (Value.slice OA on oc).ownBlock ∧ ¬ False ∧ B1 ≤ q := by
      intro q hq
      have hq' : q ∈ blkH (CA, cn, cc) := by
        rcases List.mem_append.1 hq with hq | hq
        · exact hq
        · cases hq
      exact ⟨fun e => by have := (hEb q hq').2.1; have := (hlt2 q e.symm).2; omega, fun h => h, by have := (hEb q hq').2.1; omega⟩
    have hrel : ekFr.rel (w6.alloc (.cells #[.int .i64 gen, .bool true, .slice CA cn cc, .slice none 0 0] 72)) ((gen, true, (CA, cn, cc), (none, 0, 0))) (((gen, true, LN, []) : TFr)) := ⟨rfl, rfl, ⟨hlenE.of ((Below.refl _ _).alloc (Nat.le_refl _) _), hcap⟩, ⟨Rd.nil_, Nat.le_refl _⟩⟩
    clear hTr hSr hX6 hEb hC6 hlenE
    go_wp2_with (first | (at_builtin; refine wpList_append_o (K := ekFr) rfl (.tmp 21) (.tmp 23) 52 rfl 72 (.agg #[.int .i64 0, .bool false, .slice none 0 0, .slice none 0 0]) 64 Tryz.underlying52 (by kernel_rfl) rfl B1 _ _ _ _ rfl (OwnO.of hOr ((Below.refl _ _).alloc (Nat.le_refl _) _)) ((gen, true, (CA, cn, cc), (none, 0, 0))) (((gen, true, LN, []) : TFr)) hrel hoff ⟨w6.heap.size, 0, none⟩ 1 rfl (cells_new w6 (encFr ((gen, true, (CA, cn, cc), (none, 0, 0)))) 72) (by omega) (by omega) (by simp only [World.size_alloc]; omega) ?_; intro A5 c5 w5 hO5 hg5 hb5 hl5; obtain ⟨x5, fx5, hfin⟩ := kA A5 c5 w5 hO5 hg5; clear hO5 hg5 hb5 hl5))
    all_goals
      go_end0
      exact ⟨rfl, A5, on + 1, c5, hfin.out⟩
  ·
    rw [if_neg hv]
    have dv : (v == 1) = false := by simpa using hv
    obtain ⟨LN, hLN⟩ : ∃ LN, LN = (clsP (unB l) (tkG (unB l)) s2).1.1 := ⟨_, rfl⟩
    obtain ⟨SN, hSN⟩ : ∃ SN, SN = (clsP (unB l) (tkG (unB l)) s2).2 := ⟨_, rfl⟩
    have kL := fun w1 h1 => snp_rchanges br bi A n c l s2 w1 h1
    rw [← hLN, ← hSN] at kL
    simp only
    rw [← hLN, ← hSN]
    clear hLN hSN
    go_enter Tryz.func71, Tryz.ntmps71
    go_upto_region 1 with (go_at_call 59; refine kE.mono ?_; rintro e w1 ⟨rfl, hS1, hf1⟩)
    obtain ⟨w2, hw2⟩ : ∃ w2, w2 = w1.alloc (.cells #[.int .i64 gen, .bool false, .slice none 0 0, .slice none 0 0] 72) := ⟨_, rfl⟩
    have hb2 : Below w1.heap.size w1 w2 := by rw [hw2]; exact (Below.refl _ _).alloc (Nat.le_refl _) _
    have hxn : BxW w2 w1.heap.size [.int .i64 gen, .bool false, .slice none 0 0, .slice none 0 0] := by rw [hw2]; exact BxW.new w1 [_, _, _, _] _
    rw [← hw2]
    clear hw2
    have hz1 := hf1.size
    have hX2 : TfS w w1.heap.size [.int .i64 gen, .bool false, .slice none 0 0, .slice none 0 0] br bi A n c l s1 w2 := ⟨hxn, hf1.of hb2, hS1.of hb2⟩
    obtain ⟨xb, hxb⟩ : ∃ xb, xb = w1.heap.size := ⟨_, rfl⟩
    rw [← hxb] at hX2 ⊢
    have hxw : w.heap.size ≤ xb := by omega
    clear hxb hz1 hxn hS1 hf1 kE c0 fc hb2
    have hxB : B1 ≤ xb := by omega
    have kF2 := kF w2 hX2.s
    obtain ⟨_, c02, _⟩ := (hT.read hK hX2.f).c.open1
    go_wp2_with fail
    go_at_call 55
    refine kF2.mono ?_
    rintro e w3 ⟨rfl, hS3, hf3⟩
    have hX3 := hX2.read hK hxB hS3 hf3
    have hx3z := hX3.x.1
    have x31 : w3.cell? ⟨xb, 1, none⟩ = some (.bool false) := hX3.x.2.1 1
    have f31 : w3.frozen? ⟨xb, 1, none⟩ = false := hX3.x.2.2 1
    clear hX2 c02 kF2 hS3 hf3
    go_upto_region 2 with (fail)
    have hX4 := hX3.put hK hA hxB hxw 1 (.bool false) (by simp)
    obtain ⟨w4, hw4⟩ : ∃ w4, w4 = w3.setCell ⟨xb, 1, none⟩ (.bool false) := ⟨_, rfl⟩
    rw [← hw4] at hX4
    (try rw [dv])
    rw [← hw4]
    clear hw4 hX3 x31 f31 hx3z
    simp only [List.set_cons_succ, List.set_cons_zero] at hX4
    have hx4z := hX4.x.1
    have x41 : w4.cell? ⟨xb, 1, none⟩ = some (.bool false) := hX4.x.2.1 1
    obtain ⟨_, c04, _⟩ := (hT.read hK hX4.f).c.open1
    go_wp2_with fail
    go_at_call 72
    refine (kL w4 hX4.s).mono ?_
    rintro e w5 ⟨CA, cn, cc, rfl, hC5, hS5, hf5⟩
    have hX5 := hX4.read hK hxB hS5 hf5
    have hx5z := hX5.x.1
    have x5 : w5.cell? ⟨xb, 3, none⟩ = some (.slice none 0 0) := hX5.x.2.1 3
    have f5 : w5.frozen? ⟨xb, 3, none⟩ = false := hX5.x.2.2 3
    clear x41 c04 hS5 kL
    go_upto_region 5 with (fail)
    have hX6 := hX5.put hK hA hxB hxw 3 (.slice CA cn cc) (by simp)
    have hC6 := hC5.setBelow (i := 3) hx4z (.slice CA cn cc)
    obtain ⟨w6, hw6⟩ : ∃ w6, w6 = w5.setCell ⟨xb, 3, none⟩ (.slice CA cn cc) := ⟨_, rfl⟩
    rw [← hw6] at hX6 hC6 ⊢
    clear hw6 hX5 hX4 x5 f5 hx5z hC5 hf5
    simp only [List.set_cons_succ, List.set_cons_zero] at hX6
    have hTr := hT.read hK hX6.f
    have hOr := hO.read hX6.f (by omega) (by omega) (Nat.lt_of_lt_of_le hn2 hbw)
    have hcap := hC6.capO
    have hlenE := hC6.rd encG_len
    have hEb := hC6.blk
    have hSr := hX6.s
    have hx6z := hX6.x.1
    have y0 : w6.cell? ⟨xb, 0, none⟩ = some (.int .i64 gen) := hX6.x.2.1 0
    have y1 : w6.cell? ⟨xb, 1, none⟩ = some (.bool false) := hX6.x.2.1 1
    have y2 : w6.cell? ⟨xb, 2, none⟩ = some (.slice none 0 0) := hX6.x.2.1 2
    have y3 : w6.cell? ⟨xb, 3, none⟩ = some (.slice CA cn cc) := hX6.x.2.1 3
    have xz := hTr.x.1
    have x2 : w6.cell? ⟨bx, 1, none⟩ = some (.slice OA on oc) := hTr.x.2.1 1
    have hrow : ∀ q, (Value.slice OA on oc).ownBlock = some q → B1 ≤ q := fun q hq => (hlt2 q hq).1
    have kA : ∀ (A5 : Option Addr) (c5 : Nat) (w5 : World), OwnO ekFr 72 B1 (fun _ => False) w5 A5 (on + 1) c5 (F ++ [((gen, false, [], LN) : TFr)]) → (w6.alloc (.cells #[.int .i64 gen, .bool false, .slice none 0 0, .slice CA cn cc] 72)).grownBy w5 (Value.slice OA on oc).ownBlock →
        w5.cell? ⟨bx, 1, none⟩ = some (.slice OA on oc) ∧ w5.frozen? ⟨bx, 1, none⟩ = false ∧ Hid (TkB B1 w0 br bi b4 bx [.int .i64 key, .slice A5 (on + 1) c5] (w5.setCell ⟨bx, 1, none⟩ (.slice A5 (on + 1) c5)) ∧ OwnO ekFr 72 B1 (fun _ => False) (w5.setCell ⟨bx, 1, none⟩ (.slice A5 (on + 1) c5)) A5 (on + 1) c5 (F ++ [((gen, false, [], LN) : TFr)]) ∧ RdS (w5.setCell ⟨bx, 1, none⟩ (.slice A5 (on + 1) c5)) br bi A n c l SN) := by
      intro A5 c5 w5 hO5 hg5
      have hal : Below w6.heap.size w6 (w6.alloc (.cells #[.int .i64 gen, .bool false, .slice none 0 0, .slice CA cn cc] 72)) := (Below.refl _ _).alloc (Nat.le_refl _) _
      have hT5 := (hTr.of hal).gr hK hg5 hrow
      have hS5 := (hSr.of hal).gr hK hA hg5 (fun q hq => by have := hrow q hq; omega)
      exact ⟨hT5.x.2.1 1, hT5.x.2.2 1, Lib.hid ⟨hT5.put hK 1 _ (by simp), hO5.grow (grownBy_set _ bx 1 _) (fun q hq e => by injection e with e; have := (hO5.lt q hq).1; omega) (fun q e => by injection e with e; exact .inr (by omega)) (fun _ _ e => e), hS5.gr hK hA (grownBy_set _ bx 1 _) (fun q e => by injection e with e; omega)⟩⟩
    have hoff : ∀ q ∈ ekFr.blk ((gen, false, (none, 0, 0), (CA, cn, cc))), some q ≠ (Value.slice OA on oc).ownBlock ∧ ¬ False ∧ B1 ≤ q := by
      intro q hq
      have hq' : q ∈ blkH (CA, cn, cc) := by
        rcases List.mem_append.1 hq with hq | hq
        · cases hq
        · exact hq
      exact ⟨fun e => by have := (hEb q hq').2.1; have := (hlt2 q e.symm).2; omega, fun h => h, by have := (hEb q hq').2.1; omega⟩
    have hrel : ekFr.rel (w6.alloc (.cells #[.int .i64 gen, .bool false, .slice none 0 0, .slice CA cn cc] 72)) ((gen, false, (none, 0, 0), (CA, cn, cc))) (((gen, false, [], LN) : TFr)) := ⟨rfl, rfl, ⟨Rd.nil_, Nat.le_refl _⟩, ⟨hlenE.of ((Below.refl _ _).alloc (Nat.le_refl _) _), hcap⟩⟩
    clear hTr hSr hX6 hEb hC6 hlenE
    go_wp2_with (first | (at_builtin; refine wpList_append_o (K := ekFr) rfl (.tmp 21) (.tmp 23) 52 rfl 72 (.agg #[.int .i64 0, .bool false, .slice none 0 0, .slice none 0 0]) 64 Tryz.underlying52 (by kernel_rfl) rfl B1 _ _ _ _ rfl (OwnO.of hOr ((Below.refl _ _).alloc (Nat.le_refl _) _)) ((gen, false, (none, 0, 0), (CA, cn, cc))) (((gen, false, [], LN) : TFr)) hrel hoff ⟨w6.heap.size, 0, none⟩ 1 rfl (cells_new w6 (encFr ((gen, false, (none, 0, 0), (CA, cn, cc)))) 72) (by omega) (by omega) (by simp only [World.size_alloc]; omega) ?_; intro A5 c5 w5 hO5 hg5 hb5 hl5; obtain ⟨x5, fx5, hfin⟩ := kA A5 c5 w5 hO5 hg5; clear hO5 hg5 hb5 hl5))
    all_goals
      go_end0
      exact ⟨rfl, A5, on + 1, c5, hfin.out⟩
end Go.Proofs.YtmenokhnanghgaaGreat
