/- snapshot's reader: its state; fixed, gamma, signed, add, open, close. snapshot's reader: open, times. snapshot's reader: what a cell list's closures hold; cells' and changes' closures. -/
import Derived.Test.YtmenokhnanghgaaGreatBIO
import Derived.Test.YtmenokhnanghgaaGreatSNO
import Derived.Test.YtmenokhnanghgaaGreatSNA
import Derived.Lib.Walk
import Derived.Test.YtmenokhnanghgaaGreatCHG
import Derived.Deep.RegionHeld3
set_option linter.unusedSimpArgs false
set_option linter.unusedVariables false
section
namespace Go.Proofs.YtmenokhnanghgaaGreat
open Go Go.RowKit
set_option maxRecDepth 100000
/-- A reader of snapshot's: its block br, bitio's block bi, the bytes, the place and the error. -/
structure RdS (w : World) (br bi : Nat) (A : Option Addr) (n c : Nat) (l : List Int) (s : RS) : Prop where
  box : BxW w br [.pointer (some ⟨bi, 0, none⟩), .int .i64 s.2]
  d : RdD w bi A n c l s.1
  ne : br ≠ bi
  off : 0 < n → ∀ b o, A = some ⟨b, o, none⟩ → b ≠ br
  le : s.1 ≤ 8 * n
/-- The blocks that reading writes. -/
abbrev RB (br bi : Nat) : Nat → Prop := fun q => q = br ∨ q = bi
section
variable {w w' w'' : World} {br bi : Nat} {A : Option Addr} {n c : Nat} {l : List Int} {s : RS}
theorem RdS.of (h : RdS w br bi A n c l s) (hb : Below w.heap.size w w') : RdS w' br bi A n c l s := ⟨h.box.of hb, h.d.of hb, h.ne, h.off, h.le⟩
theorem RdS.len (h : RdS w br bi A n c l s) : (unB l).length = 8 * n := h.d.len
/-- Behind a call of bitio's reader, the error stored. -/
theorem RdS.step {p : Nat} {e : Int} (h : RdS w br bi A n c l s) (hd : RdD w' bi A n c l p) (hf : Fr2 (fun q => q = bi) w w') (hp : p ≤ 8 * n) : RdS (w'.setCell ⟨br, 1, none⟩ (.int .i64 e)) br bi A n c l (p, e) := by
  have hbl := hf.block br h.box.1 h.ne
  have hb : BxW w' br [.pointer (some ⟨bi, 0, none⟩), .int .i64 s.2] := ⟨Nat.lt_of_lt_of_le h.box.1 hf.size, fun i => (World.cell?_of_block hbl).trans (h.box.2.1 i), fun i => (World.frozen?_of_block hbl).trans (h.box.2.2 i)⟩
  refine ⟨hb.put 1 (.int .i64 e) (by simp), ⟨hd.box.off 1 _ h.ne, ?_, hd.by_, hd.le, hd.off⟩, h.ne, h.off, hp⟩
  refine ⟨hd.rd.1, fun hn => ?_⟩
  obtain ⟨b, o, he, hb1, hc⟩ := hd.rd.2 hn
  refine ⟨b, o, he, by rw [World.size_setCell]; exact hb1, fun i x hi j u hu => ?_⟩
  rw [cell_setCell_if, if_neg (fun k => h.off hn b o he k.1.symm)]
  exact hc i x hi j u hu
/-- The error stored alone. -/
theorem RdS.err (h : RdS w br bi A n c l s) (e : Int) : RdS (w.setCell ⟨br, 1, none⟩ (.int .i64 e)) br bi A n c l (s.1, e) := h.step (e := e) h.d (Fr2.here _ _) h.le
/-- Another block written. -/
theorem RdS.fr2 {R : Nat → Prop} (h : RdS w br bi A n c l s) (hf : Fr2 R w w') (h1 : ¬ R br) (h2 : ¬ R bi) (h3 : 0 < n → ∀ b o, A = some ⟨b, o, none⟩ → ¬ R b) : RdS w' br bi A n c l s := by
  have hbl := hf.block br h.box.1 h1
  exact ⟨⟨Nat.lt_of_lt_of_le h.box.1 hf.size, fun i => (World.cell?_of_block hbl).trans (h.box.2.1 i), fun i => (World.frozen?_of_block hbl).trans (h.box.2.2 i)⟩, h.d.fr2 hf h2 h3, h.ne, h.off, h.le⟩
theorem Fr2.put {R : Nat → Prop} {b : Nat} (h : Fr2 R w w') (i : Nat) (v : Value) (hb : R b ∨ w.heap.size ≤ b) : Fr2 R w (w'.setCell ⟨b, i, none⟩ v) := h.grown (grownBy_set _ _ _ _) (fun q e => by injection e with e; subst e; exact hb)
theorem Fr2.inR (h : Fr2 (fun q => q = bi) w w') : Fr2 (RB br bi) w w' := (Fr2.here w _).then h (fun q _ e => .inr e)
end
section
variable (br bi : Nat) (A : Option Addr) (n c : Nat) (l : List Int) (s : RS) (w : World)
theorem bitsR_val (bs : List Bool) (k : Nat) (s : RS) (hk : k ≤ 32) : 0 ≤ (bitsR bs k s).1 ∧ (bitsR bs k s).1 < 4294967296 := by
  unfold bitsR
  split
  · split
    · have h1 := numB_lt ((bs.drop s.1).take k)
      have h2 : 2 ^ ((bs.drop s.1).take k).length ≤ 2 ^ 32 := Nat.pow_le_pow_right (by decide) (by rw [List.length_take]; omega)
      simp only; omega
    · simp
  · simp
set_option maxHeartbeats 4000000 in
theorem snp_fixed (k : Nat) (h : RdS w br bi A n c l s) (hk : k ≤ 32) :
    Calls Tryz.prog 55 #[.pointer (some ⟨br, 0, none⟩), .int .i64 (k : Int)] w fun e w' => e = .returned (.int .i64 (bitsR (unB l) k s).1) ∧ RdS w' br bi A n c l (bitsR (unB l) k s).2 ∧ Fr2 (RB br bi) w w' := by
  obtain ⟨p, er⟩ := s
  have hle := h.le
  have hh := Lib.hid h
  obtain ⟨_, b0, b1, f0, f1⟩ := h.box.open2
  simp only at b1 hle
  by_cases he : er = 0
  · subst he
    have hv := bitsR_val (unB l) k (p, 0) hk
    have hl2 := bitsR_le (bs := unB l) (n := k) (s := (p, 0)) (by rw [h.len]; exact hle)
    rw [h.len] at hl2
    have kB := fun w1 h1 => bio_RBits bi A n c p k l w1 h1 hle (by omega)
    generalize bitsR (unB l) k (p, 0) = q at kB hv hl2
    obtain ⟨v, p2, e2⟩ := q
    simp only at kB hv hl2 ⊢
    have e0 : IntKind.i64.wrap v = v := IntWalk.i64_in _ (by omega)
    clear h
    go_enter Tryz.func55, Tryz.ntmps55
    go_wp2_with fail
    go_at_call 99
    refine (kB _ hh.out.d).mono ?_
    rintro e w1 ⟨rfl, hd1, hf1⟩
    have hs1 := Lib.hid (hh.out.step (e := e2) hd1 hf1 hl2)
    have hbl := hf1.block br hh.out.box.1 hh.out.ne
    have b1' := (World.cell?_of_block (a := ⟨br, 1, none⟩) hbl).trans b1
    have f1' := (World.frozen?_of_block (a := ⟨br, 1, none⟩) hbl).trans f1
    have hF := Lib.hid ((Fr2.inR (br := br) hf1).put 1 (.int .i64 e2) (.inl (.inl rfl)))
    clear b0 b1 f0 f1 hbl hd1 hf1 kB
    go_wp2_with fail
    go_ret
    exact ⟨rfl, hs1.out, hF.out⟩
  · have d1 : (er == 0) = false := by simpa using he
    have d2 : (er != 0) = true := by simpa using he
    have hb := bitsR_bad (bs := unB l) (n := k) (s := (p, er)) he
    rw [hb]
    clear h hb he
    go_enter Tryz.func55, Tryz.ntmps55
    go_wp2_with fail
    go_ret
    exact ⟨rfl, hh.out, Fr2.here _ _⟩
set_option maxHeartbeats 4000000 in
theorem snp_gamma (h : RdS w br bi A n c l s) :
    Calls Tryz.prog 59 #[.pointer (some ⟨br, 0, none⟩)] w fun e w' => e = .returned (.int .i64 (gamR (unB l) s).1) ∧ RdS w' br bi A n c l (gamR (unB l) s).2 ∧ Fr2 (RB br bi) w w' := by
  obtain ⟨p, er⟩ := s
  have hle := h.le
  have hh := Lib.hid h
  obtain ⟨_, b0, b1, f0, f1⟩ := h.box.open2
  simp only at b1 hle
  by_cases he : er = 0
  · subst he
    have hl2 := gamR_le (bs := unB l) (s := (p, 0)) (by rw [h.len]; exact hle)
    rw [h.len] at hl2
    have kB := fun w1 h1 => bio_RGamma bi A n c p l w1 h1 hle
    generalize gamR (unB l) (p, 0) = q at kB hl2
    obtain ⟨v, p2, e2⟩ := q
    simp only at kB hl2 ⊢
    clear h
    go_enter Tryz.func59, Tryz.ntmps59
    go_wp2_with fail
    go_at_call 100
    refine (kB _ hh.out.d).mono ?_
    rintro e w1 ⟨rfl, hd1, hf1⟩
    have hs1 := Lib.hid (hh.out.step (e := e2) hd1 hf1 hl2)
    have hbl := hf1.block br hh.out.box.1 hh.out.ne
    have b1' := (World.cell?_of_block (a := ⟨br, 1, none⟩) hbl).trans b1
    have f1' := (World.frozen?_of_block (a := ⟨br, 1, none⟩) hbl).trans f1
    have hF := Lib.hid ((Fr2.inR (br := br) hf1).put 1 (.int .i64 e2) (.inl (.inl rfl)))
    clear b0 b1 f0 f1 hbl hd1 hf1 kB
    go_wp2_with fail
    go_ret
    exact ⟨rfl, hs1.out, hF.out⟩
  · have d1 : (er == 0) = false := by simpa using he
    have d2 : (er != 0) = true := by simpa using he
    have hb := gamR_bad (bs := unB l) (s := (p, er)) he
    rw [hb]
    clear h hb he
    go_enter Tryz.func59, Tryz.ntmps59
    go_wp2_with fail
    go_ret
    exact ⟨rfl, hh.out, Fr2.here _ _⟩
set_option maxHeartbeats 4000000 in
theorem snp_signed (h : RdS w br bi A n c l s) :
    Calls Tryz.prog 115 #[.pointer (some ⟨br, 0, none⟩)] w fun e w' => e = .returned (.int .i64 (sgnR (unB l) s).1) ∧ RdS w' br bi A n c l (sgnR (unB l) s).2 ∧ Fr2 (RB br bi) w w' := by
  obtain ⟨p, er⟩ := s
  have hle := h.le
  have hh := Lib.hid h
  obtain ⟨_, b0, b1, f0, f1⟩ := h.box.open2
  simp only at b1 hle
  by_cases he : er = 0
  · subst he
    have hl2 := gamR_le (bs := unB l) (s := (p, 0)) (by rw [h.len]; exact hle)
    rw [h.len] at hl2
    have kB := fun w1 h1 => bio_RSigned bi A n c p l w1 h1 hle
    change (sgnR (unB l) (p, 0)).2.1 ≤ _ at hl2
    generalize sgnR (unB l) (p, 0) = q at kB hl2
    obtain ⟨v, p2, e2⟩ := q
    simp only at kB hl2 ⊢
    clear h
    go_enter Tryz.func115, Tryz.ntmps115
    go_wp2_with fail
    go_at_call 133
    refine (kB _ hh.out.d).mono ?_
    rintro e w1 ⟨rfl, hd1, hf1⟩
    have hs1 := Lib.hid (hh.out.step (e := e2) hd1 hf1 hl2)
    have hbl := hf1.block br hh.out.box.1 hh.out.ne
    have b1' := (World.cell?_of_block (a := ⟨br, 1, none⟩) hbl).trans b1
    have f1' := (World.frozen?_of_block (a := ⟨br, 1, none⟩) hbl).trans f1
    have hF := Lib.hid ((Fr2.inR (br := br) hf1).put 1 (.int .i64 e2) (.inl (.inl rfl)))
    clear b0 b1 f0 f1 hbl hd1 hf1 kB
    go_wp2_with fail
    go_ret
    exact ⟨rfl, hs1.out, hF.out⟩
  · have d1 : (er == 0) = false := by simpa using he
    have d2 : (er != 0) = true := by simpa using he
    have hb := sgnR_bad (bs := unB l) (s := (p, er)) he
    rw [hb]
    clear h hb he
    go_enter Tryz.func115, Tryz.ntmps115
    go_wp2_with fail
    go_ret
    exact ⟨rfl, hh.out, Fr2.here _ _⟩
set_option maxHeartbeats 4000000 in
theorem snp_add (a b : Int) (ha : -4611686018427387904 ≤ a ∧ a ≤ 4611686018427387904) (hb : -4611686018427387904 ≤ b) :
    Calls Tryz.prog 116 #[.int .i64 a, .int .i64 b] w fun e w' => e = .returned (.int .i64 (addF a b)) ∧ Below w.heap.size w w' := by
  have e0 : IntKind.i64.wrap (a + min b 4194304) = a + min b 4194304 := IntWalk.i64_in _ (by omega)
  go_enter Tryz.func116, Tryz.ntmps116
  go_wp2_with fail
  go_ret
  exact ⟨rfl, Below.refl _ _⟩
end
end Go.Proofs.YtmenokhnanghgaaGreat
end
section
namespace Go.Proofs.YtmenokhnanghgaaGreat
open Go Go.RowKit
set_option maxRecDepth 100000
theorem RdS.low {w : World} {br bi : Nat} {A : Option Addr} {n c : Nat} {l : List Int} {s : RS} (h : RdS w br bi A n c l s) : 0 < n → ∀ b o, A = some ⟨b, o, none⟩ → b < w.heap.size := by
  intro hn b o e
  obtain ⟨b', o', e', hb, _⟩ := h.d.rd.2 hn
  rw [e] at e'
  injection e' with e'
  injection e' with e' _
  omega
set_option maxHeartbeats 8000000 in
theorem snp_open (k : Nat) (A : Option Addr) (n c : Nat) (l : List Int) (w : World) (hR : Rd encU 1 w A n l) (hl : ByL l) (hn : n ≤ 65536) (hk : k < 16) :
    Calls Tryz.prog 42 #[.slice A n c, .int .i64 (k : Int)] w fun e w' => ∃ br bi A' c', e = .returned (.tuple #[.pointer (some ⟨br, 0, none⟩), .int .i64 0]) ∧ RdS w' br bi A' n c' l (opnR (unB l) (k : Int)) ∧ w.heap.size ≤ br ∧ w.heap.size ≤ bi ∧ Below w.heap.size w w' := by
  have hRh := Lib.hid hR
  clear hR
  go_enter Tryz.func42, Tryz.ntmps42
  go_wp2_with fail
  go_at_call 88
  refine (bio_NewReader A n c l _ hRh.out hl hn).mono ?_
  rintro e w1 ⟨bi, A1, c1, rfl, hd1, hbi, hb1⟩
  have hz1 := hb1.size
  have hbis := hd1.box.1
  have hlow : 0 < n → ∀ b o, A1 = some ⟨b, o, none⟩ → b < w1.heap.size := by
    intro h0 b o e
    obtain ⟨b', o', e', hb, _⟩ := hd1.rd.2 h0
    rw [e] at e'
    injection e' with e'
    injection e' with e' _
    omega
  go_upto_region 5 with (fail)
  obtain ⟨w2, hw2⟩ : ∃ w2, w2 = w1.alloc (.cells #[.pointer (some ⟨bi, 0, none⟩), .int .i64 0] 135) := ⟨_, rfl⟩
  have hb2 : Below w1.heap.size w1 w2 := by rw [hw2]; exact (Below.refl _ _).alloc (Nat.le_refl _) _
  have hS : RdS w2 w1.heap.size bi A1 n c1 l (0, 0) := ⟨by rw [hw2]; exact BxW.new w1 [.pointer (some ⟨bi, 0, none⟩), .int .i64 0] _, hd1.of hb2, by omega, fun h0 b o e => by have := hlow h0 b o e; omega, by simp⟩
  rw [← hw2]
  have hz2 := hb2.size
  clear hw2
  replace hS := Lib.hid hS
  go_wp2_with fail
  go_at_call 55
  refine (snp_fixed w1.heap.size bi A1 n c1 l (0, 0) _ 4 hS.out (by omega)).mono ?_
  rintro e w3 ⟨rfl, hS3, hf3⟩
  have hb3 := Lib.hid (hf3.below (B := w.heap.size) (by omega) (fun q hq => by rcases hq with rfl | rfl <;> omega))
  replace hS3 := Lib.hid hS3
  clear hf3
  go_wp2_with fail
  go_at_call 55
  refine (snp_fixed w1.heap.size bi A1 n c1 l _ _ 4 hS3.out (by omega)).mono ?_
  rintro e w4 ⟨rfl, hS4, hf4⟩
  have hb4 := Lib.hid (hf4.below (B := w.heap.size) (by have := hb3.out.size; omega) (fun q hq => by rcases hq with rfl | rfl <;> omega))
  have hB := Lib.hid (((hb1.trans (hb2.mono (by omega))).trans hb3.out).trans hb4.out)
  have ho : opnR (unB l) (k : Int) = if (bitsR (unB l) 4 (bitsR (unB l) 4 (0, 0)).2).2.2 = 0 ∧ ¬ ((bitsR (unB l) 4 (0, 0)).1 = k ∧ (bitsR (unB l) 4 (bitsR (unB l) 4 (0, 0)).2).1 = 1) then ((bitsR (unB l) 4 (bitsR (unB l) 4 (0, 0)).2).2.1, 3) else (bitsR (unB l) 4 (bitsR (unB l) 4 (0, 0)).2).2 := rfl
  replace ho := Lib.hid ho
  obtain ⟨g2, hg2⟩ : ∃ g2, g2 = bitsR (unB l) 4 (bitsR (unB l) 4 (0, 0)).2 := ⟨_, rfl⟩
  obtain ⟨g1, hg1⟩ : ∃ g1, g1 = bitsR (unB l) 4 (0, 0) := ⟨_, rfl⟩
  rw [← hg2] at hS4 ho
  rw [← hg1] at ho
  have hv1 := congrArg Prod.fst hg1
  have hv2 := congrArg Prod.fst hg2
  rw [← hv1, ← hv2]
  clear hg1 hg2 hv1 hv2 hf4
  obtain ⟨v1, s1⟩ := g1
  obtain ⟨v2, p2, e2⟩ := g2
  simp only at ho hS4
  obtain ⟨_, b0, b1, f0, f1⟩ := hS4.box.open2
  simp only at b1
  by_cases hs : e2 = 0
  · subst hs
    by_cases hc1 : v1 = (k : Int)
    · subst hc1
      by_cases hc2 : v2 = 1
      · subst hc2
        rw [if_neg (by simp)] at ho
        have hSf := Lib.hid hS4
        dsimp only
        go_wp2_with fail
        refine bodyPost_ret (v := .tuple #[.pointer (some ⟨w1.heap.size, 0, none⟩), .int .i64 0]) (by simp [results, Tryz.results42, go_sem, *, ↓IntWalk.iteOmega]) rfl ?_
        exact ⟨_, bi, A1, c1, rfl, by rw [ho.out]; exact hSf.out, hz1, hbi, hB.out⟩
      · have d2 : (v2 == 1) = false := by simpa using hc2
        have d2' : (v2 != 1) = true := by simpa using hc2
        rw [if_pos ⟨rfl, fun k => hc2 k.2⟩] at ho
        have hSf := Lib.hid (hS4.err 3)
        dsimp only
        go_wp2_with fail
        refine bodyPost_ret (v := .tuple #[.pointer (some ⟨w1.heap.size, 0, none⟩), .int .i64 0]) (by simp [results, Tryz.results42, go_sem, *, ↓IntWalk.iteOmega]) rfl ?_
        exact ⟨w1.heap.size, rfl, bi, ⟨A1, c1, by rw [ho.out]; exact hSf.out⟩, hz1, hbi, hB.out.setCell hz1 _⟩
    · have d2 : (v1 == (k : Int)) = false := by simpa using hc1
      have d2' : (v1 != (k : Int)) = true := by simpa using hc1
      rw [if_pos ⟨rfl, fun k => hc1 k.1⟩] at ho
      have hSf := Lib.hid (hS4.err 3)
      dsimp only
      go_wp2_with fail
      refine bodyPost_ret (v := .tuple #[.pointer (some ⟨w1.heap.size, 0, none⟩), .int .i64 0]) (by simp [results, Tryz.results42, go_sem, *, ↓IntWalk.iteOmega]) rfl ?_
      exact ⟨w1.heap.size, rfl, bi, ⟨A1, c1, by rw [ho.out]; exact hSf.out⟩, hz1, hbi, hB.out.setCell hz1 _⟩
  · have d2 : (e2 == 0) = false := by simpa using hs
    rw [if_neg (fun k => hs k.1)] at ho
    have hSf := Lib.hid hS4
    dsimp only
    go_wp2_with fail
    refine bodyPost_ret (v := .tuple #[.pointer (some ⟨w1.heap.size, 0, none⟩), .int .i64 0]) (by simp [results, Tryz.results42, go_sem, *, ↓IntWalk.iteOmega]) rfl ?_
    exact ⟨_, bi, A1, c1, rfl, by rw [ho.out]; exact hSf.out, hz1, hbi, hB.out⟩
def void : Ending := .returned (.tuple #[])
end Go.Proofs.YtmenokhnanghgaaGreat
end
section
namespace Go.Proofs.YtmenokhnanghgaaGreat
open Go Go.RowKit
set_option maxRecDepth 100000
theorem BxW.open1 {w : World} {b : Nat} {x : Value} (h : BxW w b [x]) : b < w.heap.size ∧ w.cell? ⟨b, 0, none⟩ = some x ∧ w.frozen? ⟨b, 0, none⟩ = false := ⟨h.1, h.2.1 0, h.2.2 0⟩
theorem BxW.new1 (w : World) (x : Value) (t : TypeId) : BxW (w.alloc (.cells #[x] t)) w.heap.size [x] := BxW.new w [x] t
theorem BxW.frR {w w' : World} {b : Nat} {vs : List Value} {R : Nat → Prop} (h : BxW w b vs) (hf : Fr2 R w w') (hr : ¬ R b) : BxW w' b vs := by
  have hbl := hf.block b h.1 hr
  exact ⟨Nat.lt_of_lt_of_le h.1 hf.size, fun i => (World.cell?_of_block hbl).trans (h.2.1 i), fun i => (World.frozen?_of_block hbl).trans (h.2.2 i)⟩
/-- The blocks of a cell list's reading: out bo, the reader's boxes bc and b2, the function's bt, the place's bp; all below B1. -/
structure LsB (B0 B1 br bi bo bc b2 bt bp : Nat) : Prop where
  r1 : br < B0
  r2 : bi < B0
  o : B0 ≤ bo ∧ bo < B1
  c : B0 ≤ bc ∧ bc < B1
  d : B0 ≤ b2 ∧ b2 < B1
  t : B0 ≤ bt ∧ bt < B1
  p : B0 ≤ bp ∧ bp < B1
  oc : bo ≠ bc
  od : bo ≠ b2
  ot : bo ≠ bt
  op : bo ≠ bp
  cp : bc ≠ bp
  dp : b2 ≠ bp
  tp : bt ≠ bp
/-- What lies in them. -/
structure LsP {β : Type} (enc : β → List Value) (k : Nat) (e : TypeId) (B1 : Nat) (w0 : World) (br bi bo bc b2 bt bp : Nat) (tf : Value) (lst : List β) (x y : Int) (OA : Option Addr) (on oc : Nat) (w : World) : Prop where
  o : BxW w bo [.slice OA on oc]
  row : Own enc k e B1 w OA on oc lst
  p : BxW w bp [.int .i64 x, .int .i64 y]
  c : BxW w bc [.pointer (some ⟨br, 0, none⟩)]
  d : BxW w b2 [.pointer (some ⟨br, 0, none⟩)]
  t : BxW w bt [tf]
  f : Fr2 (RB br bi) w0 w
  z : B1 ≤ w.heap.size
section
variable {β : Type} {enc : β → List Value} {k : Nat} {e : TypeId} {B1 : Nat} {w0 : World} {br bi bo bc b2 bt bp : Nat} {tf : Value} {lst : List β} {x y : Int} {OA : Option Addr} {on oc : Nat} {w w' : World}
theorem LsP.read (h : LsP enc k e B1 w0 br bi bo bc b2 bt bp tf lst x y OA on oc w) (hB : LsB w0.heap.size B1 br bi bo bc b2 bt bp) (hf : Fr2 (RB br bi) w w') : LsP enc k e B1 w0 br bi bo bc b2 bt bp tf lst x y OA on oc w' := by
  have h1 := hB.r1
  have h2 := hB.r2
  refine ⟨h.o.frR hf ?_, h.row.fr2 hf ?_, h.p.frR hf ?_, h.c.frR hf ?_, h.d.frR hf ?_, h.t.frR hf ?_, h.f.then hf (fun _ _ e => e), Nat.le_trans h.z hf.size⟩
  · have := hB.o; rintro (e | e) <;> omega
  · intro q hq
    have := (h.row.row.lt q hq).1
    have := hB.o
    rintro (e | e) <;> omega
  · have := hB.p; rintro (e | e) <;> omega
  · have := hB.c; rintro (e | e) <;> omega
  · have := hB.d; rintro (e | e) <;> omega
  · have := hB.t; rintro (e | e) <;> omega
theorem LsP.of (h : LsP enc k e B1 w0 br bi bo bc b2 bt bp tf lst x y OA on oc w) (hb : Below w.heap.size w w') : LsP enc k e B1 w0 br bi bo bc b2 bt bp tf lst x y OA on oc w' :=
  ⟨h.o.of hb, h.row.of hb, h.p.of hb, h.c.of hb, h.d.of hb, h.t.of hb, h.f.of hb, Nat.le_trans h.z hb.size⟩
/-- A coordinate stored. -/
theorem LsP.put (h : LsP enc k e B1 w0 br bi bo bc b2 bt bp tf lst x y OA on oc w) (hB : LsB w0.heap.size B1 br bi bo bc b2 bt bp) (i : Nat) (v : Value) {x' y' : Int} (hv : [.int .i64 x, .int .i64 y].set i v = [.int .i64 x', .int .i64 y']) (hi : i < 2) : LsP enc k e B1 w0 br bi bo bc b2 bt bp tf lst x' y' OA on oc (w.setCell ⟨bp, i, none⟩ v) := by
  have hp := h.p.put i v (by simpa using hi)
  rw [hv] at hp
  refine ⟨h.o.off i v (fun e => hB.op e.symm), h.row.over2 (grownBy_set w bp i v) (fun q hq e => ?_), hp, h.c.off i v (fun e => hB.cp e.symm), h.d.off i v (fun e => hB.dp e.symm), h.t.off i v (fun e => hB.tp e.symm), h.f.put i v (.inr hB.p.1), by rw [World.size_setCell]; exact h.z⟩
  injection e with e
  have := (h.row.row.lt q hq).1
  have := hB.p.2
  omega
/-- An element appended and the slice stored. -/
theorem LsP.app (h : LsP enc k e B1 w0 br bi bo bc b2 bt bp tf lst x y OA on oc w) (hB : LsB w0.heap.size B1 br bi bo bc b2 bt bp) {ob : Obj} {w5 : World} {A5 : Option Addr} {n5 c5 : Nat} {b : β} (hown : Own enc k e B1 w5 A5 n5 c5 (lst ++ [b])) (hg : (w.alloc ob).grownBy w5 (Value.slice OA on oc).ownBlock) :
    LsP enc k e B1 w0 br bi bo bc b2 bt bp tf (lst ++ [b]) x y A5 n5 c5 (w5.setCell ⟨bo, 0, none⟩ (.slice A5 n5 c5)) := by
  have hal : Below w.heap.size w (w.alloc ob) := (Below.refl _ _).alloc (Nat.le_refl _) _
  have hr : ∀ b, b < B1 → some b ≠ (Value.slice OA on oc).ownBlock := fun b hb e => by have := (h.row.row.lt b e.symm).1; omega
  have hz := h.z
  have hsz := hg.size
  rw [World.size_alloc] at hsz
  have hf : Fr2 (RB br bi) w0 w5 := (h.f.of hal).grown hg (fun q hq => by have := (h.row.row.lt q hq).1; have := hB.o; exact .inr (by omega))
  refine ⟨((h.o.of hal).grown hg (hr _ hB.o.2)).put 0 _ (by simp), hown.setBelow hB.o.2 _, ((h.p.of hal).grown hg (hr _ hB.p.2)).off 0 _ hB.op, ((h.c.of hal).grown hg (hr _ hB.c.2)).off 0 _ hB.oc, ((h.d.of hal).grown hg (hr _ hB.d.2)).off 0 _ hB.od, ((h.t.of hal).grown hg (hr _ hB.t.2)).off 0 _ hB.ot, hf.put 0 _ (.inr hB.o.1), by rw [World.size_setCell]; omega⟩
theorem RdS.app {A : Option Addr} {n c : Nat} {l : List Int} {s : RS} {w5 : World} {ob : Obj} {v : Value} (hR : RdS w br bi A n c l s) (h : LsP enc k e B1 w0 br bi bo bc b2 bt bp tf lst x y OA on oc w) (hB : LsB w0.heap.size B1 br bi bo bc b2 bt bp) (hA : 0 < n → ∀ b o, A = some ⟨b, o, none⟩ → b < w0.heap.size) (hg : (w.alloc ob).grownBy w5 (Value.slice OA on oc).ownBlock) : RdS (w5.setCell ⟨bo, 0, none⟩ v) br bi A n c l s := by
  have hal : Below w.heap.size w (w.alloc ob) := (Below.refl _ _).alloc (Nat.le_refl _) _
  have h1 := hB.r1
  have h2 := hB.r2
  have h3 := hB.o
  have hf : Fr2 (fun q => w0.heap.size ≤ q) w (w5.setCell ⟨bo, 0, none⟩ v) := (((Fr2.here w _).of hal).grown hg (fun q hq => by have := (h.row.row.lt q hq).1; exact .inl (by omega))).put 0 v (.inl h3.1)
  exact hR.fr2 hf (by omega) (by omega) (fun h0 b o e => by have := hA h0 b o e; omega)
theorem RdS.putP {A : Option Addr} {n c : Nat} {l : List Int} {s : RS} (hR : RdS w br bi A n c l s) (hB : LsB w0.heap.size B1 br bi bo bc b2 bt bp) (hA : 0 < n → ∀ b o, A = some ⟨b, o, none⟩ → b < w0.heap.size) (i : Nat) (v : Value) : RdS (w.setCell ⟨bp, i, none⟩ v) br bi A n c l s := by
  have h1 := hB.r1
  have h2 := hB.r2
  have h3 := hB.p
  exact hR.fr2 ((Fr2.here w (fun q => q = bp)).put i v (.inl rfl)) (by omega) (by omega) (fun h0 b o e => by have := hA h0 b o e; omega)
end
end Go.Proofs.YtmenokhnanghgaaGreat
end
