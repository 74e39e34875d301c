/- The reference's reader of forms: bits, gamma, signed. By mkrfx.py. The reference's reader of forms: place, end, take. By mkrfx.py. The reference's reader of forms: cells. By mkrfx.py. -/
import Derived.Test.YtmenokhnanghgaaGreatRFR
import Derived.Test.YtmenokhnanghgaaGreatCEL
import Derived.Test.YtmenokhnanghgaaGreatSNH
import Derived.Test.YtmenokhnanghgaaGreatSND
set_option linter.unusedSimpArgs false
set_option linter.unusedVariables false
section
namespace Go.Proofs.YtmenokhnanghgaaGreat
open Go Go.RowKit
set_option maxRecDepth 100000
set_option linter.unusedSimpArgs false
set_option linter.unusedVariables false
structure RrS (w : World) (br bi : Nat) (A : Option Addr) (n c : Nat) (bs : List Bool) (s : RS) : Prop where
  box : BxW w br [.pointer (some ⟨bi, 0, none⟩), .int .i64 s.2]
  d : RrD w bi A n c bs s.1
  ne : br ≠ bi
  off : 0 < n → ∀ b o, A = some ⟨b, o, none⟩ → b ≠ br
  le : s.1 ≤ n
section
variable {w w' w'' : World} {br bi : Nat} {A : Option Addr} {n c : Nat} {bs : List Bool} {s : RS}
theorem RrS.of (h : RrS w br bi A n c bs s) (hb : Below w.heap.size w w') : RrS w' br bi A n c bs s := ⟨h.box.of hb, h.d.of hb, h.ne, h.off, h.le⟩
theorem RrS.len (h : RrS w br bi A n c bs s) : bs.length = n := h.d.len
theorem RrS.step {p : Nat} {e : Int} (h : RrS w br bi A n c bs s) (hd : RrD w' bi A n c bs p) (hf : Fr2 (fun q => q = bi) w w') (hp : p ≤ n) : RrS (w'.setCell ⟨br, 1, none⟩ (.int .i64 e)) br bi A n c bs (p, e) := by
  have hbl := hf.block br h.box.1 h.ne
  have hb : BxW w' br [.pointer (some ⟨bi, 0, none⟩), .int .i64 s.2] := ⟨Nat.lt_of_lt_of_le h.box.1 hf.size, fun i => (World.cell?_of_block hbl).trans (h.box.2.1 i), fun i => (World.frozen?_of_block hbl).trans (h.box.2.2 i)⟩
  refine ⟨hb.put 1 (.int .i64 e) (by simp), ⟨hd.box.off 1 _ h.ne, ?_, hd.le, hd.off⟩, h.ne, h.off, hp⟩
  refine ⟨hd.rd.1, fun hn => ?_⟩
  obtain ⟨b, o, he, hb1, hc⟩ := hd.rd.2 hn
  refine ⟨b, o, he, by rw [World.size_setCell]; exact hb1, fun i x hi j u hu => ?_⟩
  rw [cell_setCell_if, if_neg (fun k => h.off hn b o he k.1.symm)]
  exact hc i x hi j u hu
theorem RrS.err (h : RrS w br bi A n c bs s) (e : Int) : RrS (w.setCell ⟨br, 1, none⟩ (.int .i64 e)) br bi A n c bs (s.1, e) := h.step (e := e) h.d (Fr2.here _ _) h.le
theorem RrS.fr2 {R : Nat → Prop} (h : RrS w br bi A n c bs s) (hf : Fr2 R w w') (h1 : ¬ R br) (h2 : ¬ R bi) (h3 : 0 < n → ∀ b o, A = some ⟨b, o, none⟩ → ¬ R b) : RrS w' br bi A n c bs s := by
  have hbl := hf.block br h.box.1 h1
  exact ⟨⟨Nat.lt_of_lt_of_le h.box.1 hf.size, fun i => (World.cell?_of_block hbl).trans (h.box.2.1 i), fun i => (World.frozen?_of_block hbl).trans (h.box.2.2 i)⟩, h.d.fr2 hf h2 h3, h.ne, h.off, h.le⟩
structure RrB (H br bi : Nat) (A : Option Addr) (n : Nat) : Prop where
  br : br < H
  bi : bi < H
  a : 0 < n → ∀ b o, A = some ⟨b, o, none⟩ → b < H
theorem RrS.low (h : RrS w br bi A n c bs s) : RrB w.heap.size br bi A n := ⟨h.box.1, h.d.box.1, fun hn b o e => by
  obtain ⟨b', o', e', hb, _⟩ := h.d.rd.2 hn
  rw [e] at e'
  injection e' with e'
  injection e' with e' _
  omega⟩
theorem RrB.mono {H H' : Nat} (h : RrB H br bi A n) (hH : H ≤ H') : RrB H' br bi A n := ⟨Nat.lt_of_lt_of_le h.br hH, Nat.lt_of_lt_of_le h.bi hH, fun h0 b o e => Nat.lt_of_lt_of_le (h.a h0 b o e) hH⟩
theorem RrS.gr {H : Nat} {row : Option Nat} (h : RrS w br bi A n c bs s) (hL : RrB H br bi A n) (hg : w.grownBy w' row) (hr : ∀ q, row = some q → H ≤ q) : RrS w' br bi A n c bs s :=
  h.fr2 ((Fr2.here w (fun q => H ≤ q)).grown hg (fun q e => .inl (hr q e))) (by have := hL.br; omega) (by have := hL.bi; omega) (fun h0 b o e => by have := hL.a h0 b o e; omega)
end
section
variable (br bi : Nat) (A : Option Addr) (n c : Nat) (bs : List Bool) (s : RS) (w : World)
set_option maxHeartbeats 4000000 in
theorem ref55_Rbits (k : Nat) (h : RrS w br bi A n c bs s) (hk : k ≤ 32) :
    Calls Tryz.prog 61 #[.pointer (some ⟨br, 0, none⟩), .int .i64 (k : Int)] w fun e w' => e = .returned (.int .i64 (bitsR bs k s).1) ∧ RrS w' br bi A n c bs (bitsR bs k s).2 ∧ Fr2 (RB br bi) w w' := by
  obtain ⟨p, er⟩ := s
  have hle := h.le
  have hh := Lib.hid h
  obtain ⟨_, b0, b1, f0, f1⟩ := h.box.open2
  simp only at b1 hle
  by_cases he : er = 0
  · subst he
    have hl2 := bitsR_le (bs := bs) (n := k) (s := (p, 0)) (by rw [h.len]; exact hle)
    rw [h.len] at hl2
    have kB := fun w1 h1 => ref02_RBits bi A n c p k bs w1 h1 hle (by omega)
    have hv := bitsR_val bs k (p, 0) hk
    generalize bitsR bs k (p, 0) = q at kB hl2 hv
    obtain ⟨v, p2, e2⟩ := q
    simp only at kB hl2 hv ⊢
    have e0 : IntKind.i64.wrap v = v := IntWalk.i64_in _ (by omega)
    clear h
    go_enter Tryz.func61, Tryz.ntmps61
    go_wp2_with fail
    go_at_call 101
    refine (kB _ hh.out.d).mono ?_
    rintro e w1 ⟨rfl, hd1, hf1⟩
    have hs1 := Lib.hid (hh.out.step (e := e2) hd1 hf1 hl2)
    have hbl := hf1.block br hh.out.box.1 hh.out.ne
    have b1' := (World.cell?_of_block (a := ⟨br, 1, none⟩) hbl).trans b1
    have f1' := (World.frozen?_of_block (a := ⟨br, 1, none⟩) hbl).trans f1
    have hF := Lib.hid ((Fr2.inR (br := br) hf1).put 1 (.int .i64 e2) (.inl (.inl rfl)))
    clear b0 b1 f0 f1 hbl hd1 hf1 kB
    go_wp2_with fail
    go_ret
    exact ⟨rfl, hs1.out, hF.out⟩
  · have d1 : (er == 0) = false := by simpa using he
    have d2 : (er != 0) = true := by simpa using he
    have hb := bitsR_bad (bs := bs) (n := k) (s := (p, er)) he
    rw [hb]
    clear h hb he
    go_enter Tryz.func61, Tryz.ntmps61
    go_wp2_with fail
    go_ret
    exact ⟨rfl, hh.out, Fr2.here _ _⟩
set_option maxHeartbeats 4000000 in
theorem ref55_Rgamma (h : RrS w br bi A n c bs s) :
    Calls Tryz.prog 62 #[.pointer (some ⟨br, 0, none⟩)] w fun e w' => e = .returned (.int .i64 (gamR bs s).1) ∧ RrS w' br bi A n c bs (gamR bs s).2 ∧ Fr2 (RB br bi) w w' := by
  obtain ⟨p, er⟩ := s
  have hle := h.le
  have hh := Lib.hid h
  obtain ⟨_, b0, b1, f0, f1⟩ := h.box.open2
  simp only at b1 hle
  by_cases he : er = 0
  · subst he
    have hl2 := gamR_le (bs := bs) (s := (p, 0)) (by rw [h.len]; exact hle)
    rw [h.len] at hl2
    have kB := fun w1 h1 => ref02_RGamma bi A n c p bs w1 h1 hle
    generalize gamR bs (p, 0) = q at kB hl2
    obtain ⟨v, p2, e2⟩ := q
    simp only at kB hl2 ⊢
    clear h
    go_enter Tryz.func62, Tryz.ntmps62
    go_wp2_with fail
    go_at_call 102
    refine (kB _ hh.out.d).mono ?_
    rintro e w1 ⟨rfl, hd1, hf1⟩
    have hs1 := Lib.hid (hh.out.step (e := e2) hd1 hf1 hl2)
    have hbl := hf1.block br hh.out.box.1 hh.out.ne
    have b1' := (World.cell?_of_block (a := ⟨br, 1, none⟩) hbl).trans b1
    have f1' := (World.frozen?_of_block (a := ⟨br, 1, none⟩) hbl).trans f1
    have hF := Lib.hid ((Fr2.inR (br := br) hf1).put 1 (.int .i64 e2) (.inl (.inl rfl)))
    clear b0 b1 f0 f1 hbl hd1 hf1 kB
    go_wp2_with fail
    go_ret
    exact ⟨rfl, hs1.out, hF.out⟩
  · have d1 : (er == 0) = false := by simpa using he
    have d2 : (er != 0) = true := by simpa using he
    have hb := gamR_bad (bs := bs) (s := (p, er)) he
    rw [hb]
    clear h hb he
    go_enter Tryz.func62, Tryz.ntmps62
    go_wp2_with fail
    go_ret
    exact ⟨rfl, hh.out, Fr2.here _ _⟩
end
end Go.Proofs.YtmenokhnanghgaaGreat
end
section
namespace Go.Proofs.YtmenokhnanghgaaGreat
open Go Go.RowKit
set_option maxRecDepth 100000
set_option linter.unusedSimpArgs false
set_option linter.unusedVariables false
section
variable (br bi : Nat) (A : Option Addr) (n c : Nat) (bs : List Bool) (s : RS) (w : World)
set_option maxHeartbeats 8000000 in
theorem ref55_Rend (r : Bool) (h : RrS w br bi A n c bs s) :
    Calls Tryz.prog 48 #[.pointer (some ⟨br, 0, none⟩), .bool r] w fun e w' => e = .returned (.int .i64 (cloR bs s r)) ∧ Below w.heap.size w w' := by
  obtain ⟨p, er⟩ := s
  have hle := h.le
  obtain ⟨_, b0, b1, f0, f1⟩ := h.box.open2
  simp only at b1 hle
  by_cases he : er = 0
  · subst he
    have kE := ref02_REnd bi A n c p bs w h.d hle
    cases hend : endR bs (p, 0) with
    | false =>
      rw [cloR_end rfl hend]
      rw [hend] at kE
      clear h hend
      go_enter Tryz.func48, Tryz.ntmps48
      go_wp2_with fail
      go_at_call 94
      refine kE.mono ?_
      rintro e w1 ⟨rfl, hb1⟩
      replace hb1 := Lib.hid hb1
      go_wp2_with fail
      go_ret
      exact ⟨rfl, hb1.out⟩
    | true =>
      rw [hend] at kE
      cases r with
      | true =>
        rw [cloR_y rfl hend]
        clear h hend
        go_enter Tryz.func48, Tryz.ntmps48
        go_wp2_with fail
        go_at_call 94
        refine kE.mono ?_
        rintro e w1 ⟨rfl, hb1⟩
        replace hb1 := Lib.hid hb1
        go_wp2_with fail
        go_ret
        exact ⟨rfl, hb1.out⟩
      | false =>
        rw [cloR_no rfl]
        clear h hend
        go_enter Tryz.func48, Tryz.ntmps48
        go_wp2_with fail
        go_at_call 94
        refine kE.mono ?_
        rintro e w1 ⟨rfl, hb1⟩
        replace hb1 := Lib.hid hb1
        go_wp2_with fail
        go_ret
        exact ⟨rfl, hb1.out⟩
  · have d1 : (er != 0) = true := by simpa using he
    rw [cloR_bad (r := r) (show ((p, er) : RS).2 ≠ 0 from he)]
    clear h he
    go_enter Tryz.func48, Tryz.ntmps48
    go_wp2_with fail
    go_ret
    exact ⟨rfl, Below.refl _ _⟩
end
set_option maxHeartbeats 8000000 in
theorem ref55_take (k : Nat) (A : Option Addr) (n c : Nat) (l : List Int) (w : World) (hR : Rd encU 1 w A n l) (hl : ByL l) (hn : n ≤ 65536) (hk : k < 16) :
    Calls Tryz.prog 46 #[.slice A n c, .int .i64 (k : Int)] w fun e w' => ∃ br bi A' k' c', e = .returned (.pointer (some ⟨br, 0, none⟩)) ∧ RrS w' br bi A' k' c' (unB l) (opnR (unB l) (k : Int)) ∧ w.heap.size ≤ br ∧ w.heap.size ≤ bi ∧ Below w.heap.size w w' := by
  have kN := ref02_NewReader A n c l w hR hl hn
  clear hR
  go_enter Tryz.func46, Tryz.ntmps46
  go_wp2_with fail
  go_at_call 92
  refine kN.mono ?_
  rintro e w1 ⟨bi, A1, k1, c1, rfl, hd1, hbi, hb1⟩
  have hz1 := hb1.size
  have hbis := hd1.box.1
  have hlow : 0 < k1 → ∀ b o, A1 = some ⟨b, o, none⟩ → b < w1.heap.size := by
    intro h0 b o e
    obtain ⟨b', o', e', hb, _⟩ := hd1.rd.2 h0
    rw [e] at e'
    injection e' with e'
    injection e' with e' _
    omega
  go_upto_region 3 with (fail)
  obtain ⟨w2, hw2⟩ : ∃ w2, w2 = w1.alloc (.cells #[.pointer (some ⟨bi, 0, none⟩), .int .i64 0] 105) := ⟨_, rfl⟩
  have hb2 : Below w1.heap.size w1 w2 := by rw [hw2]; exact (Below.refl _ _).alloc (Nat.le_refl _) _
  have hS : RrS w2 w1.heap.size bi A1 k1 c1 (unB l) (0, 0) := ⟨by rw [hw2]; exact BxW.new w1 [.pointer (some ⟨bi, 0, none⟩), .int .i64 0] _, hd1.of hb2, by omega, fun h0 b o e => by have := hlow h0 b o e; omega, by simp⟩
  rw [← hw2]
  have hz2 := hb2.size
  clear hw2
  replace hS := Lib.hid hS
  go_wp2_with fail
  go_at_call 61
  refine (ref55_Rbits w1.heap.size bi A1 k1 c1 (unB l) (0, 0) _ 4 hS.out (by omega)).mono ?_
  rintro e w3 ⟨rfl, hS3, hf3⟩
  have hb3 := Lib.hid (hf3.below (B := w.heap.size) (by omega) (fun q hq => by rcases hq with rfl | rfl <;> omega))
  replace hS3 := Lib.hid hS3
  clear hf3
  go_wp2_with fail
  go_at_call 61
  refine (ref55_Rbits w1.heap.size bi A1 k1 c1 (unB l) _ _ 4 hS3.out (by omega)).mono ?_
  rintro e w4 ⟨rfl, hS4, hf4⟩
  have hb4 := Lib.hid (hf4.below (B := w.heap.size) (by have := hb3.out.size; omega) (fun q hq => by rcases hq with rfl | rfl <;> omega))
  have hB := Lib.hid (((hb1.trans (hb2.mono (by omega))).trans hb3.out).trans hb4.out)
  have ho : opnR (unB l) (k : Int) = if (bitsR (unB l) 4 (bitsR (unB l) 4 (0, 0)).2).2.2 = 0 ∧ ¬ ((bitsR (unB l) 4 (0, 0)).1 = k ∧ (bitsR (unB l) 4 (bitsR (unB l) 4 (0, 0)).2).1 = 1) then ((bitsR (unB l) 4 (bitsR (unB l) 4 (0, 0)).2).2.1, 3) else (bitsR (unB l) 4 (bitsR (unB l) 4 (0, 0)).2).2 := rfl
  replace ho := Lib.hid ho
  obtain ⟨g2, hg2⟩ : ∃ g2, g2 = bitsR (unB l) 4 (bitsR (unB l) 4 (0, 0)).2 := ⟨_, rfl⟩
  obtain ⟨g1, hg1⟩ : ∃ g1, g1 = bitsR (unB l) 4 (0, 0) := ⟨_, rfl⟩
  rw [← hg2] at hS4 ho
  rw [← hg1] at ho
  have hv1 := congrArg Prod.fst hg1
  have hv2 := congrArg Prod.fst hg2
  rw [← hv1, ← hv2]
  clear hg1 hg2 hv1 hv2 hf4
  obtain ⟨v1, s1⟩ := g1
  obtain ⟨v2, p2, e2⟩ := g2
  simp only at ho hS4
  obtain ⟨_, b0, b1, f0, f1⟩ := hS4.box.open2
  simp only at b1
  by_cases hs : e2 = 0
  · subst hs
    by_cases hc1 : v1 = (k : Int)
    · subst hc1
      by_cases hc2 : v2 = 1
      · subst hc2
        rw [if_neg (by simp)] at ho
        have hSf := Lib.hid hS4
        dsimp only
        go_wp2_with fail
        go_ret
        exact ⟨_, bi, A1, k1, c1, rfl, by rw [ho.out]; exact hSf.out, hz1, hbi, hB.out⟩
      · have d2 : (v2 == 1) = false := by simpa using hc2
        have d2' : (v2 != 1) = true := by simpa using hc2
        rw [if_pos ⟨rfl, fun k => hc2 k.2⟩] at ho
        have hSf := Lib.hid (hS4.err 3)
        dsimp only
        go_wp2_with fail
        go_ret
        exact ⟨w1.heap.size, rfl, bi, ⟨A1, k1, c1, by rw [ho.out]; exact hSf.out⟩, hz1, hbi, hB.out.setCell hz1 _⟩
    · have d2 : (v1 == (k : Int)) = false := by simpa using hc1
      have d2' : (v1 != (k : Int)) = true := by simpa using hc1
      rw [if_pos ⟨rfl, fun k => hc1 k.1⟩] at ho
      have hSf := Lib.hid (hS4.err 3)
      dsimp only
      go_wp2_with fail
      go_ret
      exact ⟨w1.heap.size, rfl, bi, ⟨A1, k1, c1, by rw [ho.out]; exact hSf.out⟩, hz1, hbi, hB.out.setCell hz1 _⟩
  · have d2 : (e2 == 0) = false := by simpa using hs
    rw [if_neg (fun k => hs k.1)] at ho
    have hSf := Lib.hid hS4
    dsimp only
    go_wp2_with fail
    go_ret
    exact ⟨_, bi, A1, k1, c1, rfl, by rw [ho.out]; exact hSf.out, hz1, hbi, hB.out⟩
end Go.Proofs.YtmenokhnanghgaaGreat
end
section
namespace Go.Proofs.YtmenokhnanghgaaGreat
open Go Go.RowKit
set_option maxRecDepth 100000
set_option linter.unusedSimpArgs false
set_option linter.unusedVariables false
section
variable {bs : List Bool} {s : RS} {β : Type}
theorem plcQ_mono {first : Bool} {b c : Int} : s.1 ≤ (plcQ bs first b c s).2.1 := by
  unfold plcQ
  split
  · rw [chkR_fst]; exact Nat.le_trans sgnR_mono sgnR_mono
  · split
    · rw [chkR_fst]; exact Nat.le_trans gamR_mono gamR_mono
    · rw [chkR_fst]; exact Nat.le_trans gamR_mono sgnR_mono
theorem plcQ_ok {first : Bool} {b c : Int} (h : (plcQ bs first b c s).2.2 = 0) : validB (plcQ bs first b c s).1.1 (plcQ bs first b c s).1.2 = true := by
  have h1 := plc_same (bs := bs) (first := first) (b := b) (c := c) (s := s)
  rw [← h1.1] at h
  rw [← h1.2 h]; exact plcP_ok h
def RkQ (s : RS) (a : List β × Int × Int) : Prop := a.1.length ≤ s.1 + 1 ∧ (s.2 = 0 → a.1.length ≤ s.1) ∧ (s.2 = 0 → validB a.2.1 a.2.2 = true)
theorem RkQ.nil_ (h : s.1 ≤ bs.length) : RkQ s (([], 0, 0) : List β × Int × Int) := ⟨by simp, fun _ => by simp, fun _ => (by decide : validB 0 0 = true)⟩
theorem RkQ.step {tk : Int → Int → RS → β × RS} (ht : TkM tk) (hk : TkOk bs tk) {i : Nat} {a : List β × Int × Int} (h : RkQ s a) (h0 : s.2 = 0) : RkQ (rndQ bs tk i a s).2 (rndQ bs tk i a s).1 := by
  have h1 := plcQ_mono (bs := bs) (s := s) (first := i == 0) (b := a.2.1) (c := a.2.2)
  have h2 := ht (plcQ bs (i == 0) a.2.1 a.2.2 s).1.1 (plcQ bs (i == 0) a.2.1 a.2.2 s).1.2 (plcQ bs (i == 0) a.2.1 a.2.2 s).2
  have h3 := h.2.1 h0
  unfold rndQ RkQ
  simp only [List.length_append, List.length_singleton]
  refine ⟨by omega, fun k => by have := h2.2 k; omega, fun k => ?_⟩
  refine plcQ_ok ?_
  by_cases k2 : (plcQ bs (i == 0) a.2.1 a.2.2 s).2.2 = 0
  · exact k2
  · rw [hk.2.1 _ _ _ k2] at k; exact absurd k k2
end
end Go.Proofs.YtmenokhnanghgaaGreat
end
