/- The reference's reader of forms: bits, gamma, signed. By mkrfx.py. The reference's reader of forms: place, end, take. By mkrfx.py. The reference's reader of forms: cells. By mkrfx.py. The reference's reader of forms: changes. By mkrfx.py. -/
import Derived.Test.YtmenokhnanghgaaGreatRFR
import Derived.Test.YtmenokhnanghgaaGreatCEL
import Derived.Test.YtmenokhnanghgaaGreatSNH
import Derived.Test.YtmenokhnanghgaaGreatSND
set_option linter.unusedSimpArgs false
set_option linter.unusedVariables false
section
namespace Go.Proofs.YtmenokhnanghgaaGreat
open Go Go.RowKit
set_option maxRecDepth 100000
/-- A reader of the reference's: its block br, the bits' reader bi, the bits, the place and the error. -/
structure RrS (w : World) (br bi : Nat) (A : Option Addr) (n c : Nat) (bs : List Bool) (s : RS) : Prop where
  box : BxW w br [.pointer (some ⟨bi, 0, none⟩), .int .i64 s.2]
  d : RrD w bi A n c bs s.1
  ne : br ≠ bi
  off : 0 < n → ∀ b o, A = some ⟨b, o, none⟩ → b ≠ br
  le : s.1 ≤ n
section
variable {w w' w'' : World} {br bi : Nat} {A : Option Addr} {n c : Nat} {bs : List Bool} {s : RS}
theorem RrS.of (h : RrS w br bi A n c bs s) (hb : Below w.heap.size w w') : RrS w' br bi A n c bs s := ⟨h.box.of hb, h.d.of hb, h.ne, h.off, h.le⟩
theorem RrS.len (h : RrS w br bi A n c bs s) : bs.length = n := h.d.len
theorem RrS.step {p : Nat} {e : Int} (h : RrS w br bi A n c bs s) (hd : RrD w' bi A n c bs p) (hf : Fr2 (fun q => q = bi) w w') (hp : p ≤ n) : RrS (w'.setCell ⟨br, 1, none⟩ (.int .i64 e)) br bi A n c bs (p, e) := by
  have hbl := hf.block br h.box.1 h.ne
  have hb : BxW w' br [.pointer (some ⟨bi, 0, none⟩), .int .i64 s.2] := ⟨Nat.lt_of_lt_of_le h.box.1 hf.size, fun i => (World.cell?_of_block hbl).trans (h.box.2.1 i), fun i => (World.frozen?_of_block hbl).trans (h.box.2.2 i)⟩
  refine ⟨hb.put 1 (.int .i64 e) (by simp), ⟨hd.box.off 1 _ h.ne, ?_, hd.le, hd.off⟩, h.ne, h.off, hp⟩
  refine ⟨hd.rd.1, fun hn => ?_⟩
  obtain ⟨b, o, he, hb1, hc⟩ := hd.rd.2 hn
  refine ⟨b, o, he, by rw [World.size_setCell]; exact hb1, fun i x hi j u hu => ?_⟩
  rw [cell_setCell_if, if_neg (fun k => h.off hn b o he k.1.symm)]
  exact hc i x hi j u hu
theorem RrS.err (h : RrS w br bi A n c bs s) (e : Int) : RrS (w.setCell ⟨br, 1, none⟩ (.int .i64 e)) br bi A n c bs (s.1, e) := h.step (e := e) h.d (Fr2.here _ _) h.le
theorem RrS.fr2 {R : Nat → Prop} (h : RrS w br bi A n c bs s) (hf : Fr2 R w w') (h1 : ¬ R br) (h2 : ¬ R bi) (h3 : 0 < n → ∀ b o, A = some ⟨b, o, none⟩ → ¬ R b) : RrS w' br bi A n c bs s := by
  have hbl := hf.block br h.box.1 h1
  exact ⟨⟨Nat.lt_of_lt_of_le h.box.1 hf.size, fun i => (World.cell?_of_block hbl).trans (h.box.2.1 i), fun i => (World.frozen?_of_block hbl).trans (h.box.2.2 i)⟩, h.d.fr2 hf h2 h3, h.ne, h.off, h.le⟩
/-- What a reader looks at lies below H. -/
structure RrB (H br bi : Nat) (A : Option Addr) (n : Nat) : Prop where
  br : br < H
  bi : bi < H
  a : 0 < n → ∀ b o, A = some ⟨b, o, none⟩ → b < H
theorem RrS.low (h : RrS w br bi A n c bs s) : RrB w.heap.size br bi A n := ⟨h.box.1, h.d.box.1, fun hn b o e => by
  obtain ⟨b', o', e', hb, _⟩ := h.d.rd.2 hn
  rw [e] at e'
  injection e' with e'
  injection e' with e' _
  omega⟩
theorem RrB.mono {H H' : Nat} (h : RrB H br bi A n) (hH : H ≤ H') : RrB H' br bi A n := ⟨Nat.lt_of_lt_of_le h.br hH, Nat.lt_of_lt_of_le h.bi hH, fun h0 b o e => Nat.lt_of_lt_of_le (h.a h0 b o e) hH⟩
theorem RrS.gr {H : Nat} {row : Option Nat} (h : RrS w br bi A n c bs s) (hL : RrB H br bi A n) (hg : w.grownBy w' row) (hr : ∀ q, row = some q → H ≤ q) : RrS w' br bi A n c bs s :=
  h.fr2 ((Fr2.here w (fun q => H ≤ q)).grown hg (fun q e => .inl (hr q e))) (by have := hL.br; omega) (by have := hL.bi; omega) (fun h0 b o e => by have := hL.a h0 b o e; omega)
theorem RB_off {H q : Nat} (hL : RrB H br bi A n) (hq : H ≤ q) : ¬ RB br bi q := by have := hL.br; have := hL.bi; rintro (k | k) <;> omega
end
section
variable (br bi : Nat) (A : Option Addr) (n c : Nat) (bs : List Bool) (s : RS) (w : World)
set_option maxHeartbeats 4000000 in
theorem ref55_Rbits (k : Nat) (h : RrS w br bi A n c bs s) (hk : k ≤ 32) :
    Calls Tryz.prog 61 #[.pointer (some ⟨br, 0, none⟩), .int .i64 (k : Int)] w fun e w' => e = .returned (.int .i64 (bitsR bs k s).1) ∧ RrS w' br bi A n c bs (bitsR bs k s).2 ∧ Fr2 (RB br bi) w w' := by
  obtain ⟨p, er⟩ := s
  have hle := h.le
  have hh := Lib.hid h
  obtain ⟨_, b0, b1, f0, f1⟩ := h.box.open2
  simp only at b1 hle
  by_cases he : er = 0
  · subst he
    have hl2 := bitsR_le (bs := bs) (n := k) (s := (p, 0)) (by rw [h.len]; exact hle)
    rw [h.len] at hl2
    have kB := fun w1 h1 => ref02_RBits bi A n c p k bs w1 h1 hle (by omega)
    have hv := bitsR_val bs k (p, 0) hk
    generalize bitsR bs k (p, 0) = q at kB hl2 hv
    obtain ⟨v, p2, e2⟩ := q
    simp only at kB hl2 hv ⊢
    have e0 : IntKind.i64.wrap v = v := IntWalk.i64_in _ (by omega)
    clear h
    go_enter Tryz.func61, Tryz.ntmps61
    go_wp2_with fail
    go_at_call 101
    refine (kB _ hh.out.d).mono ?_
    rintro e w1 ⟨rfl, hd1, hf1⟩
    have hs1 := Lib.hid (hh.out.step (e := e2) hd1 hf1 hl2)
    have hbl := hf1.block br hh.out.box.1 hh.out.ne
    have b1' := (World.cell?_of_block (a := ⟨br, 1, none⟩) hbl).trans b1
    have f1' := (World.frozen?_of_block (a := ⟨br, 1, none⟩) hbl).trans f1
    have hF := Lib.hid ((Fr2.inR (br := br) hf1).put 1 (.int .i64 e2) (.inl (.inl rfl)))
    clear b0 b1 f0 f1 hbl hd1 hf1 kB
    go_wp2_with fail
    go_ret
    exact ⟨rfl, hs1.out, hF.out⟩
  · have d1 : (er == 0) = false := by simpa using he
    have d2 : (er != 0) = true := by simpa using he
    have hb := bitsR_bad (bs := bs) (n := k) (s := (p, er)) he
    rw [hb]
    clear h hb he
    go_enter Tryz.func61, Tryz.ntmps61
    go_wp2_with fail
    go_ret
    exact ⟨rfl, hh.out, Fr2.here _ _⟩
set_option maxHeartbeats 4000000 in
theorem ref55_Rgamma (h : RrS w br bi A n c bs s) :
    Calls Tryz.prog 62 #[.pointer (some ⟨br, 0, none⟩)] w fun e w' => e = .returned (.int .i64 (gamR bs s).1) ∧ RrS w' br bi A n c bs (gamR bs s).2 ∧ Fr2 (RB br bi) w w' := by
  obtain ⟨p, er⟩ := s
  have hle := h.le
  have hh := Lib.hid h
  obtain ⟨_, b0, b1, f0, f1⟩ := h.box.open2
  simp only at b1 hle
  by_cases he : er = 0
  · subst he
    have hl2 := gamR_le (bs := bs) (s := (p, 0)) (by rw [h.len]; exact hle)
    rw [h.len] at hl2
    have kB := fun w1 h1 => ref02_RGamma bi A n c p bs w1 h1 hle
    generalize gamR bs (p, 0) = q at kB hl2
    obtain ⟨v, p2, e2⟩ := q
    simp only at kB hl2 ⊢
    clear h
    go_enter Tryz.func62, Tryz.ntmps62
    go_wp2_with fail
    go_at_call 102
    refine (kB _ hh.out.d).mono ?_
    rintro e w1 ⟨rfl, hd1, hf1⟩
    have hs1 := Lib.hid (hh.out.step (e := e2) hd1 hf1 hl2)
    have hbl := hf1.block br hh.out.box.1 hh.out.ne
    have b1' := (World.cell?_of_block (a := ⟨br, 1, none⟩) hbl).trans b1
    have f1' := (World.frozen?_of_block (a := ⟨br, 1, none⟩) hbl).trans f1
    have hF := Lib.hid ((Fr2.inR (br := br) hf1).put 1 (.int .i64 e2) (.inl (.inl rfl)))
    clear b0 b1 f0 f1 hbl hd1 hf1 kB
    go_wp2_with fail
    go_ret
    exact ⟨rfl, hs1.out, hF.out⟩
  · have d1 : (er == 0) = false := by simpa using he
    have d2 : (er != 0) = true := by simpa using he
    have hb := gamR_bad (bs := bs) (s := (p, er)) he
    rw [hb]
    clear h hb he
    go_enter Tryz.func62, Tryz.ntmps62
    go_wp2_with fail
    go_ret
    exact ⟨rfl, hh.out, Fr2.here _ _⟩
set_option maxHeartbeats 4000000 in
theorem ref55_Rsigned (h : RrS w br bi A n c bs s) :
    Calls Tryz.prog 121 #[.pointer (some ⟨br, 0, none⟩)] w fun e w' => e = .returned (.int .i64 (sgnR bs s).1) ∧ RrS w' br bi A n c bs (sgnR bs s).2 ∧ Fr2 (RB br bi) w w' := by
  obtain ⟨p, er⟩ := s
  have hle := h.le
  have hh := Lib.hid h
  obtain ⟨_, b0, b1, f0, f1⟩ := h.box.open2
  simp only at b1 hle
  by_cases he : er = 0
  · subst he
    have hl2 := gamR_le (bs := bs) (s := (p, 0)) (by rw [h.len]; exact hle)
    rw [h.len] at hl2
    have kB := fun w1 h1 => ref02_RSigned bi A n c p bs w1 h1 hle
    change (sgnR bs (p, 0)).2.1 ≤ _ at hl2
    generalize sgnR bs (p, 0) = q at kB hl2
    obtain ⟨v, p2, e2⟩ := q
    simp only at kB hl2 ⊢
    clear h
    go_enter Tryz.func121, Tryz.ntmps121
    go_wp2_with fail
    go_at_call 134
    refine (kB _ hh.out.d).mono ?_
    rintro e w1 ⟨rfl, hd1, hf1⟩
    have hs1 := Lib.hid (hh.out.step (e := e2) hd1 hf1 hl2)
    have hbl := hf1.block br hh.out.box.1 hh.out.ne
    have b1' := (World.cell?_of_block (a := ⟨br, 1, none⟩) hbl).trans b1
    have f1' := (World.frozen?_of_block (a := ⟨br, 1, none⟩) hbl).trans f1
    have hF := Lib.hid ((Fr2.inR (br := br) hf1).put 1 (.int .i64 e2) (.inl (.inl rfl)))
    clear b0 b1 f0 f1 hbl hd1 hf1 kB
    go_wp2_with fail
    go_ret
    exact ⟨rfl, hs1.out, hF.out⟩
  · have d1 : (er == 0) = false := by simpa using he
    have d2 : (er != 0) = true := by simpa using he
    have hb := sgnR_bad (bs := bs) (s := (p, er)) he
    rw [hb]
    clear h hb he
    go_enter Tryz.func121, Tryz.ntmps121
    go_wp2_with fail
    go_ret
    exact ⟨rfl, hh.out, Fr2.here _ _⟩
end
end Go.Proofs.YtmenokhnanghgaaGreat
end
section
namespace Go.Proofs.YtmenokhnanghgaaGreat
open Go Go.RowKit
set_option maxRecDepth 100000
section
variable (br bi : Nat) (A : Option Addr) (n c : Nat) (bs : List Bool) (s : RS) (w : World)
set_option maxHeartbeats 16000000 in
theorem ref55_Rplace (first : Bool) (b d : Int) (h : RrS w br bi A n c bs s) (hb : -4194304 ≤ b ∧ b ≤ 4194304) (hd : -4194304 ≤ d ∧ d ≤ 4194304) :
    Calls Tryz.prog 93 #[.pointer (some ⟨br, 0, none⟩), .bool first, .int .i64 b, .int .i64 d] w fun e w' => e = .returned (.tuple #[.int .i64 (plcQ bs first b d s).1.1, .int .i64 (plcQ bs first b d s).1.2]) ∧ RrS w' br bi A n c bs (plcQ bs first b d s).2 ∧ Fr2 (RB br bi) w w' := by
  cases first with
  | true =>
    rw [show plcQ bs true b d s = chkR (sgnR bs s).1 (sgnR bs (sgnR bs s).2).1 (sgnR bs (sgnR bs s).2).2 from rfl]
    have k1 := ref55_Rsigned br bi A n c bs s w h
    generalize sgnR bs s = g1 at k1 ⊢
    obtain ⟨vx, s1⟩ := g1
    have k2 := fun w1 h1 => ref55_Rsigned br bi A n c bs s1 w1 h1
    simp only at k1 k2 ⊢
    generalize sgnR bs s1 = g2 at k2 ⊢
    obtain ⟨vy, s2⟩ := g2
    simp only at k2 ⊢
    clear h
    go_enter Tryz.func93, Tryz.ntmps93
    go_wp2_with fail
    go_at_call 121
    refine k1.mono ?_
    rintro e w1 ⟨rfl, hS1, hF1⟩
    replace hF1 := Lib.hid hF1
    go_wp2_with fail
    go_at_call 121
    refine (k2 _ hS1).mono ?_
    rintro e w2 ⟨rfl, hS2, hF2⟩
    replace hF2 := (hF1.out.then hF2 (fun _ _ e => e))
    clear hS1 hF1 k1 k2
    obtain ⟨p2, er2⟩ := s2
    obtain ⟨_, b0, b1, f0, f1⟩ := hS2.box.open2
    simp only at b1
    replace hS2 := Lib.hid hS2
    replace hF2 := Lib.hid hF2
    by_cases he : er2 = 0
    · subst he
      cases hv : validB vx vy with
      | true =>
        have kV := fun w1 => ref05_PlaceV hv w1
        have hch := Lib.hid (show chkR vx vy (p2, 0) = ((vx, vy), p2, 0) by unfold chkR; rw [hv, if_neg (by simp)])
        clear hv
        go_wp2_with fail
        go_at_call 84
        refine (kV _).mono ?_
        rintro e w9 ⟨rfl, rfl⟩
        go_wp2_with fail
        refine bodyPost_ret (v := .tuple #[.int .i64 vx, .int .i64 vy]) (by simp [results, Tryz.results93, go_sem, *, ↓IntWalk.iteOmega]) rfl ?_
        rw [hch.out]
        exact ⟨rfl, hS2.out, hF2.out⟩
      | false =>
        have kV := fun w1 => ref05_PlaceV hv w1
        have hch := Lib.hid (show chkR vx vy (p2, 0) = ((vx, vy), p2, 3) by unfold chkR; rw [hv, if_pos ⟨rfl, rfl⟩])
        clear hv
        go_wp2_with fail
        go_at_call 84
        refine (kV _).mono ?_
        rintro e w9 ⟨rfl, rfl⟩
        go_wp2_with fail
        refine bodyPost_ret (v := .tuple #[.int .i64 vx, .int .i64 vy]) (by simp [results, Tryz.results93, go_sem, *, ↓IntWalk.iteOmega]) rfl ?_
        rw [hch.out]
        exact ⟨rfl, hS2.out.err 3, hF2.out.put 1 _ (.inl (.inl rfl))⟩
    · have d1 : (er2 == 0) = false := by simpa using he
      have hch := Lib.hid (show chkR vx vy (p2, er2) = ((vx, vy), p2, er2) from chkR_bad he)
      clear he
      go_wp2_with fail
      refine bodyPost_ret (v := .tuple #[.int .i64 vx, .int .i64 vy]) (by simp [results, Tryz.results93, go_sem, *, ↓IntWalk.iteOmega]) rfl ?_
      rw [hch.out]
      exact ⟨rfl, hS2.out, hF2.out⟩
  | false =>
    rw [show plcQ bs false b d s = (if (gamR bs s).2.2 = 0 ∧ (gamR bs s).1 = 0 then chkR (b + 1 + min (gamR bs (gamR bs s).2).1 4194304) (d + min (gamR bs s).1 4194304) (gamR bs (gamR bs s).2).2
      else chkR (sgnR bs (gamR bs s).2).1 (d + min (gamR bs s).1 4194304) (sgnR bs (gamR bs s).2).2) from rfl]
    have k1 := ref55_Rgamma br bi A n c bs s w h
    have hn1 := gamR_nn (bs := bs) (s := s)
    generalize gamR bs s = g1 at k1 hn1 ⊢
    obtain ⟨g, s1⟩ := g1
    simp only at k1 hn1 ⊢
    obtain ⟨vy, hvy⟩ : ∃ vy, vy = d + min g 4194304 := ⟨_, rfl⟩
    have ey : IntKind.i64.wrap (d + min g 4194304) = vy := by rw [hvy]; exact IntWalk.i64_in _ (by omega)
    rw [← hvy]
    clear hvy h
    by_cases hc : s1.2 = 0 ∧ g = 0
    · rw [if_pos hc]
      obtain ⟨hs1, rfl⟩ := hc
      have k2 := fun w1 h1 => ref55_Rgamma br bi A n c bs s1 w1 h1
      have hn2 := gamR_nn (bs := bs) (s := s1)
      generalize gamR bs s1 = g2 at k2 hn2 ⊢
      obtain ⟨g2, s2⟩ := g2
      simp only at k2 hn2 ⊢
      obtain ⟨vx, hvx⟩ : ∃ vx, vx = b + 1 + min g2 4194304 := ⟨_, rfl⟩
      have ex : IntKind.i64.wrap (b + 1 + min g2 4194304) = vx := by rw [hvx]; exact IntWalk.i64_in _ (by omega)
      have ex1 : IntKind.i64.wrap (b + 1) = b + 1 := IntWalk.i64_in _ (by omega)
      rw [← hvx]
      clear hvx
      go_enter Tryz.func93, Tryz.ntmps93
      go_wp2_with fail
      go_at_call 62
      refine k1.mono ?_
      rintro e w1 ⟨rfl, hS1, hF1⟩
      obtain ⟨_, b0, b1, f0, f1⟩ := hS1.box.open2
      rw [hs1] at b1
      replace hF1 := Lib.hid hF1
      go_wp2_with fail
      go_at_call 62
      refine (k2 _ hS1).mono ?_
      rintro e w2 ⟨rfl, hS2, hF2⟩
      replace hF2 := (hF1.out.then hF2 (fun _ _ e => e))
      clear hS1 hF1 k1 k2 b0 b1 f0 f1 hs1
      obtain ⟨p2, er2⟩ := s2
      obtain ⟨_, b0, b1, f0, f1⟩ := hS2.box.open2
      simp only at b1
      replace hS2 := Lib.hid hS2
      replace hF2 := Lib.hid hF2
      by_cases he : er2 = 0
      · subst he
        cases hv : validB vx vy with
        | true =>
          have kV := fun w1 => ref05_PlaceV hv w1
          have hch := Lib.hid (show chkR vx vy (p2, 0) = ((vx, vy), p2, 0) by unfold chkR; rw [hv, if_neg (by simp)])
          clear hv
          go_wp2_with fail
          go_at_call 84
          refine (kV _).mono ?_
          rintro e w9 ⟨rfl, rfl⟩
          go_wp2_with fail
          refine bodyPost_ret (v := .tuple #[.int .i64 vx, .int .i64 vy]) (by simp [results, Tryz.results93, go_sem, *, ↓IntWalk.iteOmega]) rfl ?_
          rw [hch.out]
          exact ⟨rfl, hS2.out, hF2.out⟩
        | false =>
          have kV := fun w1 => ref05_PlaceV hv w1
          have hch := Lib.hid (show chkR vx vy (p2, 0) = ((vx, vy), p2, 3) by unfold chkR; rw [hv, if_pos ⟨rfl, rfl⟩])
          clear hv
          go_wp2_with fail
          go_at_call 84
          refine (kV _).mono ?_
          rintro e w9 ⟨rfl, rfl⟩
          go_wp2_with fail
          refine bodyPost_ret (v := .tuple #[.int .i64 vx, .int .i64 vy]) (by simp [results, Tryz.results93, go_sem, *, ↓IntWalk.iteOmega]) rfl ?_
          rw [hch.out]
          exact ⟨rfl, hS2.out.err 3, hF2.out.put 1 _ (.inl (.inl rfl))⟩
      · have d1 : (er2 == 0) = false := by simpa using he
        have hch := Lib.hid (show chkR vx vy (p2, er2) = ((vx, vy), p2, er2) from chkR_bad he)
        clear he
        go_wp2_with fail
        refine bodyPost_ret (v := .tuple #[.int .i64 vx, .int .i64 vy]) (by simp [results, Tryz.results93, go_sem, *, ↓IntWalk.iteOmega]) rfl ?_
        rw [hch.out]
        exact ⟨rfl, hS2.out, hF2.out⟩
    · rw [if_neg hc]
      have k2 := fun w1 h1 => ref55_Rsigned br bi A n c bs s1 w1 h1
      generalize sgnR bs s1 = g2 at k2 ⊢
      obtain ⟨vx, s2⟩ := g2
      simp only at k2 ⊢
      go_enter Tryz.func93, Tryz.ntmps93
      go_wp2_with fail
      go_at_call 62
      refine k1.mono ?_
      rintro e w1 ⟨rfl, hS1, hF1⟩
      obtain ⟨_, b0, b1, f0, f1⟩ := hS1.box.open2
      replace hF1 := Lib.hid hF1
      by_cases hs1 : s1.2 = 0
      · have dg : (g == 0) = false := by simp only [beq_eq_false_iff_ne, ne_eq]; exact fun e => hc ⟨hs1, e⟩
        rw [hs1] at b1
        clear hc
        go_wp2_with fail
        go_at_call 121
        refine (k2 _ hS1).mono ?_
        rintro e w2 ⟨rfl, hS2, hF2⟩
        replace hF2 := (hF1.out.then hF2 (fun _ _ e => e))
        clear hS1 hF1 k1 k2 b0 b1 f0 f1 hs1
        obtain ⟨p2, er2⟩ := s2
        obtain ⟨_, b0, b1, f0, f1⟩ := hS2.box.open2
        simp only at b1
        replace hS2 := Lib.hid hS2
        replace hF2 := Lib.hid hF2
        by_cases he : er2 = 0
        · subst he
          cases hv : validB vx vy with
          | true =>
            have kV := fun w1 => ref05_PlaceV hv w1
            have hch := Lib.hid (show chkR vx vy (p2, 0) = ((vx, vy), p2, 0) by unfold chkR; rw [hv, if_neg (by simp)])
            clear hv
            go_wp2_with fail
            go_at_call 84
            refine (kV _).mono ?_
            rintro e w9 ⟨rfl, rfl⟩
            go_wp2_with fail
            refine bodyPost_ret (v := .tuple #[.int .i64 vx, .int .i64 vy]) (by simp [results, Tryz.results93, go_sem, *, ↓IntWalk.iteOmega]) rfl ?_
            rw [hch.out]
            exact ⟨rfl, hS2.out, hF2.out⟩
          | false =>
            have kV := fun w1 => ref05_PlaceV hv w1
            have hch := Lib.hid (show chkR vx vy (p2, 0) = ((vx, vy), p2, 3) by unfold chkR; rw [hv, if_pos ⟨rfl, rfl⟩])
            clear hv
            go_wp2_with fail
            go_at_call 84
            refine (kV _).mono ?_
            rintro e w9 ⟨rfl, rfl⟩
            go_wp2_with fail
            refine bodyPost_ret (v := .tuple #[.int .i64 vx, .int .i64 vy]) (by simp [results, Tryz.results93, go_sem, *, ↓IntWalk.iteOmega]) rfl ?_
            rw [hch.out]
            exact ⟨rfl, hS2.out.err 3, hF2.out.put 1 _ (.inl (.inl rfl))⟩
        · have d1 : (er2 == 0) = false := by simpa using he
          have hch := Lib.hid (show chkR vx vy (p2, er2) = ((vx, vy), p2, er2) from chkR_bad he)
          clear he
          go_wp2_with fail
          refine bodyPost_ret (v := .tuple #[.int .i64 vx, .int .i64 vy]) (by simp [results, Tryz.results93, go_sem, *, ↓IntWalk.iteOmega]) rfl ?_
          rw [hch.out]
          exact ⟨rfl, hS2.out, hF2.out⟩
      · have ds : (s1.2 == 0) = false := by simpa using hs1
        clear hc
        go_wp2_with fail
        go_at_call 121
        refine (k2 _ hS1).mono ?_
        rintro e w2 ⟨rfl, hS2, hF2⟩
        replace hF2 := (hF1.out.then hF2 (fun _ _ e => e))
        clear hS1 hF1 k1 k2 b0 b1 f0 f1 hs1
        obtain ⟨p2, er2⟩ := s2
        obtain ⟨_, b0, b1, f0, f1⟩ := hS2.box.open2
        simp only at b1
        replace hS2 := Lib.hid hS2
        replace hF2 := Lib.hid hF2
        by_cases he : er2 = 0
        · subst he
          cases hv : validB vx vy with
          | true =>
            have kV := fun w1 => ref05_PlaceV hv w1
            have hch := Lib.hid (show chkR vx vy (p2, 0) = ((vx, vy), p2, 0) by unfold chkR; rw [hv, if_neg (by simp)])
            clear hv
            go_wp2_with fail
            go_at_call 84
            refine (kV _).mono ?_
            rintro e w9 ⟨rfl, rfl⟩
            go_wp2_with fail
            refine bodyPost_ret (v := .tuple #[.int .i64 vx, .int .i64 vy]) (by simp [results, Tryz.results93, go_sem, *, ↓IntWalk.iteOmega]) rfl ?_
            rw [hch.out]
            exact ⟨rfl, hS2.out, hF2.out⟩
          | false =>
            have kV := fun w1 => ref05_PlaceV hv w1
            have hch := Lib.hid (show chkR vx vy (p2, 0) = ((vx, vy), p2, 3) by unfold chkR; rw [hv, if_pos ⟨rfl, rfl⟩])
            clear hv
            go_wp2_with fail
            go_at_call 84
            refine (kV _).mono ?_
            rintro e w9 ⟨rfl, rfl⟩
            go_wp2_with fail
            refine bodyPost_ret (v := .tuple #[.int .i64 vx, .int .i64 vy]) (by simp [results, Tryz.results93, go_sem, *, ↓IntWalk.iteOmega]) rfl ?_
            rw [hch.out]
            exact ⟨rfl, hS2.out.err 3, hF2.out.put 1 _ (.inl (.inl rfl))⟩
        · have d1 : (er2 == 0) = false := by simpa using he
          have hch := Lib.hid (show chkR vx vy (p2, er2) = ((vx, vy), p2, er2) from chkR_bad he)
          clear he
          go_wp2_with fail
          refine bodyPost_ret (v := .tuple #[.int .i64 vx, .int .i64 vy]) (by simp [results, Tryz.results93, go_sem, *, ↓IntWalk.iteOmega]) rfl ?_
          rw [hch.out]
          exact ⟨rfl, hS2.out, hF2.out⟩
set_option maxHeartbeats 8000000 in
theorem ref55_Rend (r : Bool) (h : RrS w br bi A n c bs s) :
    Calls Tryz.prog 48 #[.pointer (some ⟨br, 0, none⟩), .bool r] w fun e w' => e = .returned (.int .i64 (cloR bs s r)) ∧ Below w.heap.size w w' := by
  obtain ⟨p, er⟩ := s
  have hle := h.le
  obtain ⟨_, b0, b1, f0, f1⟩ := h.box.open2
  simp only at b1 hle
  by_cases he : er = 0
  · subst he
    have kE := ref02_REnd bi A n c p bs w h.d hle
    cases hend : endR bs (p, 0) with
    | false =>
      rw [cloR_end rfl hend]
      rw [hend] at kE
      clear h hend
      go_enter Tryz.func48, Tryz.ntmps48
      go_wp2_with fail
      go_at_call 94
      refine kE.mono ?_
      rintro e w1 ⟨rfl, hb1⟩
      replace hb1 := Lib.hid hb1
      go_wp2_with fail
      go_ret
      exact ⟨rfl, hb1.out⟩
    | true =>
      rw [hend] at kE
      cases r with
      | true =>
        rw [cloR_y rfl hend]
        clear h hend
        go_enter Tryz.func48, Tryz.ntmps48
        go_wp2_with fail
        go_at_call 94
        refine kE.mono ?_
        rintro e w1 ⟨rfl, hb1⟩
        replace hb1 := Lib.hid hb1
        go_wp2_with fail
        go_ret
        exact ⟨rfl, hb1.out⟩
      | false =>
        rw [cloR_no rfl]
        clear h hend
        go_enter Tryz.func48, Tryz.ntmps48
        go_wp2_with fail
        go_at_call 94
        refine kE.mono ?_
        rintro e w1 ⟨rfl, hb1⟩
        replace hb1 := Lib.hid hb1
        go_wp2_with fail
        go_ret
        exact ⟨rfl, hb1.out⟩
  · have d1 : (er != 0) = true := by simpa using he
    rw [cloR_bad (r := r) (show ((p, er) : RS).2 ≠ 0 from he)]
    clear h he
    go_enter Tryz.func48, Tryz.ntmps48
    go_wp2_with fail
    go_ret
    exact ⟨rfl, Below.refl _ _⟩
end
set_option maxHeartbeats 8000000 in
theorem ref55_take (k : Nat) (A : Option Addr) (n c : Nat) (l : List Int) (w : World) (hR : Rd encU 1 w A n l) (hl : ByL l) (hn : n ≤ 65536) (hk : k < 16) :
    Calls Tryz.prog 46 #[.slice A n c, .int .i64 (k : Int)] w fun e w' => ∃ br bi A' k' c', e = .returned (.pointer (some ⟨br, 0, none⟩)) ∧ RrS w' br bi A' k' c' (unB l) (opnR (unB l) (k : Int)) ∧ w.heap.size ≤ br ∧ w.heap.size ≤ bi ∧ Below w.heap.size w w' := by
  have kN := ref02_NewReader A n c l w hR hl hn
  clear hR
  go_enter Tryz.func46, Tryz.ntmps46
  go_wp2_with fail
  go_at_call 92
  refine kN.mono ?_
  rintro e w1 ⟨bi, A1, k1, c1, rfl, hd1, hbi, hb1⟩
  have hz1 := hb1.size
  have hbis := hd1.box.1
  have hlow : 0 < k1 → ∀ b o, A1 = some ⟨b, o, none⟩ → b < w1.heap.size := by
    intro h0 b o e
    obtain ⟨b', o', e', hb, _⟩ := hd1.rd.2 h0
    rw [e] at e'
    injection e' with e'
    injection e' with e' _
    omega
  go_upto_region 3 with (fail)
  obtain ⟨w2, hw2⟩ : ∃ w2, w2 = w1.alloc (.cells #[.pointer (some ⟨bi, 0, none⟩), .int .i64 0] 105) := ⟨_, rfl⟩
  have hb2 : Below w1.heap.size w1 w2 := by rw [hw2]; exact (Below.refl _ _).alloc (Nat.le_refl _) _
  have hS : RrS w2 w1.heap.size bi A1 k1 c1 (unB l) (0, 0) := ⟨by rw [hw2]; exact BxW.new w1 [.pointer (some ⟨bi, 0, none⟩), .int .i64 0] _, hd1.of hb2, by omega, fun h0 b o e => by have := hlow h0 b o e; omega, by simp⟩
  rw [← hw2]
  have hz2 := hb2.size
  clear hw2
  replace hS := Lib.hid hS
  go_wp2_with fail
  go_at_call 61
  refine (ref55_Rbits w1.heap.size bi A1 k1 c1 (unB l) (0, 0) _ 4 hS.out (by omega)).mono ?_
  rintro e w3 ⟨rfl, hS3, hf3⟩
  have hb3 := Lib.hid (hf3.below (B := w.heap.size) (by omega) (fun q hq => by rcases hq with rfl | rfl <;> omega))
  replace hS3 := Lib.hid hS3
  clear hf3
  go_wp2_with fail
  go_at_call 61
  refine (ref55_Rbits w1.heap.size bi A1 k1 c1 (unB l) _ _ 4 hS3.out (by omega)).mono ?_
  rintro e w4 ⟨rfl, hS4, hf4⟩
  have hb4 := Lib.hid (hf4.below (B := w.heap.size) (by have := hb3.out.size; omega) (fun q hq => by rcases hq with rfl | rfl <;> omega))
  have hB := Lib.hid (((hb1.trans (hb2.mono (by omega))).trans hb3.out).trans hb4.out)
  have ho : opnR (unB l) (k : Int) = if (bitsR (unB l) 4 (bitsR (unB l) 4 (0, 0)).2).2.2 = 0 ∧ ¬ ((bitsR (unB l) 4 (0, 0)).1 = k ∧ (bitsR (unB l) 4 (bitsR (unB l) 4 (0, 0)).2).1 = 1) then ((bitsR (unB l) 4 (bitsR (unB l) 4 (0, 0)).2).2.1, 3) else (bitsR (unB l) 4 (bitsR (unB l) 4 (0, 0)).2).2 := rfl
  replace ho := Lib.hid ho
  obtain ⟨g2, hg2⟩ : ∃ g2, g2 = bitsR (unB l) 4 (bitsR (unB l) 4 (0, 0)).2 := ⟨_, rfl⟩
  obtain ⟨g1, hg1⟩ : ∃ g1, g1 = bitsR (unB l) 4 (0, 0) := ⟨_, rfl⟩
  rw [← hg2] at hS4 ho
  rw [← hg1] at ho
  have hv1 := congrArg Prod.fst hg1
  have hv2 := congrArg Prod.fst hg2
  rw [← hv1, ← hv2]
  clear hg1 hg2 hv1 hv2 hf4
  obtain ⟨v1, s1⟩ := g1
  obtain ⟨v2, p2, e2⟩ := g2
  simp only at ho hS4
  obtain ⟨_, b0, b1, f0, f1⟩ := hS4.box.open2
  simp only at b1
  by_cases hs : e2 = 0
  · subst hs
    by_cases hc1 : v1 = (k : Int)
    · subst hc1
      by_cases hc2 : v2 = 1
      · subst hc2
        rw [if_neg (by simp)] at ho
        have hSf := Lib.hid hS4
        dsimp only
        go_wp2_with fail
        go_ret
        exact ⟨_, bi, A1, k1, c1, rfl, by rw [ho.out]; exact hSf.out, hz1, hbi, hB.out⟩
      · have d2 : (v2 == 1) = false := by simpa using hc2
        have d2' : (v2 != 1) = true := by simpa using hc2
        rw [if_pos ⟨rfl, fun k => hc2 k.2⟩] at ho
        have hSf := Lib.hid (hS4.err 3)
        dsimp only
        go_wp2_with fail
        go_ret
        exact ⟨w1.heap.size, rfl, bi, ⟨A1, k1, c1, by rw [ho.out]; exact hSf.out⟩, hz1, hbi, hB.out.setCell hz1 _⟩
    · have d2 : (v1 == (k : Int)) = false := by simpa using hc1
      have d2' : (v1 != (k : Int)) = true := by simpa using hc1
      rw [if_pos ⟨rfl, fun k => hc1 k.1⟩] at ho
      have hSf := Lib.hid (hS4.err 3)
      dsimp only
      go_wp2_with fail
      go_ret
      exact ⟨w1.heap.size, rfl, bi, ⟨A1, k1, c1, by rw [ho.out]; exact hSf.out⟩, hz1, hbi, hB.out.setCell hz1 _⟩
  · have d2 : (e2 == 0) = false := by simpa using hs
    rw [if_neg (fun k => hs k.1)] at ho
    have hSf := Lib.hid hS4
    dsimp only
    go_wp2_with fail
    go_ret
    exact ⟨_, bi, A1, k1, c1, rfl, by rw [ho.out]; exact hSf.out, hz1, hbi, hB.out⟩
end Go.Proofs.YtmenokhnanghgaaGreat
end
section
namespace Go.Proofs.YtmenokhnanghgaaGreat
open Go Go.RowKit
set_option maxRecDepth 100000
section
variable {bs : List Bool} {s : RS} {β : Type}
theorem plcQ_mono {first : Bool} {b c : Int} : s.1 ≤ (plcQ bs first b c s).2.1 := by
  unfold plcQ
  split
  · rw [chkR_fst]; exact Nat.le_trans sgnR_mono sgnR_mono
  · split
    · rw [chkR_fst]; exact Nat.le_trans gamR_mono gamR_mono
    · rw [chkR_fst]; exact Nat.le_trans gamR_mono sgnR_mono
theorem plcQ_ok {first : Bool} {b c : Int} (h : (plcQ bs first b c s).2.2 = 0) : validB (plcQ bs first b c s).1.1 (plcQ bs first b c s).1.2 = true := by
  have h1 := plc_same (bs := bs) (first := first) (b := b) (c := c) (s := s)
  rw [← h1.1] at h
  rw [← h1.2 h]; exact plcP_ok h
def RkQ (s : RS) (a : List β × Int × Int) : Prop := a.1.length ≤ s.1 + 1 ∧ (s.2 = 0 → a.1.length ≤ s.1) ∧ (s.2 = 0 → validB a.2.1 a.2.2 = true)
theorem RkQ.nil_ (h : s.1 ≤ bs.length) : RkQ s (([], 0, 0) : List β × Int × Int) := ⟨by simp, fun _ => by simp, fun _ => (by decide : validB 0 0 = true)⟩
theorem RkQ.step {tk : Int → Int → RS → β × RS} (ht : TkM tk) (hk : TkOk bs tk) {i : Nat} {a : List β × Int × Int} (h : RkQ s a) (h0 : s.2 = 0) : RkQ (rndQ bs tk i a s).2 (rndQ bs tk i a s).1 := by
  have h1 := plcQ_mono (bs := bs) (s := s) (first := i == 0) (b := a.2.1) (c := a.2.2)
  have h2 := ht (plcQ bs (i == 0) a.2.1 a.2.2 s).1.1 (plcQ bs (i == 0) a.2.1 a.2.2 s).1.2 (plcQ bs (i == 0) a.2.1 a.2.2 s).2
  have h3 := h.2.1 h0
  unfold rndQ RkQ
  simp only [List.length_append, List.length_singleton]
  refine ⟨by omega, fun k => by have := h2.2 k; omega, fun k => ?_⟩
  refine plcQ_ok ?_
  by_cases k2 : (plcQ bs (i == 0) a.2.1 a.2.2 s).2.2 = 0
  · exact k2
  · rw [hk.2.1 _ _ _ k2] at k; exact absurd k k2
end
set_option maxHeartbeats 16000000 in
theorem ref55_Rcells (br bi : Nat) (A : Option Addr) (n c : Nat) (bs : List Bool) (s : RS) (w : World) (h : RrS w br bi A n c bs s) :
    Calls Tryz.prog 47 #[.pointer (some ⟨br, 0, none⟩)] w fun e w' => ∃ A' n' c', e = .returned (.slice A' n' c') ∧ Own encC 3 63 w.heap.size w' A' n' c' (clsQ bs (tkC bs) s).1.1 ∧ n' ≤ 1000000 ∧ RrS w' br bi A n c bs (clsQ bs (tkC bs) s).2 ∧ Fr2 (RB br bi) w w' := by
  have hL := h.low
  have hlen := Lib.hid h.len
  have hn5 := h.d.le
  rw [show clsQ bs (tkC bs) s = lpR (rndQ bs (tkC bs)) (gamR bs s).1.toNat 0 ([], 0, 0) (gamR bs s).2 from rfl]
  have k0 := ref55_Rgamma br bi A n c bs s w h
  have hnn := gamR_nn (bs := bs) (s := s)
  have hg2 := gamR_le (bs := bs) (s := s) (by rw [h.len]; exact h.le)
  generalize gamR bs s = g at k0 hnn hg2 ⊢
  obtain ⟨gn, s1⟩ := g
  simp only at k0 hnn hg2 ⊢
  obtain ⟨N, rfl⟩ : ∃ N : Nat, gn = (N : Int) := ⟨gn.toNat, by omega⟩
  rw [Int.toNat_natCast]
  have hN : N ≤ 9223372036854775807 := by omega
  obtain ⟨R, hR⟩ : ∃ R, R = lpR (rndQ bs (tkC bs)) N 0 ([], 0, 0) s1 := ⟨_, rfl⟩
  rw [← hR]
  have hkeep := RkQ.nil_ (β := Cel) hg2
  replace hR := Lib.hid hR
  clear h hnn hg2
  go_enter Tryz.func47, Tryz.ntmps47
  go_wp2_with fail
  go_at_call 62
  refine k0.mono ?_
  rintro e w1 ⟨rfl, hS1, hF1⟩
  clear k0
  have hz1 := hF1.size
  go_wp2_with fail
  go_loopw [4, 5, 6, 7] (fun vp vx vy vi wr => ∃ (j : Nat) (l : List Cel) (x y : Int) (s2 : RS) (A1 : Option Addr) (n1 c1 : Nat), vi = .int .i64 j ∧ vp = .slice A1 n1 c1 ∧ vx = .int .i64 x ∧ vy = .int .i64 y ∧ j ≤ N ∧ Hid (R = lpR (rndQ bs (tkC bs)) (N - j) j (l, x, y) s2) ∧ Hid (RkQ s2 (l, x, y)) ∧ Own encC 3 63 w.heap.size wr A1 n1 c1 l ∧ RrS wr br bi A n c bs s2 ∧ Fr2 (RB br bi) w wr) (fun vp vx vy vi _ => N - (intOf vi).toNat)
  case atStart => exact ⟨0, [], 0, 0, s1, none, 0, 0, rfl, rfl, rfl, rfl, by omega, hR, Lib.hid hkeep, Own.nil_, hS1, hF1⟩
  case round =>
    clear hS1 hF1 hz1 hkeep hR
    obtain ⟨j, l, x, y, s2, A1, n1, c1, rfl, rfl, rfl, rfl, hj, hR, hK, hO, hS, hF⟩ := hrel
    have hz := hF.size
    obtain ⟨hbs, b0, b1, f0, f1⟩ := hS.box.open2
    have hl1 := hO.len
    have hsl := hS.le
    have hk1 := hK.out.1
    simp only at hk1
    by_cases hlt : j < N
    · have dj : decide ((j : Int) < N) = true := decide_eq_true (by omega)
      have dj' : decide (j < N) = true := decide_eq_true hlt
      by_cases he : s2.2 = 0
      · have hst := Lib.hid (hR.out.trans (lpR_step hlt he))
        have hkst := Lib.hid (RkQ.step (bs := bs) (tkC_m bs) (tkC_ok bs) (i := j) hK.out he)
        have hv := hK.out.2.2 he
        unfold validB at hv
        rw [decide_eq_true_eq] at hv
        simp only at hv
        have hk2 := hK.out.2.1 he
        simp only at hk2
        have d0 : ((j : Int) == 0) = (j == 0) := by cases j <;> simp; omega
        rw [he] at b1
        have e1 : IntKind.i64.wrap ((j : Int) + 1) = ((j + 1 : Nat) : Int) := IntWalk.i64_in _ (by omega)
        have er : rndQ bs (tkC bs) j (l, x, y) s2 = ((l ++ [(tkC bs (plcQ bs (j == 0) x y s2).1.1 (plcQ bs (j == 0) x y s2).1.2 (plcQ bs (j == 0) x y s2).2).1], (plcQ bs (j == 0) x y s2).1), (tkC bs (plcQ bs (j == 0) x y s2).1.1 (plcQ bs (j == 0) x y s2).1.2 (plcQ bs (j == 0) x y s2).2).2) := rfl
        rw [er] at hst hkst
        clear er
        have kP := fun w1 h1 => ref55_Rplace br bi A n c bs s2 w1 (j == 0) x y h1 (by omega) (by omega)
        generalize plcQ bs (j == 0) x y s2 = gp at kP hst hkst
        obtain ⟨⟨px, py⟩, s3⟩ := gp
        unfold tkC at hst hkst
        simp only at kP hst hkst
        have kB := fun w1 h1 => ref55_Rbits br bi A n c bs s3 w1 3 h1 (by omega)
        generalize bitsR bs 3 s3 = gb at kB hst hkst
        obtain ⟨v, s4⟩ := gb
        simp only at kB hst hkst
        generalize hfj : (j == 0) = fj at d0 kP
        have hOh := Lib.hid hO
        replace hF := Lib.hid hF
        clear hv hK hR hO hfj he
        go_wp2_with fail
        go_at_call 93
        refine (kP _ hS).mono ?_
        rintro e w3 ⟨rfl, hS3, hF3⟩
        replace hF3 := Lib.hid hF3
        clear b0 b1 f0 f1 hS kP
        go_wp2_with fail
        go_at_call 61
        refine (kB _ hS3).mono ?_
        rintro e w4 ⟨rfl, hS4, hF4⟩
        replace hF4 := Lib.hid (hF3.out.then hF4 (fun _ _ e => e))
        clear hS3 kB
        have hz4 := hF4.out.size
        have hO4 := Lib.hid (hOh.out.fr2 hF4.out (fun q hq => RB_off hL (hOh.out.row.lt q hq).1))
        replace hS4 := Lib.hid hS4
        clear hOh
        go_wp2_with (at_builtin; refine wpList_append_el rfl (.tmp 38) (.tmp 43) 23 rfl encC 3 63 (.agg #[.int .i64 0, .int .i64 0, .int .i64 0]) 24 Tryz.underlying23 (by kernel_rfl) rfl (by decide) encC_len encC_one (w.heap.size) _ _ _ _ rfl (hO4.out.alloc _) (px, py, v) ⟨(w4).heap.size, 0, none⟩ 1 rfl (cells_new (w4) _ _) (by omega) (by omega) (by first | omega | (simp; done) | (simp; omega)) ?_; intro A7 c7 w7 hown7 hg7 hb7; obtain ⟨hc7, hf7⟩ := bcell hb7; have hs7 := hb7.size; (try simp only [World.size_alloc, World.size_setCell, World.size_drew] at hc7 hf7); (try simp at hs7))
        have hrow : ∀ q, (Value.slice A1 n1 c1).ownBlock = some q → w.heap.size ≤ q := fun q hq => (hO4.out.row.lt q hq).1
        have hal : Below w4.heap.size w4 (w4.alloc (.cells (encC (px, py, v)).toArray 63)) := (Below.refl _ _).alloc (Nat.le_refl _) _
        have hS7 := Lib.hid ((hS4.out.of hal).gr hL hg7 hrow)
        have hF7 := Lib.hid (((hF.out.then hF4.out (fun _ _ e => e)).of hal).grown hg7 (fun q e => .inr (hrow q e)))
        go_roundw
        case rel => exact ⟨j + 1, _, px, py, s4, A7, n1 + 1, c7, by go_num, rfl, rfl, rfl, by omega, hst, hkst, hown7, hS7.out, hF7.out⟩
        case measure => simp [intOf]; omega
      · have d1 : (s2.2 == 0) = false := by simpa using he
        have hfin := Lib.hid (hR.out.trans (lpR_bad he))
        replace hO := Lib.hid hO
        replace hS := Lib.hid hS
        replace hF := Lib.hid hF
        clear he hK hR
        go_wp2_with fail
        go_ret
        exact ⟨A1, n1, c1, rfl, by rw [hfin.out]; exact hO.out, by omega, by rw [hfin.out]; exact hS.out, hF.out⟩
    · obtain rfl : j = N := by omega
      have dj : decide ((j : Int) < j) = false := decide_eq_false (by omega)
      have dj' : decide (j < j) = false := decide_eq_false (by omega)
      have hfin := Lib.hid (hR.out.trans (lpR_done (Nat.le_refl _)))
      replace hO := Lib.hid hO
      replace hS := Lib.hid hS
      replace hF := Lib.hid hF
      clear hK hR
      go_wp2_with fail
      go_ret
      exact ⟨A1, n1, c1, rfl, by rw [hfin.out]; exact hO.out, by omega, by rw [hfin.out]; exact hS.out, hF.out⟩
end Go.Proofs.YtmenokhnanghgaaGreat
end
section
namespace Go.Proofs.YtmenokhnanghgaaGreat
open Go Go.RowKit
set_option maxRecDepth 100000
set_option maxHeartbeats 16000000 in
theorem ref55_Rchanges (br bi : Nat) (A : Option Addr) (n c : Nat) (bs : List Bool) (s : RS) (w : World) (h : RrS w br bi A n c bs s) :
    Calls Tryz.prog 74 #[.pointer (some ⟨br, 0, none⟩)] w fun e w' => ∃ A' n' c', e = .returned (.slice A' n' c') ∧ Own encG 4 74 w.heap.size w' A' n' c' (clsQ bs (tkG bs) s).1.1 ∧ n' ≤ 1000000 ∧ RrS w' br bi A n c bs (clsQ bs (tkG bs) s).2 ∧ Fr2 (RB br bi) w w' := by
  have hL := h.low
  have hlen := Lib.hid h.len
  have hn5 := h.d.le
  rw [show clsQ bs (tkG bs) s = lpR (rndQ bs (tkG bs)) (gamR bs s).1.toNat 0 ([], 0, 0) (gamR bs s).2 from rfl]
  have k0 := ref55_Rgamma br bi A n c bs s w h
  have hnn := gamR_nn (bs := bs) (s := s)
  have hg2 := gamR_le (bs := bs) (s := s) (by rw [h.len]; exact h.le)
  generalize gamR bs s = g at k0 hnn hg2 ⊢
  obtain ⟨gn, s1⟩ := g
  simp only at k0 hnn hg2 ⊢
  obtain ⟨N, rfl⟩ : ∃ N : Nat, gn = (N : Int) := ⟨gn.toNat, by omega⟩
  rw [Int.toNat_natCast]
  have hN : N ≤ 9223372036854775807 := by omega
  obtain ⟨R, hR⟩ : ∃ R, R = lpR (rndQ bs (tkG bs)) N 0 ([], 0, 0) s1 := ⟨_, rfl⟩
  rw [← hR]
  have hkeep := RkQ.nil_ (β := Chg) hg2
  replace hR := Lib.hid hR
  clear h hnn hg2
  go_enter Tryz.func74, Tryz.ntmps74
  go_wp2_with fail
  go_at_call 62
  refine k0.mono ?_
  rintro e w1 ⟨rfl, hS1, hF1⟩
  clear k0
  have hz1 := hF1.size
  go_wp2_with fail
  go_loopw [4, 5, 6, 7] (fun vp vx vy vi wr => ∃ (j : Nat) (l : List Chg) (x y : Int) (s2 : RS) (A1 : Option Addr) (n1 c1 : Nat), vi = .int .i64 j ∧ vp = .slice A1 n1 c1 ∧ vx = .int .i64 x ∧ vy = .int .i64 y ∧ j ≤ N ∧ Hid (R = lpR (rndQ bs (tkG bs)) (N - j) j (l, x, y) s2) ∧ Hid (RkQ s2 (l, x, y)) ∧ Own encG 4 74 w.heap.size wr A1 n1 c1 l ∧ RrS wr br bi A n c bs s2 ∧ Fr2 (RB br bi) w wr) (fun vp vx vy vi _ => N - (intOf vi).toNat)
  case atStart => exact ⟨0, [], 0, 0, s1, none, 0, 0, rfl, rfl, rfl, rfl, by omega, hR, Lib.hid hkeep, Own.nil_, hS1, hF1⟩
  case round =>
    clear hS1 hF1 hz1 hkeep hR
    obtain ⟨j, l, x, y, s2, A1, n1, c1, rfl, rfl, rfl, rfl, hj, hR, hK, hO, hS, hF⟩ := hrel
    have hz := hF.size
    obtain ⟨hbs, b0, b1, f0, f1⟩ := hS.box.open2
    have hl1 := hO.len
    have hsl := hS.le
    have hk1 := hK.out.1
    simp only at hk1
    by_cases hlt : j < N
    · have dj : decide ((j : Int) < N) = true := decide_eq_true (by omega)
      have dj' : decide (j < N) = true := decide_eq_true hlt
      by_cases he : s2.2 = 0
      · have hst := Lib.hid (hR.out.trans (lpR_step hlt he))
        have hkst := Lib.hid (RkQ.step (bs := bs) (tkG_m bs) (tkG_ok bs) (i := j) hK.out he)
        have hv := hK.out.2.2 he
        unfold validB at hv
        rw [decide_eq_true_eq] at hv
        simp only at hv
        have hk2 := hK.out.2.1 he
        simp only at hk2
        have d0 : ((j : Int) == 0) = (j == 0) := by cases j <;> simp; omega
        rw [he] at b1
        have e1 : IntKind.i64.wrap ((j : Int) + 1) = ((j + 1 : Nat) : Int) := IntWalk.i64_in _ (by omega)
        have er : rndQ bs (tkG bs) j (l, x, y) s2 = ((l ++ [(tkG bs (plcQ bs (j == 0) x y s2).1.1 (plcQ bs (j == 0) x y s2).1.2 (plcQ bs (j == 0) x y s2).2).1], (plcQ bs (j == 0) x y s2).1), (tkG bs (plcQ bs (j == 0) x y s2).1.1 (plcQ bs (j == 0) x y s2).1.2 (plcQ bs (j == 0) x y s2).2).2) := rfl
        rw [er] at hst hkst
        clear er
        have kP := fun w1 h1 => ref55_Rplace br bi A n c bs s2 w1 (j == 0) x y h1 (by omega) (by omega)
        generalize plcQ bs (j == 0) x y s2 = gp at kP hst hkst
        obtain ⟨⟨px, py⟩, s3⟩ := gp
        unfold tkG at hst hkst
        simp only at kP hst hkst
        have kB := fun w1 h1 => ref55_Rbits br bi A n c bs s3 w1 3 h1 (by omega)
        generalize bitsR bs 3 s3 = gb at kB hst hkst
        obtain ⟨v, s4⟩ := gb
        simp only at kB hst hkst
        have kC := fun w1 h1 => ref55_Rbits br bi A n c bs s4 w1 3 h1 (by omega)
        generalize bitsR bs 3 s4 = gc at kC hst hkst
        obtain ⟨v2, s5⟩ := gc
        simp only at kC hst hkst
        generalize hfj : (j == 0) = fj at d0 kP
        have hOh := Lib.hid hO
        replace hF := Lib.hid hF
        clear hv hK hR hO hfj he
        go_wp2_with fail
        go_at_call 93
        refine (kP _ hS).mono ?_
        rintro e w3 ⟨rfl, hS3, hF3⟩
        replace hF3 := Lib.hid hF3
        clear b0 b1 f0 f1 hS kP
        go_wp2_with fail
        go_at_call 61
        refine (kB _ hS3).mono ?_
        rintro e w4 ⟨rfl, hS4, hF4⟩
        replace hF4 := Lib.hid (hF3.out.then hF4 (fun _ _ e => e))
        clear hS3 kB
        go_wp2_with fail
        go_at_call 61
        refine (kC _ hS4).mono ?_
        rintro e w5 ⟨rfl, hS5, hF5⟩
        replace hF5 := Lib.hid (hF4.out.then hF5 (fun _ _ e => e))
        clear hS4 kC
        have hz4 := hF5.out.size
        have hO4 := Lib.hid (hOh.out.fr2 hF5.out (fun q hq => RB_off hL (hOh.out.row.lt q hq).1))
        replace hS5 := Lib.hid hS5
        clear hOh
        go_wp2_with (at_builtin; refine wpList_append_el rfl (.tmp 41) (.tmp 47) 70 rfl encG 4 74 (.agg #[.int .i64 0, .int .i64 0, .int .i64 0, .int .i64 0]) 32 Tryz.underlying70 (by kernel_rfl) rfl (by decide) encG_len encG_one (w.heap.size) _ _ _ _ rfl (hO4.out.alloc _) (px, py, v, v2) ⟨(w5).heap.size, 0, none⟩ 1 rfl (cells_new (w5) _ _) (by omega) (by omega) (by first | omega | (simp; done) | (simp; omega)) ?_; intro A7 c7 w7 hown7 hg7 hb7; obtain ⟨hc7, hf7⟩ := bcell hb7; have hs7 := hb7.size; (try simp only [World.size_alloc, World.size_setCell, World.size_drew] at hc7 hf7); (try simp at hs7))
        have hrow : ∀ q, (Value.slice A1 n1 c1).ownBlock = some q → w.heap.size ≤ q := fun q hq => (hO4.out.row.lt q hq).1
        have hal : Below w5.heap.size w5 (w5.alloc (.cells (encG (px, py, v, v2)).toArray 74)) := (Below.refl _ _).alloc (Nat.le_refl _) _
        have hS7 := Lib.hid ((hS5.out.of hal).gr hL hg7 hrow)
        have hF7 := Lib.hid (((hF.out.then hF5.out (fun _ _ e => e)).of hal).grown hg7 (fun q e => .inr (hrow q e)))
        go_roundw
        case rel => exact ⟨j + 1, _, px, py, s5, A7, n1 + 1, c7, by go_num, rfl, rfl, rfl, by omega, hst, hkst, hown7, hS7.out, hF7.out⟩
        case measure => simp [intOf]; omega
      · have d1 : (s2.2 == 0) = false := by simpa using he
        have hfin := Lib.hid (hR.out.trans (lpR_bad he))
        replace hO := Lib.hid hO
        replace hS := Lib.hid hS
        replace hF := Lib.hid hF
        clear he hK hR
        go_wp2_with fail
        go_ret
        exact ⟨A1, n1, c1, rfl, by rw [hfin.out]; exact hO.out, by omega, by rw [hfin.out]; exact hS.out, hF.out⟩
    · obtain rfl : j = N := by omega
      have dj : decide ((j : Int) < j) = false := decide_eq_false (by omega)
      have dj' : decide (j < j) = false := decide_eq_false (by omega)
      have hfin := Lib.hid (hR.out.trans (lpR_done (Nat.le_refl _)))
      replace hO := Lib.hid hO
      replace hS := Lib.hid hS
      replace hF := Lib.hid hF
      clear hK hR
      go_wp2_with fail
      go_ret
      exact ⟨A1, n1, c1, rfl, by rw [hfin.out]; exact hO.out, by omega, by rw [hfin.out]; exact hS.out, hF.out⟩
end Go.Proofs.YtmenokhnanghgaaGreat
end
