/- snapshot's TakeTimeline. -/
import Derived.Test.YtmenokhnanghgaaGreatSnpS
import Derived.Test.YtmenokhnanghgaaGreatSnpU
namespace Go.Proofs.YtmenokhnanghgaaGreat
open Go Go.RowKit
set_option linter.unusedSimpArgs false
set_option linter.unusedVariables false
set_option maxRecDepth 100000
set_option linter.unusedSimpArgs false
set_option linter.unusedVariables false
/-- What TakeTimeline gives. -/
def tmV (bs : List Bool) : Int × List TFr := if tmE bs = 0 then ((tmK bs).1, (tmF bs).1) else (0, [])
theorem tm_ok {bs : List Bool} {E : Int} {V : Int × List TFr} (hE : E = tmE bs) (hV : V = tmV bs) (h : E = 0) : V = ((tmK bs).1, (tmF bs).1) := by rw [hV]; unfold tmV; rw [if_pos (by rw [← hE]; exact h)]
theorem tm_bad {bs : List Bool} {E : Int} {V : Int × List TFr} (hE : E = tmE bs) (hV : V = tmV bs) (h : E ≠ 0) : V = (0, []) := by rw [hV]; unfold tmV; rw [if_neg (by rw [← hE]; exact h)]
theorem frP_sm {bs : List Bool} {i : Nat} {a : List TFr} {s : RS} (h : s.1 ≤ bs.length) (hb : bs.length ≤ 524288) (hs : SmT a) : SmT (frP bs i a s).1 := by
  have h1 : (bitsR bs 1 (gamR bs s).2).2.1 ≤ bs.length := bitsR_le (gamR_le h)
  unfold frP
  split
  · intro f hf
    rcases List.mem_append.1 hf with hf | hf
    · exact hs f hf
    · obtain rfl : f = _ := by simpa using hf
      have h2 := clsP_len (bs := bs) (tkC_m bs) (bitsR bs 1 (gamR bs s).2).2
      have h3 := clsP_le (bs := bs) (tkC_ok bs) h1
      exact ⟨by simp only; omega, by simp⟩
  · intro f hf
    rcases List.mem_append.1 hf with hf | hf
    · exact hs f hf
    · obtain rfl : f = _ := by simpa using hf
      have h2 := clsP_len (bs := bs) (tkG_m bs) (bitsR bs 1 (gamR bs s).2).2
      have h3 := clsP_le (bs := bs) (tkG_ok bs) h1
      exact ⟨by simp, by simp only; omega⟩
set_option maxHeartbeats 4000000 in
theorem snp_TakeTimeline2 (bx : Nat) (key : Int) (NA : Option Addr) (nn nc : Nat) (F : List TFr) (B : Nat) (w : World) (hB : B ≤ w.heap.size) (hx : BxW w bx [.int .i64 key, .slice NA nn nc]) (hN : RdX ekFr w NA nn F) (hsm : SmT F) :
    Calls Tryz.prog 73 #[.pointer (some ⟨bx, 0, none⟩)] w fun e w' => e = .returned (.bool (tlB key F)) ∧ Below B w w' := by
  have kR := tl_Right key NA nn nc F w hN hsm
  have b0 : w.cell? ⟨bx, 0, none⟩ = some (.int .i64 key) := hx.2.1 0
  have b1 : w.cell? ⟨bx, 1, none⟩ = some (.slice NA nn nc) := hx.2.1 1
  have hxz := hx.1
  clear hx hN
  go_enter Tryz.func73, Tryz.ntmps73
  go_wp2_with fail
  go_at_call 67
  refine kR.mono ?_
  rintro e w1 ⟨rfl, hb1⟩
  replace hb1 := Lib.hid (hb1.mono hB)
  go_wp2_with fail
  go_ret
  exact ⟨rfl, hb1.out⟩
set_option maxHeartbeats 16000000 in
theorem snp_TakeTimeline (A : Option Addr) (n c : Nat) (l : List Int) (w : World) (hR : Rd encU 1 w A n l) (hl : ByL l) (hn : n ≤ 65536) :
    Calls Tryz.prog 30 #[.slice A n c] w fun e w' => ∃ NA nn nc, e = .returned (.tuple #[.agg #[.int .i64 (tmV (unB l)).1, .slice NA nn nc], .int .i64 (tmE (unB l))]) ∧ RdX ekFr w' NA nn (tmV (unB l)).2 ∧ Below w.heap.size w w' := by
  obtain ⟨W, hW⟩ : ∃ W, W = w.alloc (.cells #[.int .i64 0, .slice none 0 0] 54) := ⟨_, rfl⟩
  have hb0 : Below w.heap.size w W := by rw [hW]; exact (Below.refl _ _).alloc (Nat.le_refl _) _
  have hrt : BxW W w.heap.size [.int .i64 0, .slice none 0 0] := by rw [hW]; exact BxW.new w [_, _] _
  have hbl : (unB l).length ≤ 524288 := by rw [unB_len, hR.len]; omega
  have kO := snp_open 4 A n c l W (hR.of hb0) hl hn (by omega)
  rw [show opnR (unB l) ((4 : Nat) : Int) = opnR (unB l) 4 from rfl] at kO
  obtain ⟨E, hE⟩ : ∃ E, E = tmE (unB l) := ⟨_, rfl⟩
  obtain ⟨V, hV⟩ : ∃ V, V = tmV (unB l) := ⟨_, rfl⟩
  rw [← hE, ← hV]
  have hok := tm_ok hE hV
  have hbd := tm_bad hE hV
  obtain ⟨VS, VN⟩ := V
  clear hV
  simp only
  replace hE : E = cloR (unB l) (tmF (unB l)).2 (tlB (tmK (unB l)).1 (tmF (unB l)).1) := hE
  have hNd : tmF (unB l) = lpR (frP (unB l)) (gamR (unB l) (tmK (unB l)).2).1.toNat 0 [] (gamR (unB l) (tmK (unB l)).2).2 := rfl
  replace hE := Lib.hid hE
  replace hbd := Lib.hid hbd
  replace hok := Lib.hid hok
  replace hNd := Lib.hid hNd
  replace hrt := Lib.hid hrt
  clear hR
  go_enter Tryz.func30, Tryz.ntmps30
  go_upto_region 1 with (fail)
  rw [← hW]
  clear hW
  replace hb0 := Lib.hid hb0
  go_upto_region 2 with (go_at_call 42; refine kO.mono ?_; rintro e w1 ⟨br, bi, A1, c1, rfl, hS1, hbr, hbi, hb1⟩; replace hS1 := Lib.hid hS1; replace hb1 := Lib.hid hb1)
  clear kO
  obtain ⟨w2, hw2⟩ : ∃ w2, w2 = w1.alloc (.cells #[.pointer (some ⟨br, 0, none⟩)] 82) := ⟨_, rfl⟩
  have hb2 : Below w1.heap.size w1 w2 := by rw [hw2]; exact (Below.refl _ _).alloc (Nat.le_refl _) _
  have hx2 : BxW w2 w1.heap.size [.pointer (some ⟨br, 0, none⟩)] := by rw [hw2]; exact BxW.new1 w1 _ _
  have hz2 : w2.heap.size = w1.heap.size + 1 := by rw [hw2]; simp
  rw [← hw2]
  clear hw2
  have hS2 := hS1.out.of hb2
  have hbr1 := hS1.out.box.1
  have hbi1 := hS1.out.d.box.1
  have hA1 := hS1.out.low
  obtain ⟨b4, hb4⟩ : ∃ b4, b4 = w1.heap.size := ⟨_, rfl⟩
  rw [← hb4] at hx2 hz2 ⊢
  replace hb4 := Lib.hid hb4
  replace hz2 := Lib.hid hz2
  have kF := snp_gamma br bi A1 n c1 l _ w2 hS2
  obtain ⟨_, c0, _⟩ := hx2.open1
  rw [show gamR (unB l) (opnR (unB l) 4) = tmK (unB l) from rfl] at kF
  generalize tmK (unB l) = K at kF hok hE hNd
  obtain ⟨key, sk⟩ := K
  simp only at kF hok hE hNd
  go_wp2_with fail
  go_at_call 59
  refine kF.mono ?_
  rintro e w3 ⟨rfl, hS3, hf3⟩
  go_upto_region 5 with (fail)
  obtain ⟨w4, hw4⟩ : ∃ w4, w4 = w3.alloc (.cells #[.int .i64 key, .slice none 0 0] 54) := ⟨_, rfl⟩
  have hb34 : Below w3.heap.size w3 w4 := by rw [hw4]; exact (Below.refl _ _).alloc (Nat.le_refl _) _
  have hx4 : BxW w4 w3.heap.size [.int .i64 key, .slice none 0 0] := by rw [hw4]; exact BxW.new w3 [_, _] _
  have hz4 : w4.heap.size = w3.heap.size + 1 := by rw [hw4]; simp
  rw [← hw4]
  clear hw4
  obtain ⟨bx, hbx⟩ : ∃ bx, bx = w3.heap.size := ⟨_, rfl⟩
  rw [← hbx] at hx4 hz4 ⊢
  have hb4' := hb4.out
  have hz2' := hz2.out
  obtain ⟨B1, hB1⟩ : ∃ B1, B1 = w4.heap.size := ⟨_, rfl⟩
  have hz3 := hf3.size
  have hK : TkK w1.heap.size B1 br bi b4 bx := ⟨hbr1, hbi1, by omega, by omega, by omega⟩
  have hT4 : TkB B1 w1 br bi b4 bx [.int .i64 key, .slice none 0 0] w4 := ⟨hx4, (hx2.frR hf3 (by rintro (e | e) <;> omega)).of hb34, (((Fr2.here w1 _).of hb2).then hf3 (fun _ _ e => e)).of hb34, by omega⟩
  have hS4 := hS3.of hb34
  clear hb4' hz2' hb4 hz2 hbx hB1 hz4 hz3
  have hrtB : w.heap.size < B1 := by have := hK.c; have := hrt.out.1; have := hb1.out.size; omega
  have hA : 0 < n → ∀ b o, A1 = some ⟨b, o, none⟩ → b < w1.heap.size := hA1
  have hn8 : ∀ {t : RS} {w : World}, RdS w br bi A1 n c1 l t → t.1 ≤ 524288 := fun h => by have := h.le; omega
  have key1 := snp_timesN (α := List TFr) (frP (unB l)) (fun a s w' => ∃ OA on oc, TkB B1 w1 br bi b4 bx [.int .i64 key, .slice OA on oc] w' ∧ OwnO ekFr 72 B1 (fun _ => False) w' OA on oc a ∧ RdS w' br bi A1 n c1 l s ∧ SzR a s ∧ SmT a) 71 [.pointer (some ⟨b4, 0, none⟩), .pointer (some ⟨bx, 0, none⟩)] br bi A1 n c1 l
    (enters_of Tryz.func71 (by kernel_rfl) rfl)
    (fun a s w' h => by obtain ⟨OA, on, oc, _, _, h, _⟩ := h; exact h)
    (fun i a s w' h0 h => by
      obtain ⟨OA, on, oc, j1, j2, j3, j4, j5⟩ := h
      have hon : on ≤ 1000000 := by have := j2.len; have := hn8 j3; have := j4.1; omega
      have hsl : s.1 ≤ (unB l).length := by have := j3.len; have := j3.le; omega
      refine (snp_TakeTimeline1 B1 w1 br bi b4 bx key a OA on oc A1 n c1 l s i w' hK hA j1 j2 j3 hon).mono ?_
      rintro e w'' ⟨rfl, OA', on', oc', i1, i2, i3⟩
      exact ⟨rfl, OA', on', oc', i1, i2, i3, j4.step (frP_m (unB l)) h0, frP_sm hsl hbl j5⟩)
    [] sk w4 hS4 (fun w' j1 j2 => ⟨none, 0, 0, hT4.read hK j2, OwnO.nil_, j1, SzR.nil_, fun f hf => by cases hf⟩)
  rw [← hNd.out] at key1
  obtain ⟨_, c04, _⟩ := hT4.c.open1
  clear hT4 hS4 hx4 hb34 hS3 hS2 hx2 hb2 kF c0 hf3 hS1
  go_upto_region 6 with (go_at_call 56; refine key1.mono ?_; rintro e w6 ⟨he, NA, nn6, nc6, hT6, hN6, hS6, hsz6, hsm6⟩; obtain rfl : e = .returned (.tuple #[]) := he)
  clear key1
  have kC := snp_closeN (tlB key (tmF (unB l)).1) 73 [.pointer (some ⟨bx, 0, none⟩)] br bi A1 n c1 l (tmF (unB l)).2 (enters_of Tryz.func73 (by kernel_rfl) rfl) w6 hS6 (fun w7 h7 => snp_TakeTimeline2 bx key NA nn6 nc6 (tmF (unB l)).1 w6.heap.size w7 h7.size (hT6.x.of h7) ((hN6.of h7).rd) hsm6)
  rw [← hE.out] at kC
  obtain ⟨_, c06, _⟩ := hT6.c.open1
  have hN6r := Lib.hid hN6
  have hT6h := Lib.hid hT6
  have hB6 : Below w.heap.size w w6 := (hb0.out.trans (hb1.out.mono hb0.out.size)).trans (hT6.f.below (by have := hb0.out.size; have := hb1.out.size; omega) (fun q hq => by have := hb0.out.size; rcases hq with rfl | rfl <;> omega))
  have hrt6 : BxW w6 w.heap.size [.int .i64 0, .slice none 0 0] := (hrt.out.of hb1.out).frR hT6.f (by have := hrt.out.1; rintro (e | e) <;> omega)
  replace hB6 := Lib.hid hB6
  replace hrt6 := Lib.hid hrt6
  clear hT6 hS6 hN6 hsz6 hsm6 c04
  go_upto_region 7 with (go_at_call 44; refine kC.mono ?_; rintro e w7 ⟨rfl, hb7⟩)
  clear kC
  have hB7 := Lib.hid (hB6.out.trans (hb7.mono hB6.out.size))
  have hrt7 := hrt6.out.of hb7
  have hx7 := hT6h.out.x.of hb7
  have hN7 := Lib.hid (hN6r.out.of hb7)
  have x0 : w7.cell? ⟨bx, 0, none⟩ = some (.int .i64 key) := hx7.2.1 0
  have x1 : w7.cell? ⟨bx, 1, none⟩ = some (.slice NA nn6 nc6) := hx7.2.1 1
  have xz := hx7.1
  have r0 : w7.cell? ⟨w.heap.size, 0, none⟩ = some (.int .i64 0) := hrt7.2.1 0
  have r1 : w7.cell? ⟨w.heap.size, 1, none⟩ = some (.slice none 0 0) := hrt7.2.1 1
  have f0 : w7.frozen? ⟨w.heap.size, 0, none⟩ = false := hrt7.2.2 0
  have f1 : w7.frozen? ⟨w.heap.size, 1, none⟩ = false := hrt7.2.2 1
  have rz := hrt7.1
  clear hx7 hb7 c06
  by_cases h0 : E = 0
  · subst h0
    have hV := hok.out rfl
    injection hV with hv1 hv3
    subst hv1 hv3
    have hB8 : Below w.heap.size w ((w7.setCell ⟨w.heap.size, 0, none⟩ (.int .i64 VS)).setCell ⟨w.heap.size, 1, none⟩ (.slice NA nn6 nc6)) := (hB7.out.setCell (Nat.le_refl _) _).setCell (Nat.le_refl _) _
    have hx8 : BxW ((w7.setCell ⟨w.heap.size, 0, none⟩ (.int .i64 VS)).setCell ⟨w.heap.size, 1, none⟩ (.slice NA nn6 nc6)) w.heap.size [.int .i64 VS, .slice NA nn6 nc6] := (hrt7.put 0 _ (by simp)).put 1 _ (by simp)
    have hN8 : RdX ekFr ((w7.setCell ⟨w.heap.size, 0, none⟩ (.int .i64 VS)).setCell ⟨w.heap.size, 1, none⟩ (.slice NA nn6 nc6)) NA nn6 _ := ((hN7.out.setO hrtB 0 _).setO hrtB 1 _).rd
    replace hB8 := Lib.hid hB8
    replace hN8 := Lib.hid hN8
    clear hrt7
    go_wp2_with fail
    obtain ⟨w8, hw8⟩ : ∃ w8, w8 = ((w7.setCell ⟨w.heap.size, 0, none⟩ (.int .i64 VS)).setCell ⟨w.heap.size, 1, none⟩ (.slice NA nn6 nc6)) := ⟨_, rfl⟩
    rw [← hw8] at hx8 hB8 hN8 ⊢
    clear hw8
    have y0 : w8.cell? ⟨w.heap.size, 0, none⟩ = some (.int .i64 VS) := hx8.2.1 0
    have y1 : w8.cell? ⟨w.heap.size, 1, none⟩ = some (.slice NA nn6 nc6) := hx8.2.1 1
    clear x0 x1 r0 r1 f0 f1 hx8
    refine bodyPost_ret (v := .tuple #[.agg #[.int .i64 VS, .slice NA nn6 nc6], .int .i64 0]) (by simp [results, Tryz.results30, go_sem, *, ↓IntWalk.iteOmega]) rfl ?_
    exact ⟨NA, nn6, ⟨nc6, rfl⟩, hN8.out, hB8.out⟩
  · have d1 : (E == 0) = false := by simpa using h0
    have d2 : (E != 0) = true := by simpa using h0
    have hV := hbd.out h0
    injection hV with hv1 hv3
    subst hv1 hv3
    have hB8 : Below w.heap.size w ((w7.setCell ⟨w.heap.size, 0, none⟩ (.int .i64 0)).setCell ⟨w.heap.size, 1, none⟩ (.slice none 0 0)) := (hB7.out.setCell (Nat.le_refl _) _).setCell (Nat.le_refl _) _
    have hx8 : BxW ((w7.setCell ⟨w.heap.size, 0, none⟩ (.int .i64 0)).setCell ⟨w.heap.size, 1, none⟩ (.slice none 0 0)) w.heap.size [.int .i64 0, .slice none 0 0] := (hrt7.put 0 _ (by simp)).put 1 _ (by simp)
    replace hB8 := Lib.hid hB8
    clear hrt7
    go_wp2_with fail
    obtain ⟨w8, hw8⟩ : ∃ w8, w8 = ((w7.setCell ⟨w.heap.size, 0, none⟩ (.int .i64 0)).setCell ⟨w.heap.size, 1, none⟩ (.slice none 0 0)) := ⟨_, rfl⟩
    rw [← hw8] at hx8 hB8 ⊢
    clear hw8
    have y0 : w8.cell? ⟨w.heap.size, 0, none⟩ = some (.int .i64 0) := hx8.2.1 0
    have y1 : w8.cell? ⟨w.heap.size, 1, none⟩ = some (.slice none 0 0) := hx8.2.1 1
    clear x0 x1 r0 r1 f0 f1 hx8
    refine bodyPost_ret (v := .tuple #[.agg #[.int .i64 0, .slice none 0 0], .int .i64 E]) (by simp [results, Tryz.results30, go_sem, *, ↓IntWalk.iteOmega]) rfl ?_
    exact ⟨none, 0, ⟨0, rfl⟩, RdX.nil_, hB8.out⟩
end Go.Proofs.YtmenokhnanghgaaGreat
