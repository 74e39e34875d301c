/- snapshot's reader: what the takers' closures hold. snapshot's TakeTree: its first closure, a position. -/
import Derived.Test.YtmenokhnanghgaaGreatSNH
import Derived.Deep.RegionHeld3
set_option linter.unusedSimpArgs false
set_option linter.unusedVariables false
section
namespace Go.Proofs.YtmenokhnanghgaaGreat
open Go Go.RowKit
set_option maxRecDepth 100000
section
variable {w w' w0 : World} {br bi b4 bx B1 : Nat} {vs : List Value} {row : Option Nat} {A : Option Addr} {n c : Nat} {l : List Int} {s : RS}
/-- Reading, as two blocks' growth. -/
theorem Fr2.split2 (h : Fr2 (RB br bi) w w') (hb : bi < w.heap.size) : ∃ w1, w.grownBy w1 (some br) ∧ w1.grownBy w' (some bi) := by
  have hz := h.size
  refine ⟨{ w' with heap := w'.heap.set bi w.heap[bi] (by omega) }, ⟨h.os, h.tape, h.output, by simpa using hz, fun k hk hn => ?_⟩, ⟨rfl, rfl, rfl, by simp, fun k hk hn => ?_⟩⟩
  · by_cases e : k = bi
    · subst e
      simp
    · simp only
      rw [Array.getElem?_set_ne _ (fun e' => e e'.symm)]
      exact h.block k hk (fun q => by rcases q with q | q; exact hn (by rw [q]); exact e q)
  · simp only
    rw [Array.getElem?_set_ne _ (fun e' => hn (by rw [e']))]
theorem OwnO.read {α β : Type} {K : EK α β} {e : TypeId} {B : Nat} {P : Nat → Prop} {bs : List β} (h : OwnO K e B P w A n c bs) (hf : Fr2 (RB br bi) w w') (h1 : br < B) (h2 : bi < B) (hb : bi < w.heap.size) : OwnO K e B P w' A n c bs := by
  obtain ⟨w1, g1, g2⟩ := hf.split2 hb
  have k1 := h.grow g1 (fun q hq e => by injection e with e; have := (h.lt q hq).1; omega) (fun q e => by injection e with e; exact .inr (by omega)) (fun q _ e => e)
  exact k1.grow g2 (fun q hq e => by injection e with e; have := (k1.lt q hq).1; omega) (fun q e => by injection e with e; exact .inr (by omega)) (fun q _ e => e)
/-- The blocks of a taker: the reader's box b4, the value's box bx. -/
structure TkK (B0 B1 br bi b4 bx : Nat) : Prop where
  r1 : br < B0
  r2 : bi < B0
  c : B0 ≤ b4 ∧ b4 < B1
  x : B0 ≤ bx ∧ bx < B1
  ne : b4 ≠ bx
structure TkB (B1 : Nat) (w0 : World) (br bi b4 bx : Nat) (vs : List Value) (w : World) : Prop where
  x : BxW w bx vs
  c : BxW w b4 [.pointer (some ⟨br, 0, none⟩)]
  f : Fr2 (RB br bi) w0 w
  z : B1 ≤ w.heap.size
theorem TkB.read (h : TkB B1 w0 br bi b4 bx vs w) (hK : TkK w0.heap.size B1 br bi b4 bx) (hf : Fr2 (RB br bi) w w') : TkB B1 w0 br bi b4 bx vs w' := by
  have h1 := hK.r1
  have h2 := hK.r2
  have h3 := hK.c
  have h4 := hK.x
  exact ⟨h.x.frR hf (by rintro (e | e) <;> omega), h.c.frR hf (by rintro (e | e) <;> omega), h.f.then hf (fun _ _ e => e), Nat.le_trans h.z hf.size⟩
theorem TkB.of (h : TkB B1 w0 br bi b4 bx vs w) (hb : Below w.heap.size w w') : TkB B1 w0 br bi b4 bx vs w' := ⟨h.x.of hb, h.c.of hb, h.f.of hb, Nat.le_trans h.z hb.size⟩
theorem TkB.gr (h : TkB B1 w0 br bi b4 bx vs w) (hK : TkK w0.heap.size B1 br bi b4 bx) (hg : w.grownBy w' row) (hr : ∀ q, row = some q → B1 ≤ q) : TkB B1 w0 br bi b4 bx vs w' := by
  have h3 := hK.c
  have h4 := hK.x
  exact ⟨h.x.grown hg (fun e => by have := hr _ e.symm; omega), h.c.grown hg (fun e => by have := hr _ e.symm; omega), h.f.grown hg (fun q e => .inr (by have := hr q e; omega)), Nat.le_trans h.z hg.size⟩
theorem TkB.put (h : TkB B1 w0 br bi b4 bx vs w) (hK : TkK w0.heap.size B1 br bi b4 bx) (i : Nat) (v : Value) (hi : i < vs.length) : TkB B1 w0 br bi b4 bx (vs.set i v) (w.setCell ⟨bx, i, none⟩ v) :=
  ⟨h.x.put i v hi, h.c.off i v (fun e => hK.ne e.symm), h.f.put i v (.inr hK.x.1), by rw [World.size_setCell]; exact h.z⟩
/-- A row beyond B1 grows, or a box beyond w0: the reader's state stays. -/
theorem RdS.gr (hR : RdS w br bi A n c l s) (hK : TkK w0.heap.size B1 br bi b4 bx) (hA : 0 < n → ∀ b o, A = some ⟨b, o, none⟩ → b < w0.heap.size) (hg : w.grownBy w' row) (hr : ∀ q, row = some q → w0.heap.size ≤ q) : RdS w' br bi A n c l s := by
  have h1 := hK.r1
  have h2 := hK.r2
  have hf : Fr2 (fun q => w0.heap.size ≤ q) w w' := (Fr2.here w _).grown hg (fun q hq => .inl (hr q hq))
  exact hR.fr2 hf (by omega) (by omega) (fun h0 b o e => by have := hA h0 b o e; omega)
end
section
variable {bs : List Bool} {s : RS}
theorem gamR_adv (h : (gamR bs s).2.2 = 0) : s.1 + 1 ≤ (gamR bs s).2.1 := by
  unfold gamR at h ⊢
  by_cases h0 : s.2 = 0
  · rw [if_pos h0] at h ⊢
    by_cases a1 : zrs (bs.drop s.1) < 64
    · rw [if_pos a1] at h ⊢
      by_cases a2 : 2 * zrs (bs.drop s.1) + 1 ≤ bs.length - s.1
      · rw [if_pos a2] at h ⊢
        split at h
        · rename_i a3
          rw [if_pos a3]
          simp only
          omega
        · exact absurd h (show ¬ (3 : Int) = 0 by decide)
      · rw [if_neg a2] at h; exact absurd h (show ¬ (4 : Int) = 0 by decide)
    · rw [if_neg a1] at h; exact absurd h (show ¬ (3 : Int) = 0 by decide)
  · rw [if_neg h0] at h; exact absurd h h0
theorem gamR_st (h : (gamR bs s).2.2 = 0) : s.2 = 0 := by
  by_cases h0 : s.2 = 0
  · exact h0
  · rw [gamR_bad h0] at h; exact h
theorem bitsR_st {n : Nat} (h : (bitsR bs n s).2.2 = 0) : s.2 = 0 := by
  by_cases h0 : s.2 = 0
  · exact h0
  · rw [bitsR_bad h0] at h; exact h
theorem gmsR_m : ∀ k, s.1 ≤ (gmsR bs s k).2.1 ∧ ((gmsR bs s k).2.2 = 0 → s.2 = 0)
  | 0 => ⟨Nat.le_refl _, fun h => h⟩
  | k + 1 => ⟨Nat.le_trans (gmsR_m k).1 gamR_mono, fun h => (gmsR_m k).2 (gamR_st h)⟩
/-- A round that goes on by at least one bit where there is no error; one element more. -/
def StepM {α : Type} (f : Nat → List α → RS → List α × RS) : Prop := ∀ i a s, s.1 ≤ (f i a s).2.1 ∧ ((f i a s).2.2 = 0 → s.1 + 1 ≤ (f i a s).2.1) ∧ (f i a s).1.length = a.length + 1
theorem hdR_m (bs : List Bool) : StepM (hdR bs) := fun i a s => by
  unfold hdR
  simp only
  refine ⟨Nat.le_trans bitsR_mono bitsR_mono, fun h => ?_, by simp⟩
  have h1 := bitsR_adv h
  have h2 := bitsR_mono (bs := bs) (s := s) (n := 3)
  omega
theorem ndR_m (bs : List Bool) (st : Nat) : StepM (ndR bs st) := fun i a s => by
  unfold ndR
  simp only
  refine ⟨Nat.le_trans gamR_mono (gmsR_m st).1, fun h => ?_, by simp⟩
  have h1 := gamR_adv ((gmsR_m st).2 h)
  exact Nat.le_trans h1 (gmsR_m st).1
theorem qdR_m (bs : List Bool) : StepM (qdR bs) := fun i a s => by
  unfold qdR
  simp only
  refine ⟨Nat.le_trans gamR_mono (Nat.le_trans gamR_mono (Nat.le_trans gamR_mono gamR_mono)), fun h => ?_, by simp⟩
  have h1 := gamR_adv h
  have h2 := gamR_mono (bs := bs) (s := s)
  have h3 := gamR_mono (bs := bs) (s := (gamR bs s).2)
  have h4 := gamR_mono (bs := bs) (s := (gamR bs (gamR bs s).2).2)
  omega
theorem clsP_m {β : Type} {tk : Int → Int → RS → β × RS} (ht : TkM tk) : s.1 ≤ (clsP bs tk s).2.1 ∧ ((clsP bs tk s).2.2 = 0 → s.2 = 0) := by
  have h := lpR_keep (f := rndP bs tk) (P := fun _ t => s.1 ≤ t.1) (fun i a t _ hp => Nat.le_trans hp (rndP_m (bs := bs) (s := t) ht i a).1) (gamR bs s).1.toNat 0 ([], 0, 0) (gamR bs s).2 gamR_mono
  refine ⟨h, fun k => ?_⟩
  by_cases h0 : (gamR bs s).2.2 = 0
  · exact gamR_st h0
  · unfold clsP at k
    rw [lpR_bad h0] at k
    exact absurd k h0
theorem frP_m (bs : List Bool) : StepM (frP bs) := fun i a s => by
  unfold frP
  have h1 := gamR_mono (bs := bs) (s := s)
  have h2 := bitsR_mono (bs := bs) (s := (gamR bs s).2) (n := 1)
  split
  · have h3 := clsP_m (bs := bs) (s := (bitsR bs 1 (gamR bs s).2).2) (tkC_m bs)
    simp only
    refine ⟨by omega, fun h => ?_, by simp⟩
    have h4 := gamR_adv (bitsR_st (h3.2 h))
    omega
  · have h3 := clsP_m (bs := bs) (s := (bitsR bs 1 (gamR bs s).2).2) (tkG_m bs)
    simp only
    refine ⟨by omega, fun h => ?_, by simp⟩
    have h4 := gamR_adv (bitsR_st (h3.2 h))
    omega
/-- What a loop of such rounds keeps. -/
def SzR {α : Type} (a : List α) (s : RS) : Prop := a.length ≤ s.1 + 1 ∧ (s.2 = 0 → a.length ≤ s.1)
theorem SzR.nil_ {α : Type} : SzR ([] : List α) s := ⟨by simp, fun _ => by simp⟩
theorem SzR.step {α : Type} {f : Nat → List α → RS → List α × RS} (hf : StepM f) {i : Nat} {a : List α} (h0 : s.2 = 0) (h : SzR a s) : SzR (f i a s).1 (f i a s).2 := by
  obtain ⟨m1, m2, m3⟩ := hf i a s
  have h1 := h.2 h0
  exact ⟨by rw [m3]; omega, fun z => by have := m2 z; rw [m3]; omega⟩
end
end Go.Proofs.YtmenokhnanghgaaGreat
end
section
namespace Go.Proofs.YtmenokhnanghgaaGreat
open Go Go.RowKit
set_option maxRecDepth 100000
set_option maxHeartbeats 16000000 in
theorem snp_TakeTree1 (B1 : Nat) (w0 : World) (br bi b4 bx : Nat) (st : Int) (H : List (Int × Int)) (OA : Option Addr) (on oc : Nat) (A : Option Addr) (n c : Nat) (l : List Int) (s : RS) (i : Nat) (w : World)
    (hK : TkK w0.heap.size B1 br bi b4 bx) (hA : 0 < n → ∀ b o, A = some ⟨b, o, none⟩ → b < w0.heap.size) (hT : TkB B1 w0 br bi b4 bx [.int .i64 st, .slice OA on oc, .slice none 0 0] w) (hO : Own encP 2 66 B1 w OA on oc H) (hS : RdS w br bi A n c l s) (hon : on ≤ 1000000) :
    Calls Tryz.prog 57 #[.int .i64 (i : Int), .pointer (some ⟨b4, 0, none⟩), .pointer (some ⟨bx, 0, none⟩)] w fun e w' => e = void ∧ ∃ OA' on' oc', TkB B1 w0 br bi b4 bx [.int .i64 st, .slice OA' on' oc', .slice none 0 0] w' ∧ Own encP 2 66 B1 w' OA' on' oc' (hdR (unB l) i H s).1 ∧ RdS w' br bi A n c l (hdR (unB l) i H s).2 := by
  have hz := hT.z
  have hn1 := hK.r1
  have hn2 := hK.r2
  have hnx := hK.x
  rw [show (hdR (unB l) i H s).1 = H ++ [((bitsR (unB l) 3 s).1 - 2, (bitsR (unB l) 3 (bitsR (unB l) 3 s).2).1 - 2)] from rfl, show (hdR (unB l) i H s).2 = (bitsR (unB l) 3 (bitsR (unB l) 3 s).2).2 from rfl]
  have kE := snp_fixed br bi A n c l s w 3 hS (by omega)
  have v1 := bitsR_val (unB l) 3 s (by omega)
  generalize bitsR (unB l) 3 s = g1 at kE v1 ⊢
  obtain ⟨a1, s1⟩ := g1
  simp only at kE v1 ⊢
  have kF := fun w1 h1 => snp_fixed br bi A n c l s1 w1 3 h1 (by omega)
  have v2 := bitsR_val (unB l) 3 s1 (by omega)
  generalize bitsR (unB l) 3 s1 = g at kF v2 ⊢
  obtain ⟨a2, s2⟩ := g
  simp only at kF v2 ⊢
  have e1 : IntKind.i64.wrap (a1 - 2) = a1 - 2 := IntWalk.i64_in _ (by omega)
  have e2 : IntKind.i64.wrap (a2 - 2) = a2 - 2 := IntWalk.i64_in _ (by omega)
  obtain ⟨_, c0, fc⟩ := hT.c.open1
  go_enter Tryz.func57, Tryz.ntmps57
  go_upto_region 1 with (go_at_call 55; refine kE.mono ?_; rintro e w1 ⟨rfl, hS1, hf1⟩; have hT1 := hT.read hK hf1; have hO1 := hO.fr2 hf1 (fun q hq => by have := (hO.row.lt q hq).1; rintro (k | k) <;> omega))
  have hrow : ∀ q, (Value.slice OA on oc).ownBlock = some q → B1 ≤ q := fun q hq => (hO1.row.lt q hq).1
  have kF' : Calls Tryz.prog 55 #[.pointer (some ⟨br, 0, none⟩), .int .i64 3] w1.drew fun e w7 => e = .returned (.int .i64 a2) ∧ RdS w7 br bi A n c l s2 ∧ TkB B1 w0 br bi b4 bx [.int .i64 st, .slice OA on oc, .slice none 0 0] w7 ∧ Own encP 2 66 B1 w7 OA on oc H ∧ bx < w7.heap.size ∧ w7.cell? ⟨bx, 1, none⟩ = some (.slice OA on oc) := by
    refine (kF _ (hS1.of (Below.refl _ _).drew)).mono ?_
    rintro e w7 ⟨rfl, hS7, hf7⟩
    have hT7 := (hT1.of (Below.refl _ _).drew).read hK hf7
    exact ⟨rfl, hS7, hT7, (hO1.of (Below.refl _ _).drew).fr2 hf7 (fun q hq => by have := hrow q hq; rintro (k | k) <;> omega), hT7.x.1, hT7.x.2.1 1⟩
  have kA : ∀ (w7 : World), RdS w7 br bi A n c l s2 → TkB B1 w0 br bi b4 bx [.int .i64 st, .slice OA on oc, .slice none 0 0] w7 → ∀ (A5 : Option Addr) (c5 : Nat) (w5 : World), Own encP 2 66 B1 w5 A5 (on + 1) c5 (H ++ [(a1 - 2, a2 - 2)]) → (w7.alloc (.cells #[.int .i64 (a1 - 2), .int .i64 (a2 - 2)] 66)).grownBy w5 (Value.slice OA on oc).ownBlock →
      w5.cell? ⟨bx, 1, none⟩ = some (.slice OA on oc) ∧ w5.frozen? ⟨bx, 1, none⟩ = false ∧ Hid (TkB B1 w0 br bi b4 bx [.int .i64 st, .slice A5 (on + 1) c5, .slice none 0 0] (w5.setCell ⟨bx, 1, none⟩ (.slice A5 (on + 1) c5)) ∧ Own encP 2 66 B1 (w5.setCell ⟨bx, 1, none⟩ (.slice A5 (on + 1) c5)) A5 (on + 1) c5 (H ++ [(a1 - 2, a2 - 2)]) ∧ RdS (w5.setCell ⟨bx, 1, none⟩ (.slice A5 (on + 1) c5)) br bi A n c l s2) := by
    intro w7 hS7 hT7 A5 c5 w5 hown5 hg5
    have hal : Below w7.heap.size w7 (w7.alloc (.cells #[.int .i64 (a1 - 2), .int .i64 (a2 - 2)] 66)) := (Below.refl _ _).alloc (Nat.le_refl _) _
    have hT5 := (hT7.of hal).gr hK hg5 hrow
    have hS5 := (hS7.of hal).gr hK hA hg5 (fun q hq => by have := hrow q hq; omega)
    refine ⟨hT5.x.2.1 1, hT5.x.2.2 1, Lib.hid ⟨hT5.put hK 1 _ (by simp), hown5.setBelow (by omega) _, hS5.gr hK hA (grownBy_set _ bx 1 _) (fun q e => by injection e with e; omega)⟩⟩
  have hx1 : w1.cell? ⟨bx, 1, none⟩ = some (.slice OA on oc) := hT1.x.2.1 1
  have hx1z := hT1.x.1
  obtain ⟨_, c01, _⟩ := hT1.c.open1
  clear hT hO hS hT1 hO1 hS1 hf1 kE kF c0 fc
  go_region_law
    (first
    | (go_simp; go_at_call 55; refine kF'.mono ?_; rintro e w7 ⟨rfl, hS7, hT7, hO7, hbx7, x7⟩)
    | (refine step_append_el (by rfl) (.tmp 9) (.tmp 15) 34 (by rfl) encP 2 66 (.agg #[.int .i64 0, .int .i64 0]) 16 Tryz.underlying34 (by kernel_rfl) rfl (by decide) encP_len encP_one B1 _ _ _ H (by rfl) (Own.alloc hO7 _) (a1 - 2, a2 - 2) ⟨w7.heap.size, 0, none⟩ 1 (by rfl) (cells_new w7 (encP (a1 - 2, a2 - 2)) 66) (by omega) (by omega) (by simp only [World.size_alloc]; have := hT7.z; omega) ?_; intro A5 c5 w5 hown5 hg5 hb5; obtain ⟨o5, fo5, hfin⟩ := kA w7 hS7 hT7 A5 c5 w5 hown5 hg5))
  all_goals
    go_wp2_with fail
    go_end0
    exact ⟨rfl, A5, on + 1, c5, hfin.out⟩
end Go.Proofs.YtmenokhnanghgaaGreat
end
