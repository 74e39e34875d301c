/- Plain: a solution for twice the generations. -/
import Derived.Test.YtnhapgbjaeaamaaDoorPRZ
namespace Go.Proofs.YtnhapgbjaeaamaaDoor
open Go Go.RowKit
set_option linter.unusedSimpArgs false
set_option linter.unusedVariables false
section
variable {st : Int} {H : List (Int × Int)} {N : List (Int × List Int)} {p : List (Int × Int × Int)}
/-- A cell of the next generation is near a cell of this one. -/
theorem st_near (h : trQ st H N = true) (hS : SSC p) {c : Int × Int × Int} (hc : c ∈ stL H N p) : ∃ d ∈ p, -2 ≤ d.1 - c.1 ∧ d.1 - c.1 ≤ 2 ∧ -2 ≤ d.2.1 - c.2.1 ∧ d.2.1 - c.2.1 ≤ 2 := by
  unfold stL at hc
  by_cases he : stE H N p = 0
  · rw [if_pos he, (srtC_perm _).mem_iff] at hc
    obtain ⟨x, y, s⟩ := c
    have hn := ((genR_is h hS).2 x y s).1 hc
    obtain ⟨o, ho, s', hs'⟩ := nx_cell h hS (x := x) (y := y) (by rw [← hn.1]; exact hn.2)
    have hb := (hood_in (trR_parts (trQ_parts h).1).2.1).2 o ho
    exact ⟨_, hs', by simp only; omega⟩
  · rw [if_neg he] at hc; cases hc
/-- All cells lie within r of a box. -/
def Wide (r : Int) (p : List (Int × Int × Int)) : Prop := ∀ c ∈ p, -r ≤ c.1 ∧ c.1 ≤ 16 + r ∧ -r ≤ c.2.1 ∧ c.2.1 ≤ 16 + r
theorem it_wide (hf : FitsR st H N p) (h : Wide 0 p) : ∀ k : Nat, Wide (2 * (k : Int)) (itS H N p k).2
  | 0 => h
  | k + 1 => by
    have ih := it_wide hf h k
    by_cases he : (itS H N p k).1 = 0
    · rw [it_step he]
      intro c hc
      obtain ⟨d, hd, hn⟩ := st_near hf.rule (rightC_sorted (it_fits hf k).pat) hc
      have := ih d hd
      have e : ((k + 1 : Nat) : Int) = (k : Int) + 1 := by omega
      rw [e]
      omega
    · have h2 : (itS H N p (k + 1)).1 ≠ 0 := by rw [it_stuck rfl he 1]; exact he
      rw [it_err h2]
      intro c hc; cases hc
theorem it_pre {k : Nat} {m : Nat} (h : (itS H N p m).1 = 0) (hk : k ≤ m) : (itS H N p k).1 = 0 := by
  refine Decidable.byContradiction fun he => ?_
  have := it_stuck (H := H) (N := N) (p := p) rfl he (m - k)
  rw [show k + (m - k) = m by omega, h] at this
  exact he this.symm
theorem wide_mv {r dx dy : Int} (hr : rightC p = true) (h : Wide r p) (h1 : r ≤ 1000) (hx : -1000 ≤ dx ∧ dx ≤ 1000) (hy : -1000 ≤ dy ∧ dy ≤ 1000) : rightC (p.map (mv5 dx dy)) = true ∧ (p.map (mv5 dx dy)).all plD = true := by
  constructor
  · exact rightC_mv hr (fun c hc => by have := h c hc; unfold Pt; omega)
  · rw [List.all_eq_true]
    intro c hc
    obtain ⟨d, hd, rfl⟩ := List.mem_map.1 hc
    have := h d hd
    unfold plD mv5 validB
    exact decide_eq_true (by simp only; omega)
/-- A moved pattern runs as the pattern does, moved. -/
theorem it_move {m : Nat} {dx dy : Int} (hf : FitsR st H N p) (hw : Wide 0 p) (hm : m ≤ 6) (h : (itS H N p m).1 = 0) (hx : -1000 ≤ dx ∧ dx ≤ 1000) (hy : -1000 ≤ dy ∧ dy ≤ 1000) : ∀ k, k ≤ m → itS H N (p.map (mv5 dx dy)) k = (0, (itS H N p k).2.map (mv5 dx dy))
  | 0, _ => rfl
  | k + 1, hk => by
    have ih := it_move hf hw hm h hx hy k (by omega)
    have h0 := it_pre h (show k ≤ m by omega)
    have h1 := it_pre h hk
    rw [it_step h0] at h1 ⊢
    simp only at h1
    have hfk := it_fits hf k
    have hwk := it_wide hf hw k
    have hwk1 := it_wide hf hw (k + 1)
    rw [it_step h0] at hwk1
    obtain ⟨a1, _⟩ := wide_mv (dx := dx) (dy := dy) hfk.pat hwk (by omega) hx hy
    obtain ⟨_, a2⟩ := wide_mv (dx := dx) (dy := dy) (st_fits hfk).pat hwk1 (by omega) hx hy
    obtain ⟨m1, m2⟩ := st_move hfk (top_move hfk a1) h1
    rw [if_pos a2] at m1 m2
    rw [it_step (by rw [ih]), ih]
    simp only
    rw [m1, m2]
theorem mv_mv (l : List (Int × Int × Int)) (dx dy ex ey : Int) : (l.map (mv5 dx dy)).map (mv5 ex ey) = l.map (mv5 (dx + ex) (dy + ey)) := by
  rw [List.map_map]
  refine List.map_congr_left fun c _ => ?_
  unfold mv5
  simp only [Function.comp_apply, Prod.mk.injEq, and_true]
  omega
theorem in_wide {a b : Nat} (hi : inPB a b p = true) (ha : a ≤ 16) (hb : b ≤ 16) : Wide 0 p := fun c hc => by have := inPB_at hi hc; omega
/-- A solution is one for twice the generations and displacement. -/
theorem sol_twice {a b GG : Nat} {DX DY : Int} {S : List Int} (hf : FitsR st H N p) (ho : PrbOk a b GG DX DY S) (h : solB st H N a b GG DX DY S p = true) (hg : GG ≤ 3) (hx : -12 ≤ DX ∧ DX ≤ 12) (hy : -12 ≤ DY ∧ DY ≤ 12) :
    solB st H N a b ((2 * GG : Nat) : Int) (2 * DX) (2 * DY) S p = true := by
  obtain ⟨h1, h2, h3, h4⟩ := sol_zero h
  have ha : a ≤ 16 := by have := ho.w; omega
  have hb : b ≤ 16 := by have := ho.h; omega
  have hs1 := box_shift (DX := DX) (DY := DY) hf.pat h1 ha hb (by omega) (by omega)
  have hs2 := box_shift (DX := 2 * DX) (DY := 2 * DY) hf.pat h1 ha hb (by omega) (by omega)
  obtain ⟨_, _, r3⟩ := run_zero h3
  rw [h4, shL_ok hs1] at r3
  have r0 : (itS H N p GG).1 = 0 := by rw [r3]
  have hw := in_wide h1 ha hb
  have hmv := it_move (dx := DX) (dy := DY) hf hw (by omega) r0 (by omega) (by omega) GG (Nat.le_refl _)
  have hadd := it_add r0 GG
  rw [r3] at hadd hmv
  have hmv' : itS H N (p.map (mv DX DY)) GG = (0, (p.map (mv DX DY)).map (mv5 DX DY)) := hmv
  rw [hmv'] at hadd
  have h22 : itS H N p (2 * GG) = (0, p.map (mv5 (2 * DX) (2 * DY))) := by
    rw [show 2 * GG = GG + GG by omega, ← hadd]
    have := mv_mv p DX DY DX DY
    rw [show DX + DX = 2 * DX by omega, show DY + DY = 2 * DY by omega] at this
    exact Prod.ext rfl this
  obtain ⟨e1, e2⟩ := run_fits (m := 2 * GG) hf (by omega)
  rw [h22] at e1 e2
  have := sol_all (st := st) (Hd := H) (N := N) (G := ((2 * GG : Nat) : Int)) (DX := 2 * DX) (DY := 2 * DY) (S := S) h1 h2 e1
  rw [this, e2, shL_ok hs2]
  unfold sameL
  exact decide_eq_true rfl
theorem box_twice {W Hh G DX DY : Int} {S : List Int} (ho : PrbOk W Hh G DX DY S) (hg : G ≤ 3) (hx : -12 ≤ DX ∧ DX ≤ 12) (hy : -12 ≤ DY ∧ DY ≤ 12) : boxE W Hh (2 * G) (2 * DX) (2 * DY) S = 0 :=
  box_iff.2 ⟨ho.w, ho.h, ho.a, by have := ho.g; omega, by omega, by omega, ho.s⟩
end
end Go.Proofs.YtnhapgbjaeaamaaDoor
