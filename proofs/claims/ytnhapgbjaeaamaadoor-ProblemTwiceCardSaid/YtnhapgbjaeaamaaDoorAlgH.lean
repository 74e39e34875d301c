/- Plain facts on moving a pattern home. -/
import Derived.Test.YtnhapgbjaeaamaaDoorPLN
import Derived.Test.YtnhapgbjaeaamaaDoorCell6
namespace Go.Proofs.YtnhapgbjaeaamaaDoor
open Go Go.RowKit
set_option linter.unusedSimpArgs false
set_option linter.unusedVariables false
def hmX (l : List (Int × Int × Int)) : Int := arX (bxPos l)
def hmY (l : List (Int × Int × Int)) : Int := arY (bxPos l)
/-- What Home computes. -/
def hmL (l : List (Int × Int × Int)) : List (Int × Int × Int) := if arOk (bxPos l) = true then l.map (mv5 (-hmX l) (-hmY l)) else l
section
variable {l : List (Int × Int × Int)}
theorem hm_bad (h : rightC l = false ∨ l.length = 0) : arOk (bxPos l) = false ∧ hmL l = l := by
  have h0 : arOk (bxPos l) = false := by
    unfold bxPos
    split
    · rename_i h2
      rcases h with h | h
      · rw [h] at h2; cases h2
      · obtain rfl : l = [] := List.length_eq_zero_iff.1 h; rfl
    · rfl
  exact ⟨h0, by unfold hmL; rw [if_neg (by rw [h0]; simp)]⟩
theorem hm_good (h : rightC l = true) (h0 : 0 < l.length) : arOk (bxPos l) = true ∧ hmL l = l.map (mv5 (-hmX l) (-hmY l)) ∧ hmX l = loX (posC l) (fstX (posC l)) ∧ hmY l = loY (posC l) (fstY (posC l)) := by
  have hb : bxPos l = posC l := by unfold bxPos; rw [if_pos h]
  have ho : arOk (bxPos l) = true := by rw [hb]; exact arOk_right h h0
  refine ⟨ho, by unfold hmL; rw [if_pos ho], ?_, ?_⟩
  · unfold hmX arX; rw [ho, hb]; rfl
  · unfold hmY arY; rw [ho, hb]; rfl
theorem hm_bound (h : rightC l = true) (h0 : 0 < l.length) : -1048576 ≤ hmX l ∧ hmX l ≤ 1048576 ∧ -1048576 ≤ hmY l ∧ hmY l ≤ 1048576 := by
  obtain ⟨_, _, h1, h2⟩ := hm_good h h0
  have hp : ∀ p, p ∈ posC l → Pt p.1 p.2 := fun p hp => by
    unfold posC at hp
    obtain ⟨c, hc, rfl⟩ := List.mem_map.1 hp
    exact (okCells_right h c hc).1
  obtain ⟨c, hc⟩ : ∃ c, l[0]? = some c := ⟨_, List.getElem?_eq_getElem h0⟩
  obtain ⟨x, y, s⟩ := c
  have hf := fst_of (posC_get hc)
  have hpt := (okCells_right h _ (List.mem_of_getElem? hc)).1
  unfold Pt at hpt
  have b1 := (lo_bound (posC l) (fstX (posC l)) hp (by rw [hf.1]; exact ⟨hpt.1, hpt.2.1⟩)).1
  have b2 := (lo_bound (posC l) (fstY (posC l)) hp (by rw [hf.2]; exact ⟨hpt.2.2.1, hpt.2.2.2⟩)).2.1
  rw [h1, h2]
  exact ⟨b1.1, b1.2, b2.1, b2.2⟩
theorem hm_len (l : List (Int × Int × Int)) : (hmL l).length = l.length := by
  unfold hmL; split
  · rw [List.length_map]
  · rfl
end
theorem lo_mv (dx : Int) : ∀ (l : List (Int × Int)) (d : Int) (dy : Int), loX (l.map fun p => (p.1 + dx, p.2 + dy)) (d + dx) = loX l d + dx
  | [], _, _ => rfl
  | p :: l, d, dy => by
    unfold loX
    rw [List.map_cons, List.foldl_cons, List.foldl_cons]
    have := lo_mv dx l (min d p.1) dy
    unfold loX at this
    rw [show min (d + dx) (p.1 + dx) = min d p.1 + dx by omega]
    exact this
theorem loY_mv (dy : Int) : ∀ (l : List (Int × Int)) (d : Int) (dx : Int), loY (l.map fun p => (p.1 + dx, p.2 + dy)) (d + dy) = loY l d + dy
  | [], _, _ => rfl
  | p :: l, d, dx => by
    unfold loY
    rw [List.map_cons, List.foldl_cons, List.foldl_cons]
    have := loY_mv dy l (min d p.2) dx
    unfold loY at this
    rw [show min (d + dy) (p.2 + dy) = min d p.2 + dy by omega]
    exact this
/-- Moving a pattern does not change where its home is. -/
theorem hm_mv {l : List (Int × Int × Int)} {dx dy : Int} (h : rightC l = true) (h2 : rightC (l.map (mv5 dx dy)) = true) : hmL (l.map (mv5 dx dy)) = hmL l := by
  rcases Nat.eq_zero_or_pos l.length with h0 | h0
  · obtain rfl : l = [] := List.length_eq_zero_iff.1 h0
    rfl
  · have h0' : 0 < (l.map (mv5 dx dy)).length := by rw [List.length_map]; exact h0
    obtain ⟨_, e1, x1, y1⟩ := hm_good h h0
    obtain ⟨_, e2, x2, y2⟩ := hm_good h2 h0'
    obtain ⟨c, hc⟩ : ∃ c, l[0]? = some c := ⟨_, List.getElem?_eq_getElem h0⟩
    obtain ⟨x, y, s⟩ := c
    have hf := fst_of (posC_get hc)
    have hc2 : (l.map (mv5 dx dy))[0]? = some (x + dx, y + dy, s) := by rw [List.getElem?_map, hc]; rfl
    have hf2 := fst_of (posC_get hc2)
    have hp : posC (l.map (mv5 dx dy)) = (posC l).map fun p => (p.1 + dx, p.2 + dy) := by
      unfold posC; rw [List.map_map, List.map_map]; rfl
    rw [hf2.1, hp, lo_mv dx (posC l) x dy] at x2
    rw [hf2.2, hp, loY_mv dy (posC l) y dx] at y2
    rw [hf.1] at x1
    rw [hf.2] at y1
    rw [e1, e2, List.map_map]
    refine List.map_congr_left fun c hc => ?_
    show (c.1 + dx + -hmX (l.map (mv5 dx dy)), c.2.1 + dy + -hmY (l.map (mv5 dx dy)), c.2.2) = (c.1 + -hmX l, c.2.1 + -hmY l, c.2.2)
    rw [x1, y1, x2, y2]
    simp only [Prod.mk.injEq, and_true]
    omega
end Go.Proofs.YtnhapgbjaeaamaaDoor
