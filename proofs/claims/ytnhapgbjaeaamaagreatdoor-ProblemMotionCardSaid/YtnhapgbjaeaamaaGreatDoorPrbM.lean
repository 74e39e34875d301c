/- Plain: the motion that the reference finds, and exact solutions. -/
import Derived.Test.YtnhapgbjaeaamaaGreatDoorPrbQ
namespace Go.Proofs.YtnhapgbjaeaamaaGreatDoor
open Go Go.RowKit
set_option linter.unusedSimpArgs false
set_option linter.unusedVariables false
def hd34 (q : List (Int × Int × Int)) : Int × Int × Int := q.getD 0 (0, 0, 0)
/-- What the reference's home computes. -/
def h34 (q : List (Int × Int × Int)) : List (Int × Int × Int) := q.map (mv5 (-(hd34 q).1) (-(hd34 q).2.1))
theorem mv_zero (l : List (Int × Int × Int)) : l.map (mv5 0 0) = l := by
  have : (mv5 0 0) = id := by funext c; unfold mv5; simp
  rw [this, List.map_id]
theorem hd_mv {q : List (Int × Int × Int)} {dx dy : Int} (h : q ≠ []) : hd34 (q.map (mv5 dx dy)) = ((hd34 q).1 + dx, (hd34 q).2.1 + dy, (hd34 q).2.2) := by
  cases q with
  | nil => exact absurd rfl h
  | cons c l => rfl
theorem h34_mv {q : List (Int × Int × Int)} {dx dy : Int} : h34 (q.map (mv5 dx dy)) = h34 q := by
  by_cases h : q = []
  · subst h; rfl
  · unfold h34
    rw [hd_mv h, mv_mv]
    simp only
    rw [show dx + -((hd34 q).1 + dx) = -(hd34 q).1 by omega, show dy + -((hd34 q).2.1 + dy) = -(hd34 q).2.1 by omega]
theorem mv_eq {q p : List (Int × Int × Int)} {ax ay bx by' : Int} (h : q.map (mv5 ax ay) = p.map (mv5 bx by')) : q = p.map (mv5 (bx - ax) (by' - ay)) := by
  have h2 := congrArg (List.map (mv5 (-ax) (-ay))) h
  rw [mv_mv, mv_mv, show ax + -ax = 0 by omega, show ay + -ay = 0 by omega, mv_zero] at h2
  rw [h2]
  rfl
theorem h34_eq {q p : List (Int × Int × Int)} (h : h34 q = h34 p) : q = p.map (mv5 ((hd34 q).1 - (hd34 p).1) ((hd34 q).2.1 - (hd34 p).2.1)) := by
  unfold h34 at h
  have := mv_eq h
  rw [show -(hd34 p).1 - -(hd34 q).1 = (hd34 q).1 - (hd34 p).1 by omega, show -(hd34 p).2.1 - -(hd34 q).2.1 = (hd34 q).2.1 - (hd34 p).2.1 by omega] at this
  exact this
/-- A translate has the same home, and only such a one. -/
theorem hm_iff {q p : List (Int × Int × Int)} (hq : rightC q = true) (hp : rightC p = true) (h0 : p ≠ []) : hmL q = hmL p ↔ (q ≠ [] ∧ h34 q = h34 p) := by
  have hpl : 0 < p.length := by cases p with
    | nil => exact absurd rfl h0
    | cons c l => simp
  constructor
  · intro h
    have hl : q.length = p.length := by rw [← hm_len q, ← hm_len p, h]
    have hq0 : q ≠ [] := fun e => by rw [e] at hl; simp at hl; omega
    refine ⟨hq0, ?_⟩
    rw [(hm_good hq (by omega)).2.1, (hm_good hp hpl).2.1] at h
    rw [mv_eq h, h34_mv]
  · rintro ⟨hq0, h⟩
    have he := h34_eq h
    rw [he] at hq ⊢
    exact hm_mv hp hq
section
variable {st : Int} {H : List (Int × Int)} {N : List (Int × List Int)} {p : List (Int × Int × Int)}
def trn34 (H : List (Int × Int)) (N : List (Int × List Int)) (p : List (Int × Int × Int)) (i : Nat) : Prop := (itS H N p i).2 ≠ [] ∧ h34 (itS H N p i).2 = h34 p
/-- What Find answers. -/
def Fnd (H : List (Int × Int)) (N : List (Int × List Int)) (p : List (Int × Int × Int)) (e : Int) (has : Bool) (P X Y : Int) : Prop :=
  e ≠ 0 ∨ (e = 0 ∧ has = true ∧ ∃ n : Nat, 1 ≤ n ∧ n ≤ 6 ∧ (itS H N p n).1 = 0 ∧ trn34 H N p n ∧ (∀ i, 1 ≤ i → i < n → ¬ trn34 H N p i) ∧ P = (n : Int) ∧ X = (hd34 (itS H N p n).2).1 - (hd34 p).1 ∧ Y = (hd34 (itS H N p n).2).2.1 - (hd34 p).2.1) ∨
  (e = 0 ∧ has = false ∧ ∀ i, 1 ≤ i → i ≤ 6 → ¬ trn34 H N p i)
theorem mid_none {GG : Nat} (hf : FitsR st H N p) (h0 : p ≠ []) : (midL st H N p GG).any (hmS (hmL p)) = false ↔ ∀ i, 1 ≤ i → i < GG → ¬ trn34 H N p i := by
  rw [List.any_eq_false]
  unfold midL
  constructor
  · intro h i h1 h2 ht
    refine h (itS H N p i).2 (List.mem_map.2 ⟨i - 1, List.mem_range.2 (by omega), by rw [show i - 1 + 1 = i by omega]⟩) ?_
    unfold hmS sameL
    exact decide_eq_true ((hm_iff (it_fits hf i).pat hf.pat h0).2 ht)
  · intro h l hl
    obtain ⟨k, hk, rfl⟩ := List.mem_map.1 hl
    have hk' := List.mem_range.1 hk
    unfold hmS sameL
    intro hc
    exact h (k + 1) (by omega) (by omega) ((hm_iff (it_fits hf (k + 1)).pat hf.pat h0).1 (of_decide_eq_true hc))
/-- Exact solutions without symmetries are those in the box with the motion of the problem. -/
theorem motion_law {a b GG : Nat} {DX DY P X Y : Int} {has : Bool} (hf : FitsR st H N p) (ho : PrbOk a b GG DX DY []) (h0 : p ≠ []) (hF : Fnd H N p 0 has P X Y) :
    excB st H N a b GG DX DY [] p = (inPB a b p && has && decide (P = (GG : Int) ∧ X = DX ∧ Y = DY)) := by
  have hg : 1 ≤ GG ∧ GG ≤ 6 := by have := ho.g; omega
  have ha : a ≤ 16 := by have := ho.w; omega
  have hb : b ≤ 16 := by have := ho.h; omega
  have hbeg : begE st H N a b GG DX DY [] p = 0 := by
    have hc : chkE st H N a b GG DX DY [] = 0 := by unfold chkE; rw [if_pos hf.rule]; exact box_iff.2 ho
    unfold begE; rw [if_pos hc]; exact fit_iff.2 hf
  have hpe : p.isEmpty = false := by cases p with
    | nil => exact absurd rfl h0
    | cons c l => rfl
  have hx : excB st H N a b GG DX DY [] p = (solB st H N a b GG DX DY [] p && !((midL st H N p GG).any (hmS (hmL p)))) := by
    unfold excB slvB
    rw [decide_eq_true hbeg, hpe, Int.toNat_natCast, Int.toNat_natCast, Int.toNat_natCast]
    simp
  rw [hx]
  cases hi : inPB a b p with
  | false => rw [sol_out hi]; simp
  | true =>
    have hs := box_shift (DX := DX) (DY := DY) hf.pat hi ha hb ho.dx ho.dy
    obtain ⟨e1, e2⟩ := run_fits (m := GG) hf (by omega)
    -- a solution's last generation is a translate
    have hsol : solB st H N a b GG DX DY [] p = true ↔ (itS H N p GG).1 = 0 ∧ (itS H N p GG).2 = p.map (mv5 DX DY) := by
      rw [← e1, ← e2]
      constructor
      · intro h
        obtain ⟨_, _, h3, h4⟩ := sol_zero h
        exact ⟨h3, by rw [h4, shL_ok hs]; rfl⟩
      · rintro ⟨h3, h4⟩
        rw [sol_all hi (by rfl) h3, h4, shL_ok hs]
        unfold sameL
        exact decide_eq_true rfl
    rw [Bool.eq_iff_iff]
    simp only [Bool.and_eq_true, Bool.not_eq_true', true_and, decide_eq_true_eq]
    rw [hsol, mid_none hf h0]
    have htr : (itS H N p GG).2 = p.map (mv5 DX DY) → trn34 H N p GG := fun h => by
      refine ⟨?_, by rw [h, h34_mv]⟩
      rw [h]
      intro e
      exact h0 (List.map_eq_nil_iff.1 e)
    rcases hF with h | ⟨_, rfl, n, n1, n6, z, t, hno, rfl, rfl, rfl⟩ | ⟨_, rfl, hno⟩
    · exact absurd rfl h
    · constructor
      · rintro ⟨⟨h1, h2⟩, h3⟩
        have ht := htr h2
        have hn : n = GG := by
          rcases Nat.lt_trichotomy n GG with h | h | h
          · exact absurd t (h3 n n1 h)
          · exact h
          · exact absurd ht (hno GG hg.1 h)
        subst hn
        refine ⟨rfl, rfl, ?_, ?_⟩
        · rw [h2, hd_mv h0]; simp only; omega
        · rw [h2, hd_mv h0]; simp only; omega
      · rintro ⟨_, hn, hX, hY⟩
        have hn : n = GG := by omega
        subst hn
        have he := h34_eq t.2
        rw [hX, hY] at he
        exact ⟨⟨z, he⟩, hno⟩
    · constructor
      · rintro ⟨⟨_, h2⟩, _⟩
        exact absurd (htr h2) (hno GG hg.1 hg.2)
      · rintro ⟨h, _⟩; cases h
end
end Go.Proofs.YtnhapgbjaeaamaaGreatDoor
