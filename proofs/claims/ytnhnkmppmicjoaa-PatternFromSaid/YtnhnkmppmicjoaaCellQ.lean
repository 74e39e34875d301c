/- Plain laws on patterns: moving back, states after setting and building, the order. No program in sight. -/
import Derived.Test.YtnhnkmppmicjoaaSetS
import Derived.Test.YtnhnkmppmicjoaaCellP
namespace Go.Proofs.Ytnhnkmppmicjoaa
open Go Go.RowKit
set_option linter.unusedSimpArgs false
set_option linter.unusedVariables false
def mv5 (dx dy : Int) (c : Int × Int × Int) : Int × Int × Int := (c.1 + dx, c.2.1 + dy, c.2.2)
theorem cBef_mv (dx dy : Int) (a b : Int × Int × Int) : cBef (mv5 dx dy a) (mv5 dx dy b) = cBef a b := by
  unfold cBef befP mv5; simp only; congr 1; rw [eq_iff_iff]; omega
theorem rightC_mv {l : List (Int × Int × Int)} {dx dy : Int} (h : rightC l = true) (hp : ∀ c ∈ l, Pt (c.1 + dx) (c.2.1 + dy)) : rightC (l.map (mv5 dx dy)) = true := by
  refine rightC_of (by rw [List.length_map]; exact (rightC_ok h).1) (fun p hm => ?_) ?_
  · obtain ⟨c, hc, rfl⟩ := List.mem_map.1 hm
    obtain ⟨i, hi⟩ := List.getElem?_of_mem hc
    obtain ⟨c1, c2, c3⟩ := c
    have := rightC_elem h hi
    exact ⟨hp _ hc, this.2⟩
  · unfold SSC
    rw [List.pairwise_map]
    exact (rightC_sorted h).imp fun {a b} hab => by rw [cBef_mv]; exact hab
theorem mv_back (l : List (Int × Int × Int)) (dx dy : Int) : (l.map (mv5 dx dy)).map (mv5 (-dx) (-dy)) = l := by
  rw [List.map_map]
  conv => rhs; rw [← List.map_id l]
  refine List.map_congr_left fun c _ => ?_
  obtain ⟨a, b, s⟩ := c
  show (a + dx + -dx, b + dy + -dy, s) = (a, b, s)
  rw [show a + dx + -dx = a by omega, show b + dy + -dy = b by omega]
/-- States. -/
theorem getC_mem : ∀ {l : List (Int × Int × Int)} {x y s : Int}, SSC l → (x, y, s) ∈ l → getC l x y = s
  | [], _, _, _, _, h => by cases h
  | c :: l, x, y, s, hS, h => by
    obtain ⟨h1, h2⟩ := List.pairwise_cons.1 hS
    unfold getC
    rcases List.mem_cons.1 h with e | hm
    · subst e; rw [if_pos ⟨rfl, rfl⟩]
    · have := h1 _ hm
      rw [if_neg (fun ⟨e1, e2⟩ => by
        unfold cBef befP at this
        simp only [decide_eq_true_eq] at this
        omega)]
      exact getC_mem h2 hm
theorem getC_not : ∀ {l : List (Int × Int × Int)} {x y : Int}, (∀ c ∈ l, ¬(c.1 = x ∧ c.2.1 = y)) → getC l x y = 0
  | [], _, _, _ => rfl
  | c :: l, x, y, h => by
    unfold getC
    rw [if_neg (h c (by simp))]
    exact getC_not fun d hd => h d (by simp [hd])
theorem mem_offL {l : List (Int × Int × Int)} {x y : Int} {c : Int × Int × Int} : c ∈ offL l x y ↔ c ∈ l ∧ ¬(c.1 = x ∧ c.2.1 = y) := by
  unfold offL atC
  rw [List.mem_filter, Bool.not_eq_true', decide_eq_false_iff_not]
theorem mem_insC {l : List (Int × Int × Int)} {c d : Int × Int × Int} : d ∈ insC l c ↔ d = c ∨ d ∈ l := by
  rw [(insC_perm l c).mem_iff, List.mem_cons]
theorem ssc_offL {l : List (Int × Int × Int)} {x y : Int} (h : SSC l) : SSC (offL l x y) := by
  unfold offL; exact h.sublist List.filter_sublist
theorem ssc_setR {l : List (Int × Int × Int)} {x y s : Int} (h : SSC l) : SSC (setR l x y s) := by
  unfold setR
  split
  · have h1 := ssc_iff.1 (ssc_offL (x := x) (y := y) h)
    refine ssc_iff.2 ⟨insC_wc _ _ h1.1, ?_⟩
    rw [((insC_perm _ _).map posD).nodup_iff, List.map_cons, List.nodup_cons]
    refine ⟨fun hm => ?_, h1.2⟩
    obtain ⟨c, hc, e⟩ := List.mem_map.1 hm
    have := (mem_offL.1 hc).2
    unfold posD at e
    injection e with e1 e2
    exact this ⟨e1, e2⟩
  · exact ssc_offL h
theorem mem_setR {l : List (Int × Int × Int)} {x y s : Int} {c : Int × Int × Int} : c ∈ setR l x y s ↔ (0 < s ∧ c = (x, y, s)) ∨ (c ∈ l ∧ ¬(c.1 = x ∧ c.2.1 = y)) := by
  unfold setR
  split
  · rename_i h
    rw [mem_insC, mem_offL]; simp [h]
  · rename_i h
    rw [mem_offL]; simp [h]
theorem setE_zero {l : List (Int × Int × Int)} {x y s : Int} (h : setE l x y s = 0) : rightC l = true ∧ validB x y = true ∧ 0 ≤ s ∧ s ≤ 7 ∧ (setR l x y s).length ≤ 5000 := by
  unfold setE at h
  split at h
  · cases h
  · split at h
    · cases h
    · split at h
      · cases h
      · split at h
        · cases h
        · rename_i h1 h2 h3 h4
          exact ⟨by simpa using h1, by simpa using h2, by omega, by omega, by omega⟩
theorem setL_right {l : List (Int × Int × Int)} {x y s : Int} (h : setE l x y s = 0) : rightC (setL l x y s) = true := by
  obtain ⟨h1, h2, h3, h4, h5⟩ := setE_zero h
  rw [setL_ok h]
  refine rightC_of h5 (fun p hp => ?_) (ssc_setR (rightC_sorted h1))
  rcases mem_setR.1 hp with ⟨h0, rfl⟩ | ⟨hm, _⟩
  · exact ⟨validB_iff.1 h2, by simp only; omega, by simp only; omega⟩
  · obtain ⟨i, hi⟩ := List.getElem?_of_mem hm
    obtain ⟨a, b, c⟩ := p
    exact rightC_elem h1 hi
theorem setL_get {l : List (Int × Int × Int)} {x y s : Int} (h : setE l x y s = 0) : getC (setL l x y s) x y = s := by
  obtain ⟨h1, h2, h3, h4, h5⟩ := setE_zero h
  rw [setL_ok h]
  by_cases h0 : 0 < s
  · exact getC_mem (ssc_setR (rightC_sorted h1)) (mem_setR.2 (.inl ⟨h0, rfl⟩))
  · rw [getC_not fun c hc => ?_]
    · omega
    · rcases mem_setR.1 hc with ⟨h7, _⟩ | ⟨_, hn⟩
      · exact absurd h7 h0
      · exact hn
theorem setL_other {l : List (Int × Int × Int)} {x y s a b c : Int} (h : setE l x y s = 0) (hm : (a, b, c) ∈ l) (hn : ¬(a = x ∧ b = y)) : getC (setL l x y s) a b = c := by
  obtain ⟨h1, _⟩ := setE_zero h
  rw [setL_ok h]
  exact getC_mem (ssc_setR (rightC_sorted h1)) (mem_setR.2 (.inr ⟨hm, hn⟩))
theorem frE_zero {l : List (Int × Int × Int)} (h : frE l = 0) : frFirst l = 0 ∧ ssB (srtC (nz l)) = true ∧ (nz l).length ≤ 5000 := by
  unfold frE at h
  split at h
  · split at h
    · split at h
      · exact ⟨‹_›, ‹_›, ‹_›⟩
      · cases h
    · cases h
  · exact absurd h ‹_›
theorem frFirst_all : ∀ {l : List (Int × Int × Int)}, frFirst l = 0 → ∀ c ∈ l, frBad c = 0
  | [], _, c, hc => by cases hc
  | d :: l, h, c, hc => by
    unfold frFirst at h
    split at h
    · rcases List.mem_cons.1 hc with rfl | hm
      · assumption
      · exact frFirst_all h c hm
    · exact absurd h ‹_›
theorem frL_right {l : List (Int × Int × Int)} (h : frE l = 0) : rightC (frL l) = true := by
  obtain ⟨h1, h2, h3⟩ := frE_zero h
  rw [frL_ok h]
  refine rightC_of (by rw [(srtC_perm _).length_eq]; exact h3) (fun p hp => ?_) (ssB_iff.1 h2)
  have hm := (srtC_perm _).mem_iff.1 hp
  unfold nz nzC at hm
  obtain ⟨hm, h0⟩ := List.mem_filter.1 hm
  have hb := frFirst_all h1 p hm
  unfold frBad at hb
  simp only [decide_eq_true_eq] at h0
  split at hb
  · rename_i hv
    split at hb
    · exact ⟨validB_iff.1 hv, by omega, by omega⟩
    · cases hb
  · cases hb
theorem frL_get {l : List (Int × Int × Int)} {x y s : Int} (h : frE l = 0) (hm : (x, y, s) ∈ l) (h0 : s ≠ 0) : getC (frL l) x y = s := by
  obtain ⟨h1, h2, h3⟩ := frE_zero h
  have hb := frFirst_all h1 _ hm
  rw [frL_ok h]
  refine getC_mem (ssB_iff.1 h2) ((srtC_perm _).mem_iff.2 (List.mem_filter.2 ⟨hm, ?_⟩))
  unfold frBad at hb
  unfold nzC
  split at hb
  · split at hb
    · exact decide_eq_true (by simp only at *; omega)
    · cases hb
  · cases hb
/-- How many cells have a state. -/
def nzN (l : List (Int × Int × Int)) : Nat := (l.filter fun c => c.2.2 != 0).length
theorem nzN_frL {l : List (Int × Int × Int)} (h : frE l = 0) : (frL l).length = nzN l := by
  obtain ⟨h1, h2, h3⟩ := frE_zero h
  rw [frL_ok h, (srtC_perm _).length_eq]
  unfold nz nzN
  congr 1
  refine List.filter_congr fun c hc => ?_
  have hb := frFirst_all h1 c hc
  unfold frBad at hb
  unfold nzC
  split at hb
  · split at hb
    · rw [Bool.eq_iff_iff]; simp only [decide_eq_true_eq, bne_iff_ne, ne_eq]; omega
    · cases hb
  · cases hb
theorem nzN_step {l : List (Int × Int × Int)} {j : Nat} {x y s : Int} (h : l[j]? = some (x, y, s)) : nzN (l.take (j + 1)) = nzN (l.take j) + (if s = 0 then 0 else 1) := by
  unfold nzN
  rw [List.take_add_one, List.filter_append, h, List.length_append]
  simp only [Option.toList_some, List.filter_cons, List.filter_nil]
  by_cases h0 : s = 0
  · rw [if_neg (by simp [h0]), if_pos h0]; rfl
  · rw [if_pos (by simpa using h0), if_neg h0]; rfl
theorem nzN_le (l : List (Int × Int × Int)) : nzN l ≤ l.length := List.length_filter_le _ _
/-- The order. -/
theorem cmpI_neg (a b : Int) : cmpI b a = -cmpI a b := by unfold cmpI; (repeat' split) <;> omega
theorem cmpI_bd (a b : Int) : -1 ≤ cmpI a b ∧ cmpI a b ≤ 1 := by unfold cmpI; (repeat' split) <;> omega
theorem cmpC_neg (a b : Int × Int × Int) : cmpC b a = -cmpC a b := by unfold cmpC cmpO cmpP orI cmpI; (repeat' split) <;> omega
theorem cmpC_bd (a b : Int × Int × Int) : -1 ≤ cmpC a b ∧ cmpC a b ≤ 1 := by unfold cmpC cmpO cmpP orI cmpI; (repeat' split) <;> omega
theorem cmpL_bd : ∀ (a b : List (Int × Int × Int)), -1 ≤ cmpL a b ∧ cmpL a b ≤ 1
  | [], [] => by decide
  | [], _ :: _ => by unfold cmpL; omega
  | _ :: _, [] => by unfold cmpL; omega
  | a :: l, b :: r => by
    unfold cmpL
    split
    · exact cmpL_bd l r
    · exact cmpC_bd a b
theorem cmpL_neg : ∀ (a b : List (Int × Int × Int)), cmpL b a = -cmpL a b
  | [], [] => by decide
  | [], _ :: _ => rfl
  | _ :: _, [] => rfl
  | a :: l, b :: r => by
    unfold cmpL
    by_cases h : a = b
    · rw [if_pos h, if_pos h.symm]; exact cmpL_neg l r
    · rw [if_neg h, if_neg (fun e => h e.symm)]; exact cmpC_neg a b
theorem cmpL_zero : ∀ (a b : List (Int × Int × Int)), cmpL a b = 0 ↔ a = b
  | [], [] => by simp [cmpL]
  | [], _ :: _ => by simp [cmpL]
  | _ :: _, [] => by simp [cmpL]
  | a :: l, b :: r => by
    unfold cmpL
    by_cases h : a = b
    · rw [if_pos h, cmpL_zero l r, h]; simp
    · rw [if_neg h]
      constructor
      · intro h2; exact absurd (cmpC_zero h2) h
      · intro h2; injection h2 with h3; exact absurd h3 h
theorem cmpC_le {a b : Int × Int × Int} : cmpC a b ≤ 0 ↔ (a.2.1 < b.2.1 ∨ a.2.1 = b.2.1 ∧ (a.1 < b.1 ∨ a.1 = b.1 ∧ a.2.2 ≤ b.2.2)) := by
  unfold cmpC cmpO cmpP orI cmpI; (repeat' split) <;> omega
theorem cmpC_tr {a b c : Int × Int × Int} (h1 : cmpC a b ≤ 0) (h2 : cmpC b c ≤ 0) : cmpC a c ≤ 0 := by
  rw [cmpC_le] at *; omega
theorem cmpL_tr : ∀ (a b c : List (Int × Int × Int)), cmpL a b ≤ 0 → cmpL b c ≤ 0 → cmpL a c ≤ 0
  | [], _, [], _, _ => by simp [cmpL]
  | [], _, _ :: _, _, _ => by simp [cmpL]
  | _ :: _, [], _, h, _ => by simp [cmpL] at h
  | _ :: _, _ :: _, [], _, h => by simp [cmpL] at h
  | a :: l, b :: r, c :: q, h1, h2 => by
    unfold cmpL at *
    by_cases e1 : a = b
    · subst e1
      rw [if_pos rfl] at h1
      by_cases e2 : a = c
      · subst e2
        rw [if_pos rfl] at h2 ⊢
        exact cmpL_tr l r q h1 h2
      · rw [if_neg e2] at h2 ⊢; exact h2
    · rw [if_neg e1] at h1
      by_cases e2 : b = c
      · subst e2
        rw [if_neg e1]; exact h1
      · rw [if_neg e2] at h2
        by_cases e3 : a = c
        · subst e3
          exfalso
          have := cmpC_neg a b
          have h0 : cmpC a b ≠ 0 := fun h => e1 (cmpC_zero h)
          omega
        · rw [if_neg e3]; exact cmpC_tr h1 h2
theorem cmpI_add (a b d : Int) : cmpI (a + d) (b + d) = cmpI a b := by
  unfold cmpI; (repeat' split) <;> omega
theorem cmpC_mv (dx dy : Int) (a b : Int × Int × Int) : cmpC (mv5 dx dy a) (mv5 dx dy b) = cmpC a b := by
  unfold cmpC cmpO cmpP mv5; simp only [cmpI_add]
theorem cmpL_mv (dx dy : Int) : ∀ (a b : List (Int × Int × Int)), cmpL (a.map (mv5 dx dy)) (b.map (mv5 dx dy)) = cmpL a b
  | [], [] => rfl
  | [], _ :: _ => rfl
  | _ :: _, [] => rfl
  | a :: l, b :: r => by
    rw [List.map_cons, List.map_cons]
    unfold cmpL
    by_cases h : a = b
    · rw [if_pos h, if_pos (by rw [h])]; exact cmpL_mv dx dy l r
    · rw [if_neg h, if_neg (fun e => h (by
        obtain ⟨a1, a2, a3⟩ := a
        obtain ⟨b1, b2, b3⟩ := b
        unfold mv5 at e
        simp only [Prod.mk.injEq] at e ⊢
        omega)), cmpC_mv]
theorem sameL_cmp (a b : List (Int × Int × Int)) : sameL a b = (cmpL a b == 0) := by
  unfold sameL
  rw [Bool.eq_iff_iff, decide_eq_true_eq, beq_iff_eq, cmpL_zero]
end Go.Proofs.Ytnhnkmppmicjoaa
