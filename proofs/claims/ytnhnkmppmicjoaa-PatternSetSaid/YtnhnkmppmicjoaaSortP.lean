/- Plain facts on sorted lists over a strict total order: insertion, the one sorted list, dropping repeats. No program in sight. -/
import Derived.WalkKit
namespace Go.Proofs.Ytnhnkmppmicjoaa
open Go Go.RowKit
set_option linter.unusedSimpArgs false
set_option linter.unusedVariables false
/-- A strict order, total. -/
structure Lin {α : Type} (lt : α → α → Bool) : Prop where
  irr : ∀ a, lt a a = false
  tr : ∀ a b c, lt a b = true → lt b c = true → lt a c = true
  tot : ∀ a b, lt a b = true ∨ a = b ∨ lt b a = true
section
variable {α : Type} {lt : α → α → Bool}
theorem Lin.asym (h : Lin lt) {a b : α} (h1 : lt a b = true) : lt b a = false := by
  cases h2 : lt b a with
  | false => rfl
  | true => have := h.tr _ _ _ h1 h2; rw [h.irr] at this; cases this
/-- Each element is less than all behind it. -/
def SS (lt : α → α → Bool) (l : List α) : Prop := l.Pairwise fun a b => lt a b = true
/-- No element is less than one ahead of it. -/
def SW (lt : α → α → Bool) (l : List α) : Prop := l.Pairwise fun a b => lt b a = false
variable [DecidableEq α]
/-- A sorted list with one element more, each once. -/
def insL (lt : α → α → Bool) : List α → α → List α
  | [], p => [p]
  | q :: l, p => if lt q p = true then q :: insL lt l p else if q = p then q :: l else p :: q :: l
def sortL (lt : α → α → Bool) (l : List α) : List α := l.foldl (insL lt) []
/-- Of neighbours that are equal one is kept. -/
def compL : List α → List α
  | [] => []
  | [a] => [a]
  | a :: b :: l => if a = b then compL (b :: l) else a :: compL (b :: l)
theorem mem_insL (h : Lin lt) : ∀ (l : List α) (p x : α), x ∈ insL lt l p ↔ x = p ∨ x ∈ l
  | [], p, x => by simp [insL]
  | q :: l, p, x => by
    unfold insL
    split
    · rw [List.mem_cons, mem_insL h l p x, List.mem_cons]
      constructor
      · rintro (a | a | a)
        · exact .inr (.inl a)
        · exact .inl a
        · exact .inr (.inr a)
      · rintro (a | a | a)
        · exact .inr (.inl a)
        · exact .inl a
        · exact .inr (.inr a)
    · split
      · rename_i e; subst e
        simp
      · simp
theorem ss_insL (h : Lin lt) : ∀ (l : List α) (p : α), SS lt l → SS lt (insL lt l p)
  | [], p, _ => by simp [insL, SS]
  | q :: l, p, hs => by
    unfold SS at hs
    obtain ⟨h1, h2⟩ := List.pairwise_cons.1 hs
    unfold insL
    split
    · rename_i hq
      refine List.pairwise_cons.2 ⟨fun x hx => ?_, ss_insL h l p h2⟩
      rcases (mem_insL h l p x).1 hx with rfl | hm
      · exact hq
      · exact h1 x hm
    · split
      · exact hs
      · rename_i hq he
        refine List.pairwise_cons.2 ⟨fun x hx => ?_, hs⟩
        have hpq : lt p q = true := by
          rcases h.tot q p with a | a | a
          · exact absurd a hq
          · exact absurd a he
          · exact a
        rcases List.mem_cons.1 hx with rfl | hm
        · exact hpq
        · exact h.tr _ _ _ hpq (h1 x hm)
theorem sortL_aux (h : Lin lt) : ∀ (l out : List α), SS lt out → SS lt (l.foldl (insL lt) out) ∧ ∀ x, x ∈ l.foldl (insL lt) out ↔ x ∈ l ∨ x ∈ out
  | [], out, hs => ⟨hs, fun x => by simp⟩
  | p :: l, out, hs => by
    obtain ⟨h1, h2⟩ := sortL_aux h l (insL lt out p) (ss_insL h out p hs)
    refine ⟨h1, fun x => ?_⟩
    rw [List.foldl_cons, h2, mem_insL h, List.mem_cons]
    constructor
    · rintro (a | a | a)
      · exact .inl (.inr a)
      · exact .inl (.inl a)
      · exact .inr a
    · rintro ((a | a) | a)
      · exact .inr (.inl a)
      · exact .inl a
      · exact .inr (.inr a)
theorem ss_sortL (h : Lin lt) (l : List α) : SS lt (sortL lt l) := (sortL_aux h l [] List.Pairwise.nil).1
theorem mem_sortL (h : Lin lt) (l : List α) (x : α) : x ∈ sortL lt l ↔ x ∈ l := by
  have := (sortL_aux h l [] List.Pairwise.nil).2 x
  simpa [sortL] using this
omit [DecidableEq α] in
/-- There is one sorted list of given elements. -/
theorem ss_unique (h : Lin lt) : ∀ (a b : List α), SS lt a → SS lt b → (∀ x, x ∈ a ↔ x ∈ b) → a = b
  | [], [], _, _, _ => rfl
  | [], y :: b, _, _, he => absurd ((he y).2 (by simp)) (by simp)
  | x :: a, [], _, _, he => absurd ((he x).1 (by simp)) (by simp)
  | x :: a, y :: b, ha, hb, he => by
    obtain ⟨h1, h2⟩ := List.pairwise_cons.1 ha
    obtain ⟨h3, h4⟩ := List.pairwise_cons.1 hb
    have hxy : x = y := by
      rcases List.mem_cons.1 ((he x).1 (by simp)) with e | hm
      · exact e
      · rcases List.mem_cons.1 ((he y).2 (by simp)) with e | hm2
        · exact e.symm
        · have := h.asym (h3 x hm)
          rw [h1 y hm2] at this; cases this
    subst hxy
    rw [ss_unique h a b h2 h4 fun z => ?_]
    constructor
    · intro hz
      rcases List.mem_cons.1 ((he z).1 (by simp [hz])) with e | hm
      · subst e; have := h1 z hz; rw [h.irr] at this; cases this
      · exact hm
    · intro hz
      rcases List.mem_cons.1 ((he z).2 (by simp [hz])) with e | hm
      · subst e; have := h3 z hz; rw [h.irr] at this; cases this
      · exact hm
theorem mem_compL : ∀ (l : List α) (x : α), x ∈ compL l ↔ x ∈ l
  | [], x => by simp [compL]
  | [a], x => by simp [compL]
  | a :: b :: l, x => by
    unfold compL
    split
    · rename_i e; subst e
      rw [mem_compL (a :: l) x]; simp
    · rw [List.mem_cons, mem_compL (b :: l) x, List.mem_cons (a := x) (b := a)]
theorem ss_compL (h : Lin lt) : ∀ (l : List α), SW lt l → SS lt (compL l)
  | [], _ => by simp [compL, SS]
  | [a], _ => by simp [compL, SS]
  | a :: b :: l, hs => by
    unfold SW at hs
    obtain ⟨h1, h2⟩ := List.pairwise_cons.1 hs
    unfold compL
    split
    · exact ss_compL h (b :: l) h2
    · rename_i he
      refine List.pairwise_cons.2 ⟨fun x hx => ?_, ss_compL h (b :: l) h2⟩
      have hx2 := (mem_compL (b :: l) x).1 hx
      have hab : lt a b = true := by
        rcases h.tot a b with q | q | q
        · exact q
        · exact absurd q he
        · rw [h1 b (by simp)] at q; cases q
      rcases List.mem_cons.1 hx2 with rfl | hm
      · exact hab
      · have hbx := (List.pairwise_cons.1 h2).1 x hm
        rcases h.tot b x with q | q | q
        · exact h.tr _ _ _ hab q
        · subst q; exact hab
        · rw [hbx] at q; cases q
theorem comp_sort (h : Lin lt) {l l' : List α} (hp : ∀ x, x ∈ l' ↔ x ∈ l) (hs : SW lt l') : compL l' = sortL lt l :=
  ss_unique h _ _ (ss_compL h l' hs) (ss_sortL h l) fun x => by rw [mem_compL, mem_sortL h, hp]
theorem sort_sorted (h : Lin lt) {l : List α} (hs : SS lt l) : sortL lt l = l := ss_unique h _ _ (ss_sortL h l) hs fun x => mem_sortL h l x
theorem sortL_len (lt : α → α → Bool) (l : List α) : (sortL lt l).length ≤ l.length := by
  have hins : ∀ (o : List α) (p : α), (insL lt o p).length ≤ o.length + 1 := by
    intro o p
    induction o with
    | nil => simp [insL]
    | cons q o ih => unfold insL; split; · simp; exact ih
                     · split <;> simp
  have : ∀ (l o : List α), (l.foldl (insL lt) o).length ≤ o.length + l.length := by
    intro l
    induction l with
    | nil => intro o; simp
    | cons p l ih => intro o; have h1 := ih (insL lt o p); have h2 := hins o p; simp at h1 ⊢; omega
  have := this l []
  simpa [sortL] using this
/-- What the elements ahead of k give, as the loop builds it: the last one kept is the one at k - 1. -/
theorem compL_snoc (l : List α) (a b : α) : compL (l ++ [a] ++ [b]) = if a = b then compL (l ++ [a]) else compL (l ++ [a]) ++ [b] := by
  induction l with
  | nil => simp only [List.nil_append]; unfold compL; split <;> simp_all [compL]
  | cons x l ih =>
    cases l with
    | nil =>
      simp only [List.nil_append, List.cons_append] at ih ⊢
      show (if x = a then compL [a, b] else x :: compL [a, b]) = _
      rw [ih]
      by_cases h1 : a = b <;> by_cases h2 : x = a <;> simp [h1, h2, compL]
    | cons y l =>
      simp only [List.cons_append] at ih ⊢
      show (if x = y then compL (y :: (l ++ [a] ++ [b])) else x :: compL (y :: (l ++ [a] ++ [b]))) = _
      rw [ih]
      show _ = if a = b then (if x = y then compL (y :: (l ++ [a])) else x :: compL (y :: (l ++ [a]))) else (if x = y then compL (y :: (l ++ [a])) else x :: compL (y :: (l ++ [a]))) ++ [b]
      by_cases h1 : a = b <;> by_cases h2 : x = y <;> simp [h1, h2]
omit [DecidableEq α] in
theorem take_two {l : List α} {k : Nat} {a b : α} (hk : 0 < k) (ha : l[k - 1]? = some a) (hb : l[k]? = some b) : l.take (k + 1) = l.take (k - 1) ++ [a] ++ [b] := by
  obtain ⟨j, rfl⟩ : ∃ j, k = j + 1 := ⟨k - 1, by omega⟩
  rw [List.take_add_one, List.take_add_one, show j + 1 - 1 = j by omega] at *
  rw [show l[j]? = some a from ha, hb]; rfl
theorem compL_eq {l : List α} {k : Nat} {a : α} (hk : 0 < k) (ha : l[k - 1]? = some a) (hb : l[k]? = some a) : compL (l.take (k + 1)) = compL (l.take k) := by
  rw [take_two hk ha hb, compL_snoc, if_pos rfl]
  congr 1
  obtain ⟨j, rfl⟩ : ∃ j, k = j + 1 := ⟨k - 1, by omega⟩
  rw [List.take_add_one, show j + 1 - 1 = j by omega] at *
  rw [show l[j]? = some a from ha]; rfl
theorem compL_ne {l : List α} {k : Nat} {a b : α} (hk : 0 < k) (ha : l[k - 1]? = some a) (hb : l[k]? = some b) (h : a ≠ b) : compL (l.take (k + 1)) = compL (l.take k) ++ [b] := by
  rw [take_two hk ha hb, compL_snoc, if_neg h]
  congr 2
  obtain ⟨j, rfl⟩ : ∃ j, k = j + 1 := ⟨k - 1, by omega⟩
  rw [List.take_add_one, show j + 1 - 1 = j by omega] at *
  rw [show l[j]? = some a from ha]; rfl
theorem compL_len (l : List α) : (compL l).length ≤ l.length := by
  induction l with
  | nil => simp [compL]
  | cons a l ih =>
    cases l with
    | nil => simp [compL]
    | cons b l => unfold compL; split <;> simp at ih ⊢ <;> omega
end
end Go.Proofs.Ytnhnkmppmicjoaa
