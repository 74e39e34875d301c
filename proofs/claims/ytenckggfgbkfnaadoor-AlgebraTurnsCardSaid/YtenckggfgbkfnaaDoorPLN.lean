/- Plain facts on sorted lists over a strict total order: insertion, the one sorted list, dropping repeats. No program in sight. Plain arithmetic on positions and boxes: no program in sight. Plain arithmetic of the eight symmetries: no program in sight. Plain facts on lists: membership and equality as the programs test them. Lists of positions: the first index of one. Valid neighbourhoods: plain facts. Plain facts on boxes: meet, join, grow, around, the positions of a box. No program in sight. Plain facts on patterns: lists of cells. No program in sight. Plain facts on building patterns out of cells in any order. No program in sight. Plain facts on setting the state at a position. No program in sight. Plain facts: the pattern with another state at a position, out of what a search says. No program in sight. Plain facts on boxes: positions of Meet and of Join; Grow there and back; the box around a box's positions. Plain laws on patterns: moving back, states after setting and building, the order. No program in sight. Plain facts on merging patterns. No program in sight. Plain facts on the algebra of patterns: what its functions and their references compute, and its laws. No program in sight. Plain facts on the group of the eight symmetries: no program in sight. Plain facts: the inverse leads back; two applications are one. Plain facts on cutting, turning and moving patterns home. No program in sight. Plain facts on tiling: what Tile computes. No program in sight. -/
import Derived.WalkKit
import Derived.Laws.BitsLemmas
set_option linter.unusedSimpArgs false
set_option linter.unusedVariables false
section
namespace Go.Proofs.YtenckggfgbkfnaaDoor
open Go Go.RowKit
/-- A strict order, total. -/
structure Lin {α : Type} (lt : α → α → Bool) : Prop where
  irr : ∀ a, lt a a = false
  tr : ∀ a b c, lt a b = true → lt b c = true → lt a c = true
  tot : ∀ a b, lt a b = true ∨ a = b ∨ lt b a = true
section
variable {α : Type} {lt : α → α → Bool}
theorem Lin.asym (h : Lin lt) {a b : α} (h1 : lt a b = true) : lt b a = false := by
  cases h2 : lt b a with
  | false => rfl
  | true => have := h.tr _ _ _ h1 h2; rw [h.irr] at this; cases this
/-- Each element is less than all behind it. -/
def SS (lt : α → α → Bool) (l : List α) : Prop := l.Pairwise fun a b => lt a b = true
/-- No element is less than one ahead of it. -/
def SW (lt : α → α → Bool) (l : List α) : Prop := l.Pairwise fun a b => lt b a = false
variable [DecidableEq α]
/-- A sorted list with one element more, each once. -/
def insL (lt : α → α → Bool) : List α → α → List α
  | [], p => [p]
  | q :: l, p => if lt q p = true then q :: insL lt l p else if q = p then q :: l else p :: q :: l
def sortL (lt : α → α → Bool) (l : List α) : List α := l.foldl (insL lt) []
/-- Of neighbours that are equal one is kept. -/
def compL : List α → List α
  | [] => []
  | [a] => [a]
  | a :: b :: l => if a = b then compL (b :: l) else a :: compL (b :: l)
theorem mem_insL (h : Lin lt) : ∀ (l : List α) (p x : α), x ∈ insL lt l p ↔ x = p ∨ x ∈ l
  | [], p, x => by simp [insL]
  | q :: l, p, x => by
    unfold insL
    split
    · rw [List.mem_cons, mem_insL h l p x, List.mem_cons]
      constructor
      · rintro (a | a | a)
        · exact .inr (.inl a)
        · exact .inl a
        · exact .inr (.inr a)
      · rintro (a | a | a)
        · exact .inr (.inl a)
        · exact .inl a
        · exact .inr (.inr a)
    · split
      · rename_i e; subst e
        simp
      · simp
theorem ss_insL (h : Lin lt) : ∀ (l : List α) (p : α), SS lt l → SS lt (insL lt l p)
  | [], p, _ => by simp [insL, SS]
  | q :: l, p, hs => by
    unfold SS at hs
    obtain ⟨h1, h2⟩ := List.pairwise_cons.1 hs
    unfold insL
    split
    · rename_i hq
      refine List.pairwise_cons.2 ⟨fun x hx => ?_, ss_insL h l p h2⟩
      rcases (mem_insL h l p x).1 hx with rfl | hm
      · exact hq
      · exact h1 x hm
    · split
      · exact hs
      · rename_i hq he
        refine List.pairwise_cons.2 ⟨fun x hx => ?_, hs⟩
        have hpq : lt p q = true := by
          rcases h.tot q p with a | a | a
          · exact absurd a hq
          · exact absurd a he
          · exact a
        rcases List.mem_cons.1 hx with rfl | hm
        · exact hpq
        · exact h.tr _ _ _ hpq (h1 x hm)
theorem sortL_aux (h : Lin lt) : ∀ (l out : List α), SS lt out → SS lt (l.foldl (insL lt) out) ∧ ∀ x, x ∈ l.foldl (insL lt) out ↔ x ∈ l ∨ x ∈ out
  | [], out, hs => ⟨hs, fun x => by simp⟩
  | p :: l, out, hs => by
    obtain ⟨h1, h2⟩ := sortL_aux h l (insL lt out p) (ss_insL h out p hs)
    refine ⟨h1, fun x => ?_⟩
    rw [List.foldl_cons, h2, mem_insL h, List.mem_cons]
    constructor
    · rintro (a | a | a)
      · exact .inl (.inr a)
      · exact .inl (.inl a)
      · exact .inr a
    · rintro ((a | a) | a)
      · exact .inr (.inl a)
      · exact .inl a
      · exact .inr (.inr a)
theorem ss_sortL (h : Lin lt) (l : List α) : SS lt (sortL lt l) := (sortL_aux h l [] List.Pairwise.nil).1
theorem mem_sortL (h : Lin lt) (l : List α) (x : α) : x ∈ sortL lt l ↔ x ∈ l := by
  have := (sortL_aux h l [] List.Pairwise.nil).2 x
  simpa [sortL] using this
omit [DecidableEq α] in
/-- There is one sorted list of given elements. -/
theorem ss_unique (h : Lin lt) : ∀ (a b : List α), SS lt a → SS lt b → (∀ x, x ∈ a ↔ x ∈ b) → a = b
  | [], [], _, _, _ => rfl
  | [], y :: b, _, _, he => absurd ((he y).2 (by simp)) (by simp)
  | x :: a, [], _, _, he => absurd ((he x).1 (by simp)) (by simp)
  | x :: a, y :: b, ha, hb, he => by
    obtain ⟨h1, h2⟩ := List.pairwise_cons.1 ha
    obtain ⟨h3, h4⟩ := List.pairwise_cons.1 hb
    have hxy : x = y := by
      rcases List.mem_cons.1 ((he x).1 (by simp)) with e | hm
      · exact e
      · rcases List.mem_cons.1 ((he y).2 (by simp)) with e | hm2
        · exact e.symm
        · have := h.asym (h3 x hm)
          rw [h1 y hm2] at this; cases this
    subst hxy
    rw [ss_unique h a b h2 h4 fun z => ?_]
    constructor
    · intro hz
      rcases List.mem_cons.1 ((he z).1 (by simp [hz])) with e | hm
      · subst e; have := h1 z hz; rw [h.irr] at this; cases this
      · exact hm
    · intro hz
      rcases List.mem_cons.1 ((he z).2 (by simp [hz])) with e | hm
      · subst e; have := h3 z hz; rw [h.irr] at this; cases this
      · exact hm
theorem mem_compL : ∀ (l : List α) (x : α), x ∈ compL l ↔ x ∈ l
  | [], x => by simp [compL]
  | [a], x => by simp [compL]
  | a :: b :: l, x => by
    unfold compL
    split
    · rename_i e; subst e
      rw [mem_compL (a :: l) x]; simp
    · rw [List.mem_cons, mem_compL (b :: l) x, List.mem_cons (a := x) (b := a)]
theorem ss_compL (h : Lin lt) : ∀ (l : List α), SW lt l → SS lt (compL l)
  | [], _ => by simp [compL, SS]
  | [a], _ => by simp [compL, SS]
  | a :: b :: l, hs => by
    unfold SW at hs
    obtain ⟨h1, h2⟩ := List.pairwise_cons.1 hs
    unfold compL
    split
    · exact ss_compL h (b :: l) h2
    · rename_i he
      refine List.pairwise_cons.2 ⟨fun x hx => ?_, ss_compL h (b :: l) h2⟩
      have hx2 := (mem_compL (b :: l) x).1 hx
      have hab : lt a b = true := by
        rcases h.tot a b with q | q | q
        · exact q
        · exact absurd q he
        · rw [h1 b (by simp)] at q; cases q
      rcases List.mem_cons.1 hx2 with rfl | hm
      · exact hab
      · have hbx := (List.pairwise_cons.1 h2).1 x hm
        rcases h.tot b x with q | q | q
        · exact h.tr _ _ _ hab q
        · subst q; exact hab
        · rw [hbx] at q; cases q
theorem comp_sort (h : Lin lt) {l l' : List α} (hp : ∀ x, x ∈ l' ↔ x ∈ l) (hs : SW lt l') : compL l' = sortL lt l :=
  ss_unique h _ _ (ss_compL h l' hs) (ss_sortL h l) fun x => by rw [mem_compL, mem_sortL h, hp]
theorem sort_sorted (h : Lin lt) {l : List α} (hs : SS lt l) : sortL lt l = l := ss_unique h _ _ (ss_sortL h l) hs fun x => mem_sortL h l x
theorem sortL_len (lt : α → α → Bool) (l : List α) : (sortL lt l).length ≤ l.length := by
  have hins : ∀ (o : List α) (p : α), (insL lt o p).length ≤ o.length + 1 := by
    intro o p
    induction o with
    | nil => simp [insL]
    | cons q o ih => unfold insL; split; · simp; exact ih
                     · split <;> simp
  have : ∀ (l o : List α), (l.foldl (insL lt) o).length ≤ o.length + l.length := by
    intro l
    induction l with
    | nil => intro o; simp
    | cons p l ih => intro o; have h1 := ih (insL lt o p); have h2 := hins o p; simp at h1 ⊢; omega
  have := this l []
  simpa [sortL] using this
/-- What the elements ahead of k give, as the loop builds it: the last one kept is the one at k - 1. -/
theorem compL_snoc (l : List α) (a b : α) : compL (l ++ [a] ++ [b]) = if a = b then compL (l ++ [a]) else compL (l ++ [a]) ++ [b] := by
  induction l with
  | nil => simp only [List.nil_append]; unfold compL; split <;> simp_all [compL]
  | cons x l ih =>
    cases l with
    | nil =>
      simp only [List.nil_append, List.cons_append] at ih ⊢
      show (if x = a then compL [a, b] else x :: compL [a, b]) = _
      rw [ih]
      by_cases h1 : a = b <;> by_cases h2 : x = a <;> simp [h1, h2, compL]
    | cons y l =>
      simp only [List.cons_append] at ih ⊢
      show (if x = y then compL (y :: (l ++ [a] ++ [b])) else x :: compL (y :: (l ++ [a] ++ [b]))) = _
      rw [ih]
      show _ = if a = b then (if x = y then compL (y :: (l ++ [a])) else x :: compL (y :: (l ++ [a]))) else (if x = y then compL (y :: (l ++ [a])) else x :: compL (y :: (l ++ [a]))) ++ [b]
      by_cases h1 : a = b <;> by_cases h2 : x = y <;> simp [h1, h2]
omit [DecidableEq α] in
theorem take_two {l : List α} {k : Nat} {a b : α} (hk : 0 < k) (ha : l[k - 1]? = some a) (hb : l[k]? = some b) : l.take (k + 1) = l.take (k - 1) ++ [a] ++ [b] := by
  obtain ⟨j, rfl⟩ : ∃ j, k = j + 1 := ⟨k - 1, by omega⟩
  rw [List.take_add_one, List.take_add_one, show j + 1 - 1 = j by omega] at *
  rw [show l[j]? = some a from ha, hb]; rfl
theorem compL_eq {l : List α} {k : Nat} {a : α} (hk : 0 < k) (ha : l[k - 1]? = some a) (hb : l[k]? = some a) : compL (l.take (k + 1)) = compL (l.take k) := by
  rw [take_two hk ha hb, compL_snoc, if_pos rfl]
  congr 1
  obtain ⟨j, rfl⟩ : ∃ j, k = j + 1 := ⟨k - 1, by omega⟩
  rw [List.take_add_one, show j + 1 - 1 = j by omega] at *
  rw [show l[j]? = some a from ha]; rfl
theorem compL_ne {l : List α} {k : Nat} {a b : α} (hk : 0 < k) (ha : l[k - 1]? = some a) (hb : l[k]? = some b) (h : a ≠ b) : compL (l.take (k + 1)) = compL (l.take k) ++ [b] := by
  rw [take_two hk ha hb, compL_snoc, if_neg h]
  congr 2
  obtain ⟨j, rfl⟩ : ∃ j, k = j + 1 := ⟨k - 1, by omega⟩
  rw [List.take_add_one, show j + 1 - 1 = j by omega] at *
  rw [show l[j]? = some a from ha]; rfl
theorem compL_len (l : List α) : (compL l).length ≤ l.length := by
  induction l with
  | nil => simp [compL]
  | cons a l ih =>
    cases l with
    | nil => simp [compL]
    | cons b l => unfold compL; split <;> simp at ih ⊢ <;> omega
end
end Go.Proofs.YtenckggfgbkfnaaDoor
end
section
namespace Go.Proofs.YtenckggfgbkfnaaDoor
open Go Go.RowKit
def inB (n : Int) : Bool := decide (-1048576 ≤ n ∧ n ≤ 1048576)
def rightB (x y w h : Int) : Bool := decide (1 ≤ w ∧ w ≤ 2097153 ∧ 1 ≤ h ∧ h ≤ 2097153 ∧ -1048576 ≤ x ∧ x ≤ 1048576 ∧ -1048576 ≤ y ∧ y ≤ 1048576 ∧ x + w - 1 ≤ 1048576 ∧ y + h - 1 ≤ 1048576)
theorem rightB_iff {x y w h : Int} : rightB x y w h = true ↔ (1 ≤ w ∧ w ≤ 2097153 ∧ 1 ≤ h ∧ h ≤ 2097153 ∧ -1048576 ≤ x ∧ x ≤ 1048576 ∧ -1048576 ≤ y ∧ y ≤ 1048576 ∧ x + w - 1 ≤ 1048576 ∧ y + h - 1 ≤ 1048576) := by
  unfold rightB; exact decide_eq_true_iff
theorem rightB_no {x y w h : Int} (hn : ¬ (1 ≤ w ∧ w ≤ 2097153 ∧ 1 ≤ h ∧ h ≤ 2097153 ∧ -1048576 ≤ x ∧ x ≤ 1048576 ∧ -1048576 ≤ y ∧ y ≤ 1048576 ∧ x + w - 1 ≤ 1048576 ∧ y + h - 1 ≤ 1048576)) : rightB x y w h = false := by
  unfold rightB; exact decide_eq_false hn
def validB (x y : Int) : Bool := decide (-1048576 ≤ x ∧ x ≤ 1048576 ∧ -1048576 ≤ y ∧ y ≤ 1048576)
def boxInB (x y w h px py : Int) : Bool := rightB x y w h && decide (x ≤ px ∧ px < x + w ∧ y ≤ py ∧ py < y + h)
end Go.Proofs.YtenckggfgbkfnaaDoor
end
section
namespace Go.Proofs.YtenckggfgbkfnaaDoor
open Go Go.RowKit

theorem i64_and7 (n : Int) : bits .and .i64 n 7 = n % 8 := by
  have h7 : (BitVec.ofInt 64 7).toNat = 2 ^ 3 - 1 := by decide
  have key : (BitVec.ofInt 64 n &&& BitVec.ofInt 64 7).toNat = (n % ((2 ^ 64 : Nat) : Int)).toNat % 2 ^ 3 := by
    rw [BitVec.toNat_and, BitVec.toNat_ofInt, h7, Nat.and_two_pow_sub_one_eq_mod]
  show IntKind.i64.wrap ((BitVec.ofInt 64 n &&& BitVec.ofInt 64 7).toNat : Nat) = n % 8
  rw [key, IntKind.wrap_i64]
  omega

/-- The first number below n at which p holds; -1 if there is none. -/
def firstAt (p : Nat → Bool) : Nat → Int
  | 0 => -1
  | n + 1 => match firstAt p n with
    | -1 => if p n then n else -1
    | r => r
theorem firstAt_none {p : Nat → Bool} : ∀ {n : Nat}, (∀ i, i < n → p i = false) → firstAt p n = -1
  | 0, _ => rfl
  | n + 1, h => by
    have h1 := firstAt_none (p := p) (n := n) (fun i hi => h i (by omega))
    simp [firstAt, h1, h n (by omega)]
theorem firstAt_nonneg {p : Nat → Bool} {i : Nat} (hi : p i = true) (hj : ∀ j, j < i → p j = false) : ∀ {n : Nat}, i < n → firstAt p n = (i : Int)
  | 0, h => absurd h (by omega)
  | n + 1, h => by
    by_cases e : i = n
    · subst e
      have h1 := firstAt_none (p := p) (n := i) hj
      simp [firstAt, h1, hi]
    · have h1 := firstAt_nonneg hi hj (n := n) (by omega)
      simp only [firstAt, h1]
      split
      · rename_i h2; omega
      · rename_i h2; rfl
theorem firstAt_congr {p q : Nat → Bool} : ∀ {n : Nat}, (∀ i, i < n → p i = q i) → firstAt p n = firstAt q n
  | 0, _ => rfl
  | n + 1, h => by
    simp only [firstAt]
    rw [firstAt_congr (p := p) (q := q) (n := n) (fun i hi => h i (by omega)), h n (by omega)]

/-- The program's table of matrices. -/
def mat (r j : Nat) : Int := [1, 0, 0, 1, 0, -1, 1, 0, -1, 0, 0, -1, 0, 1, -1, 0, -1, 0, 0, 1, 0, -1, -1, 0, 1, 0, 0, -1, 0, 1, 1, 0].getD (r * 4 + j) 0
def r8 (k : Int) : Nat := (k % 8).toNat
theorem r8_lt (k : Int) : r8 k < 8 := by unfold r8; omega
theorem r8_cast (k : Int) : ((r8 k : Nat) : Int) = k % 8 := by unfold r8; omega
/-- What Apply computes. -/
def app (k x y : Int) : Int × Int :=
  (wrap64 (wrap64 (mat (r8 k) 0 * x) + wrap64 (mat (r8 k) 1 * y)), wrap64 (wrap64 (mat (r8 k) 2 * x) + wrap64 (mat (r8 k) 3 * y)))
/-- The number of a matrix in the table. -/
def matP (a b c d : Int) (r : Nat) : Bool := decide (mat r 0 = a ∧ mat r 1 = b ∧ mat r 2 = c ∧ mat r 3 = d)
def matIx (a b c d : Int) : Int := firstAt (matP a b c d) 8
theorem first_step {p : Nat → Bool} {j : Nat} (h : ∀ r, r < j → p r = false) (hj : p j = false) : ∀ r, r < j + 1 → p r = false := by
  intro r hr
  by_cases e : r = j
  · rw [e]; exact hj
  · exact h r (by omega)
/-- What Compose computes. -/
def comp (a b : Int) : Int :=
  let x := app b (app a 1 0).1 (app a 1 0).2
  let y := app b (app a 0 1).1 (app a 0 1).2
  matIx x.1 y.1 x.2 y.2
/-- What Inverse computes. -/
def invP (k : Int) (i : Nat) : Bool := decide (comp k i = 0)
def orZero (r : Int) : Int := if r = -1 then 0 else r
def inv (k : Int) : Int := orZero (firstAt (invP k) 8)

/-- What the reference's quarter turn does. -/
def quart : Nat → Int × Int → Int × Int
  | 0, p => p
  | n + 1, p => (wrap64 (-(quart n p).2), (quart n p).1)
/-- What the reference's Apply computes. -/
def rapp (k x y : Int) : Int × Int := if 4 ≤ k % 8 then quart (k % 8 - 4).toNat (wrap64 (-x), y) else quart (k % 8).toNat (x, y)
/-- What the reference's find and Compose compute. -/
def rfindP (x y : Int) (k : Nat) : Bool := decide ((rapp k 1 2).1 = x ∧ (rapp k 1 2).2 = y)
def rfind (x y : Int) : Int := orZero (firstAt (rfindP x y) 8)
def rcomp (a b : Int) : Int := let p := rapp a 1 2; let q := rapp b p.1 p.2; rfind q.1 q.2
def rinvP (k : Int) (i : Nat) : Bool := decide (rcomp k i = 0)
def rinv (k : Int) : Int := orZero (firstAt (rinvP k) 8)
theorem orZero_found {p : Nat → Bool} {i n : Nat} (hi : p i = true) (hj : ∀ j, j < i → p j = false) (h : i < n) : orZero (firstAt p n) = (i : Int) := by
  rw [firstAt_nonneg hi hj h]; unfold orZero; rw [if_neg (by omega)]
theorem orZero_none {p : Nat → Bool} {n : Nat} (h : ∀ i, i < n → p i = false) : orZero (firstAt p n) = 0 := by
  rw [firstAt_none h]; rfl

theorem r8_cases (k : Int) : k % 8 = 0 ∨ k % 8 = 1 ∨ k % 8 = 2 ∨ k % 8 = 3 ∨ k % 8 = 4 ∨ k % 8 = 5 ∨ k % 8 = 6 ∨ k % 8 = 7 := by omega
def I64 (n : Int) : Prop := -9223372036854775808 ≤ n ∧ n ≤ 9223372036854775807
theorem app_mod (k x y : Int) : app k x y = app (k % 8) x y := by unfold app r8; rw [Int.emod_emod_of_dvd _ (by decide)]
theorem rapp_mod (k x y : Int) : rapp k x y = rapp (k % 8) x y := by unfold rapp; rw [Int.emod_emod_of_dvd _ (by decide)]
/-- Both applications agree. -/
theorem app_eq (k x y : Int) (hx : I64 x) (hy : I64 y) : app k x y = rapp k x y := by
  rw [app_mod, rapp_mod]
  unfold I64 at hx hy
  rcases r8_cases k with h | h | h | h | h | h | h | h <;> rw [h] <;>
    simp [app, rapp, r8, mat, quart, wrap64] <;> omega
end Go.Proofs.YtenckggfgbkfnaaDoor
end
section
namespace Go.Proofs.YtenckggfgbkfnaaDoor
open Go Go.RowKit
def hasI (l : List Int) (m : Int) : Bool := l.contains m
theorem contains_step {l : List Int} {i : Nat} {x m : Int} (h : ∀ j, j < i → l[j]? ≠ some m) (hx : l[i]? = some x) (hne : x ≠ m) : ∀ j, j < i + 1 → l[j]? ≠ some m := by
  intro j hj
  by_cases e : j = i
  · rw [e, hx]; intro h'; exact hne (Option.some.inj h')
  · exact h j (by omega)
theorem contains_none {l : List Int} {n : Nat} {m : Int} (hl : l.length = n) (h : ∀ j, j < n → l[j]? ≠ some m) : hasI l m = false := by
  unfold hasI
  rw [Bool.eq_false_iff]
  intro hc
  have hm : m ∈ l := by simpa using hc
  obtain ⟨i, hi, e⟩ := List.getElem_of_mem hm
  exact h i (by omega) (by rw [List.getElem?_eq_getElem hi, e])
theorem contains_some {l : List Int} {i : Nat} {m : Int} (hx : l[i]? = some m) : hasI l m = true := by
  unfold hasI
  have : m ∈ l := List.mem_of_getElem? hx
  simpa using this
def sameL {α : Type} [DecidableEq α] (a b : List α) : Bool := decide (a = b)
theorem sameL_len {α : Type} [DecidableEq α] {a b : List α} {n m : Nat} (ha : a.length = n) (hb : b.length = m) (h : n ≠ m) : sameL a b = false :=
  decide_eq_false fun e => h (by rw [← ha, ← hb, e])
theorem sameL_ne {α : Type} [DecidableEq α] {a b : List α} {j : Nat} {x y : α} (hx : a[j]? = some x) (hy : b[j]? = some y) (h : x ≠ y) : sameL a b = false :=
  decide_eq_false fun e => h (by rw [e, hy] at hx; exact (Option.some.inj hx).symm)
theorem sameL_all {α : Type} [DecidableEq α] {a b : List α} {n : Nat} (ha : a.length = n) (hb : b.length = n) (h : ∀ i, i < n → a[i]? = b[i]?) : sameL a b = true :=
  decide_eq_true (List.ext_getElem? fun i => by
    by_cases hi : i < n
    · exact h i hi
    · rw [List.getElem?_eq_none (by omega), List.getElem?_eq_none (by omega)])
theorem same_step {α : Type} {a b : List α} {j : Nat} (h : ∀ i, i < j → a[i]? = b[i]?) (hj : a[j]? = b[j]?) : ∀ i, i < j + 1 → a[i]? = b[i]? := by
  intro i hi
  by_cases e : i = j
  · rw [e]; exact hj
  · exact h i (by omega)
theorem hasI_iff {l : List Int} {m : Int} : hasI l m = true ↔ m ∈ l := by unfold hasI; simp
theorem hasI_no {l : List Int} {m : Int} (h : hasI l m = false) : m ∉ l := fun hm => by rw [hasI_iff.2 hm] at h; cases h
/-- A list without repetition of numbers below n has at most n of them. -/
theorem nodup_len : ∀ (n : Nat) (L : List Int), L.Nodup → (∀ x, x ∈ L → ∃ k : Nat, x = (k : Int) ∧ k < n) → L.length ≤ n
  | 0, L, _, h => by
    cases L with
    | nil => simp
    | cons y L => obtain ⟨k, _, hk⟩ := h y (by simp); omega
  | n + 1, L, hd, h => by
    have h1 := nodup_len n (L.erase (n : Int)) (hd.erase _) fun x hx => by
      rw [hd.mem_erase_iff] at hx
      obtain ⟨k, rfl, hk⟩ := h x hx.2
      exact ⟨k, rfl, by omega⟩
    have h2 := List.length_erase (a := (n : Int)) (l := L)
    split at h2 <;> omega
end Go.Proofs.YtenckggfgbkfnaaDoor
end
section
namespace Go.Proofs.YtenckggfgbkfnaaDoor
open Go Go.RowKit
def isAt (l : List (Int × Int)) (x y : Int) (i : Nat) : Bool := decide (l[i]? = some (x, y))
/-- The first index of a position; -1 if there is none. -/
def idxP (l : List (Int × Int)) (x y : Int) : Int := firstAt (isAt l x y) l.length
def hasP (l : List (Int × Int)) (x y : Int) : Bool := decide (0 ≤ idxP l x y)
theorem isAt_no {l : List (Int × Int)} {x y a b : Int} {i : Nat} (h : l[i]? = some (a, b)) (hne : ¬a = x ∨ ¬b = y) : isAt l x y i = false := by
  unfold isAt; rw [h]; simp; intro h1; rcases hne with h2 | h2
  · exact absurd h1 h2
  · exact h2
theorem isAt_yes {l : List (Int × Int)} {x y : Int} {i : Nat} (h : l[i]? = some (x, y)) : isAt l x y i = true := by
  unfold isAt; rw [h]; simp
theorem idxP_found {l : List (Int × Int)} {n : Nat} {x y : Int} {i : Nat} (hl : l.length = n) (hi : i < n) (h : l[i]? = some (x, y)) (hno : ∀ r, r < i → isAt l x y r = false) : (i : Int) = idxP l x y := by
  unfold idxP; rw [hl]; exact (firstAt_nonneg (isAt_yes h) hno hi).symm
theorem idxP_none {l : List (Int × Int)} {n : Nat} {x y : Int} (hl : l.length = n) (hno : ∀ r, r < n → isAt l x y r = false) : (-1 : Int) = idxP l x y := by
  unfold idxP; rw [hl]; exact (firstAt_none hno).symm
end Go.Proofs.YtenckggfgbkfnaaDoor
end
section
namespace Go.Proofs.YtenckggfgbkfnaaDoor
open Go Go.RowKit
def cmpI (a b : Int) : Int := if a < b then -1 else if b < a then 1 else 0
def orI (a b : Int) : Int := if a = 0 then b else a
def cmpP (ax ay bx bx' : Int) : Int := orI (cmpI ay bx') (cmpI ax bx)
def befP (ax ay bx bx' : Int) : Bool := decide (ay < bx' ∨ ay = bx' ∧ ax < bx)
theorem cmpP_bef (ax ay bx bx' : Int) : decide (0 ≤ cmpP ax ay bx bx') = !befP ax ay bx bx' := by
  unfold cmpP befP orI cmpI
  rw [Bool.eq_iff_iff]
  simp only [decide_eq_true_eq, Bool.not_eq_true', decide_eq_false_iff_not]
  repeat' split
  all_goals omega
def inR (n : Int) : Bool := decide (-2 ≤ n ∧ n ≤ 2)
/-- The element i is in range and behind the one ahead of it. -/
def okAt (l : List (Int × Int)) (i : Nat) : Bool := match l[i]? with
  | none => true
  | some p => inR p.1 && inR p.2 && (i == 0 || (match l[i - 1]? with | none => true | some q => befP q.1 q.2 p.1 p.2))
def rightL (l : List (Int × Int)) : Bool := decide (1 ≤ l.length ∧ l.length ≤ 25) && (List.range l.length).all (okAt l)
theorem rightL_len {l : List (Int × Int)} {n : Nat} (hl : l.length = n) (h : n < 1 ∨ 25 < n) : rightL l = false := by
  unfold rightL; rw [hl, decide_eq_false (by omega)]; rfl
theorem rightL_bad {l : List (Int × Int)} {n j : Nat} (hl : l.length = n) (hj : j < n) (h : okAt l j = false) : rightL l = false := by
  unfold rightL
  rw [hl, Bool.and_eq_false_iff]
  right
  rw [List.all_eq_false]
  exact ⟨j, by simpa using hj, by simp [h]⟩
theorem rightL_all {l : List (Int × Int)} {n : Nat} (hl : l.length = n) (h1 : 1 ≤ n) (h2 : n ≤ 25) (h : ∀ j, j < n → okAt l j = true) : rightL l = true := by
  unfold rightL
  rw [hl, decide_eq_true (by omega), Bool.true_and, List.all_eq_true]
  intro j hj
  exact h j (by simpa using hj)
theorem ok_step {l : List (Int × Int)} {j : Nat} (h : ∀ r, r < j → okAt l r = true) (hj : okAt l j = true) : ∀ r, r < j + 1 → okAt l r = true := by
  intro r hr
  by_cases e : r = j
  · rw [e]; exact hj
  · exact h r (by omega)
theorem okAt_out {l : List (Int × Int)} {j : Nat} {x y : Int} (hx : l[j]? = some (x, y)) (h : x < -2 ∨ 2 < x ∨ y < -2 ∨ 2 < y) : okAt l j = false := by
  unfold okAt
  rw [hx]
  have : (inR x && inR y) = false := by unfold inR; rw [Bool.eq_false_iff]; simp only [ne_eq, Bool.and_eq_true, decide_eq_true_eq]; omega
  simp only [this, Bool.false_and]
theorem okAt_first {l : List (Int × Int)} {x y : Int} (hx : l[0]? = some (x, y)) (h : -2 ≤ x ∧ x ≤ 2 ∧ -2 ≤ y ∧ y ≤ 2) : okAt l 0 = true := by
  unfold okAt
  rw [hx]
  have : (inR x && inR y) = true := by unfold inR; simp only [Bool.and_eq_true, decide_eq_true_eq]; omega
  simp only [this]; rfl
theorem okAt_next {l : List (Int × Int)} {j : Nat} {x y a b : Int} (hj : 0 < j) (hx : l[j]? = some (x, y)) (hp : l[j - 1]? = some (a, b)) (h : -2 ≤ x ∧ x ≤ 2 ∧ -2 ≤ y ∧ y ≤ 2) : okAt l j = befP a b x y := by
  unfold okAt
  rw [hx, hp]
  have h1 : (inR x && inR y) = true := by unfold inR; simp only [Bool.and_eq_true, decide_eq_true_eq]; omega
  have h2 : (j == 0) = false := by simp; omega
  simp only [h1, h2]; rfl
end Go.Proofs.YtenckggfgbkfnaaDoor
end
section
namespace Go.Proofs.YtenckggfgbkfnaaDoor
open Go Go.RowKit
def Pt (x y : Int) : Prop := -1048576 ≤ x ∧ x ≤ 1048576 ∧ -1048576 ≤ y ∧ y ≤ 1048576
/-- Both boxes are valid and have a common position. -/
def meetOk (ax ay aw ah bx by' bw bh : Int) : Bool := rightB ax ay aw ah && rightB bx by' bw bh && decide (max ax bx < min (ax + aw) (bx + bw)) && decide (max ay by' < min (ay + ah) (by' + bh))
def ifB (q : Bool) (n : Int) : Int := if q = true then n else 0
def meetX (ax ay aw ah bx by' bw bh : Int) : Int := ifB (meetOk ax ay aw ah bx by' bw bh) (max ax bx)
def meetY (ax ay aw ah bx by' bw bh : Int) : Int := ifB (meetOk ax ay aw ah bx by' bw bh) (max ay by')
def meetW (ax ay aw ah bx by' bw bh : Int) : Int := ifB (meetOk ax ay aw ah bx by' bw bh) (min (ax + aw) (bx + bw) - max ax bx)
def meetH (ax ay aw ah bx by' bw bh : Int) : Int := ifB (meetOk ax ay aw ah bx by' bw bh) (min (ay + ah) (by' + bh) - max ay by')
theorem meetOk_iff {ax ay aw ah bx by' bw bh : Int} : meetOk ax ay aw ah bx by' bw bh = true ↔ rightB ax ay aw ah = true ∧ rightB bx by' bw bh = true ∧ max ax bx < min (ax + aw) (bx + bw) ∧ max ay by' < min (ay + ah) (by' + bh) := by
  unfold meetOk; simp only [Bool.and_eq_true, decide_eq_true_eq]; exact ⟨fun ⟨⟨⟨a, b⟩, c⟩, d⟩ => ⟨a, b, c, d⟩, fun ⟨a, b, c, d⟩ => ⟨⟨⟨a, b⟩, c⟩, d⟩⟩
/-- Join. -/
def joinV (qa qb : Bool) (a b c : Int) : Int := match qa, qb with
  | true, true => c
  | true, false => a
  | false, true => b
  | false, false => 0
def joinX (ax ay aw ah bx by' bw bh : Int) : Int := joinV (rightB ax ay aw ah) (rightB bx by' bw bh) ax bx (min ax bx)
def joinY (ax ay aw ah bx by' bw bh : Int) : Int := joinV (rightB ax ay aw ah) (rightB bx by' bw bh) ay by' (min ay by')
def joinW (ax ay aw ah bx by' bw bh : Int) : Int := joinV (rightB ax ay aw ah) (rightB bx by' bw bh) aw bw (max (ax + aw) (bx + bw) - min ax bx)
def joinH (ax ay aw ah bx by' bw bh : Int) : Int := joinV (rightB ax ay aw ah) (rightB bx by' bw bh) ah bh (max (ay + ah) (by' + bh) - min ay by')
/-- Grow. -/
def clampK (k : Int) : Int := max (-4194304) (min 4194304 k)
def growE (x y w h k : Int) : Int :=
  if rightB x y w h = true then
    if w + 2 * clampK k < 1 ∨ h + 2 * clampK k < 1 then 6
    else if rightB (x - clampK k) (y - clampK k) (w + 2 * clampK k) (h + 2 * clampK k) = true then 0 else 5
  else 2
def growOk (x y w h k : Int) : Bool := growE x y w h k == 0
def growX (x y w h k : Int) : Int := ifB (growOk x y w h k) (x - clampK k)
def growY (x y w h k : Int) : Int := ifB (growOk x y w h k) (y - clampK k)
def growW (x y w h k : Int) : Int := ifB (growOk x y w h k) (w + 2 * clampK k)
def growH (x y w h k : Int) : Int := ifB (growOk x y w h k) (h + 2 * clampK k)
/-- With a wider clamp the same comes out. -/
theorem grow_wide {x y w h k c : Int} (hr : rightB x y w h = true) (hc : c = max (-4194308) (min 4194308 k)) :
    (c = clampK k) ∨ (0 < c ∧ ¬(w + 2 * c < 1 ∨ h + 2 * c < 1) ∧ rightB (x - c) (y - c) (w + 2 * c) (h + 2 * c) = false ∧ growE x y w h k = 5) ∨ (c < 0 ∧ (w + 2 * c < 1) ∧ growE x y w h k = 6) := by
  have h1 := rightB_iff.1 hr
  by_cases h2 : k < -4194304
  · right; right
    refine ⟨by omega, by omega, ?_⟩
    unfold growE
    rw [if_pos hr, if_pos (by unfold clampK; omega)]
  · by_cases h3 : 4194304 < k
    · right; left
      refine ⟨by omega, by omega, rightB_no (by omega), ?_⟩
      unfold growE
      rw [if_pos hr, if_neg (by unfold clampK; omega), if_neg]
      rw [rightB_iff]; unfold clampK; omega
    · left; unfold clampK; omega
/-- The positions of a box, in order. -/
def ptAt (x y w : Int) (i : Nat) : Int × Int := (x + (i : Int) % w, y + (i : Int) / w)
def ptsAt (x y w : Int) (n : Nat) : List (Int × Int) := (List.range n).map (ptAt x y w)
def ptsOk (x y w h : Int) : Bool := rightB x y w h && decide (w * h ≤ 5000)
def ptsL (x y w h : Int) : List (Int × Int) := if ptsOk x y w h = true then ptsAt x y w (w * h).toNat else []
theorem ptsAt_succ (x y w : Int) (n : Nat) : ptsAt x y w (n + 1) = ptsAt x y w n ++ [ptAt x y w n] := by
  unfold ptsAt; rw [List.range_succ, List.map_append]; rfl
theorem ptsAt_len (x y w : Int) (n : Nat) : (ptsAt x y w n).length = n := by unfold ptsAt; simp
theorem ptAt_row {x y : Int} {w k i : Nat} (hi : i < w) : ptAt x y w (k * w + i) = (x + i, y + k) := by
  unfold ptAt
  have e1 : (k * w + i) % w = i := by rw [Nat.mul_comm, Nat.mul_add_mod]; exact Nat.mod_eq_of_lt hi
  have e2 : (k * w + i) / w = k := by rw [Nat.mul_comm, Nat.mul_add_div (by omega), Nat.div_eq_of_lt hi, Nat.add_zero]
  rw [← Int.natCast_emod, ← Int.natCast_ediv, e1, e2]
/-- Around. -/
def okP (p : Int × Int) : Bool := validB p.1 p.2
def arOk (l : List (Int × Int)) : Bool := !l.isEmpty && l.all okP
def loX (l : List (Int × Int)) (d : Int) : Int := l.foldl (fun m p => min m p.1) d
def loY (l : List (Int × Int)) (d : Int) : Int := l.foldl (fun m p => min m p.2) d
def hiX (l : List (Int × Int)) (d : Int) : Int := l.foldl (fun m p => max m p.1) d
def hiY (l : List (Int × Int)) (d : Int) : Int := l.foldl (fun m p => max m p.2) d
def fstX (l : List (Int × Int)) : Int := match l with | [] => 0 | p :: _ => p.1
def fstY (l : List (Int × Int)) : Int := match l with | [] => 0 | p :: _ => p.2
def arX (l : List (Int × Int)) : Int := ifB (arOk l) (loX l (fstX l))
def arY (l : List (Int × Int)) : Int := ifB (arOk l) (loY l (fstY l))
def arW (l : List (Int × Int)) : Int := ifB (arOk l) (hiX l (fstX l) - loX l (fstX l) + 1)
def arH (l : List (Int × Int)) : Int := ifB (arOk l) (hiY l (fstY l) - loY l (fstY l) + 1)
section
variable {l : List (Int × Int)} {j : Nat} {x y d : Int}
theorem loX_step (h : l[j]? = some (x, y)) : loX (l.take (j + 1)) d = min (loX (l.take j) d) x := by
  unfold loX; rw [List.take_add_one, List.foldl_append, h]; rfl
theorem loY_step (h : l[j]? = some (x, y)) : loY (l.take (j + 1)) d = min (loY (l.take j) d) y := by
  unfold loY; rw [List.take_add_one, List.foldl_append, h]; rfl
theorem hiX_step (h : l[j]? = some (x, y)) : hiX (l.take (j + 1)) d = max (hiX (l.take j) d) x := by
  unfold hiX; rw [List.take_add_one, List.foldl_append, h]; rfl
theorem hiY_step (h : l[j]? = some (x, y)) : hiY (l.take (j + 1)) d = max (hiY (l.take j) d) y := by
  unfold hiY; rw [List.take_add_one, List.foldl_append, h]; rfl
end
theorem fst_of {l : List (Int × Int)} {x y : Int} (h : l[0]? = some (x, y)) : fstX l = x ∧ fstY l = y := by
  cases l with
  | nil => simp at h
  | cons p l => simp at h; subst h; exact ⟨rfl, rfl⟩
theorem arOk_nil : arOk [] = false := rfl
theorem arOk_bad {l : List (Int × Int)} {j : Nat} {x y : Int} (h : l[j]? = some (x, y)) (hv : validB x y = false) : arOk l = false := by
  unfold arOk
  rw [Bool.and_eq_false_iff]
  right
  rw [List.all_eq_false]
  exact ⟨(x, y), List.mem_of_getElem? h, by unfold okP; simp [hv]⟩
theorem arOk_all {l : List (Int × Int)} {n : Nat} (hl : l.length = n) (h0 : 0 < n) (h : ∀ j x y, j < n → l[j]? = some (x, y) → validB x y = true) : arOk l = true := by
  unfold arOk
  rw [Bool.and_eq_true, List.all_eq_true]
  refine ⟨by (cases l with | nil => (simp at hl; omega) | cons _ _ => rfl), fun p hp => ?_⟩
  obtain ⟨i, hi, e⟩ := List.getElem_of_mem hp
  exact h i p.1 p.2 (by omega) (by rw [List.getElem?_eq_getElem hi, e])
/-- The least and greatest coordinates of valid positions are valid. -/
theorem lo_bound : ∀ (l : List (Int × Int)) (d : Int), (∀ p, p ∈ l → Pt p.1 p.2) → (-1048576 ≤ d ∧ d ≤ 1048576) →
    (-1048576 ≤ loX l d ∧ loX l d ≤ 1048576) ∧ (-1048576 ≤ loY l d ∧ loY l d ≤ 1048576) ∧ (-1048576 ≤ hiX l d ∧ hiX l d ≤ 1048576) ∧ (-1048576 ≤ hiY l d ∧ hiY l d ≤ 1048576)
  | [], d, _, h => ⟨h, h, h, h⟩
  | p :: l, d, hp, h => by
    have hpp := hp p (by simp)
    unfold Pt at hpp
    have h1 := lo_bound l (min d p.1) (fun q hq => hp q (by simp [hq])) (by omega)
    have h2 := lo_bound l (min d p.2) (fun q hq => hp q (by simp [hq])) (by omega)
    have h3 := lo_bound l (max d p.1) (fun q hq => hp q (by simp [hq])) (by omega)
    have h4 := lo_bound l (max d p.2) (fun q hq => hp q (by simp [hq])) (by omega)
    exact ⟨h1.1, h2.2.1, h3.2.2.1, h4.2.2.2⟩
theorem validB_iff {x y : Int} : validB x y = true ↔ Pt x y := by unfold validB Pt; simp
end Go.Proofs.YtenckggfgbkfnaaDoor
end
section
namespace Go.Proofs.YtenckggfgbkfnaaDoor
open Go Go.RowKit
/-- The position of a cell is ahead of another one's. -/
def cBef (a b : Int × Int × Int) : Bool := befP a.1 a.2.1 b.1 b.2.1
def cmpO (a b : Int × Int × Int) : Int := cmpP a.1 a.2.1 b.1 b.2.1
def okC (l : List (Int × Int × Int)) (i : Nat) : Bool := match l[i]? with
  | none => true
  | some p => validB p.1 p.2.1 && decide (1 ≤ p.2.2 ∧ p.2.2 ≤ 7) && (i == 0 || (match l[i - 1]? with | none => true | some q => cBef q p))
def rightC (l : List (Int × Int × Int)) : Bool := decide (l.length ≤ 5000) && (List.range l.length).all (okC l)
section
variable {l : List (Int × Int × Int)} {n j : Nat} {x y s a b c : Int}
theorem rightC_len (hl : l.length = n) (h : 5000 < n) : rightC l = false := by
  unfold rightC; rw [hl, decide_eq_false (by omega)]; rfl
theorem rightC_bad (hl : l.length = n) (hj : j < n) (h : okC l j = false) : rightC l = false := by
  unfold rightC
  rw [hl, Bool.and_eq_false_iff]
  right
  rw [List.all_eq_false]
  exact ⟨j, by simpa using hj, by simp [h]⟩
theorem rightC_all (hl : l.length = n) (h2 : n ≤ 5000) (h : ∀ j, j < n → okC l j = true) : rightC l = true := by
  unfold rightC
  rw [hl, decide_eq_true (by omega), Bool.true_and, List.all_eq_true]
  intro j hj
  exact h j (by simpa using hj)
theorem okC_step (h : ∀ r, r < j → okC l r = true) (hj : okC l j = true) : ∀ r, r < j + 1 → okC l r = true := by
  intro r hr
  by_cases e : r = j
  · rw [e]; exact hj
  · exact h r (by omega)
theorem okC_place (hx : l[j]? = some (x, y, s)) (h : validB x y = false) : okC l j = false := by
  unfold okC; rw [hx]; simp only [h, Bool.false_and]
theorem okC_state (hx : l[j]? = some (x, y, s)) (h : s < 1 ∨ 7 < s) : okC l j = false := by
  unfold okC; rw [hx]
  have : decide (1 ≤ s ∧ s ≤ 7) = false := decide_eq_false (by omega)
  simp only [this, Bool.and_false, Bool.false_and]
theorem okC_first (hx : l[0]? = some (x, y, s)) (hv : validB x y = true) (h : 1 ≤ s ∧ s ≤ 7) : okC l 0 = true := by
  unfold okC; rw [hx]
  have : decide (1 ≤ s ∧ s ≤ 7) = true := decide_eq_true h
  simp only [this, hv]; rfl
theorem okC_next (hj : 0 < j) (hx : l[j]? = some (x, y, s)) (hp : l[j - 1]? = some (a, b, c)) (hv : validB x y = true) (h : 1 ≤ s ∧ s ≤ 7) : okC l j = befP a b x y := by
  unfold okC; rw [hx, hp]
  have h1 : decide (1 ≤ s ∧ s ≤ 7) = true := decide_eq_true h
  have h2 : (j == 0) = false := by simp; omega
  simp only [h1, hv, h2]; rfl
theorem rightC_ok (h : rightC l = true) : l.length ≤ 5000 ∧ ∀ j, okC l j = true := by
  unfold rightC at h
  rw [Bool.and_eq_true, List.all_eq_true, decide_eq_true_eq] at h
  refine ⟨h.1, fun j => ?_⟩
  by_cases hj : j < l.length
  · exact h.2 j (by simpa using hj)
  · unfold okC; rw [List.getElem?_eq_none (by omega)]
theorem rightC_elem (h : rightC l = true) (hx : l[j]? = some (x, y, s)) : Pt x y ∧ 1 ≤ s ∧ s ≤ 7 := by
  have := (rightC_ok h).2 j
  unfold okC at this
  rw [hx] at this
  simp only [Bool.and_eq_true, decide_eq_true_eq] at this
  exact ⟨validB_iff.1 this.1.1, this.1.2.1, this.1.2.2⟩
end
theorem cBef_irr (a : Int × Int × Int) : cBef a a = false := by unfold cBef befP; exact decide_eq_false (by omega)
theorem cBef_tr {a b c : Int × Int × Int} (h1 : cBef a b = true) (h2 : cBef b c = true) : cBef a c = true := by
  unfold cBef befP at *; simp only [decide_eq_true_eq] at *; omega
/-- Cells in the order of their positions, each position once. -/
def SSC (l : List (Int × Int × Int)) : Prop := l.Pairwise fun a b => cBef a b = true
theorem pairwise_of_next {α : Type} {r : α → α → Prop} (tr : ∀ a b c, r a b → r b c → r a c) : ∀ (l : List α), (∀ j a b, l[j]? = some a → l[j + 1]? = some b → r a b) → l.Pairwise r
  | [], _ => List.Pairwise.nil
  | [a], _ => by simp
  | a :: b :: l, h => by
    have ih := pairwise_of_next tr (b :: l) (fun j x y hx hy => h (j + 1) x y (by simpa using hx) (by simpa using hy))
    refine List.pairwise_cons.2 ⟨fun x hx => ?_, ih⟩
    have hab : r a b := h 0 a b rfl rfl
    rcases List.mem_cons.1 hx with rfl | hm
    · exact hab
    · exact tr _ _ _ hab ((List.pairwise_cons.1 ih).1 x hm)
theorem rightC_sorted {l : List (Int × Int × Int)} (h : rightC l = true) : SSC l := by
  refine pairwise_of_next (r := fun a b => cBef a b = true) (fun a b c h1 h2 => cBef_tr h1 h2) l fun j p q hp hq => ?_
  have := (rightC_ok h).2 (j + 1)
  unfold okC at this
  rw [hq, show j + 1 - 1 = j by omega, hp] at this
  simp only [Bool.and_eq_true, Bool.or_eq_true] at this
  rcases this.2 with h0 | h0
  · simp at h0
  · exact h0
theorem rightC_of {l : List (Int × Int × Int)} (h1 : l.length ≤ 5000) (h2 : ∀ p, p ∈ l → Pt p.1 p.2.1 ∧ 1 ≤ p.2.2 ∧ p.2.2 ≤ 7) (h3 : SSC l) : rightC l = true := by
  refine rightC_all rfl h1 fun j hj => ?_
  obtain ⟨p, hp⟩ : ∃ p, p = l[j] := ⟨_, rfl⟩
  obtain ⟨x, y, s⟩ := p
  have hx : l[j]? = some (x, y, s) := by rw [List.getElem?_eq_getElem hj, ← hp]
  have hm := h2 _ (List.mem_of_getElem? hx)
  have hv := validB_iff.2 hm.1
  rcases Nat.eq_zero_or_pos j with rfl | h0
  · exact okC_first hx hv hm.2
  · have hj1 : j - 1 < l.length := by omega
    obtain ⟨q, hq⟩ : ∃ q, q = l[j - 1] := ⟨_, rfl⟩
    obtain ⟨a, b, c⟩ := q
    have hy : l[j - 1]? = some (a, b, c) := by rw [List.getElem?_eq_getElem hj1, ← hq]
    rw [okC_next h0 hx hy hv hm.2]
    have := (List.pairwise_iff_getElem.1 h3) (j - 1) j (by omega) hj (by omega)
    rw [← hp, ← hq] at this
    exact this
/-- The state at a position. -/
def getC : List (Int × Int × Int) → Int → Int → Int
  | [], _, _ => 0
  | c :: l, x, y => if c.1 = x ∧ c.2.1 = y then c.2.2 else getC l x y
theorem getC_found : ∀ {l : List (Int × Int × Int)} {j : Nat} {x y s : Int}, (∀ r a b c, r < j → l[r]? = some (a, b, c) → ¬(a = x ∧ b = y)) → l[j]? = some (x, y, s) → getC l x y = s
  | [], j, x, y, s, _, h => by simp at h
  | c :: l, 0, x, y, s, _, h => by
    have e : c = (x, y, s) := by simpa using h
    subst e; simp [getC]
  | c :: l, j + 1, x, y, s, hn, h => by
    have h0 := hn 0 c.1 c.2.1 c.2.2 (by omega) rfl
    unfold getC
    rw [if_neg h0]
    exact getC_found (fun r a b d hr hx => hn (r + 1) a b d (Nat.succ_lt_succ hr) (by simpa using hx)) (by simpa using h)
theorem getC_none : ∀ {l : List (Int × Int × Int)} {x y : Int}, (∀ (r : Nat) a b c, l[r]? = some (a, b, c) → ¬(a = x ∧ b = y)) → getC l x y = 0
  | [], _, _, _ => rfl
  | c :: l, x, y, h => by
    unfold getC
    rw [if_neg (h 0 c.1 c.2.1 c.2.2 rfl)]
    exact getC_none fun r a b d hx => h (r + 1) a b d (by simpa using hx)
def topC (l : List (Int × Int × Int)) : Int := l.foldl (fun m p => max m p.2.2) 0
theorem topC_step {l : List (Int × Int × Int)} {j : Nat} {x y s : Int} (h : l[j]? = some (x, y, s)) : topC (l.take (j + 1)) = max (topC (l.take j)) s := by
  unfold topC; rw [List.take_add_one, List.foldl_append, h]; rfl
/-- The order of patterns. -/
def cmpC (a b : Int × Int × Int) : Int := orI (cmpO a b) (cmpI a.2.2 b.2.2)
def cmpL : List (Int × Int × Int) → List (Int × Int × Int) → Int
  | [], [] => 0
  | [], _ :: _ => -1
  | _ :: _, [] => 1
  | a :: l, b :: r => if a = b then cmpL l r else cmpC a b
theorem cmpC_self (a : Int × Int × Int) : cmpC a a = 0 := by unfold cmpC cmpO cmpP orI cmpI; simp
theorem cmpC_zero {a b : Int × Int × Int} (h : cmpC a b = 0) : a = b := by
  obtain ⟨a1, a2, a3⟩ := a
  obtain ⟨b1, b2, b3⟩ := b
  unfold cmpC cmpO cmpP orI cmpI at h
  simp only [Prod.mk.injEq]
  simp only at h
  split at h <;> (repeat' split at h) <;> omega
theorem cmpL_skip : ∀ {l r : List (Int × Int × Int)} {j : Nat}, j ≤ l.length → j ≤ r.length → (∀ i, i < j → l[i]? = r[i]?) → cmpL l r = cmpL (l.drop j) (r.drop j)
  | l, r, 0, _, _, _ => rfl
  | [], r, j + 1, h, _, _ => by simp at h
  | a :: l, [], j + 1, _, h, _ => by simp at h
  | a :: l, b :: r, j + 1, h1, h2, h => by
    have e : a = b := by have := h 0 (by omega); simpa using this
    subst e
    show (if a = a then cmpL l r else cmpC a a) = cmpL (l.drop j) (r.drop j)
    rw [if_pos rfl]
    exact cmpL_skip (by simpa using h1) (by simpa using h2) fun i hi => by have := h (i + 1) (by omega); simpa using this
theorem cmpL_at {l r : List (Int × Int × Int)} {j : Nat} {a b : Int × Int × Int} (h : ∀ i, i < j → l[i]? = r[i]?) (ha : l[j]? = some a) (hb : r[j]? = some b) (hne : a ≠ b) : cmpL l r = cmpC a b := by
  have h1 := (List.getElem?_eq_some_iff.1 ha).1
  have h2 := (List.getElem?_eq_some_iff.1 hb).1
  rw [cmpL_skip (by omega) (by omega) h, List.drop_eq_getElem_cons h1, List.drop_eq_getElem_cons h2]
  unfold cmpL
  rw [(List.getElem?_eq_some_iff.1 ha).2, (List.getElem?_eq_some_iff.1 hb).2, if_neg hne]
theorem cmpL_end {l r : List (Int × Int × Int)} {n m j : Nat} (hl : l.length = n) (hr : r.length = m) (hj : j ≤ n) (hk : j ≤ m) (h : ∀ i, i < j → l[i]? = r[i]?) (he : j = n ∨ j = m) : cmpL l r = cmpI n m := by
  rw [cmpL_skip (by omega) (by omega) h]
  unfold cmpI
  rcases he with rfl | rfl
  · rw [List.drop_of_length_le (by omega)]
    by_cases e : j = m
    · rw [List.drop_of_length_le (by omega), if_neg (by omega), if_neg (by omega)]; rfl
    · rw [List.drop_eq_getElem_cons (by omega), if_pos (by omega)]; rfl
  · rw [List.drop_of_length_le (by omega : r.length ≤ j)]
    by_cases e : j = n
    · rw [List.drop_of_length_le (by omega), if_neg (by omega), if_neg (by omega)]; rfl
    · rw [List.drop_eq_getElem_cons (by omega), if_neg (by omega), if_pos (by omega)]; rfl
end Go.Proofs.YtenckggfgbkfnaaDoor
end
section
namespace Go.Proofs.YtenckggfgbkfnaaDoor
open Go Go.RowKit
/-- What is wrong with one cell. -/
def frBad (c : Int × Int × Int) : Int := if validB c.1 c.2.1 = true then (if 0 ≤ c.2.2 ∧ c.2.2 ≤ 7 then 0 else 10) else 5
def frFirst : List (Int × Int × Int) → Int
  | [] => 0
  | c :: l => if frBad c = 0 then frFirst l else frBad c
theorem frFirst_bad : ∀ {l : List (Int × Int × Int)} {j : Nat} {c : Int × Int × Int} {e : Int}, (∀ i d, i < j → l[i]? = some d → frBad d = 0) → l[j]? = some c → frBad c = e → e ≠ 0 → frFirst l = e
  | [], j, c, e, _, h, _, _ => by simp at h
  | d :: l, 0, c, e, _, h, he, hn => by
    have : d = c := by simpa using h
    subst this
    unfold frFirst
    rw [he, if_neg hn]
  | d :: l, j + 1, c, e, hg, h, he, hn => by
    unfold frFirst
    rw [if_pos (hg 0 d (by omega) rfl)]
    exact frFirst_bad (fun i x hi hx => hg (i + 1) x (Nat.succ_lt_succ hi) (by simpa using hx)) (by simpa using h) he hn
theorem frFirst_good : ∀ {l : List (Int × Int × Int)}, (∀ (i : Nat) d, l[i]? = some d → frBad d = 0) → frFirst l = 0
  | [], _ => rfl
  | d :: l, hg => by
    unfold frFirst
    rw [if_pos (hg 0 d rfl)]
    exact frFirst_good fun i x hx => hg (i + 1) x (by simpa using hx)
/-- The cells with a state. -/
def nzC (c : Int × Int × Int) : Bool := decide (0 < c.2.2)
def nz (l : List (Int × Int × Int)) : List (Int × Int × Int) := l.filter nzC
theorem nz_step {l : List (Int × Int × Int)} {j : Nat} {c : Int × Int × Int} (h : l[j]? = some c) : nz (l.take (j + 1)) = nz (l.take j) ++ (if nzC c = true then [c] else []) := by
  unfold nz
  rw [List.take_add_one, List.filter_append, h]
  simp [List.filter_cons]
/-- Insertion behind those at the same position. -/
def insC : List (Int × Int × Int) → Int × Int × Int → List (Int × Int × Int)
  | [], c => [c]
  | d :: p, c => if cBef c d = true then c :: d :: p else d :: insC p c
def srtC (l : List (Int × Int × Int)) : List (Int × Int × Int) := l.foldl insC []
/-- No cell stands ahead of one that it is behind. -/
def WC (l : List (Int × Int × Int)) : Prop := l.Pairwise fun a b => cBef b a = false
theorem insC_perm : ∀ (p : List (Int × Int × Int)) (c : Int × Int × Int), (insC p c).Perm (c :: p)
  | [], c => List.Perm.refl _
  | d :: p, c => by
    unfold insC
    split
    · exact List.Perm.refl _
    · exact (List.Perm.cons d (insC_perm p c)).trans (List.Perm.swap c d p)
theorem cBef_asym {a b : Int × Int × Int} (h : cBef a b = true) : cBef b a = false := by
  unfold cBef befP at *; simp only [decide_eq_true_eq, decide_eq_false_iff_not] at *; omega
theorem cBef_weak {a b c : Int × Int × Int} (h1 : cBef a b = true) (h2 : cBef c b = false) : cBef c a = false := by
  unfold cBef befP at *; simp only [decide_eq_true_eq, decide_eq_false_iff_not] at *; omega
theorem insC_wc : ∀ (p : List (Int × Int × Int)) (c : Int × Int × Int), WC p → WC (insC p c)
  | [], c, _ => by simp [insC, WC]
  | d :: p, c, h => by
    unfold WC at h
    obtain ⟨h1, h2⟩ := List.pairwise_cons.1 h
    unfold insC
    split
    · rename_i hc
      refine List.pairwise_cons.2 ⟨fun x hx => ?_, h⟩
      rcases List.mem_cons.1 hx with rfl | hm
      · exact cBef_asym hc
      · exact cBef_weak hc (h1 x hm)
    · rename_i hc
      refine List.pairwise_cons.2 ⟨fun x hx => ?_, insC_wc p c h2⟩
      rcases List.mem_cons.1 ((insC_perm p c).mem_iff.1 hx) with rfl | hm
      · simpa using hc
      · exact h1 x hm
theorem srtC_aux : ∀ (l o : List (Int × Int × Int)), WC o → WC (l.foldl insC o) ∧ (l.foldl insC o).Perm (l ++ o)
  | [], o, h => ⟨h, List.Perm.refl _⟩
  | c :: l, o, h => by
    obtain ⟨h1, h2⟩ := srtC_aux l (insC o c) (insC_wc o c h)
    refine ⟨h1, h2.trans ?_⟩
    exact ((insC_perm o c).append_left l).trans List.perm_middle
theorem srtC_wc (l : List (Int × Int × Int)) : WC (srtC l) := (srtC_aux l [] List.Pairwise.nil).1
theorem srtC_perm (l : List (Int × Int × Int)) : (srtC l).Perm l := by
  have := (srtC_aux l [] List.Pairwise.nil).2
  simpa [srtC] using this
def posD (c : Int × Int × Int) : Int × Int := (c.1, c.2.1)
theorem ssc_iff {l : List (Int × Int × Int)} : SSC l ↔ WC l ∧ (l.map posD).Nodup := by
  unfold SSC WC List.Nodup
  rw [List.pairwise_map]
  constructor
  · intro h
    refine ⟨h.imp fun hab => cBef_asym hab, h.imp fun {a b} hab e => ?_⟩
    unfold posD at e
    injection e with e1 e2
    unfold cBef befP at hab
    simp only [decide_eq_true_eq] at hab
    omega
  · rintro ⟨h1, h2⟩
    rw [List.pairwise_iff_getElem] at *
    intro i j hi hj hij
    have a := h1 i j hi hj hij
    have b := h2 i j hi hj hij
    unfold posD at b
    unfold cBef befP at *
    simp only [decide_eq_true_eq, decide_eq_false_iff_not] at *
    rcases Classical.em (l[j].2.1 = l[i].2.1) with e | e
    · rcases Classical.em (l[j].1 = l[i].1) with f | f
      · exact absurd (by rw [e, f]) b
      · omega
    · omega
theorem ssc_unique : ∀ (a b : List (Int × Int × Int)), SSC a → SSC b → (∀ x, x ∈ a ↔ x ∈ b) → a = b
  | [], [], _, _, _ => rfl
  | [], y :: b, _, _, he => absurd ((he y).2 (by simp)) (by simp)
  | x :: a, [], _, _, he => absurd ((he x).1 (by simp)) (by simp)
  | x :: a, y :: b, ha, hb, he => by
    obtain ⟨h1, h2⟩ := List.pairwise_cons.1 ha
    obtain ⟨h3, h4⟩ := List.pairwise_cons.1 hb
    have hxy : x = y := by
      rcases List.mem_cons.1 ((he x).1 (by simp)) with e | hm
      · exact e
      · rcases List.mem_cons.1 ((he y).2 (by simp)) with e | hm2
        · exact e.symm
        · have := cBef_asym (h3 x hm)
          rw [h1 y hm2] at this; cases this
    subst hxy
    rw [ssc_unique a b h2 h4 fun z => ?_]
    constructor
    · intro hz
      rcases List.mem_cons.1 ((he z).1 (by simp [hz])) with e | hm
      · subst e; have := h1 z hz; rw [cBef_irr] at this; cases this
      · exact hm
    · intro hz
      rcases List.mem_cons.1 ((he z).2 (by simp [hz])) with e | hm
      · subst e; have := h3 z hz; rw [cBef_irr] at this; cases this
      · exact hm
theorem ssc_perm {l m : List (Int × Int × Int)} (hp : l.Perm m) (hl : WC l) (hm : WC m) : SSC l ↔ SSC m := by
  rw [ssc_iff, ssc_iff]
  have := (hp.map posD).nodup_iff
  exact ⟨fun ⟨_, h⟩ => ⟨hm, this.1 h⟩, fun ⟨_, h⟩ => ⟨hl, this.2 h⟩⟩
/-- Each cell is ahead of the next one. -/
def ssB : List (Int × Int × Int) → Bool
  | [] => true
  | [_] => true
  | a :: b :: l => cBef a b && ssB (b :: l)
theorem ssB_iff : ∀ {l : List (Int × Int × Int)}, ssB l = true ↔ SSC l
  | [] => by simp [ssB, SSC]
  | [a] => by simp [ssB, SSC]
  | a :: b :: l => by
    have ih := ssB_iff (l := b :: l)
    unfold ssB
    rw [Bool.and_eq_true, ih]
    constructor
    · rintro ⟨h1, h2⟩
      refine List.pairwise_cons.2 ⟨fun x hx => ?_, h2⟩
      rcases List.mem_cons.1 hx with rfl | hm
      · exact h1
      · exact cBef_tr h1 ((List.pairwise_cons.1 h2).1 x hm)
    · intro h
      obtain ⟨h1, h2⟩ := List.pairwise_cons.1 h
      exact ⟨h1 b (by simp), h2⟩
/-- The code that From returns, and the pattern. -/
def frE (l : List (Int × Int × Int)) : Int := if frFirst l = 0 then (if ssB (srtC (nz l)) = true then (if (nz l).length ≤ 5000 then 0 else 6) else 8) else frFirst l
def frL (l : List (Int × Int × Int)) : List (Int × Int × Int) := if frE l = 0 then srtC (nz l) else []
theorem frL_no {l : List (Int × Int × Int)} {e : Int} (h : frE l = e) (hn : e ≠ 0) : frL l = [] := by unfold frL; rw [if_neg (by rw [h]; exact hn)]
theorem frL_ok {l : List (Int × Int × Int)} (h : frE l = 0) : frL l = srtC (nz l) := by unfold frL; rw [if_pos h]
theorem frE_first {l : List (Int × Int × Int)} {e : Int} (h : frFirst l = e) (hn : e ≠ 0) : frE l = e := by unfold frE; rw [h, if_neg hn]
theorem frE_twice {l : List (Int × Int × Int)} (h : frFirst l = 0) (hs : ssB (srtC (nz l)) = false) : frE l = 8 := by unfold frE; rw [if_pos h, if_neg (by rw [hs]; simp)]
theorem frE_size {l : List (Int × Int × Int)} (h : frFirst l = 0) (hs : ssB (srtC (nz l)) = true) (hz : 5000 < (nz l).length) : frE l = 6 := by unfold frE; rw [if_pos h, if_pos hs, if_neg (by omega)]
theorem frE_ok {l : List (Int × Int × Int)} (h : frFirst l = 0) (hs : ssB (srtC (nz l)) = true) (hz : (nz l).length ≤ 5000) : frE l = 0 := by unfold frE; rw [if_pos h, if_pos hs, if_pos hz]
/-- A sorted list of the cells whose neighbours stand at different positions is the pattern. -/
theorem sorted_distinct {l' m : List (Int × Int × Int)} (hp : l'.Perm m) (hw : WC l') (hd : ∀ j a b, l'[j]? = some a → l'[j + 1]? = some b → posD a ≠ posD b) : ssB (srtC m) = true ∧ srtC m = l' := by
  have hs : SSC l' := by
    refine pairwise_of_next (r := fun a b => cBef a b = true) (fun a b c h1 h2 => cBef_tr h1 h2) l' fun j a b ha hb => ?_
    have h1 := (List.getElem?_eq_some_iff.1 ha)
    have h2 := (List.getElem?_eq_some_iff.1 hb)
    have hwk := (List.pairwise_iff_getElem.1 hw) j (j + 1) h1.1 h2.1 (by omega)
    rw [h1.2, h2.2] at hwk
    have hne := hd j a b ha hb
    unfold posD at hne
    unfold cBef befP at *
    simp only [decide_eq_true_eq, decide_eq_false_iff_not] at *
    rcases Classical.em (b.2.1 = a.2.1) with e | e
    · rcases Classical.em (b.1 = a.1) with f | f
      · exact absurd (by rw [e, f]) hne
      · omega
    · omega
  have hsm : SSC (srtC m) := (ssc_perm ((srtC_perm m).trans hp.symm) (srtC_wc m) hw).2 hs
  exact ⟨ssB_iff.2 hsm, ssc_unique _ _ hsm hs fun x => ((srtC_perm m).trans hp.symm).mem_iff⟩
/-- Two neighbours at one position: it is none. -/
theorem sorted_twice {l' m : List (Int × Int × Int)} {j : Nat} {a b : Int × Int × Int} (hp : l'.Perm m) (hw : WC l') (ha : l'[j]? = some a) (hb : l'[j + 1]? = some b) (he : posD a = posD b) : ssB (srtC m) = false := by
  rw [Bool.eq_false_iff]
  intro h
  have hs := (ssc_perm ((srtC_perm m).trans hp.symm) (srtC_wc m) hw).1 (ssB_iff.1 h)
  have h1 := (List.getElem?_eq_some_iff.1 ha)
  have h2 := (List.getElem?_eq_some_iff.1 hb)
  have := (List.pairwise_iff_getElem.1 hs) j (j + 1) h1.1 h2.1 (by omega)
  rw [h1.2, h2.2] at this
  unfold posD at he
  injection he with e1 e2
  unfold cBef befP at this
  simp only [decide_eq_true_eq] at this
  omega
end Go.Proofs.YtenckggfgbkfnaaDoor
end
section
namespace Go.Proofs.YtenckggfgbkfnaaDoor
open Go Go.RowKit
def atC (x y : Int) (c : Int × Int × Int) : Bool := decide (c.1 = x ∧ c.2.1 = y)
def offL (l : List (Int × Int × Int)) (x y : Int) : List (Int × Int × Int) := l.filter fun c => !atC x y c
theorem offL_step {l : List (Int × Int × Int)} {j : Nat} {c : Int × Int × Int} (x y : Int) (h : l[j]? = some c) : offL (l.take (j + 1)) x y = offL (l.take j) x y ++ (if atC x y c = true then [] else [c]) := by
  unfold offL
  rw [List.take_add_one, List.filter_append, h]
  cases hq : atC x y c <;> simp [List.filter_cons, hq]
theorem offL_len (l : List (Int × Int × Int)) (x y : Int) : (offL l x y).length ≤ l.length := List.length_filter_le _ _
def setR (l : List (Int × Int × Int)) (x y s : Int) : List (Int × Int × Int) := if 0 < s then insC (offL l x y) (x, y, s) else offL l x y
/-- The code that Set returns, and the pattern. -/
def setE (l : List (Int × Int × Int)) (x y s : Int) : Int := if rightC l = false then 2 else if validB x y = false then 5 else if s < 0 ∨ 8 ≤ s then 10 else if 5000 < (setR l x y s).length then 6 else 0
def setL (l : List (Int × Int × Int)) (x y s : Int) : List (Int × Int × Int) := if setE l x y s = 0 then setR l x y s else []
theorem setE_list {l : List (Int × Int × Int)} (x y s : Int) (h : rightC l = false) : setE l x y s = 2 := by unfold setE; rw [if_pos h]
theorem setE_place {l : List (Int × Int × Int)} {x y : Int} (s : Int) (h : rightC l = true) (h2 : validB x y = false) : setE l x y s = 5 := by unfold setE; rw [if_neg (by rw [h]; simp), if_pos h2]
theorem setE_state {l : List (Int × Int × Int)} {x y s : Int} (h : rightC l = true) (h2 : validB x y = true) (h3 : s < 0 ∨ 8 ≤ s) : setE l x y s = 10 := by unfold setE; rw [if_neg (by rw [h]; simp), if_neg (by rw [h2]; simp), if_pos h3]
theorem setE_size {l : List (Int × Int × Int)} {x y s : Int} (h : rightC l = true) (h2 : validB x y = true) (h3 : 0 ≤ s) (h4 : s ≤ 7) (h5 : 5000 < (setR l x y s).length) : setE l x y s = 6 := by unfold setE; rw [if_neg (by rw [h]; simp), if_neg (by rw [h2]; simp), if_neg (by omega), if_pos h5]
theorem setE_ok {l : List (Int × Int × Int)} {x y s : Int} (h : rightC l = true) (h2 : validB x y = true) (h3 : 0 ≤ s) (h4 : s ≤ 7) (h5 : (setR l x y s).length ≤ 5000) : setE l x y s = 0 := by unfold setE; rw [if_neg (by rw [h]; simp), if_neg (by rw [h2]; simp), if_neg (by omega), if_neg (by omega)]
theorem setL_no {l : List (Int × Int × Int)} {x y s e : Int} (h : setE l x y s = e) (hn : e ≠ 0) : setL l x y s = [] := by unfold setL; rw [if_neg (by rw [h]; exact hn)]
theorem setL_ok {l : List (Int × Int × Int)} {x y s : Int} (h : setE l x y s = 0) : setL l x y s = setR l x y s := by unfold setL; rw [if_pos h]
end Go.Proofs.YtenckggfgbkfnaaDoor
end
section
namespace Go.Proofs.YtenckggfgbkfnaaDoor
open Go Go.RowKit
theorem insC_mid : ∀ (a b : List (Int × Int × Int)) (c : Int × Int × Int), (∀ d ∈ a, cBef c d = false) → (∀ d ∈ b, cBef c d = true) → insC (a ++ b) c = a ++ c :: b
  | [], [], c, _, _ => rfl
  | [], d :: b, c, _, h => by
    show (if cBef c d = true then c :: d :: b else d :: insC b c) = _
    rw [if_pos (h d (by simp))]; rfl
  | d :: a, b, c, h, h2 => by
    show (if cBef c d = true then c :: d :: (a ++ b) else d :: insC (a ++ b) c) = _
    rw [if_neg (by rw [h d (by simp)]; simp), insC_mid a b c (fun x hx => h x (by simp [hx])) h2]; rfl
theorem offL_all {l : List (Int × Int × Int)} {x y : Int} (h : ∀ d ∈ l, atC x y d = false) : offL l x y = l := by
  unfold offL; exact List.filter_eq_self.2 fun d hd => by rw [h d hd]; rfl
theorem atC_bef {d : Int × Int × Int} {x y s : Int} (h : cBef d (x, y, s) = true ∨ cBef (x, y, s) d = true) : atC x y d = false := by
  unfold atC
  unfold cBef befP at h
  simp only [decide_eq_true_eq] at h
  exact decide_eq_false (by omega)
theorem bef_of {d : Int × Int × Int} {x y s : Int} (h1 : cBef d (x, y, s) = false) (h2 : atC x y d = false) : cBef (x, y, s) d = true := by
  unfold atC at h2
  unfold cBef befP at *
  simp only [decide_eq_true_eq, decide_eq_false_iff_not] at *
  omega
section
variable {l : List (Int × Int × Int)} {x y s t : Int} {k : Nat}
/-- All cells ahead of k are ahead of the position, those from j on are behind it, and between them stand cells at the position. -/
theorem set_mid {a m b : List (Int × Int × Int)} (hl : l = a ++ m ++ b) (ha : ∀ d ∈ a, cBef d (x, y, s) = true) (hb : ∀ d ∈ b, cBef (x, y, s) d = true) (hm : ∀ d ∈ m, atC x y d = true) :
    offL l x y = a ++ b ∧ insC (offL l x y) (x, y, s) = a ++ (x, y, s) :: b := by
  have h1 : offL l x y = a ++ b := by
    rw [hl]
    have ea : offL a x y = a := offL_all fun d hd => atC_bef (.inl (ha d hd))
    have eb : offL b x y = b := offL_all fun d hd => atC_bef (.inr (hb d hd))
    have em : offL m x y = [] := by
      unfold offL; exact List.filter_eq_nil_iff.2 fun d hd => by rw [hm d hd]; simp
    unfold offL at *
    rw [List.filter_append, List.filter_append, ea, eb, em, List.append_nil]
  exact ⟨h1, by rw [h1]; exact insC_mid a b _ (fun d hd => cBef_asym (ha d hd)) hb⟩
theorem mem_take_get {α : Type} {l : List α} {k : Nat} {d : α} (h : d ∈ l.take k) : ∃ r, r < k ∧ l[r]? = some d := by
  obtain ⟨r, hr, e⟩ := List.getElem_of_mem h
  rw [List.length_take] at hr
  refine ⟨r, by omega, ?_⟩
  rw [← e, List.getElem_take, List.getElem?_eq_getElem]
theorem mem_drop_get {α : Type} {l : List α} {k : Nat} {d : α} (h : d ∈ l.drop k) : ∃ r, k ≤ r ∧ l[r]? = some d := by
  obtain ⟨r, hr, e⟩ := List.getElem_of_mem h
  rw [List.length_drop] at hr
  refine ⟨k + r, by omega, ?_⟩
  rw [← e, List.getElem_drop, List.getElem?_eq_getElem]
theorem ssc_lt (h : SSC l) {i j : Nat} {a b : Int × Int × Int} (ha : l[i]? = some a) (hb : l[j]? = some b) (hij : i < j) : cBef a b = true := by
  have h1 := List.getElem?_eq_some_iff.1 ha
  have h2 := List.getElem?_eq_some_iff.1 hb
  have := (List.pairwise_iff_getElem.1 h) i j h1.1 h2.1 hij
  rw [h1.2, h2.2] at this; exact this
/-- A cell stands there at k. -/
theorem set_there (hS : SSC l) (hlo : ∀ r d, r < k → l[r]? = some d → cBef d (x, y, s) = true) (hk : l[k]? = some (x, y, t)) :
    offL l x y = l.take k ++ l.drop (k + 1) ∧ insC (offL l x y) (x, y, s) = l.take k ++ (x, y, s) :: l.drop (k + 1) := by
  have hkl := (List.getElem?_eq_some_iff.1 hk).1
  refine set_mid (m := [(x, y, t)]) ?_ (fun d hd => ?_) (fun d hd => ?_) (fun d hd => ?_)
  · have e : l.drop k = (x, y, t) :: l.drop (k + 1) := by
      rw [List.drop_eq_getElem_cons hkl]
      congr 1
      exact (List.getElem?_eq_some_iff.1 hk).2
    rw [List.append_assoc, List.singleton_append, ← e, List.take_append_drop]
  · obtain ⟨r, hr, e⟩ := mem_take_get hd
    exact hlo r d hr e
  · obtain ⟨r, hr, e⟩ := mem_drop_get hd
    have := ssc_lt hS hk e (by omega)
    unfold cBef at *
    exact this
  · rw [List.mem_singleton.1 hd]; unfold atC; exact decide_eq_true ⟨rfl, rfl⟩
/-- No cell stands there. -/
theorem set_none (hS : SSC l) (hlo : ∀ r d, r < k → l[r]? = some d → cBef d (x, y, s) = true) (hhi : ∀ r d, k ≤ r → l[r]? = some d → cBef d (x, y, s) = false) (hno : ∀ t, l[k]? ≠ some (x, y, t)) :
    offL l x y = l ∧ insC (offL l x y) (x, y, s) = l.take k ++ (x, y, s) :: l.drop k := by
  have key := set_mid (l := l) (x := x) (y := y) (s := s) (a := l.take k) (m := []) (b := l.drop k) (by rw [List.append_nil, List.take_append_drop]) (fun d hd => by
      obtain ⟨r, hr, e⟩ := mem_take_get hd
      exact hlo r d hr e) (fun d hd => by
      obtain ⟨r, hr, e⟩ := mem_drop_get hd
      by_cases hrk : r = k
      · subst hrk
        refine bef_of (hhi r d hr e) (Bool.eq_false_iff.2 fun h => ?_)
        obtain ⟨d1, d2, d3⟩ := d
        unfold atC at h
        simp only [decide_eq_true_eq] at h
        obtain ⟨rfl, rfl⟩ := h
        exact hno d3 e
      · have hrl := (List.getElem?_eq_some_iff.1 e).1
        obtain ⟨p, hp⟩ : ∃ p, l[k]? = some p := ⟨_, List.getElem?_eq_getElem (by omega)⟩
        have h1 := ssc_lt hS hp e (by omega)
        have h2 := hhi k p (Nat.le_refl _) hp
        unfold cBef befP at *
        simp only [decide_eq_true_eq, decide_eq_false_iff_not] at *
        omega) (fun d hd => by cases hd)
  rwa [List.take_append_drop] at key
theorem set_len (hk : l[k]? = some (x, y, t)) : (l.take k ++ l.drop (k + 1)).length + 1 = l.length ∧ (l.take k ++ (x, y, s) :: l.drop (k + 1)).length = l.length := by
  have hkl := (List.getElem?_eq_some_iff.1 hk).1
  simp only [List.length_append, List.length_take, List.length_drop, List.length_cons]; omega
theorem set_at (hk : l[k]? = some (x, y, t)) : l.take k ++ (x, y, s) :: l.drop (k + 1) = l.set k (x, y, s) := by
  have hkl := (List.getElem?_eq_some_iff.1 hk).1
  rw [List.set_eq_take_append_cons_drop, if_pos hkl]
end
end Go.Proofs.YtenckggfgbkfnaaDoor
end
section
namespace Go.Proofs.YtenckggfgbkfnaaDoor
open Go Go.RowKit
section
variable {ax ay aw ah bx by' bw bh px py : Int}
theorem boxIn_iff {x y w h px py : Int} : boxInB x y w h px py = true ↔ rightB x y w h = true ∧ x ≤ px ∧ px < x + w ∧ y ≤ py ∧ py < y + h := by
  unfold boxInB; rw [Bool.and_eq_true, decide_eq_true_eq]
theorem meetOk_comm (ax ay aw ah bx by' bw bh : Int) : meetOk ax ay aw ah bx by' bw bh = meetOk bx by' bw bh ax ay aw ah := by
  rw [Bool.eq_iff_iff, meetOk_iff, meetOk_iff, Int.max_comm, Int.min_comm (a := ax + aw), Int.max_comm (a := ay), Int.min_comm (a := ay + ah)]
  exact ⟨fun ⟨a, b, c, d⟩ => ⟨b, a, c, d⟩, fun ⟨a, b, c, d⟩ => ⟨b, a, c, d⟩⟩
theorem meet_comm (ax ay aw ah bx by' bw bh : Int) : meetX ax ay aw ah bx by' bw bh = meetX bx by' bw bh ax ay aw ah ∧ meetY ax ay aw ah bx by' bw bh = meetY bx by' bw bh ax ay aw ah ∧ meetW ax ay aw ah bx by' bw bh = meetW bx by' bw bh ax ay aw ah ∧ meetH ax ay aw ah bx by' bw bh = meetH bx by' bw bh ax ay aw ah := by
  unfold meetX meetY meetW meetH
  rw [meetOk_comm ax ay aw ah]
  refine ⟨?_, ?_, ?_, ?_⟩ <;> (congr 1; omega)
theorem right0 : rightB 0 0 0 0 = false := by decide +kernel
theorem meet_in (hA : rightB ax ay aw ah = true) (hB : rightB bx by' bw bh = true) : boxInB (meetX ax ay aw ah bx by' bw bh) (meetY ax ay aw ah bx by' bw bh) (meetW ax ay aw ah bx by' bw bh) (meetH ax ay aw ah bx by' bw bh) px py = (boxInB ax ay aw ah px py && boxInB bx by' bw bh px py) := by
  have rA := rightB_iff.1 hA
  have rB := rightB_iff.1 hB
  cases hq : meetOk ax ay aw ah bx by' bw bh with
  | false =>
    have h0 : meetX ax ay aw ah bx by' bw bh = 0 ∧ meetY ax ay aw ah bx by' bw bh = 0 ∧ meetW ax ay aw ah bx by' bw bh = 0 ∧ meetH ax ay aw ah bx by' bw bh = 0 := by
      unfold meetX meetY meetW meetH; rw [hq]; exact ⟨rfl, rfl, rfl, rfl⟩
    rw [h0.1, h0.2.1, h0.2.2.1, h0.2.2.2]
    have e1 : boxInB 0 0 0 0 px py = false := by unfold boxInB; rw [right0]; rfl
    rw [e1]
    symm
    rw [Bool.eq_false_iff]
    intro hc
    rw [Bool.and_eq_true, boxIn_iff, boxIn_iff] at hc
    obtain ⟨⟨_, a1, a2, a3, a4⟩, ⟨_, b1, b2, b3, b4⟩⟩ := hc
    have : meetOk ax ay aw ah bx by' bw bh = true := meetOk_iff.2 ⟨hA, hB, by omega, by omega⟩
    rw [hq] at this; cases this
  | true =>
    obtain ⟨_, _, h1, h2⟩ := meetOk_iff.1 hq
    unfold meetX meetY meetW meetH ifB
    rw [hq, if_pos rfl, if_pos rfl, if_pos rfl, if_pos rfl, Bool.eq_iff_iff, Bool.and_eq_true, boxIn_iff, boxIn_iff, boxIn_iff, rightB_iff, hA, hB]
    constructor
    · rintro ⟨_, a1, a2, a3, a4⟩
      exact ⟨⟨rfl, by omega, by omega, by omega, by omega⟩, ⟨rfl, by omega, by omega, by omega, by omega⟩⟩
    · rintro ⟨⟨_, a1, a2, a3, a4⟩, ⟨_, b1, b2, b3, b4⟩⟩
      exact ⟨by omega, by omega, by omega, by omega, by omega⟩
theorem meet_both (h1 : boxInB ax ay aw ah px py = true) (h2 : boxInB bx by' bw bh px py = true) : meetOk ax ay aw ah bx by' bw bh = true := by
  obtain ⟨hA, a1, a2, a3, a4⟩ := boxIn_iff.1 h1
  obtain ⟨hB, b1, b2, b3, b4⟩ := boxIn_iff.1 h2
  exact meetOk_iff.2 ⟨hA, hB, by omega, by omega⟩
theorem join_in (hA : rightB ax ay aw ah = true) (hB : rightB bx by' bw bh = true) (h : boxInB ax ay aw ah px py = true ∨ boxInB bx by' bw bh px py = true) : boxInB (joinX ax ay aw ah bx by' bw bh) (joinY ax ay aw ah bx by' bw bh) (joinW ax ay aw ah bx by' bw bh) (joinH ax ay aw ah bx by' bw bh) px py = true := by
  have rA := rightB_iff.1 hA
  have rB := rightB_iff.1 hB
  unfold joinX joinY joinW joinH
  rw [hA, hB]
  simp only [joinV]
  rw [boxIn_iff, rightB_iff]
  rcases h with h | h
  · obtain ⟨_, a1, a2, a3, a4⟩ := boxIn_iff.1 h
    refine ⟨?_, ?_, ?_, ?_, ?_⟩ <;> omega
  · obtain ⟨_, a1, a2, a3, a4⟩ := boxIn_iff.1 h
    refine ⟨?_, ?_, ?_, ?_, ?_⟩ <;> omega
end
/-- Grow by k is undone by Grow by -k. -/
theorem grow_back {x y w h k : Int} (hr : rightB x y w h = true) (hk : -4194304 ≤ k ∧ k ≤ 4194304) (he : growE x y w h k = 0) :
    growE (growX x y w h k) (growY x y w h k) (growW x y w h k) (growH x y w h k) (-k) = 0 ∧ growX (growX x y w h k) (growY x y w h k) (growW x y w h k) (growH x y w h k) (-k) = x ∧ growY (growX x y w h k) (growY x y w h k) (growW x y w h k) (growH x y w h k) (-k) = y ∧
      growW (growX x y w h k) (growY x y w h k) (growW x y w h k) (growH x y w h k) (-k) = w ∧ growH (growX x y w h k) (growY x y w h k) (growW x y w h k) (growH x y w h k) (-k) = h := by
  have hR := rightB_iff.1 hr
  have c1 : clampK k = k := by unfold clampK; omega
  have c2 : clampK (-k) = -k := by unfold clampK; omega
  have hok : growOk x y w h k = true := by unfold growOk; rw [he]; rfl
  have e1 : growX x y w h k = x - k := by unfold growX ifB; rw [hok, if_pos rfl, c1]
  have e2 : growY x y w h k = y - k := by unfold growY ifB; rw [hok, if_pos rfl, c1]
  have e3 : growW x y w h k = w + 2 * k := by unfold growW ifB; rw [hok, if_pos rfl, c1]
  have e4 : growH x y w h k = h + 2 * k := by unfold growH ifB; rw [hok, if_pos rfl, c1]
  rw [e1, e2, e3, e4]
  have hg : ¬ (w + 2 * k < 1 ∨ h + 2 * k < 1) ∧ rightB (x - k) (y - k) (w + 2 * k) (h + 2 * k) = true := by
    unfold growE at he
    rw [if_pos hr, c1] at he
    split at he
    · omega
    · rename_i hn
      refine ⟨hn, ?_⟩
      split at he
      · assumption
      · omega
  have hE : growE (x - k) (y - k) (w + 2 * k) (h + 2 * k) (-k) = 0 := by
    unfold growE
    rw [if_pos hg.2, c2, if_neg (by omega), if_pos]
    rw [rightB_iff]; omega
  have hok2 : growOk (x - k) (y - k) (w + 2 * k) (h + 2 * k) (-k) = true := by unfold growOk; rw [hE]; rfl
  refine ⟨hE, ?_, ?_, ?_, ?_⟩
  · unfold growX ifB; rw [hok2, if_pos rfl, c2]; omega
  · unfold growY ifB; rw [hok2, if_pos rfl, c2]; omega
  · unfold growW ifB; rw [hok2, if_pos rfl, c2]; omega
  · unfold growH ifB; rw [hok2, if_pos rfl, c2]; omega
theorem lo_le : ∀ (l : List (Int × Int)) (d m : Int), (∀ p, p ∈ l → m ≤ p.1) → m ≤ d → m ≤ loX l d
  | [], d, m, _, h => h
  | p :: l, d, m, hp, h => lo_le l (min d p.1) m (fun q hq => hp q (by simp [hq])) (by have := hp p (by simp); omega)
theorem loY_le : ∀ (l : List (Int × Int)) (d m : Int), (∀ p, p ∈ l → m ≤ p.2) → m ≤ d → m ≤ loY l d
  | [], d, m, _, h => h
  | p :: l, d, m, hp, h => loY_le l (min d p.2) m (fun q hq => hp q (by simp [hq])) (by have := hp p (by simp); omega)
theorem hi_le : ∀ (l : List (Int × Int)) (d m : Int), (∀ p, p ∈ l → p.1 ≤ m) → d ≤ m → hiX l d ≤ m
  | [], d, m, _, h => h
  | p :: l, d, m, hp, h => hi_le l (max d p.1) m (fun q hq => hp q (by simp [hq])) (by have := hp p (by simp); omega)
theorem hiY_le : ∀ (l : List (Int × Int)) (d m : Int), (∀ p, p ∈ l → p.2 ≤ m) → d ≤ m → hiY l d ≤ m
  | [], d, m, _, h => h
  | p :: l, d, m, hp, h => hiY_le l (max d p.2) m (fun q hq => hp q (by simp [hq])) (by have := hp p (by simp); omega)
theorem lo_low : ∀ (l : List (Int × Int)) (d : Int), loX l d ≤ d ∧ (∀ p, p ∈ l → loX l d ≤ p.1)
  | [], d => ⟨Int.le_refl _, fun p h => by simp at h⟩
  | q :: l, d => by
    have ih := lo_low l (min d q.1)
    refine ⟨by have := ih.1; show loX l (min d q.1) ≤ d; omega, fun p hp => ?_⟩
    rcases List.mem_cons.1 hp with rfl | h
    · have := ih.1; show loX l (min d p.1) ≤ p.1; omega
    · exact ih.2 p h
theorem loY_low : ∀ (l : List (Int × Int)) (d : Int), loY l d ≤ d ∧ (∀ p, p ∈ l → loY l d ≤ p.2)
  | [], d => ⟨Int.le_refl _, fun p h => by simp at h⟩
  | q :: l, d => by
    have ih := loY_low l (min d q.2)
    refine ⟨by have := ih.1; show loY l (min d q.2) ≤ d; omega, fun p hp => ?_⟩
    rcases List.mem_cons.1 hp with rfl | h
    · have := ih.1; show loY l (min d p.2) ≤ p.2; omega
    · exact ih.2 p h
theorem hi_high : ∀ (l : List (Int × Int)) (d : Int), d ≤ hiX l d ∧ (∀ p, p ∈ l → p.1 ≤ hiX l d)
  | [], d => ⟨Int.le_refl _, fun p h => by simp at h⟩
  | q :: l, d => by
    have ih := hi_high l (max d q.1)
    refine ⟨by have := ih.1; show d ≤ hiX l (max d q.1); omega, fun p hp => ?_⟩
    rcases List.mem_cons.1 hp with rfl | h
    · have := ih.1; show p.1 ≤ hiX l (max d p.1); omega
    · exact ih.2 p h
theorem hiY_high : ∀ (l : List (Int × Int)) (d : Int), d ≤ hiY l d ∧ (∀ p, p ∈ l → p.2 ≤ hiY l d)
  | [], d => ⟨Int.le_refl _, fun p h => by simp at h⟩
  | q :: l, d => by
    have ih := hiY_high l (max d q.2)
    refine ⟨by have := ih.1; show d ≤ hiY l (max d q.2); omega, fun p hp => ?_⟩
    rcases List.mem_cons.1 hp with rfl | h
    · have := ih.1; show p.2 ≤ hiY l (max d p.2); omega
    · exact ih.2 p h
/-- Around of a box's positions is the box. -/
theorem around_pts {x y w h : Int} (hr : rightB x y w h = true) (hw : w * h ≤ 5000) (h1 : 1 ≤ w * h) : arOk (ptsL x y w h) = true ∧ arX (ptsL x y w h) = x ∧ arY (ptsL x y w h) = y ∧ arW (ptsL x y w h) = w ∧ arH (ptsL x y w h) = h ∧ ((ptsL x y w h).length : Int) = w * h := by
  have hR := rightB_iff.1 hr
  have hok : ptsOk x y w h = true := by unfold ptsOk; rw [hr, decide_eq_true hw]; rfl
  have hl : ptsL x y w h = ptsAt x y w (w * h).toNat := by unfold ptsL; rw [if_pos hok]
  have hlen : (ptsL x y w h).length = (w * h).toNat := by rw [hl, ptsAt_len]
  have hmem : ∀ p, p ∈ ptsL x y w h → x ≤ p.1 ∧ p.1 ≤ x + w - 1 ∧ y ≤ p.2 ∧ p.2 ≤ y + h - 1 := by
    intro p hp
    rw [hl] at hp
    obtain ⟨i, hi, rfl⟩ := List.mem_map.1 hp
    have hi' : i < (w * h).toNat := by simpa using hi
    unfold ptAt
    have r1 := Int.emod_nonneg (i : Int) (show w ≠ 0 by omega)
    have r2 := Int.emod_lt_of_pos (i : Int) (show 0 < w by omega)
    have q1 := Int.ediv_nonneg (show (0 : Int) ≤ i by omega) (show (0 : Int) ≤ w by omega)
    have q2 : (i : Int) / w < h := Int.ediv_lt_of_lt_mul (by omega) (by rw [Int.mul_comm]; omega)
    refine ⟨?_, ?_, ?_, ?_⟩ <;> (simp only; omega)
  have hfirst : (x, y) ∈ ptsL x y w h := by
    rw [hl]
    refine List.mem_map.2 ⟨0, by simp; omega, ?_⟩
    unfold ptAt; simp
  have hlast : (x + w - 1, y + h - 1) ∈ ptsL x y w h := by
    rw [hl]
    obtain ⟨wn, rfl⟩ : ∃ wn : Nat, w = (wn : Int) := ⟨w.toNat, by omega⟩
    obtain ⟨hn, rfl⟩ : ∃ hn : Nat, h = (hn : Int) := ⟨h.toNat, by omega⟩
    have hkk : (hn - 1) * wn + (wn - 1) < hn * wn := by
      obtain ⟨m, rfl⟩ : ∃ m, hn = m + 1 := ⟨hn - 1, by omega⟩
      rw [Nat.add_mul, Nat.one_mul, Nat.add_sub_cancel]; omega
    refine List.mem_map.2 ⟨(hn - 1) * wn + (wn - 1), ?_, ?_⟩
    · have e : ((wn : Int) * (hn : Int)).toNat = hn * wn := by rw [← Int.natCast_mul, Int.toNat_natCast, Nat.mul_comm]
      rw [e]; simpa using hkk
    · rw [ptAt_row (by omega)]
      simp only [Prod.mk.injEq]; omega
  have hne : ptsL x y w h ≠ [] := fun e => by rw [e] at hfirst; simp at hfirst
  have har : arOk (ptsL x y w h) = true := by
    unfold arOk
    rw [Bool.and_eq_true, List.all_eq_true]
    refine ⟨by (cases hq : ptsL x y w h with | nil => exact absurd hq hne | cons _ _ => rfl), fun p hp => ?_⟩
    have := hmem p hp
    unfold okP
    rw [validB_iff]; unfold Pt; omega
  have hfst : fstX (ptsL x y w h) = x ∧ fstY (ptsL x y w h) = y := by
    refine fst_of ?_
    rw [hl]
    unfold ptsAt
    rw [List.getElem?_map, List.getElem?_range (by omega)]
    unfold ptAt; simp
  have eX : loX (ptsL x y w h) x = x := by
    have a := (lo_low (ptsL x y w h) x).1
    have b := lo_le (ptsL x y w h) x x (fun p hp => (hmem p hp).1) (Int.le_refl _)
    omega
  have eY : loY (ptsL x y w h) y = y := by
    have a := (loY_low (ptsL x y w h) y).1
    have b := loY_le (ptsL x y w h) y y (fun p hp => (hmem p hp).2.2.1) (Int.le_refl _)
    omega
  have eX2 : hiX (ptsL x y w h) x = x + w - 1 := by
    have a := (hi_high (ptsL x y w h) x).2 _ hlast
    have b := hi_le (ptsL x y w h) x (x + w - 1) (fun p hp => (hmem p hp).2.1) (by omega)
    simp only at a; omega
  have eY2 : hiY (ptsL x y w h) y = y + h - 1 := by
    have a := (hiY_high (ptsL x y w h) y).2 _ hlast
    have b := hiY_le (ptsL x y w h) y (y + h - 1) (fun p hp => (hmem p hp).2.2.2) (by omega)
    simp only at a; omega
  refine ⟨har, ?_, ?_, ?_, ?_, by rw [hlen]; omega⟩
  · unfold arX ifB; rw [har, if_pos rfl, hfst.1, eX]
  · unfold arY ifB; rw [har, if_pos rfl, hfst.2, eY]
  · unfold arW ifB; rw [har, if_pos rfl, hfst.1, eX, eX2]; omega
  · unfold arH ifB; rw [har, if_pos rfl, hfst.2, eY, eY2]; omega
end Go.Proofs.YtenckggfgbkfnaaDoor
end
section
namespace Go.Proofs.YtenckggfgbkfnaaDoor
open Go Go.RowKit
def mv5 (dx dy : Int) (c : Int × Int × Int) : Int × Int × Int := (c.1 + dx, c.2.1 + dy, c.2.2)
theorem cBef_mv (dx dy : Int) (a b : Int × Int × Int) : cBef (mv5 dx dy a) (mv5 dx dy b) = cBef a b := by
  unfold cBef befP mv5; simp only; congr 1; rw [eq_iff_iff]; omega
theorem rightC_mv {l : List (Int × Int × Int)} {dx dy : Int} (h : rightC l = true) (hp : ∀ c ∈ l, Pt (c.1 + dx) (c.2.1 + dy)) : rightC (l.map (mv5 dx dy)) = true := by
  refine rightC_of (by rw [List.length_map]; exact (rightC_ok h).1) (fun p hm => ?_) ?_
  · obtain ⟨c, hc, rfl⟩ := List.mem_map.1 hm
    obtain ⟨i, hi⟩ := List.getElem?_of_mem hc
    obtain ⟨c1, c2, c3⟩ := c
    have := rightC_elem h hi
    exact ⟨hp _ hc, this.2⟩
  · unfold SSC
    rw [List.pairwise_map]
    exact (rightC_sorted h).imp fun {a b} hab => by rw [cBef_mv]; exact hab
theorem mv_back (l : List (Int × Int × Int)) (dx dy : Int) : (l.map (mv5 dx dy)).map (mv5 (-dx) (-dy)) = l := by
  rw [List.map_map]
  conv => rhs; rw [← List.map_id l]
  refine List.map_congr_left fun c _ => ?_
  obtain ⟨a, b, s⟩ := c
  show (a + dx + -dx, b + dy + -dy, s) = (a, b, s)
  rw [show a + dx + -dx = a by omega, show b + dy + -dy = b by omega]
/-- States. -/
theorem getC_mem : ∀ {l : List (Int × Int × Int)} {x y s : Int}, SSC l → (x, y, s) ∈ l → getC l x y = s
  | [], _, _, _, _, h => by cases h
  | c :: l, x, y, s, hS, h => by
    obtain ⟨h1, h2⟩ := List.pairwise_cons.1 hS
    unfold getC
    rcases List.mem_cons.1 h with e | hm
    · subst e; rw [if_pos ⟨rfl, rfl⟩]
    · have := h1 _ hm
      rw [if_neg (fun ⟨e1, e2⟩ => by
        unfold cBef befP at this
        simp only [decide_eq_true_eq] at this
        omega)]
      exact getC_mem h2 hm
theorem getC_not : ∀ {l : List (Int × Int × Int)} {x y : Int}, (∀ c ∈ l, ¬(c.1 = x ∧ c.2.1 = y)) → getC l x y = 0
  | [], _, _, _ => rfl
  | c :: l, x, y, h => by
    unfold getC
    rw [if_neg (h c (by simp))]
    exact getC_not fun d hd => h d (by simp [hd])
theorem mem_offL {l : List (Int × Int × Int)} {x y : Int} {c : Int × Int × Int} : c ∈ offL l x y ↔ c ∈ l ∧ ¬(c.1 = x ∧ c.2.1 = y) := by
  unfold offL atC
  rw [List.mem_filter, Bool.not_eq_true', decide_eq_false_iff_not]
theorem mem_insC {l : List (Int × Int × Int)} {c d : Int × Int × Int} : d ∈ insC l c ↔ d = c ∨ d ∈ l := by
  rw [(insC_perm l c).mem_iff, List.mem_cons]
theorem ssc_offL {l : List (Int × Int × Int)} {x y : Int} (h : SSC l) : SSC (offL l x y) := by
  unfold offL; exact h.sublist List.filter_sublist
theorem ssc_setR {l : List (Int × Int × Int)} {x y s : Int} (h : SSC l) : SSC (setR l x y s) := by
  unfold setR
  split
  · have h1 := ssc_iff.1 (ssc_offL (x := x) (y := y) h)
    refine ssc_iff.2 ⟨insC_wc _ _ h1.1, ?_⟩
    rw [((insC_perm _ _).map posD).nodup_iff, List.map_cons, List.nodup_cons]
    refine ⟨fun hm => ?_, h1.2⟩
    obtain ⟨c, hc, e⟩ := List.mem_map.1 hm
    have := (mem_offL.1 hc).2
    unfold posD at e
    injection e with e1 e2
    exact this ⟨e1, e2⟩
  · exact ssc_offL h
theorem mem_setR {l : List (Int × Int × Int)} {x y s : Int} {c : Int × Int × Int} : c ∈ setR l x y s ↔ (0 < s ∧ c = (x, y, s)) ∨ (c ∈ l ∧ ¬(c.1 = x ∧ c.2.1 = y)) := by
  unfold setR
  split
  · rename_i h
    rw [mem_insC, mem_offL]; simp [h]
  · rename_i h
    rw [mem_offL]; simp [h]
theorem setE_zero {l : List (Int × Int × Int)} {x y s : Int} (h : setE l x y s = 0) : rightC l = true ∧ validB x y = true ∧ 0 ≤ s ∧ s ≤ 7 ∧ (setR l x y s).length ≤ 5000 := by
  unfold setE at h
  split at h
  · cases h
  · split at h
    · cases h
    · split at h
      · cases h
      · split at h
        · cases h
        · rename_i h1 h2 h3 h4
          exact ⟨by simpa using h1, by simpa using h2, by omega, by omega, by omega⟩
theorem setL_right {l : List (Int × Int × Int)} {x y s : Int} (h : setE l x y s = 0) : rightC (setL l x y s) = true := by
  obtain ⟨h1, h2, h3, h4, h5⟩ := setE_zero h
  rw [setL_ok h]
  refine rightC_of h5 (fun p hp => ?_) (ssc_setR (rightC_sorted h1))
  rcases mem_setR.1 hp with ⟨h0, rfl⟩ | ⟨hm, _⟩
  · exact ⟨validB_iff.1 h2, by simp only; omega, by simp only; omega⟩
  · obtain ⟨i, hi⟩ := List.getElem?_of_mem hm
    obtain ⟨a, b, c⟩ := p
    exact rightC_elem h1 hi
theorem setL_get {l : List (Int × Int × Int)} {x y s : Int} (h : setE l x y s = 0) : getC (setL l x y s) x y = s := by
  obtain ⟨h1, h2, h3, h4, h5⟩ := setE_zero h
  rw [setL_ok h]
  by_cases h0 : 0 < s
  · exact getC_mem (ssc_setR (rightC_sorted h1)) (mem_setR.2 (.inl ⟨h0, rfl⟩))
  · rw [getC_not fun c hc => ?_]
    · omega
    · rcases mem_setR.1 hc with ⟨h7, _⟩ | ⟨_, hn⟩
      · exact absurd h7 h0
      · exact hn
theorem setL_other {l : List (Int × Int × Int)} {x y s a b c : Int} (h : setE l x y s = 0) (hm : (a, b, c) ∈ l) (hn : ¬(a = x ∧ b = y)) : getC (setL l x y s) a b = c := by
  obtain ⟨h1, _⟩ := setE_zero h
  rw [setL_ok h]
  exact getC_mem (ssc_setR (rightC_sorted h1)) (mem_setR.2 (.inr ⟨hm, hn⟩))
theorem frE_zero {l : List (Int × Int × Int)} (h : frE l = 0) : frFirst l = 0 ∧ ssB (srtC (nz l)) = true ∧ (nz l).length ≤ 5000 := by
  unfold frE at h
  split at h
  · split at h
    · split at h
      · exact ⟨‹_›, ‹_›, ‹_›⟩
      · cases h
    · cases h
  · exact absurd h ‹_›
theorem frFirst_all : ∀ {l : List (Int × Int × Int)}, frFirst l = 0 → ∀ c ∈ l, frBad c = 0
  | [], _, c, hc => by cases hc
  | d :: l, h, c, hc => by
    unfold frFirst at h
    split at h
    · rcases List.mem_cons.1 hc with rfl | hm
      · assumption
      · exact frFirst_all h c hm
    · exact absurd h ‹_›
theorem frL_right {l : List (Int × Int × Int)} (h : frE l = 0) : rightC (frL l) = true := by
  obtain ⟨h1, h2, h3⟩ := frE_zero h
  rw [frL_ok h]
  refine rightC_of (by rw [(srtC_perm _).length_eq]; exact h3) (fun p hp => ?_) (ssB_iff.1 h2)
  have hm := (srtC_perm _).mem_iff.1 hp
  unfold nz nzC at hm
  obtain ⟨hm, h0⟩ := List.mem_filter.1 hm
  have hb := frFirst_all h1 p hm
  unfold frBad at hb
  simp only [decide_eq_true_eq] at h0
  split at hb
  · rename_i hv
    split at hb
    · exact ⟨validB_iff.1 hv, by omega, by omega⟩
    · cases hb
  · cases hb
theorem frL_get {l : List (Int × Int × Int)} {x y s : Int} (h : frE l = 0) (hm : (x, y, s) ∈ l) (h0 : s ≠ 0) : getC (frL l) x y = s := by
  obtain ⟨h1, h2, h3⟩ := frE_zero h
  have hb := frFirst_all h1 _ hm
  rw [frL_ok h]
  refine getC_mem (ssB_iff.1 h2) ((srtC_perm _).mem_iff.2 (List.mem_filter.2 ⟨hm, ?_⟩))
  unfold frBad at hb
  unfold nzC
  split at hb
  · split at hb
    · exact decide_eq_true (by simp only at *; omega)
    · cases hb
  · cases hb
/-- How many cells have a state. -/
def nzN (l : List (Int × Int × Int)) : Nat := (l.filter fun c => c.2.2 != 0).length
theorem nzN_frL {l : List (Int × Int × Int)} (h : frE l = 0) : (frL l).length = nzN l := by
  obtain ⟨h1, h2, h3⟩ := frE_zero h
  rw [frL_ok h, (srtC_perm _).length_eq]
  unfold nz nzN
  congr 1
  refine List.filter_congr fun c hc => ?_
  have hb := frFirst_all h1 c hc
  unfold frBad at hb
  unfold nzC
  split at hb
  · split at hb
    · rw [Bool.eq_iff_iff]; simp only [decide_eq_true_eq, bne_iff_ne, ne_eq]; omega
    · cases hb
  · cases hb
theorem nzN_step {l : List (Int × Int × Int)} {j : Nat} {x y s : Int} (h : l[j]? = some (x, y, s)) : nzN (l.take (j + 1)) = nzN (l.take j) + (if s = 0 then 0 else 1) := by
  unfold nzN
  rw [List.take_add_one, List.filter_append, h, List.length_append]
  simp only [Option.toList_some, List.filter_cons, List.filter_nil]
  by_cases h0 : s = 0
  · rw [if_neg (by simp [h0]), if_pos h0]; rfl
  · rw [if_pos (by simpa using h0), if_neg h0]; rfl
theorem nzN_le (l : List (Int × Int × Int)) : nzN l ≤ l.length := List.length_filter_le _ _
/-- The order. -/
theorem cmpI_neg (a b : Int) : cmpI b a = -cmpI a b := by unfold cmpI; (repeat' split) <;> omega
theorem cmpI_bd (a b : Int) : -1 ≤ cmpI a b ∧ cmpI a b ≤ 1 := by unfold cmpI; (repeat' split) <;> omega
theorem cmpC_neg (a b : Int × Int × Int) : cmpC b a = -cmpC a b := by unfold cmpC cmpO cmpP orI cmpI; (repeat' split) <;> omega
theorem cmpC_bd (a b : Int × Int × Int) : -1 ≤ cmpC a b ∧ cmpC a b ≤ 1 := by unfold cmpC cmpO cmpP orI cmpI; (repeat' split) <;> omega
theorem cmpL_bd : ∀ (a b : List (Int × Int × Int)), -1 ≤ cmpL a b ∧ cmpL a b ≤ 1
  | [], [] => by decide
  | [], _ :: _ => by unfold cmpL; omega
  | _ :: _, [] => by unfold cmpL; omega
  | a :: l, b :: r => by
    unfold cmpL
    split
    · exact cmpL_bd l r
    · exact cmpC_bd a b
theorem cmpL_neg : ∀ (a b : List (Int × Int × Int)), cmpL b a = -cmpL a b
  | [], [] => by decide
  | [], _ :: _ => rfl
  | _ :: _, [] => rfl
  | a :: l, b :: r => by
    unfold cmpL
    by_cases h : a = b
    · rw [if_pos h, if_pos h.symm]; exact cmpL_neg l r
    · rw [if_neg h, if_neg (fun e => h e.symm)]; exact cmpC_neg a b
theorem cmpL_zero : ∀ (a b : List (Int × Int × Int)), cmpL a b = 0 ↔ a = b
  | [], [] => by simp [cmpL]
  | [], _ :: _ => by simp [cmpL]
  | _ :: _, [] => by simp [cmpL]
  | a :: l, b :: r => by
    unfold cmpL
    by_cases h : a = b
    · rw [if_pos h, cmpL_zero l r, h]; simp
    · rw [if_neg h]
      constructor
      · intro h2; exact absurd (cmpC_zero h2) h
      · intro h2; injection h2 with h3; exact absurd h3 h
theorem cmpC_le {a b : Int × Int × Int} : cmpC a b ≤ 0 ↔ (a.2.1 < b.2.1 ∨ a.2.1 = b.2.1 ∧ (a.1 < b.1 ∨ a.1 = b.1 ∧ a.2.2 ≤ b.2.2)) := by
  unfold cmpC cmpO cmpP orI cmpI; (repeat' split) <;> omega
theorem cmpC_tr {a b c : Int × Int × Int} (h1 : cmpC a b ≤ 0) (h2 : cmpC b c ≤ 0) : cmpC a c ≤ 0 := by
  rw [cmpC_le] at *; omega
theorem cmpL_tr : ∀ (a b c : List (Int × Int × Int)), cmpL a b ≤ 0 → cmpL b c ≤ 0 → cmpL a c ≤ 0
  | [], _, [], _, _ => by simp [cmpL]
  | [], _, _ :: _, _, _ => by simp [cmpL]
  | _ :: _, [], _, h, _ => by simp [cmpL] at h
  | _ :: _, _ :: _, [], _, h => by simp [cmpL] at h
  | a :: l, b :: r, c :: q, h1, h2 => by
    unfold cmpL at *
    by_cases e1 : a = b
    · subst e1
      rw [if_pos rfl] at h1
      by_cases e2 : a = c
      · subst e2
        rw [if_pos rfl] at h2 ⊢
        exact cmpL_tr l r q h1 h2
      · rw [if_neg e2] at h2 ⊢; exact h2
    · rw [if_neg e1] at h1
      by_cases e2 : b = c
      · subst e2
        rw [if_neg e1]; exact h1
      · rw [if_neg e2] at h2
        by_cases e3 : a = c
        · subst e3
          exfalso
          have := cmpC_neg a b
          have h0 : cmpC a b ≠ 0 := fun h => e1 (cmpC_zero h)
          omega
        · rw [if_neg e3]; exact cmpC_tr h1 h2
theorem cmpI_add (a b d : Int) : cmpI (a + d) (b + d) = cmpI a b := by
  unfold cmpI; (repeat' split) <;> omega
theorem cmpC_mv (dx dy : Int) (a b : Int × Int × Int) : cmpC (mv5 dx dy a) (mv5 dx dy b) = cmpC a b := by
  unfold cmpC cmpO cmpP mv5; simp only [cmpI_add]
theorem cmpL_mv (dx dy : Int) : ∀ (a b : List (Int × Int × Int)), cmpL (a.map (mv5 dx dy)) (b.map (mv5 dx dy)) = cmpL a b
  | [], [] => rfl
  | [], _ :: _ => rfl
  | _ :: _, [] => rfl
  | a :: l, b :: r => by
    rw [List.map_cons, List.map_cons]
    unfold cmpL
    by_cases h : a = b
    · rw [if_pos h, if_pos (by rw [h])]; exact cmpL_mv dx dy l r
    · rw [if_neg h, if_neg (fun e => h (by
        obtain ⟨a1, a2, a3⟩ := a
        obtain ⟨b1, b2, b3⟩ := b
        unfold mv5 at e
        simp only [Prod.mk.injEq] at e ⊢
        omega)), cmpC_mv]
theorem sameL_cmp (a b : List (Int × Int × Int)) : sameL a b = (cmpL a b == 0) := by
  unfold sameL
  rw [Bool.eq_iff_iff, decide_eq_true_eq, beq_iff_eq, cmpL_zero]
end Go.Proofs.YtenckggfgbkfnaaDoor
end
section
namespace Go.Proofs.YtenckggfgbkfnaaDoor
open Go Go.RowKit
/-- The positions of two patterns in order, each with the cells that stand there. -/
def evL : List (Int × Int × Int) → List (Int × Int × Int) → List (Option (Int × Int × Int) × Option (Int × Int × Int))
  | [], b => b.map fun y => (none, some y)
  | x :: a, [] => (x :: a).map fun x => (some x, none)
  | x :: a, y :: b => if cBef x y = true then (some x, none) :: evL a (y :: b) else if cBef y x = true then (none, some y) :: evL (x :: a) b else (some x, some y) :: evL a b
termination_by a b => a.length + b.length
section
variable {a b : List (Int × Int × Int)} {x y : Int × Int × Int}
theorem evL_nil_left (b : List (Int × Int × Int)) : evL [] b = b.map fun y => (none, some y) := by rw [evL]
theorem evL_left (a : List (Int × Int × Int)) (x : Int × Int × Int) : evL (x :: a) [] = (some x, none) :: evL a [] := by
  cases a with
  | nil => rw [evL_nil_left, evL]; rfl
  | cons z a => rw [evL, evL]; rfl
theorem evL_right (b : List (Int × Int × Int)) (y : Int × Int × Int) : evL [] (y :: b) = (none, some y) :: evL [] b := by
  rw [evL_nil_left, evL_nil_left]; rfl
theorem evL_lt (h : cBef x y = true) : evL (x :: a) (y :: b) = (some x, none) :: evL a (y :: b) := by rw [evL, if_pos h]
theorem evL_gt (h : cBef y x = true) : evL (x :: a) (y :: b) = (none, some y) :: evL (x :: a) b := by
  rw [evL, if_neg (by rw [cBef_asym h]; simp), if_pos h]
theorem evL_eq (h1 : cBef x y = false) (h2 : cBef y x = false) : evL (x :: a) (y :: b) = (some x, some y) :: evL a b := by
  rw [evL, if_neg (by rw [h1]; simp), if_neg (by rw [h2]; simp)]
end
/-- Both cells stand at one position. -/
def atSame (x y : Int × Int × Int) : Prop := x.1 = y.1 ∧ x.2.1 = y.2.1
theorem same_of_not {x y : Int × Int × Int} (h1 : cBef x y = false) (h2 : cBef y x = false) : atSame x y := by
  unfold cBef befP at *; unfold atSame; simp only [decide_eq_false_iff_not] at *; omega
theorem not_of_same {x y : Int × Int × Int} (h : atSame x y) : cBef x y = false ∧ cBef y x = false := by
  unfold cBef befP atSame at *; simp only [decide_eq_false_iff_not]; omega
theorem bef_not_same {x y : Int × Int × Int} (h : cBef x y = true) : ¬ atSame x y := fun e => by rw [(not_of_same e).1] at h; cases h
theorem same_comm {x y : Int × Int × Int} : atSame x y ↔ atSame y x := by unfold atSame; omega
/-- What an event means. -/
def evOk (a b : List (Int × Int × Int)) : Option (Int × Int × Int) × Option (Int × Int × Int) → Prop
  | (some x, some y) => x ∈ a ∧ y ∈ b ∧ atSame x y
  | (some x, none) => x ∈ a ∧ ∀ y ∈ b, ¬ atSame x y
  | (none, some y) => y ∈ b ∧ ∀ x ∈ a, ¬ atSame x y
  | (none, none) => False
def evPos : Option (Int × Int × Int) × Option (Int × Int × Int) → Int × Int × Int
  | (some x, _) => x
  | (none, some y) => y
  | (none, none) => (0, 0, 0)
theorem ssc_cons {x : Int × Int × Int} {a : List (Int × Int × Int)} (h : SSC (x :: a)) : (∀ z ∈ a, cBef x z = true) ∧ SSC a := List.pairwise_cons.1 h
theorem evL_iff (a b : List (Int × Int × Int)) (ha : SSC a) (hb : SSC b) (e : Option (Int × Int × Int) × Option (Int × Int × Int)) : e ∈ evL a b ↔ evOk a b e := by
  induction a, b using evL.induct with
  | case1 b =>
    rw [evL_nil_left, List.mem_map]
    rcases e with ⟨_ | x, _ | y⟩ <;> simp [evOk]
  | case2 x a =>
    rw [evL]
    rw [List.mem_map]
    rcases e with ⟨_ | x', _ | y⟩ <;> simp [evOk]
  | case3 x a y b h ih =>
    obtain ⟨h1, h2⟩ := ssc_cons ha
    obtain ⟨h3, h4⟩ := ssc_cons hb
    rw [evL_lt h, List.mem_cons, ih h2 hb]
    have hx : ∀ z ∈ y :: b, ¬ atSame x z := fun z hz => by
      rcases List.mem_cons.1 hz with rfl | hm
      · exact bef_not_same h
      · exact bef_not_same (cBef_tr h (h3 z hm))
    rcases e with ⟨_ | x', _ | y'⟩
    · simp [evOk]
    · simp only [evOk, List.mem_cons, reduceCtorEq, Prod.mk.injEq, false_and, false_or, and_congr_right_iff]
      intro hy
      constructor
      · rintro hq z (rfl | hz)
        · exact hx y' (List.mem_cons.2 hy)
        · exact hq z hz
      · exact fun hq z hz => hq z (Or.inr hz)
    · simp only [evOk, Prod.mk.injEq, Option.some.injEq, and_true, List.mem_cons (a := x')]
      constructor
      · rintro (rfl | ⟨hm, hq⟩)
        · exact ⟨Or.inl rfl, hx⟩
        · exact ⟨Or.inr hm, hq⟩
      · rintro ⟨rfl | hm, hq⟩
        · exact Or.inl rfl
        · exact Or.inr ⟨hm, hq⟩
    · simp only [evOk, Prod.mk.injEq, reduceCtorEq, and_false, false_or, List.mem_cons (a := x')]
      constructor
      · rintro ⟨hm, hq⟩; exact ⟨Or.inr hm, hq⟩
      · rintro ⟨rfl | hm, hq, hs⟩
        · exact absurd hs (hx y' hq)
        · exact ⟨hm, hq, hs⟩
  | case4 x a y b h h' ih =>
    obtain ⟨h1, h2⟩ := ssc_cons ha
    obtain ⟨h3, h4⟩ := ssc_cons hb
    rw [evL_gt h', List.mem_cons, ih ha h4]
    have hy : ∀ z ∈ x :: a, ¬ atSame z y := fun z hz e => by
      rcases List.mem_cons.1 hz with rfl | hm
      · exact bef_not_same h' (same_comm.1 e)
      · exact bef_not_same (cBef_tr h' (h1 z hm)) (same_comm.1 e)
    rcases e with ⟨_ | x', _ | y'⟩
    · simp [evOk]
    · simp only [evOk, Prod.mk.injEq, Option.some.injEq, true_and, List.mem_cons (a := y')]
      constructor
      · rintro (rfl | ⟨hm, hq⟩)
        · exact ⟨Or.inl rfl, hy⟩
        · exact ⟨Or.inr hm, hq⟩
      · rintro ⟨rfl | hm, hq⟩
        · exact Or.inl rfl
        · exact Or.inr ⟨hm, hq⟩
    · simp only [evOk, Prod.mk.injEq, reduceCtorEq, false_and, false_or, and_congr_right_iff]
      intro hx
      constructor
      · intro hq z hz
        rcases List.mem_cons.1 hz with rfl | hm
        · exact hy x' hx
        · exact hq z hm
      · exact fun hq z hz => hq z (List.mem_cons.2 (Or.inr hz))
    · simp only [evOk, Prod.mk.injEq, reduceCtorEq, false_and, false_or, and_congr_right_iff, List.mem_cons (a := y')]
      intro hx
      constructor
      · rintro ⟨hm, hs⟩; exact ⟨Or.inr hm, hs⟩
      · rintro ⟨rfl | hm, hs⟩
        · exact absurd hs (hy x' hx)
        · exact ⟨hm, hs⟩
  | case5 x a y b h h' ih =>
    obtain ⟨h1, h2⟩ := ssc_cons ha
    obtain ⟨h3, h4⟩ := ssc_cons hb
    have h0 : cBef x y = false := by simpa using h
    have h0' : cBef y x = false := by simpa using h'
    have hs0 := same_of_not h0 h0'
    rw [evL_eq h0 h0', List.mem_cons, ih h2 h4]
    have hx : ∀ z ∈ b, ¬ atSame x z := fun z hz e => by
      have := bef_not_same (h3 z hz)
      unfold atSame at *; omega
    have hy : ∀ z ∈ a, ¬ atSame z y := fun z hz e => by
      have := bef_not_same (h1 z hz)
      unfold atSame at *; omega
    rcases e with ⟨_ | x', _ | y'⟩
    · simp [evOk]
    · simp only [evOk, Prod.mk.injEq, reduceCtorEq, false_and, false_or, List.mem_cons]
      constructor
      · rintro ⟨hm, hq⟩
        refine ⟨Or.inr hm, fun z hz => ?_⟩
        rcases hz with rfl | hz
        · exact hx y' hm
        · exact hq z hz
      · rintro ⟨rfl | hm, hq⟩
        · exact absurd hs0 (hq x (Or.inl rfl))
        · exact ⟨hm, fun z hz => hq z (Or.inr hz)⟩
    · simp only [evOk, Prod.mk.injEq, reduceCtorEq, and_false, false_or, List.mem_cons]
      constructor
      · rintro ⟨hm, hq⟩
        refine ⟨Or.inr hm, fun z hz => ?_⟩
        rcases hz with rfl | hz
        · exact hy x' hm
        · exact hq z hz
      · rintro ⟨rfl | hm, hq⟩
        · exact absurd hs0 (hq y (Or.inl rfl))
        · exact ⟨hm, fun z hz => hq z (Or.inr hz)⟩
    · simp only [evOk, Prod.mk.injEq, Option.some.injEq, List.mem_cons]
      constructor
      · rintro (⟨rfl, rfl⟩ | ⟨hm, hq, hs⟩)
        · exact ⟨Or.inl rfl, Or.inl rfl, hs0⟩
        · exact ⟨Or.inr hm, Or.inr hq, hs⟩
      · rintro ⟨rfl | hm, rfl | hq, hs⟩
        · exact Or.inl ⟨rfl, rfl⟩
        · exact absurd hs (hx y' hq)
        · exact absurd hs (hy x' hm)
        · exact Or.inr ⟨hm, hq, hs⟩
/-- The events stand in the order of their positions. -/
theorem evL_sorted (a b : List (Int × Int × Int)) (ha : SSC a) (hb : SSC b) : (evL a b).Pairwise fun e f => cBef (evPos e) (evPos f) = true := by
  have key : ∀ (a b : List (Int × Int × Int)) (z : Int × Int × Int), SSC a → SSC b → (∀ x ∈ a, cBef z x = true) → (∀ y ∈ b, cBef z y = true) → ∀ e ∈ evL a b, cBef z (evPos e) = true := fun a b z ha hb h1 h2 e he => by
    have := (evL_iff a b ha hb e).1 he
    rcases e with ⟨_ | x', _ | y'⟩
    · exact this.elim
    · exact h2 _ this.1
    · exact h1 _ this.1
    · exact h1 _ this.1
  have bs : ∀ {x y z : Int × Int × Int}, atSame x y → cBef y z = true → cBef x z = true := fun {x y z} e h => by
    unfold cBef befP atSame at *; simp only [decide_eq_true_eq] at *; omega
  induction a, b using evL.induct with
  | case1 b =>
    rw [evL_nil_left, List.pairwise_map]; exact hb
  | case2 x a =>
    rw [evL, List.pairwise_map]; exact ha
  | case3 x a y b h ih =>
    obtain ⟨h1, h2⟩ := ssc_cons ha
    rw [evL_lt h]
    refine List.pairwise_cons.2 ⟨key _ _ _ h2 hb h1 fun z hz => ?_, ih h2 hb⟩
    rcases List.mem_cons.1 hz with rfl | hm
    · exact h
    · exact cBef_tr h ((ssc_cons hb).1 z hm)
  | case4 x a y b h h' ih =>
    obtain ⟨h3, h4⟩ := ssc_cons hb
    rw [evL_gt h']
    refine List.pairwise_cons.2 ⟨key _ _ _ ha h4 (fun z hz => ?_) h3, ih ha h4⟩
    rcases List.mem_cons.1 hz with rfl | hm
    · exact h'
    · exact cBef_tr h' ((ssc_cons ha).1 z hm)
  | case5 x a y b h h' ih =>
    obtain ⟨h1, h2⟩ := ssc_cons ha
    obtain ⟨h3, h4⟩ := ssc_cons hb
    have h0 : cBef x y = false := by simpa using h
    have h0' : cBef y x = false := by simpa using h'
    rw [evL_eq h0 h0']
    exact List.pairwise_cons.2 ⟨key _ _ _ h2 h4 h1 fun z hz => bs (same_of_not h0 h0') (h3 z hz), ih h2 h4⟩
/-- What a visitor collects: 0: over, 1: both, 2: the first alone, 3: one alone. -/
def visL : Nat → Option (Int × Int × Int) × Option (Int × Int × Int) → List (Int × Int × Int)
  | 0, (some x, _) => [x]
  | 0, (none, some y) => [y]
  | 1, (some x, some _) => [x]
  | 2, (some x, none) => [x]
  | 3, (some x, none) => [x]
  | 3, (none, some y) => [y]
  | _, _ => []
def resL (k : Nat) (a b : List (Int × Int × Int)) : List (Int × Int × Int) := (evL a b).flatMap (visL k)
theorem visL_pos {k : Nat} {e : Option (Int × Int × Int) × Option (Int × Int × Int)} {z : Int × Int × Int} (h : z ∈ visL k e) : z = evPos e := by
  rcases k with _ | _ | _ | _ | k <;> rcases e with ⟨_ | x, _ | y⟩ <;> simp [visL] at h <;> rw [h] <;> rfl
theorem visL_one (k : Nat) (e : Option (Int × Int × Int) × Option (Int × Int × Int)) : (visL k e).length ≤ 1 := by
  rcases k with _ | _ | _ | _ | k <;> rcases e with ⟨_ | x, _ | y⟩ <;> simp [visL]
theorem ssc_flatMap (k : Nat) : ∀ (l : List (Option (Int × Int × Int) × Option (Int × Int × Int))), l.Pairwise (fun e f => cBef (evPos e) (evPos f) = true) → SSC (l.flatMap (visL k))
  | [], _ => by simp [SSC]
  | e :: l, h => by
    obtain ⟨h1, h2⟩ := List.pairwise_cons.1 h
    rw [List.flatMap_cons]
    refine List.pairwise_append.2 ⟨?_, ssc_flatMap k l h2, fun x hx y hy => ?_⟩
    · have := visL_one k e
      match hv : visL k e with
      | [] => exact List.Pairwise.nil
      | [z] => simp
      | z :: z' :: r => rw [hv] at this; simp at this
    · obtain ⟨f, hf, hy⟩ := List.mem_flatMap.1 hy
      rw [visL_pos hx, visL_pos hy]
      exact h1 f hf
theorem ssc_res {a b : List (Int × Int × Int)} (k : Nat) (ha : SSC a) (hb : SSC b) : SSC (resL k a b) := ssc_flatMap k _ (evL_sorted a b ha hb)
section
variable {a b : List (Int × Int × Int)} {z : Int × Int × Int}
theorem mem_res0 (ha : SSC a) (hb : SSC b) : z ∈ resL 0 a b ↔ z ∈ a ∨ (z ∈ b ∧ ∀ x ∈ a, ¬ atSame x z) := by
  unfold resL
  rw [List.mem_flatMap]
  constructor
  · rintro ⟨⟨_ | x, _ | y⟩, he, hz⟩ <;> have h := (evL_iff a b ha hb _).1 he <;> simp [visL] at hz
    · subst hz; exact Or.inr h
    · subst hz; exact Or.inl h.1
    · subst hz; exact Or.inl h.1
  · rintro (h | h)
    · by_cases hs : ∃ y ∈ b, atSame z y
      · obtain ⟨y, hy, e⟩ := hs
        exact ⟨(some z, some y), (evL_iff a b ha hb _).2 ⟨h, hy, e⟩, by simp [visL]⟩
      · exact ⟨(some z, none), (evL_iff a b ha hb _).2 ⟨h, fun y hy e => hs ⟨y, hy, e⟩⟩, by simp [visL]⟩
    · exact ⟨(none, some z), (evL_iff a b ha hb _).2 h, by simp [visL]⟩
theorem mem_res1 (ha : SSC a) (hb : SSC b) : z ∈ resL 1 a b ↔ z ∈ a ∧ ∃ y ∈ b, atSame z y := by
  unfold resL
  rw [List.mem_flatMap]
  constructor
  · rintro ⟨⟨_ | x, _ | y⟩, he, hz⟩ <;> have h := (evL_iff a b ha hb _).1 he <;> simp [visL] at hz
    subst hz; exact ⟨h.1, y, h.2.1, h.2.2⟩
  · rintro ⟨h, y, hy, e⟩
    exact ⟨(some z, some y), (evL_iff a b ha hb _).2 ⟨h, hy, e⟩, by simp [visL]⟩
theorem mem_res2 (ha : SSC a) (hb : SSC b) : z ∈ resL 2 a b ↔ z ∈ a ∧ ∀ y ∈ b, ¬ atSame z y := by
  unfold resL
  rw [List.mem_flatMap]
  constructor
  · rintro ⟨⟨_ | x, _ | y⟩, he, hz⟩ <;> have h := (evL_iff a b ha hb _).1 he <;> simp [visL] at hz
    subst hz; exact h
  · intro h
    exact ⟨(some z, none), (evL_iff a b ha hb _).2 h, by simp [visL]⟩
theorem mem_res3 (ha : SSC a) (hb : SSC b) : z ∈ resL 3 a b ↔ (z ∈ a ∧ ∀ y ∈ b, ¬ atSame z y) ∨ (z ∈ b ∧ ∀ x ∈ a, ¬ atSame x z) := by
  unfold resL
  rw [List.mem_flatMap]
  constructor
  · rintro ⟨⟨_ | x, _ | y⟩, he, hz⟩ <;> have h := (evL_iff a b ha hb _).1 he <;> simp [visL] at hz
    · subst hz; exact Or.inr h
    · subst hz; exact Or.inl h
  · rintro (h | h)
    · exact ⟨(some z, none), (evL_iff a b ha hb _).2 h, by simp [visL]⟩
    · exact ⟨(none, some z), (evL_iff a b ha hb _).2 h, by simp [visL]⟩
end
end Go.Proofs.YtenckggfgbkfnaaDoor
end
section
namespace Go.Proofs.YtenckggfgbkfnaaDoor
open Go Go.RowKit
/-- Which cells of a the reference picks. -/
def pickR (a b : List (Int × Int × Int)) (q : Bool) : List (Int × Int × Int) := a.filter fun c => (getC b c.1 c.2.1 != 0) == q
theorem getC_ne {b : List (Int × Int × Int)} {x y : Int} (h : rightC b = true) : (getC b x y != 0) = true ↔ ∃ z ∈ b, z.1 = x ∧ z.2.1 = y := by
  rw [bne_iff_ne]
  constructor
  · intro hn
    apply Classical.byContradiction
    intro hno
    exact hn (getC_not fun c hc e => hno ⟨c, hc, e⟩)
  · rintro ⟨⟨u, v, s⟩, hz, rfl, rfl⟩
    rw [getC_mem (rightC_sorted h) hz]
    obtain ⟨i, hi⟩ := List.getElem?_of_mem hz
    have := (rightC_elem h hi).2
    omega
theorem mem_pickR {a b : List (Int × Int × Int)} {z : Int × Int × Int} (hb : rightC b = true) : (z ∈ pickR a b true ↔ z ∈ a ∧ ∃ y ∈ b, atSame z y) ∧ (z ∈ pickR a b false ↔ z ∈ a ∧ ∀ y ∈ b, ¬ atSame z y) := by
  have hk : (∃ y ∈ b, atSame z y) ↔ (getC b z.1 z.2.1 != 0) = true := by
    rw [getC_ne hb]
    constructor
    · rintro ⟨y, hy, e⟩; exact ⟨y, hy, e.1.symm, e.2.symm⟩
    · rintro ⟨y, hy, e⟩; exact ⟨y, hy, e.1.symm, e.2.symm⟩
  unfold pickR
  rw [List.mem_filter, List.mem_filter, hk]
  refine ⟨by simp, ?_⟩
  have hk2 : (∀ y ∈ b, ¬ atSame z y) ↔ ¬ (getC b z.1 z.2.1 != 0) = true := by rw [← hk]; exact ⟨fun h ⟨y, hy, e⟩ => h y hy e, fun h y hy e => h ⟨y, hy, e⟩⟩
  rw [hk2]
  simp
theorem ssc_pickR {a b : List (Int × Int × Int)} (q : Bool) (ha : SSC a) : SSC (pickR a b q) := by
  unfold pickR; exact ha.sublist List.filter_sublist
theorem pick_res {a b : List (Int × Int × Int)} (ha : rightC a = true) (hb : rightC b = true) : pickR a b true = resL 1 a b ∧ pickR a b false = resL 2 a b := by
  have sa := rightC_sorted ha
  have sb := rightC_sorted hb
  exact ⟨ssc_unique _ _ (ssc_pickR _ sa) (ssc_res 1 sa sb) fun z => by rw [(mem_pickR hb).1, mem_res1 sa sb], ssc_unique _ _ (ssc_pickR _ sa) (ssc_res 2 sa sb) fun z => by rw [(mem_pickR hb).2, mem_res2 sa sb]⟩
/-- Sorting cells at different positions. -/
theorem srt_of {m : List (Int × Int × Int)} (hn : (m.map posD).Nodup) : SSC (srtC m) := ssc_iff.2 ⟨srtC_wc m, ((srtC_perm m).map posD).nodup_iff.2 hn⟩
theorem srt_eq {m r : List (Int × Int × Int)} (hn : (m.map posD).Nodup) (hr : SSC r) (he : ∀ z, z ∈ r ↔ z ∈ m) : srtC m = r :=
  ssc_unique _ _ (srt_of hn) hr fun z => by rw [(srtC_perm m).mem_iff, he]
def okCells (m : List (Int × Int × Int)) : Prop := ∀ c ∈ m, Pt c.1 c.2.1 ∧ 1 ≤ c.2.2 ∧ c.2.2 ≤ 7
theorem okCells_right {l : List (Int × Int × Int)} (h : rightC l = true) : okCells l := fun c hc => by
  obtain ⟨i, hi⟩ := List.getElem?_of_mem hc
  obtain ⟨a, b, s⟩ := c
  exact rightC_elem h hi
theorem frBad_ok' {x y s : Int} (h : validB x y = true) (h1 : 0 ≤ s) (h2 : s ≤ 7) : frBad (x, y, s) = 0 := by unfold frBad; rw [if_pos h, if_pos ⟨h1, h2⟩]
theorem frL_cells {m : List (Int × Int × Int)} (hv : okCells m) (hn : (m.map posD).Nodup) (hl : m.length ≤ 5000) : frE m = 0 ∧ frL m = srtC m := by
  have hz : nz m = m := List.filter_eq_self.2 fun c hc => by unfold nzC; exact decide_eq_true (by have := hv c hc; omega)
  have hf : frFirst m = 0 := by
    refine frFirst_good fun i d hd => ?_
    have := hv d (List.mem_of_getElem? hd)
    obtain ⟨x, y, s⟩ := d
    exact frBad_ok' (validB_iff.2 this.1) (by have := this.2.1; simp only at this; omega) this.2.2
  have he : frE m = 0 := frE_ok hf (by rw [hz]; exact ssB_iff.2 (srt_of hn)) (by rw [hz]; exact hl)
  exact ⟨he, by rw [frL_ok he, hz]⟩
/-- What the reference's sorted returns. -/
def soE (m : List (Int × Int × Int)) : Int := if 5000 < m.length then 6 else 0
def soL (m : List (Int × Int × Int)) : List (Int × Int × Int) := if 5000 < m.length then [] else frL m
/-- Over and Xor, as the reference lists them. -/
def ovR (a b : List (Int × Int × Int)) : List (Int × Int × Int) := a ++ pickR b a false
def xoR (a b : List (Int × Int × Int)) : List (Int × Int × Int) := pickR a b false ++ pickR b a false
theorem nodup_pos {l : List (Int × Int × Int)} (h : SSC l) : (l.map posD).Nodup := (ssc_iff.1 h).2
theorem posD_same {x y : Int × Int × Int} : posD x = posD y ↔ atSame x y := by
  unfold posD atSame; rw [Prod.mk.injEq]
theorem nodup_two {a b : List (Int × Int × Int)} (ha : SSC a) (hb : SSC b) (h : ∀ x ∈ a, ∀ y ∈ b, ¬ atSame x y) : ((a ++ b).map posD).Nodup := by
  rw [List.map_append, List.nodup_append]
  refine ⟨nodup_pos ha, nodup_pos hb, fun u hu v hv e => ?_⟩
  obtain ⟨x, hx, rfl⟩ := List.mem_map.1 hu
  obtain ⟨y, hy, rfl⟩ := List.mem_map.1 hv
  exact h x hx y hy (posD_same.1 e)
section
variable {a b : List (Int × Int × Int)}
theorem ov_srt (ha : rightC a = true) (hb : rightC b = true) : ((ovR a b).map posD).Nodup ∧ srtC (ovR a b) = resL 0 a b ∧ okCells (ovR a b) := by
  have sa := rightC_sorted ha
  have sb := rightC_sorted hb
  have hn : ((ovR a b).map posD).Nodup := nodup_two sa (ssc_pickR _ sb) fun x hx y hy e => ((mem_pickR ha).2.1 hy).2 x hx (same_comm.1 e)
  refine ⟨hn, srt_eq hn (ssc_res 0 sa sb) fun z => ?_, fun c hc => ?_⟩
  · unfold ovR
    rw [mem_res0 sa sb, List.mem_append, (mem_pickR ha).2]
    exact or_congr Iff.rfl (and_congr Iff.rfl (forall_congr' fun x => imp_congr Iff.rfl (not_congr same_comm)))
  · rcases List.mem_append.1 hc with h | h
    · exact okCells_right ha c h
    · exact okCells_right hb c ((mem_pickR ha).2.1 h).1
theorem xo_srt (ha : rightC a = true) (hb : rightC b = true) : ((xoR a b).map posD).Nodup ∧ srtC (xoR a b) = resL 3 a b ∧ okCells (xoR a b) := by
  have sa := rightC_sorted ha
  have sb := rightC_sorted hb
  have hn : ((xoR a b).map posD).Nodup := nodup_two (ssc_pickR _ sa) (ssc_pickR _ sb) fun x hx y hy e => ((mem_pickR ha).2.1 hy).2 x ((mem_pickR hb).2.1 hx).1 (same_comm.1 e)
  refine ⟨hn, srt_eq hn (ssc_res 3 sa sb) fun z => ?_, fun c hc => ?_⟩
  · unfold xoR
    rw [mem_res3 sa sb, List.mem_append, (mem_pickR ha).2, (mem_pickR hb).2]
    exact or_congr Iff.rfl (and_congr Iff.rfl (forall_congr' fun x => imp_congr Iff.rfl (not_congr same_comm)))
  · rcases List.mem_append.1 hc with h | h
    · exact okCells_right ha c ((mem_pickR hb).2.1 h).1
    · exact okCells_right hb c ((mem_pickR ha).2.1 h).1
/-- What Over and Xor (k = 0, 3) of the program compute. -/
def alE (k : Nat) (a b : List (Int × Int × Int)) : Int := if rightC a = true ∧ rightC b = true then (if 5000 < (resL k a b).length then 6 else 0) else 2
def alL (k : Nat) (a b : List (Int × Int × Int)) : List (Int × Int × Int) := if alE k a b = 0 then resL k a b else []
theorem so_res {m r : List (Int × Int × Int)} (hn : (m.map posD).Nodup) (hs : srtC m = r) (hv : okCells m) : soE m = (if 5000 < r.length then 6 else 0) ∧ soL m = (if 5000 < r.length then [] else r) := by
  have hl : r.length = m.length := by rw [← hs, (srtC_perm m).length_eq]
  unfold soE soL
  rw [hl]
  refine ⟨rfl, ?_⟩
  by_cases h : 5000 < m.length
  · rw [if_pos h, if_pos h]
  · rw [if_neg h, if_neg h, (frL_cells hv hn (by omega)).2, hs]
theorem ov_ref (ha : rightC a = true) (hb : rightC b = true) : soE (ovR a b) = alE 0 a b ∧ soL (ovR a b) = alL 0 a b := by
  obtain ⟨h1, h2, h3⟩ := ov_srt ha hb
  obtain ⟨e1, e2⟩ := so_res h1 h2 h3
  have e : alE 0 a b = (if 5000 < (resL 0 a b).length then 6 else 0) := by unfold alE; rw [if_pos ⟨ha, hb⟩]
  refine ⟨by rw [e1, e], ?_⟩
  rw [e2]; unfold alL; rw [e]
  by_cases h : 5000 < (resL 0 a b).length
  · rw [if_pos h, if_pos h, if_neg (by omega)]
  · rw [if_neg h, if_neg h, if_pos rfl]
theorem xo_ref (ha : rightC a = true) (hb : rightC b = true) : soE (xoR a b) = alE 3 a b ∧ soL (xoR a b) = alL 3 a b := by
  obtain ⟨h1, h2, h3⟩ := xo_srt ha hb
  obtain ⟨e1, e2⟩ := so_res h1 h2 h3
  have e : alE 3 a b = (if 5000 < (resL 3 a b).length then 6 else 0) := by unfold alE; rw [if_pos ⟨ha, hb⟩]
  refine ⟨by rw [e1, e], ?_⟩
  rw [e2]; unfold alL; rw [e]
  by_cases h : 5000 < (resL 3 a b).length
  · rw [if_pos h, if_pos h, if_neg (by omega)]
  · rw [if_neg h, if_neg h, if_pos rfl]
theorem alE_bad (k : Nat) (h : rightC a = false ∨ rightC b = false) : alE k a b = 2 := by
  unfold alE; rw [if_neg]; rintro ⟨h1, h2⟩; rcases h with h | h
  · rw [h] at h1; cases h1
  · rw [h] at h2; cases h2
theorem alE_size {k : Nat} (ha : rightC a = true) (hb : rightC b = true) (h : 5000 < (resL k a b).length) : alE k a b = 6 := by
  unfold alE; rw [if_pos ⟨ha, hb⟩, if_pos h]
theorem alE_ok {k : Nat} (ha : rightC a = true) (hb : rightC b = true) (h : (resL k a b).length ≤ 5000) : alE k a b = 0 := by
  unfold alE; rw [if_pos ⟨ha, hb⟩, if_neg (by omega)]
theorem alL_no {k : Nat} {e : Int} (h : alE k a b = e) (hn : e ≠ 0) : alL k a b = [] := by unfold alL; rw [if_neg (by rw [h]; exact hn)]
theorem alL_ok {k : Nat} (h : alE k a b = 0) : alL k a b = resL k a b := by unfold alL; rw [if_pos h]
/-- What And and Without (k = 1, 2) compute. -/
def pkL (k : Nat) (a b : List (Int × Int × Int)) : List (Int × Int × Int) := if rightC a = true ∧ rightC b = true then resL k a b else []
theorem pkL_no (k : Nat) (h : rightC a = false ∨ rightC b = false) : pkL k a b = [] := by
  unfold pkL; rw [if_neg]; rintro ⟨h1, h2⟩; rcases h with h | h
  · rw [h] at h1; cases h1
  · rw [h] at h2; cases h2
theorem pkL_yes (k : Nat) (ha : rightC a = true) (hb : rightC b = true) : pkL k a b = resL k a b := by unfold pkL; rw [if_pos ⟨ha, hb⟩]
end
/-- The lengths. -/
theorem evL_len (k : Nat) : ∀ (a b : List (Int × Int × Int)), (resL k a b).length ≤ a.length + b.length := by
  intro a b
  unfold resL
  induction a, b using evL.induct with
  | case1 b =>
    rw [evL_nil_left]
    induction b with
    | nil => simp
    | cons y b ih =>
      rw [List.map_cons, List.flatMap_cons, List.length_append, List.length_cons]
      have := visL_one k (none, some y)
      omega
  | case2 x a =>
    rw [evL]
    generalize x :: a = l
    induction l with
    | nil => simp
    | cons y b ih =>
      rw [List.map_cons, List.flatMap_cons, List.length_append, List.length_cons]
      have := visL_one k (some y, none)
      omega
  | case3 x a y b h ih =>
    rw [evL_lt h, List.flatMap_cons, List.length_append]
    have := visL_one k (some x, none)
    simp only [List.length_cons] at *; omega
  | case4 x a y b h h' ih =>
    rw [evL_gt h', List.flatMap_cons, List.length_append]
    have := visL_one k (none, some y)
    simp only [List.length_cons] at *; omega
  | case5 x a y b h h' ih =>
    rw [evL_eq (by simpa using h) (by simpa using h'), List.flatMap_cons, List.length_append]
    have := visL_one k (some x, some y)
    simp only [List.length_cons] at *; omega
theorem res_len1 {a b : List (Int × Int × Int)} {k : Nat} (hk : k = 1 ∨ k = 2) (ha : rightC a = true) (hb : rightC b = true) : (resL k a b).length ≤ a.length := by
  rcases hk with rfl | rfl
  · rw [← (pick_res ha hb).1]; exact List.length_filter_le _ _
  · rw [← (pick_res ha hb).2]; exact List.length_filter_le _ _
theorem res_right {a b : List (Int × Int × Int)} (k : Nat) (ha : rightC a = true) (hb : rightC b = true) (hl : (resL k a b).length ≤ 5000) : rightC (resL k a b) = true := by
  refine rightC_of hl (fun z hz => ?_) (ssc_res k (rightC_sorted ha) (rightC_sorted hb))
  unfold resL at hz
  obtain ⟨e, he, hv⟩ := List.mem_flatMap.1 hz
  have h1 := visL_pos hv
  have h2 := (evL_iff a b (rightC_sorted ha) (rightC_sorted hb) e).1 he
  rcases e with ⟨_ | x, _ | y⟩
  · exact h2.elim
  · rw [h1]; exact okCells_right hb _ h2.1
  · rw [h1]; exact okCells_right ha _ h2.1
  · rw [h1]; exact okCells_right ha _ h2.1
section
variable {a b : List (Int × Int × Int)}
theorem same_eq {l : List (Int × Int × Int)} (h : SSC l) {x y : Int × Int × Int} (hx : x ∈ l) (hy : y ∈ l) (e : atSame x y) : x = y := by
  obtain ⟨i, hi⟩ := List.getElem?_of_mem hx
  obtain ⟨j, hj⟩ := List.getElem?_of_mem hy
  rcases Nat.lt_trichotomy i j with h1 | h1 | h1
  · exact absurd e (bef_not_same (ssc_lt h hi hj h1))
  · subst h1; rw [hi] at hj; injection hj
  · exact absurd (same_comm.1 e) (bef_not_same (ssc_lt h hj hi h1))
theorem parts_whole (ha : rightC a = true) (hb : rightC b = true) : resL 0 (resL 2 a b) (resL 1 a b) = a := by
  have sa := rightC_sorted ha
  have sb := rightC_sorted hb
  have s1 := ssc_res 1 sa sb
  have s2 := ssc_res 2 sa sb
  refine ssc_unique _ _ (ssc_res 0 s2 s1) sa fun z => ?_
  rw [mem_res0 s2 s1, mem_res2 sa sb, mem_res1 sa sb]
  constructor
  · rintro (h | h)
    · exact h.1
    · exact h.1.1
  · intro hz
    by_cases h : ∃ y ∈ b, atSame z y
    · refine Or.inr ⟨⟨hz, h⟩, fun x hx e => ?_⟩
      obtain ⟨y, hy, e2⟩ := h
      have := ((mem_res2 sa sb).1 hx).2 y hy
      unfold atSame at *; omega
    · exact Or.inl ⟨hz, fun y hy e => h ⟨y, hy, e⟩⟩
theorem parts_differ (ha : rightC a = true) (hb : rightC b = true) : resL 0 (resL 2 a b) (resL 2 b a) = resL 3 a b := by
  have sa := rightC_sorted ha
  have sb := rightC_sorted hb
  have s1 := ssc_res 2 sa sb
  have s2 := ssc_res 2 sb sa
  refine ssc_unique _ _ (ssc_res 0 s1 s2) (ssc_res 3 sa sb) fun z => ?_
  rw [mem_res0 s1 s2, mem_res3 sa sb, mem_res2 sa sb, mem_res2 sb sa]
  constructor
  · rintro (h | h)
    · exact Or.inl h
    · exact Or.inr ⟨h.1.1, fun x hx e => h.1.2 x hx (same_comm.1 e)⟩
  · rintro (h | h)
    · exact Or.inl h
    · refine Or.inr ⟨⟨h.1, fun x hx e => h.2 x hx (same_comm.1 e)⟩, fun x hx e => h.2 x ((mem_res2 sa sb).1 hx).1 e⟩
theorem parts_apart (ha : rightC a = true) (hb : rightC b = true) : resL 1 (resL 2 a b) b = [] := by
  have sa := rightC_sorted ha
  have sb := rightC_sorted hb
  refine List.eq_nil_iff_forall_not_mem.2 fun z hz => ?_
  obtain ⟨h1, y, hy, e⟩ := (mem_res1 (ssc_res 2 sa sb) sb).1 hz
  exact ((mem_res2 sa sb).1 h1).2 y hy e
theorem cells_over (ha : rightC a = true) (hb : rightC b = true) (x y : Int) : getC (resL 0 a b) x y = if getC a x y = 0 then getC b x y else getC a x y := by
  have sa := rightC_sorted ha
  have sb := rightC_sorted hb
  have so := ssc_res 0 sa sb
  by_cases h1 : ∃ z ∈ a, z.1 = x ∧ z.2.1 = y
  · have hne := (getC_ne (b := a) ha).2 h1
    rw [if_neg (by simpa using hne)]
    obtain ⟨⟨u, v, s⟩, hz, rfl, rfl⟩ := h1
    rw [getC_mem sa hz, getC_mem so ((mem_res0 sa sb).2 (Or.inl hz))]
  · rw [if_pos (getC_not fun c hc e => h1 ⟨c, hc, e⟩)]
    by_cases h2 : ∃ z ∈ b, z.1 = x ∧ z.2.1 = y
    · obtain ⟨⟨u, v, s⟩, hz, rfl, rfl⟩ := h2
      rw [getC_mem sb hz, getC_mem so ((mem_res0 sa sb).2 (Or.inr ⟨hz, fun c hc e => h1 ⟨c, hc, e⟩⟩))]
    · rw [getC_not fun c hc e => h2 ⟨c, hc, e⟩, getC_not fun c hc e => ?_]
      rcases (mem_res0 sa sb).1 hc with h | h
      · exact h1 ⟨c, h, e⟩
      · exact h2 ⟨c, h.1, e⟩
end
end Go.Proofs.YtenckggfgbkfnaaDoor
end
section
namespace Go.Proofs.YtenckggfgbkfnaaDoor
open Go Go.RowKit
/-- Compose on the numbers from 0 to 7. -/
def cm (a b : Nat) : Nat := (comp a b).toNat
theorem comp_table : ∀ a : Nat, a < 8 → ∀ b : Nat, b < 8 → (comp (a : Int) (b : Int) = rcomp (a : Int) (b : Int) ∧ comp (a : Int) (b : Int) = ((cm a b : Nat) : Int) ∧ cm a b < 8) := by decide +kernel
theorem app_r8 (k x y : Int) : app k x y = app (r8 k : Nat) x y := by rw [app_mod, r8_cast]
theorem rapp_r8 (k x y : Int) : rapp k x y = rapp (r8 k : Nat) x y := by rw [rapp_mod, r8_cast]
theorem comp_r8 (a b : Int) : comp a b = comp (r8 a : Nat) (r8 b : Nat) := by
  unfold comp
  rw [app_r8 a, app_r8 a 0 1]
  simp only [app_r8 b]
theorem rcomp_r8 (a b : Int) : rcomp a b = rcomp (r8 a : Nat) (r8 b : Nat) := by
  unfold rcomp
  rw [rapp_r8 a]
  simp only [rapp_r8 b]
theorem comp_cm (a b : Int) : comp a b = ((cm (r8 a) (r8 b) : Nat) : Int) := by
  rw [comp_r8]; exact (comp_table _ (r8_lt a) _ (r8_lt b)).2.1
theorem comp_rcomp (a b : Int) : comp a b = rcomp a b := by
  rw [comp_r8, rcomp_r8]; exact (comp_table _ (r8_lt a) _ (r8_lt b)).1
theorem cm_lt {a b : Nat} (ha : a < 8) (hb : b < 8) : cm a b < 8 := (comp_table a ha b hb).2.2
theorem comp_nat {a b : Nat} (ha : a < 8) (hb : b < 8) : comp (a : Int) (b : Int) = ((cm a b : Nat) : Int) := (comp_table a ha b hb).2.1
theorem r8_nat {k : Nat} (h : k < 8) : r8 (k : Int) = k := by unfold r8; omega
/-- The inverse's number. -/
def iv (a : Nat) : Nat := (inv a).toNat
theorem inv_table : ∀ a : Nat, a < 8 → (inv (a : Int) = rinv (a : Int) ∧ inv (a : Int) = ((iv a : Nat) : Int) ∧ iv a < 8 ∧ cm a (iv a) = 0) := by decide +kernel
theorem inv_r8 (k : Int) : inv k = inv (r8 k : Nat) := by
  unfold inv
  rw [firstAt_congr (q := invP (r8 k : Nat))]
  intro i _
  unfold invP
  have h := comp_r8 ((r8 k : Nat) : Int) (i : Int)
  rw [r8_nat (r8_lt k)] at h
  rw [comp_r8 k i, h]
theorem rinv_r8 (k : Int) : rinv k = rinv (r8 k : Nat) := by
  unfold rinv
  rw [firstAt_congr (q := rinvP (r8 k : Nat))]
  intro i _
  unfold rinvP
  have h := rcomp_r8 ((r8 k : Nat) : Int) (i : Int)
  rw [r8_nat (r8_lt k)] at h
  rw [rcomp_r8 k i, h]
theorem inv_iv (k : Int) : inv k = ((iv (r8 k) : Nat) : Int) := by rw [inv_r8]; exact (inv_table _ (r8_lt k)).2.1
theorem inv_rinv (k : Int) : inv k = rinv k := by rw [inv_r8, rinv_r8]; exact (inv_table _ (r8_lt k)).1
theorem iv_lt {k : Nat} (h : k < 8) : iv k < 8 := (inv_table k h).2.2.1
theorem comp_inv (k : Int) : comp k (inv k) = 0 := by
  rw [comp_cm, inv_iv, r8_nat (iv_lt (r8_lt k)), (inv_table _ (r8_lt k)).2.2.2]; rfl

/-- A set of symmetries, by number, that is closed and holds 0 and all numbers of a list. -/
structure Over (l : List Int) (T : Nat → Bool) : Prop where
  zero : T 0 = true
  base : ∀ m, m ∈ l → T (r8 m) = true
  closed : ∀ a b, a < 8 → b < 8 → T a = true → T b = true → T (cm a b) = true
/-- What each closed set has to hold. -/
def Must (l : List Int) (k : Nat) : Prop := ∀ T, Over l T → T k = true
open Classical in
noncomputable def grpB (l : List Int) (k : Nat) : Bool := decide (Must l k)
theorem grpB_iff {l : List Int} {k : Nat} : grpB l k = true ↔ Must l k := by unfold grpB; simp
/-- The group, as the list of its numbers. -/
noncomputable def grp (l : List Int) : List Int := ((List.range 8).filter (grpB l)).map fun k => ((k : Nat) : Int)
theorem must_zero (l : List Int) : Must l 0 := fun _ h => h.zero
theorem must_base {l : List Int} {m : Int} (h : m ∈ l) : Must l (r8 m) := fun _ hT => hT.base m h
theorem must_comp {l : List Int} {a b : Nat} (ha : a < 8) (hb : b < 8) (h1 : Must l a) (h2 : Must l b) : Must l (cm a b) := fun _ hT => hT.closed a b ha hb (h1 _ hT) (h2 _ hT)
/-- A closed set that holds no more than it must is the group. -/
theorem grp_of {l : List Int} {S : Nat → Bool} (h : Over l S) (hS : ∀ k, k < 8 → S k = true → Must l k) : ∀ k, k < 8 → grpB l k = S k := by
  intro k hk
  rw [Bool.eq_iff_iff, grpB_iff]
  exact ⟨fun hm => hm _ h, fun hs => hS k hk hs⟩
theorem over_grp (l : List Int) : Over l (grpB l) :=
  ⟨grpB_iff.2 (must_zero l), fun _ hm => grpB_iff.2 (must_base hm), fun _ _ ha hb h1 h2 => grpB_iff.2 (must_comp ha hb (grpB_iff.1 h1) (grpB_iff.1 h2))⟩
end Go.Proofs.YtenckggfgbkfnaaDoor
end
section
namespace Go.Proofs.YtenckggfgbkfnaaDoor
open Go Go.RowKit
theorem app_I64 (k x y : Int) : I64 (app k x y).1 ∧ I64 (app k x y).2 := by
  unfold I64 app wrap64; omega
/-- The eight applications, written out. -/
def app8 (r : Nat) (x y : Int) : Int × Int := match r with
  | 0 => (x, y)
  | 1 => (wrap64 (-y), x)
  | 2 => (wrap64 (-x), wrap64 (-y))
  | 3 => (y, wrap64 (-x))
  | 4 => (wrap64 (-x), y)
  | 5 => (wrap64 (-y), wrap64 (-x))
  | 6 => (x, wrap64 (-y))
  | _ => (y, x)
theorem app_app8 (k x y : Int) (hx : I64 x) (hy : I64 y) : app k x y = app8 (r8 k) x y := by
  unfold I64 at hx hy
  have h := r8_lt k
  unfold app
  generalize r8 k = r at h
  have hc : r = 0 ∨ r = 1 ∨ r = 2 ∨ r = 3 ∨ r = 4 ∨ r = 5 ∨ r = 6 ∨ r = 7 := by omega
  rcases hc with rfl | rfl | rfl | rfl | rfl | rfl | rfl | rfl <;> simp [app8, mat, wrap64] <;> omega
theorem app8_comp : ∀ a : Nat, a < 8 → ∀ b : Nat, b < 8 → ∀ x y : Int, I64 x → I64 y → app8 b (app8 a x y).1 (app8 a x y).2 = app8 (cm a b) x y := by
  have ht : ∀ a : Nat, a < 8 → ∀ b : Nat, b < 8 → cm a b = (([0, 1, 2, 3, 4, 5, 6, 7, 1, 2, 3, 0, 7, 4, 5, 6, 2, 3, 0, 1, 6, 7, 4, 5, 3, 0, 1, 2, 5, 6, 7, 4, 4, 5, 6, 7, 0, 1, 2, 3, 5, 6, 7, 4, 3, 0, 1, 2, 6, 7, 4, 5, 2, 3, 0, 1, 7, 4, 5, 6, 1, 2, 3, 0] : List Nat).getD (a * 8 + b) 0) := by decide +kernel
  intro a ha b hb x y hx hy
  rw [ht a ha b hb]
  unfold I64 at hx hy
  have hca : a = 0 ∨ a = 1 ∨ a = 2 ∨ a = 3 ∨ a = 4 ∨ a = 5 ∨ a = 6 ∨ a = 7 := by omega
  have hcb : b = 0 ∨ b = 1 ∨ b = 2 ∨ b = 3 ∨ b = 4 ∨ b = 5 ∨ b = 6 ∨ b = 7 := by omega
  rcases hca with rfl | rfl | rfl | rfl | rfl | rfl | rfl | rfl <;> rcases hcb with rfl | rfl | rfl | rfl | rfl | rfl | rfl | rfl <;> simp [app8, wrap64] <;> omega
theorem app_comp (a b x y : Int) (hx : I64 x) (hy : I64 y) : app b (app a x y).1 (app a x y).2 = app (comp a b) x y := by
  obtain ⟨h1, h2⟩ := app_I64 a x y
  rw [app_app8 b _ _ h1 h2, app_app8 (comp a b) _ _ hx hy, app_app8 a _ _ hx hy, app8_comp _ (r8_lt a) _ (r8_lt b) _ _ hx hy, comp_cm, r8_nat (cm_lt (r8_lt a) (r8_lt b))]
theorem app_inv (k x y : Int) (hx : I64 x) (hy : I64 y) : app (inv k) (app k x y).1 (app k x y).2 = (x, y) := by
  rw [app_comp _ _ _ _ hx hy, comp_inv, app_app8 _ _ _ hx hy]; rfl
end Go.Proofs.YtenckggfgbkfnaaDoor
end
section
namespace Go.Proofs.YtenckggfgbkfnaaDoor
open Go Go.RowKit
/-- Cut. -/
def ctP (x y w h : Int) (c : Int × Int × Int) : Bool := decide (x ≤ c.1 ∧ c.1 < x + w ∧ y ≤ c.2.1 ∧ c.2.1 < y + h)
def ctL (l : List (Int × Int × Int)) (x y w h : Int) : List (Int × Int × Int) := if rightC l = true then l.filter (fun c => boxInB x y w h c.1 c.2.1) else []
section
variable {l : List (Int × Int × Int)} {x y w h : Int}
theorem ctL_yes (hr : rightC l = true) (hv : rightB x y w h = true) : ctL l x y w h = l.filter (ctP x y w h) := by
  unfold ctL boxInB; rw [if_pos hr, hv]; rfl
theorem ctL_no (hr : rightC l = false ∨ rightB x y w h = false) : ctL l x y w h = [] := by
  unfold ctL
  split
  · rename_i h1
    rcases hr with h0 | h0
    · rw [h0] at h1; cases h1
    · unfold boxInB; rw [h0]; exact List.filter_eq_nil_iff.2 fun c _ => by simp
  · rfl
theorem filter_step {α : Type} {l : List α} {j : Nat} {c : α} (p : α → Bool) (h : l[j]? = some c) : (l.take (j + 1)).filter p = (l.take j).filter p ++ (if p c = true then [c] else []) := by
  rw [List.take_add_one, List.filter_append, h]; simp [List.filter_cons]
end
/-- What Disjoint computes. -/
def djB (a b : List (Int × Int × Int)) : Bool := rightC a && rightC b && (resL 1 a b).isEmpty
theorem djB_no {a b : List (Int × Int × Int)} (h : rightC a = false ∨ rightC b = false) : djB a b = false := by
  unfold djB
  rcases h with h | h
  · rw [h]; rfl
  · rw [h]; simp
/-- Turn. -/
def trn (k : Int) (c : Int × Int × Int) : Int × Int × Int := ((app k c.1 c.2.1).1, (app k c.1 c.2.1).2, c.2.2)
def trL (k : Int) (l : List (Int × Int × Int)) : List (Int × Int × Int) := srtC (l.map (trn k))
theorem pt_i64 {x y : Int} (h : Pt x y) : I64 x ∧ I64 y := by unfold Pt at h; unfold I64; omega
theorem app_pt (k : Int) {x y : Int} (h : Pt x y) : Pt (app k x y).1 (app k x y).2 := by
  obtain ⟨h1, h2⟩ := pt_i64 h
  rw [app_app8 k x y h1 h2]
  have hr := r8_lt k
  generalize r8 k = r at hr
  unfold Pt at *
  have hc : r = 0 ∨ r = 1 ∨ r = 2 ∨ r = 3 ∨ r = 4 ∨ r = 5 ∨ r = 6 ∨ r = 7 := by omega
  rcases hc with rfl | rfl | rfl | rfl | rfl | rfl | rfl | rfl <;> simp only [app8, wrap64] <;> omega
theorem trn_inv (k : Int) {c : Int × Int × Int} (h : Pt c.1 c.2.1) : trn (inv k) (trn k c) = c := by
  obtain ⟨x, y, s⟩ := c
  unfold trn
  simp only
  rw [app_inv k x y (pt_i64 h).1 (pt_i64 h).2]
theorem trn_comp (a b : Int) {c : Int × Int × Int} (h : Pt c.1 c.2.1) : trn b (trn a c) = trn (comp a b) c := by
  obtain ⟨x, y, s⟩ := c
  unfold trn
  simp only
  rw [app_comp a b x y (pt_i64 h).1 (pt_i64 h).2]
theorem tr_cells (k : Int) {l : List (Int × Int × Int)} (h : rightC l = true) : okCells (l.map (trn k)) ∧ ((l.map (trn k)).map posD).Nodup ∧ (l.map (trn k)).length ≤ 5000 := by
  have hc := okCells_right h
  refine ⟨fun z hz => ?_, ?_, by rw [List.length_map]; exact (rightC_ok h).1⟩
  · obtain ⟨c, hm, rfl⟩ := List.mem_map.1 hz
    exact ⟨app_pt k (hc c hm).1, (hc c hm).2⟩
  · rw [List.map_map]
    have hn := nodup_pos (rightC_sorted h)
    unfold List.Nodup at hn ⊢
    rw [List.pairwise_map] at hn ⊢
    refine hn.imp_of_mem fun {a b} ha hb hab e => hab ?_
    have e1 : (trn k a).1 = (trn k b).1 ∧ (trn k a).2.1 = (trn k b).2.1 := posD_same.1 e
    have ia := trn_inv k (c := a) (hc a ha).1
    have ib := trn_inv k (c := b) (hc b hb).1
    have key : ∀ u v : Int × Int × Int, u.1 = v.1 → u.2.1 = v.2.1 → (trn (inv k) u).1 = (trn (inv k) v).1 ∧ (trn (inv k) u).2.1 = (trn (inv k) v).2.1 := fun u v h1 h2 => by unfold trn; simp only; rw [h1, h2]; exact ⟨rfl, rfl⟩
    have := key _ _ e1.1 e1.2
    rw [ia, ib] at this
    exact posD_same.2 this
theorem mem_trL {k : Int} {l : List (Int × Int × Int)} {z : Int × Int × Int} : z ∈ trL k l ↔ ∃ c ∈ l, trn k c = z := by
  unfold trL; rw [(srtC_perm _).mem_iff, List.mem_map]
theorem tr_right (k : Int) {l : List (Int × Int × Int)} (h : rightC l = true) : rightC (trL k l) = true := by
  obtain ⟨h1, h2, h3⟩ := tr_cells k h
  unfold trL
  exact rightC_of (by rw [(srtC_perm _).length_eq]; exact h3) (fun p hp => h1 p ((srtC_perm _).mem_iff.1 hp)) (srt_of h2)
theorem tr_len (k : Int) (l : List (Int × Int × Int)) : (trL k l).length = l.length := by unfold trL; rw [(srtC_perm _).length_eq, List.length_map]
/-- What the library's sort leaves of cells at different positions. -/
theorem sort_fin {l' m : List (Int × Int × Int)} (hp : l'.Perm m) (hw : WC l') (hn : (m.map posD).Nodup) : srtC m = l' :=
  srt_eq hn (ssc_iff.2 ⟨hw, (hp.map posD).nodup_iff.2 hn⟩) fun z => hp.mem_iff
theorem tr_ref (k : Int) {l : List (Int × Int × Int)} (h : rightC l = true) : soE (l.map (trn k)) = 0 ∧ soL (l.map (trn k)) = trL k l := by
  obtain ⟨h1, h2, h3⟩ := tr_cells k h
  unfold soE soL
  rw [if_neg (by omega), if_neg (by omega)]
  exact ⟨rfl, (frL_cells h1 h2 h3).2⟩
theorem tr_comp (a b : Int) {l : List (Int × Int × Int)} (h : rightC l = true) : trL b (trL a l) = trL (comp a b) l := by
  refine ssc_unique _ _ (rightC_sorted (tr_right b (tr_right a h))) (rightC_sorted (tr_right _ h)) fun z => ?_
  rw [mem_trL, mem_trL]
  constructor
  · rintro ⟨c, hc, rfl⟩
    obtain ⟨d, hd, rfl⟩ := mem_trL.1 hc
    exact ⟨d, hd, (trn_comp a b (okCells_right h d hd).1).symm⟩
  · rintro ⟨d, hd, rfl⟩
    exact ⟨trn a d, mem_trL.2 ⟨d, hd, rfl⟩, trn_comp a b (okCells_right h d hd).1⟩
theorem tr_inv (k : Int) {l : List (Int × Int × Int)} (h : rightC l = true) : trL (inv k) (trL k l) = l := by
  refine ssc_unique _ _ (rightC_sorted (tr_right _ (tr_right k h))) (rightC_sorted h) fun z => ?_
  rw [mem_trL]
  constructor
  · rintro ⟨c, hc, rfl⟩
    obtain ⟨d, hd, rfl⟩ := mem_trL.1 hc
    rw [trn_inv k (okCells_right h d hd).1]; exact hd
  · intro hz
    exact ⟨trn k z, mem_trL.2 ⟨z, hz, rfl⟩, trn_inv k (okCells_right h z hz).1⟩
theorem map_step {α β : Type} {l : List α} {j : Nat} {c : α} (f : α → β) (h : l[j]? = some c) : (l.take (j + 1)).map f = (l.take j).map f ++ [f c] := by
  rw [List.take_add_one, List.map_append, h]; rfl
end Go.Proofs.YtenckggfgbkfnaaDoor
end
section
namespace Go.Proofs.YtenckggfgbkfnaaDoor
open Go Go.RowKit
/-- The state at a position, as a map that is filled cell by cell holds it. -/
def pAt (l : List (Int × Int × Int)) (x y : Int) : Option Int := (l.find? fun c => decide (c.1 = x ∧ c.2.1 = y)).map (·.2.2)
theorem pAt_nil : pAt [] = fun _ _ => none := rfl
theorem pAt_add {l : List (Int × Int × Int)} {x y s : Int} (h : pAt l x y = none) : pAt (l ++ [(x, y, s)]) = fun a b => if a = x ∧ b = y then some s else pAt l a b := by
  funext a b
  unfold pAt at *
  rw [List.find?_append]
  by_cases e : a = x ∧ b = y
  · obtain ⟨rfl, rfl⟩ := e
    rw [if_pos ⟨rfl, rfl⟩]
    have h0 : (l.find? fun c => decide (c.1 = a ∧ c.2.1 = b)) = none := by simpa using h
    rw [h0]; simp
  · rw [if_neg e]
    have : List.find? (fun c => decide (c.1 = a ∧ c.2.1 = b)) [(x, y, s)] = none := by
      rw [List.find?_cons]
      have hd : decide (x = a ∧ y = b) = false := decide_eq_false (by omega)
      simp only [hd]; rfl
    rw [this]; simp
theorem pAt_none {l : List (Int × Int × Int)} {x y : Int} : pAt l x y = none ↔ ∀ c ∈ l, ¬ (c.1 = x ∧ c.2.1 = y) := by
  unfold pAt
  rw [Option.map_eq_none_iff, List.find?_eq_none]
  simp only [decide_eq_true_eq]
def addC (U : List (Int × Int × Int)) (c : Int × Int × Int) : List (Int × Int × Int) := if (pAt U c.1 c.2.1).isSome = true then U else U ++ [c]
/-- The k-th copy. -/
def cpy (l : List (Int × Int × Int)) (dx dy : Int) (nx k : Nat) : List (Int × Int × Int) := l.map (mv5 (((k % nx : Nat) : Int) * dx) (((k / nx : Nat) : Int) * dy))
/-- The cells of the first k copies, in the order in which they are met. -/
def tlU (l : List (Int × Int × Int)) (dx dy : Int) (nx : Nat) : Nat → List (Int × Int × Int)
  | 0 => []
  | k + 1 => (cpy l dx dy nx k).foldl addC (tlU l dx dy nx k)
def tlGood (l : List (Int × Int × Int)) (dx dy : Int) (nx k : Nat) : Bool := (cpy l dx dy nx k).all fun c => validB c.1 c.2.1
def tlNum (dx dy nx ny : Int) : Bool := decide (-1048576 ≤ dx ∧ dx ≤ 1048576 ∧ -1048576 ≤ dy ∧ dy ≤ 1048576 ∧ 0 ≤ nx ∧ nx ≤ 50 ∧ 0 ≤ ny ∧ ny ≤ 50)
def tlIn (l : List (Int × Int × Int)) (dx dy : Int) (nx ny : Nat) : Bool := (List.range (nx * ny)).all (tlGood l dx dy nx)
def tlE (l : List (Int × Int × Int)) (dx dy nx ny : Int) : Int :=
  if rightC l = true ∧ tlNum dx dy nx ny = true then (if tlIn l dx dy nx.toNat ny.toNat = true then (if 5000 < (tlU l dx dy nx.toNat (nx.toNat * ny.toNat)).length then 6 else 0) else 5) else 2
def tlL (l : List (Int × Int × Int)) (dx dy nx ny : Int) : List (Int × Int × Int) := if tlE l dx dy nx ny = 0 then srtC (tlU l dx dy nx.toNat (nx.toNat * ny.toNat)) else []
section
variable {l : List (Int × Int × Int)} {dx dy : Int} {nx ny k i j : Nat}
theorem tl_bad {l : List (Int × Int × Int)} {dx dy nx ny : Int} (h : rightC l = false ∨ tlNum dx dy nx ny = false) : tlE l dx dy nx ny = 2 ∧ tlL l dx dy nx ny = [] := by
  have : tlE l dx dy nx ny = 2 := by
    unfold tlE; rw [if_neg]; rintro ⟨h1, h2⟩
    rcases h with h | h
    · rw [h] at h1; cases h1
    · rw [h] at h2; cases h2
  exact ⟨this, by unfold tlL; rw [this]; rfl⟩
theorem tl_out (h1 : rightC l = true) (h2 : tlNum dx dy nx ny = true) (h : tlIn l dx dy nx ny = false) : tlE l dx dy nx ny = 5 ∧ tlL l dx dy nx ny = [] := by
  have : tlE l dx dy nx ny = 5 := by
    unfold tlE; rw [if_pos ⟨h1, h2⟩, Int.toNat_natCast, Int.toNat_natCast, h]; rfl
  exact ⟨this, by unfold tlL; rw [this]; rfl⟩
theorem tl_size (h1 : rightC l = true) (h2 : tlNum dx dy nx ny = true) (h : tlIn l dx dy nx ny = true) (h5 : 5000 < (tlU l dx dy nx (nx * ny)).length) : tlE l dx dy nx ny = 6 ∧ tlL l dx dy nx ny = [] := by
  have : tlE l dx dy nx ny = 6 := by
    unfold tlE; rw [if_pos ⟨h1, h2⟩, Int.toNat_natCast, Int.toNat_natCast, if_pos h, if_pos h5]
  exact ⟨this, by unfold tlL; rw [this]; rfl⟩
theorem tl_ok (h1 : rightC l = true) (h2 : tlNum dx dy nx ny = true) (h : tlIn l dx dy nx ny = true) (h5 : (tlU l dx dy nx (nx * ny)).length ≤ 5000) : tlE l dx dy nx ny = 0 ∧ tlL l dx dy nx ny = srtC (tlU l dx dy nx (nx * ny)) := by
  have : tlE l dx dy nx ny = 0 := by
    unfold tlE; rw [if_pos ⟨h1, h2⟩, Int.toNat_natCast, Int.toNat_natCast, if_pos h, if_neg (by omega)]
  exact ⟨this, by unfold tlL; rw [this, if_pos rfl, Int.toNat_natCast, Int.toNat_natCast]⟩
theorem tlIn_of (h : ∀ k, k < nx * ny → tlGood l dx dy nx k = true) : tlIn l dx dy nx ny = true := by
  unfold tlIn; rw [List.all_eq_true]; intro k hk; exact h k (List.mem_range.1 hk)
theorem tlIn_bad (hk : k < nx * ny) (h : tlGood l dx dy nx k = false) : tlIn l dx dy nx ny = false := by
  unfold tlIn; rw [List.all_eq_false]; exact ⟨k, List.mem_range.2 hk, by rw [h]; simp⟩
theorem tlIn_good (h : tlIn l dx dy nx ny = true) (hk : k < nx * ny) : tlGood l dx dy nx k = true := by
  unfold tlIn at h; exact List.all_eq_true.1 h k (List.mem_range.2 hk)
/-- The first m cells of a copy are placed. -/
def plK (l : List (Int × Int × Int)) (dx dy : Int) (nx k m : Nat) : Prop := ((cpy l dx dy nx k).take m).all (fun c => validB c.1 c.2.1) = true
theorem cpy_len : (cpy l dx dy nx k).length = l.length := List.length_map ..
theorem cpy_get {m : Nat} {x y s : Int} (h : l[m]? = some (x, y, s)) : (cpy l dx dy nx k)[m]? = some (x + ((k % nx : Nat) : Int) * dx, y + ((k / nx : Nat) : Int) * dy, s) := by
  unfold cpy; rw [List.getElem?_map, h]; rfl
theorem plK_step {m : Nat} {c : Int × Int × Int} (h : plK l dx dy nx k m) (hc : (cpy l dx dy nx k)[m]? = some c) (hv : validB c.1 c.2.1 = true) : plK l dx dy nx k (m + 1) := by
  unfold plK at *
  rw [List.take_add_one, List.all_append, h, hc]; simp [hv]
theorem plK_bad {m : Nat} {c : Int × Int × Int} (hc : (cpy l dx dy nx k)[m]? = some c) (hv : validB c.1 c.2.1 = false) : tlGood l dx dy nx k = false := by
  unfold tlGood; rw [List.all_eq_false]; exact ⟨c, List.mem_of_getElem? hc, by rw [hv]; simp⟩
theorem plK_end {m : Nat} (hm : l.length ≤ m) (h : plK l dx dy nx k m) : tlGood l dx dy nx k = true := by
  unfold plK at h; rw [List.take_of_length_le (by rw [cpy_len]; exact hm)] at h; exact h
theorem copy_at (hi : i < nx) : (j * nx + i) % nx = i ∧ (j * nx + i) / nx = j := by
  constructor
  · rw [Nat.mul_comm, Nat.mul_add_mod]; exact Nat.mod_eq_of_lt hi
  · rw [Nat.mul_comm, Nat.mul_add_div (by omega), Nat.div_eq_of_lt hi, Nat.add_zero]
theorem copy_lt (hi : i < nx) (hj : j < ny) : j * nx + i < nx * ny := by
  have := Nat.mul_le_mul_right nx (show j + 1 ≤ ny by omega)
  rw [Nat.add_mul, Nat.one_mul, Nat.mul_comm ny nx] at this
  omega
theorem copy_div {k : Nat} (hk : k < nx * ny) : k % nx < nx ∧ k / nx < ny := by
  have h0 : 0 < nx := by
    rcases Nat.eq_zero_or_pos nx with h | h
    · rw [h, Nat.zero_mul] at hk; omega
    · exact h
  exact ⟨Nat.mod_lt _ h0, (Nat.div_lt_iff_lt_mul h0).2 (by rwa [Nat.mul_comm])⟩
theorem mul_far {a : Nat} {d : Int} (ha : a ≤ 50) (h1 : -1048576 ≤ d) (h2 : d ≤ 1048576) : -52428800 ≤ (a : Int) * d ∧ (a : Int) * d ≤ 52428800 := by
  have h3 : (a : Int) * d ≤ 50 * 1048576 := by
    rcases Int.le_total 0 d with h | h
    · exact Int.mul_le_mul (by omega) h2 h (by omega)
    · have := Int.mul_le_mul_of_nonneg_left h (show (0 : Int) ≤ a by omega); omega
  have h4 : (a : Int) * -d ≤ 50 * 1048576 := by
    rcases Int.le_total 0 (-d) with h | h
    · exact Int.mul_le_mul (by omega) (by omega) h (by omega)
    · have := Int.mul_le_mul_of_nonneg_left h (show (0 : Int) ≤ a by omega); omega
  rw [Int.mul_neg] at h4
  omega
/-- Filling. -/
theorem addC_len (U : List (Int × Int × Int)) (c : Int × Int × Int) : U.length ≤ (addC U c).length ∧ (addC U c).length ≤ U.length + 1 := by
  unfold addC; split
  · omega
  · rw [List.length_append]; simp
theorem fold_len : ∀ (m U : List (Int × Int × Int)), U.length ≤ (m.foldl addC U).length ∧ (m.foldl addC U).length ≤ U.length + m.length
  | [], U => by simp
  | c :: m, U => by
    have h1 := addC_len U c
    have h2 := fold_len m (addC U c)
    rw [List.foldl_cons, List.length_cons]; omega
theorem tlU_more (l : List (Int × Int × Int)) (dx dy : Int) (nx k : Nat) : (tlU l dx dy nx k).length ≤ (tlU l dx dy nx (k + 1)).length := (fold_len _ _).1
theorem tlU_mono {l : List (Int × Int × Int)} {dx dy : Int} {nx k : Nat} : ∀ {m : Nat}, k ≤ m → (tlU l dx dy nx k).length ≤ (tlU l dx dy nx m).length
  | 0, h => by obtain rfl : k = 0 := by omega
               exact Nat.le_refl _
  | m + 1, h => by
    rcases Nat.lt_or_ge k (m + 1) with h1 | h1
    · exact Nat.le_trans (tlU_mono (m := m) (by omega)) (tlU_more ..)
    · obtain rfl : k = m + 1 := by omega
      exact Nat.le_refl _
theorem addC_step {m : Nat} {c : Int × Int × Int} {L U : List (Int × Int × Int)} (h : L[m]? = some c) : (L.take (m + 1)).foldl addC U = addC ((L.take m).foldl addC U) c := by
  rw [List.take_add_one, h, List.foldl_append]; rfl
theorem addC_in {U : List (Int × Int × Int)} {x y s v : Int} (h : pAt U x y = some v) : addC U (x, y, s) = U := by
  unfold addC; rw [h]; rfl
theorem addC_new {U : List (Int × Int × Int)} {x y s : Int} (h : pAt U x y = none) : addC U (x, y, s) = U ++ [(x, y, s)] := by
  unfold addC; rw [h]; rfl
theorem addC_nodup {U : List (Int × Int × Int)} (c : Int × Int × Int) (h : (U.map posD).Nodup) : ((addC U c).map posD).Nodup := by
  unfold addC
  split
  · exact h
  · rename_i hn
    have h0 : pAt U c.1 c.2.1 = none := by simpa using hn
    rw [List.map_append, List.nodup_append]
    refine ⟨h, by simp, fun u hu v hv e => ?_⟩
    obtain ⟨x, hx, rfl⟩ := List.mem_map.1 hu
    have hv : v = posD c := by simpa using hv
    rw [hv] at e
    exact pAt_none.1 h0 x hx (posD_same.1 e)
theorem fold_nodup : ∀ (m : List (Int × Int × Int)) {U : List (Int × Int × Int)}, (U.map posD).Nodup → ((m.foldl addC U).map posD).Nodup
  | [], _, h => h
  | c :: m, _, h => fold_nodup m (addC_nodup c h)
theorem fold_mem : ∀ {m U : List (Int × Int × Int)} {z : Int × Int × Int}, SSC m → (z ∈ m.foldl addC U ↔ z ∈ U ∨ (z ∈ m ∧ ∀ x ∈ U, ¬ atSame x z))
  | [], U, z, _ => by simp
  | c :: m, U, z, h => by
    obtain ⟨h1, h2⟩ := ssc_cons h
    rw [List.foldl_cons, fold_mem h2]
    unfold addC
    split
    · rename_i hs
      have hne : ¬ ∀ x ∈ U, ¬ atSame x c := fun ha => by
        rw [pAt_none.2 ha] at hs; cases hs
      constructor
      · rintro (hu | ⟨hm, hq⟩)
        · exact Or.inl hu
        · exact Or.inr ⟨List.mem_cons_of_mem _ hm, hq⟩
      · rintro (hu | ⟨hm, hq⟩)
        · exact Or.inl hu
        · rcases List.mem_cons.1 hm with rfl | hm
          · exact absurd hq hne
          · exact Or.inr ⟨hm, hq⟩
    · rename_i hs
      have h0 : ∀ x ∈ U, ¬ atSame x c := pAt_none.1 (by simpa using hs)
      constructor
      · rintro (hu | ⟨hm, hq⟩)
        · rcases List.mem_append.1 hu with hu | hu
          · exact Or.inl hu
          · obtain rfl : z = c := by simpa using hu
            exact Or.inr ⟨List.mem_cons_self, h0⟩
        · exact Or.inr ⟨List.mem_cons_of_mem _ hm, fun x hx => hq x (List.mem_append.2 (Or.inl hx))⟩
      · rintro (hu | ⟨hm, hq⟩)
        · exact Or.inl (List.mem_append.2 (Or.inl hu))
        · rcases List.mem_cons.1 hm with rfl | hm'
          · exact Or.inl (by simp)
          · refine Or.inr ⟨hm', fun x hx => ?_⟩
            rcases List.mem_append.1 hx with hx | hx
            · exact hq x hx
            · have e : x = c := by simpa using hx
              rw [e]
              exact bef_not_same (h1 z hm')
theorem cpy_right (h : rightC l = true) (hg : tlGood l dx dy nx k = true) : rightC (cpy l dx dy nx k) = true := by
  refine rightC_mv h fun c hc => ?_
  unfold tlGood cpy at hg
  have := List.all_eq_true.1 hg _ (List.mem_map_of_mem hc)
  exact validB_iff.1 this
theorem tlU_nodup : ∀ (k : Nat), ((tlU l dx dy nx k).map posD).Nodup
  | 0 => by simp [tlU]
  | k + 1 => fold_nodup _ (tlU_nodup k)
theorem tlU_cells (h : rightC l = true) : ∀ (k : Nat), (∀ i, i < k → tlGood l dx dy nx i = true) → okCells (tlU l dx dy nx k)
  | 0, _ => fun c hc => by simp [tlU] at hc
  | k + 1, hg => fun c hc => by
    have hr := cpy_right h (hg k (by omega))
    rcases (fold_mem (rightC_sorted hr)).1 hc with h1 | h1
    · exact tlU_cells h k (fun i hi => hg i (by omega)) c h1
    · exact okCells_right hr c h1.1
theorem tlU_right (h : rightC l = true) (hg : ∀ i, i < k → tlGood l dx dy nx i = true) (h5 : (tlU l dx dy nx k).length ≤ 5000) : rightC (srtC (tlU l dx dy nx k)) = true :=
  rightC_of (by rw [(srtC_perm _).length_eq]; exact h5) (fun p hp => tlU_cells h k hg p ((srtC_perm _).mem_iff.1 hp)) (srt_of (tlU_nodup k))
theorem tlU_over (h : rightC l = true) (hg : ∀ i, i < k + 1 → tlGood l dx dy nx i = true) (h5 : (tlU l dx dy nx k).length ≤ 5000) : resL 0 (srtC (tlU l dx dy nx k)) (cpy l dx dy nx k) = srtC (tlU l dx dy nx (k + 1)) := by
  have ha := rightC_sorted (tlU_right h (fun i hi => hg i (by omega)) h5)
  have hb := rightC_sorted (cpy_right h (hg k (by omega)))
  refine (srt_eq (tlU_nodup (k + 1)) (ssc_res 0 ha hb) fun z => ?_).symm
  rw [mem_res0 ha hb, show tlU l dx dy nx (k + 1) = (cpy l dx dy nx k).foldl addC (tlU l dx dy nx k) from rfl, fold_mem hb, (srtC_perm _).mem_iff]
  refine or_congr Iff.rfl (and_congr Iff.rfl (forall_congr' fun x => ?_))
  rw [(srtC_perm _).mem_iff]
theorem tl_ref (h : rightC l = true) (hg : ∀ i, i < k + 1 → tlGood l dx dy nx i = true) (h5 : (tlU l dx dy nx k).length ≤ 5000) :
    (5000 < (tlU l dx dy nx (k + 1)).length → alE 0 (srtC (tlU l dx dy nx k)) (cpy l dx dy nx k) = 6) ∧
    ((tlU l dx dy nx (k + 1)).length ≤ 5000 → alE 0 (srtC (tlU l dx dy nx k)) (cpy l dx dy nx k) = 0 ∧ alL 0 (srtC (tlU l dx dy nx k)) (cpy l dx dy nx k) = srtC (tlU l dx dy nx (k + 1))) := by
  have ha := tlU_right h (fun i hi => hg i (by omega)) h5
  have hb := cpy_right h (hg k (by omega))
  have ho := tlU_over h hg h5
  have hl : (resL 0 (srtC (tlU l dx dy nx k)) (cpy l dx dy nx k)).length = (tlU l dx dy nx (k + 1)).length := by rw [ho, (srtC_perm _).length_eq]
  constructor
  · intro h6; exact alE_size ha hb (by omega)
  · intro h6
    have he := alE_ok (k := 0) ha hb (by omega)
    exact ⟨he, by rw [alL_ok he, ho]⟩
end
end Go.Proofs.YtenckggfgbkfnaaDoor
end
