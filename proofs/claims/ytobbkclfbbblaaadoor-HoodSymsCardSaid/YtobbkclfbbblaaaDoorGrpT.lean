/- The group as the program finds it: plain facts on sets of numbers below 8, and on the array that holds one. -/
import Derived.Test.YtobbkclfbbblaaaDoorGrpQ
import Derived.Test.YtobbkclfbbblaaaDoorBase
namespace Go.Proofs.YtobbkclfbbblaaaDoor
open Go Go.RowKit
set_option linter.unusedSimpArgs false
set_option linter.unusedVariables false
def upd (S : Nat → Bool) (k : Nat) : Nat → Bool := fun j => S j || decide (j = k)
theorem upd_same (S : Nat → Bool) (k : Nat) : upd S k k = true := by simp [upd]
theorem upd_old {S : Nat → Bool} {k j : Nat} (h : S j = true) : upd S k j = true := by simp [upd, h]
def cnt (S : Nat → Bool) : Nat := ((List.range 8).filter S).length
theorem cnt_le (S : Nat → Bool) : cnt S ≤ 8 := Nat.le_trans (List.length_filter_le _ _) (by simp)
theorem cnt_upd_aux (S : Nat → Bool) (k : Nat) (hS : S k = false) : ∀ n, ((List.range n).filter (upd S k)).length = ((List.range n).filter S).length + if k < n then 1 else 0
  | 0 => by simp
  | n + 1 => by
    rw [List.range_succ, List.filter_append, List.filter_append, List.length_append, List.length_append, cnt_upd_aux S k hS n]
    by_cases e : n = k
    · subst e; simp [upd, hS]
    · have h1 : upd S k n = S n := by simp [upd, e]
      simp only [List.filter_cons, List.filter_nil, h1]
      have h2 : (if k < n then 1 else 0) = if k < n + 1 then 1 else 0 := by by_cases h : k < n <;> simp [h] <;> omega
      rw [h2]; omega
theorem cnt_upd {S : Nat → Bool} {k : Nat} (hk : k < 8) (hS : S k = false) : cnt (upd S k) = cnt S + 1 := by
  unfold cnt; rw [cnt_upd_aux S k hS 8, if_pos hk]
structure GInvS (l : List Int) (S : Nat → Bool) : Prop where
  zero : S 0 = true
  must : ∀ k, k < 8 → S k = true → Must l k
theorem GInvS.add {l : List Int} {S : Nat → Bool} (h : GInvS l S) {k : Nat} (hm : Must l k) : GInvS l (upd S k) :=
  ⟨upd_old h.zero, fun j hj hs => by
    by_cases e : j = k
    · subst e; exact hm
    · exact h.must j hj (by simpa [upd, e] using hs)⟩
theorem GInvS.start (l : List Int) : GInvS l (fun k => decide (k = 0)) := by
  refine ⟨by simp, fun k _ hs => ?_⟩
  have : k = 0 := by simpa using hs
  subst this
  exact must_zero l
def HasS (l : List Int) (S : Nat → Bool) (i : Nat) : Prop := ∀ j m, j < i → l[j]? = some m → S (r8 m) = true
theorem HasS.start (l : List Int) (S : Nat → Bool) : HasS l S 0 := fun j m hj => absurd hj (by omega)
theorem HasS.more {l : List Int} {S : Nat → Bool} {i : Nat} (h : HasS l S i) (k : Nat) : HasS l (upd S k) i := fun j m hj hm => upd_old (h j m hj hm)
theorem HasS.step {l : List Int} {S : Nat → Bool} {i : Nat} {m : Int} (h : HasS l S i) (hm : l[i]? = some m) : HasS l (upd S (r8 m)) (i + 1) := by
  intro j m' hj hm'
  by_cases e : j = i
  · subst e; rw [hm] at hm'; cases hm'; exact upd_same _ _
  · exact upd_old (h j m' (by omega) hm')
def PairsS (S : Nat → Bool) (a b : Nat) : Prop := ∀ i j, i < 8 → j < 8 → (i < a ∨ i = a ∧ j < b) → S i = true → S j = true → S (cm i j) = true
theorem PairsS.start (S : Nat → Bool) : PairsS S 0 0 := fun i j _ _ h => by omega
theorem PairsS.next {S : Nat → Bool} {a b : Nat} (h : PairsS S a b) (hc : S a = true → S b = true → S (cm a b) = true) : PairsS S a (b + 1) := by
  intro i j hi hj hij h1 h2
  by_cases e : i = a ∧ j = b
  · obtain ⟨rfl, rfl⟩ := e; exact hc h1 h2
  · exact h i j hi hj (by omega) h1 h2
theorem PairsS.row {S : Nat → Bool} {a : Nat} (h : PairsS S a 8) : PairsS S (a + 1) 0 := fun i j hi hj hij => h i j hi hj (by omega)
theorem GInvS.group {l : List Int} {S : Nat → Bool} (h : GInvS l S) (h1 : HasS l S l.length) (h2 : PairsS S 8 0) : ∀ k : Nat, k < 8 → grpB l k = S k := by
  refine grp_of ⟨h.zero, fun m hm => ?_, fun a b ha hb h3 h4 => h2 a b ha hb (by omega) h3 h4⟩ h.must
  obtain ⟨i, hi, e⟩ := List.getElem_of_mem hm
  exact h1 i m hi (by rw [List.getElem?_eq_getElem hi, e])
/-- Where a pass over the pairs stands: nothing new so far, or something new. -/
def Stt (S0 S : Nat → Bool) (ag : Bool) (a b : Nat) : Prop := ag = false ∧ cnt S = cnt S0 ∧ PairsS S a b ∨ ag = true ∧ cnt S0 < cnt S
theorem Stt.start (S : Nat → Bool) : Stt S S false 0 0 := .inl ⟨rfl, rfl, PairsS.start S⟩
theorem Stt.next {S0 S : Nat → Bool} {ag : Bool} {a b : Nat} (h : Stt S0 S ag a b) (hc : S a = true → S b = true → S (cm a b) = true) : Stt S0 S ag a (b + 1) :=
  h.imp (fun ⟨h1, h2, h3⟩ => ⟨h1, h2, h3.next hc⟩) id
theorem Stt.row {S0 S : Nat → Bool} {ag : Bool} {a : Nat} (h : Stt S0 S ag a 8) : Stt S0 S ag (a + 1) 0 := h.imp (fun ⟨h1, h2, h3⟩ => ⟨h1, h2, h3.row⟩) id
theorem Stt.grow {S0 S : Nat → Bool} {ag : Bool} {a b a' b' k : Nat} (h : Stt S0 S ag a b) (hk : k < 8) (hS : S k = false) : Stt S0 (upd S k) true a' b' := by
  refine .inr ⟨rfl, ?_⟩
  rw [cnt_upd hk hS]
  rcases h with ⟨_, h, _⟩ | ⟨_, h⟩ <;> omega
theorem Stt.done {S0 S : Nat → Bool} {ag : Bool} (h : Stt S0 S ag 8 0) : ag = false → PairsS S 8 0 := fun e => by
  rcases h with ⟨_, _, h⟩ | ⟨h, _⟩
  · exact h
  · rw [e] at h; cases h
theorem Stt.less {S0 S : Nat → Bool} {ag : Bool} {a b : Nat} (h : Stt S0 S ag a b) : 2 * (9 - cnt S) + flagOf (.bool ag) < 2 * (9 - cnt S0) + 1 := by
  have := cnt_le S0
  have := cnt_le S
  rcases h with ⟨rfl, h, _⟩ | ⟨rfl, h⟩ <;> simp [flagOf] <;> omega
/-- Block b of the world holds the set, as eight bools. -/
structure Arr (w : World) (b : Nat) (S : Nat → Bool) : Prop where
  lt : b < w.heap.size
  cell : ∀ k, k < 8 → w.cell? ⟨b, k, none⟩ = some (.bool (S k))
  free : ∀ k, w.frozen? ⟨b, k, none⟩ = false
theorem Arr.of {w w' : World} {b : Nat} {S : Nat → Bool} (h : Arr w b S) (hb : Below w.heap.size w w') : Arr w' b S :=
  ⟨Nat.lt_of_lt_of_le h.lt hb.size, fun k hk => (hb.cell (p := ⟨b, k, none⟩) h.lt).trans (h.cell k hk), fun k => (hb.frozen (p := ⟨b, k, none⟩) h.lt).trans (h.free k)⟩
theorem Arr.set {w : World} {b : Nat} {S : Nat → Bool} (h : Arr w b S) {k : Nat} (hk : k < 8) : Arr (w.setCell ⟨b, k, none⟩ (.bool true)) b (upd S k) :=
  ⟨by rw [World.size_setCell]; exact h.lt, fun j hj => by
    rw [cell_setCell_if]
    split
    · rename_i e; rw [h.cell k hk, ← e.2, upd_same]; rfl
    · rename_i e; rw [h.cell j hj]; have e2 : j ≠ k := fun e' => e ⟨rfl, e'.symm⟩
      simp [upd, e2], fun j => by
    have := h.free j
    by_cases e : w.frozen? ⟨b, j, none⟩ = true
    · rw [this] at e; cases e
    · simpa [World.frozen?_setCell] using this⟩
def cntW (w : World) (b : Nat) : Nat := ((List.range 8).filter fun k => match w.cell? ⟨b, k, none⟩ with | some (.bool x) => x | _ => false).length
theorem Arr.cntW {w : World} {b : Nat} {S : Nat → Bool} (h : Arr w b S) : cntW w b = cnt S := by
  unfold Go.Proofs.YtobbkclfbbblaaaDoor.cntW cnt
  congr 1
  refine List.filter_congr fun k hk => ?_
  rw [h.cell k (by simpa using hk)]
end Go.Proofs.YtobbkclfbbblaaaDoor
