/- A row of the call's own: several elements laid anew. Over any program. -/
import Derived.Test.YtnhnkmppmicjoaaClear
namespace Go.Proofs.Ytnhnkmppmicjoaa
open Go Go.RowKit
set_option linter.unusedSimpArgs false
set_option linter.unusedVariables false
def putAt : List Value → List Value → Nat → List Value
  | [], cs, _ => cs
  | v :: r, cs, o => putAt r (cs.set o v) (o + 1)
theorem putAt_eq : ∀ (vs cs : List Value) (o : Nat), o + vs.length ≤ cs.length → putAt vs cs o = cs.take o ++ vs ++ cs.drop (o + vs.length)
  | [], cs, o, _ => by simp [putAt]
  | v :: r, cs, o, h => by
    simp only [List.length_cons] at h
    rw [putAt, putAt_eq r _ _ (by rw [List.length_set]; omega)]
    have e1 : (cs.set o v).take (o + 1) = cs.take o ++ [v] := by
      rw [List.take_add_one, List.getElem?_set_self (by omega), List.take_set_of_le (Nat.le_refl _)]; rfl
    have e2 : (cs.set o v).drop (o + 1 + r.length) = cs.drop (o + (v :: r).length) := by
      rw [List.drop_set_of_lt (by omega), List.length_cons, show o + 1 + r.length = o + (r.length + 1) by omega]
    rw [e1, e2]; simp
theorem row_put {B : Nat} {e : TypeId} {g n c k : Nat} : ∀ (vs : List Value) (o : Nat) (w : World) (cs : List Value), w.ownsRow B e k (.slice (some ⟨g, 0, none⟩) n c) n cs → (w.setCells g o vs).ownsRow B e k (.slice (some ⟨g, 0, none⟩) n c) n (putAt vs cs o)
  | [], _, _, _, h => h
  | v :: r, o, w, cs, h => row_put r (o + 1) _ _ (h.stored o v).1
section
variable {α : Type} {enc : α → List Value} {k : Nat} {e : TypeId} {B : Nat} {w : World} {g n c : Nat} {l : List α}
theorem flatMap_take (hk : ∀ x, (enc x).length = k) : ∀ (l : List α) (i : Nat), (l.take i).flatMap enc = (l.flatMap enc).take (i * k)
  | [], i => by simp
  | x :: l, 0 => by simp
  | x :: l, i + 1 => by
    rw [List.take_succ_cons, List.flatMap_cons, List.flatMap_cons, flatMap_take hk l i, show (i + 1) * k = (enc x).length + i * k by rw [hk, Nat.add_mul]; omega, List.take_length_add_append]
theorem flatMap_drop (hk : ∀ x, (enc x).length = k) : ∀ (l : List α) (i : Nat), (l.drop i).flatMap enc = (l.flatMap enc).drop (i * k)
  | [], i => by simp
  | x :: l, 0 => by simp
  | x :: l, i + 1 => by
    rw [List.drop_succ_cons, List.flatMap_cons, flatMap_drop hk l i, show (i + 1) * k = (enc x).length + i * k by rw [hk, Nat.add_mul]; omega, List.drop_length_add_append]
/-- m laid into the row from element i on. -/
theorem own_lay (hk : ∀ x, (enc x).length = k) (h : Own enc k e B w (some ⟨g, 0, none⟩) n c l) {i : Nat} {m : List α} (hi : i + m.length ≤ n) : Own enc k e B (w.setCells g (i * k) (m.flatMap enc)) (some ⟨g, 0, none⟩) n c (l.take i ++ m ++ l.drop (i + m.length)) := by
  have hl := h.len
  have h1 := row_put (m.flatMap enc) (i * k) w _ h.row
  have hz : i * k + m.length * k ≤ n * k := by rw [← Nat.add_mul]; exact Nat.mul_le_mul_right k hi
  rw [putAt_eq _ _ _ (by rw [flatMap_len hk, flatMap_len hk, hl]; exact hz)] at h1
  refine ⟨?_, by simp [hl]; omega⟩
  rw [List.flatMap_append, List.flatMap_append, flatMap_take hk, flatMap_drop hk, Nat.add_mul, ← flatMap_len hk m]
  exact h1
end
end Go.Proofs.Ytnhnkmppmicjoaa
