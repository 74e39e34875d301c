/- A row of the call's own whose elements from k on are laid anew: over the row's raw cells. Over any program. -/
import Derived.Test.YtnhnkmppmicjoaaCopyK
namespace Go.Proofs.Ytnhnkmppmicjoaa
open Go Go.RowKit
set_option linter.unusedSimpArgs false
set_option linter.unusedVariables false
section
variable {α : Type} {enc : α → List Value} {k : Nat} {e : TypeId} {B : Nat} {w : World} {g n c i : Nat} {l : List α} {xs : List Value}
/-- Element y at i, then what stood from i on behind it. -/
theorem raw_ins (hk : ∀ x, (enc x).length = k) (hl : l.length = n) (hi : i ≤ n) (hx : xs.take (i * k) = (l.take i).flatMap enc) (hz : xs.length = (n + 1) * k) (y : α) :
    putAt ((l.drop i).flatMap enc) (putAt (enc y) xs (i * k)) ((i + 1) * k) = (l.take i ++ y :: l.drop i).flatMap enc := by
  have hik : i * k ≤ n * k := Nat.mul_le_mul_right k hi
  have e1 : (i + 1) * k = i * k + k := by rw [Nat.add_mul, Nat.one_mul]
  have e2 : (n + 1) * k = n * k + k := by rw [Nat.add_mul, Nat.one_mul]
  rw [e2] at hz
  have hd : ((l.drop i).flatMap enc).length = n * k - i * k := by rw [flatMap_len hk, List.length_drop, hl, Nat.sub_mul]
  have h1 : putAt (enc y) xs (i * k) = xs.take (i * k) ++ enc y ++ xs.drop (i * k + k) := by rw [putAt_eq _ _ _ (by rw [hk, hz]; omega), hk]
  have hlen : (xs.take (i * k) ++ enc y ++ xs.drop (i * k + k)).length = n * k + k := by simp [hk, hz]; omega
  rw [h1, putAt_eq _ _ _ (by rw [hd, hlen]; omega), hd, e1]
  rw [show (xs.take (i * k) ++ enc y ++ xs.drop (i * k + k)).drop (i * k + k + (n * k - i * k)) = [] from List.drop_of_length_le (by rw [hlen]; omega), List.append_nil, List.take_left' (by simp [hk, hz]; omega), hx]
  simp [List.flatMap_append, List.flatMap_cons]
/-- The same in the other order. -/
theorem raw_ins' (hk : ∀ x, (enc x).length = k) (hl : l.length = n) (hi : i ≤ n) (hx : xs.take (i * k) = (l.take i).flatMap enc) (hz : xs.length = (n + 1) * k) (y : α) :
    putAt (enc y) (putAt ((l.drop i).flatMap enc) xs ((i + 1) * k)) (i * k) = (l.take i ++ y :: l.drop i).flatMap enc := by
  have hik : i * k ≤ n * k := Nat.mul_le_mul_right k hi
  have e1 : (i + 1) * k = i * k + k := by rw [Nat.add_mul, Nat.one_mul]
  have e2 : (n + 1) * k = n * k + k := by rw [Nat.add_mul, Nat.one_mul]
  rw [e2] at hz
  have hd : ((l.drop i).flatMap enc).length = n * k - i * k := by rw [flatMap_len hk, List.length_drop, hl, Nat.sub_mul]
  have h1 : putAt ((l.drop i).flatMap enc) xs (i * k + k) = xs.take (i * k + k) ++ (l.drop i).flatMap enc := by
    rw [putAt_eq _ _ _ (by rw [hd, hz]; omega), hd, show xs.drop (i * k + k + (n * k - i * k)) = [] from List.drop_of_length_le (by rw [hz]; omega), List.append_nil]
  have hlen : (xs.take (i * k + k) ++ (l.drop i).flatMap enc).length = n * k + k := by rw [List.length_append, hd, List.length_take, hz]; omega
  rw [e1, h1, putAt_eq _ _ _ (by rw [hk, hlen]; omega), hk]
  have t1 : (xs.take (i * k + k) ++ (l.drop i).flatMap enc).take (i * k) = xs.take (i * k) := by
    rw [List.take_append_of_le_length (by rw [List.length_take, hz]; omega), List.take_take]; congr 1; omega
  rw [t1, List.drop_left' (by rw [List.length_take, hz]; omega), hx]
  simp [List.flatMap_append, List.flatMap_cons]
end
end Go.Proofs.Ytnhnkmppmicjoaa
