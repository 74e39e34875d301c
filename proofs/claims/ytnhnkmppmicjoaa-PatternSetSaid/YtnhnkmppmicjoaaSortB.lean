/- A slice of the call's own, sorted in place: the bridge to the library's words on sorts. Over any program. -/
import Derived.Test.YtnhnkmppmicjoaaOwn
import Derived.Test.YtnhnkmppmicjoaaSortP
import Derived.Shelf.SlSortCmp.NoneTotal
namespace Go.Proofs.Ytnhnkmppmicjoaa
open Go Go.RowKit Go.Sort
set_option linter.unusedSimpArgs false
set_option linter.unusedVariables false
variable {α : Type} [Inhabited α]
theorem get!_of {l : List α} {i : Nat} {x : α} (h : l[i]? = some x) : l.toArray[i]! = x := by
  have hi := (List.getElem?_eq_some_iff.1 h).1
  have e := (List.getElem?_eq_some_iff.1 h).2
  rw [getElem!_pos _ i (by simpa using hi)]
  simpa using e
theorem flatK_flatMap {enc : α → List Value} {k : Nat} (hk : ∀ x, (enc x).length = k) (hk0 : 0 < k) (l : List α) : (flatK enc k l.toArray).toList = l.flatMap enc := by
  apply List.ext_getElem?
  intro t
  by_cases ht : t < l.length * k
  · have h1 := get_flatK enc k l.toArray t (by simpa using ht)
    have hs : t < (flatK enc k l.toArray).size := by simpa using ht
    rw [getElem!_pos _ t hs] at h1
    rw [Array.getElem?_toList, Array.getElem?_eq_getElem hs, h1]
    have hq : t / k < l.length := (Nat.div_lt_iff_lt_mul hk0).2 ht
    have hr : t % k < k := Nat.mod_lt _ hk0
    have e1 : l[t / k]? = some l[t / k] := List.getElem?_eq_getElem hq
    rw [get!_of e1]
    have e2 : (enc l[t / k])[t % k]? = some ((enc l[t / k])[t % k]'(by rw [hk]; exact hr)) := List.getElem?_eq_getElem (by rw [hk]; exact hr)
    have h2 := flatMap_get hk l (t / k) _ e1 (t % k) _ e2
    rw [Nat.mul_comm, Nat.div_add_mod] at h2
    rw [h2, getElem!_pos _ _ (by rw [hk]; exact hr)]
  · rw [List.getElem?_eq_none (by simp; omega), List.getElem?_eq_none (by rw [flatMap_len hk]; omega)]
section
variable {enc : α → List Value} {k : Nat} {e : TypeId} {B : Nat} {w : World} {g n c : Nat} {l : List α}
omit [Inhabited α] in
theorem own_block (h : Own enc k e B w (some ⟨g, 0, none⟩) n c l) : ∃ cur, w.heap[g]? = some (.cells cur e (0, 0)) ∧ B ≤ g ∧ n ≤ c ∧ c ≤ maxLen ∧ cur.size = c * k ∧ cur.toList.take (n * k) = l.flatMap enc := by
  rcases h.row.2 with ⟨h0, _⟩ | ⟨g', cap, cur, hv, hg, hh, h1, h2, h3, h4⟩
  · cases h0
  · injection hv with hA _ hc
    injection hA with hA
    injection hA with hA
    subst hA; subst hc
    exact ⟨cur, hh, hg, h1, h2, h3, h4⟩
omit [Inhabited α] in
theorem own_lt (h : Own enc k e B w (some ⟨g, 0, none⟩) n c l) : B ≤ g ∧ g < w.heap.size := by
  obtain ⟨cur, hh, hg, _⟩ := own_block h
  exact ⟨hg, (Array.getElem?_eq_some_iff.1 hh).1⟩
theorem own_holdsK (hk : ∀ x, (enc x).length = k) (hk0 : 0 < k) (h : Own enc k e B w (some ⟨g, 0, none⟩) n c l) : HoldsK enc k w g 0 l.toArray := by
  obtain ⟨cur, hh, hg, h1, h2, h3, h4⟩ := own_block h
  intro j hj
  have hj' : j < n * k := by simpa [← h.len] using hj
  have hf := flatK_flatMap hk hk0 l
  refine ⟨?_, by simp [World.frozen?, hh]⟩
  rw [Nat.zero_add, cell_of_row w g j cur e (0, 0) hh]
  have e1 : (cur.toList.take (n * k))[j]? = (flatK enc k l.toArray).toList[j]? := by rw [h4, hf]
  rw [List.getElem?_take, if_pos hj', Array.getElem?_toList, Array.getElem?_toList, Array.getElem?_eq_getElem hj] at e1
  rw [e1, getElem!_pos _ j hj]; rfl
theorem own_sorted (hk : ∀ x, (enc x).length = k) (hk0 : 0 < k) (h : Own enc k e B w (some ⟨g, 0, none⟩) n c l) {l' : List α} (hl : l'.length = n) (m : Nat) (os : Array Obj) :
    Own enc k e B (sortWorldK enc k w g 0 m l'.toArray os) (some ⟨g, 0, none⟩) n c l' := by
  obtain ⟨cur, hh, hg, h1, h2, h3, h4⟩ := own_block h
  have hlt := (Array.getElem?_eq_some_iff.1 hh).1
  have hf := flatK_flatMap hk hk0 l'
  have hle : n * k ≤ c * k := Nat.mul_le_mul_right k h1
  refine ⟨⟨by rw [flatMap_len hk, hl], .inr ⟨g, c, putCells id 0 (flatK enc k l'.toArray) cur, rfl, hg, ?_, h1, h2, by simpa [putCells] using h3, ?_⟩⟩, hl⟩
  · unfold sortWorldK grow
    rw [Array.getElem?_append_left (by simpa [putRowK, putRow, mapBlock, Sort.ahead] using hlt)]
    simp [putRowK, putRow, mapBlock, Sort.ahead, Array.getElem?_modify, hh, onCells]
  · rw [← hf]
    apply List.ext_getElem?
    intro j
    rw [List.getElem?_take, Array.getElem?_toList, Array.getElem?_toList]
    by_cases hj : j < n * k
    · have hjc : j < cur.size := by omega
      have hjf : j < (flatK enc k l'.toArray).size := by simpa [hl] using hj
      rw [if_pos hj]
      simp only [putCells, Array.getElem?_mapIdx, Array.getElem?_eq_getElem hjc, Option.map_some]
      rw [if_pos ⟨Nat.zero_le _, by simpa using hjf⟩, Nat.sub_zero, getElem!_pos _ j hjf, Array.getElem?_eq_getElem hjf]; rfl
    · rw [if_neg hj, Array.getElem?_eq_none (by simp [hl]; omega)]
theorem below_sorted {B : Nat} (d : Array α) (hg : B ≤ g) (hgl : g < w.heap.size) (m : Nat) (os : Array Obj) : Below B w (sortWorldK enc k w g 0 m d os) :=
  ⟨rfl, rfl, rfl, by simp [sortWorldK, grow, putRowK, putRow, mapBlock, Sort.ahead], fun i hi => by
    unfold sortWorldK grow
    have hlt : i < w.heap.size := by omega
    rw [Array.getElem?_append_left (by simpa [putRowK, putRow, mapBlock, Sort.ahead] using hlt)]
    simp [putRowK, putRow, mapBlock, Sort.ahead, Array.getElem?_modify, show g ≠ i by omega]⟩
end
/-- What the sort leaves, as lists. -/
theorem sorted_list {lt : α → α → Bool} {l : List α} {d' : Array α} (hp : PermIn 0 l.toArray.size l.toArray d') (hs : SortedIn lt 0 l.toArray.size d') : ∃ l' : List α, d' = l'.toArray ∧ l'.Perm l ∧ l'.Pairwise fun a b => lt b a = false := by
  refine ⟨d'.toList, by simp, ?_, ?_⟩
  · have h := hp.2.2
    have hz := hp.1
    rw [← hz] at h
    simp only [List.size_toArray, hz] at h
    have e1 : d'.extract 0 d'.size = d' := by simp
    have hz' : d'.size = l.length := by simpa using hz
    rw [← hz', e1] at h
    rw [show (l.toArray.extract 0 d'.size) = l.toArray by rw [hz']; simp] at h
    simpa using h
  · rw [List.pairwise_iff_getElem]
    intro i j hi hj hij
    have hz : d'.size = l.length := by simpa using hp.1
    have h := hs i j (Nat.zero_le _) hij (by simpa [hz] using hj)
    rw [getElem!_pos d' j (by simpa using hj), getElem!_pos d' i (by simpa using hi)] at h
    simpa using h
end Go.Proofs.Ytnhnkmppmicjoaa
