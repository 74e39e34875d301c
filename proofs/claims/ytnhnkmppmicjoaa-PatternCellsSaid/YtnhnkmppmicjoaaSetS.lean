/- Plain facts: the pattern with another state at a position, out of what a search says. No program in sight. -/
import Derived.Test.YtnhnkmppmicjoaaSetP
namespace Go.Proofs.Ytnhnkmppmicjoaa
open Go Go.RowKit
set_option linter.unusedSimpArgs false
set_option linter.unusedVariables false
theorem insC_mid : ∀ (a b : List (Int × Int × Int)) (c : Int × Int × Int), (∀ d ∈ a, cBef c d = false) → (∀ d ∈ b, cBef c d = true) → insC (a ++ b) c = a ++ c :: b
  | [], [], c, _, _ => rfl
  | [], d :: b, c, _, h => by
    show (if cBef c d = true then c :: d :: b else d :: insC b c) = _
    rw [if_pos (h d (by simp))]; rfl
  | d :: a, b, c, h, h2 => by
    show (if cBef c d = true then c :: d :: (a ++ b) else d :: insC (a ++ b) c) = _
    rw [if_neg (by rw [h d (by simp)]; simp), insC_mid a b c (fun x hx => h x (by simp [hx])) h2]; rfl
theorem offL_all {l : List (Int × Int × Int)} {x y : Int} (h : ∀ d ∈ l, atC x y d = false) : offL l x y = l := by
  unfold offL; exact List.filter_eq_self.2 fun d hd => by rw [h d hd]; rfl
theorem atC_bef {d : Int × Int × Int} {x y s : Int} (h : cBef d (x, y, s) = true ∨ cBef (x, y, s) d = true) : atC x y d = false := by
  unfold atC
  unfold cBef befP at h
  simp only [decide_eq_true_eq] at h
  exact decide_eq_false (by omega)
theorem bef_of {d : Int × Int × Int} {x y s : Int} (h1 : cBef d (x, y, s) = false) (h2 : atC x y d = false) : cBef (x, y, s) d = true := by
  unfold atC at h2
  unfold cBef befP at *
  simp only [decide_eq_true_eq, decide_eq_false_iff_not] at *
  omega
section
variable {l : List (Int × Int × Int)} {x y s t : Int} {k : Nat}
/-- All cells ahead of k are ahead of the position, those from j on are behind it, and between them stand cells at the position. -/
theorem set_mid {a m b : List (Int × Int × Int)} (hl : l = a ++ m ++ b) (ha : ∀ d ∈ a, cBef d (x, y, s) = true) (hb : ∀ d ∈ b, cBef (x, y, s) d = true) (hm : ∀ d ∈ m, atC x y d = true) :
    offL l x y = a ++ b ∧ insC (offL l x y) (x, y, s) = a ++ (x, y, s) :: b := by
  have h1 : offL l x y = a ++ b := by
    rw [hl]
    have ea : offL a x y = a := offL_all fun d hd => atC_bef (.inl (ha d hd))
    have eb : offL b x y = b := offL_all fun d hd => atC_bef (.inr (hb d hd))
    have em : offL m x y = [] := by
      unfold offL; exact List.filter_eq_nil_iff.2 fun d hd => by rw [hm d hd]; simp
    unfold offL at *
    rw [List.filter_append, List.filter_append, ea, eb, em, List.append_nil]
  exact ⟨h1, by rw [h1]; exact insC_mid a b _ (fun d hd => cBef_asym (ha d hd)) hb⟩
theorem mem_take_get {α : Type} {l : List α} {k : Nat} {d : α} (h : d ∈ l.take k) : ∃ r, r < k ∧ l[r]? = some d := by
  obtain ⟨r, hr, e⟩ := List.getElem_of_mem h
  rw [List.length_take] at hr
  refine ⟨r, by omega, ?_⟩
  rw [← e, List.getElem_take, List.getElem?_eq_getElem]
theorem mem_drop_get {α : Type} {l : List α} {k : Nat} {d : α} (h : d ∈ l.drop k) : ∃ r, k ≤ r ∧ l[r]? = some d := by
  obtain ⟨r, hr, e⟩ := List.getElem_of_mem h
  rw [List.length_drop] at hr
  refine ⟨k + r, by omega, ?_⟩
  rw [← e, List.getElem_drop, List.getElem?_eq_getElem]
theorem ssc_lt (h : SSC l) {i j : Nat} {a b : Int × Int × Int} (ha : l[i]? = some a) (hb : l[j]? = some b) (hij : i < j) : cBef a b = true := by
  have h1 := List.getElem?_eq_some_iff.1 ha
  have h2 := List.getElem?_eq_some_iff.1 hb
  have := (List.pairwise_iff_getElem.1 h) i j h1.1 h2.1 hij
  rw [h1.2, h2.2] at this; exact this
/-- A cell stands there at k. -/
theorem set_there (hS : SSC l) (hlo : ∀ r d, r < k → l[r]? = some d → cBef d (x, y, s) = true) (hk : l[k]? = some (x, y, t)) :
    offL l x y = l.take k ++ l.drop (k + 1) ∧ insC (offL l x y) (x, y, s) = l.take k ++ (x, y, s) :: l.drop (k + 1) := by
  have hkl := (List.getElem?_eq_some_iff.1 hk).1
  refine set_mid (m := [(x, y, t)]) ?_ (fun d hd => ?_) (fun d hd => ?_) (fun d hd => ?_)
  · have e : l.drop k = (x, y, t) :: l.drop (k + 1) := by
      rw [List.drop_eq_getElem_cons hkl]
      congr 1
      exact (List.getElem?_eq_some_iff.1 hk).2
    rw [List.append_assoc, List.singleton_append, ← e, List.take_append_drop]
  · obtain ⟨r, hr, e⟩ := mem_take_get hd
    exact hlo r d hr e
  · obtain ⟨r, hr, e⟩ := mem_drop_get hd
    have := ssc_lt hS hk e (by omega)
    unfold cBef at *
    exact this
  · rw [List.mem_singleton.1 hd]; unfold atC; exact decide_eq_true ⟨rfl, rfl⟩
/-- No cell stands there. -/
theorem set_none (hS : SSC l) (hlo : ∀ r d, r < k → l[r]? = some d → cBef d (x, y, s) = true) (hhi : ∀ r d, k ≤ r → l[r]? = some d → cBef d (x, y, s) = false) (hno : ∀ t, l[k]? ≠ some (x, y, t)) :
    offL l x y = l ∧ insC (offL l x y) (x, y, s) = l.take k ++ (x, y, s) :: l.drop k := by
  have key := set_mid (l := l) (x := x) (y := y) (s := s) (a := l.take k) (m := []) (b := l.drop k) (by rw [List.append_nil, List.take_append_drop]) (fun d hd => by
      obtain ⟨r, hr, e⟩ := mem_take_get hd
      exact hlo r d hr e) (fun d hd => by
      obtain ⟨r, hr, e⟩ := mem_drop_get hd
      by_cases hrk : r = k
      · subst hrk
        refine bef_of (hhi r d hr e) (Bool.eq_false_iff.2 fun h => ?_)
        obtain ⟨d1, d2, d3⟩ := d
        unfold atC at h
        simp only [decide_eq_true_eq] at h
        obtain ⟨rfl, rfl⟩ := h
        exact hno d3 e
      · have hrl := (List.getElem?_eq_some_iff.1 e).1
        obtain ⟨p, hp⟩ : ∃ p, l[k]? = some p := ⟨_, List.getElem?_eq_getElem (by omega)⟩
        have h1 := ssc_lt hS hp e (by omega)
        have h2 := hhi k p (Nat.le_refl _) hp
        unfold cBef befP at *
        simp only [decide_eq_true_eq, decide_eq_false_iff_not] at *
        omega) (fun d hd => by cases hd)
  rwa [List.take_append_drop] at key
theorem set_len (hk : l[k]? = some (x, y, t)) : (l.take k ++ l.drop (k + 1)).length + 1 = l.length ∧ (l.take k ++ (x, y, s) :: l.drop (k + 1)).length = l.length := by
  have hkl := (List.getElem?_eq_some_iff.1 hk).1
  simp only [List.length_append, List.length_take, List.length_drop, List.length_cons]; omega
theorem set_at (hk : l[k]? = some (x, y, t)) : l.take k ++ (x, y, s) :: l.drop (k + 1) = l.set k (x, y, s) := by
  have hkl := (List.getElem?_eq_some_iff.1 hk).1
  rw [List.set_eq_take_append_cons_drop, if_pos hkl]
end
end Go.Proofs.Ytnhnkmppmicjoaa
