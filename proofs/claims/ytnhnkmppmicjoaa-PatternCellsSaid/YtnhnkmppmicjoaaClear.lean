/- Stores into a row of the call's own: one element, a cleared tail. Over any program. -/
import Derived.Test.YtnhnkmppmicjoaaOwn
import Derived.Test.YtnhnkmppmicjoaaSortB
import Derived.Lib.SliceRun
namespace Go.Proofs.Ytnhnkmppmicjoaa
open Go Go.RowKit
set_option linter.unusedSimpArgs false
set_option linter.unusedVariables false
theorem zeroCells_mem (zs : Array Value) (n : Nat) (h : ∀ u ∈ zs.toList, u.oneCell' = true) (hz : 0 < zs.size) : ∀ u ∈ (Builtin.zeroCells zs n).toList, u.oneCell' = true := by
  intro u hu
  unfold Builtin.zeroCells at hu
  simp at hu
  obtain ⟨i, hi, rfl⟩ := hu
  have hm : i % zs.size < zs.size := Nat.mod_lt _ hz
  refine h _ ?_
  simp [Array.getD, hm]
theorem run_clear_k {P : Program} (w : World) (t e ty : TypeId) (z : Value) (k : Nat) (ht : P.underlying t = some (.slice e)) (hv : ∀ w, (zeroValue e).run P w = .ok z w) (hk : z.cells.size = k) (hk0 : 0 < k) (h1 : ∀ u ∈ z.cells.toList, u.oneCell' = true) (b o n c : Nat) (hn : 0 < n)
    (hc : ∀ j, j < n * k → (w.cell? ⟨b, o + j, none⟩).isSome = true) (hf : ∀ j, j < n * k → w.frozen? ⟨b, o + j, none⟩ = false) :
    (Builtin.clear_ #[t] ty #[.slice (some ⟨b, o, none⟩) n c]).run P w = .ok (.tuple #[]) (w.setCells b o (Builtin.zeroCells z.cells n).toList) := by
  have hlen : (Builtin.zeroCells z.cells n).toList.length = n * k := by rw [← hk]; simp [Builtin.zeroCells]
  have hst := Go.run_storeCells_cells (P := P) b o (Builtin.zeroCells z.cells n).toList 0 w (by rw [hlen]; simpa using hc) (by rw [hlen]; simpa using hf) (zeroCells_mem _ _ h1 (by omega))
  simp only [Nat.add_zero] at hst
  obtain ⟨m, rfl⟩ : ∃ m, n = m + 1 := ⟨n - 1, by omega⟩
  simp [Builtin.clear_, run_underlying ht, hv, hst]
theorem zeroCells_len (zs : Array Value) (n : Nat) : (Builtin.zeroCells zs n).toList.length = n * zs.size := by simp [Builtin.zeroCells]
theorem below_setCells {B b : Nat} (hb : B ≤ b) : ∀ (vs : List Value) (o : Nat) (w0 w : World), Below B w0 w → Below B w0 (w.setCells b o vs)
  | [], _, _, _, h => h
  | v :: r, o, w0, w, h => below_setCells hb r (o + 1) w0 _ (h.setCell hb v)
section
variable {B : Nat} {e : TypeId} {w : World} {g n c : Nat}
theorem flatMap_set {α : Type} {enc : α → List Value} {k : Nat} (hk : ∀ x, (enc x).length = k) : ∀ (l : List α) (i : Nat) (y : α), i < l.length → (l.set i y).flatMap enc = (l.flatMap enc).take (i * k) ++ enc y ++ (l.flatMap enc).drop (i * k + k)
  | [], i, y, h => by simp at h
  | x :: l, 0, y, _ => by
    simp only [List.set_cons_zero, List.flatMap_cons, Nat.zero_mul, List.take_zero, List.nil_append, Nat.zero_add]
    rw [List.drop_left' (hk x)]
  | x :: l, i + 1, y, h => by
    have ih := flatMap_set hk l i y (by simpa using h)
    simp only [List.set_cons_succ, List.flatMap_cons]
    have e1 : (enc x ++ l.flatMap enc).take ((i + 1) * k) = enc x ++ (l.flatMap enc).take (i * k) := by
      rw [List.take_append, List.take_of_length_le (by rw [hk, Nat.add_mul]; omega), hk, Nat.add_mul, Nat.one_mul, Nat.add_sub_cancel]
    have e2 : (enc x ++ l.flatMap enc).drop ((i + 1) * k + k) = (l.flatMap enc).drop (i * k + k) := by
      rw [List.drop_append, List.drop_of_length_le (by rw [hk, Nat.add_mul]; omega), hk, Nat.add_mul, Nat.one_mul, Nat.add_sub_cancel, List.nil_append]
    rw [ih, e1, e2]
    simp [List.append_assoc]
/-- What one element's stores leave: each cell of the element anew. -/
theorem own_cells {α : Type} {enc : α → List Value} {k : Nat} (hk : ∀ x, (enc x).length = k) {l : List α} (h : Own enc k e B w (some ⟨g, 0, none⟩) n c l) {j : Nat} (hj : j < n * k) : w.cell? ⟨g, j, none⟩ = (l.flatMap enc)[j]? ∧ w.frozen? ⟨g, j, none⟩ = false :=
  ⟨h.row.cellAt j hj, h.row.frozenAt j⟩
/-- Every cell of the whole row is there. -/
theorem own_some {α : Type} {enc : α → List Value} {k : Nat} (hk : ∀ x, (enc x).length = k) {l : List α} (h : Own enc k e B w (some ⟨g, 0, none⟩) n c l) {j : Nat} (hj : j < n * k) : (w.cell? ⟨g, j, none⟩).isSome = true := by
  rw [(own_cells hk h hj).1, List.getElem?_eq_getElem (by rw [flatMap_len hk, h.len]; exact hj)]; rfl
theorem own_stored {α : Type} {enc : α → List Value} {k : Nat} {l l' : List α} (h : Own enc k e B w (some ⟨g, 0, none⟩) n c l) (j : Nat) (u : Value) (hl : l'.length = n) (he : (l.flatMap enc).set j u = l'.flatMap enc) : Own enc k e B (w.setCell ⟨g, j, none⟩ u) (some ⟨g, 0, none⟩) n c l' := by
  have := (h.row.stored j u).1
  rw [he] at this
  exact ⟨this, hl⟩
theorem own_setI {l : List Int} (h : Own encI 1 e B w (some ⟨g, 0, none⟩) n c l) {i : Nat} (hi : i < n) (x : Int) : Own encI 1 e B (w.setCell ⟨g, i, none⟩ (.int .i64 x)) (some ⟨g, 0, none⟩) n c (l.set i x) := by
  have hl : i < l.length := by rw [h.len]; exact hi
  refine own_stored h i _ (by simp [h.len]) ?_
  rw [flatMap_set encI_len l i x hl]
  have hz : i < (l.flatMap encI).length := by rw [flatMap_len encI_len]; omega
  rw [List.set_eq_take_append_cons_drop, if_pos hz]
  simp [encI]
theorem own_row2 {l : List (Int × Int)} (h : Own encP 2 e B w (some ⟨g, 0, none⟩) n c l) {i : Nat} (hi : i < n) (x y : Int) : Own encP 2 e B ((w.setCell ⟨g, i * 2, none⟩ (.int .i64 x)).setCell ⟨g, i * 2 + 1, none⟩ (.int .i64 y)) (some ⟨g, 0, none⟩) n c (l.set i (x, y)) := by
  have hl : i < l.length := by rw [h.len]; exact hi
  have h1 := (h.row.stored (i * 2) (.int .i64 x)).1
  have h2 := (h1.stored (i * 2 + 1) (.int .i64 y)).1
  refine ⟨?_, by simp [h.len]⟩
  have he : ((l.flatMap encP).set (i * 2) (.int .i64 x)).set (i * 2 + 1) (.int .i64 y) = (l.set i (x, y)).flatMap encP := by
    rw [flatMap_set encP_len l i (x, y) hl]
    have hz : i * 2 + 2 ≤ (l.flatMap encP).length := by rw [flatMap_len encP_len]; omega
    apply List.ext_getElem?
    intro t
    rw [List.getElem?_set, List.getElem?_set, List.append_assoc, List.getElem?_append, List.length_take, List.getElem?_append]
    simp only [encP, List.length_cons, List.length_nil, List.getElem?_take, List.getElem?_drop, List.length_set]
    by_cases e1 : t = i * 2
    · subst e1
      rw [if_neg (by omega), if_pos rfl, if_pos (by omega), if_neg (by omega), if_pos (by omega), show i * 2 - min (i * 2) (l.flatMap encP).length = 0 by omega]; rfl
    · by_cases e2 : t = i * 2 + 1
      · subst e2
        rw [if_pos rfl, if_pos (by omega), if_neg (by omega), if_pos (by omega), show i * 2 + 1 - min (i * 2) (l.flatMap encP).length = 1 by omega]; rfl
      · rw [if_neg (by omega), if_neg (by omega)]
        by_cases e3 : t < i * 2
        · rw [if_pos (by omega), if_pos e3]
        · rw [if_neg (by omega), if_neg (by omega)]
          congr 1; omega
  rw [← he]; exact h2
/-- The first m elements of a row whose tail is cleared. -/
theorem rd_cleared {α : Type} {enc : α → List Value} {k : Nat} (hk : ∀ x, (enc x).length = k) {l : List α} (h : Own enc k e B w (some ⟨g, 0, none⟩) n c l) {m : Nat} (hm : m ≤ n) (vs : List Value) : Rd enc k (w.setCells g (m * k) vs) (some ⟨g, 0, none⟩) m (l.take m) := by
  have hr := h.rd hk
  refine ⟨by simp [h.len]; omega, fun h0 => ?_⟩
  obtain ⟨b, o, e1, hb, hc⟩ := hr.2 (by omega)
  injection e1 with e1
  injection e1 with e1 e2
  subst e1 e2
  have hsz : ∀ (vs : List Value) (o : Nat) (w : World), (w.setCells g o vs).heap.size = w.heap.size := by
    intro vs
    induction vs with
    | nil => intro o w; rfl
    | cons v r ih => intro o w; show ((w.setCell ⟨g, o, none⟩ v).setCells g (o + 1) r).heap.size = _; rw [ih, World.size_setCell]
  refine ⟨g, 0, rfl, by rw [hsz]; exact hb, fun i x hi j u hu => ?_⟩
  have him : i < m := by
    have := (List.getElem?_eq_some_iff.1 hi).1
    rw [List.length_take] at this; omega
  rw [List.getElem?_take, if_pos him] at hi
  have hj : j < k := by have := (List.getElem?_eq_some_iff.1 hu).1; rwa [hk] at this
  have hlt : i * k + k ≤ m * k := by
    have := Nat.mul_le_mul_right k (show i + 1 ≤ m by omega); rwa [Nat.add_mul, Nat.one_mul] at this
  rw [World.cell?_setCells_out g vs (m * k) w _ (fun _ _ => .inl (by show 0 + i * k + j < m * k; omega))]
  exact hc i x hi j u hu
end
end Go.Proofs.Ytnhnkmppmicjoaa
