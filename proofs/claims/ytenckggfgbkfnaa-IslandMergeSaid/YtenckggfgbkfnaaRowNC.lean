/- Arguments that are cells, slices of cells and patterns, opened to lists. -/
import Derived.Test.YtenckggfgbkfnaaRowNP
namespace Go.Proofs.Ytenckggfgbkfnaa
open Go Go.ChangeShapes Go.WideShapes Go.ChangeAt Go.RowKit Go.Joins Go.Deep
set_option linter.unusedSimpArgs false
set_option linter.unusedVariables false
set_option maxRecDepth 100000
section
variable {H : Type} {enc : TypeId × Value → H} {W : World} {base b0 : Nat} {sp : Nat → Bool} {held : Bool} {v : Value} {d : DataW H} {p : List MemPlace}
theorem open_cells {t : TypeId} (ht : Try.prog.underlying t = some (.slice 39)) (hv : Value.okWide Try.prog W .any b0 t v) (h : DataW.Trod enc Try.prog W 0 sp held t v d p) : ∃ (A : Option Addr) (n c : Nat) (l : List (Int × Int × Int)), v = .slice A n c ∧ Rd encC 3 W A n l ∧ n ≤ 9223372036854775807 ∧ ∀ q ∈ l, I64 q.1 ∧ I64 q.2.1 ∧ I64 q.2.2 := by
  obtain ⟨A, n, c, g, rfl, hn, hc, hi⟩ := open_nums ht Try.underlying39 (by kernel_rfl) (by kernel_rfl) (show _ = 3 from rfl) (by omega) (by
    intro j f hj
    rcases j with _ | _ | _ | j
    · simp at hj; subst hj; rfl
    · simp at hj; subst hj; rfl
    · simp at hj; subst hj; rfl
    · simp at hj) hv h
  refine ⟨A, n, c, (List.range n).map fun i => (g i 0, g i 1, g i 2), rfl, ⟨by simp, fun h0 => ?_⟩, hn, ?_⟩
  · obtain ⟨b, o, rfl, hb, hcell⟩ := hc h0
    refine ⟨b, o, rfl, hb, fun i x hx j u hu => ?_⟩
    rw [List.getElem?_map] at hx
    by_cases hin : i < n
    · rw [List.getElem?_range hin] at hx
      simp only [Option.map_some, Option.some.injEq] at hx
      subst hx
      rcases j with _ | _ | _ | j
      · simp [encC] at hu; subst hu; exact hcell i 0 hin (by omega)
      · simp [encC] at hu; subst hu; exact hcell i 1 hin (by omega)
      · simp [encC] at hu; subst hu; exact hcell i 2 hin (by omega)
      · simp [encC] at hu
    · rw [List.getElem?_eq_none (by simp; omega)] at hx
      cases hx
  · intro q hq
    obtain ⟨i, hir, rfl⟩ := List.mem_map.1 hq
    have hin : i < n := by simpa using hir
    exact ⟨hi i 0 hin (by omega), hi i 1 hin (by omega), hi i 2 hin (by omega)⟩
theorem open_cs (hv : Value.okWide Try.prog W .any b0 22 v) (h : DataW.Trod enc Try.prog W 0 sp held 22 v d p) : ∃ (A : Option Addr) (n c : Nat) (l : List (Int × Int × Int)), v = .slice A n c ∧ Rd encC 3 W A n l ∧ n ≤ 9223372036854775807 ∧ ∀ q ∈ l, I64 q.1 ∧ I64 q.2.1 ∧ I64 q.2.2 := open_cells Try.underlying22 hv h
theorem open_cp (hv : Value.okWide Try.prog W .any b0 23 v) (h : DataW.Trod enc Try.prog W 0 sp held 23 v d p) : ∃ (A : Option Addr) (n c : Nat) (l : List (Int × Int × Int)), v = .slice A n c ∧ Rd encC 3 W A n l ∧ n ≤ 9223372036854775807 ∧ ∀ q ∈ l, I64 q.1 ∧ I64 q.2.1 ∧ I64 q.2.2 := open_cells Try.underlying23 hv h
theorem open_c (hv : Value.okWide Try.prog W .any b0 39 v) (h : DataW.Trod enc Try.prog W base sp held 39 v d p) : ∃ x y z : Int, v = .agg #[.int .i64 x, .int .i64 y, .int .i64 z] ∧ I64 x ∧ I64 y ∧ I64 z := by
  obtain ⟨c0, c1, c2, y0, y1, y2, m, rfl, _, _, h0, h1, h2⟩ := open_agg3 Try.underlying39 (by kernel_rfl) (by kernel_rfl) hv h
  obtain ⟨x, e0, _, w0⟩ := DataW.trod_int Try.underlying3 h0
  obtain ⟨y, e1, _, w1⟩ := DataW.trod_int Try.underlying3 h1
  obtain ⟨z, e2, _, w2⟩ := DataW.trod_int Try.underlying3 h2
  simp at e0 e1 e2
  subst e0 e1 e2
  exact ⟨x, y, z, rfl, i64_of_wf w0, i64_of_wf w1, i64_of_wf w2⟩
end
end Go.Proofs.Ytenckggfgbkfnaa
