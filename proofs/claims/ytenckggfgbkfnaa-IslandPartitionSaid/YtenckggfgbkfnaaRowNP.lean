/- Arguments that are slices of structs of integers, opened to lists. -/
import Derived.Test.YtenckggfgbkfnaaRowN
import Derived.Deep.Slices
import Derived.Deep.Fields
import Derived.ChangeSame
namespace Go.Proofs.Ytenckggfgbkfnaa
open Go Go.ChangeShapes Go.WideShapes Go.ChangeAt Go.RowKit Go.Joins Go.Deep
set_option linter.unusedSimpArgs false
set_option linter.unusedVariables false
set_option maxRecDepth 100000
section
variable {H : Type} {enc : TypeId × Value → H} {P : Program} {w : World} {base : Nat} {spare : Nat → Bool} {held : Bool}
theorem open_slice_fields {t e : TypeId} {fs : Array Field} {fuel : Nat} {cs : List Value} {x : DataW H × List MemPlace} (ht : P.underlying t = some (.slice e)) (he : P.underlying e = some (.struct fs))
    (hone : oneCellFields P fs = true) (hC : P.cellsOf e = fs.size) (h : DataW.trod enc P w base spare held fuel t cs = some x) :
    (cs = [.slice none 0 0] ∧ x = (.nil, [])) ∨
    ∃ (a : Addr) (len cap m : Nat) (D : Nat → DataW H) (Pl : Nat → List MemPlace), cs = [.slice (some a) len cap] ∧ base ≤ a.block ∧ len ≤ cap ∧ cap ≤ maxLen ∧ m = (if spare a.block then cap else len) ∧
      x = (.slice ((List.range len).map D) ((List.range (m - len)).map fun j => D (len + j)), MemPlace.row a (m * fs.size) ++ (List.range m).flatMap Pl) ∧
      ∀ i, i < m → ∃ (ys : List (DataW H × List MemPlace)) (n : Nat), D i = .agg (ys.map (·.1)) ∧ Pl i = ys.flatMap (·.2) ∧ ys.length = fs.size ∧
        ∀ (j : Nat) (f : Field), fs[j]? = some f → ∃ (v : Value) (y : DataW H × List MemPlace), w.cell? (a.add (i * fs.size + j)) = some v ∧ ys[j]? = some y ∧ DataW.trod enc P w base spare held n f.type [v] = some y := by
  rcases open_slice ht h with h0 | ⟨a, len, cap, m, n, D, Pl, hcs, hb, hl, hm, hmm, hx, hi⟩
  · exact .inl h0
  · refine .inr ⟨a, len, cap, m, D, Pl, hcs, hb, hl, hm, hmm, by rw [hC] at hx; exact hx, fun i him => ?_⟩
    obtain ⟨cs', hc, ht'⟩ := hi i him
    rw [hC] at hc
    obtain ⟨ys, n', hn', hy, hlen, hyl, hf⟩ := DataW.trod_struct he ht'
    obtain ⟨_, hcl, hat⟩ := World.cells?_some hc
    simp only [Prod.mk.injEq] at hy
    refine ⟨ys, n', hy.1, hy.2, hyl, fun j f hj => ?_⟩
    obtain ⟨ho, hk⟩ := hone_of hone j f hj
    have hjl : j < fs.size := (Array.getElem?_eq_some_iff.1 hj).1
    have hcell := hat j hjl
    have hv : cs'[j]? = some (cs'[j]'(by omega)) := List.getElem?_eq_getElem (by omega)
    have h1 := hf j f hj
    rw [ho, hk] at h1
    have hone' : (cs'.drop j).take 1 = [cs'[j]'(by omega)] := by
      rw [List.drop_eq_getElem_cons (by omega)]
      rfl
    rw [hone'] at h1
    have hys : ys[j]? = some (ys[j]'(by omega)) := List.getElem?_eq_getElem (by omega)
    refine ⟨_, _, ?_, hys, h1.trans hys⟩
    rw [← Go.Deep.add_add, hcell, hv]
end
section
variable {H : Type} {enc : TypeId × Value → H} {W : World} {base b0 : Nat} {sp : Nat → Bool} {held : Bool} {v : Value} {d : DataW H} {p : List MemPlace}
/-- A slice of structs of k integers: each element's numbers. -/
theorem open_nums {t e : TypeId} {fs : Array Field} {k : Nat} (ht : Try.prog.underlying t = some (.slice e)) (he : Try.prog.underlying e = some (.struct fs)) (hone : oneCellFields Try.prog fs = true) (hC : Try.prog.cellsOf e = fs.size) (hk : fs.size = k) (hk0 : 0 < k)
    (hint : ∀ (j : Nat) (f : Field), fs[j]? = some f → f.type = 3)
    (hv : Value.okWide Try.prog W .any b0 t v) (h : DataW.Trod enc Try.prog W 0 sp held t v d p) : ∃ (A : Option Addr) (n c : Nat) (g : Nat → Nat → Int), v = .slice A n c ∧ n ≤ 9223372036854775807 ∧
      (0 < n → ∃ b o, A = some ⟨b, o, none⟩ ∧ b < W.heap.size ∧ ∀ i j, i < n → j < k → W.cell? ⟨b, o + i * k + j, none⟩ = some (.int .i64 (g i j))) ∧ ∀ i j, i < n → j < k → I64 (g i j) := by
  obtain ⟨A, n, c, rfl⟩ := okWide_slice ht hv
  obtain ⟨fuel, hf⟩ := h
  rcases open_slice_fields ht he hone hC hf with ⟨hcs, _⟩ | ⟨x, len, cap, m, D, Pl, hcs, _, hl, hm, hmm, _, hel⟩
  · simp [Value.cells] at hcs
    obtain ⟨rfl, rfl, rfl⟩ := hcs
    exact ⟨_, _, _, fun _ _ => 0, rfl, by omega, fun hn => absurd hn (by omega), fun i j hi => absurd hi (by omega)⟩
  · simp [Value.cells] at hcs
    obtain ⟨rfl, rfl, rfl⟩ := hcs
    have hmx : n ≤ 9223372036854775807 := by unfold maxLen at hm; omega
    have hnm : n ≤ m := by rw [hmm]; split <;> omega
    have key : ∀ i j, i < n → j < k → ∃ z : Int, W.cell? (x.add (i * k + j)) = some (.int .i64 z) ∧ I64 z := by
      intro i j hi hj
      obtain ⟨ys, n', _, _, _, hfld⟩ := hel i (by omega)
      have hjs : j < fs.size := by omega
      obtain ⟨u, y, hcell, _, htr⟩ := hfld j fs[j] (Array.getElem?_eq_getElem hjs)
      rw [hint j fs[j] (Array.getElem?_eq_getElem hjs)] at htr
      obtain ⟨z, e1, _, w1⟩ := DataW.trod_int Try.underlying3 htr
      rw [hk] at hcell
      simp at e1
      subst e1
      exact ⟨z, hcell, i64_of_wf w1⟩
    classical
    have hg : ∃ g : Nat → Nat → Int, ∀ i j, i < n → j < k → W.cell? (x.add (i * k + j)) = some (.int .i64 (g i j)) ∧ I64 (g i j) := by
      refine ⟨fun i j => if hij : i < n ∧ j < k then Classical.choose (key i j hij.1 hij.2) else 0, fun i j hi hj => ?_⟩
      simp only [dif_pos (show i < n ∧ j < k from ⟨hi, hj⟩)]
      exact Classical.choose_spec (key i j hi hj)
    obtain ⟨g, hg⟩ := hg
    refine ⟨_, _, _, g, rfl, hmx, fun hn => ?_, fun i j hi hj => (hg i j hi hj).2⟩
    have h00 := (hg 0 0 hn hk0).1
    rw [show 0 * k + 0 = 0 by omega] at h00
    obtain ⟨hs, hb⟩ := spot_of_cell h00
    obtain ⟨b, o, s⟩ := x
    simp only at hs hb
    subst hs
    refine ⟨b, o, rfl, hb, fun i j hi hj => ?_⟩
    have h1 := (hg i j hi hj).1
    have ha : (⟨b, o, none⟩ : Addr).add (i * k + j) = ⟨b, o + i * k + j, none⟩ := by
      unfold Addr.add
      split
      · rename_i h0
        simp only [Addr.mk.injEq, and_true, true_and]
        omega
      · simp only [Addr.mk.injEq, and_true, true_and]
        omega
    rw [ha] at h1
    exact h1
end
end Go.Proofs.Ytenckggfgbkfnaa
