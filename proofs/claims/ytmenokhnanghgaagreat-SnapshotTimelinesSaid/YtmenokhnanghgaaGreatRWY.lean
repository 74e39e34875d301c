/- Arguments that are timelines, and plans of two numbers, opened. Arguments that are bytes, and contents of quads, opened. -/
import Derived.Test.YtmenokhnanghgaaGreatROW
import Derived.Test.YtmenokhnanghgaaGreatDLF
import Derived.Test.YtmenokhnanghgaaGreatSNM
set_option linter.unusedSimpArgs false
set_option linter.unusedVariables false
section
namespace Go.Proofs.YtmenokhnanghgaaGreat
open Go Go.ChangeShapes Go.WideShapes Go.ChangeAt Go.RowKit Go.Joins Go.Deep
set_option maxRecDepth 100000
section
variable {H : Type} {enc : TypeId × Value → H} {W : World} {base b0 : Nat} {sp : Nat → Bool} {held : Bool} {v : Value} {d : DataW H} {p : List MemPlace}
theorem el_chg (n : Nat) (cs : List Value) (x : DataW H × List MemPlace) (h : DataW.trod enc Tryz.prog W 0 sp held n 74 cs = some x) (hl : cs.length = 4) : ∃ b : Chg, cs = encG b ∧ True := by
  have key := el_struct Tryz.underlying74 (by kernel_rfl) (by
    intro j f hj
    rcases j with _ | _ | _ | _ | j
    · simp at hj; subst hj; rfl
    · simp at hj; subst hj; rfl
    · simp at hj; subst hj; rfl
    · simp at hj; subst hj; rfl
    · simp at hj) n cs x h
  have hk : ∀ j, j < 4 → ∃ z : Int, cs[j]? = some (.int .i64 z) ∧ I64 z := fun j hj => key j hj (by omega)
  clear key
  obtain ⟨z0, e0, _⟩ := hk 0 (by omega)
  obtain ⟨z1, e1, _⟩ := hk 1 (by omega)
  obtain ⟨z2, e2, _⟩ := hk 2 (by omega)
  obtain ⟨z3, e3, _⟩ := hk 3 (by omega)
  refine ⟨(z0, z1, z2, z3), ?_, trivial⟩
  refine List.ext_getElem? fun j => ?_
  rcases j with _ | _ | _ | _ | j
  · exact e0
  · exact e1
  · exact e2
  · exact e3
  · rw [List.getElem?_eq_none (by omega), List.getElem?_eq_none (by simp [encG])]
theorem el_frame (n : Nat) (cs : List Value) (x : DataW H × List MemPlace) (h : DataW.trod enc Tryz.prog W 0 sp held n 72 cs = some x) (hl : cs.length = 4) : ∃ b : Int × Bool × Hdl × Hdl, cs = encFr b ∧ ∃ l, ekFr.rel W b l := by
  match cs, hl with
  | [a, b, c, e], _ =>
    obtain ⟨m0, y0, h0⟩ := el_field Tryz.underlying72 (by kernel_rfl) h (j := 0) rfl rfl
    obtain ⟨m1, y1, h1⟩ := el_field Tryz.underlying72 (by kernel_rfl) h (j := 1) rfl rfl
    obtain ⟨m2, y2, h2⟩ := el_field Tryz.underlying72 (by kernel_rfl) h (j := 2) rfl rfl
    obtain ⟨m3, y3, h3⟩ := el_field Tryz.underlying72 (by kernel_rfl) h (j := 3) rfl rfl
    obtain ⟨z, e0, _, _⟩ := DataW.trod_int Tryz.underlying3 h0
    obtain ⟨u, e1, _⟩ := DataW.trod_bool Tryz.underlying4 h1
    obtain ⟨A, k, cp, l, e2, hc, _, hR, _⟩ := open_el (k := 3) Tryz.underlying23 (by kernel_rfl) (by omega) el_cell h2
    obtain ⟨A', k', cp', l', e3, hc', _, hR', _⟩ := open_el (k := 4) Tryz.underlying70 (by kernel_rfl) (by omega) el_chg h3
    simp only [List.cons.injEq, and_true] at e0 e1 e2 e3
    subst e0 e1 e2 e3
    exact ⟨(z, u, (A, k, cp), (A', k', cp')), rfl, (z, u, l, l'), rfl, rfl, ⟨hR, hc⟩, hR', hc'⟩
theorem open_tl (hv : Value.okWide Tryz.prog W .any b0 54 v) (h : DataW.Trod enc Tryz.prog W 0 sp held 54 v d p) : ∃ (key : Int) (A : Option Addr) (n c : Nat) (fs : List TFr), v = .agg #[.int .i64 key, .slice A n c] ∧ RdX ekFr W A n fs ∧ n ≤ c ∧ n ≤ 9223372036854775807 := by
  obtain ⟨c0, c1, y0, y1, k, rfl, _, _, h0, h1⟩ := open_agg2 Tryz.underlying54 (by kernel_rfl) (by kernel_rfl) hv h
  obtain ⟨z, e0, _, _⟩ := DataW.trod_int Tryz.underlying3 h0
  obtain ⟨A, n, c, xs0, e1, hc, hm, hS, hel⟩ := open_el (k := 4) Tryz.underlying52 (by kernel_rfl) (by omega) el_frame h1
  simp only [List.cons.injEq, and_true] at e0 e1
  subst e0 e1
  obtain ⟨bs, hbs⟩ := all_rel xs0 hel
  exact ⟨z, A, n, c, bs, rfl, ⟨xs0, hS, hbs⟩, hc, hm⟩
end
end Go.Proofs.YtmenokhnanghgaaGreat
end
section
namespace Go.Proofs.YtmenokhnanghgaaGreat
open Go Go.ChangeShapes Go.WideShapes Go.ChangeAt Go.RowKit Go.Joins Go.Deep
set_option maxRecDepth 100000
section
variable {H : Type} {enc : TypeId × Value → H} {W : World} {base b0 : Nat} {sp : Nat → Bool} {held : Bool} {v : Value} {d : DataW H} {p : List MemPlace}
theorem el_u8 (n : Nat) (cs : List Value) (x : DataW H × List MemPlace) (h : DataW.trod enc Tryz.prog W 0 sp held n 5 cs = some x) (hl : cs.length = 1) : ∃ b : Int, cs = encU b ∧ 0 ≤ b ∧ b ≤ 255 := by
  obtain ⟨z, e1, _, w1⟩ := DataW.trod_int Tryz.underlying5 h
  refine ⟨z, e1, ?_⟩
  simp [Lit.wf, IntKind.min, IntKind.max, IntKind.signed, IntKind.bits] at w1
  omega
theorem open_by (hv : Value.okWide Tryz.prog W .any b0 24 v) (h : DataW.Trod enc Tryz.prog W 0 sp held 24 v d p) : ∃ (A : Option Addr) (n c : Nat) (l : List Int), v = .slice A n c ∧ Rd encU 1 W A n l ∧ ByL l := by
  obtain ⟨A, n, c, rfl⟩ := okWide_slice Tryz.underlying24 hv
  obtain ⟨fuel, hf⟩ := h
  obtain ⟨A', n', c', xs0, hcs, hc, _, hR, hel⟩ := open_el (k := 1) Tryz.underlying24 (by kernel_rfl) (by omega) el_u8 hf
  simp [Value.cells] at hcs
  obtain ⟨rfl, rfl, rfl⟩ := hcs
  exact ⟨A, n, c, xs0, rfl, hR, hel⟩
end
end Go.Proofs.YtmenokhnanghgaaGreat
end
