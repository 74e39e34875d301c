/- Arguments that are bytes, and contents of quads, opened. -/
import Derived.Test.YtmenokhnanghgaaGreatROW
import Derived.Test.YtmenokhnanghgaaGreatDLF
import Derived.Test.YtmenokhnanghgaaGreatSNM
set_option linter.unusedSimpArgs false
set_option linter.unusedVariables false
section
namespace Go.Proofs.YtmenokhnanghgaaGreat
open Go Go.ChangeShapes Go.WideShapes Go.ChangeAt Go.RowKit Go.Joins Go.Deep
set_option maxRecDepth 100000
section
variable {H : Type} {enc : TypeId × Value → H} {W : World} {base b0 : Nat} {sp : Nat → Bool} {held : Bool} {v : Value} {d : DataW H} {p : List MemPlace}
theorem el_u8 (n : Nat) (cs : List Value) (x : DataW H × List MemPlace) (h : DataW.trod enc Tryz.prog W 0 sp held n 5 cs = some x) (hl : cs.length = 1) : ∃ b : Int, cs = encU b ∧ 0 ≤ b ∧ b ≤ 255 := by
  obtain ⟨z, e1, _, w1⟩ := DataW.trod_int Tryz.underlying5 h
  refine ⟨z, e1, ?_⟩
  simp [Lit.wf, IntKind.min, IntKind.max, IntKind.signed, IntKind.bits] at w1
  omega
theorem open_by (hv : Value.okWide Tryz.prog W .any b0 24 v) (h : DataW.Trod enc Tryz.prog W 0 sp held 24 v d p) : ∃ (A : Option Addr) (n c : Nat) (l : List Int), v = .slice A n c ∧ Rd encU 1 W A n l ∧ ByL l := by
  obtain ⟨A, n, c, rfl⟩ := okWide_slice Tryz.underlying24 hv
  obtain ⟨fuel, hf⟩ := h
  obtain ⟨A', n', c', xs0, hcs, hc, _, hR, hel⟩ := open_el (k := 1) Tryz.underlying24 (by kernel_rfl) (by omega) el_u8 hf
  simp [Value.cells] at hcs
  obtain ⟨rfl, rfl, rfl⟩ := hcs
  exact ⟨A, n, c, xs0, rfl, hR, hel⟩
theorem el_qd (n : Nat) (cs : List Value) (x : DataW H × List MemPlace) (h : DataW.trod enc Tryz.prog W 0 sp held n 69 cs = some x) (hl : cs.length = 4) : ∃ b : Qd, cs = encQd b ∧ True := by
  obtain ⟨ys, n', hn', hy, hlen, hyl, hf⟩ := DataW.trod_struct Tryz.underlying69 h
  have h1 := hf 0 _ rfl
  have hc4 : Tryz.prog.cellsOf 67 = 4 := by kernel_rfl
  have hd : (cs.drop 0).take 4 = cs := by rw [List.drop_zero]; exact List.take_of_length_le (by omega)
  have h2 : DataW.trod enc Tryz.prog W 0 sp held n' 67 cs = ys[0]? := by
    have e : (List.take (Tryz.prog.cellsOf 67) (List.drop 0 cs)) = cs := by rw [hc4]; exact hd
    rw [← e]; exact h1
  have hyl' : 0 < ys.length := by rw [hyl]; decide
  rw [List.getElem?_eq_getElem hyl'] at h2
  obtain ⟨xs, m, _, _, _, hn, hel⟩ := DataW.trod_array Tryz.underlying67 h2
  have hc1 : Tryz.prog.cellsOf 3 = 1 := by kernel_rfl
  have l0 := hel 0 (by omega)
  have l1 := hel 1 (by omega)
  have l2 := hel 2 (by omega)
  have l3 := hel 3 (by omega)
  rw [List.getElem?_eq_getElem (by omega)] at l0 l1 l2 l3
  rw [hc1] at l0 l1 l2 l3
  obtain ⟨x, e0, _, _⟩ := DataW.trod_int Tryz.underlying3 l0
  obtain ⟨y, e1, _, _⟩ := DataW.trod_int Tryz.underlying3 l1
  obtain ⟨z, e2, _, _⟩ := DataW.trod_int Tryz.underlying3 l2
  obtain ⟨u, e3, _, _⟩ := DataW.trod_int Tryz.underlying3 l3
  match cs, hl with
  | [a, b, c, e], _ =>
    simp at e0 e1 e2 e3
    subst e0 e1 e2 e3
    exact ⟨(x, y, z, u), rfl, trivial⟩
theorem open_qds (hv : Value.okWide Tryz.prog W .any b0 46 v) (h : DataW.Trod enc Tryz.prog W 0 sp held 46 v d p) : ∃ (st : Int) (A : Option Addr) (n c : Nat) (Q : List Qd), v = .agg #[.int .i64 st, .slice A n c] ∧ Rd encQd 4 W A n Q := by
  obtain ⟨c0, c1, y0, y1, k, rfl, _, _, h0, h1⟩ := open_agg2 Tryz.underlying46 (by kernel_rfl) (by kernel_rfl) hv h
  obtain ⟨z, e0, _, _⟩ := DataW.trod_int Tryz.underlying3 h0
  obtain ⟨A, n, c, xs0, e1, hc, hm, hS, hel⟩ := open_el (k := 4) Tryz.underlying44 (by kernel_rfl) (by omega) el_qd h1
  simp only [List.cons.injEq, and_true] at e0 e1
  subst e0 e1
  exact ⟨z, A, n, c, xs0, rfl, hS⟩
end
end Go.Proofs.YtmenokhnanghgaaGreat
end
