/- Arguments that are recipes, opened. -/
import Derived.Test.YtellglbmbocgkaaGreatDoorROW
import Derived.Test.YtellglbmbocgkaaGreatDoorColM
namespace Go.Proofs.YtellglbmbocgkaaGreatDoor
open Go Go.ChangeShapes Go.WideShapes Go.ChangeAt Go.RowKit Go.Joins Go.Deep
set_option linter.unusedSimpArgs false
set_option linter.unusedVariables false
set_option maxRecDepth 100000
section
variable {H : Type} {enc : TypeId × Value → H} {W : World} {base b0 : Nat} {sp : Nat → Bool} {held : Bool} {v : Value} {d : DataW H} {p : List MemPlace}
theorem el_motion (n : Nat) (cs : List Value) (x : DataW H × List MemPlace) (h : DataW.trod enc Tryz.prog W 0 sp held n 103 cs = some x) (hl : cs.length = 3) : ∃ b : Mot, cs = [.int .i64 b.1, .int .i64 b.2.1, .int .i64 b.2.2] := by
  have key := el_struct Tryz.underlying103 (by kernel_rfl) (by
    intro j f hj
    rcases j with _ | _ | _ | j
    · simp at hj; subst hj; rfl
    · simp at hj; subst hj; rfl
    · simp at hj; subst hj; rfl
    · simp at hj) n cs x h
  have hk : ∀ j, j < 3 → ∃ z : Int, cs[j]? = some (.int .i64 z) ∧ I64 z := fun j hj => key j hj (by omega)
  clear key
  obtain ⟨z0, e0, _⟩ := hk 0 (by omega)
  obtain ⟨z1, e1, _⟩ := hk 1 (by omega)
  obtain ⟨z2, e2, _⟩ := hk 2 (by omega)
  refine ⟨(z0, z1, z2), ?_⟩
  refine List.ext_getElem? fun j => ?_
  rcases j with _ | _ | _ | j
  · exact e0
  · exact e1
  · exact e2
  · rw [List.getElem?_eq_none (by omega), List.getElem?_eq_none (by simp)]
theorem el_shot (n : Nat) (cs : List Value) (x : DataW H × List MemPlace) (h : DataW.trod enc Tryz.prog W 0 sp held n 72 cs = some x) (hl : cs.length = 5) : ∃ b : ShtT, cs = encSt b ∧ True := by
  have key := el_struct Tryz.underlying72 (by kernel_rfl) (by
    intro j f hj
    rcases j with _ | _ | _ | _ | _ | j
    · simp at hj; subst hj; rfl
    · simp at hj; subst hj; rfl
    · simp at hj; subst hj; rfl
    · simp at hj; subst hj; rfl
    · simp at hj; subst hj; rfl
    · simp at hj) n cs x h
  have hk : ∀ j, j < 5 → ∃ z : Int, cs[j]? = some (.int .i64 z) ∧ I64 z := fun j hj => key j hj (by omega)
  clear key
  obtain ⟨z0, e0, _⟩ := hk 0 (by omega)
  obtain ⟨z1, e1, _⟩ := hk 1 (by omega)
  obtain ⟨z2, e2, _⟩ := hk 2 (by omega)
  obtain ⟨z3, e3, _⟩ := hk 3 (by omega)
  obtain ⟨z4, e4, _⟩ := hk 4 (by omega)
  refine ⟨(z0, z1, z2, z3, z4), ?_, trivial⟩
  refine List.ext_getElem? fun j => ?_
  rcases j with _ | _ | _ | _ | _ | j
  · exact e0
  · exact e1
  · exact e2
  · exact e3
  · exact e4
  · rw [List.getElem?_eq_none (by omega), List.getElem?_eq_none (by simp [encSt])]
theorem el_ship (n : Nat) (cs : List Value) (x : DataW H × List MemPlace) (h : DataW.trod enc Tryz.prog W 0 sp held n 105 cs = some x) (hl : cs.length = 4) : ∃ b : (Option Addr × Nat × Nat) × Mot, cs = encSh b ∧ ∃ s, ekSh.rel W b s := by
  obtain ⟨y0, y1, n', _, _, h0, h1⟩ := trod_struct2 Tryz.underlying105 h
  match cs, hl with
  | [u0, u1, u2, u3], _ =>
    have c0 : Tryz.prog.cellsOf 27 = 1 := by kernel_rfl
    have c1 : Tryz.prog.cellsOf 103 = 3 := by kernel_rfl
    change DataW.trod enc Tryz.prog W 0 sp held n' 27 (([u0, u1, u2, u3].drop 0).take (Tryz.prog.cellsOf 27)) = some y0 at h0
    change DataW.trod enc Tryz.prog W 0 sp held n' 103 (([u0, u1, u2, u3].drop 1).take (Tryz.prog.cellsOf 103)) = some y1 at h1
    rw [c0] at h0
    rw [c1] at h1
    obtain ⟨A, k, cp, l, e2, hc, _, hR, _⟩ := open_el (k := 3) Tryz.underlying27 (by kernel_rfl) (by omega) el_cell h0
    obtain ⟨m, e3⟩ := el_motion _ _ _ h1 rfl
    simp at e2 e3
    obtain ⟨rfl, rfl, rfl⟩ := e3
    subst e2
    exact ⟨((A, k, cp), m), rfl, (l, m), ⟨hR, hc⟩, rfl⟩
theorem open_rec (hv : Value.okWide Tryz.prog W .any b0 65 v) (h : DataW.Trod enc Tryz.prog W 0 sp held 65 v d p) : ∃ (A : Option Addr) (n c : Nat) (B : Option Addr) (m e : Nat) (G : Int) (D : Option Addr) (k f : Nat) (S : List ShpT) (L : List ShtT), v = .agg #[.slice A n c, .slice B m e, .int .i64 G, .slice D k f] ∧ RdX ekSh W A n S ∧ Rd encSt 5 W B m L := by
  obtain ⟨c0, c1, c2, c3, y0, y1, y2, y3, k, rfl, _, _, h0, h1, h2, h3⟩ := open_agg4 Tryz.underlying65 (by kernel_rfl) (by kernel_rfl) hv h
  obtain ⟨A, n, c, us, e0, _, _, hR, hel⟩ := open_el (k := 4) Tryz.underlying62 (by kernel_rfl) (by omega) el_ship h0
  obtain ⟨B, m, e, L, e1, _, _, hS, _⟩ := open_el (k := 5) Tryz.underlying63 (by kernel_rfl) (by omega) el_shot h1
  obtain ⟨z, e2, _, _⟩ := DataW.trod_int Tryz.underlying3 h2
  obtain ⟨D, q, f, _, e3, _, _, _, _⟩ := open_el (k := 3) Tryz.underlying27 (by kernel_rfl) (by omega) el_cell h3
  simp only [List.cons.injEq, and_true] at e0 e1 e2 e3
  subst e0 e1 e2 e3
  obtain ⟨bs, hbs⟩ := all_rel us hel
  exact ⟨A, n, c, B, m, e, z, D, q, f, bs, L, rfl, ⟨us, hR, hbs⟩, hS⟩
end
end Go.Proofs.YtellglbmbocgkaaGreatDoor
