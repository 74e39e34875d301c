/- What the rows' proofs share, in a seat without listed variables: the arguments' shapes, the last step. Arguments that are slices of patterns and of pairs, opened to lists; and an unsigned byte. Arguments that are rule trees, patterns no longer than their room, arrays of two bytes, opened. -/
import Derived.Test.YtellglbmbocgkaaGreatDoorRows
import Derived.Test.YtellglbmbocgkaaGreatDoorPLN
import Derived.Test.YtellglbmbocgkaaGreatDoorMEM
import Derived.ProofKit
import Derived.LaidMore
import Derived.OpenShut
import Derived.Stop.Joined
import Derived.Carry
import Derived.Lib.SmallJoins
import Derived.Deep.Slices
import Derived.Deep.Fields
import Derived.ChangeSame
set_option linter.unusedSimpArgs false
set_option linter.unusedVariables false
section
namespace Go.Proofs.YtellglbmbocgkaaGreatDoor
open Go Go.ChangeShapes Go.WideShapes Go.ChangeAt Go.RowKit Go.Joins
set_option maxRecDepth 100000
theorem own_ : ownKnob Tryz.prog.godebug = none := by kernel_rfl
theorem laidOut_ : laidOutB Tryz.prog = true := by kernel_rfl
theorem i64_of_wf {n : Int} (h : (Lit.int .i64 n).wf = true) : I64 n := by
  simp [Lit.wf, IntKind.min, IntKind.max, IntKind.signed, IntKind.bits] at h
  unfold I64; omega
theorem spot_of_cell {W : World} {x : Addr} {v : Value} (h : W.cell? (x.add 0) = some v) : x.spot = none ∧ x.block < W.heap.size := by
  have hx : x.add 0 = x := by simp [Addr.add]
  rw [hx] at h
  unfold World.cell? at h
  cases hh : W.heap[x.block]? with
  | none => rw [hh] at h; cases h
  | some o =>
    refine ⟨?_, (Array.getElem?_eq_some_iff.1 hh).1⟩
    rw [hh] at h
    cases o <;> simp at h
    exact h.1
section
variable {H : Type} {enc : TypeId × Value → H} {W : World} {base b0 : Nat} {sp : Nat → Bool} {held : Bool} {v : Value} {d : DataW H} {p : List MemPlace}
end
end Go.Proofs.YtellglbmbocgkaaGreatDoor
end
section
namespace Go.Proofs.YtellglbmbocgkaaGreatDoor
open Go Go.ChangeShapes Go.WideShapes Go.ChangeAt Go.RowKit Go.Joins Go.Deep
set_option maxRecDepth 100000
theorem list_of {β : Type} {P : Nat → β → Prop} : ∀ n : Nat, (∀ i, i < n → ∃ b, P i b) → ∃ l : List β, l.length = n ∧ ∀ (i : Nat) b, l[i]? = some b → P i b
  | 0, _ => ⟨[], rfl, fun i b h => by simp at h⟩
  | n + 1, h => by
    obtain ⟨l, h1, h2⟩ := list_of n fun i hi => h i (by omega)
    obtain ⟨b, hb⟩ := h n (by omega)
    refine ⟨l ++ [b], by simp [h1], fun i c hc => ?_⟩
    rcases Nat.lt_or_ge i n with hi | hi
    · rw [List.getElem?_append_left (by omega)] at hc
      exact h2 i c hc
    · rw [List.getElem?_append_right (by omega), h1] at hc
      have e : i - n = 0 := by
        have := (List.getElem?_eq_some_iff.1 hc).1
        simp at this; omega
      rw [e] at hc
      simp at hc
      subst hc
      obtain rfl : i = n := by omega
      exact hb
section
variable {H : Type} {enc : TypeId × Value → H} {W : World} {base b0 : Nat} {sp : Nat → Bool} {held : Bool} {v : Value} {d : DataW H} {p : List MemPlace}
theorem open_el {β : Type} {ec : β → List Value} {k : Nat} {R : β → Prop} {t e : TypeId} (ht : Tryz.prog.underlying t = some (.slice e)) (hC : Tryz.prog.cellsOf e = k) (hk0 : 0 < k)
    (hel : ∀ (n : Nat) (cs : List Value) (x : DataW H × List MemPlace), DataW.trod enc Tryz.prog W 0 sp held n e cs = some x → cs.length = k → ∃ b, cs = ec b ∧ R b)
    {fuel : Nat} {cs : List Value} {x : DataW H × List MemPlace} (hf : DataW.trod enc Tryz.prog W 0 sp held fuel t cs = some x) :
    ∃ (A : Option Addr) (n c : Nat) (l : List β), cs = [.slice A n c] ∧ n ≤ c ∧ n ≤ 9223372036854775807 ∧ Rd ec k W A n l ∧ ∀ b ∈ l, R b := by
  rcases open_slice ht hf with ⟨hcs, _⟩ | ⟨a, n, c, m, n', D, Pl, hcs, _, hl, hm, hmm, _, hi⟩
  · exact ⟨none, 0, 0, [], hcs, Nat.le_refl _, by omega, Rd.nil_, fun b hb => by cases hb⟩
  · have hmx : n ≤ 9223372036854775807 := by unfold maxLen at hm; omega
    have hnm : n ≤ m := by rw [hmm]; split <;> omega
    obtain ⟨l, h1, h2⟩ := list_of (P := fun i b => (∀ (j : Nat) (u : Value), (ec b)[j]? = some u → W.cell? (a.add (i * k + j)) = some u) ∧ (ec b).length = k ∧ R b) n fun i him => by
      obtain ⟨cs', hc, ht'⟩ := hi i (by omega)
      rw [hC] at hc
      obtain ⟨_, hcl, hat⟩ := World.cells?_some hc
      obtain ⟨b, rfl, hR⟩ := hel _ _ _ ht' hcl
      refine ⟨b, fun j u hu => ?_, hcl, hR⟩
      rw [← Go.Deep.add_add, hat j (by have := (List.getElem?_eq_some_iff.1 hu).1; omega), hu]
    refine ⟨some a, n, c, l, hcs, hl, hmx, ⟨h1, fun hn => ?_⟩, fun b hb => ?_⟩
    · have h0 : l[0]? = some (l[0]'(by omega)) := List.getElem?_eq_getElem (by omega)
      obtain ⟨g1, g2, _⟩ := h2 0 _ h0
      have h00 := g1 0 _ (List.getElem?_eq_getElem (by omega))
      rw [show 0 * k + 0 = 0 by omega] at h00
      obtain ⟨hs, hb⟩ := spot_of_cell h00
      obtain ⟨b, o, s⟩ := a
      simp only at hs hb
      subst hs
      refine ⟨b, o, rfl, hb, fun i y hy j u hu => ?_⟩
      have h1 := (h2 i y hy).1 j u hu
      have ha : (⟨b, o, none⟩ : Addr).add (i * k + j) = ⟨b, o + i * k + j, none⟩ := by
        unfold Addr.add
        split
        · rename_i h0
          simp only [Addr.mk.injEq, and_true, true_and]
          omega
        · simp only [Addr.mk.injEq, and_true, true_and]
          omega
      rw [ha] at h1
      exact h1
    · obtain ⟨i, hi', rfl⟩ := List.getElem_of_mem hb
      exact (h2 i _ (List.getElem?_eq_getElem hi')).2.2
theorem el_struct {t : TypeId} {fs : Array Field} (ht : Tryz.prog.underlying t = some (.struct fs)) (hone : oneCellFields Tryz.prog fs = true) (hint : ∀ (j : Nat) (f : Field), fs[j]? = some f → f.type = 3)
    (n : Nat) (cs : List Value) (x : DataW H × List MemPlace) (h : DataW.trod enc Tryz.prog W 0 sp held n t cs = some x) : ∀ j, j < fs.size → j < cs.length → ∃ z : Int, cs[j]? = some (.int .i64 z) ∧ I64 z := by
  intro j hj hl
  obtain ⟨ys, n', hn', hy, hlen, hyl, hf⟩ := DataW.trod_struct ht h
  have hjf : fs[j]? = some fs[j] := Array.getElem?_eq_getElem hj
  obtain ⟨ho, hk⟩ := hone_of hone j _ hjf
  have h1 := hf j _ hjf
  rw [ho, hk, hint j _ hjf] at h1
  have hone' : (cs.drop j).take 1 = [cs[j]] := by
    rw [List.drop_eq_getElem_cons hl]; rfl
  rw [hone', List.getElem?_eq_getElem (by omega)] at h1
  obtain ⟨z, e1, _, w1⟩ := DataW.trod_int Tryz.underlying3 h1
  simp only [List.cons.injEq, and_true] at e1
  exact ⟨z, by rw [List.getElem?_eq_getElem hl, e1], i64_of_wf w1⟩
theorem el_cell (n : Nat) (cs : List Value) (x : DataW H × List MemPlace) (h : DataW.trod enc Tryz.prog W 0 sp held n 79 cs = some x) (hl : cs.length = 3) : ∃ b : Int × Int × Int, cs = encC b ∧ True := by
  have key := el_struct Tryz.underlying79 (by kernel_rfl) (by
    intro j f hj
    rcases j with _ | _ | _ | j
    · simp at hj; subst hj; rfl
    · simp at hj; subst hj; rfl
    · simp at hj; subst hj; rfl
    · simp at hj) n cs x h
  have hk : ∀ j, j < 3 → ∃ z : Int, cs[j]? = some (.int .i64 z) ∧ I64 z := fun j hj => key j hj (by omega)
  clear key
  obtain ⟨z0, e0, _⟩ := hk 0 (by omega)
  obtain ⟨z1, e1, _⟩ := hk 1 (by omega)
  obtain ⟨z2, e2, _⟩ := hk 2 (by omega)
  refine ⟨(z0, z1, z2), ?_, trivial⟩
  refine List.ext_getElem? fun j => ?_
  rcases j with _ | _ | _ | j
  · exact e0
  · exact e1
  · exact e2
  · rw [List.getElem?_eq_none (by omega), List.getElem?_eq_none (by simp [encC])]
theorem all_rel {α β : Type} {K : EK α β} {w : World} : ∀ xs0 : List α, (∀ a ∈ xs0, ∃ b, K.rel w a b) → ∃ bs, K.All w xs0 bs := by
  intro xs0 h
  obtain ⟨l, h1, h2⟩ := list_of (P := fun i b => ∀ a, xs0[i]? = some a → K.rel w a b) xs0.length fun i hi => by
    obtain ⟨b, hb⟩ := h xs0[i] (List.getElem_mem hi)
    exact ⟨b, fun a ha => by rw [List.getElem?_eq_getElem hi] at ha; injection ha with ha; subst ha; exact hb⟩
  exact ⟨l, h1.symm, fun i a b ha hb => h2 i b hb a ha⟩
theorem open_u8 (hv : Value.okWide Tryz.prog W .any b0 5 v) (h : DataW.Trod enc Tryz.prog W base sp held 5 v d p) : ∃ x : Int, v = .int .u8 x ∧ 0 ≤ x ∧ x ≤ 255 := by
  obtain ⟨n, rfl, _, _, hw⟩ := open_int Tryz.underlying5 hv h
  refine ⟨n, rfl, ?_⟩
  simp [Lit.wf, IntKind.min, IntKind.max, IntKind.signed, IntKind.bits] at hw
  omega
end
end Go.Proofs.YtellglbmbocgkaaGreatDoor
end
section
namespace Go.Proofs.YtellglbmbocgkaaGreatDoor
open Go Go.ChangeShapes Go.WideShapes Go.ChangeAt Go.RowKit Go.Joins Go.Deep
set_option maxRecDepth 100000
section
variable {H : Type} {enc : TypeId × Value → H} {W : World} {base b0 : Nat} {sp : Nat → Bool} {held : Bool} {v : Value} {d : DataW H} {p : List MemPlace}
theorem el_int (n : Nat) (cs : List Value) (x : DataW H × List MemPlace) (h : DataW.trod enc Tryz.prog W 0 sp held n 3 cs = some x) (hl : cs.length = 1) : ∃ b : Int, cs = encI b ∧ True := by
  obtain ⟨z, e1, _, w1⟩ := DataW.trod_int Tryz.underlying3 h
  exact ⟨z, e1, trivial⟩
theorem el_point (n : Nat) (cs : List Value) (x : DataW H × List MemPlace) (h : DataW.trod enc Tryz.prog W 0 sp held n 139 cs = some x) (hl : cs.length = 2) : ∃ b : Int × Int, cs = encP b ∧ True := by
  have key := el_struct Tryz.underlying139 (by kernel_rfl) (by
    intro j f hj
    rcases j with _ | _ | j
    · simp at hj; subst hj; rfl
    · simp at hj; subst hj; rfl
    · simp at hj) n cs x h
  have hk : ∀ j, j < 2 → ∃ z : Int, cs[j]? = some (.int .i64 z) ∧ I64 z := fun j hj => key j hj (by omega)
  clear key
  obtain ⟨z0, e0, _⟩ := hk 0 (by omega)
  obtain ⟨z1, e1, _⟩ := hk 1 (by omega)
  refine ⟨(z0, z1), ?_, trivial⟩
  refine List.ext_getElem? fun j => ?_
  rcases j with _ | _ | j
  · exact e0
  · exact e1
  · rw [List.getElem?_eq_none (by omega), List.getElem?_eq_none (by simp [encP])]
theorem el_field {t : TypeId} {fs : Array Field} (ht : Tryz.prog.underlying t = some (.struct fs)) (hone : oneCellFields Tryz.prog fs = true) {n : Nat} {cs : List Value} {x : DataW H × List MemPlace} (h : DataW.trod enc Tryz.prog W 0 sp held n t cs = some x) {j : Nat} {f : Field} (hj : fs[j]? = some f) {c : Value} (hc : cs[j]? = some c) : ∃ (m : Nat) (y : DataW H × List MemPlace), DataW.trod enc Tryz.prog W 0 sp held m f.type [c] = some y := by
  obtain ⟨ys, n', hn', hy, hlen, hyl, hf⟩ := DataW.trod_struct ht h
  obtain ⟨ho, hk⟩ := hone_of hone j f hj
  have h1 := hf j f hj
  have hjl : j < cs.length := (List.getElem?_eq_some_iff.1 hc).1
  have hjf : j < fs.size := (Array.getElem?_eq_some_iff.1 hj).1
  rw [ho, hk] at h1
  have hone' : (cs.drop j).take 1 = [c] := by
    rw [List.drop_eq_getElem_cons hjl]
    rw [List.getElem?_eq_getElem hjl] at hc
    injection hc with hc
    rw [hc]; rfl
  rw [hone', List.getElem?_eq_getElem (by omega)] at h1
  exact ⟨n', _, h1⟩
theorem el_node (n : Nat) (cs : List Value) (x : DataW H × List MemPlace) (h : DataW.trod enc Tryz.prog W 0 sp held n 101 cs = some x) (hl : cs.length = 2) : ∃ b : Int × Option Addr × Nat × Nat, cs = encN b ∧ ∃ l, ekN.rel W b l := by
  match cs, hl with
  | [a, b], _ =>
    obtain ⟨m0, y0, h0⟩ := el_field Tryz.underlying101 (by kernel_rfl) h (j := 0) rfl rfl
    obtain ⟨m1, y1, h1⟩ := el_field Tryz.underlying101 (by kernel_rfl) h (j := 1) rfl rfl
    obtain ⟨z, e0, _, _⟩ := DataW.trod_int Tryz.underlying3 h0
    obtain ⟨A, k, c, l, e1, hc, _, hR, _⟩ := open_el (k := 1) Tryz.underlying54 (by kernel_rfl) (by omega) el_int h1
    simp only [List.cons.injEq, and_true] at e0 e1
    subst e0 e1
    exact ⟨(z, A, k, c), rfl, (z, l), rfl, hR, hc⟩
theorem open_tree (hv : Value.okWide Tryz.prog W .any b0 25 v) (h : DataW.Trod enc Tryz.prog W 0 sp held 25 v d p) : ∃ (st : Int) (A : Option Addr) (n c : Nat) (B : Option Addr) (m e : Nat) (Hl : List (Int × Int)) (Nl : List (Int × List Int)), v = .agg #[.int .i64 st, .slice A n c, .slice B m e] ∧ Rd encP 2 W A n Hl ∧ RdX ekN W B m Nl := by
  obtain ⟨c0, c1, c2, y0, y1, y2, k, rfl, _, _, h0, h1, h2⟩ := open_agg3 Tryz.underlying25 (by kernel_rfl) (by kernel_rfl) hv h
  obtain ⟨z, e0, _, _⟩ := DataW.trod_int Tryz.underlying3 h0
  obtain ⟨A, n, c, l, e1, _, _, hR, _⟩ := open_el (k := 2) Tryz.underlying22 (by kernel_rfl) (by omega) el_point h1
  obtain ⟨B, m, e, xs0, e2, _, _, hS, hel⟩ := open_el (k := 2) Tryz.underlying23 (by kernel_rfl) (by omega) el_node h2
  simp only [List.cons.injEq, and_true] at e0 e1 e2
  subst e0 e1 e2
  obtain ⟨bs, hbs⟩ := all_rel xs0 hel
  exact ⟨z, A, n, c, B, m, e, l, bs, rfl, hR, ⟨xs0, hS, hbs⟩⟩
theorem open_cpr (hv : Value.okWide Tryz.prog W .any b0 27 v) (h : DataW.Trod enc Tryz.prog W 0 sp held 27 v d p) : ∃ (A : Option Addr) (n c : Nat) (l : List (Int × Int × Int)), v = .slice A n c ∧ Rd encC 3 W A n l ∧ n ≤ c := by
  obtain ⟨A, n, c, rfl⟩ := okWide_slice Tryz.underlying27 hv
  obtain ⟨fuel, hf⟩ := h
  obtain ⟨A', n', c', l, hcs, hc, _, hR, _⟩ := open_el (k := 3) Tryz.underlying27 (by kernel_rfl) (by omega) el_cell hf
  simp [Value.cells] at hcs
  obtain ⟨rfl, rfl, rfl⟩ := hcs
  exact ⟨A, n, c, l, rfl, hR, hc⟩
end
end Go.Proofs.YtellglbmbocgkaaGreatDoor
end
