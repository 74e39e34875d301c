/- What the rows' proofs share: the listed variable, the arguments' shapes, the last step. Arguments that are slices of structs of integers, opened to lists. Arguments that are cells, slices of cells and patterns, opened to lists (rows with listed variables). Arguments that are rule trees, search problems, patterns no longer than their room, opened (rows with listed variables). -/
import Derived.Test.YtnhapgbjaeaamaaDoorRows
import Derived.Test.YtnhapgbjaeaamaaDoorSYM
import Derived.Test.YtnhapgbjaeaamaaDoorMEM
import Derived.ProofKit
import Derived.LaidMore
import Derived.OpenShut
import Derived.Stop.Joined
import Derived.Carry
import Derived.Lib.SmallJoins
import Derived.Deep.Slices
import Derived.Deep.Fields
import Derived.ChangeSame
set_option linter.unusedSimpArgs false
set_option linter.unusedVariables false
section
namespace Go.Proofs.YtnhapgbjaeaamaaDoor
open Go Go.ChangeShapes Go.WideShapes Go.ChangeAt Go.RowKit Go.Joins
set_option maxRecDepth 100000
theorem own_ : ownKnob Tryd.prog.godebug = none := by kernel_rfl
theorem laidOut_ : laidOutB Tryd.prog = true := by kernel_rfl
theorem gMat : Tryd.prog.globalNamed "cellular/symmetry.matrices" = some 0 := by kernel_rfl
theorem tMat : (Tryd.prog.globals[0]?).map (·.type) = some 102 := by kernel_rfl
/-- The list of the rows' listed variables. -/
def laidL : List (String × DataW Unit) := [("cellular/symmetry.matrices", Rows.laid_cellular_symmetry_matrices)]
theorem door_met (os : Os) (args : Array Value) : laidMetH Tryd.prog laidL ((World.doorLaid Tryd.prog 400 os).forCall (fun _ _ => 0) ⟨#[], args, []⟩).memory :=
  laidMetH_of_parts3 (fuel := 8) (laidMet_of_run' 8 (by kernel_rfl) (by kernel_rfl)) (by kernel_rfl) (by kernel_rfl)
/-- What a row of the table reads as. -/
def matD {H : Type} (r : Nat) : DataW H := .agg [.lit (.int .i64 (mat r 0)), .lit (.int .i64 (mat r 1)), .lit (.int .i64 (mat r 2)), .lit (.int .i64 (mat r 3))]
theorem laid_mat : ∀ r, r < 8 → ∀ xs : List (DataW Unit), Rows.laid_cellular_symmetry_matrices = .agg xs → xs[r]? = some (matD r) := by
  intro r hr xs h
  injection h with h
  subst h
  have hc : r = 0 ∨ r = 1 ∨ r = 2 ∨ r = 3 ∨ r = 4 ∨ r = 5 ∨ r = 6 ∨ r = 7 := by omega
  rcases hc with rfl | rfl | rfl | rfl | rfl | rfl | rfl | rfl <;> rfl
theorem matD_at {r j : Nat} (hj : j < 4) {xs : List (DataW Unit)} (h : matD r = .agg xs) : xs[j]? = some (.lit (.int .i64 (mat r j))) := by
  injection h with h
  subst h
  have hc : j = 0 ∨ j = 1 ∨ j = 2 ∨ j = 3 := by omega
  rcases hc with rfl | rfl | rfl | rfl <;> rfl
theorem get_of_slice {cs : List Value} {i : Nat} {v : Value} (h : (cs.drop i).take 1 = [v]) : cs[i]? = some v := by
  have := congrArg (·[0]?) h
  simpa using this
theorem slice_slice {cs : List Value} (r j : Nat) (hj : j < 4) : ((((cs.drop (r * 4)).take 4).drop (j * 1)).take 1) = (cs.drop (r * 4 + j)).take 1 := by
  rw [List.drop_take, List.take_take, List.drop_drop, Nat.mul_one]
  congr 1
  omega
theorem mx_of_laid {W : World} (h : laidMetH Tryd.prog laidL W) : Mx W := by
  rw [MakeChecks.laidMetH_plain _ _ _ (by kernel_rfl)] at h
  obtain ⟨ps, ⟨g0, t0, cs0, f0, p0, q0, hg0, ht0, hv0, hd0, _, _⟩, _⟩ := h
  obtain rfl := Option.some.inj (gMat.symm.trans hg0)
  obtain rfl := Option.some.inj (tMat.symm.trans ht0)
  have c1 : Tryd.prog.cellsOf 3 = 1 := by kernel_rfl
  have c4 : Tryd.prog.cellsOf 101 = 4 := by kernel_rfl
  obtain ⟨xs, m, _, hx, _, hn, hel⟩ := DataW.trod_array Tryd.underlying102 hd0
  simp only [Prod.mk.injEq] at hx
  have key : ∀ r j, r < 8 → j < 4 → cs0.toList[r * 4 + j]? = some (.int .i64 (mat r j)) := by
    intro r j hr hj
    have hrow := hel r hr
    have hxr := laid_mat r hr _ hx.1
    rw [List.getElem?_map] at hxr
    cases hy : xs[r]? with
    | none => rw [hy] at hxr; cases hxr
    | some y =>
      rw [hy] at hrow hxr
      simp only [Option.map_some, Option.some.injEq] at hxr
      rw [c4] at hrow
      obtain ⟨ys, m1, _, hy1, _, hn1, hel1⟩ := DataW.trod_array Tryd.underlying101 hrow
      have e0 : y.1 = .agg (ys.map (·.1)) := by rw [hy1]
      rw [hxr] at e0
      have hyj := matD_at hj e0
      rw [List.getElem?_map] at hyj
      have hcell := hel1 j hj
      cases hz : ys[j]? with
      | none => rw [hz] at hyj; cases hyj
      | some z =>
        rw [hz] at hcell hyj
        simp only [Option.map_some, Option.some.injEq] at hyj
        rw [c1, slice_slice r j hj] at hcell
        obtain ⟨n, e1, e2, _⟩ := DataW.trod_int Tryd.underlying3 hcell
        have e3 : z.1 = .lit (.int .i64 n) := by rw [e2]
        rw [hyj] at e3
        injection e3 with e3
        injection e3 with _ e3
        rw [e3]
        exact get_of_slice e1
  have hcell : ∀ r j, r < 8 → j < 4 → W.cell? ⟨0, r * 4 + j, none⟩ = some (.int .i64 (mat r j)) := by
    intro r j hr hj
    rw [World.var?_cell hg0 hv0 (r * 4 + j)]
    have := key r j hr hj
    rwa [Array.getElem?_toList] at this
  refine ⟨?_, hcell⟩
  have h0 := hcell 0 0 (by omega) (by omega)
  rcases Nat.lt_or_ge 0 W.heap.size with h | h
  · exact h
  · exfalso
    have hn : W.heap[0]? = none := Array.getElem?_eq_none h
    simp [World.cell?, hn] at h0
theorem i64_of_wf {n : Int} (h : (Lit.int .i64 n).wf = true) : I64 n := by
  simp [Lit.wf, IntKind.min, IntKind.max, IntKind.signed, IntKind.bits] at h
  unfold I64; omega
theorem spot_of_cell {W : World} {x : Addr} {v : Value} (h : W.cell? (x.add 0) = some v) : x.spot = none ∧ x.block < W.heap.size := by
  have hx : x.add 0 = x := by simp [Addr.add]
  rw [hx] at h
  unfold World.cell? at h
  cases hh : W.heap[x.block]? with
  | none => rw [hh] at h; cases h
  | some o =>
    refine ⟨?_, (Array.getElem?_eq_some_iff.1 hh).1⟩
    rw [hh] at h
    cases o <;> simp at h
    exact h.1
theorem post_of_below {H : Type} {enc : TypeId × Value → H} {P : Program} {f : Func} {s : ChangeSpec} {apart fresh handsOn again : Bool} {W W' : World} {args : Array Value} {v : Value} {ds gs : List (DataW H)} {before pa pv : List MemPlace}
    (hW : DataW.Whole enc P f.params.toList s.vars apart W args.toList ds gs before)
    (hres : ∀ (b : Nat) (sp : Nat → Bool) (hd : Bool), DataW.TrodAll enc P W' b sp hd f.resultTypes.toList (v.resultList f.resultTypes.size) (s.fn H (ds ++ gs)).results [])
    (hargs : ∀ sp : Nat → Bool, (∀ p ∈ before, sp p.block = true) → DataW.TrodAll enc P W' 0 sp true f.params.toList args.toList (s.fn H (ds ++ gs)).args pa)
    (hvars : ∀ sp : Nat → Bool, (∀ p ∈ before, sp p.block = true) → DataW.TrodVars enc P W' sp s.vars (s.fn H (ds ++ gs)).vars pv)
    (hps : before = pa ++ pv) (hb : Below W.heap.size W W')
    (hok : ∀ (j : Nat) (t : TypeId) (r : Value), f.resultTypes[j]? = some t → (v.resultList f.resultTypes.size)[j]? = some r → Value.okWide P W' .any 0 t r) :
    s.post enc P f apart fresh handsOn again W args v W' := by
  have hlt : ∀ p ∈ before, p.block < W.heap.size := fun p hp => hW.lt p hp
  have hold : ∀ p ∈ before, (fun b => decide (b < W.heap.size)) p.block = true := fun p hp => by simpa using hlt p hp
  refine ⟨ds, gs, before, [], pa, pv, hW, hres _ _ _, hargs _ hold, hvars _ hold, World.keptBut_mono (fun p hp => ⟨hp, ?_⟩) (hb.frame (· ∈ before)), fun _ => ?_⟩
  · rw [hps, List.mem_append] at hp
    exact Or.inr hp
  · obtain ⟨_, _, _, _, _, hz, hn⟩ := hW
    refine ⟨hok, _, _, ([] ++ pa) ++ pv, ⟨[] ++ pa, pv, trodAll_append (hargs _ (fun _ _ => rfl)) (hres _ _ _), hvars _ (fun _ _ => rfl), rfl, ?_, ?_⟩, ?_⟩
    · intro b off hp
      have hin : MemPlace.cell b off ∈ before := by rw [hps]; simpa using hp
      rw [hb.frozen (hlt _ hin)]
      exact hz b off hin
    · intro ha
      have := hn ha
      rw [hps] at this
      simpa using this
    · intro p hp _
      rw [hps]
      simpa using hp
section
variable {H : Type} {enc : TypeId × Value → H} {W : World} {base b0 : Nat} {sp : Nat → Bool} {held : Bool} {v : Value} {d : DataW H} {p : List MemPlace}
theorem open_i (hv : Value.okWide Tryd.prog W .any b0 3 v) (h : DataW.Trod enc Tryd.prog W base sp held 3 v d p) : ∃ n : Int, v = .int .i64 n ∧ I64 n := by
  obtain ⟨n, rfl, _, _, hw⟩ := open_int Tryd.underlying3 hv h
  exact ⟨n, rfl, i64_of_wf hw⟩
theorem open_p (hv : Value.okWide Tryd.prog W .any b0 56 v) (h : DataW.Trod enc Tryd.prog W base sp held 56 v d p) : ∃ x y : Int, v = .agg #[.int .i64 x, .int .i64 y] ∧ I64 x ∧ I64 y := by
  obtain ⟨c0, c1, y0, y1, m, rfl, _, _, h0, h1⟩ := open_agg2 Tryd.underlying56 (by kernel_rfl) (by kernel_rfl) hv h
  obtain ⟨x, e0, _, w0⟩ := DataW.trod_int Tryd.underlying3 h0
  obtain ⟨y, e1, _, w1⟩ := DataW.trod_int Tryd.underlying3 h1
  simp at e0 e1
  subst e0 e1
  exact ⟨x, y, rfl, i64_of_wf w0, i64_of_wf w1⟩
theorem open_b (hv : Value.okWide Tryd.prog W .any b0 73 v) (h : DataW.Trod enc Tryd.prog W base sp held 73 v d p) : ∃ x y z u : Int, v = .agg #[.int .i64 x, .int .i64 y, .int .i64 z, .int .i64 u] ∧ I64 x ∧ I64 y ∧ I64 z ∧ I64 u := by
  obtain ⟨c0, c1, c2, c3, y0, y1, y2, y3, m, rfl, _, _, h0, h1, h2, h3⟩ := open_agg4 Tryd.underlying73 (by kernel_rfl) (by kernel_rfl) hv h
  obtain ⟨x, e0, _, w0⟩ := DataW.trod_int Tryd.underlying3 h0
  obtain ⟨y, e1, _, w1⟩ := DataW.trod_int Tryd.underlying3 h1
  obtain ⟨z, e2, _, w2⟩ := DataW.trod_int Tryd.underlying3 h2
  obtain ⟨u, e3, _, w3⟩ := DataW.trod_int Tryd.underlying3 h3
  simp at e0 e1 e2 e3
  subst e0 e1 e2 e3
  exact ⟨x, y, z, u, rfl, i64_of_wf w0, i64_of_wf w1, i64_of_wf w2, i64_of_wf w3⟩
theorem open_is (hv : Value.okWide Tryd.prog W .any b0 26 v) (h : DataW.Trod enc Tryd.prog W 0 sp held 26 v d p) : ∃ (A : Option Addr) (n c : Nat) (l : List Int), v = .slice A n c ∧ Rd encI 1 W A n l ∧ n ≤ 9223372036854775807 := by
  obtain ⟨A, n, c, rfl⟩ := okWide_slice Tryd.underlying26 hv
  obtain ⟨fuel, hf⟩ := h
  rcases open_ints Tryd.underlying26 Tryd.underlying3 (by kernel_rfl) hf with ⟨hcs, _⟩ | ⟨x, l, c', zs, hcs, _, hl, hm, hz, _, hcell, _⟩
  · simp [Value.cells] at hcs
    obtain ⟨rfl, rfl, rfl⟩ := hcs
    exact ⟨_, _, _, [], rfl, Rd.nil_, by omega⟩
  · simp [Value.cells] at hcs
    obtain ⟨rfl, rfl, rfl⟩ := hcs
    have hmx : c ≤ 9223372036854775807 := by unfold maxLen at hm; omega
    have hln : n ≤ zs.length := by rw [hz]; split <;> omega
    refine ⟨_, _, _, zs.take n, rfl, ⟨by simp [hln], fun hn => ?_⟩, by omega⟩
    obtain ⟨hs, hb⟩ := spot_of_cell (hcell 0 (by omega))
    obtain ⟨b, o, s⟩ := x
    simp only at hs hb
    subst hs
    refine ⟨b, o, rfl, hb, fun i y hi j u hu => ?_⟩
    have hin : i < n := by
      have := (List.getElem?_eq_some_iff.1 hi).1
      rw [List.length_take] at this; omega
    rw [List.getElem?_take, if_pos hin] at hi
    have hc := hcell i (by omega)
    have hg : zs.getD i 0 = y := by rw [List.getD_eq_getElem?_getD, hi]; rfl
    rw [hg] at hc
    have hj : j = 0 := by
      have := (List.getElem?_eq_some_iff.1 hu).1
      simp [encI] at this; omega
    subst hj
    have hu' : u = .int .i64 y := by simpa [encI] using hu.symm
    rw [hu', Nat.mul_one, Nat.add_zero]
    have ha : (⟨b, o, none⟩ : Addr).add i = ⟨b, o + i, none⟩ := by
      unfold Addr.add
      split
      · rename_i h0; subst h0; rfl
      · rfl
    rw [ha] at hc
    exact hc
end
end Go.Proofs.YtnhapgbjaeaamaaDoor
end
section
namespace Go.Proofs.YtnhapgbjaeaamaaDoor
open Go Go.ChangeShapes Go.WideShapes Go.ChangeAt Go.RowKit Go.Joins Go.Deep
set_option maxRecDepth 100000
section
variable {H : Type} {enc : TypeId × Value → H} {P : Program} {w : World} {base : Nat} {spare : Nat → Bool} {held : Bool}
theorem open_slice_fields {t e : TypeId} {fs : Array Field} {fuel : Nat} {cs : List Value} {x : DataW H × List MemPlace} (ht : P.underlying t = some (.slice e)) (he : P.underlying e = some (.struct fs))
    (hone : oneCellFields P fs = true) (hC : P.cellsOf e = fs.size) (h : DataW.trod enc P w base spare held fuel t cs = some x) :
    (cs = [.slice none 0 0] ∧ x = (.nil, [])) ∨
    ∃ (a : Addr) (len cap m : Nat) (D : Nat → DataW H) (Pl : Nat → List MemPlace), cs = [.slice (some a) len cap] ∧ base ≤ a.block ∧ len ≤ cap ∧ cap ≤ maxLen ∧ m = (if spare a.block then cap else len) ∧
      x = (.slice ((List.range len).map D) ((List.range (m - len)).map fun j => D (len + j)), MemPlace.row a (m * fs.size) ++ (List.range m).flatMap Pl) ∧
      ∀ i, i < m → ∃ (ys : List (DataW H × List MemPlace)) (n : Nat), D i = .agg (ys.map (·.1)) ∧ Pl i = ys.flatMap (·.2) ∧ ys.length = fs.size ∧
        ∀ (j : Nat) (f : Field), fs[j]? = some f → ∃ (v : Value) (y : DataW H × List MemPlace), w.cell? (a.add (i * fs.size + j)) = some v ∧ ys[j]? = some y ∧ DataW.trod enc P w base spare held n f.type [v] = some y := by
  rcases open_slice ht h with h0 | ⟨a, len, cap, m, n, D, Pl, hcs, hb, hl, hm, hmm, hx, hi⟩
  · exact .inl h0
  · refine .inr ⟨a, len, cap, m, D, Pl, hcs, hb, hl, hm, hmm, by rw [hC] at hx; exact hx, fun i him => ?_⟩
    obtain ⟨cs', hc, ht'⟩ := hi i him
    rw [hC] at hc
    obtain ⟨ys, n', hn', hy, hlen, hyl, hf⟩ := DataW.trod_struct he ht'
    obtain ⟨_, hcl, hat⟩ := World.cells?_some hc
    simp only [Prod.mk.injEq] at hy
    refine ⟨ys, n', hy.1, hy.2, hyl, fun j f hj => ?_⟩
    obtain ⟨ho, hk⟩ := hone_of hone j f hj
    have hjl : j < fs.size := (Array.getElem?_eq_some_iff.1 hj).1
    have hcell := hat j hjl
    have hv : cs'[j]? = some (cs'[j]'(by omega)) := List.getElem?_eq_getElem (by omega)
    have h1 := hf j f hj
    rw [ho, hk] at h1
    have hone' : (cs'.drop j).take 1 = [cs'[j]'(by omega)] := by
      rw [List.drop_eq_getElem_cons (by omega)]
      rfl
    rw [hone'] at h1
    have hys : ys[j]? = some (ys[j]'(by omega)) := List.getElem?_eq_getElem (by omega)
    refine ⟨_, _, ?_, hys, h1.trans hys⟩
    rw [← Go.Deep.add_add, hcell, hv]
end
section
variable {H : Type} {enc : TypeId × Value → H} {W : World} {base b0 : Nat} {sp : Nat → Bool} {held : Bool} {v : Value} {d : DataW H} {p : List MemPlace}
/-- A slice of structs of k integers: each element's numbers. -/
theorem open_nums {t e : TypeId} {fs : Array Field} {k : Nat} (ht : Tryd.prog.underlying t = some (.slice e)) (he : Tryd.prog.underlying e = some (.struct fs)) (hone : oneCellFields Tryd.prog fs = true) (hC : Tryd.prog.cellsOf e = fs.size) (hk : fs.size = k) (hk0 : 0 < k)
    (hint : ∀ (j : Nat) (f : Field), fs[j]? = some f → f.type = 3)
    (hv : Value.okWide Tryd.prog W .any b0 t v) (h : DataW.Trod enc Tryd.prog W 0 sp held t v d p) : ∃ (A : Option Addr) (n c : Nat) (g : Nat → Nat → Int), v = .slice A n c ∧ n ≤ 9223372036854775807 ∧
      (0 < n → ∃ b o, A = some ⟨b, o, none⟩ ∧ b < W.heap.size ∧ ∀ i j, i < n → j < k → W.cell? ⟨b, o + i * k + j, none⟩ = some (.int .i64 (g i j))) ∧ ∀ i j, i < n → j < k → I64 (g i j) := by
  obtain ⟨A, n, c, rfl⟩ := okWide_slice ht hv
  obtain ⟨fuel, hf⟩ := h
  rcases open_slice_fields ht he hone hC hf with ⟨hcs, _⟩ | ⟨x, len, cap, m, D, Pl, hcs, _, hl, hm, hmm, _, hel⟩
  · simp [Value.cells] at hcs
    obtain ⟨rfl, rfl, rfl⟩ := hcs
    exact ⟨_, _, _, fun _ _ => 0, rfl, by omega, fun hn => absurd hn (by omega), fun i j hi => absurd hi (by omega)⟩
  · simp [Value.cells] at hcs
    obtain ⟨rfl, rfl, rfl⟩ := hcs
    have hmx : n ≤ 9223372036854775807 := by unfold maxLen at hm; omega
    have hnm : n ≤ m := by rw [hmm]; split <;> omega
    have key : ∀ i j, i < n → j < k → ∃ z : Int, W.cell? (x.add (i * k + j)) = some (.int .i64 z) ∧ I64 z := by
      intro i j hi hj
      obtain ⟨ys, n', _, _, _, hfld⟩ := hel i (by omega)
      have hjs : j < fs.size := by omega
      obtain ⟨u, y, hcell, _, htr⟩ := hfld j fs[j] (Array.getElem?_eq_getElem hjs)
      rw [hint j fs[j] (Array.getElem?_eq_getElem hjs)] at htr
      obtain ⟨z, e1, _, w1⟩ := DataW.trod_int Tryd.underlying3 htr
      rw [hk] at hcell
      simp at e1
      subst e1
      exact ⟨z, hcell, i64_of_wf w1⟩
    classical
    have hg : ∃ g : Nat → Nat → Int, ∀ i j, i < n → j < k → W.cell? (x.add (i * k + j)) = some (.int .i64 (g i j)) ∧ I64 (g i j) := by
      refine ⟨fun i j => if hij : i < n ∧ j < k then Classical.choose (key i j hij.1 hij.2) else 0, fun i j hi hj => ?_⟩
      simp only [dif_pos (show i < n ∧ j < k from ⟨hi, hj⟩)]
      exact Classical.choose_spec (key i j hi hj)
    obtain ⟨g, hg⟩ := hg
    refine ⟨_, _, _, g, rfl, hmx, fun hn => ?_, fun i j hi hj => (hg i j hi hj).2⟩
    have h00 := (hg 0 0 hn hk0).1
    rw [show 0 * k + 0 = 0 by omega] at h00
    obtain ⟨hs, hb⟩ := spot_of_cell h00
    obtain ⟨b, o, s⟩ := x
    simp only at hs hb
    subst hs
    refine ⟨b, o, rfl, hb, fun i j hi hj => ?_⟩
    have h1 := (hg i j hi hj).1
    have ha : (⟨b, o, none⟩ : Addr).add (i * k + j) = ⟨b, o + i * k + j, none⟩ := by
      unfold Addr.add
      split
      · rename_i h0
        simp only [Addr.mk.injEq, and_true, true_and]
        omega
      · simp only [Addr.mk.injEq, and_true, true_and]
        omega
    rw [ha] at h1
    exact h1
theorem open_ps (hv : Value.okWide Tryd.prog W .any b0 22 v) (h : DataW.Trod enc Tryd.prog W 0 sp held 22 v d p) : ∃ (A : Option Addr) (n c : Nat) (l : List (Int × Int)), v = .slice A n c ∧ Rd encP 2 W A n l ∧ n ≤ 9223372036854775807 ∧ ∀ q ∈ l, I64 q.1 ∧ I64 q.2 := by
  obtain ⟨A, n, c, g, rfl, hn, hc, hi⟩ := open_nums Tryd.underlying22 Tryd.underlying56 (by kernel_rfl) (by kernel_rfl) (show _ = 2 from rfl) (by omega) (by
    intro j f hj
    rcases j with _ | _ | j
    · simp at hj; subst hj; rfl
    · simp at hj; subst hj; rfl
    · simp at hj) hv h
  refine ⟨A, n, c, (List.range n).map fun i => (g i 0, g i 1), rfl, ⟨by simp, fun h0 => ?_⟩, hn, ?_⟩
  · obtain ⟨b, o, rfl, hb, hcell⟩ := hc h0
    refine ⟨b, o, rfl, hb, fun i x hx j u hu => ?_⟩
    rw [List.getElem?_map] at hx
    by_cases hin : i < n
    · rw [List.getElem?_range hin] at hx
      simp only [Option.map_some, Option.some.injEq] at hx
      subst hx
      rcases j with _ | _ | j
      · simp [encP] at hu; subst hu; exact hcell i 0 hin (by omega)
      · simp [encP] at hu; subst hu; exact hcell i 1 hin (by omega)
      · simp [encP] at hu
    · rw [List.getElem?_eq_none (by simp; omega)] at hx
      cases hx
  · intro q hq
    obtain ⟨i, hir, rfl⟩ := List.mem_map.1 hq
    have hin : i < n := by simpa using hir
    exact ⟨hi i 0 hin (by omega), hi i 1 hin (by omega)⟩
end
end Go.Proofs.YtnhapgbjaeaamaaDoor
end
section
namespace Go.Proofs.YtnhapgbjaeaamaaDoor
open Go Go.ChangeShapes Go.WideShapes Go.ChangeAt Go.RowKit Go.Joins Go.Deep
set_option maxRecDepth 100000
section
variable {H : Type} {enc : TypeId × Value → H} {W : World} {base b0 : Nat} {sp : Nat → Bool} {held : Bool} {v : Value} {d : DataW H} {p : List MemPlace}
theorem open_cells {t : TypeId} (ht : Tryd.prog.underlying t = some (.slice 40)) (hv : Value.okWide Tryd.prog W .any b0 t v) (h : DataW.Trod enc Tryd.prog W 0 sp held t v d p) : ∃ (A : Option Addr) (n c : Nat) (l : List (Int × Int × Int)), v = .slice A n c ∧ Rd encC 3 W A n l ∧ n ≤ 9223372036854775807 ∧ ∀ q ∈ l, I64 q.1 ∧ I64 q.2.1 ∧ I64 q.2.2 := by
  obtain ⟨A, n, c, g, rfl, hn, hc, hi⟩ := open_nums ht Tryd.underlying40 (by kernel_rfl) (by kernel_rfl) (show _ = 3 from rfl) (by omega) (by
    intro j f hj
    rcases j with _ | _ | _ | j
    · simp at hj; subst hj; rfl
    · simp at hj; subst hj; rfl
    · simp at hj; subst hj; rfl
    · simp at hj) hv h
  refine ⟨A, n, c, (List.range n).map fun i => (g i 0, g i 1, g i 2), rfl, ⟨by simp, fun h0 => ?_⟩, hn, ?_⟩
  · obtain ⟨b, o, rfl, hb, hcell⟩ := hc h0
    refine ⟨b, o, rfl, hb, fun i x hx j u hu => ?_⟩
    rw [List.getElem?_map] at hx
    by_cases hin : i < n
    · rw [List.getElem?_range hin] at hx
      simp only [Option.map_some, Option.some.injEq] at hx
      subst hx
      rcases j with _ | _ | _ | j
      · simp [encC] at hu; subst hu; exact hcell i 0 hin (by omega)
      · simp [encC] at hu; subst hu; exact hcell i 1 hin (by omega)
      · simp [encC] at hu; subst hu; exact hcell i 2 hin (by omega)
      · simp [encC] at hu
    · rw [List.getElem?_eq_none (by simp; omega)] at hx
      cases hx
  · intro q hq
    obtain ⟨i, hir, rfl⟩ := List.mem_map.1 hq
    have hin : i < n := by simpa using hir
    exact ⟨hi i 0 hin (by omega), hi i 1 hin (by omega), hi i 2 hin (by omega)⟩
theorem open_cs (hv : Value.okWide Tryd.prog W .any b0 29 v) (h : DataW.Trod enc Tryd.prog W 0 sp held 29 v d p) : ∃ (A : Option Addr) (n c : Nat) (l : List (Int × Int × Int)), v = .slice A n c ∧ Rd encC 3 W A n l ∧ n ≤ 9223372036854775807 ∧ ∀ q ∈ l, I64 q.1 ∧ I64 q.2.1 ∧ I64 q.2.2 := open_cells Tryd.underlying29 hv h
theorem open_cp (hv : Value.okWide Tryd.prog W .any b0 30 v) (h : DataW.Trod enc Tryd.prog W 0 sp held 30 v d p) : ∃ (A : Option Addr) (n c : Nat) (l : List (Int × Int × Int)), v = .slice A n c ∧ Rd encC 3 W A n l ∧ n ≤ 9223372036854775807 ∧ ∀ q ∈ l, I64 q.1 ∧ I64 q.2.1 ∧ I64 q.2.2 := open_cells Tryd.underlying30 hv h
theorem slice_le {t e : TypeId} {fs : Array Field} {A : Option Addr} {n c : Nat} (ht : Tryd.prog.underlying t = some (.slice e)) (he : Tryd.prog.underlying e = some (.struct fs)) (hone : oneCellFields Tryd.prog fs = true) (hC : Tryd.prog.cellsOf e = fs.size) (h : DataW.Trod enc Tryd.prog W 0 sp held t (.slice A n c) d p) : n ≤ c := by
  obtain ⟨fuel, hf⟩ := h
  rcases open_slice_fields ht he hone hC hf with ⟨hcs, _⟩ | ⟨x, len, cap, m, D, Pl, hcs, _, hl, _⟩
  · simp [Value.cells] at hcs
    obtain ⟨rfl, rfl, rfl⟩ := hcs
    exact Nat.le_refl _
  · simp [Value.cells] at hcs
    obtain ⟨rfl, rfl, rfl⟩ := hcs
    exact hl
theorem open_cq (hv : Value.okWide Tryd.prog W .any b0 30 v) (h : DataW.Trod enc Tryd.prog W 0 sp held 30 v d p) : ∃ (A : Option Addr) (n c : Nat) (l : List (Int × Int × Int)), v = .slice A n c ∧ Rd encC 3 W A n l ∧ n ≤ c := by
  obtain ⟨A, n, c, l, rfl, hR, _, _⟩ := open_cells Tryd.underlying30 hv h
  exact ⟨A, n, c, l, rfl, hR, slice_le Tryd.underlying30 Tryd.underlying40 (by kernel_rfl) (by kernel_rfl) h⟩
theorem open_c (hv : Value.okWide Tryd.prog W .any b0 40 v) (h : DataW.Trod enc Tryd.prog W base sp held 40 v d p) : ∃ x y z : Int, v = .agg #[.int .i64 x, .int .i64 y, .int .i64 z] ∧ I64 x ∧ I64 y ∧ I64 z := by
  obtain ⟨c0, c1, c2, y0, y1, y2, m, rfl, _, _, h0, h1, h2⟩ := open_agg3 Tryd.underlying40 (by kernel_rfl) (by kernel_rfl) hv h
  obtain ⟨x, e0, _, w0⟩ := DataW.trod_int Tryd.underlying3 h0
  obtain ⟨y, e1, _, w1⟩ := DataW.trod_int Tryd.underlying3 h1
  obtain ⟨z, e2, _, w2⟩ := DataW.trod_int Tryd.underlying3 h2
  simp at e0 e1 e2
  subst e0 e1 e2
  exact ⟨x, y, z, rfl, i64_of_wf w0, i64_of_wf w1, i64_of_wf w2⟩
end
end Go.Proofs.YtnhapgbjaeaamaaDoor
end
section
namespace Go.Proofs.YtnhapgbjaeaamaaDoor
open Go Go.ChangeShapes Go.WideShapes Go.ChangeAt Go.RowKit Go.Joins Go.Deep
set_option maxRecDepth 100000
theorem list_of {β : Type} {P : Nat → β → Prop} : ∀ n : Nat, (∀ i, i < n → ∃ b, P i b) → ∃ l : List β, l.length = n ∧ ∀ (i : Nat) b, l[i]? = some b → P i b
  | 0, _ => ⟨[], rfl, fun i b h => by simp at h⟩
  | n + 1, h => by
    obtain ⟨l, h1, h2⟩ := list_of n fun i hi => h i (by omega)
    obtain ⟨b, hb⟩ := h n (by omega)
    refine ⟨l ++ [b], by simp [h1], fun i c hc => ?_⟩
    rcases Nat.lt_or_ge i n with hi | hi
    · rw [List.getElem?_append_left (by omega)] at hc
      exact h2 i c hc
    · rw [List.getElem?_append_right (by omega), h1] at hc
      have e : i - n = 0 := by
        have := (List.getElem?_eq_some_iff.1 hc).1
        simp at this; omega
      rw [e] at hc
      simp at hc
      subst hc
      obtain rfl : i = n := by omega
      exact hb
section
variable {H : Type} {enc : TypeId × Value → H} {W : World} {base b0 : Nat} {sp : Nat → Bool} {held : Bool} {v : Value} {d : DataW H} {p : List MemPlace}
/-- A slice each of whose elements reads as some b. -/
theorem open_el {β : Type} {ec : β → List Value} {k : Nat} {R : β → Prop} {t e : TypeId} (ht : Tryd.prog.underlying t = some (.slice e)) (hC : Tryd.prog.cellsOf e = k) (hk0 : 0 < k)
    (hel : ∀ (n : Nat) (cs : List Value) (x : DataW H × List MemPlace), DataW.trod enc Tryd.prog W 0 sp held n e cs = some x → cs.length = k → ∃ b, cs = ec b ∧ R b)
    {fuel : Nat} {cs : List Value} {x : DataW H × List MemPlace} (hf : DataW.trod enc Tryd.prog W 0 sp held fuel t cs = some x) :
    ∃ (A : Option Addr) (n c : Nat) (l : List β), cs = [.slice A n c] ∧ n ≤ c ∧ n ≤ 9223372036854775807 ∧ Rd ec k W A n l ∧ ∀ b ∈ l, R b := by
  rcases open_slice ht hf with ⟨hcs, _⟩ | ⟨a, n, c, m, n', D, Pl, hcs, _, hl, hm, hmm, _, hi⟩
  · exact ⟨none, 0, 0, [], hcs, Nat.le_refl _, by omega, Rd.nil_, fun b hb => by cases hb⟩
  · have hmx : n ≤ 9223372036854775807 := by unfold maxLen at hm; omega
    have hnm : n ≤ m := by rw [hmm]; split <;> omega
    obtain ⟨l, h1, h2⟩ := list_of (P := fun i b => (∀ (j : Nat) (u : Value), (ec b)[j]? = some u → W.cell? (a.add (i * k + j)) = some u) ∧ (ec b).length = k ∧ R b) n fun i him => by
      obtain ⟨cs', hc, ht'⟩ := hi i (by omega)
      rw [hC] at hc
      obtain ⟨_, hcl, hat⟩ := World.cells?_some hc
      obtain ⟨b, rfl, hR⟩ := hel _ _ _ ht' hcl
      refine ⟨b, fun j u hu => ?_, hcl, hR⟩
      rw [← Go.Deep.add_add, hat j (by have := (List.getElem?_eq_some_iff.1 hu).1; omega), hu]
    refine ⟨some a, n, c, l, hcs, hl, hmx, ⟨h1, fun hn => ?_⟩, fun b hb => ?_⟩
    · have h0 : l[0]? = some (l[0]'(by omega)) := List.getElem?_eq_getElem (by omega)
      obtain ⟨g1, g2, _⟩ := h2 0 _ h0
      have h00 := g1 0 _ (List.getElem?_eq_getElem (by omega))
      rw [show 0 * k + 0 = 0 by omega] at h00
      obtain ⟨hs, hb⟩ := spot_of_cell h00
      obtain ⟨b, o, s⟩ := a
      simp only at hs hb
      subst hs
      refine ⟨b, o, rfl, hb, fun i y hy j u hu => ?_⟩
      have h1 := (h2 i y hy).1 j u hu
      have ha : (⟨b, o, none⟩ : Addr).add (i * k + j) = ⟨b, o + i * k + j, none⟩ := by
        unfold Addr.add
        split
        · rename_i h0
          simp only [Addr.mk.injEq, and_true, true_and]
          omega
        · simp only [Addr.mk.injEq, and_true, true_and]
          omega
      rw [ha] at h1
      exact h1
    · obtain ⟨i, hi', rfl⟩ := List.getElem_of_mem hb
      exact (h2 i _ (List.getElem?_eq_getElem hi')).2.2
theorem el_struct {t : TypeId} {fs : Array Field} (ht : Tryd.prog.underlying t = some (.struct fs)) (hone : oneCellFields Tryd.prog fs = true) (hint : ∀ (j : Nat) (f : Field), fs[j]? = some f → f.type = 3)
    (n : Nat) (cs : List Value) (x : DataW H × List MemPlace) (h : DataW.trod enc Tryd.prog W 0 sp held n t cs = some x) : ∀ j, j < fs.size → j < cs.length → ∃ z : Int, cs[j]? = some (.int .i64 z) ∧ I64 z := by
  intro j hj hl
  obtain ⟨ys, n', hn', hy, hlen, hyl, hf⟩ := DataW.trod_struct ht h
  have hjf : fs[j]? = some fs[j] := Array.getElem?_eq_getElem hj
  obtain ⟨ho, hk⟩ := hone_of hone j _ hjf
  have h1 := hf j _ hjf
  rw [ho, hk, hint j _ hjf] at h1
  have hone' : (cs.drop j).take 1 = [cs[j]] := by
    rw [List.drop_eq_getElem_cons hl]; rfl
  rw [hone', List.getElem?_eq_getElem (by omega)] at h1
  obtain ⟨z, e1, _, w1⟩ := DataW.trod_int Tryd.underlying3 h1
  simp only [List.cons.injEq, and_true] at e1
  exact ⟨z, by rw [List.getElem?_eq_getElem hl, e1], i64_of_wf w1⟩
theorem el_cell (n : Nat) (cs : List Value) (x : DataW H × List MemPlace) (h : DataW.trod enc Tryd.prog W 0 sp held n 40 cs = some x) (hl : cs.length = 3) : ∃ b : Int × Int × Int, cs = encC b ∧ True := by
  have key := el_struct Tryd.underlying40 (by kernel_rfl) (by
    intro j f hj
    rcases j with _ | _ | _ | j
    · simp at hj; subst hj; rfl
    · simp at hj; subst hj; rfl
    · simp at hj; subst hj; rfl
    · simp at hj) n cs x h
  have hk : ∀ j, j < 3 → ∃ z : Int, cs[j]? = some (.int .i64 z) ∧ I64 z := fun j hj => key j hj (by omega)
  clear key
  obtain ⟨z0, e0, _⟩ := hk 0 (by omega)
  obtain ⟨z1, e1, _⟩ := hk 1 (by omega)
  obtain ⟨z2, e2, _⟩ := hk 2 (by omega)
  refine ⟨(z0, z1, z2), ?_, trivial⟩
  refine List.ext_getElem? fun j => ?_
  rcases j with _ | _ | _ | j
  · exact e0
  · exact e1
  · exact e2
  · rw [List.getElem?_eq_none (by omega), List.getElem?_eq_none (by simp [encC])]
theorem el_pat (n : Nat) (cs : List Value) (x : DataW H × List MemPlace) (h : DataW.trod enc Tryd.prog W 0 sp held n 30 cs = some x) (hl : cs.length = 1) : ∃ b : Option Addr × Nat × Nat, cs = encH b ∧ ∃ l, ekC.rel W b l := by
  obtain ⟨A, n, c, l, rfl, hc, _, hR, _⟩ := open_el (k := 3) Tryd.underlying30 (by kernel_rfl) (by omega) el_cell h
  exact ⟨(A, n, c), rfl, l, hR, hc⟩
theorem all_rel {α β : Type} {K : EK α β} {w : World} : ∀ xs0 : List α, (∀ a ∈ xs0, ∃ b, K.rel w a b) → ∃ bs, K.All w xs0 bs := by
  intro xs0 h
  obtain ⟨l, h1, h2⟩ := list_of (P := fun i b => ∀ a, xs0[i]? = some a → K.rel w a b) xs0.length fun i hi => by
    obtain ⟨b, hb⟩ := h xs0[i] (List.getElem_mem hi)
    exact ⟨b, fun a ha => by rw [List.getElem?_eq_getElem hi] at ha; injection ha with ha; subst ha; exact hb⟩
  exact ⟨l, h1.symm, fun i a b ha hb => h2 i b hb a ha⟩
theorem open_lp (hv : Value.okWide Tryd.prog W .any b0 50 v) (h : DataW.Trod enc Tryd.prog W 0 sp held 50 v d p) : ∃ (A : Option Addr) (n c : Nat) (l : List (List (Int × Int × Int))), v = .slice A n c ∧ RdX ekC W A n l ∧ n ≤ c := by
  obtain ⟨A, n, c, rfl⟩ := okWide_slice Tryd.underlying50 hv
  obtain ⟨fuel, hf⟩ := h
  obtain ⟨A', n', c', xs0, hcs, hc, _, hR, hel⟩ := open_el (k := 1) Tryd.underlying50 (by kernel_rfl) (by omega) el_pat hf
  simp [Value.cells] at hcs
  obtain ⟨rfl, rfl, rfl⟩ := hcs
  obtain ⟨bs, hbs⟩ := all_rel xs0 hel
  exact ⟨A, n, c, bs, rfl, ⟨xs0, hR, hbs⟩, hc⟩
theorem open_u8 (hv : Value.okWide Tryd.prog W .any b0 5 v) (h : DataW.Trod enc Tryd.prog W base sp held 5 v d p) : ∃ x : Int, v = .int .u8 x ∧ 0 ≤ x ∧ x ≤ 255 := by
  obtain ⟨n, rfl, _, _, hw⟩ := open_int Tryd.underlying5 hv h
  refine ⟨n, rfl, ?_⟩
  simp [Lit.wf, IntKind.min, IntKind.max, IntKind.signed, IntKind.bits] at hw
  omega
end
section
variable {H : Type} {enc : TypeId × Value → H} {W : World} {base b0 : Nat} {sp : Nat → Bool} {held : Bool} {v : Value} {d : DataW H} {p : List MemPlace}
theorem el_int (n : Nat) (cs : List Value) (x : DataW H × List MemPlace) (h : DataW.trod enc Tryd.prog W 0 sp held n 3 cs = some x) (hl : cs.length = 1) : ∃ b : Int, cs = encI b ∧ True := by
  obtain ⟨z, e1, _, w1⟩ := DataW.trod_int Tryd.underlying3 h
  exact ⟨z, e1, trivial⟩
theorem el_point (n : Nat) (cs : List Value) (x : DataW H × List MemPlace) (h : DataW.trod enc Tryd.prog W 0 sp held n 56 cs = some x) (hl : cs.length = 2) : ∃ b : Int × Int, cs = encP b ∧ True := by
  have key := el_struct Tryd.underlying56 (by kernel_rfl) (by
    intro j f hj
    rcases j with _ | _ | j
    · simp at hj; subst hj; rfl
    · simp at hj; subst hj; rfl
    · simp at hj) n cs x h
  have hk : ∀ j, j < 2 → ∃ z : Int, cs[j]? = some (.int .i64 z) ∧ I64 z := fun j hj => key j hj (by omega)
  clear key
  obtain ⟨z0, e0, _⟩ := hk 0 (by omega)
  obtain ⟨z1, e1, _⟩ := hk 1 (by omega)
  refine ⟨(z0, z1), ?_, trivial⟩
  refine List.ext_getElem? fun j => ?_
  rcases j with _ | _ | j
  · exact e0
  · exact e1
  · rw [List.getElem?_eq_none (by omega), List.getElem?_eq_none (by simp [encP])]
/-- A field of one cell of a struct. -/
theorem el_field {t : TypeId} {fs : Array Field} (ht : Tryd.prog.underlying t = some (.struct fs)) (hone : oneCellFields Tryd.prog fs = true) {n : Nat} {cs : List Value} {x : DataW H × List MemPlace} (h : DataW.trod enc Tryd.prog W 0 sp held n t cs = some x) {j : Nat} {f : Field} (hj : fs[j]? = some f) {c : Value} (hc : cs[j]? = some c) : ∃ (m : Nat) (y : DataW H × List MemPlace), DataW.trod enc Tryd.prog W 0 sp held m f.type [c] = some y := by
  obtain ⟨ys, n', hn', hy, hlen, hyl, hf⟩ := DataW.trod_struct ht h
  obtain ⟨ho, hk⟩ := hone_of hone j f hj
  have h1 := hf j f hj
  have hjl : j < cs.length := (List.getElem?_eq_some_iff.1 hc).1
  have hjf : j < fs.size := (Array.getElem?_eq_some_iff.1 hj).1
  rw [ho, hk] at h1
  have hone' : (cs.drop j).take 1 = [c] := by
    rw [List.drop_eq_getElem_cons hjl]
    rw [List.getElem?_eq_getElem hjl] at hc
    injection hc with hc
    rw [hc]; rfl
  rw [hone', List.getElem?_eq_getElem (by omega)] at h1
  exact ⟨n', _, h1⟩
theorem el_node (n : Nat) (cs : List Value) (x : DataW H × List MemPlace) (h : DataW.trod enc Tryd.prog W 0 sp held n 54 cs = some x) (hl : cs.length = 2) : ∃ b : Int × Option Addr × Nat × Nat, cs = encN b ∧ ∃ l, ekN.rel W b l := by
  match cs, hl with
  | [a, b], _ =>
    obtain ⟨m0, y0, h0⟩ := el_field Tryd.underlying54 (by kernel_rfl) h (j := 0) rfl rfl
    obtain ⟨m1, y1, h1⟩ := el_field Tryd.underlying54 (by kernel_rfl) h (j := 1) rfl rfl
    obtain ⟨z, e0, _, _⟩ := DataW.trod_int Tryd.underlying3 h0
    obtain ⟨A, k, c, l, e1, hc, _, hR, _⟩ := open_el (k := 1) Tryd.underlying26 (by kernel_rfl) (by omega) el_int h1
    simp only [List.cons.injEq, and_true] at e0 e1
    subst e0 e1
    exact ⟨(z, A, k, c), rfl, (z, l), rfl, hR, hc⟩
theorem open_tree (hv : Value.okWide Tryd.prog W .any b0 25 v) (h : DataW.Trod enc Tryd.prog W 0 sp held 25 v d p) : ∃ (st : Int) (A : Option Addr) (n c : Nat) (B : Option Addr) (m e : Nat) (Hl : List (Int × Int)) (Nl : List (Int × List Int)), v = .agg #[.int .i64 st, .slice A n c, .slice B m e] ∧ Rd encP 2 W A n Hl ∧ RdX ekN W B m Nl := by
  obtain ⟨c0, c1, c2, y0, y1, y2, k, rfl, _, _, h0, h1, h2⟩ := open_agg3 Tryd.underlying25 (by kernel_rfl) (by kernel_rfl) hv h
  obtain ⟨z, e0, _, _⟩ := DataW.trod_int Tryd.underlying3 h0
  obtain ⟨A, n, c, l, e1, _, _, hR, _⟩ := open_el (k := 2) Tryd.underlying22 (by kernel_rfl) (by omega) el_point h1
  obtain ⟨B, m, e, xs0, e2, _, _, hS, hel⟩ := open_el (k := 2) Tryd.underlying23 (by kernel_rfl) (by omega) el_node h2
  simp only [List.cons.injEq, and_true] at e0 e1 e2
  subst e0 e1 e2
  obtain ⟨bs, hbs⟩ := all_rel xs0 hel
  exact ⟨z, A, n, c, B, m, e, l, bs, rfl, hR, ⟨xs0, hS, hbs⟩⟩
theorem open_cpr (hv : Value.okWide Tryd.prog W .any b0 30 v) (h : DataW.Trod enc Tryd.prog W 0 sp held 30 v d p) : ∃ (A : Option Addr) (n c : Nat) (l : List (Int × Int × Int)), v = .slice A n c ∧ Rd encC 3 W A n l ∧ n ≤ c := by
  obtain ⟨A, n, c, rfl⟩ := okWide_slice Tryd.underlying30 hv
  obtain ⟨fuel, hf⟩ := h
  obtain ⟨A', n', c', l, hcs, hc, _, hR, _⟩ := open_el (k := 3) Tryd.underlying30 (by kernel_rfl) (by omega) el_cell hf
  simp [Value.cells] at hcs
  obtain ⟨rfl, rfl, rfl⟩ := hcs
  exact ⟨A, n, c, l, rfl, hR, hc⟩
end
section
variable {H : Type} {enc : TypeId × Value → H} {W : World} {base b0 : Nat} {sp : Nat → Bool} {held : Bool} {v : Value} {d : DataW H} {p : List MemPlace}
theorem open_prb (hv : Value.okWide Tryd.prog W .any b0 28 v) (h : DataW.Trod enc Tryd.prog W 0 sp held 28 v d p) : ∃ (x y g dx dy : Int) (A : Option Addr) (n c : Nat) (l : List Int), v = .agg #[.int .i64 x, .int .i64 y, .int .i64 g, .int .i64 dx, .int .i64 dy, .slice A n c] ∧ Rd encI 1 W A n l := by
  obtain ⟨cs, rfl, hsz⟩ := okWide_struct Tryd.underlying28 hv
  have hC : Tryd.prog.cellsOf 28 = 6 := by kernel_rfl
  rw [hC] at hsz
  obtain ⟨fuel, hf⟩ := h
  obtain ⟨cl⟩ := cs
  simp only [List.size_toArray] at hsz
  match cl, hsz with
  | [a0, a1, a2, a3, a4, a5], _ =>
    obtain ⟨m0, y0, h0⟩ := el_field Tryd.underlying28 (by kernel_rfl) hf (j := 0) rfl rfl
    obtain ⟨m1, y1, h1⟩ := el_field Tryd.underlying28 (by kernel_rfl) hf (j := 1) rfl rfl
    obtain ⟨m2, y2, h2⟩ := el_field Tryd.underlying28 (by kernel_rfl) hf (j := 2) rfl rfl
    obtain ⟨m3, y3, h3⟩ := el_field Tryd.underlying28 (by kernel_rfl) hf (j := 3) rfl rfl
    obtain ⟨m4, y4, h4⟩ := el_field Tryd.underlying28 (by kernel_rfl) hf (j := 4) rfl rfl
    obtain ⟨m5, y5, h5⟩ := el_field Tryd.underlying28 (by kernel_rfl) hf (j := 5) rfl rfl
    obtain ⟨z0, e0, _, _⟩ := DataW.trod_int Tryd.underlying3 h0
    obtain ⟨z1, e1, _, _⟩ := DataW.trod_int Tryd.underlying3 h1
    obtain ⟨z2, e2, _, _⟩ := DataW.trod_int Tryd.underlying3 h2
    obtain ⟨z3, e3, _, _⟩ := DataW.trod_int Tryd.underlying3 h3
    obtain ⟨z4, e4, _, _⟩ := DataW.trod_int Tryd.underlying3 h4
    obtain ⟨A, n, c, l, e5, _, _, hR, _⟩ := open_el (k := 1) Tryd.underlying26 (by kernel_rfl) (by omega) el_int h5
    simp only [List.cons.injEq, and_true] at e0 e1 e2 e3 e4 e5
    subst e0 e1 e2 e3 e4 e5
    exact ⟨z0, z1, z2, z3, z4, A, n, c, l, rfl, hR⟩
end
end Go.Proofs.YtnhapgbjaeaamaaDoor
end
