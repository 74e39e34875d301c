/- What the rows' proofs share: the listed variable, the arguments' shapes, the last step. -/
import Derived.Test.YtenckggfgbkfnaaDoorRows
import Derived.Test.YtenckggfgbkfnaaDoorSym
import Derived.Test.YtenckggfgbkfnaaDoorMEM
import Derived.ProofKit
import Derived.LaidMore
import Derived.OpenShut
import Derived.Stop.Joined
import Derived.Carry
import Derived.Lib.SmallJoins
namespace Go.Proofs.YtenckggfgbkfnaaDoor
open Go Go.ChangeShapes Go.WideShapes Go.ChangeAt Go.RowKit Go.Joins
set_option linter.unusedSimpArgs false
set_option linter.unusedVariables false
set_option maxRecDepth 100000
theorem own_ : ownKnob Tryd.prog.godebug = none := by kernel_rfl
theorem laidOut_ : laidOutB Tryd.prog = true := by kernel_rfl
theorem gMat : Tryd.prog.globalNamed "cellular/symmetry.matrices" = some 0 := by kernel_rfl
theorem tMat : (Tryd.prog.globals[0]?).map (·.type) = some 78 := by kernel_rfl
/-- The list of the rows' listed variables. -/
def laidL : List (String × DataW Unit) := [("cellular/symmetry.matrices", Rows.laid_cellular_symmetry_matrices)]
theorem door_met (os : Os) (args : Array Value) : laidMetH Tryd.prog laidL ((World.doorLaid Tryd.prog 400 os).forCall (fun _ _ => 0) ⟨#[], args, []⟩).memory :=
  laidMetH_of_parts3 (fuel := 8) (laidMet_of_run' 8 (by kernel_rfl) (by kernel_rfl)) (by kernel_rfl) (by kernel_rfl)
/-- What a row of the table reads as. -/
def matD {H : Type} (r : Nat) : DataW H := .agg [.lit (.int .i64 (mat r 0)), .lit (.int .i64 (mat r 1)), .lit (.int .i64 (mat r 2)), .lit (.int .i64 (mat r 3))]
theorem laid_mat : ∀ r, r < 8 → ∀ xs : List (DataW Unit), Rows.laid_cellular_symmetry_matrices = .agg xs → xs[r]? = some (matD r) := by
  intro r hr xs h
  injection h with h
  subst h
  have hc : r = 0 ∨ r = 1 ∨ r = 2 ∨ r = 3 ∨ r = 4 ∨ r = 5 ∨ r = 6 ∨ r = 7 := by omega
  rcases hc with rfl | rfl | rfl | rfl | rfl | rfl | rfl | rfl <;> rfl
theorem matD_at {r j : Nat} (hj : j < 4) {xs : List (DataW Unit)} (h : matD r = .agg xs) : xs[j]? = some (.lit (.int .i64 (mat r j))) := by
  injection h with h
  subst h
  have hc : j = 0 ∨ j = 1 ∨ j = 2 ∨ j = 3 := by omega
  rcases hc with rfl | rfl | rfl | rfl <;> rfl
theorem get_of_slice {cs : List Value} {i : Nat} {v : Value} (h : (cs.drop i).take 1 = [v]) : cs[i]? = some v := by
  have := congrArg (·[0]?) h
  simpa using this
theorem slice_slice {cs : List Value} (r j : Nat) (hj : j < 4) : ((((cs.drop (r * 4)).take 4).drop (j * 1)).take 1) = (cs.drop (r * 4 + j)).take 1 := by
  rw [List.drop_take, List.take_take, List.drop_drop, Nat.mul_one]
  congr 1
  omega
theorem mx_of_laid {W : World} (h : laidMetH Tryd.prog laidL W) : Mx W := by
  rw [MakeChecks.laidMetH_plain _ _ _ (by kernel_rfl)] at h
  obtain ⟨ps, ⟨g0, t0, cs0, f0, p0, q0, hg0, ht0, hv0, hd0, _, _⟩, _⟩ := h
  obtain rfl := Option.some.inj (gMat.symm.trans hg0)
  obtain rfl := Option.some.inj (tMat.symm.trans ht0)
  have c1 : Tryd.prog.cellsOf 3 = 1 := by kernel_rfl
  have c4 : Tryd.prog.cellsOf 77 = 4 := by kernel_rfl
  obtain ⟨xs, m, _, hx, _, hn, hel⟩ := DataW.trod_array Tryd.underlying78 hd0
  simp only [Prod.mk.injEq] at hx
  have key : ∀ r j, r < 8 → j < 4 → cs0.toList[r * 4 + j]? = some (.int .i64 (mat r j)) := by
    intro r j hr hj
    have hrow := hel r hr
    have hxr := laid_mat r hr _ hx.1
    rw [List.getElem?_map] at hxr
    cases hy : xs[r]? with
    | none => rw [hy] at hxr; cases hxr
    | some y =>
      rw [hy] at hrow hxr
      simp only [Option.map_some, Option.some.injEq] at hxr
      rw [c4] at hrow
      obtain ⟨ys, m1, _, hy1, _, hn1, hel1⟩ := DataW.trod_array Tryd.underlying77 hrow
      have e0 : y.1 = .agg (ys.map (·.1)) := by rw [hy1]
      rw [hxr] at e0
      have hyj := matD_at hj e0
      rw [List.getElem?_map] at hyj
      have hcell := hel1 j hj
      cases hz : ys[j]? with
      | none => rw [hz] at hyj; cases hyj
      | some z =>
        rw [hz] at hcell hyj
        simp only [Option.map_some, Option.some.injEq] at hyj
        rw [c1, slice_slice r j hj] at hcell
        obtain ⟨n, e1, e2, _⟩ := DataW.trod_int Tryd.underlying3 hcell
        have e3 : z.1 = .lit (.int .i64 n) := by rw [e2]
        rw [hyj] at e3
        injection e3 with e3
        injection e3 with _ e3
        rw [e3]
        exact get_of_slice e1
  have hcell : ∀ r j, r < 8 → j < 4 → W.cell? ⟨0, r * 4 + j, none⟩ = some (.int .i64 (mat r j)) := by
    intro r j hr hj
    rw [World.var?_cell hg0 hv0 (r * 4 + j)]
    have := key r j hr hj
    rwa [Array.getElem?_toList] at this
  refine ⟨?_, hcell⟩
  have h0 := hcell 0 0 (by omega) (by omega)
  rcases Nat.lt_or_ge 0 W.heap.size with h | h
  · exact h
  · exfalso
    have hn : W.heap[0]? = none := Array.getElem?_eq_none h
    simp [World.cell?, hn] at h0
theorem i64_of_wf {n : Int} (h : (Lit.int .i64 n).wf = true) : I64 n := by
  simp [Lit.wf, IntKind.min, IntKind.max, IntKind.signed, IntKind.bits] at h
  unfold I64; omega
theorem spot_of_cell {W : World} {x : Addr} {v : Value} (h : W.cell? (x.add 0) = some v) : x.spot = none ∧ x.block < W.heap.size := by
  have hx : x.add 0 = x := by simp [Addr.add]
  rw [hx] at h
  unfold World.cell? at h
  cases hh : W.heap[x.block]? with
  | none => rw [hh] at h; cases h
  | some o =>
    refine ⟨?_, (Array.getElem?_eq_some_iff.1 hh).1⟩
    rw [hh] at h
    cases o <;> simp at h
    exact h.1
theorem post_of_below {H : Type} {enc : TypeId × Value → H} {P : Program} {f : Func} {s : ChangeSpec} {apart fresh handsOn again : Bool} {W W' : World} {args : Array Value} {v : Value} {ds gs : List (DataW H)} {before pa pv : List MemPlace}
    (hW : DataW.Whole enc P f.params.toList s.vars apart W args.toList ds gs before)
    (hres : ∀ (b : Nat) (sp : Nat → Bool) (hd : Bool), DataW.TrodAll enc P W' b sp hd f.resultTypes.toList (v.resultList f.resultTypes.size) (s.fn H (ds ++ gs)).results [])
    (hargs : ∀ sp : Nat → Bool, (∀ p ∈ before, sp p.block = true) → DataW.TrodAll enc P W' 0 sp true f.params.toList args.toList (s.fn H (ds ++ gs)).args pa)
    (hvars : ∀ sp : Nat → Bool, (∀ p ∈ before, sp p.block = true) → DataW.TrodVars enc P W' sp s.vars (s.fn H (ds ++ gs)).vars pv)
    (hps : before = pa ++ pv) (hb : Below W.heap.size W W')
    (hok : ∀ (j : Nat) (t : TypeId) (r : Value), f.resultTypes[j]? = some t → (v.resultList f.resultTypes.size)[j]? = some r → Value.okWide P W' .any 0 t r) :
    s.post enc P f apart fresh handsOn again W args v W' := by
  have hlt : ∀ p ∈ before, p.block < W.heap.size := fun p hp => hW.lt p hp
  have hold : ∀ p ∈ before, (fun b => decide (b < W.heap.size)) p.block = true := fun p hp => by simpa using hlt p hp
  refine ⟨ds, gs, before, [], pa, pv, hW, hres _ _ _, hargs _ hold, hvars _ hold, World.keptBut_mono (fun p hp => ⟨hp, ?_⟩) (hb.frame (· ∈ before)), fun _ => ?_⟩
  · rw [hps, List.mem_append] at hp
    exact Or.inr hp
  · obtain ⟨_, _, _, _, _, hz, hn⟩ := hW
    refine ⟨hok, _, _, ([] ++ pa) ++ pv, ⟨[] ++ pa, pv, trodAll_append (hargs _ (fun _ _ => rfl)) (hres _ _ _), hvars _ (fun _ _ => rfl), rfl, ?_, ?_⟩, ?_⟩
    · intro b off hp
      have hin : MemPlace.cell b off ∈ before := by rw [hps]; simpa using hp
      rw [hb.frozen (hlt _ hin)]
      exact hz b off hin
    · intro ha
      have := hn ha
      rw [hps] at this
      simpa using this
    · intro p hp _
      rw [hps]
      simpa using hp
section
variable {H : Type} {enc : TypeId × Value → H} {W : World} {base b0 : Nat} {sp : Nat → Bool} {held : Bool} {v : Value} {d : DataW H} {p : List MemPlace}
theorem open_i (hv : Value.okWide Tryd.prog W .any b0 3 v) (h : DataW.Trod enc Tryd.prog W base sp held 3 v d p) : ∃ n : Int, v = .int .i64 n ∧ I64 n := by
  obtain ⟨n, rfl, _, _, hw⟩ := open_int Tryd.underlying3 hv h
  exact ⟨n, rfl, i64_of_wf hw⟩
theorem open_p (hv : Value.okWide Tryd.prog W .any b0 39 v) (h : DataW.Trod enc Tryd.prog W base sp held 39 v d p) : ∃ x y : Int, v = .agg #[.int .i64 x, .int .i64 y] ∧ I64 x ∧ I64 y := by
  obtain ⟨c0, c1, y0, y1, m, rfl, _, _, h0, h1⟩ := open_agg2 Tryd.underlying39 (by kernel_rfl) (by kernel_rfl) hv h
  obtain ⟨x, e0, _, w0⟩ := DataW.trod_int Tryd.underlying3 h0
  obtain ⟨y, e1, _, w1⟩ := DataW.trod_int Tryd.underlying3 h1
  simp at e0 e1
  subst e0 e1
  exact ⟨x, y, rfl, i64_of_wf w0, i64_of_wf w1⟩
theorem open_b (hv : Value.okWide Tryd.prog W .any b0 43 v) (h : DataW.Trod enc Tryd.prog W base sp held 43 v d p) : ∃ x y z u : Int, v = .agg #[.int .i64 x, .int .i64 y, .int .i64 z, .int .i64 u] ∧ I64 x ∧ I64 y ∧ I64 z ∧ I64 u := by
  obtain ⟨c0, c1, c2, c3, y0, y1, y2, y3, m, rfl, _, _, h0, h1, h2, h3⟩ := open_agg4 Tryd.underlying43 (by kernel_rfl) (by kernel_rfl) hv h
  obtain ⟨x, e0, _, w0⟩ := DataW.trod_int Tryd.underlying3 h0
  obtain ⟨y, e1, _, w1⟩ := DataW.trod_int Tryd.underlying3 h1
  obtain ⟨z, e2, _, w2⟩ := DataW.trod_int Tryd.underlying3 h2
  obtain ⟨u, e3, _, w3⟩ := DataW.trod_int Tryd.underlying3 h3
  simp at e0 e1 e2 e3
  subst e0 e1 e2 e3
  exact ⟨x, y, z, u, rfl, i64_of_wf w0, i64_of_wf w1, i64_of_wf w2, i64_of_wf w3⟩
theorem open_is (hv : Value.okWide Tryd.prog W .any b0 97 v) (h : DataW.Trod enc Tryd.prog W 0 sp held 97 v d p) : ∃ (A : Option Addr) (n c : Nat) (l : List Int), v = .slice A n c ∧ Rd encI 1 W A n l ∧ n ≤ 9223372036854775807 := by
  obtain ⟨A, n, c, rfl⟩ := okWide_slice Tryd.underlying97 hv
  obtain ⟨fuel, hf⟩ := h
  rcases open_ints Tryd.underlying97 Tryd.underlying3 (by kernel_rfl) hf with ⟨hcs, _⟩ | ⟨x, l, c', zs, hcs, _, hl, hm, hz, _, hcell, _⟩
  · simp [Value.cells] at hcs
    obtain ⟨rfl, rfl, rfl⟩ := hcs
    exact ⟨_, _, _, [], rfl, Rd.nil_, by omega⟩
  · simp [Value.cells] at hcs
    obtain ⟨rfl, rfl, rfl⟩ := hcs
    have hmx : c ≤ 9223372036854775807 := by unfold maxLen at hm; omega
    have hln : n ≤ zs.length := by rw [hz]; split <;> omega
    refine ⟨_, _, _, zs.take n, rfl, ⟨by simp [hln], fun hn => ?_⟩, by omega⟩
    obtain ⟨hs, hb⟩ := spot_of_cell (hcell 0 (by omega))
    obtain ⟨b, o, s⟩ := x
    simp only at hs hb
    subst hs
    refine ⟨b, o, rfl, hb, fun i y hi j u hu => ?_⟩
    have hin : i < n := by
      have := (List.getElem?_eq_some_iff.1 hi).1
      rw [List.length_take] at this; omega
    rw [List.getElem?_take, if_pos hin] at hi
    have hc := hcell i (by omega)
    have hg : zs.getD i 0 = y := by rw [List.getD_eq_getElem?_getD, hi]; rfl
    rw [hg] at hc
    have hj : j = 0 := by
      have := (List.getElem?_eq_some_iff.1 hu).1
      simp [encI] at this; omega
    subst hj
    have hu' : u = .int .i64 y := by simpa [encI] using hu.symm
    rw [hu', Nat.mul_one, Nat.add_zero]
    have ha : (⟨b, o, none⟩ : Addr).add i = ⟨b, o + i, none⟩ := by
      unfold Addr.add
      split
      · rename_i h0; subst h0; rfl
      · rfl
    rw [ha] at hc
    exact hc
end
end Go.Proofs.YtenckggfgbkfnaaDoor
