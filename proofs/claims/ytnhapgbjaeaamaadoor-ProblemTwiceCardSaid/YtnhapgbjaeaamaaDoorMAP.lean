/- Maps that the call itself makes: what they hold, as functions of the key; ranging over them. Over any program. A map from positions to numbers that the call itself makes: what it holds, as a function of the position. The kinds of maps that the program makes: from positions to numbers, to bools, to nothing; from numbers to patterns. Maps from positions to bools that the call makes; the reading of a map of numbers as an equation. -/
import Derived.Test.YtnhapgbjaeaamaaDoorMEM
import Derived.Maps.OwnSet
import Derived.Maps.RangeWalk
import Derived.Test.YtnhapgbjaeaamaaDoorProg
import Derived.Test.YtnhapgbjaeaamaaDoorPLN
import Derived.Maps.OwnOps
import Derived.DeepKeys4
set_option linter.unusedSimpArgs false
set_option linter.unusedVariables false
section
namespace Go.Proofs.YtnhapgbjaeaamaaDoor
open Go Go.RowKit
/-- How the keys and the elements of a map are spelled. -/
structure MK (P : Program) (k e : TypeId) (κ ε : Type) where
  K : Maps.Keyed P k
  kv : κ → Value
  okK : κ → Prop
  key : ∀ x, okK x → ∃ kl, keyOf P k (kv x) = some kl
  keyInv : ∀ v kl, keyOf P k v = some kl → ∃ x, okK x ∧ v = kv x
  kInj : ∀ x y, kv x = kv y → x = y
  ev : ε → Value
  eInj : ∀ x y, ev x = ev y → x = y
  z : ε
  zero : ∀ w, (zeroValue e).run P w = .ok (ev z) w
section
variable {P : Program} {k e : TypeId} {κ ε : Type} (M : MK P k e κ ε)
noncomputable def MK.R (v : Value) : Option (DataW Value × List MemPlace) := if @decide (∃ u, v = M.ev u) (Classical.propDecidable _) = true then some (.held v, []) else none
theorem MK.R_ev (u : ε) : M.R (M.ev u) = some (.held (M.ev u), []) := by
  unfold MK.R
  rw [if_pos (@decide_eq_true _ (Classical.propDecidable _) ⟨u, rfl⟩)]
theorem MK.R_inv {v : Value} {y : DataW Value × List MemPlace} (h : M.R v = some y) : ∃ u, v = M.ev u ∧ y = (.held (M.ev u), []) := by
  unfold MK.R at h
  split at h
  · rename_i hd
    obtain ⟨u, rfl⟩ := @of_decide_eq_true _ (Classical.propDecidable _) hd
    exact ⟨u, rfl, (Option.some.inj h).symm⟩
  · cases h
/-- The datum reads as the function. -/
def MK.Is (D : DataW Value) (f : κ → Option ε) : Prop := ∀ x kl, keyOf P k (M.kv x) = some kl → Maps.has D kl = (f x).isSome ∧ ∀ u, f x = some u → ∀ z, D.atKey kl z = .held (M.ev u)
/-- Block b holds a map of at most n entries that reads as f. -/
def MK.At (b n : Nat) (f : κ → Option ε) (w : World) : Prop := ∃ D : DataW Value, w.ownsMap P k M.R b n D ∧ M.Is D f
/-- The same while it is ranged over by the iterator in block r: lf tells what is still to come. -/
def MK.Rg (b r n : Nat) (f : κ → Option ε) (lf : κ → Bool) (cnt : Nat) (w : World) : Prop := ∃ (D : DataW Value) (left : Lit → Bool), w.ranges P k M.R b r n D left cnt ∧ M.Is D f ∧ ∀ x kl, keyOf P k (M.kv x) = some kl → left kl = lf x
variable {M} {w w' : World} {b n r cnt : Nat} {f : κ → Option ε} {lf : κ → Bool}
theorem MK.At.lt (h : M.At b n f w) : b < w.heap.size := by obtain ⟨D, h1, _⟩ := h; exact h1.lt
theorem MK.At.made (M : MK P k e κ ε) (w : World) : M.At w.heap.size 0 (fun _ => none) (w.alloc (.map #[] 0)) :=
  ⟨.map [], World.ownsMap_made _ _ _ _, fun x kl _ => ⟨rfl, fun v h => by cases h⟩⟩
theorem MK.At.mono {n' : Nat} (h : M.At b n f w) (hn : n ≤ n') : M.At b n' f w := by
  obtain ⟨D, h1, h2⟩ := h
  exact ⟨D, h1.mono hn, h2⟩
theorem MK.At.grown {row : Option Nat} (h : M.At b n f w) (hg : w.grownBy w' row) (hne : some b ≠ row) : M.At b n f w' := by
  obtain ⟨D, h1, h2⟩ := h
  exact ⟨D, h1.kept hg hne, h2⟩
theorem below_grownG (h : Below w.heap.size w w') : w.grownBy w' none := ⟨h.os, h.tape, h.output, h.size, fun i hi _ => h.block i hi⟩
theorem MK.At.of (h : M.At b n f w) (hb : Below w.heap.size w w') : M.At b n f w' := h.grown (below_grownG hb) (by simp)
theorem MK.At.alloc (h : M.At b n f w) (o : Obj) : M.At b n f (w.alloc o) := h.grown (World.grownBy_alloc w o none) (by simp)
theorem MK.At.drew (h : M.At b n f w) : M.At b n f w.drew := h
theorem MK.Rg.at_ (h : M.Rg b r n f lf cnt w) : M.At b n f w := by
  obtain ⟨D, left, h1, h2, _⟩ := h
  exact ⟨D, h1.owns, h2⟩
theorem MK.Rg.left_eq (h : M.Rg b r n f lf cnt w) : w.rangeLeft b r = cnt := by
  obtain ⟨D, left, h1, _⟩ := h
  exact h1.left_eq
theorem MK.Rg.lt (h : M.Rg b r n f lf cnt w) : r < w.heap.size ∧ b < w.heap.size ∧ r ≠ b := by
  obtain ⟨D, left, h1, _⟩ := h
  exact ⟨h1.lt, h1.owns.lt, h1.ne⟩
theorem MK.Rg.grown {row : Option Nat} (h : M.Rg b r n f lf cnt w) (hg : w.grownBy w' row) (hb : some b ≠ row) (hr : some r ≠ row) : M.Rg b r n f lf cnt w' := by
  obtain ⟨D, left, h1, h2, h3⟩ := h
  exact ⟨D, left, h1.kept hg hb hr, h2, h3⟩
theorem MK.Rg.of (h : M.Rg b r n f lf cnt w) (hb : Below w.heap.size w w') : M.Rg b r n f lf cnt w' := h.grown (below_grownG hb) (by simp) (by simp)
theorem MK.Rg.alloc (h : M.Rg b r n f lf cnt w) (o : Obj) : M.Rg b r n f lf cnt (w.alloc o) := h.grown (World.grownBy_alloc w o none) (by simp) (by simp)
theorem MK.Is.get {D : DataW Value} (h : M.Is D f) {x : κ} {kl : Lit} (hk : keyOf P k (M.kv x) = some kl) {r : Option ε} (hr : f x = r) : Maps.has D kl = r.isSome ∧ D.atKey kl (.held (M.ev M.z)) = .held (M.ev (r.getD M.z)) := by
  obtain ⟨h1, h2⟩ := h x kl hk
  rw [hr] at h1 h2
  refine ⟨h1, ?_⟩
  cases r with
  | none => exact Maps.atKey_of_not_has h1 _
  | some u => exact h2 u rfl _
variable [DecidableEq κ]
def putG (f : κ → Option ε) (x : κ) (v : ε) : κ → Option ε := fun y => if y = x then some v else f y
def delG (f : κ → Option ε) (x : κ) : κ → Option ε := fun y => if y = x then none else f y
theorem MK.Is.put {D : DataW Value} (h : M.Is D f) (hm : Maps.IsMap D) {x : κ} {kl : Lit} (hk : keyOf P k (M.kv x) = some kl) (v : ε) : M.Is (D.put kl (.held (M.ev v))) (putG f x v) := by
  intro y k' hk'
  have ik := M.K.key hk
  unfold putG
  by_cases e : y = x
  · subst e
    rw [hk] at hk'
    injection hk' with hk'
    subst hk'
    rw [if_pos rfl, Maps.has_put_same hm ik]
    exact ⟨rfl, fun u hu z => by rw [Maps.atKey_put_same hm ik]; injection hu with hu; rw [hu]⟩
  · have hne : k' ≠ kl := fun h0 => e (M.kInj _ _ (M.K.inj (by rw [← h0]; exact hk') hk))
    rw [if_neg e, Maps.has_put_other hne]
    exact ⟨(h y k' hk').1, fun u hu z => by rw [Maps.atKey_put_other hne]; exact (h y k' hk').2 u hu z⟩
theorem MK.Is.del {D : DataW Value} (h : M.Is D f) {x : κ} {kl : Lit} (hk : keyOf P k (M.kv x) = some kl) : M.Is (D.del kl) (delG f x) := by
  intro y k' hk'
  unfold delG
  by_cases e : y = x
  · subst e
    rw [hk] at hk'
    injection hk' with hk'
    subst hk'
    rw [if_pos rfl, Maps.has_del_same]
    exact ⟨rfl, fun u hu => by cases hu⟩
  · have hne : k' ≠ kl := fun h0 => e (M.kInj _ _ (M.K.inj (by rw [← h0]; exact hk') hk))
    rw [if_neg e, Maps.has_del_other hne]
    exact ⟨(h y k' hk').1, fun u hu z => by rw [Maps.atKey_del_other hne]; exact (h y k' hk').2 u hu z⟩
end
section
variable {P : Program} {k e : TypeId} {κ ε : Type} {M : MK P k e κ ε} {w : World} {ops : Array Oper} {rest : List Oper} {o : Oper} {a : Act} {Q : Exit → Act → World → Prop}
/-- 'v, ok := m[x]'. -/
theorem wpList_mg_ok (hg : o.guard = none) (m x : Operand) (t : TypeId) (hop : o.op = Op.lookup t m x true) (ht : P.underlying t = some (.map k e)) (b n : Nat) (f : κ → Option ε) (hm : a.eval m = .map (some b)) (h : M.At b n f w)
    (u : κ) (hu : M.okK u) (hx : a.eval x = M.kv u) (r : Option ε) (hr : f u = r)
    (hK : wpList P ops Q rest (a.put o.dst (.tuple #[M.ev (r.getD M.z), .bool r.isSome])) w) : wpList P ops Q (o :: rest) a w := by
  obtain ⟨D, h1, h2⟩ := h
  obtain ⟨kl, hkl⟩ := M.key u hu
  obtain ⟨h3, h4⟩ := h2.get hkl hr
  refine wpList_lookup_own_ok w hg m x t hop k e M.K ht M.R (M.zero w) (.held (M.ev M.z)) [] (M.R_ev _) b n D hm h1 _ kl hx hkl ?_
  intro v ps hv
  obtain ⟨c, rfl, hc⟩ := M.R_inv hv
  injection hc with hc _
  rw [h4] at hc
  injection hc with hc
  rw [h3, ← hc]
  exact hK
/-- 'm[x]'. -/
theorem wpList_mg_get (hg : o.guard = none) (m x : Operand) (t : TypeId) (hop : o.op = Op.lookup t m x false) (ht : P.underlying t = some (.map k e)) (b n : Nat) (f : κ → Option ε) (hm : a.eval m = .map (some b)) (h : M.At b n f w)
    (u : κ) (hu : M.okK u) (hx : a.eval x = M.kv u) (r : Option ε) (hr : f u = r)
    (hK : wpList P ops Q rest (a.put o.dst (M.ev (r.getD M.z))) w) : wpList P ops Q (o :: rest) a w := by
  obtain ⟨D, h1, h2⟩ := h
  obtain ⟨kl, hkl⟩ := M.key u hu
  obtain ⟨h3, h4⟩ := h2.get hkl hr
  refine wpList_plain hg fun K' hK' => ?_
  obtain ⟨v, ps, hrun, hv⟩ := h1.lookup M.K ht (M.zero w) (M.R_ev _) hkl
  obtain ⟨c, rfl, hc⟩ := M.R_inv hv
  injection hc with hc _
  rw [h4] at hc
  injection hc with hc
  unfold Oper.wp
  simp [execOp, hop, hm, hx, hrun, Result.andThen]
  exact hK' _ _ (by rw [← hc]; exact hK)
variable [DecidableEq κ]
/-- 'm[x] = v'. -/
theorem wpList_mg_put (hg : o.guard = none) (m x v : Operand) (t : TypeId) (hop : o.op = Op.mapUpdate t m x v) (ht : P.underlying t = some (.map k e)) (b n : Nat) (f : κ → Option ε) (hm : a.eval m = .map (some b)) (h : M.At b n f w) (hn : n < 1000000000)
    (u : κ) (hu : M.okK u) (s : ε) (hx : a.eval x = M.kv u) (hv : a.eval v = M.ev s)
    (hK : ∀ w', M.At b (n + 1) (putG f u s) w' → w.grownBy w' (some b) → wpList P ops Q rest (a.put o.dst undef) w') : wpList P ops Q (o :: rest) a w := by
  obtain ⟨D, h1, h2⟩ := h
  obtain ⟨kl, hkl⟩ := M.key u hu
  refine wpList_mapUpdate_own w hg m x v t hop k e M.K ht M.R b n D hm h1 (by unfold maxLen; omega) _ _ kl hx hv hkl (.held (M.ev s)) [] (M.R_ev s) ?_
  intro w' g1 g2
  exact hK w' ⟨_, g1, h2.put h1.isMap hkl s⟩ g2
/-- 'delete(m, x)'. -/
theorem wpList_mg_del (hg : o.guard = none) (m x : Operand) (t : TypeId) (hop : o.op = Op.call { callee := Callee.builtin Builtin.delete, args := #[m, x], argTypes := #[t, k] }) (ht : P.underlying t = some (.map k e)) (b n : Nat) (f : κ → Option ε) (hm : a.eval m = .map (some b)) (h : M.At b n f w)
    (u : κ) (hu : M.okK u) (hx : a.eval x = M.kv u)
    (hK : ∀ w', M.At b n (delG f u) w' → w.grownBy w' (some b) → wpList P ops Q rest (a.put o.dst (.tuple #[])) w') : wpList P ops Q (o :: rest) a w := by
  obtain ⟨D, h1, h2⟩ := h
  obtain ⟨kl, hkl⟩ := M.key u hu
  refine wpList_delete_own w hg m x t k hop e M.K ht M.R b n D hm h1 _ kl hx hkl ?_
  intro w' g1 g2
  exact hK w' ⟨_, g1, h2.del hkl⟩ g2.grown
omit [DecidableEq κ] in
/-- 'range m'. -/
theorem wpList_mg_range (hg : o.guard = none) (m : Operand) (t : TypeId) (hop : o.op = Op.range t m) (ht : P.underlying t = some (.map k e)) (b n : Nat) (f : κ → Option ε) (hm : a.eval m = .map (some b)) (h : M.At b n f w)
    (hK : ∀ w' cnt, M.Rg b w.heap.size n f (fun x => (f x).isSome) cnt w' → w.grownBy w' none → w'.heap.size = w.heap.size + 1 → wpList P ops Q rest (a.put o.dst (.pointer (some ⟨w.heap.size, 0, none⟩))) w') : wpList P ops Q (o :: rest) a w := by
  obtain ⟨D, h1, h2⟩ := h
  refine wpList_range_own w hg m t hop k e M.K ht M.R b n D hm h1 ?_
  intro w' g1 g2 g3
  exact hK w' _ ⟨D, _, g1, h2, fun x kl hk => (h2 x kl hk).1⟩ g2 g3
/-- The step of a range over a map. -/
theorem wpList_mg_next (hg : o.guard = none) (it : Operand) (hop : o.op = Op.next it false) (b r n : Nat) (f : κ → Option ε) (lf : κ → Bool) (cnt : Nat) (hit : a.eval it = .pointer (some ⟨r, 0, none⟩)) (h : M.Rg b r n f lf cnt w)
    (hDone : (∀ x, M.okK x → lf x = false) → wpList P ops Q rest (a.put o.dst (.tuple #[.bool false])) w)
    (hMore : ∀ (x : κ) (c : ε) (w' : World) (cnt' : Nat), M.okK x → lf x = true → f x = some c → M.Rg b r n f (fun y => lf y && decide (y ≠ x)) cnt' w' → cnt' < cnt →
      w.grownBy w' (some r) → w'.heap.size = w.heap.size → (Instr.entry (.pointer (some ⟨r, 0, none⟩))).run P w' = .ok (.tuple #[M.kv x, M.ev c]) w' → wpList P ops Q rest (a.put o.dst (.tuple #[.bool true, M.kv x, M.ev c])) w') :
    wpList P ops Q (o :: rest) a w := by
  obtain ⟨D, left, h1, h2, h3⟩ := h
  refine wpList_next_ranges w hg it hop k M.K M.R M.kv M.ev (fun v kl hk => by obtain ⟨x, _, hx⟩ := M.keyInv v kl hk; exact ⟨x, hx⟩) (fun v y hv => by obtain ⟨c, hc, _⟩ := M.R_inv hv; exact ⟨c, hc⟩) b r n D left cnt hit h1 ?_ ?_
  · intro _ hl
    refine hDone fun x hx => ?_
    obtain ⟨kl, hkl⟩ := M.key x hx
    rw [← h3 x kl hkl]; exact hl kl
  · intro x c kl y w' cnt' hkey hlk hv hat hrg hlt hgr hsz hen
    obtain ⟨x', hx', ex⟩ := M.keyInv _ _ hkey
    obtain rfl := M.kInj _ _ ex
    obtain ⟨c', ec, hy⟩ := M.R_inv hv
    obtain rfl := M.eInj _ _ ec
    obtain ⟨i1, i2⟩ := h2 x kl hkey
    have hf : f x = some c := by
      cases hfx : f x with
      | none =>
        rw [hfx] at i1
        have a1 := (Maps.atKey_of_not_has i1 .nil).symm.trans (hat .nil)
        have a2 := (Maps.atKey_of_not_has i1 (.slice [] [])).symm.trans (hat (.slice [] []))
        rw [← a1] at a2
        cases a2
      | some u =>
        have a1 := (i2 u hfx .nil).symm.trans (hat .nil)
        rw [hy] at a1
        injection a1 with a1
        rw [M.eInj _ _ a1]
    refine hMore x c w' cnt' hx' ((h3 x kl hkey).symm.trans hlk) hf ⟨D, _, hrg, h2, fun y' k' hk' => ?_⟩ hlt hgr hsz hen
    rw [h3 y' k' hk']
    congr 1
    by_cases e : y' = x
    · subst e
      rw [hkey] at hk'
      injection hk' with hk'
      subst hk'
      rw [WideAt.sameKey_self (M.K.key hkey)]
      simp
    · have hne : k' ≠ kl := fun h0 => e (M.kInj _ _ (M.K.inj (by rw [← h0]; exact hk') hkey))
      rw [Maps.sameKey_ne hne]
      simp [e]
end
end Go.Proofs.YtnhapgbjaeaamaaDoor
end
section
namespace Go.Proofs.YtnhapgbjaeaamaaDoor
open Go Go.RowKit
set_option maxRecDepth 100000
theorem laidOutM : laidOutB Tryd.prog = true := by kernel_rfl
theorem pt_row : (56 : TypeId) < Tryd.prog.types.size := of_decide_eq_true (by kernel_rfl)
theorem pt_wide : (match Tryd.prog.underlying 56 with | some (.array _ _) | some (.struct _) => true | _ => false) = true := by rw [Tryd.underlying56]
theorem pt_keyed : Maps.Keyed Tryd.prog 56 := Maps.Keyed.of_law (deep_law_laid laidOutM (m := 2) (by omega) pt_row (by kernel_rfl) pt_wide)
theorem i64_wf {a : Int} (h : I64 a) : (Lit.int .i64 a).wf = true := by
  unfold I64 at h
  simp [Lit.wf, IntKind.min, IntKind.max, IntKind.signed, IntKind.bits]; omega
theorem pt_key {x y : Int} (hx : I64 x) (hy : I64 y) : ∃ kl, keyOf Tryd.prog 56 (.agg #[.int .i64 x, .int .i64 y]) = some kl := by
  have hk : Tryd.prog.keyType 56 = true := by kernel_rfl
  have hc : Tryd.prog.cellsOf 56 = 2 := by kernel_rfl
  have hf : (Value.agg #[.int .i64 x, .int .i64 y]).formed Tryd.prog 56 = true := by simp [Value.formed, Tryd.underlying56, hc]
  have hd : ∃ d, Tryd.prog.types.size = d + 1 := ⟨Tryd.prog.types.size - 1, (Nat.succ_pred_eq_of_pos (Nat.lt_of_le_of_lt (Nat.zero_le _) pt_row)).symm⟩
  obtain ⟨d, hd⟩ := hd
  have hx1 : Tryd.prog.keyLits (d + 1) 3 [.int .i64 x] = some [.int .i64 x] := by simp [Program.keyLits, Tryd.underlying3, i64_wf hx]
  have hy1 : Tryd.prog.keyLits (d + 1) 3 [.int .i64 y] = some [.int .i64 y] := by simp [Program.keyLits, Tryd.underlying3, i64_wf hy]
  have h1 : Tryd.prog.cellsOf 3 = 1 := by kernel_rfl
  refine ⟨.string (keyBytes [.int .i64 x, .int .i64 y]), ?_⟩
  unfold keyOf
  rw [Tryd.underlying56]
  simp only [hk, hf, Bool.and_self, if_true, hd]
  have hl : Tryd.prog.keyLits (d + 1 + 1) 56 [.int .i64 x, .int .i64 y] = some [.int .i64 x, .int .i64 y] := by
    unfold Program.keyLits
    simp [Tryd.underlying56, hc, h1, hx1, hy1]
  show (Option.map _ (Tryd.prog.keyLits (d + 1 + 1) 56 [.int .i64 x, .int .i64 y])) = _
  rw [hl]; rfl
theorem pt_inj {x y x' y' : Int} {kl : Lit} (h : keyOf Tryd.prog 56 (.agg #[.int .i64 x, .int .i64 y]) = some kl) (h' : keyOf Tryd.prog 56 (.agg #[.int .i64 x', .int .i64 y']) = some kl) : x = x' ∧ y = y' := by
  have := pt_keyed.inj h h'
  simpa using this
/-- Block b holds a map of at most n entries: at a position of machine numbers it holds f there. -/
def PM (b n : Nat) (f : Int → Int → Option Int) (w : World) : Prop :=
  ∃ D : DataW Unit, w.ownsMap Tryd.prog 56 (plainElem Tryd.prog 3) b n D ∧
    ∀ x y kl, keyOf Tryd.prog 56 (.agg #[.int .i64 x, .int .i64 y]) = some kl → Maps.has D kl = (f x y).isSome ∧ ∀ v, f x y = some v → ∀ z, D.atKey kl z = .lit (.int .i64 v)
theorem PM.lt {b n : Nat} {f : Int → Int → Option Int} {w : World} (h : PM b n f w) : b < w.heap.size := by obtain ⟨D, h1, _⟩ := h; exact h1.lt
theorem PM.made (w : World) : PM w.heap.size 0 (fun _ _ => none) (w.alloc (.map #[] 0)) :=
  ⟨.map [], World.ownsMap_made _ _ _ _, fun x y kl _ => ⟨rfl, fun v h => by cases h⟩⟩
theorem PM.grown {b n : Nat} {f : Int → Int → Option Int} {w w' : World} {row : Option Nat} (h : PM b n f w) (hg : w.grownBy w' row) (hne : some b ≠ row) : PM b n f w' := by
  obtain ⟨D, h1, h2⟩ := h
  exact ⟨D, h1.kept hg hne, h2⟩
theorem below_grownBy {w w' : World} (h : Below w.heap.size w w') : w.grownBy w' none := ⟨h.os, h.tape, h.output, h.size, fun i hi _ => h.block i hi⟩
theorem PM.of {b n : Nat} {f : Int → Int → Option Int} {w w' : World} (h : PM b n f w) (hb : Below w.heap.size w w') : PM b n f w' := h.grown (below_grownBy hb) (by simp)
theorem PM.alloc {b n : Nat} {f : Int → Int → Option Int} {w : World} (h : PM b n f w) (o : Obj) : PM b n f (w.alloc o) := h.grown (World.grownBy_alloc w o none) (by simp)
theorem PM.drew {b n : Nat} {f : Int → Int → Option Int} {w : World} (h : PM b n f w) : PM b n f w.drew := h
theorem int_zero (w : World) : (zeroValue 3).run Tryd.prog w = .ok (.int .i64 0) w := Tryd.zeroValue3 w
/-- The map with another entry; without one. -/
def putF (f : Int → Int → Option Int) (x y v : Int) : Int → Int → Option Int := fun a b => if a = x ∧ b = y then some v else f a b
def delF (f : Int → Int → Option Int) (x y : Int) : Int → Int → Option Int := fun a b => if a = x ∧ b = y then none else f a b
section
variable {w : World} {ops : Array Oper} {rest : List Oper} {o : Oper} {a : Act} {Q : Exit → Act → World → Prop}
/-- 'v, ok := m[p]'. -/
theorem wpList_pm_ok (hg : o.guard = none) (m x : Operand) (t : TypeId) (hop : o.op = Op.lookup t m x true) (ht : Tryd.prog.underlying t = some (.map 56 3)) (b n : Nat) (f : Int → Int → Option Int) (hm : a.eval m = .map (some b)) (h : PM b n f w)
    (u v : Int) (hu : I64 u) (hv : I64 v) (hx : a.eval x = .agg #[.int .i64 u, .int .i64 v]) (r : Option Int) (hr : f u v = r)
    (hK : wpList Tryd.prog ops Q rest (a.put o.dst (.tuple #[.int .i64 (r.getD 0), .bool r.isSome])) w) : wpList Tryd.prog ops Q (o :: rest) a w := by
  obtain ⟨D, h1, h2⟩ := h
  obtain ⟨kl, hkl⟩ := pt_key hu hv
  obtain ⟨h3, h4⟩ := h2 u v kl hkl
  rw [hr] at h3
  refine wpList_lookup_own_ok_int w hg m x t hop 56 3 .i64 pt_keyed ht Tryd.underlying3 (int_zero w) b n D hm h1 _ kl hx hkl ?_
  intro c hat hwc
  rw [h3]
  cases r with
  | none =>
    rw [Maps.atKey_of_not_has h3] at hat
    injection hat with hat
    injection hat with _ hat
    subst hat
    exact hK
  | some z =>
    rw [h4 z hr] at hat
    injection hat with hat
    injection hat with _ hat
    subst hat
    exact hK
/-- 'm[p]'. -/
theorem wpList_pm_get (hg : o.guard = none) (m x : Operand) (t : TypeId) (hop : o.op = Op.lookup t m x false) (ht : Tryd.prog.underlying t = some (.map 56 3)) (b n : Nat) (f : Int → Int → Option Int) (hm : a.eval m = .map (some b)) (h : PM b n f w)
    (u v : Int) (hu : I64 u) (hv : I64 v) (hx : a.eval x = .agg #[.int .i64 u, .int .i64 v])
    (hK : wpList Tryd.prog ops Q rest (a.put o.dst (.int .i64 ((f u v).getD 0))) w) : wpList Tryd.prog ops Q (o :: rest) a w := by
  obtain ⟨D, h1, h2⟩ := h
  obtain ⟨kl, hkl⟩ := pt_key hu hv
  obtain ⟨h3, h4⟩ := h2 u v kl hkl
  refine wpList_lookup_own_int w hg m x t hop 56 3 .i64 pt_keyed ht Tryd.underlying3 (int_zero w) b n D hm h1 _ kl hx hkl ?_
  intro c hat hwc
  cases hf : f u v with
  | none =>
    rw [hf] at h3
    rw [Maps.atKey_of_not_has h3] at hat
    injection hat with hat
    injection hat with _ hat
    subst hat
    rw [hf] at hK
    exact hK
  | some z =>
    rw [h4 z hf] at hat
    injection hat with hat
    injection hat with _ hat
    subst hat
    rw [hf] at hK
    exact hK
/-- 'm[p] = v'. -/
theorem wpList_pm_put (hg : o.guard = none) (m x v : Operand) (t : TypeId) (hop : o.op = Op.mapUpdate t m x v) (ht : Tryd.prog.underlying t = some (.map 56 3)) (b n : Nat) (f : Int → Int → Option Int) (hm : a.eval m = .map (some b)) (h : PM b n f w) (hn : n < 1000000000)
    (p q s : Int) (hp : I64 p) (hq : I64 q) (hs : I64 s) (hx : a.eval x = .agg #[.int .i64 p, .int .i64 q]) (hv : a.eval v = .int .i64 s)
    (hK : ∀ w', PM b (n + 1) (putF f p q s) w' → w.grownBy w' (some b) → wpList Tryd.prog ops Q rest (a.put o.dst undef) w') : wpList Tryd.prog ops Q (o :: rest) a w := by
  obtain ⟨D, h1, h2⟩ := h
  obtain ⟨kl, hkl⟩ := pt_key hp hq
  refine wpList_mapUpdate_own w hg m x v t hop 56 3 pt_keyed ht (plainElem Tryd.prog 3) b n D hm h1 (by unfold maxLen; omega) _ _ kl hx hv hkl (.lit (.int .i64 s)) [] (plainElem_int Tryd.underlying3 (i64_wf hs)) ?_
  intro w' g1 g2
  refine hK w' ⟨_, g1, fun x y k' hk' => ?_⟩ g2
  by_cases e : x = p ∧ y = q
  · obtain ⟨rfl, rfl⟩ := e
    rw [hkl] at hk'
    injection hk' with hk'
    subst hk'
    have ik := pt_keyed.key hkl
    unfold putF
    rw [if_pos ⟨rfl, rfl⟩, Maps.has_put_same h1.isMap ik]
    exact ⟨rfl, fun v hv z => by rw [Maps.atKey_put_same h1.isMap ik]; injection hv with hv; rw [hv]⟩
  · have hne : k' ≠ kl := fun h0 => e (by rw [h0] at hk'; exact pt_inj hk' hkl)
    unfold putF
    rw [if_neg e, Maps.has_put_other hne]
    exact ⟨(h2 x y k' hk').1, fun v hv z => by rw [Maps.atKey_put_other hne]; exact (h2 x y k' hk').2 v hv z⟩
/-- 'delete(m, p)'. -/
theorem wpList_pm_del (hg : o.guard = none) (m x : Operand) (t : TypeId) (hop : o.op = Op.call { callee := Callee.builtin Builtin.delete, args := #[m, x], argTypes := #[t, 56] }) (ht : Tryd.prog.underlying t = some (.map 56 3)) (b n : Nat) (f : Int → Int → Option Int) (hm : a.eval m = .map (some b)) (h : PM b n f w)
    (p q : Int) (hp : I64 p) (hq : I64 q) (hx : a.eval x = .agg #[.int .i64 p, .int .i64 q])
    (hK : ∀ w', PM b n (delF f p q) w' → w.grownBy w' (some b) → wpList Tryd.prog ops Q rest (a.put o.dst (.tuple #[])) w') : wpList Tryd.prog ops Q (o :: rest) a w := by
  obtain ⟨D, h1, h2⟩ := h
  obtain ⟨kl, hkl⟩ := pt_key hp hq
  refine wpList_delete_own w hg m x t 56 hop 3 pt_keyed ht (plainElem Tryd.prog 3) b n D hm h1 _ kl hx hkl ?_
  intro w' g1 g2
  refine hK w' ⟨_, g1, fun x y k' hk' => ?_⟩ g2.grown
  by_cases e : x = p ∧ y = q
  · obtain ⟨rfl, rfl⟩ := e
    rw [hkl] at hk'
    injection hk' with hk'
    subst hk'
    unfold delF
    rw [if_pos ⟨rfl, rfl⟩, Maps.has_del_same]
    exact ⟨rfl, fun v hv => by cases hv⟩
  · have hne : k' ≠ kl := fun h0 => e (by rw [h0] at hk'; exact pt_inj hk' hkl)
    unfold delF
    rw [if_neg e, Maps.has_del_other hne]
    exact ⟨(h2 x y k' hk').1, fun v hv z => by rw [Maps.atKey_del_other hne]; exact (h2 x y k' hk').2 v hv z⟩
end
end Go.Proofs.YtnhapgbjaeaamaaDoor
end
section
namespace Go.Proofs.YtnhapgbjaeaamaaDoor
open Go Go.RowKit
set_option maxRecDepth 100000
theorem pt_keyInv (v : Value) (kl : Lit) (h : keyOf Tryd.prog 56 v = some kl) : ∃ x : Int × Int, (I64 x.1 ∧ I64 x.2) ∧ v = .agg #[.int .i64 x.1, .int .i64 x.2] := by
  have hc : Tryd.prog.cellsOf 56 = 2 := by kernel_rfl
  have h1 : Tryd.prog.cellsOf 3 = 1 := by kernel_rfl
  have i64 : ∀ n : Int, (Lit.int .i64 n).wf = true → I64 n := fun n hw => by
    simp [Lit.wf, IntKind.min, IntKind.max, IntKind.signed, IntKind.bits] at hw
    unfold I64; omega
  unfold keyOf at h
  rw [Tryd.underlying56] at h
  simp only at h
  split at h
  case isFalse => cases h
  case isTrue hf =>
    simp only [Bool.and_eq_true] at hf
    cases v with
    | agg cs =>
      obtain ⟨cl⟩ := cs
      have hsz : cl.length = 2 := by
        have h2 := hf.2
        simp [Value.formed, Tryd.underlying56, hc] at h2
        exact h2
      match cl, hsz with
      | [a, b], _ =>
        obtain ⟨d, hd⟩ : ∃ d, Tryd.prog.types.size = d + 1 := ⟨Tryd.prog.types.size - 1, (Nat.succ_pred_eq_of_pos (Nat.lt_of_le_of_lt (Nat.zero_le _) pt_row)).symm⟩
        rw [hd] at h
        simp only [Option.map_eq_some_iff] at h
        obtain ⟨ls, hl, _⟩ := h
        have hcells : (Value.agg ⟨[a, b]⟩).cells.toList = [a, b] := rfl
        rw [hcells] at hl
        unfold Program.keyLits at hl
        simp [Tryd.underlying56, hc, h1] at hl
        obtain ⟨x, hx⟩ : ∃ x, Tryd.prog.keyLits (d + 1) 3 [a] = some x := by
          cases hx : Tryd.prog.keyLits (d + 1) 3 [a] with
          | none => rw [hx] at hl; cases hl
          | some x => exact ⟨x, rfl⟩
        obtain ⟨y, hy⟩ : ∃ y, Tryd.prog.keyLits (d + 1) 3 [b] = some y := by
          cases hy : Tryd.prog.keyLits (d + 1) 3 [b] with
          | none => rw [hx, hy] at hl; cases hl
          | some y => exact ⟨y, rfl⟩
        have key1 : ∀ u l, Tryd.prog.keyLits (d + 1) 3 [u] = some l → ∃ n, I64 n ∧ u = .int .i64 n := by
          intro u l hu
          unfold Program.keyLits at hu
          rw [Tryd.underlying3] at hu
          cases u <;> simp at hu
          obtain ⟨⟨rfl, hw⟩, _⟩ := hu
          exact ⟨_, i64 _ hw, rfl⟩
        obtain ⟨n, hn, rfl⟩ := key1 _ _ hx
        obtain ⟨m, hm, rfl⟩ := key1 _ _ hy
        exact ⟨(n, m), ⟨hn, hm⟩, rfl⟩
    | _ => simp [Value.formed, Tryd.underlying56] at hf
def ptV (x : Int × Int) : Value := .agg #[.int .i64 x.1, .int .i64 x.2]
theorem ptV_inj (x y : Int × Int) (h : ptV x = ptV y) : x = y := by
  unfold ptV at h
  simp at h
  exact Prod.ext h.1 h.2
/-- Positions to numbers. -/
def mkPI : MK Tryd.prog 56 3 (Int × Int) Int where
  K := pt_keyed
  kv := ptV
  okK x := I64 x.1 ∧ I64 x.2
  key x hx := pt_key hx.1 hx.2
  keyInv := pt_keyInv
  kInj := ptV_inj
  ev := Value.int .i64
  eInj x y h := by injection h
  z := 0
  zero w := Tryd.zeroValue3 w
/-- Positions to bools. -/
def mkPB : MK Tryd.prog 56 4 (Int × Int) Bool where
  K := pt_keyed
  kv := ptV
  okK x := I64 x.1 ∧ I64 x.2
  key x hx := pt_key hx.1 hx.2
  keyInv := pt_keyInv
  kInj := ptV_inj
  ev := Value.bool
  eInj x y h := by injection h
  z := false
  zero w := Tryd.zeroValue4 w
/-- Numbers to patterns: the slices' heads. -/
def hdV (h : Option Addr × Nat × Nat) : Value := .slice h.1 h.2.1 h.2.2
def mkIS : MK Tryd.prog 3 30 Int (Option Addr × Nat × Nat) where
  K := Maps.int_keyed Tryd.underlying3
  kv := Value.int .i64
  okK := I64
  key x hx := ⟨_, Maps.keyOf_int_mk Tryd.underlying3 (i64_wf hx)⟩
  keyInv v kl h := by
    obtain ⟨x, rfl, _, hw⟩ := Maps.keyOf_int_inv Tryd.underlying3 h
    exact ⟨x, by simp [Lit.wf, IntKind.min, IntKind.max, IntKind.signed, IntKind.bits] at hw; unfold I64; omega, rfl⟩
  kInj x y h := by injection h
  ev := hdV
  eInj x y h := by
    unfold hdV at h
    injection h with h1 h2 h3
    exact Prod.ext h1 (Prod.ext h2 h3)
  z := (none, 0, 0)
  zero w := Tryd.zeroValue30 w
end Go.Proofs.YtnhapgbjaeaamaaDoor
end
section
namespace Go.Proofs.YtnhapgbjaeaamaaDoor
open Go Go.RowKit
set_option maxRecDepth 100000
section
variable {w : World} {ops : Array Oper} {rest : List Oper} {o : Oper} {a : Act} {Q : Exit → Act → World → Prop}
/-- 'm[p]', a bool. -/
theorem wpList_pb_get (hg : o.guard = none) (m x : Operand) (t : TypeId) (hop : o.op = Op.lookup t m x false) (ht : Tryd.prog.underlying t = some (.map 56 4)) (b n : Nat) (f : Int × Int → Option Bool) (hm : a.eval m = .map (some b)) (h : mkPB.At b n f w)
    (u v : Int) (hu : I64 u) (hv : I64 v) (hx : a.eval x = .agg #[.int .i64 u, .int .i64 v]) (q : Bool) (hr : (f (u, v)).getD false = q)
    (hK : wpList Tryd.prog ops Q rest (a.put o.dst (.bool q)) w) : wpList Tryd.prog ops Q (o :: rest) a w :=
  wpList_mg_get (M := mkPB) hg m x t hop ht b n f hm h (u, v) ⟨hu, hv⟩ hx _ rfl (by show wpList _ _ _ _ (a.put o.dst (.bool ((f (u, v)).getD false))) _; rw [hr]; exact hK)
/-- 'm[p] = v', a bool. -/
theorem wpList_pb_put (hg : o.guard = none) (m x v : Operand) (t : TypeId) (hop : o.op = Op.mapUpdate t m x v) (ht : Tryd.prog.underlying t = some (.map 56 4)) (b n : Nat) (f : Int × Int → Option Bool) (hm : a.eval m = .map (some b)) (h : mkPB.At b n f w) (hn : n < 1000000000)
    (p q : Int) (hp : I64 p) (hq : I64 q) (s : Bool) (hx : a.eval x = .agg #[.int .i64 p, .int .i64 q]) (hv : a.eval v = .bool s)
    (hK : ∀ w', mkPB.At b (n + 1) (putG f (p, q) s) w' → w.grownBy w' (some b) → wpList Tryd.prog ops Q rest (a.put o.dst undef) w') : wpList Tryd.prog ops Q (o :: rest) a w :=
  wpList_mg_put (M := mkPB) hg m x v t hop ht b n f hm h hn (p, q) ⟨hp, hq⟩ s hx hv hK
end
/-- 'm[p]' as an equation on the operation's run. -/
theorem PM.look {b n : Nat} {f : Int → Int → Option Int} {w : World} (h : PM b n f w) {t : TypeId} (ht : Tryd.prog.underlying t = some (.map 56 3)) {u v r : Int} (hu : I64 u) (hv : I64 v) (hr : (f u v).getD 0 = r) :
    (Instr.lookup t (.map (some b)) (.agg #[.int .i64 u, .int .i64 v]) false).run Tryd.prog w = .ok (.int .i64 r) w := by
  obtain ⟨D, h1, h2⟩ := h
  obtain ⟨kl, hkl⟩ := pt_key hu hv
  obtain ⟨h3, h4⟩ := h2 u v kl hkl
  obtain ⟨c, hrun, hat, _⟩ := h1.lookup_int pt_keyed ht Tryd.underlying3 (int_zero w) hkl
  rw [hrun]
  cases hf : f u v with
  | none =>
    rw [hf] at h3 hr
    rw [Maps.atKey_of_not_has h3] at hat
    injection hat with hat
    injection hat with _ hat
    rw [← hat, ← hr]; rfl
  | some z =>
    rw [hf] at hr
    rw [h4 z hf] at hat
    injection hat with hat
    injection hat with _ hat
    rw [← hat, ← hr]; rfl
end Go.Proofs.YtnhapgbjaeaamaaDoor
end
