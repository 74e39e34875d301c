/- Maps that the call itself makes: what they hold, as functions of the key; ranging over them. Over any program. A map from positions to numbers that the call itself makes: what it holds, as a function of the position. The kinds of maps that the program makes: from positions to numbers, to bools, to nothing; from numbers to patterns. Maps from positions to bools that the call makes; the reading of a map of numbers as an equation. Plain: what the maps of delta.Of and delta.Apply hold, and what comes out of them. No program in sight. The laws of maps from positions to numbers, their values written out. -/
import Derived.Test.YtellglbmbocgkaaGreatDoorMEM
import Derived.Maps.OwnSet
import Derived.Maps.RangeWalk
import Derived.Test.YtellglbmbocgkaaGreatDoorProg
import Derived.Test.YtellglbmbocgkaaGreatDoorPLN
import Derived.Maps.OwnOps
import Derived.DeepKeys4
set_option linter.unusedSimpArgs false
set_option linter.unusedVariables false
section
namespace Go.Proofs.YtellglbmbocgkaaGreatDoor
open Go Go.RowKit
/-- How the keys and the elements of a map are spelled. -/
structure MK (P : Program) (k e : TypeId) (κ ε : Type) where
  K : Maps.Keyed P k
  kv : κ → Value
  okK : κ → Prop
  key : ∀ x, okK x → ∃ kl, keyOf P k (kv x) = some kl
  keyInv : ∀ v kl, keyOf P k v = some kl → ∃ x, okK x ∧ v = kv x
  kInj : ∀ x y, kv x = kv y → x = y
  ev : ε → Value
  eInj : ∀ x y, ev x = ev y → x = y
  z : ε
  zero : ∀ w, (zeroValue e).run P w = .ok (ev z) w
section
variable {P : Program} {k e : TypeId} {κ ε : Type} (M : MK P k e κ ε)
noncomputable def MK.R (v : Value) : Option (DataW Value × List MemPlace) := if @decide (∃ u, v = M.ev u) (Classical.propDecidable _) = true then some (.held v, []) else none
theorem MK.R_ev (u : ε) : M.R (M.ev u) = some (.held (M.ev u), []) := by
  unfold MK.R
  rw [if_pos (@decide_eq_true _ (Classical.propDecidable _) ⟨u, rfl⟩)]
theorem MK.R_inv {v : Value} {y : DataW Value × List MemPlace} (h : M.R v = some y) : ∃ u, v = M.ev u ∧ y = (.held (M.ev u), []) := by
  unfold MK.R at h
  split at h
  · rename_i hd
    obtain ⟨u, rfl⟩ := @of_decide_eq_true _ (Classical.propDecidable _) hd
    exact ⟨u, rfl, (Option.some.inj h).symm⟩
  · cases h
/-- The datum reads as the function. -/
def MK.Is (D : DataW Value) (f : κ → Option ε) : Prop := ∀ x kl, keyOf P k (M.kv x) = some kl → Maps.has D kl = (f x).isSome ∧ ∀ u, f x = some u → ∀ z, D.atKey kl z = .held (M.ev u)
/-- Block b holds a map of at most n entries that reads as f. -/
def MK.At (b n : Nat) (f : κ → Option ε) (w : World) : Prop := ∃ D : DataW Value, w.ownsMap P k M.R b n D ∧ M.Is D f
/-- The same while it is ranged over by the iterator in block r: lf tells what is still to come. -/
def MK.Rg (b r n : Nat) (f : κ → Option ε) (lf : κ → Bool) (cnt : Nat) (w : World) : Prop := ∃ (D : DataW Value) (left : Lit → Bool), w.ranges P k M.R b r n D left cnt ∧ M.Is D f ∧ ∀ x kl, keyOf P k (M.kv x) = some kl → left kl = lf x
variable {M} {w w' : World} {b n r cnt : Nat} {f : κ → Option ε} {lf : κ → Bool}
theorem MK.At.lt (h : M.At b n f w) : b < w.heap.size := by obtain ⟨D, h1, _⟩ := h; exact h1.lt
theorem MK.At.made (M : MK P k e κ ε) (w : World) : M.At w.heap.size 0 (fun _ => none) (w.alloc (.map #[] 0)) :=
  ⟨.map [], World.ownsMap_made _ _ _ _, fun x kl _ => ⟨rfl, fun v h => by cases h⟩⟩
theorem MK.At.mono {n' : Nat} (h : M.At b n f w) (hn : n ≤ n') : M.At b n' f w := by
  obtain ⟨D, h1, h2⟩ := h
  exact ⟨D, h1.mono hn, h2⟩
theorem MK.At.grown {row : Option Nat} (h : M.At b n f w) (hg : w.grownBy w' row) (hne : some b ≠ row) : M.At b n f w' := by
  obtain ⟨D, h1, h2⟩ := h
  exact ⟨D, h1.kept hg hne, h2⟩
theorem below_grownG (h : Below w.heap.size w w') : w.grownBy w' none := ⟨h.os, h.tape, h.output, h.size, fun i hi _ => h.block i hi⟩
theorem MK.At.of (h : M.At b n f w) (hb : Below w.heap.size w w') : M.At b n f w' := h.grown (below_grownG hb) (by simp)
theorem MK.At.alloc (h : M.At b n f w) (o : Obj) : M.At b n f (w.alloc o) := h.grown (World.grownBy_alloc w o none) (by simp)
theorem MK.At.drew (h : M.At b n f w) : M.At b n f w.drew := h
theorem MK.Rg.at_ (h : M.Rg b r n f lf cnt w) : M.At b n f w := by
  obtain ⟨D, left, h1, h2, _⟩ := h
  exact ⟨D, h1.owns, h2⟩
theorem MK.Rg.left_eq (h : M.Rg b r n f lf cnt w) : w.rangeLeft b r = cnt := by
  obtain ⟨D, left, h1, _⟩ := h
  exact h1.left_eq
theorem MK.Rg.lt (h : M.Rg b r n f lf cnt w) : r < w.heap.size ∧ b < w.heap.size ∧ r ≠ b := by
  obtain ⟨D, left, h1, _⟩ := h
  exact ⟨h1.lt, h1.owns.lt, h1.ne⟩
theorem MK.Rg.grown {row : Option Nat} (h : M.Rg b r n f lf cnt w) (hg : w.grownBy w' row) (hb : some b ≠ row) (hr : some r ≠ row) : M.Rg b r n f lf cnt w' := by
  obtain ⟨D, left, h1, h2, h3⟩ := h
  exact ⟨D, left, h1.kept hg hb hr, h2, h3⟩
theorem MK.Rg.of (h : M.Rg b r n f lf cnt w) (hb : Below w.heap.size w w') : M.Rg b r n f lf cnt w' := h.grown (below_grownG hb) (by simp) (by simp)
theorem MK.Rg.alloc (h : M.Rg b r n f lf cnt w) (o : Obj) : M.Rg b r n f lf cnt (w.alloc o) := h.grown (World.grownBy_alloc w o none) (by simp) (by simp)
theorem MK.Is.get {D : DataW Value} (h : M.Is D f) {x : κ} {kl : Lit} (hk : keyOf P k (M.kv x) = some kl) {r : Option ε} (hr : f x = r) : Maps.has D kl = r.isSome ∧ D.atKey kl (.held (M.ev M.z)) = .held (M.ev (r.getD M.z)) := by
  obtain ⟨h1, h2⟩ := h x kl hk
  rw [hr] at h1 h2
  refine ⟨h1, ?_⟩
  cases r with
  | none => exact Maps.atKey_of_not_has h1 _
  | some u => exact h2 u rfl _
variable [DecidableEq κ]
def putG (f : κ → Option ε) (x : κ) (v : ε) : κ → Option ε := fun y => if y = x then some v else f y
def delG (f : κ → Option ε) (x : κ) : κ → Option ε := fun y => if y = x then none else f y
theorem MK.Is.put {D : DataW Value} (h : M.Is D f) (hm : Maps.IsMap D) {x : κ} {kl : Lit} (hk : keyOf P k (M.kv x) = some kl) (v : ε) : M.Is (D.put kl (.held (M.ev v))) (putG f x v) := by
  intro y k' hk'
  have ik := M.K.key hk
  unfold putG
  by_cases e : y = x
  · subst e
    rw [hk] at hk'
    injection hk' with hk'
    subst hk'
    rw [if_pos rfl, Maps.has_put_same hm ik]
    exact ⟨rfl, fun u hu z => by rw [Maps.atKey_put_same hm ik]; injection hu with hu; rw [hu]⟩
  · have hne : k' ≠ kl := fun h0 => e (M.kInj _ _ (M.K.inj (by rw [← h0]; exact hk') hk))
    rw [if_neg e, Maps.has_put_other hne]
    exact ⟨(h y k' hk').1, fun u hu z => by rw [Maps.atKey_put_other hne]; exact (h y k' hk').2 u hu z⟩
theorem MK.Is.del {D : DataW Value} (h : M.Is D f) {x : κ} {kl : Lit} (hk : keyOf P k (M.kv x) = some kl) : M.Is (D.del kl) (delG f x) := by
  intro y k' hk'
  unfold delG
  by_cases e : y = x
  · subst e
    rw [hk] at hk'
    injection hk' with hk'
    subst hk'
    rw [if_pos rfl, Maps.has_del_same]
    exact ⟨rfl, fun u hu => by cases hu⟩
  · have hne : k' ≠ kl := fun h0 => e (M.kInj _ _ (M.K.inj (by rw [← h0]; exact hk') hk))
    rw [if_neg e, Maps.has_del_other hne]
    exact ⟨(h y k' hk').1, fun u hu z => by rw [Maps.atKey_del_other hne]; exact (h y k' hk').2 u hu z⟩
end
section
variable {P : Program} {k e : TypeId} {κ ε : Type} {M : MK P k e κ ε} {w : World} {ops : Array Oper} {rest : List Oper} {o : Oper} {a : Act} {Q : Exit → Act → World → Prop}
/-- 'v, ok := m[x]'. -/
theorem wpList_mg_ok (hg : o.guard = none) (m x : Operand) (t : TypeId) (hop : o.op = Op.lookup t m x true) (ht : P.underlying t = some (.map k e)) (b n : Nat) (f : κ → Option ε) (hm : a.eval m = .map (some b)) (h : M.At b n f w)
    (u : κ) (hu : M.okK u) (hx : a.eval x = M.kv u) (r : Option ε) (hr : f u = r)
    (hK : wpList P ops Q rest (a.put o.dst (.tuple #[M.ev (r.getD M.z), .bool r.isSome])) w) : wpList P ops Q (o :: rest) a w := by
  obtain ⟨D, h1, h2⟩ := h
  obtain ⟨kl, hkl⟩ := M.key u hu
  obtain ⟨h3, h4⟩ := h2.get hkl hr
  refine wpList_lookup_own_ok w hg m x t hop k e M.K ht M.R (M.zero w) (.held (M.ev M.z)) [] (M.R_ev _) b n D hm h1 _ kl hx hkl ?_
  intro v ps hv
  obtain ⟨c, rfl, hc⟩ := M.R_inv hv
  injection hc with hc _
  rw [h4] at hc
  injection hc with hc
  rw [h3, ← hc]
  exact hK
/-- 'm[x]'. -/
theorem wpList_mg_get (hg : o.guard = none) (m x : Operand) (t : TypeId) (hop : o.op = Op.lookup t m x false) (ht : P.underlying t = some (.map k e)) (b n : Nat) (f : κ → Option ε) (hm : a.eval m = .map (some b)) (h : M.At b n f w)
    (u : κ) (hu : M.okK u) (hx : a.eval x = M.kv u) (r : Option ε) (hr : f u = r)
    (hK : wpList P ops Q rest (a.put o.dst (M.ev (r.getD M.z))) w) : wpList P ops Q (o :: rest) a w := by
  obtain ⟨D, h1, h2⟩ := h
  obtain ⟨kl, hkl⟩ := M.key u hu
  obtain ⟨h3, h4⟩ := h2.get hkl hr
  refine wpList_plain hg fun K' hK' => ?_
  obtain ⟨v, ps, hrun, hv⟩ := h1.lookup M.K ht (M.zero w) (M.R_ev _) hkl
  obtain ⟨c, rfl, hc⟩ := M.R_inv hv
  injection hc with hc _
  rw [h4] at hc
  injection hc with hc
  unfold Oper.wp
  simp [execOp, hop, hm, hx, hrun, Result.andThen]
  exact hK' _ _ (by rw [← hc]; exact hK)
variable [DecidableEq κ]
/-- 'm[x] = v'. -/
theorem wpList_mg_put (hg : o.guard = none) (m x v : Operand) (t : TypeId) (hop : o.op = Op.mapUpdate t m x v) (ht : P.underlying t = some (.map k e)) (b n : Nat) (f : κ → Option ε) (hm : a.eval m = .map (some b)) (h : M.At b n f w) (hn : n < 1000000000)
    (u : κ) (hu : M.okK u) (s : ε) (hx : a.eval x = M.kv u) (hv : a.eval v = M.ev s)
    (hK : ∀ w', M.At b (n + 1) (putG f u s) w' → w.grownBy w' (some b) → wpList P ops Q rest (a.put o.dst undef) w') : wpList P ops Q (o :: rest) a w := by
  obtain ⟨D, h1, h2⟩ := h
  obtain ⟨kl, hkl⟩ := M.key u hu
  refine wpList_mapUpdate_own w hg m x v t hop k e M.K ht M.R b n D hm h1 (by unfold maxLen; omega) _ _ kl hx hv hkl (.held (M.ev s)) [] (M.R_ev s) ?_
  intro w' g1 g2
  exact hK w' ⟨_, g1, h2.put h1.isMap hkl s⟩ g2
/-- 'delete(m, x)'. -/
theorem wpList_mg_del (hg : o.guard = none) (m x : Operand) (t : TypeId) (hop : o.op = Op.call { callee := Callee.builtin Builtin.delete, args := #[m, x], argTypes := #[t, k] }) (ht : P.underlying t = some (.map k e)) (b n : Nat) (f : κ → Option ε) (hm : a.eval m = .map (some b)) (h : M.At b n f w)
    (u : κ) (hu : M.okK u) (hx : a.eval x = M.kv u)
    (hK : ∀ w', M.At b n (delG f u) w' → w.grownBy w' (some b) → wpList P ops Q rest (a.put o.dst (.tuple #[])) w') : wpList P ops Q (o :: rest) a w := by
  obtain ⟨D, h1, h2⟩ := h
  obtain ⟨kl, hkl⟩ := M.key u hu
  refine wpList_delete_own w hg m x t k hop e M.K ht M.R b n D hm h1 _ kl hx hkl ?_
  intro w' g1 g2
  exact hK w' ⟨_, g1, h2.del hkl⟩ g2.grown
omit [DecidableEq κ] in
/-- 'range m'. -/
theorem wpList_mg_range (hg : o.guard = none) (m : Operand) (t : TypeId) (hop : o.op = Op.range t m) (ht : P.underlying t = some (.map k e)) (b n : Nat) (f : κ → Option ε) (hm : a.eval m = .map (some b)) (h : M.At b n f w)
    (hK : ∀ w' cnt, M.Rg b w.heap.size n f (fun x => (f x).isSome) cnt w' → w.grownBy w' none → w'.heap.size = w.heap.size + 1 → wpList P ops Q rest (a.put o.dst (.pointer (some ⟨w.heap.size, 0, none⟩))) w') : wpList P ops Q (o :: rest) a w := by
  obtain ⟨D, h1, h2⟩ := h
  refine wpList_range_own w hg m t hop k e M.K ht M.R b n D hm h1 ?_
  intro w' g1 g2 g3
  exact hK w' _ ⟨D, _, g1, h2, fun x kl hk => (h2 x kl hk).1⟩ g2 g3
/-- The step of a range over a map. -/
theorem wpList_mg_next (hg : o.guard = none) (it : Operand) (hop : o.op = Op.next it false) (b r n : Nat) (f : κ → Option ε) (lf : κ → Bool) (cnt : Nat) (hit : a.eval it = .pointer (some ⟨r, 0, none⟩)) (h : M.Rg b r n f lf cnt w)
    (hDone : (∀ x, M.okK x → lf x = false) → wpList P ops Q rest (a.put o.dst (.tuple #[.bool false])) w)
    (hMore : ∀ (x : κ) (c : ε) (w' : World) (cnt' : Nat), M.okK x → lf x = true → f x = some c → M.Rg b r n f (fun y => lf y && decide (y ≠ x)) cnt' w' → cnt' < cnt →
      w.grownBy w' (some r) → w'.heap.size = w.heap.size → (Instr.entry (.pointer (some ⟨r, 0, none⟩))).run P w' = .ok (.tuple #[M.kv x, M.ev c]) w' → wpList P ops Q rest (a.put o.dst (.tuple #[.bool true, M.kv x, M.ev c])) w') :
    wpList P ops Q (o :: rest) a w := by
  obtain ⟨D, left, h1, h2, h3⟩ := h
  refine wpList_next_ranges w hg it hop k M.K M.R M.kv M.ev (fun v kl hk => by obtain ⟨x, _, hx⟩ := M.keyInv v kl hk; exact ⟨x, hx⟩) (fun v y hv => by obtain ⟨c, hc, _⟩ := M.R_inv hv; exact ⟨c, hc⟩) b r n D left cnt hit h1 ?_ ?_
  · intro _ hl
    refine hDone fun x hx => ?_
    obtain ⟨kl, hkl⟩ := M.key x hx
    rw [← h3 x kl hkl]; exact hl kl
  · intro x c kl y w' cnt' hkey hlk hv hat hrg hlt hgr hsz hen
    obtain ⟨x', hx', ex⟩ := M.keyInv _ _ hkey
    obtain rfl := M.kInj _ _ ex
    obtain ⟨c', ec, hy⟩ := M.R_inv hv
    obtain rfl := M.eInj _ _ ec
    obtain ⟨i1, i2⟩ := h2 x kl hkey
    have hf : f x = some c := by
      cases hfx : f x with
      | none =>
        rw [hfx] at i1
        have a1 := (Maps.atKey_of_not_has i1 .nil).symm.trans (hat .nil)
        have a2 := (Maps.atKey_of_not_has i1 (.slice [] [])).symm.trans (hat (.slice [] []))
        rw [← a1] at a2
        cases a2
      | some u =>
        have a1 := (i2 u hfx .nil).symm.trans (hat .nil)
        rw [hy] at a1
        injection a1 with a1
        rw [M.eInj _ _ a1]
    refine hMore x c w' cnt' hx' ((h3 x kl hkey).symm.trans hlk) hf ⟨D, _, hrg, h2, fun y' k' hk' => ?_⟩ hlt hgr hsz hen
    rw [h3 y' k' hk']
    congr 1
    by_cases e : y' = x
    · subst e
      rw [hkey] at hk'
      injection hk' with hk'
      subst hk'
      rw [WideAt.sameKey_self (M.K.key hkey)]
      simp
    · have hne : k' ≠ kl := fun h0 => e (M.kInj _ _ (M.K.inj (by rw [← h0]; exact hk') hkey))
      rw [Maps.sameKey_ne hne]
      simp [e]
end
end Go.Proofs.YtellglbmbocgkaaGreatDoor
end
section
namespace Go.Proofs.YtellglbmbocgkaaGreatDoor
open Go Go.RowKit
set_option maxRecDepth 100000
theorem laidOutM : laidOutB Tryz.prog = true := by kernel_rfl
theorem pt_row : (139 : TypeId) < Tryz.prog.types.size := of_decide_eq_true (by kernel_rfl)
theorem pt_wide : (match Tryz.prog.underlying 139 with | some (.array _ _) | some (.struct _) => true | _ => false) = true := by rw [Tryz.underlying139]
theorem pt_keyed : Maps.Keyed Tryz.prog 139 := Maps.Keyed.of_law (deep_law_laid laidOutM (m := 2) (by omega) pt_row (by kernel_rfl) pt_wide)
theorem i64_wf {a : Int} (h : I64 a) : (Lit.int .i64 a).wf = true := by
  unfold I64 at h
  simp [Lit.wf, IntKind.min, IntKind.max, IntKind.signed, IntKind.bits]; omega
theorem pt_key {x y : Int} (hx : I64 x) (hy : I64 y) : ∃ kl, keyOf Tryz.prog 139 (.agg #[.int .i64 x, .int .i64 y]) = some kl := by
  have hk : Tryz.prog.keyType 139 = true := by kernel_rfl
  have hc : Tryz.prog.cellsOf 139 = 2 := by kernel_rfl
  have hf : (Value.agg #[.int .i64 x, .int .i64 y]).formed Tryz.prog 139 = true := by simp [Value.formed, Tryz.underlying139, hc]
  have hd : ∃ d, Tryz.prog.types.size = d + 1 := ⟨Tryz.prog.types.size - 1, (Nat.succ_pred_eq_of_pos (Nat.lt_of_le_of_lt (Nat.zero_le _) pt_row)).symm⟩
  obtain ⟨d, hd⟩ := hd
  have hx1 : Tryz.prog.keyLits (d + 1) 3 [.int .i64 x] = some [.int .i64 x] := by simp [Program.keyLits, Tryz.underlying3, i64_wf hx]
  have hy1 : Tryz.prog.keyLits (d + 1) 3 [.int .i64 y] = some [.int .i64 y] := by simp [Program.keyLits, Tryz.underlying3, i64_wf hy]
  have h1 : Tryz.prog.cellsOf 3 = 1 := by kernel_rfl
  refine ⟨.string (keyBytes [.int .i64 x, .int .i64 y]), ?_⟩
  unfold keyOf
  rw [Tryz.underlying139]
  simp only [hk, hf, Bool.and_self, if_true, hd]
  have hl : Tryz.prog.keyLits (d + 1 + 1) 139 [.int .i64 x, .int .i64 y] = some [.int .i64 x, .int .i64 y] := by
    unfold Program.keyLits
    simp [Tryz.underlying139, hc, h1, hx1, hy1]
  show (Option.map _ (Tryz.prog.keyLits (d + 1 + 1) 139 [.int .i64 x, .int .i64 y])) = _
  rw [hl]; rfl
theorem pt_inj {x y x' y' : Int} {kl : Lit} (h : keyOf Tryz.prog 139 (.agg #[.int .i64 x, .int .i64 y]) = some kl) (h' : keyOf Tryz.prog 139 (.agg #[.int .i64 x', .int .i64 y']) = some kl) : x = x' ∧ y = y' := by
  have := pt_keyed.inj h h'
  simpa using this
def PM (b n : Nat) (f : Int → Int → Option Int) (w : World) : Prop :=
  ∃ D : DataW Unit, w.ownsMap Tryz.prog 139 (plainElem Tryz.prog 3) b n D ∧
    ∀ x y kl, keyOf Tryz.prog 139 (.agg #[.int .i64 x, .int .i64 y]) = some kl → Maps.has D kl = (f x y).isSome ∧ ∀ v, f x y = some v → ∀ z, D.atKey kl z = .lit (.int .i64 v)
theorem PM.lt {b n : Nat} {f : Int → Int → Option Int} {w : World} (h : PM b n f w) : b < w.heap.size := by obtain ⟨D, h1, _⟩ := h; exact h1.lt
theorem PM.made (w : World) : PM w.heap.size 0 (fun _ _ => none) (w.alloc (.map #[] 0)) :=
  ⟨.map [], World.ownsMap_made _ _ _ _, fun x y kl _ => ⟨rfl, fun v h => by cases h⟩⟩
theorem PM.grown {b n : Nat} {f : Int → Int → Option Int} {w w' : World} {row : Option Nat} (h : PM b n f w) (hg : w.grownBy w' row) (hne : some b ≠ row) : PM b n f w' := by
  obtain ⟨D, h1, h2⟩ := h
  exact ⟨D, h1.kept hg hne, h2⟩
theorem below_grownBy {w w' : World} (h : Below w.heap.size w w') : w.grownBy w' none := ⟨h.os, h.tape, h.output, h.size, fun i hi _ => h.block i hi⟩
theorem PM.of {b n : Nat} {f : Int → Int → Option Int} {w w' : World} (h : PM b n f w) (hb : Below w.heap.size w w') : PM b n f w' := h.grown (below_grownBy hb) (by simp)
theorem PM.alloc {b n : Nat} {f : Int → Int → Option Int} {w : World} (h : PM b n f w) (o : Obj) : PM b n f (w.alloc o) := h.grown (World.grownBy_alloc w o none) (by simp)
theorem PM.drew {b n : Nat} {f : Int → Int → Option Int} {w : World} (h : PM b n f w) : PM b n f w.drew := h
theorem int_zero (w : World) : (zeroValue 3).run Tryz.prog w = .ok (.int .i64 0) w := Tryz.zeroValue3 w
def putF (f : Int → Int → Option Int) (x y v : Int) : Int → Int → Option Int := fun a b => if a = x ∧ b = y then some v else f a b
section
variable {w : World} {ops : Array Oper} {rest : List Oper} {o : Oper} {a : Act} {Q : Exit → Act → World → Prop}
theorem wpList_pm_put (hg : o.guard = none) (m x v : Operand) (t : TypeId) (hop : o.op = Op.mapUpdate t m x v) (ht : Tryz.prog.underlying t = some (.map 139 3)) (b n : Nat) (f : Int → Int → Option Int) (hm : a.eval m = .map (some b)) (h : PM b n f w) (hn : n < 1000000000)
    (p q s : Int) (hp : I64 p) (hq : I64 q) (hs : I64 s) (hx : a.eval x = .agg #[.int .i64 p, .int .i64 q]) (hv : a.eval v = .int .i64 s)
    (hK : ∀ w', PM b (n + 1) (putF f p q s) w' → w.grownBy w' (some b) → wpList Tryz.prog ops Q rest (a.put o.dst undef) w') : wpList Tryz.prog ops Q (o :: rest) a w := by
  obtain ⟨D, h1, h2⟩ := h
  obtain ⟨kl, hkl⟩ := pt_key hp hq
  refine wpList_mapUpdate_own w hg m x v t hop 139 3 pt_keyed ht (plainElem Tryz.prog 3) b n D hm h1 (by unfold maxLen; omega) _ _ kl hx hv hkl (.lit (.int .i64 s)) [] (plainElem_int Tryz.underlying3 (i64_wf hs)) ?_
  intro w' g1 g2
  refine hK w' ⟨_, g1, fun x y k' hk' => ?_⟩ g2
  by_cases e : x = p ∧ y = q
  · obtain ⟨rfl, rfl⟩ := e
    rw [hkl] at hk'
    injection hk' with hk'
    subst hk'
    have ik := pt_keyed.key hkl
    unfold putF
    rw [if_pos ⟨rfl, rfl⟩, Maps.has_put_same h1.isMap ik]
    exact ⟨rfl, fun v hv z => by rw [Maps.atKey_put_same h1.isMap ik]; injection hv with hv; rw [hv]⟩
  · have hne : k' ≠ kl := fun h0 => e (by rw [h0] at hk'; exact pt_inj hk' hkl)
    unfold putF
    rw [if_neg e, Maps.has_put_other hne]
    exact ⟨(h2 x y k' hk').1, fun v hv z => by rw [Maps.atKey_put_other hne]; exact (h2 x y k' hk').2 v hv z⟩
end
end Go.Proofs.YtellglbmbocgkaaGreatDoor
end
section
namespace Go.Proofs.YtellglbmbocgkaaGreatDoor
open Go Go.RowKit
set_option maxRecDepth 100000
theorem pt_keyInv (v : Value) (kl : Lit) (h : keyOf Tryz.prog 139 v = some kl) : ∃ x : Int × Int, (I64 x.1 ∧ I64 x.2) ∧ v = .agg #[.int .i64 x.1, .int .i64 x.2] := by
  have hc : Tryz.prog.cellsOf 139 = 2 := by kernel_rfl
  have h1 : Tryz.prog.cellsOf 3 = 1 := by kernel_rfl
  have i64 : ∀ n : Int, (Lit.int .i64 n).wf = true → I64 n := fun n hw => by
    simp [Lit.wf, IntKind.min, IntKind.max, IntKind.signed, IntKind.bits] at hw
    unfold I64; omega
  unfold keyOf at h
  rw [Tryz.underlying139] at h
  simp only at h
  split at h
  case isFalse => cases h
  case isTrue hf =>
    simp only [Bool.and_eq_true] at hf
    cases v with
    | agg cs =>
      obtain ⟨cl⟩ := cs
      have hsz : cl.length = 2 := by
        have h2 := hf.2
        simp [Value.formed, Tryz.underlying139, hc] at h2
        exact h2
      match cl, hsz with
      | [a, b], _ =>
        obtain ⟨d, hd⟩ : ∃ d, Tryz.prog.types.size = d + 1 := ⟨Tryz.prog.types.size - 1, (Nat.succ_pred_eq_of_pos (Nat.lt_of_le_of_lt (Nat.zero_le _) pt_row)).symm⟩
        rw [hd] at h
        simp only [Option.map_eq_some_iff] at h
        obtain ⟨ls, hl, _⟩ := h
        have hcells : (Value.agg ⟨[a, b]⟩).cells.toList = [a, b] := rfl
        rw [hcells] at hl
        unfold Program.keyLits at hl
        simp [Tryz.underlying139, hc, h1] at hl
        obtain ⟨x, hx⟩ : ∃ x, Tryz.prog.keyLits (d + 1) 3 [a] = some x := by
          cases hx : Tryz.prog.keyLits (d + 1) 3 [a] with
          | none => rw [hx] at hl; cases hl
          | some x => exact ⟨x, rfl⟩
        obtain ⟨y, hy⟩ : ∃ y, Tryz.prog.keyLits (d + 1) 3 [b] = some y := by
          cases hy : Tryz.prog.keyLits (d + 1) 3 [b] with
          | none => rw [hx, hy] at hl; cases hl
          | some y => exact ⟨y, rfl⟩
        have key1 : ∀ u l, Tryz.prog.keyLits (d + 1) 3 [u] = some l → ∃ n, I64 n ∧ u = .int .i64 n := by
          intro u l hu
          unfold Program.keyLits at hu
          rw [Tryz.underlying3] at hu
          cases u <;> simp at hu
          obtain ⟨⟨rfl, hw⟩, _⟩ := hu
          exact ⟨_, i64 _ hw, rfl⟩
        obtain ⟨n, hn, rfl⟩ := key1 _ _ hx
        obtain ⟨m, hm, rfl⟩ := key1 _ _ hy
        exact ⟨(n, m), ⟨hn, hm⟩, rfl⟩
    | _ => simp [Value.formed, Tryz.underlying139] at hf
def ptV (x : Int × Int) : Value := .agg #[.int .i64 x.1, .int .i64 x.2]
theorem ptV_inj (x y : Int × Int) (h : ptV x = ptV y) : x = y := by
  unfold ptV at h
  simp at h
  exact Prod.ext h.1 h.2
def mkPI : MK Tryz.prog 139 3 (Int × Int) Int where
  K := pt_keyed
  kv := ptV
  okK x := I64 x.1 ∧ I64 x.2
  key x hx := pt_key hx.1 hx.2
  keyInv := pt_keyInv
  kInj := ptV_inj
  ev := Value.int .i64
  eInj x y h := by injection h
  z := 0
  zero w := Tryz.zeroValue3 w
def mkPB : MK Tryz.prog 139 4 (Int × Int) Bool where
  K := pt_keyed
  kv := ptV
  okK x := I64 x.1 ∧ I64 x.2
  key x hx := pt_key hx.1 hx.2
  keyInv := pt_keyInv
  kInj := ptV_inj
  ev := Value.bool
  eInj x y h := by injection h
  z := false
  zero w := Tryz.zeroValue4 w
end Go.Proofs.YtellglbmbocgkaaGreatDoor
end
section
namespace Go.Proofs.YtellglbmbocgkaaGreatDoor
open Go Go.RowKit
set_option maxRecDepth 100000
section
variable {w : World} {ops : Array Oper} {rest : List Oper} {o : Oper} {a : Act} {Q : Exit → Act → World → Prop}
/-- 'm[p]', a bool. -/
theorem wpList_pb_get (hg : o.guard = none) (m x : Operand) (t : TypeId) (hop : o.op = Op.lookup t m x false) (ht : Tryz.prog.underlying t = some (.map 139 4)) (b n : Nat) (f : Int × Int → Option Bool) (hm : a.eval m = .map (some b)) (h : mkPB.At b n f w)
    (u v : Int) (hu : I64 u) (hv : I64 v) (hx : a.eval x = .agg #[.int .i64 u, .int .i64 v]) (q : Bool) (hr : (f (u, v)).getD false = q)
    (hK : wpList Tryz.prog ops Q rest (a.put o.dst (.bool q)) w) : wpList Tryz.prog ops Q (o :: rest) a w :=
  wpList_mg_get (M := mkPB) hg m x t hop ht b n f hm h (u, v) ⟨hu, hv⟩ hx _ rfl (by show wpList _ _ _ _ (a.put o.dst (.bool ((f (u, v)).getD false))) _; rw [hr]; exact hK)
/-- 'm[p] = v', a bool. -/
theorem wpList_pb_put (hg : o.guard = none) (m x v : Operand) (t : TypeId) (hop : o.op = Op.mapUpdate t m x v) (ht : Tryz.prog.underlying t = some (.map 139 4)) (b n : Nat) (f : Int × Int → Option Bool) (hm : a.eval m = .map (some b)) (h : mkPB.At b n f w) (hn : n < 1000000000)
    (p q : Int) (hp : I64 p) (hq : I64 q) (s : Bool) (hx : a.eval x = .agg #[.int .i64 p, .int .i64 q]) (hv : a.eval v = .bool s)
    (hK : ∀ w', mkPB.At b (n + 1) (putG f (p, q) s) w' → w.grownBy w' (some b) → wpList Tryz.prog ops Q rest (a.put o.dst undef) w') : wpList Tryz.prog ops Q (o :: rest) a w :=
  wpList_mg_put (M := mkPB) hg m x v t hop ht b n f hm h hn (p, q) ⟨hp, hq⟩ s hx hv hK
end
/-- 'm[p]' as an equation on the operation's run. -/
theorem PM.look {b n : Nat} {f : Int → Int → Option Int} {w : World} (h : PM b n f w) {t : TypeId} (ht : Tryz.prog.underlying t = some (.map 139 3)) {u v r : Int} (hu : I64 u) (hv : I64 v) (hr : (f u v).getD 0 = r) :
    (Instr.lookup t (.map (some b)) (.agg #[.int .i64 u, .int .i64 v]) false).run Tryz.prog w = .ok (.int .i64 r) w := by
  obtain ⟨D, h1, h2⟩ := h
  obtain ⟨kl, hkl⟩ := pt_key hu hv
  obtain ⟨h3, h4⟩ := h2 u v kl hkl
  obtain ⟨c, hrun, hat, _⟩ := h1.lookup_int pt_keyed ht Tryz.underlying3 (int_zero w) hkl
  rw [hrun]
  cases hf : f u v with
  | none =>
    rw [hf] at h3 hr
    rw [Maps.atKey_of_not_has h3] at hat
    injection hat with hat
    injection hat with _ hat
    rw [← hat, ← hr]; rfl
  | some z =>
    rw [hf] at hr
    rw [h4 z hf] at hat
    injection hat with hat
    injection hat with _ hat
    rw [← hat, ← hr]; rfl
end Go.Proofs.YtellglbmbocgkaaGreatDoor
end
section
namespace Go.Proofs.YtellglbmbocgkaaGreatDoor
open Go Go.RowKit
section
variable {p a b o : List (Int × Int × Int)} {l : List (Int × Int × Int × Int)} {x y s t u f0 : Int} {f : Int × Int → Option Int} {lf : Int × Int → Bool} {j : Nat}
theorem putG_get (q r : Int × Int) : putG f q s r = if r = q then some s else f r := rfl
theorem delG_get (q r : Int × Int) : delG f q r = if r = q then none else f r := rfl
def hasD (p : List (Int × Int × Int)) (q : Int × Int) : Bool := p.any fun c => decide (c.1 = q.1 ∧ c.2.1 = q.2)
theorem hasD_iff {q : Int × Int} : hasD p q = true ↔ ∃ s, (q.1, q.2, s) ∈ p := by
  unfold hasD
  rw [List.any_eq_true]
  constructor
  · rintro ⟨⟨u, v, s⟩, hm, h⟩
    obtain ⟨h1, h2⟩ := of_decide_eq_true h
    simp only at h1 h2
    subst h1 h2
    exact ⟨s, hm⟩
  · rintro ⟨s, hm⟩
    exact ⟨_, hm, decide_eq_true ⟨rfl, rfl⟩⟩
theorem nodup_subset_len {α : Type} [DecidableEq α] : ∀ (l m : List α), l.Nodup → (∀ x ∈ l, x ∈ m) → l.length ≤ m.length
  | [], _, _, _ => Nat.zero_le _
  | a :: l, m, h, hs => by
    obtain ⟨h1, h2⟩ := List.nodup_cons.1 h
    have ha := hs a (List.mem_cons_self ..)
    have := nodup_subset_len l (m.erase a) h2 fun x hx => by
      have hne : x ≠ a := fun e => h1 (e ▸ hx)
      exact (List.mem_erase_of_ne hne).2 (hs x (List.mem_cons_of_mem _ hx))
    rw [List.length_erase_of_mem ha] at this
    have := List.length_pos_of_mem ha
    simp only [List.length_cons]
    omega
/-- The states of a pattern by position. -/
def cmF (p : List (Int × Int × Int)) : Int × Int → Option Int := p.foldl (fun f c => putG f (c.1, c.2.1) c.2.2) (fun _ => none)
theorem cm_step {c : Int × Int × Int} (h : p[j]? = some c) : cmF (p.take (j + 1)) = putG (cmF (p.take j)) (c.1, c.2.1) c.2.2 := by
  unfold cmF
  rw [List.take_add_one, h, List.foldl_append]; rfl
theorem cm_fold : ∀ (p : List (Int × Int × Int)) (f : Int × Int → Option Int), (p.map posD).Nodup → ∀ q, (p.foldl (fun f c => putG f (c.1, c.2.1) c.2.2) f) q = if hasD p q = true then some (getC p q.1 q.2) else f q
  | [], f, _, q => rfl
  | c :: p, f, h, q => by
    rw [List.map_cons, List.nodup_cons] at h
    rw [List.foldl_cons, cm_fold p _ h.2 q]
    by_cases e : c.1 = q.1 ∧ c.2.1 = q.2
    · have hn : ¬hasD p q = true := by
        intro h0
        obtain ⟨s, hs⟩ := hasD_iff.1 h0
        exact h.1 (List.mem_map.2 ⟨_, hs, by unfold posD; rw [e.1, e.2]⟩)
      have hy : hasD (c :: p) q = true := hasD_iff.2 ⟨c.2.2, by rw [← e.1, ← e.2]; exact List.mem_cons_self ..⟩
      rw [if_neg hn, if_pos hy, putG_get, if_pos (by rw [e.1, e.2])]
      show _ = some (if c.1 = q.1 ∧ c.2.1 = q.2 then c.2.2 else getC p q.1 q.2)
      rw [if_pos e]
    · have hiff : hasD (c :: p) q = true ↔ hasD p q = true := by
        unfold hasD
        rw [List.any_cons, decide_eq_false e, Bool.false_or]
      have hg : getC (c :: p) q.1 q.2 = getC p q.1 q.2 := by
        show (if c.1 = q.1 ∧ c.2.1 = q.2 then c.2.2 else getC p q.1 q.2) = _
        rw [if_neg e]
      rw [hg]
      by_cases hp : hasD p q = true
      · rw [if_pos hp, if_pos (hiff.2 hp)]
      · rw [if_neg hp, if_neg (fun h => hp (hiff.1 h)), putG_get, if_neg (fun h => e (by rw [h]; exact ⟨rfl, rfl⟩))]
theorem cm_get (h : rightC p = true) (q : Int × Int) : cmF p q = if getC p q.1 q.2 = 0 then none else some (getC p q.1 q.2) := by
  unfold cmF
  rw [cm_fold p _ (ssc_iff.1 (rightC_sorted h)).2 q]
  by_cases e : getC p q.1 q.2 = 0
  · rw [if_pos e, if_neg]
    intro h0
    obtain ⟨s, hs⟩ := hasD_iff.1 h0
    exact ((right_get h).1 hs).2 (by rw [← ((right_get h).1 hs).1]; exact e)
  · rw [if_neg e, if_pos (hasD_iff.2 ⟨_, getC_in e⟩)]
theorem cm_getD (h : rightC p = true) (q : Int × Int) : (cmF p q).getD 0 = getC p q.1 q.2 := by
  rw [cm_get h]
  by_cases e : getC p q.1 q.2 = 0
  · rw [if_pos e, e]; rfl
  · rw [if_neg e]; rfl
theorem cm_some (h : rightC p = true) {q : Int × Int} : cmF p q = some s ↔ getC p q.1 q.2 = s ∧ s ≠ 0 := by
  rw [cm_get h]
  by_cases e : getC p q.1 q.2 = 0
  · rw [if_pos e]
    constructor
    · intro h; cases h
    · rintro ⟨h1, h2⟩; exact absurd (h1 ▸ e) h2
  · rw [if_neg e]
    constructor
    · intro h; injection h with h; exact ⟨h, h ▸ e⟩
    · rintro ⟨h1, _⟩; rw [h1]
/-- What has come out of a map that is ranged over. -/
structure CollD (f : Int × Int → Option Int) (lf : Int × Int → Bool) (o : List (Int × Int × Int)) : Prop where
  nd : (o.map posD).Nodup
  mem : ∀ x y s, (x, y, s) ∈ o ↔ f (x, y) = some s ∧ lf (x, y) = false
theorem CollD.start : CollD f (fun q => (f q).isSome) [] := by
  refine ⟨by simp, fun x y s => ⟨fun h => (by cases h), fun ⟨h1, h2⟩ => ?_⟩⟩
  rw [h1] at h2
  cases h2
theorem CollD.step (h : CollD f lf o) (hs : f (x, y) = some s) (hl : lf (x, y) = true) : CollD f (fun q => lf q && decide (q ≠ (x, y))) (o ++ [(x, y, s)]) := by
  constructor
  · rw [List.map_append, List.nodup_append]
    refine ⟨h.nd, by simp, ?_⟩
    intro u hu v hv e
    subst e
    obtain ⟨⟨x', y', s'⟩, hm, rfl⟩ := List.mem_map.1 hu
    have hv' : posD (x', y', s') = posD (x, y, s) := by simpa using hv
    unfold posD at hv'
    injection hv' with e1 e2
    simp only at e1 e2
    subst e1 e2
    rw [((h.mem _ _ _).1 hm).2] at hl
    cases hl
  · intro x' y' s'
    rw [List.mem_append, h.mem]
    by_cases e : (x', y') = (x, y)
    · injection e with e1 e2
      subst e1 e2
      constructor
      · rintro (⟨_, h2⟩ | h2)
        · rw [h2] at hl; cases hl
        · obtain rfl : s' = s := by simpa using h2
          exact ⟨hs, by simp⟩
      · rintro ⟨h1, _⟩
        rw [hs] at h1
        injection h1 with h1
        exact .inr (by rw [h1]; simp)
    · constructor
      · rintro (⟨h1, h2⟩ | h2)
        · exact ⟨h1, by rw [h2]; rfl⟩
        · have h2' : (x', y', s') = (x, y, s) := by simpa using h2
          injection h2' with e1 e2
          injection e2 with e2 e3
          exact absurd (by rw [e1, e2]) e
      · rintro ⟨h1, h2⟩
        refine .inl ⟨h1, ?_⟩
        rw [decide_eq_true e, Bool.and_true] at h2
        exact h2
theorem CollD.all (h : CollD f lf o) (hd : ∀ q : Int × Int, I64 q.1 ∧ I64 q.2 → lf q = false) (hk : ∀ q s, f q = some s → I64 q.1 ∧ I64 q.2) : (x, y, s) ∈ o ↔ f (x, y) = some s :=
  (h.mem x y s).trans ⟨fun h => h.1, fun h => ⟨h, hd _ (hk _ _ h)⟩⟩
theorem CollD.len (h : CollD f lf o) {n : Nat} {m : List (Int × Int)} (hm : ∀ q s, f q = some s → q ∈ m) (hn : m.length ≤ n) : o.length ≤ n := by
  have := nodup_subset_len (o.map posD) m h.nd (fun q hq => by
    obtain ⟨⟨x, y, s⟩, hc, rfl⟩ := List.mem_map.1 hq
    exact hm _ _ ((h.mem _ _ _).1 hc).1)
  rw [List.length_map] at this
  omega
theorem pt_I64D (h : Pt x y) : I64 x ∧ I64 y := by unfold Pt at h; unfold I64; omega
/-- The map of Of behind the cells of the second pattern. -/
def odF (a b : List (Int × Int × Int)) : Int × Int → Option Int := b.foldl (fun f c => delG f (c.1, c.2.1)) (cmF a)
def oaF (a : List (Int × Int × Int)) (c : Int × Int × Int) : List (Int × Int × Int × Int) := if getC a c.1 c.2.1 = c.2.2 then [] else [(c.1, c.2.1, getC a c.1 c.2.1, c.2.2)]
def oaL (a b : List (Int × Int × Int)) : List (Int × Int × Int × Int) := b.flatMap (oaF a)
theorem od_step {c : Int × Int × Int} (h : b[j]? = some c) : odF a (b.take (j + 1)) = delG (odF a (b.take j)) (c.1, c.2.1) := by
  unfold odF
  rw [List.take_add_one, h, List.foldl_append]; rfl
theorem od_fold : ∀ (b : List (Int × Int × Int)) (f : Int × Int → Option Int) (q : Int × Int), (b.foldl (fun f c => delG f (c.1, c.2.1)) f) q = if hasD b q = true then none else f q
  | [], f, q => rfl
  | c :: b, f, q => by
    rw [List.foldl_cons, od_fold b _ q]
    by_cases e : c.1 = q.1 ∧ c.2.1 = q.2
    · have hy : hasD (c :: b) q = true := hasD_iff.2 ⟨c.2.2, by rw [← e.1, ← e.2]; exact List.mem_cons_self ..⟩
      rw [if_pos hy]
      split
      · rfl
      · rw [delG_get, if_pos (by rw [e.1, e.2])]
    · have hiff : hasD (c :: b) q = true ↔ hasD b q = true := by
        unfold hasD
        rw [List.any_cons, decide_eq_false e, Bool.false_or]
      by_cases hp : hasD b q = true
      · rw [if_pos hp, if_pos (hiff.2 hp)]
      · rw [if_neg hp, if_neg (fun h => hp (hiff.1 h)), delG_get, if_neg (fun h => e (by rw [h]; exact ⟨rfl, rfl⟩))]
theorem od_at {c : Int × Int × Int} (ha : rightC a = true) (hb : rightC b = true) (h : b[j]? = some c) : (odF a (b.take j) (c.1, c.2.1)).getD 0 = getC a c.1 c.2.1 := by
  unfold odF
  rw [od_fold, if_neg, cm_getD ha]
  intro h0
  obtain ⟨s, hs⟩ := hasD_iff.1 h0
  obtain ⟨i, hi⟩ := List.getElem?_of_mem hs
  have hlt : i < j := by have := (List.getElem?_eq_some_iff.1 hi).1; simp at this; omega
  rw [List.getElem?_take, if_pos hlt] at hi
  have h1 := List.getElem?_eq_some_iff.1 hi
  have h2 := List.getElem?_eq_some_iff.1 h
  have := List.pairwise_iff_getElem.1 (rightC_sorted hb) i j h1.1 h2.1 hlt
  rw [h1.2, h2.2] at this
  unfold cBef befP at this
  simp only [decide_eq_true_eq] at this
  omega
theorem oa_same {c : Int × Int × Int} (h : b[j]? = some c) (e : getC a c.1 c.2.1 = c.2.2) : oaL a (b.take (j + 1)) = oaL a (b.take j) := by
  unfold oaL
  rw [List.take_add_one, h, List.flatMap_append]
  simp [oaF, e]
theorem oa_more {c : Int × Int × Int} (h : b[j]? = some c) (e : getC a c.1 c.2.1 ≠ c.2.2) : oaL a (b.take (j + 1)) = oaL a (b.take j) ++ [(c.1, c.2.1, getC a c.1 c.2.1, c.2.2)] := by
  unfold oaL
  rw [List.take_add_one, h, List.flatMap_append]
  simp [oaF, e]
theorem oa_pos (a b : List (Int × Int × Int)) : ((oaL a b).map posG).Sublist (b.map posD) := by
  unfold oaL
  induction b with
  | nil => exact List.Sublist.refl _
  | cons c l ih =>
    rw [List.flatMap_cons, List.map_append, List.map_cons]
    unfold oaF
    split
    · exact ih.cons _
    · exact ih.cons_cons _
theorem oa_len (a b : List (Int × Int × Int)) : (oaL a b).length ≤ b.length := by
  have := (oa_pos a b).length_le; simpa using this
def goC (c : Int × Int × Int) : Int × Int × Int × Int := (c.1, c.2.1, c.2.2, 0)
/-- What Of puts into order is the changes. -/
theorem of_whole (ha : rightC a = true) (hb : rightC b = true) (hc : CollD (odF a b) lf o) (hd : ∀ q : Int × Int, I64 q.1 ∧ I64 q.2 → lf q = false) {l' : List (Int × Int × Int × Int)} (hp : l'.Perm (oaL a b ++ o.map goC)) (hw : WG l') : l' = ofR a b := by
  have hod : ∀ q s, odF a b q = some s ↔ (getC a q.1 q.2 = s ∧ s ≠ 0) ∧ getC b q.1 q.2 = 0 := by
    intro q s
    unfold odF
    rw [od_fold]
    by_cases e : hasD b q = true
    · rw [if_pos e]
      constructor
      · intro h; cases h
      · rintro ⟨_, h0⟩
        obtain ⟨s', hs'⟩ := hasD_iff.1 e
        have := (right_get hb).1 hs'
        exact absurd (this.1.symm.trans h0) this.2
    · rw [if_neg e, cm_some ha]
      constructor
      · intro h
        refine ⟨h, ?_⟩
        by_cases h0 : getC b q.1 q.2 = 0
        · exact h0
        · exact absurd (hasD_iff.2 ⟨_, getC_in h0⟩) e
      · exact fun h => h.1
  have hmem : ∀ x y s, (x, y, s) ∈ o ↔ odF a b (x, y) = some s := fun x y s => hc.all hd fun q s hq => by
    have := (hod q s).1 hq
    exact pt_I64D (right_mem ha ((right_get ha).2 this.1)).1
  refine ofR_eq ha hb hp hw ?_ ?_
  · rw [List.map_append, List.nodup_append]
    refine ⟨(oa_pos a b).nodup (ssc_iff.1 (rightC_sorted hb)).2, ?_, ?_⟩
    · rw [List.map_map]
      exact hc.nd
    · intro u hu v hv e
      subst e
      have h1 := (oa_pos a b).subset hu
      obtain ⟨⟨x, y, s⟩, hm, rfl⟩ := List.mem_map.1 h1
      obtain ⟨z, hz, he⟩ := List.mem_map.1 hv
      obtain ⟨⟨x', y', s'⟩, hc', rfl⟩ := List.mem_map.1 hz
      unfold posG goC posD at he
      simp only at he
      injection he with e1 e2
      subst e1 e2
      have g1 := (right_get hb).1 hm
      have g2 := (hod _ _).1 ((hmem _ _ _).1 hc')
      exact g1.2 (g1.1.symm.trans g2.2)
  · intro x y f t
    rw [List.mem_append]
    constructor
    · rintro (h | h)
      · unfold oaL oaF at h
        obtain ⟨⟨u, v, s⟩, hm, hx⟩ := List.mem_flatMap.1 h
        simp only at hx
        split at hx
        · cases hx
        · rename_i hne
          obtain ⟨rfl, rfl, rfl, rfl⟩ : x = u ∧ y = v ∧ f = getC a u v ∧ t = s := by simpa using hx
          exact ⟨rfl, ((right_get hb).1 hm).1.symm, hne⟩
      · obtain ⟨⟨u, v, s⟩, hm, hx⟩ := List.mem_map.1 h
        unfold goC at hx
        simp only at hx
        obtain ⟨rfl, rfl, rfl, rfl⟩ : u = x ∧ v = y ∧ s = f ∧ 0 = t := by simpa using hx
        have := (hod _ _).1 ((hmem _ _ _).1 hm)
        exact ⟨this.1.1.symm, this.2.symm, this.1.2⟩
    · rintro ⟨rfl, rfl, hne⟩
      by_cases h0 : getC b x y = 0
      · refine .inr (List.mem_map.2 ⟨(x, y, getC a x y), (hmem _ _ _).2 ((hod _ _).2 ⟨⟨rfl, fun e => hne (by rw [e, h0])⟩, h0⟩), ?_⟩)
        unfold goC
        simp only [h0]
      · refine .inl ?_
        unfold oaL
        refine List.mem_flatMap.2 ⟨(x, y, getC b x y), getC_in h0, ?_⟩
        unfold oaF
        simp only
        rw [if_neg hne]
        exact List.mem_singleton_self _
/-- The map of Apply behind some changes. -/
def aqF (f : Int × Int → Option Int) (c : Int × Int × Int × Int) : Int × Int → Option Int := if c.2.2.2 = 0 then delG (putG f (c.1, c.2.1) c.2.2.2) (c.1, c.2.1) else putG f (c.1, c.2.1) c.2.2.2
def apF (p : List (Int × Int × Int)) (l : List (Int × Int × Int × Int)) : Int × Int → Option Int := l.foldl aqF (cmF p)
theorem ap_step {c : Int × Int × Int × Int} (h : l[j]? = some c) : apF p (l.take (j + 1)) = aqF (apF p (l.take j)) c := by
  unfold apF
  rw [List.take_add_one, h, List.foldl_append]; rfl
theorem aq_get (c : Int × Int × Int × Int) (q : Int × Int) : aqF f c q = if q = (c.1, c.2.1) then (if c.2.2.2 = 0 then none else some c.2.2.2) else f q := by
  unfold aqF
  by_cases h0 : c.2.2.2 = 0
  · rw [if_pos h0, delG_get]
    by_cases e : q = (c.1, c.2.1)
    · rw [if_pos e, if_pos e, if_pos h0]
    · rw [if_neg e, if_neg e, putG_get, if_neg e]
  · rw [if_neg h0, putG_get]
    by_cases e : q = (c.1, c.2.1)
    · rw [if_pos e, if_pos e, if_neg h0]
    · rw [if_neg e, if_neg e]
theorem ap_fold : ∀ (l : List (Int × Int × Int × Int)) (f : Int × Int → Option Int), SSG l → ∀ q : Int × Int, (∀ c ∈ l, q = (c.1, c.2.1) → (l.foldl aqF f) q = if c.2.2.2 = 0 then none else some c.2.2.2) ∧ ((∀ c ∈ l, q ≠ (c.1, c.2.1)) → (l.foldl aqF f) q = f q)
  | [], f, _, q => ⟨fun c hc => (by cases hc), fun _ => rfl⟩
  | c :: l, f, h, q => by
    obtain ⟨h1, h2⟩ := List.pairwise_cons.1 h
    obtain ⟨g1, g2⟩ := ap_fold l (aqF f c) h2 q
    have hne : ∀ d ∈ l, (d.1, d.2.1) ≠ (c.1, c.2.1) := fun d hd e => by
      have := h1 d hd
      injection e with e1 e2
      unfold gBef befP at this
      simp only [decide_eq_true_eq] at this
      omega
    rw [List.foldl_cons]
    refine ⟨fun d hd e => ?_, fun hn => ?_⟩
    · rcases List.mem_cons.1 hd with rfl | hm
      · rw [g2 (fun d2 hd2 e2 => hne d2 hd2 (e2.symm.trans e)), aq_get, if_pos e]
      · exact g1 d hm e
    · rw [g2 (fun d hd => hn d (List.mem_cons_of_mem _ hd)), aq_get, if_neg (hn c (List.mem_cons_self ..))]
theorem ap_at {c : Int × Int × Int × Int} (hp : rightC p = true) (hl : rightG l = true) (h : l[j]? = some c) : (apF p (l.take j) (c.1, c.2.1)).getD 0 = getC p c.1 c.2.1 := by
  have hs : SSG (l.take j) := (rightG_sorted hl).sublist (List.take_sublist _ _)
  unfold apF
  rw [(ap_fold (l.take j) (cmF p) hs (c.1, c.2.1)).2, cm_getD hp]
  intro d hd e
  obtain ⟨i, hi⟩ := List.getElem?_of_mem hd
  have hlt : i < j := by have := (List.getElem?_eq_some_iff.1 hi).1; simp at this; omega
  rw [List.getElem?_take, if_pos hlt] at hi
  have h1 := List.getElem?_eq_some_iff.1 hi
  have h2 := List.getElem?_eq_some_iff.1 h
  have := List.pairwise_iff_getElem.1 (rightG_sorted hl) i j h1.1 h2.1 hlt
  rw [h1.2, h2.2] at this
  injection e with e1 e2
  unfold gBef befP at this
  simp only [decide_eq_true_eq] at this
  omega
/-- What Apply hands to From is what the changes make. -/
theorem ap_whole (hp : rightC p = true) (hl : rightG l = true) (hc : CollD (apF p l) lf o) (hd : ∀ q : Int × Int, I64 q.1 ∧ I64 q.2 → lf q = false) : frE o = frE (apM p l) ∧ frL o = frL (apM p l) := by
  have hg := apM_good hp hl
  have hap : ∀ x y s, apF p l (x, y) = some s ↔ s ≠ 0 ∧ (x, y, s) ∈ apM p l := by
    intro x y s
    obtain ⟨g1, g2⟩ := ap_fold l (cmF p) (rightG_sorted hl) (x, y)
    rw [apM_mem]
    unfold apF
    cases hi : inG l x y with
    | true =>
      obtain ⟨f, t, hm⟩ := inG_iff.1 hi
      rw [g1 _ hm rfl]
      simp only
      constructor
      · intro h
        split at h
        · cases h
        · injection h with h; subst h; exact ⟨‹_›, .inl ⟨f, hm⟩⟩
      · rintro ⟨h0, ⟨f', hm'⟩ | ⟨_, hn⟩⟩
        · have := ssg_inj (rightG_sorted hl) hm hm'
          injection this with _ e2
          subst e2
          rw [if_neg h0]
        · cases hn
    | false =>
      have hn : ∀ c ∈ l, (x, y) ≠ (c.1, c.2.1) := by
        rintro ⟨u, v, f, t⟩ hm e
        injection e with e1 e2
        simp only at e1 e2
        subst e1 e2
        rw [inG_iff.2 ⟨_, _, hm⟩] at hi
        cases hi
      rw [g2 hn, cm_some hp]
      constructor
      · rintro ⟨h1, h2⟩; exact ⟨h2, .inr ⟨(right_get hp).2 ⟨h1, h2⟩, rfl⟩⟩
      · rintro ⟨h0, ⟨f', hm'⟩ | ⟨hm, _⟩⟩
        · rw [inG_iff.2 ⟨_, _, hm'⟩] at hi; cases hi
        · exact (right_get hp).1 hm
  have hbad : ∀ x y s, (x, y, s) ∈ apM p l → frBad (x, y, s) = 0 := fun x y s h => hg.ok _ h
  have hmem : ∀ x y s, (x, y, s) ∈ o ↔ apF p l (x, y) = some s := fun x y s => hc.all hd fun q s hq => by
    have := (hap q.1 q.2 s).1 hq
    exact pt_I64D (frBad_zero.1 (hbad _ _ _ this.2)).1
  have hgo : GdC o := ⟨by rintro ⟨x, y, s⟩ h; exact hbad _ _ _ ((hap _ _ _).1 ((hmem _ _ _).1 h)).2, hc.nd⟩
  exact frC_congr hgo hg fun x y s h0 => by rw [hmem, hap]; exact ⟨fun h => h.2, fun h => ⟨h0, h⟩⟩
theorem fit_no {c : Int × Int × Int × Int} (h : l[j]? = some c) (e : getC p c.1 c.2.1 ≠ c.2.2.1) : fitG p l = false := by
  unfold fitG
  rw [List.all_eq_false]
  exact ⟨c, List.mem_of_getElem? h, by simpa using e⟩
theorem fit_yes (h : ∀ (i : Nat) c, l[i]? = some c → getC p c.1 c.2.1 = c.2.2.1) : fitG p l = true := by
  unfold fitG
  rw [List.all_eq_true]
  intro c hc
  obtain ⟨i, hi⟩ := List.getElem?_of_mem hc
  exact decide_eq_true (h i c hi)
end
end Go.Proofs.YtellglbmbocgkaaGreatDoor
end
section
namespace Go.Proofs.YtellglbmbocgkaaGreatDoor
open Go Go.RowKit
set_option maxRecDepth 100000
section
variable {w : World} {ops : Array Oper} {rest : List Oper} {o : Oper} {a : Act} {Q : Exit → Act → World → Prop}
theorem wpList_pi_get (hg : o.guard = none) (m x : Operand) (t : TypeId) (hop : o.op = Op.lookup t m x false) (ht : Tryz.prog.underlying t = some (.map 139 3)) (b n : Nat) (f : Int × Int → Option Int) (hm : a.eval m = .map (some b)) (h : mkPI.At b n f w)
    (u v : Int) (hu : I64 u) (hv : I64 v) (hx : a.eval x = .agg #[.int .i64 u, .int .i64 v]) (r : Int) (hr : (f (u, v)).getD 0 = r)
    (hK : wpList Tryz.prog ops Q rest (a.put o.dst (.int .i64 r)) w) : wpList Tryz.prog ops Q (o :: rest) a w :=
  wpList_mg_get (M := mkPI) hg m x t hop ht b n f hm h (u, v) ⟨hu, hv⟩ hx _ rfl (by show wpList _ _ _ _ (a.put o.dst (.int .i64 ((f (u, v)).getD 0))) _; rw [hr]; exact hK)
theorem wpList_pi_del (hg : o.guard = none) (m x : Operand) (t : TypeId) (hop : o.op = Op.call { callee := Callee.builtin Builtin.delete, args := #[m, x], argTypes := #[t, 139] }) (ht : Tryz.prog.underlying t = some (.map 139 3)) (b n : Nat) (f : Int × Int → Option Int) (hm : a.eval m = .map (some b)) (h : mkPI.At b n f w)
    (p q : Int) (hp : I64 p) (hq : I64 q) (hx : a.eval x = .agg #[.int .i64 p, .int .i64 q])
    (hK : ∀ w', mkPI.At b n (delG f (p, q)) w' → w.grownBy w' (some b) → wpList Tryz.prog ops Q rest (a.put o.dst (.tuple #[])) w') : wpList Tryz.prog ops Q (o :: rest) a w :=
  wpList_mg_del (M := mkPI) hg m x t hop ht b n f hm h (p, q) ⟨hp, hq⟩ hx hK
theorem wpList_pi_range (hg : o.guard = none) (m : Operand) (t : TypeId) (hop : o.op = Op.range t m) (ht : Tryz.prog.underlying t = some (.map 139 3)) (b n : Nat) (f : Int × Int → Option Int) (hm : a.eval m = .map (some b)) (h : mkPI.At b n f w)
    (hK : ∀ w' cnt, mkPI.Rg b w.heap.size n f (fun x => (f x).isSome) cnt w' → w.grownBy w' none → w'.heap.size = w.heap.size + 1 → wpList Tryz.prog ops Q rest (a.put o.dst (.pointer (some ⟨w.heap.size, 0, none⟩))) w') : wpList Tryz.prog ops Q (o :: rest) a w :=
  wpList_mg_range (M := mkPI) hg m t hop ht b n f hm h hK
theorem wpList_pi_next (hg : o.guard = none) (it : Operand) (hop : o.op = Op.next it false) (b r n : Nat) (f : Int × Int → Option Int) (lf : Int × Int → Bool) (cnt : Nat) (hit : a.eval it = .pointer (some ⟨r, 0, none⟩)) (h : mkPI.Rg b r n f lf cnt w)
    (hDone : (∀ q : Int × Int, I64 q.1 ∧ I64 q.2 → lf q = false) → wpList Tryz.prog ops Q rest (a.put o.dst (.tuple #[.bool false])) w)
    (hMore : ∀ (x y s : Int) (w' : World) (cnt' : Nat), I64 x ∧ I64 y → lf (x, y) = true → f (x, y) = some s → mkPI.Rg b r n f (fun q => lf q && decide (q ≠ (x, y))) cnt' w' → cnt' < cnt →
      w.grownBy w' (some r) → w'.heap.size = w.heap.size → (Instr.entry (.pointer (some ⟨r, 0, none⟩))).run Tryz.prog w' = .ok (.tuple #[.agg #[.int .i64 x, .int .i64 y], .int .i64 s]) w' → wpList Tryz.prog ops Q rest (a.put o.dst (.tuple #[.bool true, .agg #[.int .i64 x, .int .i64 y], .int .i64 s])) w') :
    wpList Tryz.prog ops Q (o :: rest) a w :=
  wpList_mg_next (M := mkPI) hg it hop b r n f lf cnt hit h hDone fun q s w' cnt' h1 h2 h3 h4 h5 h6 h7 h8 => hMore q.1 q.2 s w' cnt' h1 h2 h3 h4 h5 h6 h7 h8
end
theorem Own.overM {α : Type} {enc : α → List Value} {k : Nat} {e : TypeId} {B b n c : Nat} {w w' : World} {A : Option Addr} {l : List α} (h : Own enc k e B w A n c l) (hg : w.grownBy w' (some b)) (hb : (Value.slice A n c).ownBlock ≠ some b) : Own enc k e B w' A n c l := by
  refine ⟨⟨h.row.1, ?_⟩, h.len⟩
  rcases h.row.2 with h0 | ⟨g, cap, cur, hv, hge, hh, r⟩
  · exact .inl h0
  · refine .inr ⟨g, cap, cur, hv, hge, (hg.block g (Array.getElem?_eq_some_iff.1 hh).1 (fun e => ?_)).trans hh, r⟩
    apply hb
    rw [hv, ← e]
    rfl
theorem lfq_ne (lf : Int × Int → Bool) (x y : Int) : (fun q => lf q && decide (q ≠ (x, y))) = fun q => lf q && !decide (q = (x, y)) := by
  funext q; by_cases e : q = (x, y) <;> simp [e]
end Go.Proofs.YtellglbmbocgkaaGreatDoor
end
