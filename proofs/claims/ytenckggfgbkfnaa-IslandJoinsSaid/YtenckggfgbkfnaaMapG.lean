/- Maps that the call itself makes: what they hold, as functions of the key; ranging over them. Over any program. -/
import Derived.Test.YtenckggfgbkfnaaMEM
import Derived.Maps.OwnSet
import Derived.Maps.RangeWalk
namespace Go.Proofs.Ytenckggfgbkfnaa
open Go Go.RowKit
set_option linter.unusedSimpArgs false
set_option linter.unusedVariables false
/-- How the keys and the elements of a map are spelled. -/
structure MK (P : Program) (k e : TypeId) (κ ε : Type) where
  K : Maps.Keyed P k
  kv : κ → Value
  okK : κ → Prop
  key : ∀ x, okK x → ∃ kl, keyOf P k (kv x) = some kl
  keyInv : ∀ v kl, keyOf P k v = some kl → ∃ x, okK x ∧ v = kv x
  kInj : ∀ x y, kv x = kv y → x = y
  ev : ε → Value
  eInj : ∀ x y, ev x = ev y → x = y
  z : ε
  zero : ∀ w, (zeroValue e).run P w = .ok (ev z) w
section
variable {P : Program} {k e : TypeId} {κ ε : Type} (M : MK P k e κ ε)
noncomputable def MK.R (v : Value) : Option (DataW Value × List MemPlace) := if @decide (∃ u, v = M.ev u) (Classical.propDecidable _) = true then some (.held v, []) else none
theorem MK.R_ev (u : ε) : M.R (M.ev u) = some (.held (M.ev u), []) := by
  unfold MK.R
  rw [if_pos (@decide_eq_true _ (Classical.propDecidable _) ⟨u, rfl⟩)]
theorem MK.R_inv {v : Value} {y : DataW Value × List MemPlace} (h : M.R v = some y) : ∃ u, v = M.ev u ∧ y = (.held (M.ev u), []) := by
  unfold MK.R at h
  split at h
  · rename_i hd
    obtain ⟨u, rfl⟩ := @of_decide_eq_true _ (Classical.propDecidable _) hd
    exact ⟨u, rfl, (Option.some.inj h).symm⟩
  · cases h
/-- The datum reads as the function. -/
def MK.Is (D : DataW Value) (f : κ → Option ε) : Prop := ∀ x kl, keyOf P k (M.kv x) = some kl → Maps.has D kl = (f x).isSome ∧ ∀ u, f x = some u → ∀ z, D.atKey kl z = .held (M.ev u)
/-- Block b holds a map of at most n entries that reads as f. -/
def MK.At (b n : Nat) (f : κ → Option ε) (w : World) : Prop := ∃ D : DataW Value, w.ownsMap P k M.R b n D ∧ M.Is D f
/-- The same while it is ranged over by the iterator in block r: lf tells what is still to come. -/
def MK.Rg (b r n : Nat) (f : κ → Option ε) (lf : κ → Bool) (cnt : Nat) (w : World) : Prop := ∃ (D : DataW Value) (left : Lit → Bool), w.ranges P k M.R b r n D left cnt ∧ M.Is D f ∧ ∀ x kl, keyOf P k (M.kv x) = some kl → left kl = lf x
variable {M} {w w' : World} {b n r cnt : Nat} {f : κ → Option ε} {lf : κ → Bool}
theorem MK.At.lt (h : M.At b n f w) : b < w.heap.size := by obtain ⟨D, h1, _⟩ := h; exact h1.lt
theorem MK.At.made (M : MK P k e κ ε) (w : World) : M.At w.heap.size 0 (fun _ => none) (w.alloc (.map #[] 0)) :=
  ⟨.map [], World.ownsMap_made _ _ _ _, fun x kl _ => ⟨rfl, fun v h => by cases h⟩⟩
theorem MK.At.mono {n' : Nat} (h : M.At b n f w) (hn : n ≤ n') : M.At b n' f w := by
  obtain ⟨D, h1, h2⟩ := h
  exact ⟨D, h1.mono hn, h2⟩
theorem MK.At.grown {row : Option Nat} (h : M.At b n f w) (hg : w.grownBy w' row) (hne : some b ≠ row) : M.At b n f w' := by
  obtain ⟨D, h1, h2⟩ := h
  exact ⟨D, h1.kept hg hne, h2⟩
theorem below_grownG (h : Below w.heap.size w w') : w.grownBy w' none := ⟨h.os, h.tape, h.output, h.size, fun i hi _ => h.block i hi⟩
theorem MK.At.of (h : M.At b n f w) (hb : Below w.heap.size w w') : M.At b n f w' := h.grown (below_grownG hb) (by simp)
theorem MK.At.alloc (h : M.At b n f w) (o : Obj) : M.At b n f (w.alloc o) := h.grown (World.grownBy_alloc w o none) (by simp)
theorem MK.At.drew (h : M.At b n f w) : M.At b n f w.drew := h
theorem MK.Rg.at_ (h : M.Rg b r n f lf cnt w) : M.At b n f w := by
  obtain ⟨D, left, h1, h2, _⟩ := h
  exact ⟨D, h1.owns, h2⟩
theorem MK.Rg.left_eq (h : M.Rg b r n f lf cnt w) : w.rangeLeft b r = cnt := by
  obtain ⟨D, left, h1, _⟩ := h
  exact h1.left_eq
theorem MK.Rg.lt (h : M.Rg b r n f lf cnt w) : r < w.heap.size ∧ b < w.heap.size ∧ r ≠ b := by
  obtain ⟨D, left, h1, _⟩ := h
  exact ⟨h1.lt, h1.owns.lt, h1.ne⟩
theorem MK.Rg.grown {row : Option Nat} (h : M.Rg b r n f lf cnt w) (hg : w.grownBy w' row) (hb : some b ≠ row) (hr : some r ≠ row) : M.Rg b r n f lf cnt w' := by
  obtain ⟨D, left, h1, h2, h3⟩ := h
  exact ⟨D, left, h1.kept hg hb hr, h2, h3⟩
theorem MK.Rg.of (h : M.Rg b r n f lf cnt w) (hb : Below w.heap.size w w') : M.Rg b r n f lf cnt w' := h.grown (below_grownG hb) (by simp) (by simp)
theorem MK.Rg.alloc (h : M.Rg b r n f lf cnt w) (o : Obj) : M.Rg b r n f lf cnt (w.alloc o) := h.grown (World.grownBy_alloc w o none) (by simp) (by simp)
theorem MK.Is.get {D : DataW Value} (h : M.Is D f) {x : κ} {kl : Lit} (hk : keyOf P k (M.kv x) = some kl) {r : Option ε} (hr : f x = r) : Maps.has D kl = r.isSome ∧ D.atKey kl (.held (M.ev M.z)) = .held (M.ev (r.getD M.z)) := by
  obtain ⟨h1, h2⟩ := h x kl hk
  rw [hr] at h1 h2
  refine ⟨h1, ?_⟩
  cases r with
  | none => exact Maps.atKey_of_not_has h1 _
  | some u => exact h2 u rfl _
variable [DecidableEq κ]
def putG (f : κ → Option ε) (x : κ) (v : ε) : κ → Option ε := fun y => if y = x then some v else f y
def delG (f : κ → Option ε) (x : κ) : κ → Option ε := fun y => if y = x then none else f y
theorem MK.Is.put {D : DataW Value} (h : M.Is D f) (hm : Maps.IsMap D) {x : κ} {kl : Lit} (hk : keyOf P k (M.kv x) = some kl) (v : ε) : M.Is (D.put kl (.held (M.ev v))) (putG f x v) := by
  intro y k' hk'
  have ik := M.K.key hk
  unfold putG
  by_cases e : y = x
  · subst e
    rw [hk] at hk'
    injection hk' with hk'
    subst hk'
    rw [if_pos rfl, Maps.has_put_same hm ik]
    exact ⟨rfl, fun u hu z => by rw [Maps.atKey_put_same hm ik]; injection hu with hu; rw [hu]⟩
  · have hne : k' ≠ kl := fun h0 => e (M.kInj _ _ (M.K.inj (by rw [← h0]; exact hk') hk))
    rw [if_neg e, Maps.has_put_other hne]
    exact ⟨(h y k' hk').1, fun u hu z => by rw [Maps.atKey_put_other hne]; exact (h y k' hk').2 u hu z⟩
theorem MK.Is.del {D : DataW Value} (h : M.Is D f) {x : κ} {kl : Lit} (hk : keyOf P k (M.kv x) = some kl) : M.Is (D.del kl) (delG f x) := by
  intro y k' hk'
  unfold delG
  by_cases e : y = x
  · subst e
    rw [hk] at hk'
    injection hk' with hk'
    subst hk'
    rw [if_pos rfl, Maps.has_del_same]
    exact ⟨rfl, fun u hu => by cases hu⟩
  · have hne : k' ≠ kl := fun h0 => e (M.kInj _ _ (M.K.inj (by rw [← h0]; exact hk') hk))
    rw [if_neg e, Maps.has_del_other hne]
    exact ⟨(h y k' hk').1, fun u hu z => by rw [Maps.atKey_del_other hne]; exact (h y k' hk').2 u hu z⟩
end
section
variable {P : Program} {k e : TypeId} {κ ε : Type} {M : MK P k e κ ε} {w : World} {ops : Array Oper} {rest : List Oper} {o : Oper} {a : Act} {Q : Exit → Act → World → Prop}
/-- 'v, ok := m[x]'. -/
theorem wpList_mg_ok (hg : o.guard = none) (m x : Operand) (t : TypeId) (hop : o.op = Op.lookup t m x true) (ht : P.underlying t = some (.map k e)) (b n : Nat) (f : κ → Option ε) (hm : a.eval m = .map (some b)) (h : M.At b n f w)
    (u : κ) (hu : M.okK u) (hx : a.eval x = M.kv u) (r : Option ε) (hr : f u = r)
    (hK : wpList P ops Q rest (a.put o.dst (.tuple #[M.ev (r.getD M.z), .bool r.isSome])) w) : wpList P ops Q (o :: rest) a w := by
  obtain ⟨D, h1, h2⟩ := h
  obtain ⟨kl, hkl⟩ := M.key u hu
  obtain ⟨h3, h4⟩ := h2.get hkl hr
  refine wpList_lookup_own_ok w hg m x t hop k e M.K ht M.R (M.zero w) (.held (M.ev M.z)) [] (M.R_ev _) b n D hm h1 _ kl hx hkl ?_
  intro v ps hv
  obtain ⟨c, rfl, hc⟩ := M.R_inv hv
  injection hc with hc _
  rw [h4] at hc
  injection hc with hc
  rw [h3, ← hc]
  exact hK
/-- 'm[x]'. -/
theorem wpList_mg_get (hg : o.guard = none) (m x : Operand) (t : TypeId) (hop : o.op = Op.lookup t m x false) (ht : P.underlying t = some (.map k e)) (b n : Nat) (f : κ → Option ε) (hm : a.eval m = .map (some b)) (h : M.At b n f w)
    (u : κ) (hu : M.okK u) (hx : a.eval x = M.kv u) (r : Option ε) (hr : f u = r)
    (hK : wpList P ops Q rest (a.put o.dst (M.ev (r.getD M.z))) w) : wpList P ops Q (o :: rest) a w := by
  obtain ⟨D, h1, h2⟩ := h
  obtain ⟨kl, hkl⟩ := M.key u hu
  obtain ⟨h3, h4⟩ := h2.get hkl hr
  refine wpList_plain hg fun K' hK' => ?_
  obtain ⟨v, ps, hrun, hv⟩ := h1.lookup M.K ht (M.zero w) (M.R_ev _) hkl
  obtain ⟨c, rfl, hc⟩ := M.R_inv hv
  injection hc with hc _
  rw [h4] at hc
  injection hc with hc
  unfold Oper.wp
  simp [execOp, hop, hm, hx, hrun, Result.andThen]
  exact hK' _ _ (by rw [← hc]; exact hK)
variable [DecidableEq κ]
/-- 'm[x] = v'. -/
theorem wpList_mg_put (hg : o.guard = none) (m x v : Operand) (t : TypeId) (hop : o.op = Op.mapUpdate t m x v) (ht : P.underlying t = some (.map k e)) (b n : Nat) (f : κ → Option ε) (hm : a.eval m = .map (some b)) (h : M.At b n f w) (hn : n < 1000000000)
    (u : κ) (hu : M.okK u) (s : ε) (hx : a.eval x = M.kv u) (hv : a.eval v = M.ev s)
    (hK : ∀ w', M.At b (n + 1) (putG f u s) w' → w.grownBy w' (some b) → wpList P ops Q rest (a.put o.dst undef) w') : wpList P ops Q (o :: rest) a w := by
  obtain ⟨D, h1, h2⟩ := h
  obtain ⟨kl, hkl⟩ := M.key u hu
  refine wpList_mapUpdate_own w hg m x v t hop k e M.K ht M.R b n D hm h1 (by unfold maxLen; omega) _ _ kl hx hv hkl (.held (M.ev s)) [] (M.R_ev s) ?_
  intro w' g1 g2
  exact hK w' ⟨_, g1, h2.put h1.isMap hkl s⟩ g2
/-- 'delete(m, x)'. -/
theorem wpList_mg_del (hg : o.guard = none) (m x : Operand) (t : TypeId) (hop : o.op = Op.call { callee := Callee.builtin Builtin.delete, args := #[m, x], argTypes := #[t, k] }) (ht : P.underlying t = some (.map k e)) (b n : Nat) (f : κ → Option ε) (hm : a.eval m = .map (some b)) (h : M.At b n f w)
    (u : κ) (hu : M.okK u) (hx : a.eval x = M.kv u)
    (hK : ∀ w', M.At b n (delG f u) w' → w.grownBy w' (some b) → wpList P ops Q rest (a.put o.dst (.tuple #[])) w') : wpList P ops Q (o :: rest) a w := by
  obtain ⟨D, h1, h2⟩ := h
  obtain ⟨kl, hkl⟩ := M.key u hu
  refine wpList_delete_own w hg m x t k hop e M.K ht M.R b n D hm h1 _ kl hx hkl ?_
  intro w' g1 g2
  exact hK w' ⟨_, g1, h2.del hkl⟩ g2.grown
omit [DecidableEq κ] in
/-- 'range m'. -/
theorem wpList_mg_range (hg : o.guard = none) (m : Operand) (t : TypeId) (hop : o.op = Op.range t m) (ht : P.underlying t = some (.map k e)) (b n : Nat) (f : κ → Option ε) (hm : a.eval m = .map (some b)) (h : M.At b n f w)
    (hK : ∀ w' cnt, M.Rg b w.heap.size n f (fun x => (f x).isSome) cnt w' → w.grownBy w' none → w'.heap.size = w.heap.size + 1 → wpList P ops Q rest (a.put o.dst (.pointer (some ⟨w.heap.size, 0, none⟩))) w') : wpList P ops Q (o :: rest) a w := by
  obtain ⟨D, h1, h2⟩ := h
  refine wpList_range_own w hg m t hop k e M.K ht M.R b n D hm h1 ?_
  intro w' g1 g2 g3
  exact hK w' _ ⟨D, _, g1, h2, fun x kl hk => (h2 x kl hk).1⟩ g2 g3
/-- The step of a range over a map. -/
theorem wpList_mg_next (hg : o.guard = none) (it : Operand) (hop : o.op = Op.next it false) (b r n : Nat) (f : κ → Option ε) (lf : κ → Bool) (cnt : Nat) (hit : a.eval it = .pointer (some ⟨r, 0, none⟩)) (h : M.Rg b r n f lf cnt w)
    (hDone : (∀ x, M.okK x → lf x = false) → wpList P ops Q rest (a.put o.dst (.tuple #[.bool false])) w)
    (hMore : ∀ (x : κ) (c : ε) (w' : World) (cnt' : Nat), M.okK x → lf x = true → f x = some c → M.Rg b r n f (fun y => lf y && decide (y ≠ x)) cnt' w' → cnt' < cnt →
      w.grownBy w' (some r) → w'.heap.size = w.heap.size → (Instr.entry (.pointer (some ⟨r, 0, none⟩))).run P w' = .ok (.tuple #[M.kv x, M.ev c]) w' → wpList P ops Q rest (a.put o.dst (.tuple #[.bool true, M.kv x, M.ev c])) w') :
    wpList P ops Q (o :: rest) a w := by
  obtain ⟨D, left, h1, h2, h3⟩ := h
  refine wpList_next_ranges w hg it hop k M.K M.R M.kv M.ev (fun v kl hk => by obtain ⟨x, _, hx⟩ := M.keyInv v kl hk; exact ⟨x, hx⟩) (fun v y hv => by obtain ⟨c, hc, _⟩ := M.R_inv hv; exact ⟨c, hc⟩) b r n D left cnt hit h1 ?_ ?_
  · intro _ hl
    refine hDone fun x hx => ?_
    obtain ⟨kl, hkl⟩ := M.key x hx
    rw [← h3 x kl hkl]; exact hl kl
  · intro x c kl y w' cnt' hkey hlk hv hat hrg hlt hgr hsz hen
    obtain ⟨x', hx', ex⟩ := M.keyInv _ _ hkey
    obtain rfl := M.kInj _ _ ex
    obtain ⟨c', ec, hy⟩ := M.R_inv hv
    obtain rfl := M.eInj _ _ ec
    obtain ⟨i1, i2⟩ := h2 x kl hkey
    have hf : f x = some c := by
      cases hfx : f x with
      | none =>
        rw [hfx] at i1
        have a1 := (Maps.atKey_of_not_has i1 .nil).symm.trans (hat .nil)
        have a2 := (Maps.atKey_of_not_has i1 (.slice [] [])).symm.trans (hat (.slice [] []))
        rw [← a1] at a2
        cases a2
      | some u =>
        have a1 := (i2 u hfx .nil).symm.trans (hat .nil)
        rw [hy] at a1
        injection a1 with a1
        rw [M.eInj _ _ a1]
    refine hMore x c w' cnt' hx' ((h3 x kl hkey).symm.trans hlk) hf ⟨D, _, hrg, h2, fun y' k' hk' => ?_⟩ hlt hgr hsz hen
    rw [h3 y' k' hk']
    congr 1
    by_cases e : y' = x
    · subst e
      rw [hkey] at hk'
      injection hk' with hk'
      subst hk'
      rw [WideAt.sameKey_self (M.K.key hkey)]
      simp
    · have hne : k' ≠ kl := fun h0 => e (M.kInj _ _ (M.K.inj (by rw [← h0]; exact hk') hkey))
      rw [Maps.sameKey_ne hne]
      simp [e]
end
end Go.Proofs.Ytenckggfgbkfnaa
