/- A map from positions to numbers that the call itself makes: what it holds, as a function of the position. -/
import Derived.Test.YtenckggfgbkfnaaProg
import Derived.Test.YtenckggfgbkfnaaMEM
import Derived.Test.YtenckggfgbkfnaaPLN
import Derived.Maps.OwnSet
import Derived.Maps.OwnOps
import Derived.DeepKeys4
namespace Go.Proofs.Ytenckggfgbkfnaa
open Go Go.RowKit
set_option linter.unusedSimpArgs false
set_option linter.unusedVariables false
set_option maxRecDepth 100000
theorem laidOutM : laidOutB Try.prog = true := by kernel_rfl
theorem pt_row : (46 : TypeId) < Try.prog.types.size := of_decide_eq_true (by kernel_rfl)
theorem pt_wide : (match Try.prog.underlying 46 with | some (.array _ _) | some (.struct _) => true | _ => false) = true := by rw [Try.underlying46]
theorem pt_keyed : Maps.Keyed Try.prog 46 := Maps.Keyed.of_law (deep_law_laid laidOutM (m := 2) (by omega) pt_row (by kernel_rfl) pt_wide)
theorem i64_wf {a : Int} (h : I64 a) : (Lit.int .i64 a).wf = true := by
  unfold I64 at h
  simp [Lit.wf, IntKind.min, IntKind.max, IntKind.signed, IntKind.bits]; omega
theorem pt_key {x y : Int} (hx : I64 x) (hy : I64 y) : ∃ kl, keyOf Try.prog 46 (.agg #[.int .i64 x, .int .i64 y]) = some kl := by
  have hk : Try.prog.keyType 46 = true := by kernel_rfl
  have hc : Try.prog.cellsOf 46 = 2 := by kernel_rfl
  have hf : (Value.agg #[.int .i64 x, .int .i64 y]).formed Try.prog 46 = true := by simp [Value.formed, Try.underlying46, hc]
  have hd : ∃ d, Try.prog.types.size = d + 1 := ⟨Try.prog.types.size - 1, (Nat.succ_pred_eq_of_pos (Nat.lt_of_le_of_lt (Nat.zero_le _) pt_row)).symm⟩
  obtain ⟨d, hd⟩ := hd
  have hx1 : Try.prog.keyLits (d + 1) 3 [.int .i64 x] = some [.int .i64 x] := by simp [Program.keyLits, Try.underlying3, i64_wf hx]
  have hy1 : Try.prog.keyLits (d + 1) 3 [.int .i64 y] = some [.int .i64 y] := by simp [Program.keyLits, Try.underlying3, i64_wf hy]
  have h1 : Try.prog.cellsOf 3 = 1 := by kernel_rfl
  refine ⟨.string (keyBytes [.int .i64 x, .int .i64 y]), ?_⟩
  unfold keyOf
  rw [Try.underlying46]
  simp only [hk, hf, Bool.and_self, if_true, hd]
  have hl : Try.prog.keyLits (d + 1 + 1) 46 [.int .i64 x, .int .i64 y] = some [.int .i64 x, .int .i64 y] := by
    unfold Program.keyLits
    simp [Try.underlying46, hc, h1, hx1, hy1]
  show (Option.map _ (Try.prog.keyLits (d + 1 + 1) 46 [.int .i64 x, .int .i64 y])) = _
  rw [hl]; rfl
theorem pt_inj {x y x' y' : Int} {kl : Lit} (h : keyOf Try.prog 46 (.agg #[.int .i64 x, .int .i64 y]) = some kl) (h' : keyOf Try.prog 46 (.agg #[.int .i64 x', .int .i64 y']) = some kl) : x = x' ∧ y = y' := by
  have := pt_keyed.inj h h'
  simpa using this
/-- Block b holds a map of at most n entries: at a position of machine numbers it holds f there. -/
def PM (b n : Nat) (f : Int → Int → Option Int) (w : World) : Prop :=
  ∃ D : DataW Unit, w.ownsMap Try.prog 46 (plainElem Try.prog 3) b n D ∧
    ∀ x y kl, keyOf Try.prog 46 (.agg #[.int .i64 x, .int .i64 y]) = some kl → Maps.has D kl = (f x y).isSome ∧ ∀ v, f x y = some v → ∀ z, D.atKey kl z = .lit (.int .i64 v)
theorem PM.lt {b n : Nat} {f : Int → Int → Option Int} {w : World} (h : PM b n f w) : b < w.heap.size := by obtain ⟨D, h1, _⟩ := h; exact h1.lt
theorem PM.made (w : World) : PM w.heap.size 0 (fun _ _ => none) (w.alloc (.map #[] 0)) :=
  ⟨.map [], World.ownsMap_made _ _ _ _, fun x y kl _ => ⟨rfl, fun v h => by cases h⟩⟩
theorem PM.grown {b n : Nat} {f : Int → Int → Option Int} {w w' : World} {row : Option Nat} (h : PM b n f w) (hg : w.grownBy w' row) (hne : some b ≠ row) : PM b n f w' := by
  obtain ⟨D, h1, h2⟩ := h
  exact ⟨D, h1.kept hg hne, h2⟩
theorem below_grownBy {w w' : World} (h : Below w.heap.size w w') : w.grownBy w' none := ⟨h.os, h.tape, h.output, h.size, fun i hi _ => h.block i hi⟩
theorem PM.of {b n : Nat} {f : Int → Int → Option Int} {w w' : World} (h : PM b n f w) (hb : Below w.heap.size w w') : PM b n f w' := h.grown (below_grownBy hb) (by simp)
theorem PM.alloc {b n : Nat} {f : Int → Int → Option Int} {w : World} (h : PM b n f w) (o : Obj) : PM b n f (w.alloc o) := h.grown (World.grownBy_alloc w o none) (by simp)
theorem PM.drew {b n : Nat} {f : Int → Int → Option Int} {w : World} (h : PM b n f w) : PM b n f w.drew := h
theorem int_zero (w : World) : (zeroValue 3).run Try.prog w = .ok (.int .i64 0) w := Try.zeroValue3 w
/-- The map with another entry; without one. -/
def putF (f : Int → Int → Option Int) (x y v : Int) : Int → Int → Option Int := fun a b => if a = x ∧ b = y then some v else f a b
def delF (f : Int → Int → Option Int) (x y : Int) : Int → Int → Option Int := fun a b => if a = x ∧ b = y then none else f a b
section
variable {w : World} {ops : Array Oper} {rest : List Oper} {o : Oper} {a : Act} {Q : Exit → Act → World → Prop}
/-- 'v, ok := m[p]'. -/
theorem wpList_pm_ok (hg : o.guard = none) (m x : Operand) (t : TypeId) (hop : o.op = Op.lookup t m x true) (ht : Try.prog.underlying t = some (.map 46 3)) (b n : Nat) (f : Int → Int → Option Int) (hm : a.eval m = .map (some b)) (h : PM b n f w)
    (u v : Int) (hu : I64 u) (hv : I64 v) (hx : a.eval x = .agg #[.int .i64 u, .int .i64 v]) (r : Option Int) (hr : f u v = r)
    (hK : wpList Try.prog ops Q rest (a.put o.dst (.tuple #[.int .i64 (r.getD 0), .bool r.isSome])) w) : wpList Try.prog ops Q (o :: rest) a w := by
  obtain ⟨D, h1, h2⟩ := h
  obtain ⟨kl, hkl⟩ := pt_key hu hv
  obtain ⟨h3, h4⟩ := h2 u v kl hkl
  rw [hr] at h3
  refine wpList_lookup_own_ok_int w hg m x t hop 46 3 .i64 pt_keyed ht Try.underlying3 (int_zero w) b n D hm h1 _ kl hx hkl ?_
  intro c hat hwc
  rw [h3]
  cases r with
  | none =>
    rw [Maps.atKey_of_not_has h3] at hat
    injection hat with hat
    injection hat with _ hat
    subst hat
    exact hK
  | some z =>
    rw [h4 z hr] at hat
    injection hat with hat
    injection hat with _ hat
    subst hat
    exact hK
/-- 'm[p]'. -/
theorem wpList_pm_get (hg : o.guard = none) (m x : Operand) (t : TypeId) (hop : o.op = Op.lookup t m x false) (ht : Try.prog.underlying t = some (.map 46 3)) (b n : Nat) (f : Int → Int → Option Int) (hm : a.eval m = .map (some b)) (h : PM b n f w)
    (u v : Int) (hu : I64 u) (hv : I64 v) (hx : a.eval x = .agg #[.int .i64 u, .int .i64 v])
    (hK : wpList Try.prog ops Q rest (a.put o.dst (.int .i64 ((f u v).getD 0))) w) : wpList Try.prog ops Q (o :: rest) a w := by
  obtain ⟨D, h1, h2⟩ := h
  obtain ⟨kl, hkl⟩ := pt_key hu hv
  obtain ⟨h3, h4⟩ := h2 u v kl hkl
  refine wpList_lookup_own_int w hg m x t hop 46 3 .i64 pt_keyed ht Try.underlying3 (int_zero w) b n D hm h1 _ kl hx hkl ?_
  intro c hat hwc
  cases hf : f u v with
  | none =>
    rw [hf] at h3
    rw [Maps.atKey_of_not_has h3] at hat
    injection hat with hat
    injection hat with _ hat
    subst hat
    rw [hf] at hK
    exact hK
  | some z =>
    rw [h4 z hf] at hat
    injection hat with hat
    injection hat with _ hat
    subst hat
    rw [hf] at hK
    exact hK
/-- 'm[p] = v'. -/
theorem wpList_pm_put (hg : o.guard = none) (m x v : Operand) (t : TypeId) (hop : o.op = Op.mapUpdate t m x v) (ht : Try.prog.underlying t = some (.map 46 3)) (b n : Nat) (f : Int → Int → Option Int) (hm : a.eval m = .map (some b)) (h : PM b n f w) (hn : n < 1000000000)
    (p q s : Int) (hp : I64 p) (hq : I64 q) (hs : I64 s) (hx : a.eval x = .agg #[.int .i64 p, .int .i64 q]) (hv : a.eval v = .int .i64 s)
    (hK : ∀ w', PM b (n + 1) (putF f p q s) w' → w.grownBy w' (some b) → wpList Try.prog ops Q rest (a.put o.dst undef) w') : wpList Try.prog ops Q (o :: rest) a w := by
  obtain ⟨D, h1, h2⟩ := h
  obtain ⟨kl, hkl⟩ := pt_key hp hq
  refine wpList_mapUpdate_own w hg m x v t hop 46 3 pt_keyed ht (plainElem Try.prog 3) b n D hm h1 (by unfold maxLen; omega) _ _ kl hx hv hkl (.lit (.int .i64 s)) [] (plainElem_int Try.underlying3 (i64_wf hs)) ?_
  intro w' g1 g2
  refine hK w' ⟨_, g1, fun x y k' hk' => ?_⟩ g2
  by_cases e : x = p ∧ y = q
  · obtain ⟨rfl, rfl⟩ := e
    rw [hkl] at hk'
    injection hk' with hk'
    subst hk'
    have ik := pt_keyed.key hkl
    unfold putF
    rw [if_pos ⟨rfl, rfl⟩, Maps.has_put_same h1.isMap ik]
    exact ⟨rfl, fun v hv z => by rw [Maps.atKey_put_same h1.isMap ik]; injection hv with hv; rw [hv]⟩
  · have hne : k' ≠ kl := fun h0 => e (by rw [h0] at hk'; exact pt_inj hk' hkl)
    unfold putF
    rw [if_neg e, Maps.has_put_other hne]
    exact ⟨(h2 x y k' hk').1, fun v hv z => by rw [Maps.atKey_put_other hne]; exact (h2 x y k' hk').2 v hv z⟩
/-- 'delete(m, p)'. -/
theorem wpList_pm_del (hg : o.guard = none) (m x : Operand) (t : TypeId) (hop : o.op = Op.call { callee := Callee.builtin Builtin.delete, args := #[m, x], argTypes := #[t, 46] }) (ht : Try.prog.underlying t = some (.map 46 3)) (b n : Nat) (f : Int → Int → Option Int) (hm : a.eval m = .map (some b)) (h : PM b n f w)
    (p q : Int) (hp : I64 p) (hq : I64 q) (hx : a.eval x = .agg #[.int .i64 p, .int .i64 q])
    (hK : ∀ w', PM b n (delF f p q) w' → w.grownBy w' (some b) → wpList Try.prog ops Q rest (a.put o.dst (.tuple #[])) w') : wpList Try.prog ops Q (o :: rest) a w := by
  obtain ⟨D, h1, h2⟩ := h
  obtain ⟨kl, hkl⟩ := pt_key hp hq
  refine wpList_delete_own w hg m x t 46 hop 3 pt_keyed ht (plainElem Try.prog 3) b n D hm h1 _ kl hx hkl ?_
  intro w' g1 g2
  refine hK w' ⟨_, g1, fun x y k' hk' => ?_⟩ g2.grown
  by_cases e : x = p ∧ y = q
  · obtain ⟨rfl, rfl⟩ := e
    rw [hkl] at hk'
    injection hk' with hk'
    subst hk'
    unfold delF
    rw [if_pos ⟨rfl, rfl⟩, Maps.has_del_same]
    exact ⟨rfl, fun v hv => by cases hv⟩
  · have hne : k' ≠ kl := fun h0 => e (by rw [h0] at hk'; exact pt_inj hk' hkl)
    unfold delF
    rw [if_neg e, Maps.has_del_other hne]
    exact ⟨(h2 x y k' hk').1, fun v hv z => by rw [Maps.atKey_del_other hne]; exact (h2 x y k' hk').2 v hv z⟩
end
end Go.Proofs.Ytenckggfgbkfnaa
