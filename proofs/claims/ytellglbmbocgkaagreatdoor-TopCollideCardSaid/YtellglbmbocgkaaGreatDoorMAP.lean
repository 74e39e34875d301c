/- Maps that the call itself makes: what they hold, as functions of the key; ranging over them. Over any program. A map from positions to numbers that the call itself makes: what it holds, as a function of the position. The kinds of maps that the program makes: from positions to numbers, to bools, to nothing; from numbers to patterns. Maps from positions to bools that the call makes; the reading of a map of numbers as an equation. -/
import Derived.Test.YtellglbmbocgkaaGreatDoorMEM
import Derived.Maps.OwnSet
import Derived.Maps.RangeWalk
import Derived.Test.YtellglbmbocgkaaGreatDoorProg
import Derived.Test.YtellglbmbocgkaaGreatDoorPLN
import Derived.Maps.OwnOps
import Derived.DeepKeys4
set_option linter.unusedSimpArgs false
set_option linter.unusedVariables false
section
namespace Go.Proofs.YtellglbmbocgkaaGreatDoor
open Go Go.RowKit
structure MK (P : Program) (k e : TypeId) (κ ε : Type) where
  K : Maps.Keyed P k
  kv : κ → Value
  okK : κ → Prop
  key : ∀ x, okK x → ∃ kl, keyOf P k (kv x) = some kl
  keyInv : ∀ v kl, keyOf P k v = some kl → ∃ x, okK x ∧ v = kv x
  kInj : ∀ x y, kv x = kv y → x = y
  ev : ε → Value
  eInj : ∀ x y, ev x = ev y → x = y
  z : ε
  zero : ∀ w, (zeroValue e).run P w = .ok (ev z) w
section
variable {P : Program} {k e : TypeId} {κ ε : Type} (M : MK P k e κ ε)
noncomputable def MK.R (v : Value) : Option (DataW Value × List MemPlace) := if @decide (∃ u, v = M.ev u) (Classical.propDecidable _) = true then some (.held v, []) else none
theorem MK.R_ev (u : ε) : M.R (M.ev u) = some (.held (M.ev u), []) := by
  unfold MK.R
  rw [if_pos (@decide_eq_true _ (Classical.propDecidable _) ⟨u, rfl⟩)]
theorem MK.R_inv {v : Value} {y : DataW Value × List MemPlace} (h : M.R v = some y) : ∃ u, v = M.ev u ∧ y = (.held (M.ev u), []) := by
  unfold MK.R at h
  split at h
  · rename_i hd
    obtain ⟨u, rfl⟩ := @of_decide_eq_true _ (Classical.propDecidable _) hd
    exact ⟨u, rfl, (Option.some.inj h).symm⟩
  · cases h
def MK.Is (D : DataW Value) (f : κ → Option ε) : Prop := ∀ x kl, keyOf P k (M.kv x) = some kl → Maps.has D kl = (f x).isSome ∧ ∀ u, f x = some u → ∀ z, D.atKey kl z = .held (M.ev u)
def MK.At (b n : Nat) (f : κ → Option ε) (w : World) : Prop := ∃ D : DataW Value, w.ownsMap P k M.R b n D ∧ M.Is D f
def MK.Rg (b r n : Nat) (f : κ → Option ε) (lf : κ → Bool) (cnt : Nat) (w : World) : Prop := ∃ (D : DataW Value) (left : Lit → Bool), w.ranges P k M.R b r n D left cnt ∧ M.Is D f ∧ ∀ x kl, keyOf P k (M.kv x) = some kl → left kl = lf x
variable {M} {w w' : World} {b n r cnt : Nat} {f : κ → Option ε} {lf : κ → Bool}
theorem MK.At.lt (h : M.At b n f w) : b < w.heap.size := by obtain ⟨D, h1, _⟩ := h; exact h1.lt
theorem MK.At.made (M : MK P k e κ ε) (w : World) : M.At w.heap.size 0 (fun _ => none) (w.alloc (.map #[] 0)) :=
  ⟨.map [], World.ownsMap_made _ _ _ _, fun x kl _ => ⟨rfl, fun v h => by cases h⟩⟩
theorem MK.At.mono {n' : Nat} (h : M.At b n f w) (hn : n ≤ n') : M.At b n' f w := by
  obtain ⟨D, h1, h2⟩ := h
  exact ⟨D, h1.mono hn, h2⟩
theorem MK.At.grown {row : Option Nat} (h : M.At b n f w) (hg : w.grownBy w' row) (hne : some b ≠ row) : M.At b n f w' := by
  obtain ⟨D, h1, h2⟩ := h
  exact ⟨D, h1.kept hg hne, h2⟩
theorem below_grownG (h : Below w.heap.size w w') : w.grownBy w' none := ⟨h.os, h.tape, h.output, h.size, fun i hi _ => h.block i hi⟩
theorem MK.At.of (h : M.At b n f w) (hb : Below w.heap.size w w') : M.At b n f w' := h.grown (below_grownG hb) (by simp)
theorem MK.At.alloc (h : M.At b n f w) (o : Obj) : M.At b n f (w.alloc o) := h.grown (World.grownBy_alloc w o none) (by simp)
theorem MK.At.drew (h : M.At b n f w) : M.At b n f w.drew := h
theorem MK.Rg.lt (h : M.Rg b r n f lf cnt w) : r < w.heap.size ∧ b < w.heap.size ∧ r ≠ b := by
  obtain ⟨D, left, h1, _⟩ := h
  exact ⟨h1.lt, h1.owns.lt, h1.ne⟩
theorem MK.Rg.grown {row : Option Nat} (h : M.Rg b r n f lf cnt w) (hg : w.grownBy w' row) (hb : some b ≠ row) (hr : some r ≠ row) : M.Rg b r n f lf cnt w' := by
  obtain ⟨D, left, h1, h2, h3⟩ := h
  exact ⟨D, left, h1.kept hg hb hr, h2, h3⟩
theorem MK.Rg.of (h : M.Rg b r n f lf cnt w) (hb : Below w.heap.size w w') : M.Rg b r n f lf cnt w' := h.grown (below_grownG hb) (by simp) (by simp)
theorem MK.Rg.alloc (h : M.Rg b r n f lf cnt w) (o : Obj) : M.Rg b r n f lf cnt (w.alloc o) := h.grown (World.grownBy_alloc w o none) (by simp) (by simp)
theorem MK.Is.get {D : DataW Value} (h : M.Is D f) {x : κ} {kl : Lit} (hk : keyOf P k (M.kv x) = some kl) {r : Option ε} (hr : f x = r) : Maps.has D kl = r.isSome ∧ D.atKey kl (.held (M.ev M.z)) = .held (M.ev (r.getD M.z)) := by
  obtain ⟨h1, h2⟩ := h x kl hk
  rw [hr] at h1 h2
  refine ⟨h1, ?_⟩
  cases r with
  | none => exact Maps.atKey_of_not_has h1 _
  | some u => exact h2 u rfl _
variable [DecidableEq κ]
def putG (f : κ → Option ε) (x : κ) (v : ε) : κ → Option ε := fun y => if y = x then some v else f y
theorem MK.Is.put {D : DataW Value} (h : M.Is D f) (hm : Maps.IsMap D) {x : κ} {kl : Lit} (hk : keyOf P k (M.kv x) = some kl) (v : ε) : M.Is (D.put kl (.held (M.ev v))) (putG f x v) := by
  intro y k' hk'
  have ik := M.K.key hk
  unfold putG
  by_cases e : y = x
  · subst e
    rw [hk] at hk'
    injection hk' with hk'
    subst hk'
    rw [if_pos rfl, Maps.has_put_same hm ik]
    exact ⟨rfl, fun u hu z => by rw [Maps.atKey_put_same hm ik]; injection hu with hu; rw [hu]⟩
  · have hne : k' ≠ kl := fun h0 => e (M.kInj _ _ (M.K.inj (by rw [← h0]; exact hk') hk))
    rw [if_neg e, Maps.has_put_other hne]
    exact ⟨(h y k' hk').1, fun u hu z => by rw [Maps.atKey_put_other hne]; exact (h y k' hk').2 u hu z⟩
end
section
variable {P : Program} {k e : TypeId} {κ ε : Type} {M : MK P k e κ ε} {w : World} {ops : Array Oper} {rest : List Oper} {o : Oper} {a : Act} {Q : Exit → Act → World → Prop}
theorem wpList_mg_ok (hg : o.guard = none) (m x : Operand) (t : TypeId) (hop : o.op = Op.lookup t m x true) (ht : P.underlying t = some (.map k e)) (b n : Nat) (f : κ → Option ε) (hm : a.eval m = .map (some b)) (h : M.At b n f w)
    (u : κ) (hu : M.okK u) (hx : a.eval x = M.kv u) (r : Option ε) (hr : f u = r)
    (hK : wpList P ops Q rest (a.put o.dst (.tuple #[M.ev (r.getD M.z), .bool r.isSome])) w) : wpList P ops Q (o :: rest) a w := by
  obtain ⟨D, h1, h2⟩ := h
  obtain ⟨kl, hkl⟩ := M.key u hu
  obtain ⟨h3, h4⟩ := h2.get hkl hr
  refine wpList_lookup_own_ok w hg m x t hop k e M.K ht M.R (M.zero w) (.held (M.ev M.z)) [] (M.R_ev _) b n D hm h1 _ kl hx hkl ?_
  intro v ps hv
  obtain ⟨c, rfl, hc⟩ := M.R_inv hv
  injection hc with hc _
  rw [h4] at hc
  injection hc with hc
  rw [h3, ← hc]
  exact hK
theorem wpList_mg_get (hg : o.guard = none) (m x : Operand) (t : TypeId) (hop : o.op = Op.lookup t m x false) (ht : P.underlying t = some (.map k e)) (b n : Nat) (f : κ → Option ε) (hm : a.eval m = .map (some b)) (h : M.At b n f w)
    (u : κ) (hu : M.okK u) (hx : a.eval x = M.kv u) (r : Option ε) (hr : f u = r)
    (hK : wpList P ops Q rest (a.put o.dst (M.ev (r.getD M.z))) w) : wpList P ops Q (o :: rest) a w := by
  obtain ⟨D, h1, h2⟩ := h
  obtain ⟨kl, hkl⟩ := M.key u hu
  obtain ⟨h3, h4⟩ := h2.get hkl hr
  refine wpList_plain hg fun K' hK' => ?_
  obtain ⟨v, ps, hrun, hv⟩ := h1.lookup M.K ht (M.zero w) (M.R_ev _) hkl
  obtain ⟨c, rfl, hc⟩ := M.R_inv hv
  injection hc with hc _
  rw [h4] at hc
  injection hc with hc
  unfold Oper.wp
  simp [execOp, hop, hm, hx, hrun, Result.andThen]
  exact hK' _ _ (by rw [← hc]; exact hK)
variable [DecidableEq κ]
theorem wpList_mg_put (hg : o.guard = none) (m x v : Operand) (t : TypeId) (hop : o.op = Op.mapUpdate t m x v) (ht : P.underlying t = some (.map k e)) (b n : Nat) (f : κ → Option ε) (hm : a.eval m = .map (some b)) (h : M.At b n f w) (hn : n < 1000000000)
    (u : κ) (hu : M.okK u) (s : ε) (hx : a.eval x = M.kv u) (hv : a.eval v = M.ev s)
    (hK : ∀ w', M.At b (n + 1) (putG f u s) w' → w.grownBy w' (some b) → wpList P ops Q rest (a.put o.dst undef) w') : wpList P ops Q (o :: rest) a w := by
  obtain ⟨D, h1, h2⟩ := h
  obtain ⟨kl, hkl⟩ := M.key u hu
  refine wpList_mapUpdate_own w hg m x v t hop k e M.K ht M.R b n D hm h1 (by unfold maxLen; omega) _ _ kl hx hv hkl (.held (M.ev s)) [] (M.R_ev s) ?_
  intro w' g1 g2
  exact hK w' ⟨_, g1, h2.put h1.isMap hkl s⟩ g2
end
end Go.Proofs.YtellglbmbocgkaaGreatDoor
end
section
namespace Go.Proofs.YtellglbmbocgkaaGreatDoor
open Go Go.RowKit
set_option maxRecDepth 100000
theorem laidOutM : laidOutB Tryz.prog = true := by kernel_rfl
theorem pt_row : (139 : TypeId) < Tryz.prog.types.size := of_decide_eq_true (by kernel_rfl)
theorem pt_wide : (match Tryz.prog.underlying 139 with | some (.array _ _) | some (.struct _) => true | _ => false) = true := by rw [Tryz.underlying139]
theorem pt_keyed : Maps.Keyed Tryz.prog 139 := Maps.Keyed.of_law (deep_law_laid laidOutM (m := 2) (by omega) pt_row (by kernel_rfl) pt_wide)
theorem i64_wf {a : Int} (h : I64 a) : (Lit.int .i64 a).wf = true := by
  unfold I64 at h
  simp [Lit.wf, IntKind.min, IntKind.max, IntKind.signed, IntKind.bits]; omega
theorem pt_key {x y : Int} (hx : I64 x) (hy : I64 y) : ∃ kl, keyOf Tryz.prog 139 (.agg #[.int .i64 x, .int .i64 y]) = some kl := by
  have hk : Tryz.prog.keyType 139 = true := by kernel_rfl
  have hc : Tryz.prog.cellsOf 139 = 2 := by kernel_rfl
  have hf : (Value.agg #[.int .i64 x, .int .i64 y]).formed Tryz.prog 139 = true := by simp [Value.formed, Tryz.underlying139, hc]
  have hd : ∃ d, Tryz.prog.types.size = d + 1 := ⟨Tryz.prog.types.size - 1, (Nat.succ_pred_eq_of_pos (Nat.lt_of_le_of_lt (Nat.zero_le _) pt_row)).symm⟩
  obtain ⟨d, hd⟩ := hd
  have hx1 : Tryz.prog.keyLits (d + 1) 3 [.int .i64 x] = some [.int .i64 x] := by simp [Program.keyLits, Tryz.underlying3, i64_wf hx]
  have hy1 : Tryz.prog.keyLits (d + 1) 3 [.int .i64 y] = some [.int .i64 y] := by simp [Program.keyLits, Tryz.underlying3, i64_wf hy]
  have h1 : Tryz.prog.cellsOf 3 = 1 := by kernel_rfl
  refine ⟨.string (keyBytes [.int .i64 x, .int .i64 y]), ?_⟩
  unfold keyOf
  rw [Tryz.underlying139]
  simp only [hk, hf, Bool.and_self, if_true, hd]
  have hl : Tryz.prog.keyLits (d + 1 + 1) 139 [.int .i64 x, .int .i64 y] = some [.int .i64 x, .int .i64 y] := by
    unfold Program.keyLits
    simp [Tryz.underlying139, hc, h1, hx1, hy1]
  show (Option.map _ (Tryz.prog.keyLits (d + 1 + 1) 139 [.int .i64 x, .int .i64 y])) = _
  rw [hl]; rfl
theorem pt_inj {x y x' y' : Int} {kl : Lit} (h : keyOf Tryz.prog 139 (.agg #[.int .i64 x, .int .i64 y]) = some kl) (h' : keyOf Tryz.prog 139 (.agg #[.int .i64 x', .int .i64 y']) = some kl) : x = x' ∧ y = y' := by
  have := pt_keyed.inj h h'
  simpa using this
def PM (b n : Nat) (f : Int → Int → Option Int) (w : World) : Prop :=
  ∃ D : DataW Unit, w.ownsMap Tryz.prog 139 (plainElem Tryz.prog 3) b n D ∧
    ∀ x y kl, keyOf Tryz.prog 139 (.agg #[.int .i64 x, .int .i64 y]) = some kl → Maps.has D kl = (f x y).isSome ∧ ∀ v, f x y = some v → ∀ z, D.atKey kl z = .lit (.int .i64 v)
theorem PM.lt {b n : Nat} {f : Int → Int → Option Int} {w : World} (h : PM b n f w) : b < w.heap.size := by obtain ⟨D, h1, _⟩ := h; exact h1.lt
theorem PM.made (w : World) : PM w.heap.size 0 (fun _ _ => none) (w.alloc (.map #[] 0)) :=
  ⟨.map [], World.ownsMap_made _ _ _ _, fun x y kl _ => ⟨rfl, fun v h => by cases h⟩⟩
theorem PM.grown {b n : Nat} {f : Int → Int → Option Int} {w w' : World} {row : Option Nat} (h : PM b n f w) (hg : w.grownBy w' row) (hne : some b ≠ row) : PM b n f w' := by
  obtain ⟨D, h1, h2⟩ := h
  exact ⟨D, h1.kept hg hne, h2⟩
theorem below_grownBy {w w' : World} (h : Below w.heap.size w w') : w.grownBy w' none := ⟨h.os, h.tape, h.output, h.size, fun i hi _ => h.block i hi⟩
theorem PM.of {b n : Nat} {f : Int → Int → Option Int} {w w' : World} (h : PM b n f w) (hb : Below w.heap.size w w') : PM b n f w' := h.grown (below_grownBy hb) (by simp)
theorem PM.alloc {b n : Nat} {f : Int → Int → Option Int} {w : World} (h : PM b n f w) (o : Obj) : PM b n f (w.alloc o) := h.grown (World.grownBy_alloc w o none) (by simp)
theorem PM.drew {b n : Nat} {f : Int → Int → Option Int} {w : World} (h : PM b n f w) : PM b n f w.drew := h
theorem int_zero (w : World) : (zeroValue 3).run Tryz.prog w = .ok (.int .i64 0) w := Tryz.zeroValue3 w
def putF (f : Int → Int → Option Int) (x y v : Int) : Int → Int → Option Int := fun a b => if a = x ∧ b = y then some v else f a b
section
variable {w : World} {ops : Array Oper} {rest : List Oper} {o : Oper} {a : Act} {Q : Exit → Act → World → Prop}
theorem wpList_pm_put (hg : o.guard = none) (m x v : Operand) (t : TypeId) (hop : o.op = Op.mapUpdate t m x v) (ht : Tryz.prog.underlying t = some (.map 139 3)) (b n : Nat) (f : Int → Int → Option Int) (hm : a.eval m = .map (some b)) (h : PM b n f w) (hn : n < 1000000000)
    (p q s : Int) (hp : I64 p) (hq : I64 q) (hs : I64 s) (hx : a.eval x = .agg #[.int .i64 p, .int .i64 q]) (hv : a.eval v = .int .i64 s)
    (hK : ∀ w', PM b (n + 1) (putF f p q s) w' → w.grownBy w' (some b) → wpList Tryz.prog ops Q rest (a.put o.dst undef) w') : wpList Tryz.prog ops Q (o :: rest) a w := by
  obtain ⟨D, h1, h2⟩ := h
  obtain ⟨kl, hkl⟩ := pt_key hp hq
  refine wpList_mapUpdate_own w hg m x v t hop 139 3 pt_keyed ht (plainElem Tryz.prog 3) b n D hm h1 (by unfold maxLen; omega) _ _ kl hx hv hkl (.lit (.int .i64 s)) [] (plainElem_int Tryz.underlying3 (i64_wf hs)) ?_
  intro w' g1 g2
  refine hK w' ⟨_, g1, fun x y k' hk' => ?_⟩ g2
  by_cases e : x = p ∧ y = q
  · obtain ⟨rfl, rfl⟩ := e
    rw [hkl] at hk'
    injection hk' with hk'
    subst hk'
    have ik := pt_keyed.key hkl
    unfold putF
    rw [if_pos ⟨rfl, rfl⟩, Maps.has_put_same h1.isMap ik]
    exact ⟨rfl, fun v hv z => by rw [Maps.atKey_put_same h1.isMap ik]; injection hv with hv; rw [hv]⟩
  · have hne : k' ≠ kl := fun h0 => e (by rw [h0] at hk'; exact pt_inj hk' hkl)
    unfold putF
    rw [if_neg e, Maps.has_put_other hne]
    exact ⟨(h2 x y k' hk').1, fun v hv z => by rw [Maps.atKey_put_other hne]; exact (h2 x y k' hk').2 v hv z⟩
end
end Go.Proofs.YtellglbmbocgkaaGreatDoor
end
section
namespace Go.Proofs.YtellglbmbocgkaaGreatDoor
open Go Go.RowKit
set_option maxRecDepth 100000
theorem pt_keyInv (v : Value) (kl : Lit) (h : keyOf Tryz.prog 139 v = some kl) : ∃ x : Int × Int, (I64 x.1 ∧ I64 x.2) ∧ v = .agg #[.int .i64 x.1, .int .i64 x.2] := by
  have hc : Tryz.prog.cellsOf 139 = 2 := by kernel_rfl
  have h1 : Tryz.prog.cellsOf 3 = 1 := by kernel_rfl
  have i64 : ∀ n : Int, (Lit.int .i64 n).wf = true → I64 n := fun n hw => by
    simp [Lit.wf, IntKind.min, IntKind.max, IntKind.signed, IntKind.bits] at hw
    unfold I64; omega
  unfold keyOf at h
  rw [Tryz.underlying139] at h
  simp only at h
  split at h
  case isFalse => cases h
  case isTrue hf =>
    simp only [Bool.and_eq_true] at hf
    cases v with
    | agg cs =>
      obtain ⟨cl⟩ := cs
      have hsz : cl.length = 2 := by
        have h2 := hf.2
        simp [Value.formed, Tryz.underlying139, hc] at h2
        exact h2
      match cl, hsz with
      | [a, b], _ =>
        obtain ⟨d, hd⟩ : ∃ d, Tryz.prog.types.size = d + 1 := ⟨Tryz.prog.types.size - 1, (Nat.succ_pred_eq_of_pos (Nat.lt_of_le_of_lt (Nat.zero_le _) pt_row)).symm⟩
        rw [hd] at h
        simp only [Option.map_eq_some_iff] at h
        obtain ⟨ls, hl, _⟩ := h
        have hcells : (Value.agg ⟨[a, b]⟩).cells.toList = [a, b] := rfl
        rw [hcells] at hl
        unfold Program.keyLits at hl
        simp [Tryz.underlying139, hc, h1] at hl
        obtain ⟨x, hx⟩ : ∃ x, Tryz.prog.keyLits (d + 1) 3 [a] = some x := by
          cases hx : Tryz.prog.keyLits (d + 1) 3 [a] with
          | none => rw [hx] at hl; cases hl
          | some x => exact ⟨x, rfl⟩
        obtain ⟨y, hy⟩ : ∃ y, Tryz.prog.keyLits (d + 1) 3 [b] = some y := by
          cases hy : Tryz.prog.keyLits (d + 1) 3 [b] with
          | none => rw [hx, hy] at hl; cases hl
          | some y => exact ⟨y, rfl⟩
        have key1 : ∀ u l, Tryz.prog.keyLits (d + 1) 3 [u] = some l → ∃ n, I64 n ∧ u = .int .i64 n := by
          intro u l hu
          unfold Program.keyLits at hu
          rw [Tryz.underlying3] at hu
          cases u <;> simp at hu
          obtain ⟨⟨rfl, hw⟩, _⟩ := hu
          exact ⟨_, i64 _ hw, rfl⟩
        obtain ⟨n, hn, rfl⟩ := key1 _ _ hx
        obtain ⟨m, hm, rfl⟩ := key1 _ _ hy
        exact ⟨(n, m), ⟨hn, hm⟩, rfl⟩
    | _ => simp [Value.formed, Tryz.underlying139] at hf
def ptV (x : Int × Int) : Value := .agg #[.int .i64 x.1, .int .i64 x.2]
theorem ptV_inj (x y : Int × Int) (h : ptV x = ptV y) : x = y := by
  unfold ptV at h
  simp at h
  exact Prod.ext h.1 h.2
def mkPB : MK Tryz.prog 139 4 (Int × Int) Bool where
  K := pt_keyed
  kv := ptV
  okK x := I64 x.1 ∧ I64 x.2
  key x hx := pt_key hx.1 hx.2
  keyInv := pt_keyInv
  kInj := ptV_inj
  ev := Value.bool
  eInj x y h := by injection h
  z := false
  zero w := Tryz.zeroValue4 w
end Go.Proofs.YtellglbmbocgkaaGreatDoor
end
section
namespace Go.Proofs.YtellglbmbocgkaaGreatDoor
open Go Go.RowKit
set_option maxRecDepth 100000
section
variable {w : World} {ops : Array Oper} {rest : List Oper} {o : Oper} {a : Act} {Q : Exit → Act → World → Prop}
/-- 'm[p]', a bool. -/
theorem wpList_pb_get (hg : o.guard = none) (m x : Operand) (t : TypeId) (hop : o.op = Op.lookup t m x false) (ht : Tryz.prog.underlying t = some (.map 139 4)) (b n : Nat) (f : Int × Int → Option Bool) (hm : a.eval m = .map (some b)) (h : mkPB.At b n f w)
    (u v : Int) (hu : I64 u) (hv : I64 v) (hx : a.eval x = .agg #[.int .i64 u, .int .i64 v]) (q : Bool) (hr : (f (u, v)).getD false = q)
    (hK : wpList Tryz.prog ops Q rest (a.put o.dst (.bool q)) w) : wpList Tryz.prog ops Q (o :: rest) a w :=
  wpList_mg_get (M := mkPB) hg m x t hop ht b n f hm h (u, v) ⟨hu, hv⟩ hx _ rfl (by show wpList _ _ _ _ (a.put o.dst (.bool ((f (u, v)).getD false))) _; rw [hr]; exact hK)
/-- 'm[p] = v', a bool. -/
theorem wpList_pb_put (hg : o.guard = none) (m x v : Operand) (t : TypeId) (hop : o.op = Op.mapUpdate t m x v) (ht : Tryz.prog.underlying t = some (.map 139 4)) (b n : Nat) (f : Int × Int → Option Bool) (hm : a.eval m = .map (some b)) (h : mkPB.At b n f w) (hn : n < 1000000000)
    (p q : Int) (hp : I64 p) (hq : I64 q) (s : Bool) (hx : a.eval x = .agg #[.int .i64 p, .int .i64 q]) (hv : a.eval v = .bool s)
    (hK : ∀ w', mkPB.At b (n + 1) (putG f (p, q) s) w' → w.grownBy w' (some b) → wpList Tryz.prog ops Q rest (a.put o.dst undef) w') : wpList Tryz.prog ops Q (o :: rest) a w :=
  wpList_mg_put (M := mkPB) hg m x v t hop ht b n f hm h hn (p, q) ⟨hp, hq⟩ s hx hv hK
end
/-- 'm[p]' as an equation on the operation's run. -/
theorem PM.look {b n : Nat} {f : Int → Int → Option Int} {w : World} (h : PM b n f w) {t : TypeId} (ht : Tryz.prog.underlying t = some (.map 139 3)) {u v r : Int} (hu : I64 u) (hv : I64 v) (hr : (f u v).getD 0 = r) :
    (Instr.lookup t (.map (some b)) (.agg #[.int .i64 u, .int .i64 v]) false).run Tryz.prog w = .ok (.int .i64 r) w := by
  obtain ⟨D, h1, h2⟩ := h
  obtain ⟨kl, hkl⟩ := pt_key hu hv
  obtain ⟨h3, h4⟩ := h2 u v kl hkl
  obtain ⟨c, hrun, hat, _⟩ := h1.lookup_int pt_keyed ht Tryz.underlying3 (int_zero w) hkl
  rw [hrun]
  cases hf : f u v with
  | none =>
    rw [hf] at h3 hr
    rw [Maps.atKey_of_not_has h3] at hat
    injection hat with hat
    injection hat with _ hat
    rw [← hat, ← hr]; rfl
  | some z =>
    rw [hf] at hr
    rw [h4 z hf] at hat
    injection hat with hat
    injection hat with _ hat
    rw [← hat, ← hr]; rfl
end Go.Proofs.YtellglbmbocgkaaGreatDoor
end
