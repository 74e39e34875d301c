/- The maps that totaltree.build makes: from places to numbers, from texts to numbers. -/
import Derived.Test.YtellglbmbocgkaaGreatDoorMAP
import Derived.StringKeys
namespace Go.Proofs.YtellglbmbocgkaaGreatDoor
open Go Go.RowKit
set_option linter.unusedSimpArgs false
set_option linter.unusedVariables false
set_option maxRecDepth 100000
set_option linter.unusedSimpArgs false
set_option linter.unusedVariables false
theorem pl_row : (238 : TypeId) < Tryz.prog.types.size := of_decide_eq_true (by kernel_rfl)
theorem pl_wide : (match Tryz.prog.underlying 238 with | some (.array _ _) | some (.struct _) => true | _ => false) = true := by rw [Tryz.underlying238]
theorem pl_keyed : Maps.Keyed Tryz.prog 238 := Maps.Keyed.of_law (deep_law_laid laidOutM (m := 3) (by omega) pl_row (by kernel_rfl) pl_wide)
def plV (x : Int × Int × Int) : Value := .agg #[.int .i64 x.1, .int .i64 x.2.1, .int .i64 x.2.2]
theorem plV_inj (x y : Int × Int × Int) (h : plV x = plV y) : x = y := by
  unfold plV at h
  simp at h
  exact Prod.ext h.1 (Prod.ext h.2.1 h.2.2)
theorem pl_lits (d : Nat) {y z : Int} (hy : I64 y) (hz : I64 z) : Tryz.prog.keyLits (d + 2) 184 [.int .i64 y, .int .i64 z] = some [.int .i64 y, .int .i64 z] := by
  have hc : Tryz.prog.cellsOf 184 = 2 := by kernel_rfl
  have h1 : Tryz.prog.cellsOf 3 = 1 := by kernel_rfl
  have k1 : ∀ a, I64 a → Tryz.prog.keyLits (d + 1) 3 [.int .i64 a] = some [.int .i64 a] := fun a ha => by simp [Program.keyLits, Tryz.underlying3, i64_wf ha]
  unfold Program.keyLits
  simp [Tryz.underlying184, hc, h1, k1 _ hy, k1 _ hz]
theorem pl_key {x y z : Int} (hx : I64 x) (hy : I64 y) (hz : I64 z) : ∃ kl, keyOf Tryz.prog 238 (plV (x, y, z)) = some kl := by
  have hk : Tryz.prog.keyType 238 = true := by kernel_rfl
  have hc : Tryz.prog.cellsOf 238 = 3 := by kernel_rfl
  have hc2 : Tryz.prog.cellsOf 184 = 2 := by kernel_rfl
  have h1 : Tryz.prog.cellsOf 3 = 1 := by kernel_rfl
  have hf : (Value.agg #[.int .i64 x, .int .i64 y, .int .i64 z]).formed Tryz.prog 238 = true := by simp [Value.formed, Tryz.underlying238, hc]
  obtain ⟨d, hd⟩ : ∃ d, Tryz.prog.types.size = d + 2 := ⟨Tryz.prog.types.size - 2, by have := pl_row; have h9 : 2 ≤ Tryz.prog.types.size := Nat.le_trans (by decide : 2 ≤ (238 : Nat)) (Nat.le_of_lt this); omega⟩
  have k1 : ∀ a, I64 a → Tryz.prog.keyLits (d + 2) 3 [.int .i64 a] = some [.int .i64 a] := fun a ha => by simp [Program.keyLits, Tryz.underlying3, i64_wf ha]
  refine ⟨.string (keyBytes [.int .i64 x, .int .i64 y, .int .i64 z]), ?_⟩
  unfold keyOf plV
  rw [Tryz.underlying238]
  simp only [hk, hf, Bool.and_self, if_true, hd]
  have hl : Tryz.prog.keyLits (d + 2 + 1) 238 [.int .i64 x, .int .i64 y, .int .i64 z] = some [.int .i64 x, .int .i64 y, .int .i64 z] := by
    unfold Program.keyLits
    simp [Tryz.underlying238, hc, hc2, h1, k1 _ hx, pl_lits d hy hz]
  show (Option.map _ (Tryz.prog.keyLits (d + 2 + 1) 238 [.int .i64 x, .int .i64 y, .int .i64 z])) = _
  rw [hl]; rfl
theorem int_lits {d : Nat} {u : Value} (hu : Tryz.prog.keyLits (d + 1) 3 [u] ≠ none) : ∃ n, I64 n ∧ u = .int .i64 n := by
  have i64 : ∀ n : Int, (Lit.int .i64 n).wf = true → I64 n := fun n hw => by
    simp [Lit.wf, IntKind.min, IntKind.max, IntKind.signed, IntKind.bits] at hw
    unfold I64; omega
  cases hq : Tryz.prog.keyLits (d + 1) 3 [u] with
  | none => exact absurd hq hu
  | some l =>
    unfold Program.keyLits at hq
    rw [Tryz.underlying3] at hq
    cases u <;> simp at hq
    obtain ⟨⟨rfl, hw⟩, _⟩ := hq
    exact ⟨_, i64 _ hw, rfl⟩
theorem pl_inv2 {d : Nat} {b c : Value} (h : Tryz.prog.keyLits (d + 2) 184 [b, c] ≠ none) : ∃ y z, I64 y ∧ I64 z ∧ b = .int .i64 y ∧ c = .int .i64 z := by
  have hc : Tryz.prog.cellsOf 184 = 2 := by kernel_rfl
  have h1 : Tryz.prog.cellsOf 3 = 1 := by kernel_rfl
  obtain ⟨l, hl⟩ := Option.ne_none_iff_exists'.1 h
  unfold Program.keyLits at hl
  simp [Tryz.underlying184, hc, h1] at hl
  have hb : Tryz.prog.keyLits (d + 1) 3 [b] ≠ none := fun e1 => by simp [e1] at hl
  obtain ⟨xb, hxb⟩ := Option.ne_none_iff_exists'.1 hb
  have hcc : Tryz.prog.keyLits (d + 1) 3 [c] ≠ none := fun e1 => by simp [hxb, e1] at hl
  obtain ⟨n1, i1, rfl⟩ := int_lits hb
  obtain ⟨n2, i2, rfl⟩ := int_lits hcc
  exact ⟨n1, n2, i1, i2, rfl, rfl⟩
theorem pl_keyInv (v : Value) (kl : Lit) (h : keyOf Tryz.prog 238 v = some kl) : ∃ x : Int × Int × Int, (I64 x.1 ∧ I64 x.2.1 ∧ I64 x.2.2) ∧ v = plV x := by
  have hc : Tryz.prog.cellsOf 238 = 3 := by kernel_rfl
  have hc2 : Tryz.prog.cellsOf 184 = 2 := by kernel_rfl
  have h1 : Tryz.prog.cellsOf 3 = 1 := by kernel_rfl
  unfold keyOf at h
  rw [Tryz.underlying238] at h
  simp only at h
  split at h
  case isFalse => cases h
  case isTrue hf =>
    simp only [Bool.and_eq_true] at hf
    cases v with
    | agg cs =>
      obtain ⟨cl⟩ := cs
      have hsz : cl.length = 3 := by
        have h2 := hf.2
        simp [Value.formed, Tryz.underlying238, hc] at h2
        exact h2
      match cl, hsz with
      | [a, b, c], _ =>
        obtain ⟨d, hd⟩ : ∃ d, Tryz.prog.types.size = d + 2 := ⟨Tryz.prog.types.size - 2, by have := pl_row; have h9 : 2 ≤ Tryz.prog.types.size := Nat.le_trans (by decide : 2 ≤ (238 : Nat)) (Nat.le_of_lt this); omega⟩
        rw [hd] at h
        simp only [Option.map_eq_some_iff] at h
        obtain ⟨ls, hl, _⟩ := h
        have hcells : (Value.agg ⟨[a, b, c]⟩).cells.toList = [a, b, c] := rfl
        rw [hcells] at hl
        unfold Program.keyLits at hl
        simp [Tryz.underlying238, hc, hc2, h1] at hl
        have ha : Tryz.prog.keyLits (d + 2) 3 [a] ≠ none := fun e1 => by simp [e1] at hl
        obtain ⟨xa, hxa⟩ := Option.ne_none_iff_exists'.1 ha
        have hb : Tryz.prog.keyLits (d + 2) 184 [b, c] ≠ none := fun e1 => by simp [hxa, e1] at hl
        obtain ⟨n1, i1, rfl⟩ := int_lits ha
        obtain ⟨n2, n3, i2, i3, rfl, rfl⟩ := pl_inv2 hb
        exact ⟨(n1, n2, n3), ⟨i1, i2, i3⟩, rfl⟩
    | _ => simp [Value.formed, Tryz.underlying238] at hf
/-- From places to numbers. -/
def mkPl : MK Tryz.prog 238 3 (Int × Int × Int) Int where
  K := pl_keyed
  kv := plV
  okK x := I64 x.1 ∧ I64 x.2.1 ∧ I64 x.2.2
  key x hx := pl_key hx.1 hx.2.1 hx.2.2
  keyInv := pl_keyInv
  kInj := plV_inj
  ev := Value.int .i64
  eInj x y h := by injection h
  z := 0
  zero w := Tryz.zeroValue3 w
/-- From texts to numbers. -/
def mkSt : MK Tryz.prog 9 3 (List UInt8) Int where
  K := Maps.string_keyed Tryz.underlying9
  kv l := .string ⟨l.toArray⟩
  okK l := l.length ≤ maxLen
  key l hl := ⟨_, WideMaps.keyOf_string_mk Tryz.underlying9 (s := ⟨l.toArray⟩) (by show l.toArray.size ≤ maxLen; rw [List.size_toArray]; exact hl)⟩
  keyInv v kl h := by
    obtain ⟨s, rfl, _, hs⟩ := WideMaps.string_of_keyOf Tryz.underlying9 h
    exact ⟨s.data.toList, (by show s.data.toList.length ≤ maxLen; rw [Array.length_toList]; exact hs), by simp⟩
  kInj x y h := by
    injection h with h
    injection h with h
    injection h
  ev := Value.int .i64
  eInj x y h := by injection h
  z := 0
  zero w := Tryz.zeroValue3 w
section
variable {w : World} {ops : Array Oper} {rest : List Oper} {o : Oper} {a : Act} {Q : Exit → Act → World → Prop}
theorem wpList_pl_hit (hg : o.guard = none) (m x : Operand) (t : TypeId) (hop : o.op = Op.lookup t m x true) (ht : Tryz.prog.underlying t = some (.map 238 3)) (b n : Nat) (f : Int × Int × Int → Option Int) (hm : a.eval m = .map (some b)) (h : mkPl.At b n f w)
    (u : Int × Int × Int) (hu : mkPl.okK u) (hx : a.eval x = .agg #[.int .i64 u.1, .int .i64 u.2.1, .int .i64 u.2.2]) (v : Int) (hr : f u = (some v))
    (hK : wpList Tryz.prog ops Q rest (a.put o.dst (.tuple #[.int .i64 v, .bool true])) w) : wpList Tryz.prog ops Q (o :: rest) a w :=
  wpList_mg_ok (M := mkPl) hg m x t hop ht b n f hm h u hu hx _ hr hK
theorem wpList_pl_miss (hg : o.guard = none) (m x : Operand) (t : TypeId) (hop : o.op = Op.lookup t m x true) (ht : Tryz.prog.underlying t = some (.map 238 3)) (b n : Nat) (f : Int × Int × Int → Option Int) (hm : a.eval m = .map (some b)) (h : mkPl.At b n f w)
    (u : Int × Int × Int) (hu : mkPl.okK u) (hx : a.eval x = .agg #[.int .i64 u.1, .int .i64 u.2.1, .int .i64 u.2.2]) (hr : f u = none)
    (hK : wpList Tryz.prog ops Q rest (a.put o.dst (.tuple #[.int .i64 0, .bool false])) w) : wpList Tryz.prog ops Q (o :: rest) a w :=
  wpList_mg_ok (M := mkPl) hg m x t hop ht b n f hm h u hu hx _ hr hK
theorem wpList_st_hit (hg : o.guard = none) (m x : Operand) (t : TypeId) (hop : o.op = Op.lookup t m x true) (ht : Tryz.prog.underlying t = some (.map 9 3)) (b n : Nat) (f : List UInt8 → Option Int) (hm : a.eval m = .map (some b)) (h : mkSt.At b n f w)
    (u : List UInt8) (hu : mkSt.okK u) (hx : a.eval x = .string ⟨u.toArray⟩) (v : Int) (hr : f u = (some v))
    (hK : wpList Tryz.prog ops Q rest (a.put o.dst (.tuple #[.int .i64 v, .bool true])) w) : wpList Tryz.prog ops Q (o :: rest) a w :=
  wpList_mg_ok (M := mkSt) hg m x t hop ht b n f hm h u hu hx _ hr hK
theorem wpList_st_miss (hg : o.guard = none) (m x : Operand) (t : TypeId) (hop : o.op = Op.lookup t m x true) (ht : Tryz.prog.underlying t = some (.map 9 3)) (b n : Nat) (f : List UInt8 → Option Int) (hm : a.eval m = .map (some b)) (h : mkSt.At b n f w)
    (u : List UInt8) (hu : mkSt.okK u) (hx : a.eval x = .string ⟨u.toArray⟩) (hr : f u = none)
    (hK : wpList Tryz.prog ops Q rest (a.put o.dst (.tuple #[.int .i64 0, .bool false])) w) : wpList Tryz.prog ops Q (o :: rest) a w :=
  wpList_mg_ok (M := mkSt) hg m x t hop ht b n f hm h u hu hx _ hr hK
theorem wpList_pl_put (hg : o.guard = none) (m x v : Operand) (t : TypeId) (hop : o.op = Op.mapUpdate t m x v) (ht : Tryz.prog.underlying t = some (.map 238 3)) (b n : Nat) (f : Int × Int × Int → Option Int) (hm : a.eval m = .map (some b)) (h : mkPl.At b n f w) (hn : n < 1000000000)
    (u : Int × Int × Int) (hu : mkPl.okK u) (y : Int) (hx : a.eval x = .agg #[.int .i64 u.1, .int .i64 u.2.1, .int .i64 u.2.2]) (hv : a.eval v = .int .i64 y)
    (hK : ∀ w', mkPl.At b (n + 1) (putG f u y) w' → w.grownBy w' (some b) → wpList Tryz.prog ops Q rest (a.put o.dst undef) w') : wpList Tryz.prog ops Q (o :: rest) a w :=
  wpList_mg_put (M := mkPl) hg m x v t hop ht b n f hm h hn u hu y hx hv hK
theorem wpList_st_put (hg : o.guard = none) (m x v : Operand) (t : TypeId) (hop : o.op = Op.mapUpdate t m x v) (ht : Tryz.prog.underlying t = some (.map 9 3)) (b n : Nat) (f : List UInt8 → Option Int) (hm : a.eval m = .map (some b)) (h : mkSt.At b n f w) (hn : n < 1000000000)
    (u : List UInt8) (hu : mkSt.okK u) (y : Int) (hx : a.eval x = .string ⟨u.toArray⟩) (hv : a.eval v = .int .i64 y)
    (hK : ∀ w', mkSt.At b (n + 1) (putG f u y) w' → w.grownBy w' (some b) → wpList Tryz.prog ops Q rest (a.put o.dst undef) w') : wpList Tryz.prog ops Q (o :: rest) a w :=
  wpList_mg_put (M := mkSt) hg m x v t hop ht b n f hm h hn u hu y hx hv hK
end
end Go.Proofs.YtellglbmbocgkaaGreatDoor
