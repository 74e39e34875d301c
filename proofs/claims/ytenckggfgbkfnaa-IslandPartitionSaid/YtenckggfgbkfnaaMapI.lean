/- The kinds of maps that the program makes: from positions to numbers, to bools, to nothing; from numbers to patterns. -/
import Derived.Test.YtenckggfgbkfnaaMapG
import Derived.Test.YtenckggfgbkfnaaMapP
namespace Go.Proofs.Ytenckggfgbkfnaa
open Go Go.RowKit
set_option linter.unusedSimpArgs false
set_option linter.unusedVariables false
set_option maxRecDepth 100000
theorem pt_keyInv (v : Value) (kl : Lit) (h : keyOf Try.prog 46 v = some kl) : ∃ x : Int × Int, (I64 x.1 ∧ I64 x.2) ∧ v = .agg #[.int .i64 x.1, .int .i64 x.2] := by
  have hc : Try.prog.cellsOf 46 = 2 := by kernel_rfl
  have h1 : Try.prog.cellsOf 3 = 1 := by kernel_rfl
  have i64 : ∀ n : Int, (Lit.int .i64 n).wf = true → I64 n := fun n hw => by
    simp [Lit.wf, IntKind.min, IntKind.max, IntKind.signed, IntKind.bits] at hw
    unfold I64; omega
  unfold keyOf at h
  rw [Try.underlying46] at h
  simp only at h
  split at h
  case isFalse => cases h
  case isTrue hf =>
    simp only [Bool.and_eq_true] at hf
    cases v with
    | agg cs =>
      obtain ⟨cl⟩ := cs
      have hsz : cl.length = 2 := by
        have h2 := hf.2
        simp [Value.formed, Try.underlying46, hc] at h2
        exact h2
      match cl, hsz with
      | [a, b], _ =>
        obtain ⟨d, hd⟩ : ∃ d, Try.prog.types.size = d + 1 := ⟨Try.prog.types.size - 1, (Nat.succ_pred_eq_of_pos (Nat.lt_of_le_of_lt (Nat.zero_le _) pt_row)).symm⟩
        rw [hd] at h
        simp only [Option.map_eq_some_iff] at h
        obtain ⟨ls, hl, _⟩ := h
        have hcells : (Value.agg ⟨[a, b]⟩).cells.toList = [a, b] := rfl
        rw [hcells] at hl
        unfold Program.keyLits at hl
        simp [Try.underlying46, hc, h1] at hl
        obtain ⟨x, hx⟩ : ∃ x, Try.prog.keyLits (d + 1) 3 [a] = some x := by
          cases hx : Try.prog.keyLits (d + 1) 3 [a] with
          | none => rw [hx] at hl; cases hl
          | some x => exact ⟨x, rfl⟩
        obtain ⟨y, hy⟩ : ∃ y, Try.prog.keyLits (d + 1) 3 [b] = some y := by
          cases hy : Try.prog.keyLits (d + 1) 3 [b] with
          | none => rw [hx, hy] at hl; cases hl
          | some y => exact ⟨y, rfl⟩
        have key1 : ∀ u l, Try.prog.keyLits (d + 1) 3 [u] = some l → ∃ n, I64 n ∧ u = .int .i64 n := by
          intro u l hu
          unfold Program.keyLits at hu
          rw [Try.underlying3] at hu
          cases u <;> simp at hu
          obtain ⟨⟨rfl, hw⟩, _⟩ := hu
          exact ⟨_, i64 _ hw, rfl⟩
        obtain ⟨n, hn, rfl⟩ := key1 _ _ hx
        obtain ⟨m, hm, rfl⟩ := key1 _ _ hy
        exact ⟨(n, m), ⟨hn, hm⟩, rfl⟩
    | _ => simp [Value.formed, Try.underlying46] at hf
def ptV (x : Int × Int) : Value := .agg #[.int .i64 x.1, .int .i64 x.2]
theorem ptV_inj (x y : Int × Int) (h : ptV x = ptV y) : x = y := by
  unfold ptV at h
  simp at h
  exact Prod.ext h.1 h.2
/-- Positions to numbers. -/
def mkPI : MK Try.prog 46 3 (Int × Int) Int where
  K := pt_keyed
  kv := ptV
  okK x := I64 x.1 ∧ I64 x.2
  key x hx := pt_key hx.1 hx.2
  keyInv := pt_keyInv
  kInj := ptV_inj
  ev := Value.int .i64
  eInj x y h := by injection h
  z := 0
  zero w := Try.zeroValue3 w
/-- Sets of positions. -/
def mkPU : MK Try.prog 46 58 (Int × Int) Unit where
  K := pt_keyed
  kv := ptV
  okK x := I64 x.1 ∧ I64 x.2
  key x hx := pt_key hx.1 hx.2
  keyInv := pt_keyInv
  kInj := ptV_inj
  ev _ := Value.agg #[]
  eInj _ _ _ := rfl
  z := ()
  zero w := Try.zeroValue58 w
/-- Positions to bools. -/
def mkPB : MK Try.prog 46 4 (Int × Int) Bool where
  K := pt_keyed
  kv := ptV
  okK x := I64 x.1 ∧ I64 x.2
  key x hx := pt_key hx.1 hx.2
  keyInv := pt_keyInv
  kInj := ptV_inj
  ev := Value.bool
  eInj x y h := by injection h
  z := false
  zero w := Try.zeroValue4 w
/-- Numbers to patterns: the slices' heads. -/
def hdV (h : Option Addr × Nat × Nat) : Value := .slice h.1 h.2.1 h.2.2
def mkIS : MK Try.prog 3 23 Int (Option Addr × Nat × Nat) where
  K := Maps.int_keyed Try.underlying3
  kv := Value.int .i64
  okK := I64
  key x hx := ⟨_, Maps.keyOf_int_mk Try.underlying3 (i64_wf hx)⟩
  keyInv v kl h := by
    obtain ⟨x, rfl, _, hw⟩ := Maps.keyOf_int_inv Try.underlying3 h
    exact ⟨x, by simp [Lit.wf, IntKind.min, IntKind.max, IntKind.signed, IntKind.bits] at hw; unfold I64; omega, rfl⟩
  kInj x y h := by injection h
  ev := hdV
  eInj x y h := by
    unfold hdV at h
    injection h with h1 h2 h3
    exact Prod.ext h1 (Prod.ext h2 h3)
  z := (none, 0, 0)
  zero w := Try.zeroValue23 w
end Go.Proofs.Ytenckggfgbkfnaa
