/- algebra.merge with each of its visitors. -/
import Derived.Test.YtnhapgbjaeaamaaDoorVis
import Derived.Test.YtnhapgbjaeaamaaDoorPLN
import Derived.Test.YtnhapgbjaeaamaaDoorSortA
import Derived.Test.YtnhapgbjaeaamaaDoorCellS
namespace Go.Proofs.YtnhapgbjaeaamaaDoor
open Go Go.RowKit
set_option linter.unusedSimpArgs false
set_option linter.unusedVariables false
set_option maxRecDepth 100000
attribute [local go_sem ↓ high] eq_cl neq_cl eq_pt neq_pt
/-- A slice of cells that lies below block B. -/
def RdB (B : Nat) (w : World) (A : Option Addr) (n : Nat) (l : List (Int × Int × Int)) : Prop := Rd encC 3 w A n l ∧ (0 < n → ∃ b o, A = some ⟨b, o, none⟩ ∧ b < B)
theorem RdB.of {B : Nat} {w w' : World} {A : Option Addr} {n : Nat} {l : List (Int × Int × Int)} (h : RdB B w A n l) (hb : Below B w w') : RdB B w' A n l := by
  refine ⟨⟨h.1.1, fun hn => ?_⟩, h.2⟩
  obtain ⟨b, o, e, hbl, hc⟩ := h.1.2 hn
  obtain ⟨b', o', e', hB⟩ := h.2 hn
  rw [e] at e'
  injection e' with e'
  injection e' with e1 e2 e3
  subst e1 e2
  exact ⟨b, o, e, by have := hb.size; omega, fun i x hi j u hu => (hb.cell (p := ⟨_, _, none⟩) hB).trans (hc i x hi j u hu)⟩
theorem RdB.mk' {w : World} {A : Option Addr} {n : Nat} {l : List (Int × Int × Int)} (h : Rd encC 3 w A n l) : RdB w.heap.size w A n l :=
  ⟨h, fun hn => by obtain ⟨b, o, e, hbl, _⟩ := h.2 hn; exact ⟨b, o, e, hbl⟩⟩
theorem rdB_tail {B b o n c : Nat} {w : World} {l : List (Int × Int × Int)} (h : RdB B w (some ⟨b, o, none⟩) n l) (hn : 0 < n) (hc : n ≤ c) :
    ∃ E, (if c = 1 then (some ⟨b, o, none⟩ : Option Addr) else some ⟨b, o + 3, none⟩) = E ∧ RdB B w E (n - 1) (l.drop 1) := by
  refine ⟨_, rfl, ?_⟩
  obtain ⟨b', o', e', hB⟩ := h.2 hn
  injection e' with e'
  injection e' with e1 e2 e3
  subst e1 e2
  by_cases h1 : c = 1
  · rw [if_pos h1]
    have : n - 1 = 0 := by omega
    rw [this]
    exact ⟨⟨by rw [List.length_drop, h.1.len]; omega, fun hh => absurd hh (by omega)⟩, fun hh => absurd hh (by omega)⟩
  · rw [if_neg h1]
    exact ⟨h.1.drop hn, fun _ => ⟨b, o + 3, rfl, hB⟩⟩
theorem res_left (k : Nat) (x : Int × Int × Int) (a : List (Int × Int × Int)) : resL k (x :: a) [] = visL k (some x, none) ++ resL k a [] := by unfold resL; rw [evL_left]; rfl
theorem res_right' (k : Nat) (y : Int × Int × Int) (b : List (Int × Int × Int)) : resL k [] (y :: b) = visL k (none, some y) ++ resL k [] b := by unfold resL; rw [evL_right]; rfl
theorem res_lt (k : Nat) {x y : Int × Int × Int} {a b : List (Int × Int × Int)} (h : cBef x y = true) : resL k (x :: a) (y :: b) = visL k (some x, none) ++ resL k a (y :: b) := by unfold resL; rw [evL_lt h]; rfl
theorem res_gt (k : Nat) {x y : Int × Int × Int} {a b : List (Int × Int × Int)} (h : cBef y x = true) : resL k (x :: a) (y :: b) = visL k (none, some y) ++ resL k (x :: a) b := by unfold resL; rw [evL_gt h]; rfl
theorem res_eq (k : Nat) {x y : Int × Int × Int} {a b : List (Int × Int × Int)} (h : cBef x y = false) (h2 : cBef y x = false) : resL k (x :: a) (y :: b) = visL k (some x, some y) ++ resL k a b := by unfold resL; rw [evL_eq h h2]; rfl
theorem cmpP_neg (a b x y : Int) : decide (cmpP a b x y < 0) = befP a b x y := by
  unfold cmpP befP orI cmpI; (repeat' split) <;> simp <;> omega
theorem cmpP_pos (a b x y : Int) : decide (0 < cmpP a b x y) = befP x y a b := by
  unfold cmpP befP orI cmpI; (repeat' split) <;> simp <;> omega
theorem cases3 (x y : Int × Int × Int) : (cBef x y = true ∧ cBef y x = false) ∨ (cBef x y = false ∧ cBef y x = true) ∨ (cBef x y = false ∧ cBef y x = false) := by
  cases h : cBef x y with
  | true => exact .inl ⟨rfl, cBef_asym h⟩
  | false =>
    cases h2 : cBef y x with
    | true => exact .inr (.inl ⟨rfl, rfl⟩)
    | false => exact .inr (.inr ⟨rfl, rfl⟩)
theorem res_nil (k : Nat) : resL k [] [] = [] := by unfold resL; rw [evL_nil_left]; rfl
end Go.Proofs.YtnhapgbjaeaamaaDoor
