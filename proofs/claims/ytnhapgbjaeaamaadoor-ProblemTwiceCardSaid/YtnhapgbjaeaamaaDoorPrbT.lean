/- Plain: a solution doubled. -/
import Derived.Test.YtnhapgbjaeaamaaDoorPrbQ
import Derived.Test.YtnhapgbjaeaamaaDoorPRZ
namespace Go.Proofs.YtnhapgbjaeaamaaDoor
open Go Go.RowKit
set_option linter.unusedSimpArgs false
set_option linter.unusedVariables false
theorem twice_law {st : Int} {Hd : List (Int × Int)} {N : List (Int × List Int)} {W H G DX DY : Int} {S : List Int} {p : List (Int × Int × Int)} (h0 : begE st Hd N W H G DX DY S p = 0) (h : slvB st Hd N W H G DX DY S p = true) (hg : G ≤ 3) (hx : -12 ≤ DX ∧ DX ≤ 12) (hy : -12 ≤ DY ∧ DY ≤ 12) :
    1 ≤ G ∧ begE st Hd N W H (2 * G) (2 * DX) (2 * DY) S p = 0 ∧ slvB st Hd N W H (2 * G) (2 * DX) (2 * DY) S p = true := by
  obtain ⟨ho, hf⟩ := beg_zero h0
  obtain ⟨a, rfl⟩ := Int.eq_ofNat_of_zero_le (show 0 ≤ W by have := ho.w; omega)
  obtain ⟨b, rfl⟩ := Int.eq_ofNat_of_zero_le (show 0 ≤ H by have := ho.h; omega)
  obtain ⟨GG, rfl⟩ := Int.eq_ofNat_of_zero_le (show 0 ≤ G by have := ho.g; omega)
  have hb : begE st Hd N a b (2 * (GG : Int)) (2 * DX) (2 * DY) S p = 0 := by
    unfold begE chkE
    rw [if_pos hf.rule, box_twice ho hg hx hy, if_pos rfl]
    exact fit_iff.2 hf
  refine ⟨by have := ho.g; omega, hb, ?_⟩
  unfold slvB at h ⊢
  rw [decide_eq_true h0, Bool.true_and, Int.toNat_natCast, Int.toNat_natCast] at h
  rw [decide_eq_true hb, Bool.true_and, Int.toNat_natCast, Int.toNat_natCast]
  have := sol_twice hf ho h (by omega) hx hy
  rwa [show ((2 * GG : Nat) : Int) = 2 * (GG : Int) by omega] at this
end Go.Proofs.YtnhapgbjaeaamaaDoor
