/- Plain: what the laws of chapter 20 compare. No program in sight. -/
import Derived.Test.YtnhapgbjaeaamaaDoorPLN
import Derived.Test.YtnhapgbjaeaamaaDoorDIR
import Derived.Test.YtnhapgbjaeaamaaDoorCell7
namespace Go.Proofs.YtnhapgbjaeaamaaDoor
open Go Go.RowKit
set_option linter.unusedSimpArgs false
set_option linter.unusedVariables false
section
variable {st : Int} {H : List (Int × Int)} {N : List (Int × List Int)} {p l : List (Int × Int × Int)} {x y dx dy : Int}
theorem stp_zero (h : stpE st H N p = 0) : FitsR st H N p ∧ stE H N p = 0 ∧ stpL st H N p = stL H N p := by
  unfold stpE at h
  by_cases hf : fitE st H N p = 0
  · rw [if_pos hf] at h
    exact ⟨fit_iff.1 hf, h, by unfold stpL; rw [if_pos hf]⟩
  · rw [if_neg hf] at h; exact absurd h hf
theorem nx_zeroE (h : nxE st H N p x y = 0) : FitsR st H N p ∧ nxV st H N p x y = nxT H N p x y := by
  unfold nxE at h
  by_cases hf : fitE st H N p = 0
  · rw [if_pos hf] at h
    by_cases hv : validB x y = true
    · exact ⟨fit_iff.1 hf, by unfold nxV; rw [if_pos hf, if_pos hv]⟩
    · rw [if_neg hv] at h; omega
  · rw [if_neg hf] at h; exact absurd h hf
theorem dir_next (h : nxE st H N p x y = 0) (h2 : stpE st H N p = 0) : getC (stpL st H N p) x y = nxV st H N p x y := by
  obtain ⟨hf, hv⟩ := nx_zeroE h
  obtain ⟨_, he, hl⟩ := stp_zero h2
  rw [hl, hv, st_get hf he]
theorem run_zero {m : Nat} (h : runE st H N p m = 0) : FitsR st H N p ∧ m ≤ 10000 ∧ itS H N p m = (0, runL st H N p m) := by
  have h0 := h
  unfold runE at h
  by_cases hf : fitE st H N p = 0
  · rw [if_pos hf] at h
    by_cases hn : (m : Int) < 0 ∨ 10000 < (m : Int)
    · rw [if_pos hn] at h; omega
    · rw [if_neg hn, Int.toNat_natCast] at h
      refine ⟨fit_iff.1 hf, by omega, ?_⟩
      unfold runL
      rw [if_pos h0, Int.toNat_natCast]
      exact Prod.ext h rfl
  · rw [if_neg hf] at h; exact absurd h hf
theorem run_fits {m : Nat} (hf : FitsR st H N p) (hm : m ≤ 10000) : runE st H N p m = (itS H N p m).1 ∧ runL st H N p m = (itS H N p m).2 := by
  have h1 : runE st H N p m = (itS H N p m).1 := by
    unfold runE; rw [if_pos (fit_iff.2 hf), if_neg (by omega), Int.toNat_natCast]
  refine ⟨h1, ?_⟩
  unfold runL
  rw [Int.toNat_natCast]
  by_cases h0 : runE st H N p m = 0
  · rw [if_pos h0]
  · rw [if_neg h0]
    exact (it_err (by rw [← h1]; exact h0)).symm
theorem dir_parts {m k : Nat} (h : runE st H N p m = 0) (hm : m ≤ 100) (hk : k ≤ 100) : runE st H N (runL st H N p m) k = runE st H N p ((m : Int) + (k : Int)) ∧ runL st H N (runL st H N p m) k = runL st H N p ((m : Int) + (k : Int)) := by
  obtain ⟨hf, _, hi⟩ := run_zero h
  have hf2 := it_fitsP hf hi
  have ha := it_add (H := H) (N := N) (p := p) (m := m) (by rw [hi]) k
  rw [hi] at ha
  obtain ⟨a1, a2⟩ := run_fits hf2 (m := k) (by omega)
  obtain ⟨b1, b2⟩ := run_fits hf (m := m + k) (by omega)
  have e : ((m + k : Nat) : Int) = (m : Int) + (k : Int) := by omega
  rw [e] at b1 b2
  rw [a1, a2, b1, b2, ha]
  exact ⟨rfl, rfl⟩
theorem run_err {nn : Int} (h : runE st H N p nn ≠ 0) : runL st H N p nn = [] := by unfold runL; rw [if_neg h]
theorem top_move (hf : FitsR st H N p) (hr : rightC (p.map (mv5 dx dy)) = true) : FitsR st H N (p.map (mv5 dx dy)) := by
  refine ⟨hf.rule, hr, fun c hc => ?_⟩
  obtain ⟨d, hd, rfl⟩ := List.mem_map.1 hc
  exact hf.top d hd
theorem rightC_moved (hr : rightC l = true) (ha : (l.map (mv dx dy)).all plC = true) : rightC (l.map (mv5 dx dy)) = true := by
  refine rightC_of (by rw [List.length_map]; exact (rightC_ok hr).1) (fun c hc => ?_) ?_
  · obtain ⟨d, hd, rfl⟩ := List.mem_map.1 hc
    rw [List.all_eq_true] at ha
    have h1 := ha _ (List.mem_map.2 ⟨d, hd, rfl⟩)
    obtain ⟨a, b, s⟩ := d
    have h2 := cell_right hr hd
    exact ⟨validB_iff.1 h1, h2.2.1, h2.2.2⟩
  · unfold SSC
    rw [List.pairwise_map]
    exact (rightC_sorted hr).imp fun {u v} h => by rw [cBef_mv]; exact h
theorem dir_moves (hs : shE p dx dy = 0) (h : stpE st H N p = 0) :
    (stpE st H N (shL p dx dy) = 0 ∧ shE (stpL st H N p) dx dy = 0 ∧ stpL st H N (shL p dx dy) = shL (stpL st H N p) dx dy) ∨ (stpE st H N (shL p dx dy) = 5 ∧ shE (stpL st H N p) dx dy = 5) := by
  obtain ⟨hf, he, hl⟩ := stp_zero h
  have hp : rightC p = true ∧ farB dx dy = true ∧ (p.map (mv dx dy)).all plC = true := by
    unfold shE at hs
    by_cases h1 : rightC p = true
    · rw [if_pos h1] at hs
      by_cases h2 : farB dx dy = true
      · rw [if_pos h2] at hs
        by_cases h3 : (p.map (mv dx dy)).all plC = true
        · exact ⟨h1, h2, h3⟩
        · rw [if_neg h3] at hs; omega
      · rw [if_neg h2] at hs; omega
    · rw [if_neg h1] at hs; omega
  have hq := rightC_moved hp.1 hp.2.2
  have hf2 := top_move hf hq
  have hsl : shL p dx dy = p.map (mv5 dx dy) := shL_ok hs
  have hL := (st_fits hf).pat
  obtain ⟨m1, m2⟩ := st_move hf hf2 he
  have e2 : stpE st H N (p.map (mv5 dx dy)) = stE H N (p.map (mv5 dx dy)) ∧ stpL st H N (p.map (mv5 dx dy)) = stL H N (p.map (mv5 dx dy)) := by
    unfold stpE stpL; rw [if_pos (fit_iff.2 hf2), if_pos (fit_iff.2 hf2)]; exact ⟨rfl, rfl⟩
  rw [hsl, e2.1, e2.2, hl]
  have hall : (List.map (mv5 dx dy) (stL H N p)).all plD = (List.map (mv dx dy) (stL H N p)).all plC := rfl
  by_cases hv : (List.map (mv5 dx dy) (stL H N p)).all plD = true
  · rw [if_pos hv] at m1 m2
    have h5 := shE_ok hL hp.2.1 (by rw [← hall]; exact hv)
    exact .inl ⟨m1, h5, by rw [m2, shL_ok h5]; rfl⟩
  · rw [if_neg hv] at m1
    exact .inr ⟨m1, shE_out hL hp.2.1 (by rw [← hall]; simpa using hv)⟩
end
end Go.Proofs.YtnhapgbjaeaamaaDoor
