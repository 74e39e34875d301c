/- Plain: what the forms' functions give leads back. -/
import Derived.Test.YtmenokhnanghgaaGreatSnp5
import Derived.Test.YtmenokhnanghgaaGreatSnp6
import Derived.Test.YtmenokhnanghgaaGreatSnp7
import Derived.Test.YtmenokhnanghgaaGreatSnpX
import Derived.Test.YtmenokhnanghgaaGreatSnpS
import Derived.Test.YtmenokhnanghgaaGreatSnpV
import Derived.Test.YtmenokhnanghgaaGreatSNZ
namespace Go.Proofs.YtmenokhnanghgaaGreat
open Go Go.RowKit
set_option linter.unusedSimpArgs false
set_option linter.unusedVariables false
set_option linter.unusedSimpArgs false
set_option linter.unusedVariables false
theorem endL_ok {X : List Bool} (h : endE X = 0) : X.length ≤ 524288 ∧ endL X = pkB X := by
  unfold endE at h
  unfold endL
  by_cases k : X.length ≤ 524288
  · exact ⟨k, by rw [if_pos k]⟩
  · rw [if_neg k] at h; exact absurd h (by decide)
theorem endE_fit {X : List Bool} (h : X.length ≤ 524288) : endE X = 0 ∧ endL X = pkB X := by
  unfold endE endL; rw [if_pos h, if_pos h]; exact ⟨rfl, rfl⟩
theorem endL_by (X : List Bool) : ByL (endL X) ∧ (endL X).length ≤ 65536 := by
  unfold endL
  by_cases h : X.length ≤ 524288
  · rw [if_pos h]; exact ⟨byL_pk X, by rw [pkB_len]; omega⟩
  · rw [if_neg h]; exact ⟨fun x h => (List.not_mem_nil h).elim, by simp⟩
section
variable {l : List Cel} {st key : Int} {H : List (Int × Int)} {N : List Nd} {Q : List Qd} {fs : List TFr} {data : List Int}
theorem fpL_by (l : List Cel) : ByL (fpL l) ∧ (fpL l).length ≤ 65536 := by
  unfold fpL
  by_cases h : rightC l = true
  · rw [if_pos h]; exact endL_by _
  · rw [if_neg h]; exact ⟨fun x h => (List.not_mem_nil h).elim, by simp⟩
theorem ftL_by (st : Int) (H : List (Int × Int)) (N : List Nd) : ByL (ftL st H N) ∧ (ftL st H N).length ≤ 65536 := by
  unfold ftL
  by_cases h : trR st H N = true
  · rw [if_pos h]; exact endL_by _
  · rw [if_neg h]; exact ⟨fun x h => (List.not_mem_nil h).elim, by simp⟩
theorem fqL_by (st : Int) (Q : List Qd) : ByL (fqL st Q) ∧ (fqL st Q).length ≤ 65536 := by
  unfold fqL
  by_cases h : qR st Q = true
  · rw [if_pos h]; exact endL_by _
  · rw [if_neg h]; exact ⟨fun x h => (List.not_mem_nil h).elim, by simp⟩
theorem fmL_by (key : Int) (fs : List TFr) : ByL (fmL key fs) ∧ (fmL key fs).length ≤ 65536 := by
  unfold fmL
  by_cases h : tlB key fs = true
  · rw [if_pos h]; exact endL_by _
  · rw [if_neg h]; exact ⟨fun x h => (List.not_mem_nil h).elim, by simp⟩
theorem fp_back (h : fpE l = 0) : tpE (unB (fpL l)) = 0 ∧ tpL (unB (fpL l)) = l := by
  cases hr : rightC l with
  | false => rw [(fp_bad hr).1] at h; exact absurd h (by decide)
  | true =>
    obtain ⟨h1, h2⟩ := fp_ok hr
    rw [h1] at h
    rw [h2, (endL_ok h).2]
    exact pat_back hr
theorem ft_back (h : ftE st H N = 0) : ttE (unB (ftL st H N)) = 0 ∧ ttV (unB (ftL st H N)) = (st, H, N) := by
  cases hr : trR st H N with
  | false => rw [(ft_bad hr).1] at h; exact absurd h (by decide)
  | true =>
    obtain ⟨h1, h2⟩ := ft_ok hr
    rw [h1] at h
    rw [h2, (endL_ok h).2]
    obtain ⟨k1, k2, k3, k4⟩ := tre_back hr
    refine ⟨k1, ?_⟩
    unfold ttV
    rw [if_pos k1, k2, k3, k4]
theorem fq_back (h : fqE st Q = 0) : tqE (unB (fqL st Q)) = 0 ∧ tqV (unB (fqL st Q)) = (st, Q) := by
  cases hr : qR st Q with
  | false => rw [(fq_bad hr).1] at h; exact absurd h (by decide)
  | true =>
    obtain ⟨h1, h2⟩ := fq_ok hr
    rw [h1] at h
    rw [h2, (endL_ok h).2]
    obtain ⟨k0, k1, k2, k3⟩ := qds_back hr
    have k1' : tqE (unB (pkB (qdsB st Q))) = 0 := k1
    refine ⟨k1', ?_⟩
    unfold tqV
    rw [if_pos k1', k2, k3]
theorem fm_back (h : fmE key fs = 0) : tmE (unB (fmL key fs)) = 0 ∧ tmV (unB (fmL key fs)) = (key, fs) := by
  cases hr : tlB key fs with
  | false => rw [(fm_bad hr).1] at h; exact absurd h (by decide)
  | true =>
    obtain ⟨h1, h2⟩ := fm_ok hr
    rw [h1] at h
    rw [h2, (endL_ok h).2]
    obtain ⟨k1, k2, k3⟩ := tim_back hr
    refine ⟨k1, ?_⟩
    unfold tmV
    rw [if_pos k1, k2, k3]
theorem tp_form (hd : ByL data) (hn : data.length ≤ 65536) (h : tpE (unB data) = 0) : fpE (tpL (unB data)) = 0 ∧ fpL (tpL (unB data)) = data := by
  obtain ⟨k1, k2, k3⟩ := pat_form hd h
  obtain ⟨h1, h2⟩ := fp_ok k1
  obtain ⟨h3, h4⟩ := endE_fit (X := patB (tpL (unB data))) (by omega)
  exact ⟨by rw [h1, h3], by rw [h2, h4, k2]⟩
theorem tt_form (hd : ByL data) (hn : data.length ≤ 65536) (h : ttE (unB data) = 0) : ftE (ttV (unB data)).1 (ttV (unB data)).2.1 (ttV (unB data)).2.2 = 0 ∧ ftL (ttV (unB data)).1 (ttV (unB data)).2.1 (ttV (unB data)).2.2 = data := by
  have hV : ttV (unB data) = (ttS (unB data), (ttH (unB data)).1, (ttN (unB data)).1) := by unfold ttV; rw [if_pos h]
  rw [hV]
  obtain ⟨k1, k2, k3⟩ := tre_form hd h
  obtain ⟨h1, h2⟩ := ft_ok k1
  obtain ⟨h3, h4⟩ := endE_fit (X := treB (ttS (unB data)) (ttH (unB data)).1 (ttN (unB data)).1) (by omega)
  exact ⟨by rw [h1, h3], by rw [h2, h4, k2]⟩
theorem tm_form (hd : ByL data) (hn : data.length ≤ 65536) (h : tmE (unB data) = 0) : fmE (tmV (unB data)).1 (tmV (unB data)).2 = 0 ∧ fmL (tmV (unB data)).1 (tmV (unB data)).2 = data := by
  have hV : tmV (unB data) = ((tmK (unB data)).1, (tmF (unB data)).1) := by unfold tmV; rw [if_pos h]
  rw [hV]
  obtain ⟨k1, k2, k3⟩ := tim_form hd h
  obtain ⟨h1, h2⟩ := fm_ok k1
  obtain ⟨h3, h4⟩ := endE_fit (X := timB (tmK (unB data)).1 (tmF (unB data)).1) (by omega)
  exact ⟨by rw [h1, h3], by rw [h2, h4, k2]⟩
end
/-- The fixed examples. -/
def twoC : List Cel := [(0, 0, 1), (1, 0, 1)]
def oneN : List Nd := [(1, [1, 1])]
def oneQ : List Qd := [(0, 1, 0, 0)]
def frsS : List TFr := [(0, true, twoC, []), (3, false, [], [(0, 0, 1, 0)])]
theorem ev55_3 : tpE (unB [18, 128]) = 3 := by decide +kernel
theorem ev55_4 : tpE (unB [17]) = 4 := by decide +kernel
theorem ev55_5 : tpE (unB [17, 121, 200]) = 0 := by decide +kernel
theorem ev55_6 : tpL (unB [17, 121, 200]) = twoC := by kernel_rfl
theorem ev_p0 : fpE [] = 0 ∧ fpL [] = [17, 128] := by decide +kernel
theorem ev_p1 : fpE twoC = 0 ∧ fpL twoC = [17, 121, 200] := by decide +kernel
theorem ev_t : ftE 2 [(0, 0)] oneN = 0 := by decide +kernel
theorem ev_q : fqE 2 oneQ = 0 := by decide +kernel
theorem ev_m : fmE 2 frsS = 0 := by decide +kernel
end Go.Proofs.YtmenokhnanghgaaGreat
