/- Plain: what TopTorus compares is equal. -/
import Derived.Test.YtellglbmbocgkaaGreatDoorTorF
import Derived.Test.YtellglbmbocgkaaGreatDoorPLN
namespace Go.Proofs.YtellglbmbocgkaaGreatDoor
open Go Go.RowKit
set_option linter.unusedSimpArgs false
set_option linter.unusedVariables false
section
variable {st : Int} {H : List (Int × Int)} {N : List (Int × List Int)} {p : List (Int × Int × Int)}
theorem sh16 {k : Nat} (hr : rightC p = true) (hk : k ≤ 15) (h : nearL (k : Int) p) : shE p 16 16 = 0 ∧ shL p 16 16 = p.map (mv5 16 16) ∧ rightC (p.map (mv5 16 16)) = true := by
  have ha : (p.map (mv 16 16)).all plC = true := by
    rw [List.all_eq_true]
    intro c hc
    obtain ⟨d, hd, rfl⟩ := List.mem_map.1 hc
    have := h d hd
    unfold plC validB mv
    rw [decide_eq_true_eq]
    simp only
    omega
  have hE : shE p 16 16 = 0 := by unfold shE; rw [if_pos hr, if_pos (by decide), if_pos ha]
  refine ⟨hE, by unfold shL; rw [if_pos hE]; rfl, rightC_mv hr fun c hc => ?_⟩
  have := h c hc
  unfold Pt
  omega
theorem in32 (h : nearL 4 p) : ∀ c ∈ p.map (mv5 16 16), (0 ≤ c.1 ∧ c.1 < 32) ∧ 0 ≤ c.2.1 ∧ c.2.1 < 32 := by
  intro c hc
  obtain ⟨d, hd, rfl⟩ := List.mem_map.1 hc
  have := h d hd
  unfold mv5
  simp only
  omega
theorem gr16 (p : List (Int × Int × Int)) : (grF fun x y => getC (p.map (mv5 16 16)) (x : Int) (y : Int)) = grP p := by
  unfold grP grF
  refine List.map_congr_left fun i _ => ?_
  exact getC_move p _ _
theorem okG_gr (hf : FitsR st H N p) : OkG st (grP p) := by
  refine ⟨grF_len _, fun s hs => ?_⟩
  unfold grP grF at hs
  obtain ⟨i, _, rfl⟩ := List.mem_map.1 hs
  exact hf.get _ _
/-- All that the law compares. -/
theorem tor_all (hf : FitsR st H N p) (h : nearL 4 p) {n : Nat} (hn : n ≤ 3) : runE st H N p (n : Int) = 0 ∧ runL st H N p (n : Int) = (itS H N p n).2 ∧ shE (itS H N p n).2 16 16 = 0 ∧ shL (itS H N p n).2 16 16 = (itS H N p n).2.map (mv5 16 16) ∧
    patG (itG H N (grP p) n) 1024 = (itS H N p n).2.map (mv5 16 16) ∧ OkG 8 (itG H N (grP p) n) ∧ (itS H N p n).2.length ≤ 5000 := by
  obtain ⟨h1, h2⟩ := nearP_it hf h n (by omega)
  obtain ⟨r1, r2⟩ := runX hf (k := n) (by omega)
  have hfi := it_fits hf n
  obtain ⟨s1, s2, _⟩ := sh16 hfi.pat (k := 4 + 2 * n) (by omega) h2
  have hst := (trR_parts (trQ_parts hf.rule).1).1
  refine ⟨by rw [r1]; exact h1, r2, s1, s2, ?_, (itG_ok (trQ_parts hf.rule).1 (okG_gr hf) n).le hst.2, (rightC_ok hfi.pat).1⟩
  rw [tor_it hf h n (by omega)]
  exact tor_pat hfi.pat (k := 4 + 2 * n) (by omega) h2
end
end Go.Proofs.YtellglbmbocgkaaGreatDoor
