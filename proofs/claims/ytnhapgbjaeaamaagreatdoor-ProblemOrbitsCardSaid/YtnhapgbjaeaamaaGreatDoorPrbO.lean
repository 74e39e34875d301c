/- Plain: what the law on orbits asks. -/
import Derived.Test.YtnhapgbjaeaamaaGreatDoorPrbR
import Derived.Test.YtnhapgbjaeaamaaGreatDoorDirV
namespace Go.Proofs.YtnhapgbjaeaamaaGreatDoor
open Go Go.RowKit
set_option linter.unusedSimpArgs false
set_option linter.unusedVariables false
section
variable {st : Int} {Hd : List (Int × Int)} {N : List (Int × List Int)} {W H G DX DY : Int} {S : List Int}
theorem st_empty : stE Hd N [] = 0 ∧ stL Hd N [] = [] := by
  have h : stE Hd N [] = 0 := by unfold stE genR candL; simp [dd]
  refine ⟨h, ?_⟩
  unfold stL
  rw [if_pos h]
  unfold genR candL
  simp [dd, srtC]
theorem it_empty : ∀ k : Nat, itS Hd N [] k = (0, [])
  | 0 => rfl
  | k + 1 => by
    have h := it_empty k
    rw [it_step (p := []) (by rw [h]), h]
    simp only [st_empty.1, st_empty.2]
theorem fit_empty (h : trQ st Hd N = true) : fitE st Hd N [] = 0 := fit_iff.2 (nil_fits h)
theorem run_empty (h : trQ st Hd N = true) {k : Nat} (hk : k ≤ 10000) : runE st Hd N [] k = 0 ∧ runL st Hd N [] k = [] := by
  obtain ⟨h1, h2⟩ := run_fits (nil_fits h) hk
  rw [h1, h2, it_empty]
  exact ⟨rfl, rfl⟩
theorem beg_empty (h : chkE st Hd N W H G DX DY S = 0) : begE st Hd N W H G DX DY S [] = 0 := by
  unfold begE; rw [if_pos h]; exact fit_empty (chk_zero h).1
theorem slv_empty (h : chkE st Hd N W H G DX DY S = 0) : slvB st Hd N W H G DX DY S [] = true := by
  obtain ⟨hq, ho⟩ := chk_zero h
  obtain ⟨a, rfl⟩ := Int.eq_ofNat_of_zero_le (show 0 ≤ W by have := ho.w; omega)
  obtain ⟨b, rfl⟩ := Int.eq_ofNat_of_zero_le (show 0 ≤ H by have := ho.h; omega)
  obtain ⟨g, rfl⟩ := Int.eq_ofNat_of_zero_le (show 0 ≤ G by have := ho.g; omega)
  obtain ⟨h1, h2⟩ := run_empty (st := st) (k := g) hq (by have := ho.g; omega)
  unfold slvB
  rw [decide_eq_true (beg_empty h), Int.toNat_natCast, Int.toNat_natCast, sol_empty hq ho h1 h2]
  rfl
theorem exc_empty : excB st Hd N W H G DX DY S [] = false := by unfold excB; simp
theorem celP_short {a : Nat} {l : List Int} : ∀ n : Nat, (celP a l n).length ≤ n
  | 0 => Nat.le_refl _
  | n + 1 => by
    have h := celP_short (a := a) (l := l) n
    show (celP a l n ++ _).length ≤ _
    rw [List.length_append]
    split
    · simp; omega
    · simp; omega
theorem cel_short {l : List Int} : (celL W H G DX DY S l).length ≤ l.length := by
  unfold celL
  split
  · exact celP_short _
  · exact Nat.zero_le _
theorem syms_nil : symsB W H [] = true := rfl
theorem chk_nil (h : chkE st Hd N W H G DX DY S = 0) : chkE st Hd N W H G DX DY [] = 0 := by
  obtain ⟨hq, ho⟩ := chk_zero h
  unfold chkE
  rw [if_pos hq]
  exact box_iff.2 ⟨ho.w, ho.h, ho.a, ho.g, ho.dx, ho.dy, syms_nil⟩
theorem orbits_law {a b n : Nat} {F l : List Int} (h : chkE st Hd N a b G DX DY S = 0) (hc : celE a b G DX DY S (sprL a b S F l n (orbP a b S)) = 0) :
    slvB st Hd N a b G DX DY S (celL a b G DX DY S (sprL a b S F l n (orbP a b S))) = slvB st Hd N a b G DX DY [] (celL a b G DX DY S (sprL a b S F l n (orbP a b S))) ∧
    begE st Hd N a b G DX DY S (celL a b G DX DY S (sprL a b S F l n (orbP a b S))) = begE st Hd N a b G DX DY [] (celL a b G DX DY S (sprL a b S F l n (orbP a b S))) := by
  obtain ⟨hq, ho⟩ := chk_zero h
  have ha : 1 ≤ a ∧ a ≤ 16 := by have := ho.w; omega
  have hb : 1 ≤ b ∧ b ≤ 16 := by have := ho.h; omega
  have hlen : (sprL a b S F l n (orbP a b S)).length = b * a := by unfold sprL; rw [List.length_map, List.length_range]
  have hm : b * a ≤ 16 := by have := ho.a.2; rw [← Int.natCast_mul, Nat.mul_comm] at this; omega
  have h7 : ∀ s ∈ sprL a b S F l n (orbP a b S), 0 ≤ s ∧ s ≤ 7 := by
    have hl : ((sprL a b S F l n (orbP a b S)).length : Int) = (a : Int) * (b : Int) := by rw [hlen, ← Int.natCast_mul, Nat.mul_comm]
    unfold celE at hc
    rw [if_pos (box_iff.2 ho), if_pos hl] at hc
    split at hc
    · rename_i hall
      intro s hs
      have := List.all_eq_true.1 hall s hs
      unfold okSt at this
      simpa using this
    · omega
  have hE : begE st Hd N a b G DX DY S (celL a b G DX DY S (sprL a b S F l n (orbP a b S))) = begE st Hd N a b G DX DY [] (celL a b G DX DY S (sprL a b S F l n (orbP a b S))) := by
    unfold begE; rw [if_pos h, if_pos (chk_nil h)]
  refine ⟨?_, hE⟩
  unfold slvB
  rw [hE, Int.toNat_natCast, Int.toNat_natCast]
  have hl : celL a b G DX DY S (sprL a b S F l n (orbP a b S)) = celP a (sprL a b S F l n (orbP a b S)) (b * a) := by
    unfold celL; rw [if_pos hc, Int.toNat_natCast, hlen]
  rw [hl, sol_orbits ha hb hm ho.s h7]
theorem cel_two {a b n : Nat} {F l : List Int} (h : chkE st Hd N a b G DX DY S = 0) (hc : celE a b G DX DY S (sprL a b S F l n (orbP a b S)) ≠ 0) : celE a b G DX DY S (sprL a b S F l n (orbP a b S)) = 10 := by
  obtain ⟨hq, ho⟩ := chk_zero h
  have hlen : (sprL a b S F l n (orbP a b S)).length = b * a := by unfold sprL; rw [List.length_map, List.length_range]
  have hl : ((sprL a b S F l n (orbP a b S)).length : Int) = (a : Int) * (b : Int) := by rw [hlen, ← Int.natCast_mul, Nat.mul_comm]
  unfold celE at hc ⊢
  rw [if_pos (box_iff.2 ho), if_pos hl] at hc ⊢
  split at hc
  · exact absurd rfl hc
  · rename_i hn; rw [if_neg hn]
end
end Go.Proofs.YtnhapgbjaeaamaaGreatDoor
