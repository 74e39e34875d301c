/- Plain laws of timelines that the other claims do not need. -/
import Derived.Test.YtabfefhicfmabaaGreatPLN
section
/- Plain: timelines. A frame is a generation, whether it is whole, its cells, its changes. No program in sight. -/
namespace Go.Proofs.YtabfefhicfmabaaGreat
open Go Go.RowKit
section
variable {key g : Int} {K j n : Nat} {fs : List TFr} {fu : Bool} {C : List Cel} {D : List Chg}
end
end Go.Proofs.YtabfefhicfmabaaGreat

end
section
/- Plain: what the calls on timelines answer, and their laws. No program in sight. -/
namespace Go.Proofs.YtabfefhicfmabaaGreat
open Go Go.RowKit
section
variable {α β : Type}
end
section
variable {st key g gen k : Int} {K j n m : Nat} {fs : List TFr} {p : List Cel} {H : List (Int × Int)} {N : List (Int × List Int)}
/-- Pieces. -/
theorem lastG_take : ∀ i, i ≤ j → lastG (fs.take j) i = lastG fs i
  | 0, _ => rfl
  | i + 1, h => by
    show (match (fs.take j)[i]? with | none => -1 | some f => f.1) = (match fs[i]? with | none => -1 | some f => f.1)
    rw [List.getElem?_take, if_pos (by omega)]
theorem patL_take : ∀ i, i ≤ j → patL (fs.take j) i = patL fs i
  | 0, _ => rfl
  | i + 1, h => by
    show patL (fs.take j) i ++ (match (fs.take j)[i]? with | none => [] | some f => [nxP (patL (fs.take j) i) i f]) = patL fs i ++ (match fs[i]? with | none => [] | some f => [nxP (patL fs i) i f])
    rw [patL_take i (by omega), List.getElem?_take, if_pos (by omega)]
theorem okT_take {i : Nat} (h : okT K fs i = true) : okT K (fs.take j) i = true := by
  by_cases hi : i < j
  · have e1 := lastG_take (fs := fs) (j := j) i (by omega)
    have e2 := patL_take (fs := fs) (j := j) i (by omega)
    unfold okT at h ⊢
    rw [List.getElem?_take, if_pos hi, e1, e2]
    exact h
  · unfold okT
    rw [List.getElem?_take, if_neg hi]
theorem tl_take (h : tlB key fs = true) (j : Nat) : tlB key (fs.take j) = true := by
  obtain ⟨h1, h2, h3⟩ := tlB_iff.1 h
  exact tlB_iff.2 ⟨h1, by rw [List.length_take]; omega, fun i => okT_take (h3 i)⟩
theorem pat_prefix : ∀ {m j : Nat}, j ≤ m → m ≤ fs.length → patL fs j = (patL fs m).take j
  | 0, j, h, _ => by obtain rfl : j = 0 := by omega
                     rfl
  | m + 1, j, h, hm => by
    obtain ⟨⟨g, fu, C, D⟩, hf⟩ : ∃ f, fs[m]? = some f := ⟨_, List.getElem?_eq_getElem (by omega)⟩
    by_cases e : j = m + 1
    · subst e
      rw [List.take_of_length_le (by rw [pat_len _ hm]; exact Nat.le_refl _)]
    · rw [pat_step hf, List.take_append_of_le_length (by rw [pat_len _ (by omega)]; omega)]
      exact pat_prefix (by omega) (by omega)
theorem tlP_take (h : tlB key fs = true) (hj : j ≤ fs.length) : tlP key (fs.take j) = (tlP key fs).take j := by
  rw [tlP_eq (tl_take h j), tlP_eq h, List.length_take, Nat.min_eq_left hj, patL_take _ (Nat.le_refl _)]
  exact pat_prefix hj (Nat.le_refl _)
/-- The frames appended one by one. -/
theorem ad_take {fu : Bool} {C : List Cel} {D : List Chg} (h : tlB key fs = true) (hj : j < fs.length) (hx : fs[j]? = some (g, fu, C, D)) : adE key (fs.take j) g ((tlP key fs).getD j []) = 0 ∧ adL key (fs.take j) g ((tlP key fs).getD j []) = fs.take (j + 1) := by
  have ht := tl_take h j
  obtain ⟨K, hK, g1, g2, g3, g4⟩ := tlB_ok h
  have hlt : (fs.take j).length = j := by rw [List.length_take]; omega
  have hPl : (tlP key fs).length = fs.length := tlP_len h
  have hPj : (tlP key fs)[j]? = some ((tlP key fs).getD j []) := by
    rw [List.getD_eq_getElem?_getD, List.getElem?_eq_getElem (by omega)]; rfl
  have ho := (okT_iff hx).1 (g4 j)
  have hgj : (gnL fs).getD j 0 = g := getD_of (by unfold gnL; rw [List.getElem?_map, hx]; rfl)
  have hge := tl_gens g4 hj
  rw [hgj] at hge
  have hE : adE key (fs.take j) g ((tlP key fs).getD j []) = 0 := by
    unfold adE
    rw [if_pos ⟨ht, tlP_right h _ (List.mem_of_getElem? hPj), hge.2.1, hge.1⟩, hlt, lastG_take j (Nat.le_refl _), if_neg (by omega), if_neg (by omega)]
  refine ⟨hE, ?_⟩
  have hgt : gnL (fs.take j) ++ [g] = gnL (fs.take (j + 1)) := by
    unfold gnL
    rw [List.take_add_one, hx]
    simp
  have hpt : tlP key (fs.take j) ++ [(tlP key fs).getD j []] = tlP key (fs.take (j + 1)) := by
    rw [tlP_take h (by omega), tlP_take h (by omega), List.take_add_one, hPj]; rfl
  have hl1 : (fs.take (j + 1)).length = j + 1 := by rw [List.length_take]; omega
  unfold adL
  rw [if_pos hE, hgt, hpt, hlt]
  have := tl_bld (tl_take h (j + 1))
  rw [hl1] at this
  exact this
theorem cu_all (h : tlB key fs = true) (h0 : 0 < fs.length) : cuE key fs 0 ((fs.length : Int) - 1) = 0 ∧ cuL key fs 0 ((fs.length : Int) - 1) = fs := by
  have hE : cuE key fs 0 ((fs.length : Int) - 1) = 0 := by unfold cuE; rw [if_pos h, if_pos (by omega)]
  refine ⟨hE, ?_⟩
  unfold cuL
  have e : ((fs.length : Int) - 1).toNat + 1 = fs.length := by omega
  rw [if_pos hE, e]
  show bldL key.toNat (((gnL fs).take fs.length).drop 0) (((tlP key fs).take fs.length).drop 0) (fs.length - 0) = fs
  rw [List.drop_zero, List.drop_zero, List.take_of_length_le (by rw [gn_len]; exact Nat.le_refl _), List.take_of_length_le (by rw [tlP_len h]; exact Nat.le_refl _), Nat.sub_zero]
  exact tl_bld h
theorem df_self (h : tlB key fs = true) : dfE key fs key fs = 0 ∧ dfL key fs key fs = (0, [], false) := by
  have hE : dfE key fs key fs = 0 := by unfold dfE; rw [if_pos ⟨h, h⟩]
  refine ⟨hE, ?_⟩
  unfold dfL dfR dfO
  rw [if_pos hE, find_no]
  intro i hi
  unfold dfB
  rw [decide_eq_false (by omega), decide_eq_false (by simp)]
  unfold sameL
  simp
end
section
variable {st key : Int} {n k : Nat} {p : List Cel} {H : List (Int × Int)} {N : List (Int × List Int)}
end
end Go.Proofs.YtabfefhicfmabaaGreat

end
