/- Plain: states that are equal within each orbit. -/
import Derived.Test.YtnhapgbjaeaamaaGreatDoorPRZ
namespace Go.Proofs.YtnhapgbjaeaamaaGreatDoor
open Go Go.RowKit
set_option linter.unusedSimpArgs false
set_option linter.unusedVariables false
theorem grpB_of {l : List Int} {k : Nat} (hk : k < 8) (h : ((k : Nat) : Int) ∈ l) : ((k : Nat) : Int) ∈ grp l := by
  refine (mem_grp hk).2 ?_
  have := (over_grp l).base _ h
  rw [r8_nat hk] at this
  exact this
/-- The number of an orbit is the same along the group. -/
theorem orb_same {a b : Nat} {S : List Int} (ha : 1 ≤ a ∧ a ≤ 16) (hb : 1 ≤ b ∧ b ≤ 16) (hab : a = b ∨ anyOdd (grp S) = false) (hs : b * a ≤ 4096) {k i : Nat} (hk : k < 8) (hm : ((k : Nat) : Int) ∈ grp S) (hi : i < b * a) :
    (orbP a b S).getD (idx a b k i) 0 = (orbP a b S).getD i 0 := by
  have hW := fit_wF a b (by omega) (by omega)
  have ho := okK_grp hab hk hm
  have hj := idx_lt hi ho
  obtain ⟨f1, k1, hk1, hm1, e1⟩ := least_fix hW hab hs hi
  obtain ⟨g1, k2, hk2, hm2, e2⟩ := least_fix hW hab hs hj
  have o1 := okK_grp hab hk1 hm1
  have o2 := okK_grp hab hk2 hm2
  have hc : ∀ x y : Nat, x < 8 → y < 8 → ((x : Nat) : Int) ∈ grp S → ((y : Nat) : Int) ∈ grp S → ((cm x y : Nat) : Int) ∈ grp S := fun x y hx hy h h' =>
    (mem_grp (cm_lt hx hy)).2 ((over_grp S).closed _ _ hx hy ((mem_grp hx).1 h) ((mem_grp hy).1 h'))
  have hiv : ((iv k : Nat) : Int) ∈ grp S := by
    rw [iv_cube k hk]
    exact hc _ _ (cm_lt hk hk) hk (hc _ _ hk hk hm hm) hm
  have hvl := iv_lt hk
  have ov := okK_grp hab hvl hiv
  have q1 := f1 _ (cm_lt hk hk2) (hc _ _ hk hk2 hm hm2)
  rw [← idx_idx hi ho o2, ← e2] at q1
  have hback : idx a b (iv k) (idx a b k i) = i := by
    rw [idx_idx hi ho ov, (inv_table k hk).2.2.2, idx_zero (by omega)]
  have q2 := g1 _ (cm_lt hvl hk1) (hc _ _ hvl hk1 hiv hm1)
  rw [← idx_idx hj ov o1, hback, ← e1] at q2
  unfold orbP
  rw [List.getD_eq_getElem?_getD, List.getD_eq_getElem?_getD, orb_at hi, orb_at hj]
  simp only [Option.getD_some]
  omega
/-- The value that the last fitting free cell gives. -/
def lastM (F l : List Int) (v : Int) : Nat → Int
  | 0 => 0
  | k + 1 => if F.getD k 0 = v then l.getD k 0 else lastM F l v k
def sprL (a b : Nat) (S F l : List Int) (n : Nat) (orbs : List Int) : List Int := (List.range (b * a)).map fun i => lastM F l (orbs.getD i 0) n
theorem spr_at {a b n i : Nat} {S F l orbs : List Int} (hi : i < b * a) : (sprL a b S F l n orbs).getD i 0 = lastM F l (orbs.getD i 0) n := by
  unfold sprL
  rw [List.getD_eq_getElem?_getD, List.getElem?_map, List.getElem?_range hi]; rfl
theorem spr_sym {a b n : Nat} {S F l : List Int} (ha : 1 ≤ a ∧ a ≤ 16) (hb : 1 ≤ b ∧ b ≤ 16) (hs : symsB a b S = true) (hm : b * a ≤ 16) {k : Nat} (hk : k < 8) (hm2 : ((k : Nat) : Int) ∈ S) : symG a b k (sprL a b S F l n (orbP a b S)) = true := by
  have hab : a = b ∨ anyOdd (grp S) = false := by
    by_cases e : a = b
    · exact .inl e
    · exact .inr (syms_grp hs (by omega))
  have hg := grpB_of hk hm2
  refine symG_yes fun i hi => ?_
  have ho := okK_grp hab hk hg
  rw [spr_at hi, spr_at (idx_lt hi ho), orb_same ha hb hab (by omega) hk hg hi]
/-- The states of the cells of given states. -/
theorem celP_get {a : Nat} (l : List Int) (ha : 0 < a) : ∀ n : Nat, (∀ c ∈ celP a l n, ∃ j : Nat, j < n ∧ c.1 = ((j % a : Nat) : Int) ∧ c.2.1 = ((j / a : Nat) : Int)) ∧
    ∀ i : Nat, getC (celP a l n) ((i % a : Nat) : Int) ((i / a : Nat) : Int) = if i < n ∧ 0 < l.getD i 0 then l.getD i 0 else 0
  | 0 => ⟨fun c hc => (by cases hc), fun i => (by rw [if_neg (by omega)]; rfl)⟩
  | n + 1 => by
    obtain ⟨h1, h2⟩ := celP_get l ha n
    have hpos : ∀ i j : Nat, ((i % a : Nat) : Int) = ((j % a : Nat) : Int) → ((i / a : Nat) : Int) = ((j / a : Nat) : Int) → i = j := by
      intro i j e1 e2
      have d1 := Nat.div_add_mod i a
      have d2 := Nat.div_add_mod j a
      have e1' : i % a = j % a := by omega
      have e2' : i / a = j / a := by omega
      rw [e1', e2'] at d1
      omega
    have hd : celP a l (n + 1) = celP a l n ++ (if 0 < l.getD n 0 then [(((n % a : Nat) : Int), ((n / a : Nat) : Int), l.getD n 0)] else []) := rfl
    by_cases hn : 0 < l.getD n 0
    · rw [if_pos hn] at hd
      rw [hd]
      refine ⟨fun c hc => ?_, fun i => ?_⟩
      · rcases List.mem_append.1 hc with hc | hc
        · obtain ⟨j, hj, e⟩ := h1 c hc; exact ⟨j, by omega, e⟩
        · rw [List.mem_singleton] at hc; subst hc; exact ⟨n, by omega, rfl, rfl⟩
      · by_cases e : i = n
        · subst e
          have hf : posD (((i % a : Nat) : Int), ((i / a : Nat) : Int), l.getD i 0) ∉ (celP a l i).map posD := by
            intro hc
            obtain ⟨c, hc, hp⟩ := List.mem_map.1 hc
            obtain ⟨j, hj, e1, e2⟩ := h1 c hc
            simp only [posD, Prod.mk.injEq] at hp
            have := hpos i j (by rw [← hp.1, e1]) (by rw [← hp.2, e2])
            omega
          have := getC_snoc_same hf
          simp only at this
          rw [this, if_pos ⟨by omega, hn⟩]
        · rw [getC_snoc_other (by simp only; intro hh; exact e (hpos i n hh.1.symm hh.2.symm)), h2]
          by_cases hin : i < n
          · by_cases hl : 0 < l.getD i 0
            · rw [if_pos ⟨hin, hl⟩, if_pos ⟨by omega, hl⟩]
            · rw [if_neg (by omega), if_neg (by omega)]
          · rw [if_neg (by omega), if_neg (by omega)]
    · rw [if_neg hn, List.append_nil] at hd
      rw [hd]
      refine ⟨fun c hc => by obtain ⟨j, hj, e⟩ := h1 c hc; exact ⟨j, by omega, e⟩, fun i => ?_⟩
      rw [h2]
      by_cases e : i = n
      · subst e; rw [if_neg (by omega), if_neg (by omega)]
      · by_cases hin : i < n ∧ 0 < l.getD i 0
        · rw [if_pos hin, if_pos ⟨by omega, hin.2⟩]
        · rw [if_neg hin, if_neg (by omega)]
theorem cel_grid {a b : Nat} {l : List Int} (ha : 1 ≤ a) (hl : l.length = b * a) (h7 : ∀ s ∈ l, 0 ≤ s ∧ s ≤ 7) : gridL (celP a l (b * a)) 0 0 a b = l := by
  apply List.ext_getElem?
  intro i
  by_cases hi : i < b * a
  · obtain ⟨_, hx, hy⟩ := split_lt hi
    have h1 := grid_at (p := celP a l (b * a)) (X := 0) (Y := 0) hx hy
    rw [Nat.mul_comm (i / a) a, Nat.div_add_mod i a, Int.zero_add, Int.zero_add, (celP_get l (by omega) (b * a)).2 i] at h1
    rw [h1]
    obtain ⟨s, hs⟩ : ∃ s, l[i]? = some s := ⟨_, List.getElem?_eq_getElem (by omega)⟩
    have hr := h7 s (List.mem_of_getElem? hs)
    rw [hs, getD_some hs]
    by_cases h0 : 0 < s
    · rw [if_pos ⟨hi, h0⟩]
    · rw [if_neg (by omega)]; congr 1; omega
  · rw [List.getElem?_eq_none (by rw [grid_len]; omega), List.getElem?_eq_none (by omega)]
/-- A pattern of spread states solves a problem exactly if it does so without the symmetries. -/
theorem sol_orbits {st : Int} {Hd : List (Int × Int)} {N : List (Int × List Int)} {a b n : Nat} {G DX DY : Int} {S F l : List Int} (ha : 1 ≤ a ∧ a ≤ 16) (hb : 1 ≤ b ∧ b ≤ 16) (hm : b * a ≤ 16) (hs : symsB a b S = true) (h7 : ∀ s ∈ sprL a b S F l n (orbP a b S), 0 ≤ s ∧ s ≤ 7) :
    solB st Hd N a b G DX DY S (celP a (sprL a b S F l n (orbP a b S)) (b * a)) = solB st Hd N a b G DX DY [] (celP a (sprL a b S F l n (orbP a b S)) (b * a)) := by
  have hg := cel_grid (b := b) ha.1 (by unfold sprL; rw [List.length_map, List.length_range]) h7
  have hy : S.any (symX a b (gridL (celP a (sprL a b S F l n (orbP a b S)) (b * a)) 0 0 a b)) = false := by
    rw [List.any_eq_false]
    intro s hsm
    obtain ⟨h1, h2, _⟩ := syms_ok hs hsm
    obtain ⟨k, rfl⟩ : ∃ k : Nat, s = (k : Int) := ⟨s.toNat, by omega⟩
    unfold symX
    rw [hg, Int.toNat_natCast, spr_sym ha hb hs hm (by omega) hsm]
    simp
  unfold solB
  rw [hy]
  rfl
/-- The empty pattern. -/
theorem sol_empty {st : Int} {Hd : List (Int × Int)} {N : List (Int × List Int)} {a b GG : Nat} {DX DY : Int} {S : List Int} (h : trQ st Hd N = true) (ho : PrbOk a b GG DX DY S) (hr : runE st Hd N [] GG = 0) (hl : runL st Hd N [] GG = []) : solB st Hd N a b GG DX DY S [] = true := by
  have hy : S.any (symX a b (gridL [] 0 0 a b)) = false := by
    rw [List.any_eq_false]
    intro s hsm
    obtain ⟨h1, h2, h3⟩ := syms_ok ho.s hsm
    have hk := okK_of (a := a) (b := b) ⟨h1, h2, h3⟩
    unfold symX
    rw [(symG_iff hk).2 (fun x y _ _ => rfl)]
    simp
  rw [sol_all (by rfl) hy hr, hl]
  unfold shL
  split <;> (unfold sameL; exact decide_eq_true rfl)
end Go.Proofs.YtnhapgbjaeaamaaGreatDoor
