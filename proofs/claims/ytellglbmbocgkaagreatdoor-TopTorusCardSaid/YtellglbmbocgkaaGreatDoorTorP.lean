/- Plain: a small pattern in a torus of 32 by 32 evolves as in an unbounded universe. No program in sight. -/
import Derived.Test.YtellglbmbocgkaaGreatDoorPLN
import Derived.Test.YtellglbmbocgkaaGreatDoorTorN
namespace Go.Proofs.YtellglbmbocgkaaGreatDoor
open Go Go.RowKit
set_option linter.unusedSimpArgs false
set_option linter.unusedVariables false
set_option linter.unusedSimpArgs false
set_option linter.unusedVariables false
section
variable {st : Int} {H : List (Int × Int)} {N : List (Int × List Int)} {p : List (Int × Int × Int)} {d : Int}
/-- All cells are within a distance of the origin. -/
def nearL (d : Int) (p : List (Int × Int × Int)) : Prop := ∀ c ∈ p, (-d ≤ c.1 ∧ c.1 ≤ d) ∧ -d ≤ c.2.1 ∧ c.2.1 ≤ d
theorem near_zero (h : nearL d p) {x y : Int} (hx : x < -d ∨ d < x ∨ y < -d ∨ d < y) : getC p x y = 0 := by
  refine getC_not fun c hc e => ?_
  obtain ⟨h1, h2⟩ := h c hc
  obtain ⟨e1, e2⟩ := e
  omega
theorem near_gen (hf : FitsR st H N p) (h : nearL d p) : ∀ c ∈ genR H N p, (-(d + 2) ≤ c.1 ∧ c.1 ≤ d + 2) ∧ -(d + 2) ≤ c.2.1 ∧ c.2.1 ≤ d + 2 := by
  intro c hc
  obtain ⟨x, y, s⟩ := c
  have hg := genR_is hf.rule (rightC_sorted hf.pat)
  obtain ⟨h1, h2⟩ := (hg.2 x y s).1 hc
  obtain ⟨o, ho, t, ht⟩ := nx_cell hf.rule (rightC_sorted hf.pat) (x := x) (y := y) (by rw [← h1]; exact h2)
  have hH := (hood_in (trR_parts (trQ_parts hf.rule).1).2.1).2 o ho
  have hp := h _ ht
  simp only at hp ⊢
  omega
theorem nodup_le {α : Type} [DecidableEq α] : ∀ {l m : List α}, l.Nodup → (∀ x ∈ l, x ∈ m) → l.length ≤ m.length
  | [], m, _, _ => Nat.zero_le _
  | x :: l, m, hn, hs => by
    rw [List.nodup_cons] at hn
    have hx : x ∈ m := hs x (by simp)
    have ih := nodup_le (l := l) (m := m.erase x) hn.2 (fun y hy => by
      have hy2 := hs y (by simp [hy])
      have hne : y ≠ x := fun e => hn.1 (by rw [← e]; exact hy)
      exact (List.mem_erase_of_ne hne).2 hy2)
    have := List.length_erase_of_mem hx
    have h1 : 0 < m.length := List.length_pos_of_mem hx
    rw [List.length_cons]; omega
theorem near_len {l : List (Int × Int × Int)} {k : Nat} (hn : (l.map posD).Nodup) (h : ∀ c ∈ l, (-(k : Int) ≤ c.1 ∧ c.1 ≤ k) ∧ -(k : Int) ≤ c.2.1 ∧ c.2.1 ≤ k) : l.length ≤ (2 * k + 1) * (2 * k + 1) := by
  have := nodup_le (m := rectL (-(k : Int)) (-(k : Int)) (2 * k + 1) (2 * k + 1)) hn (fun q hq => by
    obtain ⟨c, hc, rfl⟩ := List.mem_map.1 hq
    obtain ⟨h1, h2⟩ := h c hc
    rw [mem_rect]
    unfold posD
    omega)
  rw [List.length_map, rect_len] at this
  exact this
/-- One generation of a small pattern. -/
theorem nearP_step (hf : FitsR st H N p) {k : Nat} (hk : k ≤ 20) (h : nearL (k : Int) p) : stE H N p = 0 ∧ nearL ((k + 2 : Nat) : Int) (stL H N p) := by
  have hg := genR_is hf.rule (rightC_sorted hf.pat)
  have hb := near_gen hf h
  have he : stE H N p = 0 := by
    unfold stE
    rw [if_pos, if_neg]
    · have := near_len (k := k + 2) hg.1 (fun c hc => by have := hb c hc; omega)
      have h2 : (2 * (k + 2) + 1) * (2 * (k + 2) + 1) ≤ 45 * 45 := Nat.mul_le_mul (by omega) (by omega)
      omega
    · rw [List.all_eq_true]
      intro c hc
      have := hb c hc
      unfold plD validB
      rw [decide_eq_true_eq]
      omega
  refine ⟨he, fun c hc => ?_⟩
  unfold stL at hc
  rw [if_pos he] at hc
  have := hb c ((srtC_perm _).mem_iff.1 hc)
  omega
theorem nearP_it (hf : FitsR st H N p) (h : nearL 4 p) : ∀ k : Nat, k ≤ 8 → (itS H N p k).1 = 0 ∧ nearL ((4 + 2 * k : Nat) : Int) (itS H N p k).2
  | 0, _ => ⟨rfl, h⟩
  | k + 1, hk => by
    obtain ⟨h1, h2⟩ := nearP_it hf h k (by omega)
    obtain ⟨h3, h4⟩ := nearP_step (it_fits hf k) (k := 4 + 2 * k) (by omega) h2
    rw [it_step h1]
    exact ⟨h3, h4⟩
/-- A grid of 32 by 32. -/
def grF (f : Nat → Nat → Int) : List Int := (List.range 1024).map fun i => f (i % 32) (i / 32)
theorem grF_len (f : Nat → Nat → Int) : (grF f).length = 1024 := by unfold grF; simp
theorem grF_get (f : Nat → Nat → Int) {i : Nat} (h : i < 1024) : (grF f)[i]? = some (f (i % 32) (i / 32)) := by
  unfold grF; rw [List.getElem?_map, List.getElem?_range h]; rfl
theorem grF_at (f : Nat → Nat → Int) {x y : Nat} (hx : x < 32) (hy : y < 32) : (grF f).getD (y * 32 + x) 0 = f x y := by
  rw [List.getD_eq_getElem?_getD, grF_get f (by omega)]
  show f _ _ = _
  congr 1 <;> omega
/-- The grid of a pattern, moved by 16. -/
def grP (p : List (Int × Int × Int)) : List Int := grF fun x y => getC p ((x : Int) - 16) ((y : Int) - 16)
theorem tor_get {k : Nat} (hk : k ≤ 10) (h : nearL (k : Int) p) {x y : Int} (hx : -2 ≤ x ∧ x ≤ 33) (hy : -2 ≤ y ∧ y ≤ 33) : (grP p).getD (mdT y * 32 + mdT x) 0 = getC p (x - 16) (y - 16) := by
  unfold grP
  rw [grF_at _ (mdT_lt x) (mdT_lt y)]
  by_cases hin : (0 ≤ x ∧ x < 32) ∧ 0 ≤ y ∧ y < 32
  · have e1 : ((mdT x : Nat) : Int) = x := by unfold mdT; omega
    have e2 : ((mdT y : Nat) : Int) = y := by unfold mdT; omega
    rw [e1, e2]
  · rw [near_zero h (x := x - 16) (y := y - 16) (by omega)]
    refine near_zero h ?_
    unfold mdT
    omega
theorem tor_step (hf : FitsR st H N p) {k : Nat} (hk : k ≤ 10) (h : nearL (k : Int) p) : nxG H N (grP p) = grP (stL H N p) := by
  have he := (nearP_step hf (k := k) (by omega) h).1
  have hH := (hood_in (trR_parts (trQ_parts hf.rule).1).2.1).2
  unfold nxG
  rw [show grP (stL H N p) = grF fun x y => getC (stL H N p) ((x : Int) - 16) ((y : Int) - 16) from rfl]
  unfold grF
  refine List.map_congr_left fun i hi => ?_
  rw [List.mem_range] at hi
  show _ = getC (stL H N p) (((i % 32 : Nat) : Int) - 16) (((i / 32 : Nat) : Int) - 16)
  rw [st_get hf he]
  have hx : -2 ≤ ((i % 32 : Nat) : Int) - 2 ∧ ((i % 32 : Nat) : Int) + 2 ≤ 33 := by omega
  have hy : -2 ≤ ((i / 32 : Nat) : Int) - 2 ∧ ((i / 32 : Nat) : Int) + 2 ≤ 33 := by omega
  generalize ((i % 32 : Nat) : Int) = x at hx ⊢
  generalize ((i / 32 : Nat) : Int) = y at hy ⊢
  have e : nbG H (grP p) x y = H.map fun o => getC p (x - 16 + o.1) (y - 16 + o.2) := by
    unfold nbG
    refine List.map_congr_left fun o ho => ?_
    have := hH o ho
    rw [tor_get hk h (by omega) (by omega)]
    congr 1 <;> omega
  rw [e]; rfl
/-- The torus follows the unbounded universe. -/
theorem tor_it (hf : FitsR st H N p) (h : nearL 4 p) : ∀ k : Nat, k ≤ 4 → itG H N (grP p) k = grP (itS H N p k).2
  | 0, _ => rfl
  | k + 1, hk => by
    obtain ⟨h1, h2⟩ := nearP_it hf h k (by omega)
    show nxG H N (itG H N (grP p) k) = _
    rw [tor_it hf h k (by omega), tor_step (it_fits hf k) (k := 4 + 2 * k) (by omega) h2, it_step h1]
/-- The cells of a grid that are not 0. -/
def patG (g : List Int) (n : Nat) : List (Int × Int × Int) := (List.range n).filterMap fun i => if g.getD i 0 = 0 then none else some (((i % 32 : Nat) : Int), ((i / 32 : Nat) : Int), g.getD i 0)
theorem patG_succ (g : List Int) (n : Nat) : patG g (n + 1) = patG g n ++ if g.getD n 0 = 0 then [] else [(((n % 32 : Nat) : Int), ((n / 32 : Nat) : Int), g.getD n 0)] := by
  unfold patG
  rw [List.range_succ, List.filterMap_append]
  congr 1
  by_cases h : g.getD n 0 = 0
  · rw [if_pos h, List.filterMap_cons_none (by rw [if_pos h]), List.filterMap_nil]
  · rw [if_neg h, List.filterMap_cons_some (by rw [if_neg h]), List.filterMap_nil]
theorem patG_mem (g : List Int) (n : Nat) (c : Int × Int × Int) : c ∈ patG g n ↔ ∃ i, i < n ∧ g.getD i 0 ≠ 0 ∧ c = (((i % 32 : Nat) : Int), ((i / 32 : Nat) : Int), g.getD i 0) := by
  unfold patG
  rw [List.mem_filterMap]
  constructor
  · rintro ⟨i, hi, h⟩
    rw [List.mem_range] at hi
    by_cases h0 : g.getD i 0 = 0
    · rw [if_pos h0] at h; cases h
    · rw [if_neg h0] at h
      injection h with h
      exact ⟨i, hi, h0, h.symm⟩
  · rintro ⟨i, hi, h0, rfl⟩
    exact ⟨i, List.mem_range.2 hi, by rw [if_neg h0]⟩
theorem patG_sorted (g : List Int) : ∀ n, SSC (patG g n)
  | 0 => List.Pairwise.nil
  | n + 1 => by
    rw [patG_succ]
    by_cases h : g.getD n 0 = 0
    · rw [if_pos h, List.append_nil]; exact patG_sorted g n
    · rw [if_neg h]
      unfold SSC
      rw [List.pairwise_append]
      refine ⟨patG_sorted g n, List.pairwise_singleton _ _, fun a ha b hb => ?_⟩
      rw [List.mem_singleton] at hb
      subst hb
      obtain ⟨i, hi, _, rfl⟩ := (patG_mem g n a).1 ha
      unfold cBef befP
      simp only [decide_eq_true_eq]
      omega
theorem mv_sorted {dx dy : Int} (h : SSC p) : SSC (p.map (mv5 dx dy)) := by
  unfold SSC at h ⊢
  rw [List.pairwise_map]
  refine h.imp fun {a b} hab => ?_
  unfold cBef befP mv5 at *
  rw [decide_eq_true_eq] at *
  simp only
  omega
/-- The pattern of the grid is the pattern moved. -/
theorem tor_pat (hp : rightC p = true) {k : Nat} (hk : k ≤ 15) (h : nearL (k : Int) p) : patG (grP p) 1024 = p.map (mv5 16 16) := by
  have hS := rightC_sorted hp
  refine ssc_unique _ _ (patG_sorted _ _) (mv_sorted hS) fun c => ?_
  rw [patG_mem, List.mem_map]
  constructor
  · rintro ⟨i, hi, h0, rfl⟩
    have e : (grP p).getD i 0 = getC p (((i % 32 : Nat) : Int) - 16) (((i / 32 : Nat) : Int) - 16) := by
      rw [List.getD_eq_getElem?_getD]
      unfold grP
      rw [grF_get _ hi]; rfl
    rw [e] at h0 ⊢
    rcases getC_or hS (((i % 32 : Nat) : Int) - 16) (((i / 32 : Nat) : Int) - 16) with e2 | ⟨s, hs, e2⟩
    · exact absurd e2 h0
    · refine ⟨_, hs, ?_⟩
      unfold mv5
      rw [e2]
      simp
  · rintro ⟨⟨x, y, s⟩, hc, rfl⟩
    have hb := h _ hc
    have hs := cell_right hp hc
    simp only at hb
    have e1 : (grP p).getD ((y + 16).toNat * 32 + (x + 16).toNat) 0 = s := by
      unfold grP
      rw [grF_at _ (by omega) (by omega)]
      rw [show ((x + 16).toNat : Int) - 16 = x by omega, show ((y + 16).toNat : Int) - 16 = y by omega]
      exact getC_mem hS hc
    refine ⟨(y + 16).toNat * 32 + (x + 16).toNat, by omega, by rw [e1]; omega, ?_⟩
    rw [e1]
    unfold mv5
    simp only [Prod.mk.injEq, and_true]
    omega
/-- What storing the cells one by one makes. -/
def stoG (l : List (Int × Int × Int)) (n : Nat) : List Int := (l.take n).foldl (fun g c => g.set (c.2.1.toNat * 32 + c.1.toNat) c.2.2) (List.replicate 1024 0)
theorem stoG_succ {l : List (Int × Int × Int)} {n : Nat} {c : Int × Int × Int} (h : l[n]? = some c) : stoG l (n + 1) = (stoG l n).set (c.2.1.toNat * 32 + c.1.toNat) c.2.2 := by
  unfold stoG
  rw [List.take_add_one, h, List.foldl_append]; rfl
theorem stoG_len (l : List (Int × Int × Int)) : ∀ n, (stoG l n).length = 1024 := by
  intro n
  unfold stoG
  generalize l.take n = m
  have : ∀ (m : List (Int × Int × Int)) (g : List Int), (m.foldl (fun g c => g.set (c.2.1.toNat * 32 + c.1.toNat) c.2.2) g).length = g.length := by
    intro m
    induction m with
    | nil => intro g; rfl
    | cons c m ih => intro g; rw [List.foldl_cons, ih, List.length_set]
  rw [this, List.length_replicate]
theorem sto_grid {l : List (Int × Int × Int)} (hS : SSC l) (hb : ∀ c ∈ l, (0 ≤ c.1 ∧ c.1 < 32) ∧ 0 ≤ c.2.1 ∧ c.2.1 < 32) : stoG l l.length = grF fun x y => getC l x y := by
  have key : ∀ n, n ≤ l.length → ∀ i, i < 1024 → (stoG l n)[i]? = some (getC (l.take n) ((i % 32 : Nat) : Int) ((i / 32 : Nat) : Int)) := by
    intro n
    induction n with
    | zero =>
      intro _ i hi
      unfold stoG
      simp only [List.take_zero, List.foldl_nil]
      rw [List.getElem?_replicate, if_pos hi]; rfl
    | succ n ih =>
      intro hn i hi
      obtain ⟨c, hc⟩ : ∃ c, l[n]? = some c := ⟨_, List.getElem?_eq_getElem (by omega)⟩
      have hcm := List.mem_of_getElem? hc
      have hbc := hb c hcm
      rw [stoG_succ hc, List.getElem?_set]
      have hSt : SSC (l.take (n + 1)) := by unfold SSC at hS ⊢; exact hS.sublist (List.take_sublist _ _)
      have hSn : SSC (l.take n) := by unfold SSC at hS ⊢; exact hS.sublist (List.take_sublist _ _)
      have hct : c ∈ l.take (n + 1) := by rw [List.take_add_one, hc]; simp
      by_cases e : c.2.1.toNat * 32 + c.1.toNat = i
      · rw [if_pos e, if_pos (by rw [stoG_len]; omega)]
        have h1 : ((i % 32 : Nat) : Int) = c.1 := by omega
        have h2 : ((i / 32 : Nat) : Int) = c.2.1 := by omega
        rw [h1, h2]
        obtain ⟨x, y, s⟩ := c
        rw [getC_mem hSt hct]
      · rw [if_neg e, ih (by omega) i hi]
        congr 1
        have hne : ¬ (c.1 = ((i % 32 : Nat) : Int) ∧ c.2.1 = ((i / 32 : Nat) : Int)) := by omega
        by_cases hx : ∃ s, (((i % 32 : Nat) : Int), ((i / 32 : Nat) : Int), s) ∈ l.take n
        · obtain ⟨s, hs⟩ := hx
          rw [getC_mem hSn hs]
          refine (getC_mem hSt ?_).symm
          rw [List.take_add_one]
          exact List.mem_append.2 (.inl hs)
        · have h0 : ∀ c' ∈ l.take n, ¬ (c'.1 = ((i % 32 : Nat) : Int) ∧ c'.2.1 = ((i / 32 : Nat) : Int)) := by
            intro c' hc' e'
            obtain ⟨a, b, t⟩ := c'
            obtain ⟨rfl, rfl⟩ := e'
            exact hx ⟨t, hc'⟩
          rw [getC_not h0]
          refine (getC_not fun c' hc' e' => ?_).symm
          rw [List.take_add_one, hc] at hc'
          rcases List.mem_append.1 hc' with h1 | h1
          · exact h0 c' h1 e'
          · simp at h1
            subst h1
            exact hne e'
  apply List.ext_getElem?
  intro i
  by_cases hi : i < 1024
  · rw [key l.length (Nat.le_refl _) i hi, List.take_length, grF_get _ hi]
  · rw [List.getElem?_eq_none (by rw [stoG_len]; omega), List.getElem?_eq_none (by rw [grF_len]; omega)]
end
end Go.Proofs.YtellglbmbocgkaaGreatDoor
