/- Plain facts on orbits: each number is the first one of its orbit. -/
import Derived.Test.YtobbkclfbbblaaaDoorGrpL
namespace Go.Proofs.YtobbkclfbbblaaaDoor
open Go Go.RowKit
set_option linter.unusedSimpArgs false
set_option linter.unusedVariables false
/-- Where a place of a grid of the sides a, b goes. -/
def plc (a b : Nat) (r x y : Nat) : Nat × Nat := match r with
  | 0 => (x, y)
  | 1 => (b - 1 - y, x)
  | 2 => (a - 1 - x, b - 1 - y)
  | 3 => (y, a - 1 - x)
  | 4 => (a - 1 - x, y)
  | 5 => (b - 1 - y, a - 1 - x)
  | 6 => (x, b - 1 - y)
  | _ => (y, x)
def okK (a b r : Nat) : Prop := r < 8 ∧ (a = b ∨ r % 2 = 0)
theorem plc_lt {a b r x y : Nat} (hx : x < a) (hy : y < b) (h : okK a b r) : (plc a b r x y).1 < a ∧ (plc a b r x y).2 < b := by
  obtain ⟨hr, h⟩ := h
  have hc : r = 0 ∨ r = 1 ∨ r = 2 ∨ r = 3 ∨ r = 4 ∨ r = 5 ∨ r = 6 ∨ r = 7 := by omega
  rcases hc with rfl | rfl | rfl | rfl | rfl | rfl | rfl | rfl <;> simp only [plc] <;> omega
theorem plc_comp {a b r s x y : Nat} (hx : x < a) (hy : y < b) (h : okK a b r) (h' : okK a b s) : plc a b s (plc a b r x y).1 (plc a b r x y).2 = plc a b (cm r s) x y := by
  obtain ⟨hr, h⟩ := h
  obtain ⟨hs, h'⟩ := h'
  rw [cm_cmT r hr s hs]
  have hc : r = 0 ∨ r = 1 ∨ r = 2 ∨ r = 3 ∨ r = 4 ∨ r = 5 ∨ r = 6 ∨ r = 7 := by omega
  have hd : s = 0 ∨ s = 1 ∨ s = 2 ∨ s = 3 ∨ s = 4 ∨ s = 5 ∨ s = 6 ∨ s = 7 := by omega
  rcases hc with rfl | rfl | rfl | rfl | rfl | rfl | rfl | rfl <;> rcases hd with rfl | rfl | rfl | rfl | rfl | rfl | rfl | rfl <;> simp [plc, cmT] <;> omega
def idx (a b r i : Nat) : Nat := (plc a b r (i % a) (i / a)).2 * a + (plc a b r (i % a) (i / a)).1
theorem idx_parts {a p q : Nat} (hp : p < a) : (q * a + p) % a = p ∧ (q * a + p) / a = q := by
  constructor
  · rw [Nat.mul_comm, Nat.mul_add_mod]; exact Nat.mod_eq_of_lt hp
  · rw [Nat.mul_comm, Nat.mul_add_div (by omega), Nat.div_eq_of_lt hp, Nat.add_zero]
theorem split_lt {a b i : Nat} (hi : i < b * a) : 0 < a ∧ i % a < a ∧ i / a < b := by
  have ha : 0 < a := by
    rcases Nat.eq_zero_or_pos a with h | h
    · rw [h, Nat.mul_zero] at hi; omega
    · exact h
  exact ⟨ha, Nat.mod_lt _ ha, (Nat.div_lt_iff_lt_mul ha).2 hi⟩
theorem idx_idx {a b r s i : Nat} (hi : i < b * a) (h : okK a b r) (h' : okK a b s) : idx a b s (idx a b r i) = idx a b (cm r s) i := by
  obtain ⟨ha, hx, hy⟩ := split_lt hi
  obtain ⟨h1, h2⟩ := plc_lt hx hy h
  obtain ⟨e1, e2⟩ := idx_parts (q := (plc a b r (i % a) (i / a)).2) h1
  have hc := plc_comp hx hy h h'
  unfold idx
  rw [e1, e2, hc]
theorem idx_lt {a b r i : Nat} (hi : i < b * a) (h : okK a b r) : idx a b r i < b * a := by
  obtain ⟨ha, hx, hy⟩ := split_lt hi
  obtain ⟨h1, h2⟩ := plc_lt hx hy h
  have h3 : ((plc a b r (i % a) (i / a)).2 + 1) * a ≤ b * a := Nat.mul_le_mul_right a h2
  rw [Nat.add_mul, Nat.one_mul] at h3
  unfold idx; omega
theorem idx_zero {a b i : Nat} (ha : 0 < a) : idx a b 0 i = i := by
  show i / a * a + i % a = i
  rw [Nat.mul_comm]; exact Nat.div_add_mod i a
/-- A fold by min. -/
theorem fold_min (f : Int → Int) : ∀ (g : List Int) (m : Int), g.foldl (fun m k => min m (f k)) m ≤ m ∧ (∀ k, k ∈ g → g.foldl (fun m k => min m (f k)) m ≤ f k) ∧ (g.foldl (fun m k => min m (f k)) m = m ∨ ∃ k, k ∈ g ∧ g.foldl (fun m k => min m (f k)) m = f k)
  | [], m => ⟨Int.le_refl _, fun k hk => absurd hk (by simp), .inl rfl⟩
  | k :: g, m => by
    obtain ⟨h1, h2, h3⟩ := fold_min f g (min m (f k))
    rw [List.foldl_cons]
    refine ⟨by omega, fun k' hk' => ?_, ?_⟩
    · rcases List.mem_cons.1 hk' with rfl | hk'
      · omega
      · exact h2 k' hk'
    · rcases h3 with h3 | ⟨k', hk', h3⟩
      · rcases Int.le_total m (f k) with hle | hle
        · left; rw [h3]; omega
        · right; exact ⟨k, List.mem_cons_self .., by rw [h3]; omega⟩
      · right; exact ⟨k', List.mem_cons_of_mem _ hk', h3⟩
section
variable {a b : Nat} {W : Int → Int → Int → Int × Int} {l : List Int}
def Fits (W : Int → Int → Int → Int × Int) (a b : Nat) : Prop := ∀ x y k : Nat, x < a → y < b → okK a b k → W (x : Int) (y : Int) (k : Int) = (((((plc a b k x y).1 : Nat) : Int)), (((plc a b k x y).2 : Nat) : Int))
theorem odd_nat {k : Nat} (hk : k < 8) : odd (k : Int) = decide (k % 2 = 1) := by
  have h : ∀ k : Nat, k < 8 → odd (k : Int) = decide (k % 2 = 1) := by decide
  exact h k hk
theorem okK_grp (hab : a = b ∨ anyOdd (grp l) = false) {k : Nat} (hk : k < 8) (hm : ((k : Nat) : Int) ∈ grp l) : okK a b k := by
  refine ⟨hk, ?_⟩
  rcases hab with h | h
  · exact .inl h
  · right
    unfold anyOdd at h
    rw [List.any_eq_false] at h
    have := h _ hm
    rw [odd_nat hk] at this
    simp at this
    omega
/-- The number that the fold reaches at place i. -/
theorem least_fix (hW : Fits W a b) (hab : a = b ∨ anyOdd (grp l) = false) (hs : b * a ≤ 4096) {i : Nat} (hi : i < b * a) :
    (∀ k : Nat, k < 8 → ((k : Nat) : Int) ∈ grp l → least W (grp l) a ((i % a : Nat) : Int) ((i / a : Nat) : Int) ≤ (idx a b k i : Nat)) ∧
    ∃ k : Nat, k < 8 ∧ ((k : Nat) : Int) ∈ grp l ∧ least W (grp l) a ((i % a : Nat) : Int) ((i / a : Nat) : Int) = ((idx a b k i : Nat) : Int) := by
  obtain ⟨ha, hx, hy⟩ := split_lt hi
  have hf : ∀ k : Nat, k < 8 → ((k : Nat) : Int) ∈ grp l → wrap64 (wrap64 ((W ((i % a : Nat) : Int) ((i / a : Nat) : Int) k).2 * (a : Int)) + (W ((i % a : Nat) : Int) ((i / a : Nat) : Int) k).1) = ((idx a b k i : Nat) : Int) := by
    intro k hk hm
    have ho := okK_grp hab hk hm
    rw [hW _ _ k hx hy ho]
    have hl := idx_lt hi ho
    have h1 : ((plc a b k (i % a) (i / a)).2 * a : Nat) ≤ idx a b k i := by unfold idx; omega
    have e : (((plc a b k (i % a) (i / a)).2 : Nat) : Int) * (a : Int) = (((plc a b k (i % a) (i / a)).2 * a : Nat) : Int) := by simp
    simp only
    rw [e]
    have e2 : (((plc a b k (i % a) (i / a)).2 * a : Nat) : Int) + ((plc a b k (i % a) (i / a)).1 : Nat) = ((idx a b k i : Nat) : Int) := by unfold idx; omega
    have w1 : ∀ n : Nat, n ≤ 4096 → wrap64 (n : Int) = n := by intro n hn; unfold wrap64; omega
    rw [w1 _ (by omega), e2, w1 _ (by omega)]
  have h0 : ((0 : Nat) : Int) ∈ grp l := (mem_grp (by omega)).2 (over_grp l).zero
  have hinit : ((i / a : Nat) : Int) * (a : Int) + ((i % a : Nat) : Int) = (i : Int) := by
    have := Nat.div_add_mod i a
    rw [Nat.mul_comm] at this
    have e : ((i / a : Nat) : Int) * (a : Int) = ((i / a * a : Nat) : Int) := by simp
    rw [e]; omega
  obtain ⟨f1, f2, f3⟩ := fold_min (fun k => wrap64 (wrap64 ((W ((i % a : Nat) : Int) ((i / a : Nat) : Int) k).2 * (a : Int)) + (W ((i % a : Nat) : Int) ((i / a : Nat) : Int) k).1)) (grp l) (((i / a : Nat) : Int) * (a : Int) + ((i % a : Nat) : Int))
  refine ⟨fun k hk hm => ?_, ?_⟩
  · have := f2 _ hm
    simp only [hf k hk hm] at this
    exact this
  · rcases f3 with f3 | ⟨k, hk, f3⟩
    · refine ⟨0, by omega, h0, ?_⟩
      rw [idx_zero ha]
      exact f3.trans hinit
    · obtain ⟨n, hn, rfl, _⟩ := mem_grp_nat hk
      refine ⟨n, hn, hk, ?_⟩
      rw [← hf n hn hk]
      exact f3
theorem orb_at {g : List Int} {n i : Nat} (hi : i < n) : (orb W g a n)[i]? = some (least W g a ((i % a : Nat) : Int) ((i / a : Nat) : Int)) := by
  unfold orb
  rw [List.getElem?_map, List.getElem?_range hi]; rfl
theorem orb_fix (hW : Fits W a b) (hab : a = b ∨ anyOdd (grp l) = false) (hs : b * a ≤ 4096) {i : Nat} (hi : i < b * a) :
    ∃ n : Nat, n ≤ i ∧ (orb W (grp l) a (b * a))[i]? = some (n : Int) ∧ (orb W (grp l) a (b * a))[n]? = some (n : Int) := by
  obtain ⟨ha, _, _⟩ := split_lt hi
  obtain ⟨h1, k, hk, hm, he⟩ := least_fix hW hab hs hi
  have h0 : ((0 : Nat) : Int) ∈ grp l := (mem_grp (by omega)).2 (over_grp l).zero
  have ho := okK_grp hab hk hm
  have hl := idx_lt hi ho
  have hle := h1 0 (by omega) h0
  rw [he, idx_zero ha] at hle
  refine ⟨idx a b k i, by omega, by rw [orb_at hi, he], ?_⟩
  rw [orb_at hl]
  obtain ⟨g1, k', hk', hm', he'⟩ := least_fix hW hab hs hl
  have hle' := g1 0 (by omega) h0
  rw [idx_zero ha] at hle'
  rw [he'] at hle' ⊢
  have hcm : ((cm k k' : Nat) : Int) ∈ grp l := (mem_grp (cm_lt hk hk')).2 ((over_grp l).closed _ _ hk hk' ((mem_grp hk).1 hm) ((mem_grp hk').1 hm'))
  have hge := h1 _ (cm_lt hk hk') hcm
  rw [he, ← idx_idx hi ho (okK_grp hab hk' hm')] at hge
  congr 1
  omega
end
end Go.Proofs.YtobbkclfbbblaaaDoor
