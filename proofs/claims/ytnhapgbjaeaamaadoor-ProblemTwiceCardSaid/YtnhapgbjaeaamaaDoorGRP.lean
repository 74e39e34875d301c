/- The group as the reference finds it: plain facts. Plain facts on orbits: no program in sight. Plain facts on the group that a list gives: its group is itself, it is closed, it has 1, 2, 4 or 8 members. Plain facts on orbits: each number is the first one of its orbit. The group as the program finds it: plain facts on sets of numbers below 8, and on the array that holds one. Contracts of the reference's Has and Same on lists of integers. The contract of the program's Group. The contract of slices.ContainsFunc at Orbits' own test, and of the reference's Keeps. The contract of the program's Orbits. The contract of the reference's Group. The contract of the reference's Orbits. The fixed examples of chapter 04: plain facts. -/
import Derived.Test.YtnhapgbjaeaamaaDoorPLN
import Derived.Test.YtnhapgbjaeaamaaDoorMEM
import Derived.Test.YtnhapgbjaeaamaaDoorProg
import Derived.Test.YtnhapgbjaeaamaaDoorSYM
set_option linter.unusedSimpArgs false
set_option linter.unusedVariables false
section
namespace Go.Proofs.YtnhapgbjaeaamaaDoor
open Go Go.RowKit
/-- What holds of the reference's list at any time. -/
structure GInv (l L : List Int) : Prop where
  zero : (0 : Int) ∈ L
  must : ∀ x, x ∈ L → ∃ k : Nat, x = (k : Int) ∧ k < 8 ∧ Must l k
  nodup : L.Nodup
theorem GInv.len {l L : List Int} (h : GInv l L) : L.length ≤ 8 := nodup_len 8 L h.nodup fun x hx => by obtain ⟨k, e, hk, _⟩ := h.must x hx; exact ⟨k, e, hk⟩
theorem GInv.start (l : List Int) : GInv l [0] := ⟨by simp, fun x hx => by simp at hx; exact ⟨0, hx, by omega, must_zero l⟩, by simp⟩
theorem GInv.add {l L : List Int} (h : GInv l L) {k : Nat} (hk : k < 8) (hm : Must l k) (hn : hasI L (k : Int) = false) : GInv l (L ++ [(k : Int)]) :=
  ⟨List.mem_append_left _ h.zero, fun x hx => by
    rcases List.mem_append.1 hx with h1 | h1
    · exact h.must x h1
    · simp at h1; exact ⟨k, h1, hk, hm⟩, by
    rw [List.nodup_append]
    exact ⟨h.nodup, by simp, fun a ha b hb => by simp at hb; subst hb; intro e; subst e; exact hasI_no hn ha⟩⟩
/-- The first i numbers of l are in L. -/
def Has1 (l L : List Int) (i : Nat) : Prop := ∀ j m, j < i → l[j]? = some m → (r8 m : Int) ∈ L
theorem Has1.step {l L : List Int} {i : Nat} {m : Int} (h : Has1 l L i) (hm : l[i]? = some m) (hin : (r8 m : Int) ∈ L) : Has1 l L (i + 1) := by
  intro j m' hj hm'
  by_cases e : j = i
  · subst e; rw [hm] at hm'; cases hm'; exact hin
  · exact h j m' (by omega) hm'
theorem Has1.more {l L : List Int} {i : Nat} (h : Has1 l L i) (x : Int) : Has1 l (L ++ [x]) i := fun j m hj hm => List.mem_append_left _ (h j m hj hm)
/-- The pairs with the first element before a, or at a and the second before b, have their composition in L. -/
def Pairs (L : List Int) (a b : Nat) : Prop := ∀ i j x y, L[i]? = some x → L[j]? = some y → (i < a ∨ i = a ∧ j < b) → comp x y ∈ L
theorem Pairs.start (L : List Int) : Pairs L 0 0 := fun i j x y _ _ h => by omega
theorem Pairs.next {L : List Int} {a b : Nat} {x y : Int} (h : Pairs L a b) (hx : L[a]? = some x) (hy : L[b]? = some y) (hc : comp x y ∈ L) : Pairs L a (b + 1) := by
  intro i j x' y' hx' hy' hij
  by_cases e : i = a ∧ j = b
  · obtain ⟨rfl, rfl⟩ := e
    rw [hx] at hx'; rw [hy] at hy'; cases hx'; cases hy'; exact hc
  · exact h i j x' y' hx' hy' (by omega)
theorem Pairs.row {L : List Int} {a b : Nat} (h : Pairs L a b) (hb : L.length ≤ b) : Pairs L (a + 1) 0 := by
  intro i j x y hx hy hij
  have hj := (List.getElem?_eq_some_iff.1 hy).1
  exact h i j x y hx hy (by omega)
def Shut (L : List Int) : Prop := ∀ x y, x ∈ L → y ∈ L → comp x y ∈ L
theorem Pairs.all {L : List Int} {a b : Nat} (h : Pairs L a b) (ha : L.length ≤ a) : Shut L := by
  intro x y hx hy
  obtain ⟨i, hi, ex⟩ := List.getElem_of_mem hx
  obtain ⟨j, hj, ey⟩ := List.getElem_of_mem hy
  exact h i j x y (by rw [List.getElem?_eq_getElem hi, ex]) (by rw [List.getElem?_eq_getElem hj, ey]) (by omega)
/-- The composition of two members, a number that must be there. -/
theorem GInv.comp_must {l L : List Int} (h : GInv l L) {x y : Int} (hx : x ∈ L) (hy : y ∈ L) : ∃ k : Nat, comp x y = (k : Int) ∧ k < 8 ∧ Must l k := by
  obtain ⟨a, rfl, ha, hma⟩ := h.must x hx
  obtain ⟨b, rfl, hb, hmb⟩ := h.must y hy
  exact ⟨cm a b, comp_nat ha hb, cm_lt ha hb, must_comp ha hb hma hmb⟩
/-- At the end the list holds the group. -/
theorem GInv.group {l L : List Int} (h : GInv l L) (h1 : Has1 l L l.length) (h2 : Shut L) : ∀ k : Nat, k < 8 → grpB l k = hasI L (k : Int) := by
  refine grp_of ⟨hasI_iff.2 h.zero, fun m hm => ?_, fun a b ha hb h3 h4 => ?_⟩ fun k _ hs => ?_
  · obtain ⟨i, hi, e⟩ := List.getElem_of_mem hm
    exact hasI_iff.2 (h1 i m hi (by rw [List.getElem?_eq_getElem hi, e]))
  · rw [hasI_iff] at *
    rw [← comp_nat ha hb]; exact h2 _ _ h3 h4
  · obtain ⟨k', e, _, hm⟩ := h.must _ (hasI_iff.1 hs)
    have : k' = k := by omega
    subst this; exact hm
def memB (L : List Int) (k : Nat) : Bool := hasI L (k : Int)
/-- The numbers below i that are in a set. -/
def upTo (S : Nat → Bool) (i : Nat) : List Int := ((List.range i).filter S).map fun k => ((k : Nat) : Int)
theorem upTo_yes {S : Nat → Bool} {i : Nat} (h : S i = true) : upTo S (i + 1) = upTo S i ++ [(i : Int)] := by
  unfold upTo; rw [List.range_succ, List.filter_append]; simp [h]
theorem upTo_no {S : Nat → Bool} {i : Nat} (h : S i = false) : upTo S (i + 1) = upTo S i := by
  unfold upTo; rw [List.range_succ, List.filter_append]; simp [h]
theorem upTo_len (S : Nat → Bool) (i : Nat) : (upTo S i).length ≤ i := by
  unfold upTo; rw [List.length_map]; exact Nat.le_trans (List.length_filter_le _ _) (by simp)
theorem upTo_grp {l : List Int} {S : Nat → Bool} (h : ∀ k, k < 8 → grpB l k = S k) : upTo S 8 = grp l := by
  unfold upTo grp
  rw [List.filter_congr fun k hk => (h k (by simpa using hk)).symm]
end Go.Proofs.YtnhapgbjaeaamaaDoor
end
section
namespace Go.Proofs.YtnhapgbjaeaamaaDoor
open Go Go.RowKit
def odd (k : Int) : Bool := decide (k.tmod 2 = 1)
def anyOdd (l : List Int) : Bool := l.any odd
def keeps (k w h : Int) : Bool := !odd (k % 8) || decide (w = h)
/-- One step of the least number of an orbit: q is what Within gives. -/
def lstep (W : Int → Int × Int) (w : Int) (m k : Int) : Int := min m (wrap64 (wrap64 ((W k).2 * w) + (W k).1))
def least (W : Int → Int → Int → Int × Int) (g : List Int) (w x y : Int) : Int := g.foldl (lstep (W x y) w) (y * w + x)
def orb (W : Int → Int → Int → Int × Int) (g : List Int) (w n : Nat) : List Int := (List.range n).map fun i => least W g w ((i % w : Nat) : Int) ((i / w : Nat) : Int)
theorem orb_len (W : Int → Int → Int → Int × Int) (g : List Int) (w n : Nat) : (orb W g w n).length = n := by simp [orb]
theorem orb_snoc (W : Int → Int → Int → Int × Int) (g : List Int) (w x y : Nat) (hx : x < w) : orb W g w (y * w + x + 1) = orb W g w (y * w + x) ++ [least W g w (x : Int) (y : Int)] := by
  unfold orb
  rw [List.range_succ, List.map_append, List.map_singleton]
  have h1 : (y * w + x) % w = x := by rw [Nat.mul_comm, Nat.mul_add_mod]; exact Nat.mod_eq_of_lt hx
  have h2 : (y * w + x) / w = y := by rw [Nat.mul_comm, Nat.mul_add_div (by omega)]; simp [Nat.div_eq_of_lt hx]
  rw [h1, h2]
theorem fold_snoc {W : Int → Int × Int} {w m : Int} {g : List Int} {i : Nat} {k : Int} (h : g[i]? = some k) : (g.take (i + 1)).foldl (lstep W w) m = lstep W w ((g.take i).foldl (lstep W w) m) k := by
  obtain ⟨hi, e⟩ := List.getElem?_eq_some_iff.1 h
  rw [List.take_succ_eq_append_getElem hi, List.foldl_append, e]
  rfl
/-- Are the sides of a grid valid? -/
def sideB (w h : Int) : Bool := decide (1 ≤ w ∧ w ≤ 256 ∧ 1 ≤ h ∧ h ≤ 256 ∧ w * h ≤ 4096)
theorem prod_bound {w h : Int} (hw : 1 ≤ w ∧ w ≤ 256) (hh : 1 ≤ h ∧ h ≤ 256) : 1 ≤ w * h ∧ w * h ≤ 65536 := by
  have h1 := Int.mul_le_mul hw.2 hh.2 (by omega) (by omega)
  have h2 := Int.mul_le_mul hw.1 hh.1 (by omega) (by omega)
  omega
theorem grp_mem {l : List Int} {k : Int} (h : k ∈ grp l) : 0 ≤ k ∧ k < 8 := by
  unfold grp at h
  obtain ⟨i, hi, rfl⟩ := List.mem_map.1 h
  have := (List.mem_filter.1 hi).1
  simp at this
  omega
theorem keeps_grp {l : List Int} {k w h : Int} (hk : k ∈ grp l) : keeps k w h = (!odd k || decide (w = h)) := by
  have := grp_mem hk
  unfold keeps
  rw [Int.emod_eq_of_lt this.1 this.2]
end Go.Proofs.YtnhapgbjaeaamaaDoor
end
section
namespace Go.Proofs.YtnhapgbjaeaamaaDoor
open Go Go.RowKit
theorem mem_grp {l : List Int} {k : Nat} (hk : k < 8) : ((k : Nat) : Int) ∈ grp l ↔ grpB l k = true := by
  unfold grp
  rw [List.mem_map]
  constructor
  · rintro ⟨j, hj, e⟩
    have : j = k := by omega
    subst this
    exact (List.mem_filter.1 hj).2
  · intro h
    exact ⟨k, List.mem_filter.2 ⟨List.mem_range.2 hk, h⟩, rfl⟩
theorem mem_grp_nat {l : List Int} {m : Int} (h : m ∈ grp l) : ∃ k : Nat, k < 8 ∧ m = (k : Int) ∧ grpB l k = true := by
  unfold grp at h
  obtain ⟨k, hk, rfl⟩ := List.mem_map.1 h
  obtain ⟨h1, h2⟩ := List.mem_filter.1 hk
  exact ⟨k, List.mem_range.1 h1, rfl, h2⟩
theorem grp_congr {l l' : List Int} (h : ∀ k, k < 8 → grpB l k = grpB l' k) : grp l = grp l' := by
  unfold grp
  rw [List.filter_congr fun x hx => h x (by simpa using hx)]
theorem grp_grp (l : List Int) : grp (grp l) = grp l := by
  refine grp_congr (grp_of ⟨(over_grp l).zero, fun m hm => ?_, (over_grp l).closed⟩ fun k hk hs => ?_)
  · obtain ⟨k, hk, rfl, hg⟩ := mem_grp_nat hm
    rw [r8_nat hk]; exact hg
  · have := must_base ((mem_grp hk).2 hs)
    rwa [r8_nat hk] at this
theorem iv_cube : ∀ a : Nat, a < 8 → iv a = cm (cm a a) a := by decide +kernel
theorem has_inv {l : List Int} {m : Int} (h : m ∈ grp l) : hasI (grp l) (inv m) = true := by
  obtain ⟨k, hk, rfl, hg⟩ := mem_grp_nat h
  rw [hasI_iff, inv_iv, r8_nat hk, mem_grp (iv_lt hk), iv_cube k hk]
  have ho := over_grp l
  exact ho.closed _ _ (cm_lt hk hk) hk (ho.closed _ _ hk hk hg hg) hg
theorem has_comp {l : List Int} {m m' : Int} (h : m ∈ grp l) (h' : m' ∈ grp l) : hasI (grp l) (comp m m') = true := by
  obtain ⟨k, hk, rfl, hg⟩ := mem_grp_nat h
  obtain ⟨k', hk', rfl, hg'⟩ := mem_grp_nat h'
  rw [hasI_iff, comp_nat hk hk', mem_grp (cm_lt hk hk')]
  exact (over_grp l).closed _ _ hk hk' hg hg'
def cmT (a b : Nat) : Nat := ([0, 1, 2, 3, 4, 5, 6, 7, 1, 2, 3, 0, 7, 4, 5, 6, 2, 3, 0, 1, 6, 7, 4, 5, 3, 0, 1, 2, 5, 6, 7, 4, 4, 5, 6, 7, 0, 1, 2, 3, 5, 6, 7, 4, 3, 0, 1, 2, 6, 7, 4, 5, 2, 3, 0, 1, 7, 4, 5, 6, 1, 2, 3, 0] : List Nat).getD (a * 8 + b) 0
theorem cm_cmT : ∀ a : Nat, a < 8 → ∀ b : Nat, b < 8 → cm a b = cmT a b := by decide +kernel
def bitsOf (S : Nat → Bool) : List Bool := (List.range 8).map S
def closedL (L : List Bool) : Bool := (List.range 8).all fun a => (List.range 8).all fun b => !(L.getD a false && L.getD b false) || L.getD (cmT a b) false
def lenOk (n : Nat) : Bool := n == 1 || n == 2 || n == 4 || n == 8
theorem closed_len : ∀ b1 b2 b3 b4 b5 b6 b7 : Bool, closedL [true, b1, b2, b3, b4, b5, b6, b7] = true → lenOk (([true, b1, b2, b3, b4, b5, b6, b7].filter id).length) = true := by decide +kernel
theorem grp_len (l : List Int) : (grp l).length = 1 ∨ (grp l).length = 2 ∨ (grp l).length = 4 ∨ (grp l).length = 8 := by
  have ho := over_grp l
  have h1 : (grp l).length = ([true, grpB l 1, grpB l 2, grpB l 3, grpB l 4, grpB l 5, grpB l 6, grpB l 7].filter id).length := by
    unfold grp
    rw [List.length_map, ← ho.zero, show [grpB l 0, grpB l 1, grpB l 2, grpB l 3, grpB l 4, grpB l 5, grpB l 6, grpB l 7] = (List.range 8).map (grpB l) from rfl, List.filter_map, List.length_map]
    rfl
  have h2 := closed_len (grpB l 1) (grpB l 2) (grpB l 3) (grpB l 4) (grpB l 5) (grpB l 6) (grpB l 7) (by
    have e : [true, grpB l 1, grpB l 2, grpB l 3, grpB l 4, grpB l 5, grpB l 6, grpB l 7] = (List.range 8).map (grpB l) := by rw [← ho.zero]; rfl
    rw [e]
    have hget : ∀ a, a < 8 → ((List.range 8).map (grpB l)).getD a false = grpB l a := by
      intro a ha
      rw [List.getD_eq_getElem?_getD, List.getElem?_map, List.getElem?_range ha]; rfl
    unfold closedL
    rw [List.all_eq_true]
    intro a ha
    rw [List.all_eq_true]
    intro b hb
    have ha8 : a < 8 := by simpa using ha
    have hb8 : b < 8 := by simpa using hb
    rw [hget a ha8, hget b hb8, ← cm_cmT a ha8 b hb8, hget _ (cm_lt ha8 hb8)]
    cases h3 : grpB l a <;> cases h4 : grpB l b <;> simp
    exact ho.closed a b ha8 hb8 h3 h4)
  rw [← h1] at h2
  unfold lenOk at h2
  simp at h2
  omega
end Go.Proofs.YtnhapgbjaeaamaaDoor
end
section
namespace Go.Proofs.YtnhapgbjaeaamaaDoor
open Go Go.RowKit
/-- Where a place of a grid of the sides a, b goes. -/
def plc (a b : Nat) (r x y : Nat) : Nat × Nat := match r with
  | 0 => (x, y)
  | 1 => (b - 1 - y, x)
  | 2 => (a - 1 - x, b - 1 - y)
  | 3 => (y, a - 1 - x)
  | 4 => (a - 1 - x, y)
  | 5 => (b - 1 - y, a - 1 - x)
  | 6 => (x, b - 1 - y)
  | _ => (y, x)
def okK (a b r : Nat) : Prop := r < 8 ∧ (a = b ∨ r % 2 = 0)
theorem plc_lt {a b r x y : Nat} (hx : x < a) (hy : y < b) (h : okK a b r) : (plc a b r x y).1 < a ∧ (plc a b r x y).2 < b := by
  obtain ⟨hr, h⟩ := h
  have hc : r = 0 ∨ r = 1 ∨ r = 2 ∨ r = 3 ∨ r = 4 ∨ r = 5 ∨ r = 6 ∨ r = 7 := by omega
  rcases hc with rfl | rfl | rfl | rfl | rfl | rfl | rfl | rfl <;> simp only [plc] <;> omega
theorem plc_comp {a b r s x y : Nat} (hx : x < a) (hy : y < b) (h : okK a b r) (h' : okK a b s) : plc a b s (plc a b r x y).1 (plc a b r x y).2 = plc a b (cm r s) x y := by
  obtain ⟨hr, h⟩ := h
  obtain ⟨hs, h'⟩ := h'
  rw [cm_cmT r hr s hs]
  have hc : r = 0 ∨ r = 1 ∨ r = 2 ∨ r = 3 ∨ r = 4 ∨ r = 5 ∨ r = 6 ∨ r = 7 := by omega
  have hd : s = 0 ∨ s = 1 ∨ s = 2 ∨ s = 3 ∨ s = 4 ∨ s = 5 ∨ s = 6 ∨ s = 7 := by omega
  rcases hc with rfl | rfl | rfl | rfl | rfl | rfl | rfl | rfl <;> rcases hd with rfl | rfl | rfl | rfl | rfl | rfl | rfl | rfl <;> simp [plc, cmT] <;> omega
def idx (a b r i : Nat) : Nat := (plc a b r (i % a) (i / a)).2 * a + (plc a b r (i % a) (i / a)).1
theorem idx_parts {a p q : Nat} (hp : p < a) : (q * a + p) % a = p ∧ (q * a + p) / a = q := by
  constructor
  · rw [Nat.mul_comm, Nat.mul_add_mod]; exact Nat.mod_eq_of_lt hp
  · rw [Nat.mul_comm, Nat.mul_add_div (by omega), Nat.div_eq_of_lt hp, Nat.add_zero]
theorem split_lt {a b i : Nat} (hi : i < b * a) : 0 < a ∧ i % a < a ∧ i / a < b := by
  have ha : 0 < a := by
    rcases Nat.eq_zero_or_pos a with h | h
    · rw [h, Nat.mul_zero] at hi; omega
    · exact h
  exact ⟨ha, Nat.mod_lt _ ha, (Nat.div_lt_iff_lt_mul ha).2 hi⟩
theorem idx_idx {a b r s i : Nat} (hi : i < b * a) (h : okK a b r) (h' : okK a b s) : idx a b s (idx a b r i) = idx a b (cm r s) i := by
  obtain ⟨ha, hx, hy⟩ := split_lt hi
  obtain ⟨h1, h2⟩ := plc_lt hx hy h
  obtain ⟨e1, e2⟩ := idx_parts (q := (plc a b r (i % a) (i / a)).2) h1
  have hc := plc_comp hx hy h h'
  unfold idx
  rw [e1, e2, hc]
theorem idx_lt {a b r i : Nat} (hi : i < b * a) (h : okK a b r) : idx a b r i < b * a := by
  obtain ⟨ha, hx, hy⟩ := split_lt hi
  obtain ⟨h1, h2⟩ := plc_lt hx hy h
  have h3 : ((plc a b r (i % a) (i / a)).2 + 1) * a ≤ b * a := Nat.mul_le_mul_right a h2
  rw [Nat.add_mul, Nat.one_mul] at h3
  unfold idx; omega
theorem idx_zero {a b i : Nat} (ha : 0 < a) : idx a b 0 i = i := by
  show i / a * a + i % a = i
  rw [Nat.mul_comm]; exact Nat.div_add_mod i a
/-- A fold by min. -/
theorem fold_min (f : Int → Int) : ∀ (g : List Int) (m : Int), g.foldl (fun m k => min m (f k)) m ≤ m ∧ (∀ k, k ∈ g → g.foldl (fun m k => min m (f k)) m ≤ f k) ∧ (g.foldl (fun m k => min m (f k)) m = m ∨ ∃ k, k ∈ g ∧ g.foldl (fun m k => min m (f k)) m = f k)
  | [], m => ⟨Int.le_refl _, fun k hk => absurd hk (by simp), .inl rfl⟩
  | k :: g, m => by
    obtain ⟨h1, h2, h3⟩ := fold_min f g (min m (f k))
    rw [List.foldl_cons]
    refine ⟨by omega, fun k' hk' => ?_, ?_⟩
    · rcases List.mem_cons.1 hk' with rfl | hk'
      · omega
      · exact h2 k' hk'
    · rcases h3 with h3 | ⟨k', hk', h3⟩
      · rcases Int.le_total m (f k) with hle | hle
        · left; rw [h3]; omega
        · right; exact ⟨k, List.mem_cons_self .., by rw [h3]; omega⟩
      · right; exact ⟨k', List.mem_cons_of_mem _ hk', h3⟩
section
variable {a b : Nat} {W : Int → Int → Int → Int × Int} {l : List Int}
def Fits (W : Int → Int → Int → Int × Int) (a b : Nat) : Prop := ∀ x y k : Nat, x < a → y < b → okK a b k → W (x : Int) (y : Int) (k : Int) = (((((plc a b k x y).1 : Nat) : Int)), (((plc a b k x y).2 : Nat) : Int))
theorem odd_nat {k : Nat} (hk : k < 8) : odd (k : Int) = decide (k % 2 = 1) := by
  have h : ∀ k : Nat, k < 8 → odd (k : Int) = decide (k % 2 = 1) := by decide
  exact h k hk
theorem okK_grp (hab : a = b ∨ anyOdd (grp l) = false) {k : Nat} (hk : k < 8) (hm : ((k : Nat) : Int) ∈ grp l) : okK a b k := by
  refine ⟨hk, ?_⟩
  rcases hab with h | h
  · exact .inl h
  · right
    unfold anyOdd at h
    rw [List.any_eq_false] at h
    have := h _ hm
    rw [odd_nat hk] at this
    simp at this
    omega
/-- The number that the fold reaches at place i. -/
theorem least_fix (hW : Fits W a b) (hab : a = b ∨ anyOdd (grp l) = false) (hs : b * a ≤ 4096) {i : Nat} (hi : i < b * a) :
    (∀ k : Nat, k < 8 → ((k : Nat) : Int) ∈ grp l → least W (grp l) a ((i % a : Nat) : Int) ((i / a : Nat) : Int) ≤ (idx a b k i : Nat)) ∧
    ∃ k : Nat, k < 8 ∧ ((k : Nat) : Int) ∈ grp l ∧ least W (grp l) a ((i % a : Nat) : Int) ((i / a : Nat) : Int) = ((idx a b k i : Nat) : Int) := by
  obtain ⟨ha, hx, hy⟩ := split_lt hi
  have hf : ∀ k : Nat, k < 8 → ((k : Nat) : Int) ∈ grp l → wrap64 (wrap64 ((W ((i % a : Nat) : Int) ((i / a : Nat) : Int) k).2 * (a : Int)) + (W ((i % a : Nat) : Int) ((i / a : Nat) : Int) k).1) = ((idx a b k i : Nat) : Int) := by
    intro k hk hm
    have ho := okK_grp hab hk hm
    rw [hW _ _ k hx hy ho]
    have hl := idx_lt hi ho
    have h1 : ((plc a b k (i % a) (i / a)).2 * a : Nat) ≤ idx a b k i := by unfold idx; omega
    have e : (((plc a b k (i % a) (i / a)).2 : Nat) : Int) * (a : Int) = (((plc a b k (i % a) (i / a)).2 * a : Nat) : Int) := by simp
    simp only
    rw [e]
    have e2 : (((plc a b k (i % a) (i / a)).2 * a : Nat) : Int) + ((plc a b k (i % a) (i / a)).1 : Nat) = ((idx a b k i : Nat) : Int) := by unfold idx; omega
    have w1 : ∀ n : Nat, n ≤ 4096 → wrap64 (n : Int) = n := by intro n hn; unfold wrap64; omega
    rw [w1 _ (by omega), e2, w1 _ (by omega)]
  have h0 : ((0 : Nat) : Int) ∈ grp l := (mem_grp (by omega)).2 (over_grp l).zero
  have hinit : ((i / a : Nat) : Int) * (a : Int) + ((i % a : Nat) : Int) = (i : Int) := by
    have := Nat.div_add_mod i a
    rw [Nat.mul_comm] at this
    have e : ((i / a : Nat) : Int) * (a : Int) = ((i / a * a : Nat) : Int) := by simp
    rw [e]; omega
  obtain ⟨f1, f2, f3⟩ := fold_min (fun k => wrap64 (wrap64 ((W ((i % a : Nat) : Int) ((i / a : Nat) : Int) k).2 * (a : Int)) + (W ((i % a : Nat) : Int) ((i / a : Nat) : Int) k).1)) (grp l) (((i / a : Nat) : Int) * (a : Int) + ((i % a : Nat) : Int))
  refine ⟨fun k hk hm => ?_, ?_⟩
  · have := f2 _ hm
    simp only [hf k hk hm] at this
    exact this
  · rcases f3 with f3 | ⟨k, hk, f3⟩
    · refine ⟨0, by omega, h0, ?_⟩
      rw [idx_zero ha]
      exact f3.trans hinit
    · obtain ⟨n, hn, rfl, _⟩ := mem_grp_nat hk
      refine ⟨n, hn, hk, ?_⟩
      rw [← hf n hn hk]
      exact f3
theorem orb_at {g : List Int} {n i : Nat} (hi : i < n) : (orb W g a n)[i]? = some (least W g a ((i % a : Nat) : Int) ((i / a : Nat) : Int)) := by
  unfold orb
  rw [List.getElem?_map, List.getElem?_range hi]; rfl
theorem orb_fix (hW : Fits W a b) (hab : a = b ∨ anyOdd (grp l) = false) (hs : b * a ≤ 4096) {i : Nat} (hi : i < b * a) :
    ∃ n : Nat, n ≤ i ∧ (orb W (grp l) a (b * a))[i]? = some (n : Int) ∧ (orb W (grp l) a (b * a))[n]? = some (n : Int) := by
  obtain ⟨ha, _, _⟩ := split_lt hi
  obtain ⟨h1, k, hk, hm, he⟩ := least_fix hW hab hs hi
  have h0 : ((0 : Nat) : Int) ∈ grp l := (mem_grp (by omega)).2 (over_grp l).zero
  have ho := okK_grp hab hk hm
  have hl := idx_lt hi ho
  have hle := h1 0 (by omega) h0
  rw [he, idx_zero ha] at hle
  refine ⟨idx a b k i, by omega, by rw [orb_at hi, he], ?_⟩
  rw [orb_at hl]
  obtain ⟨g1, k', hk', hm', he'⟩ := least_fix hW hab hs hl
  have hle' := g1 0 (by omega) h0
  rw [idx_zero ha] at hle'
  rw [he'] at hle' ⊢
  have hcm : ((cm k k' : Nat) : Int) ∈ grp l := (mem_grp (cm_lt hk hk')).2 ((over_grp l).closed _ _ hk hk' ((mem_grp hk).1 hm) ((mem_grp hk').1 hm'))
  have hge := h1 _ (cm_lt hk hk') hcm
  rw [he, ← idx_idx hi ho (okK_grp hab hk' hm')] at hge
  congr 1
  omega
end
end Go.Proofs.YtnhapgbjaeaamaaDoor
end
section
namespace Go.Proofs.YtnhapgbjaeaamaaDoor
open Go Go.RowKit
def upd (S : Nat → Bool) (k : Nat) : Nat → Bool := fun j => S j || decide (j = k)
theorem upd_same (S : Nat → Bool) (k : Nat) : upd S k k = true := by simp [upd]
theorem upd_old {S : Nat → Bool} {k j : Nat} (h : S j = true) : upd S k j = true := by simp [upd, h]
def cnt (S : Nat → Bool) : Nat := ((List.range 8).filter S).length
theorem cnt_le (S : Nat → Bool) : cnt S ≤ 8 := Nat.le_trans (List.length_filter_le _ _) (by simp)
theorem cnt_upd_aux (S : Nat → Bool) (k : Nat) (hS : S k = false) : ∀ n, ((List.range n).filter (upd S k)).length = ((List.range n).filter S).length + if k < n then 1 else 0
  | 0 => by simp
  | n + 1 => by
    rw [List.range_succ, List.filter_append, List.filter_append, List.length_append, List.length_append, cnt_upd_aux S k hS n]
    by_cases e : n = k
    · subst e; simp [upd, hS]
    · have h1 : upd S k n = S n := by simp [upd, e]
      simp only [List.filter_cons, List.filter_nil, h1]
      have h2 : (if k < n then 1 else 0) = if k < n + 1 then 1 else 0 := by by_cases h : k < n <;> simp [h] <;> omega
      rw [h2]; omega
theorem cnt_upd {S : Nat → Bool} {k : Nat} (hk : k < 8) (hS : S k = false) : cnt (upd S k) = cnt S + 1 := by
  unfold cnt; rw [cnt_upd_aux S k hS 8, if_pos hk]
structure GInvS (l : List Int) (S : Nat → Bool) : Prop where
  zero : S 0 = true
  must : ∀ k, k < 8 → S k = true → Must l k
theorem GInvS.add {l : List Int} {S : Nat → Bool} (h : GInvS l S) {k : Nat} (hm : Must l k) : GInvS l (upd S k) :=
  ⟨upd_old h.zero, fun j hj hs => by
    by_cases e : j = k
    · subst e; exact hm
    · exact h.must j hj (by simpa [upd, e] using hs)⟩
theorem GInvS.start (l : List Int) : GInvS l (fun k => decide (k = 0)) := by
  refine ⟨by simp, fun k _ hs => ?_⟩
  have : k = 0 := by simpa using hs
  subst this
  exact must_zero l
def HasS (l : List Int) (S : Nat → Bool) (i : Nat) : Prop := ∀ j m, j < i → l[j]? = some m → S (r8 m) = true
theorem HasS.start (l : List Int) (S : Nat → Bool) : HasS l S 0 := fun j m hj => absurd hj (by omega)
theorem HasS.more {l : List Int} {S : Nat → Bool} {i : Nat} (h : HasS l S i) (k : Nat) : HasS l (upd S k) i := fun j m hj hm => upd_old (h j m hj hm)
theorem HasS.step {l : List Int} {S : Nat → Bool} {i : Nat} {m : Int} (h : HasS l S i) (hm : l[i]? = some m) : HasS l (upd S (r8 m)) (i + 1) := by
  intro j m' hj hm'
  by_cases e : j = i
  · subst e; rw [hm] at hm'; cases hm'; exact upd_same _ _
  · exact upd_old (h j m' (by omega) hm')
def PairsS (S : Nat → Bool) (a b : Nat) : Prop := ∀ i j, i < 8 → j < 8 → (i < a ∨ i = a ∧ j < b) → S i = true → S j = true → S (cm i j) = true
theorem PairsS.start (S : Nat → Bool) : PairsS S 0 0 := fun i j _ _ h => by omega
theorem PairsS.next {S : Nat → Bool} {a b : Nat} (h : PairsS S a b) (hc : S a = true → S b = true → S (cm a b) = true) : PairsS S a (b + 1) := by
  intro i j hi hj hij h1 h2
  by_cases e : i = a ∧ j = b
  · obtain ⟨rfl, rfl⟩ := e; exact hc h1 h2
  · exact h i j hi hj (by omega) h1 h2
theorem PairsS.row {S : Nat → Bool} {a : Nat} (h : PairsS S a 8) : PairsS S (a + 1) 0 := fun i j hi hj hij => h i j hi hj (by omega)
theorem GInvS.group {l : List Int} {S : Nat → Bool} (h : GInvS l S) (h1 : HasS l S l.length) (h2 : PairsS S 8 0) : ∀ k : Nat, k < 8 → grpB l k = S k := by
  refine grp_of ⟨h.zero, fun m hm => ?_, fun a b ha hb h3 h4 => h2 a b ha hb (by omega) h3 h4⟩ h.must
  obtain ⟨i, hi, e⟩ := List.getElem_of_mem hm
  exact h1 i m hi (by rw [List.getElem?_eq_getElem hi, e])
/-- Where a pass over the pairs stands: nothing new so far, or something new. -/
def Stt (S0 S : Nat → Bool) (ag : Bool) (a b : Nat) : Prop := ag = false ∧ cnt S = cnt S0 ∧ PairsS S a b ∨ ag = true ∧ cnt S0 < cnt S
theorem Stt.start (S : Nat → Bool) : Stt S S false 0 0 := .inl ⟨rfl, rfl, PairsS.start S⟩
theorem Stt.next {S0 S : Nat → Bool} {ag : Bool} {a b : Nat} (h : Stt S0 S ag a b) (hc : S a = true → S b = true → S (cm a b) = true) : Stt S0 S ag a (b + 1) :=
  h.imp (fun ⟨h1, h2, h3⟩ => ⟨h1, h2, h3.next hc⟩) id
theorem Stt.row {S0 S : Nat → Bool} {ag : Bool} {a : Nat} (h : Stt S0 S ag a 8) : Stt S0 S ag (a + 1) 0 := h.imp (fun ⟨h1, h2, h3⟩ => ⟨h1, h2, h3.row⟩) id
theorem Stt.grow {S0 S : Nat → Bool} {ag : Bool} {a b a' b' k : Nat} (h : Stt S0 S ag a b) (hk : k < 8) (hS : S k = false) : Stt S0 (upd S k) true a' b' := by
  refine .inr ⟨rfl, ?_⟩
  rw [cnt_upd hk hS]
  rcases h with ⟨_, h, _⟩ | ⟨_, h⟩ <;> omega
theorem Stt.done {S0 S : Nat → Bool} {ag : Bool} (h : Stt S0 S ag 8 0) : ag = false → PairsS S 8 0 := fun e => by
  rcases h with ⟨_, _, h⟩ | ⟨h, _⟩
  · exact h
  · rw [e] at h; cases h
theorem Stt.less {S0 S : Nat → Bool} {ag : Bool} {a b : Nat} (h : Stt S0 S ag a b) : 2 * (9 - cnt S) + flagOf (.bool ag) < 2 * (9 - cnt S0) + 1 := by
  have := cnt_le S0
  have := cnt_le S
  rcases h with ⟨rfl, h, _⟩ | ⟨rfl, h⟩ <;> simp [flagOf] <;> omega
/-- Block b of the world holds the set, as eight bools. -/
structure Arr (w : World) (b : Nat) (S : Nat → Bool) : Prop where
  lt : b < w.heap.size
  cell : ∀ k, k < 8 → w.cell? ⟨b, k, none⟩ = some (.bool (S k))
  free : ∀ k, w.frozen? ⟨b, k, none⟩ = false
theorem Arr.of {w w' : World} {b : Nat} {S : Nat → Bool} (h : Arr w b S) (hb : Below w.heap.size w w') : Arr w' b S :=
  ⟨Nat.lt_of_lt_of_le h.lt hb.size, fun k hk => (hb.cell (p := ⟨b, k, none⟩) h.lt).trans (h.cell k hk), fun k => (hb.frozen (p := ⟨b, k, none⟩) h.lt).trans (h.free k)⟩
theorem Arr.set {w : World} {b : Nat} {S : Nat → Bool} (h : Arr w b S) {k : Nat} (hk : k < 8) : Arr (w.setCell ⟨b, k, none⟩ (.bool true)) b (upd S k) :=
  ⟨by rw [World.size_setCell]; exact h.lt, fun j hj => by
    rw [cell_setCell_if]
    split
    · rename_i e; rw [h.cell k hk, ← e.2, upd_same]; rfl
    · rename_i e; rw [h.cell j hj]; have e2 : j ≠ k := fun e' => e ⟨rfl, e'.symm⟩
      simp [upd, e2], fun j => by
    have := h.free j
    by_cases e : w.frozen? ⟨b, j, none⟩ = true
    · rw [this] at e; cases e
    · simpa [World.frozen?_setCell] using this⟩
def cntW (w : World) (b : Nat) : Nat := ((List.range 8).filter fun k => match w.cell? ⟨b, k, none⟩ with | some (.bool x) => x | _ => false).length
theorem Arr.cntW {w : World} {b : Nat} {S : Nat → Bool} (h : Arr w b S) : cntW w b = cnt S := by
  unfold Go.Proofs.YtnhapgbjaeaamaaDoor.cntW cnt
  congr 1
  refine List.filter_congr fun k hk => ?_
  rw [h.cell k (by simpa using hk)]
end Go.Proofs.YtnhapgbjaeaamaaDoor
end
section
namespace Go.Proofs.YtnhapgbjaeaamaaDoor
open Go Go.RowKit
set_option maxRecDepth 100000
end Go.Proofs.YtnhapgbjaeaamaaDoor
end
section
namespace Go.Proofs.YtnhapgbjaeaamaaDoor
open Go Go.RowKit
set_option maxRecDepth 100000
theorem idx8 (S : Nat → Bool) (k : Nat) (hk : k < 8) : ∀ w, (Instr.index 87 (.agg #[.bool (S 0), .bool (S 1), .bool (S 2), .bool (S 3), .bool (S 4), .bool (S 5), .bool (S 6), .bool (S 7)]) (.int .i64 (k : Int))).run Tryd.prog w = .ok (.bool (S k)) w := by
  have h : k = 0 ∨ k = 1 ∨ k = 2 ∨ k = 3 ∨ k = 4 ∨ k = 5 ∨ k = 6 ∨ k = 7 := by omega
  rcases h with rfl | rfl | rfl | rfl | rfl | rfl | rfl | rfl <;> (intro w; kernel_rfl)
theorem sym_ComposeN (a b : Nat) (ha : a < 8) (hb : b < 8) (w : World) (hM : Mx w) :
    Calls Tryd.prog 49 #[.int .i64 (a : Int), .int .i64 (b : Int)] w fun e w' => e = .returned (.int .i64 ((cm a b : Nat) : Int)) ∧ Below w.heap.size w w' := by
  rw [← comp_nat ha hb]; exact sym_Compose _ _ w hM
theorem and7_r8 (x : Int) : bits .and .i64 x 7 = ((r8 x : Nat) : Int) := by rw [i64_and7, r8_cast]
set_option maxHeartbeats 1000000 in
theorem sym_Group (A0 : Option Addr) (nl cl : Nat) (l : List Int) (w : World) (hM : Mx w) (hR : Rd encI 1 w A0 nl l) (hn : nl ≤ 4611686018427387904) :
    Calls Tryd.prog 37 #[.slice A0 nl cl] w fun e w' => ∃ A n c, e = .returned (.slice A n c) ∧ Rd encI 1 w' A n (grp l) ∧ n ≤ 8 ∧ Below w.heap.size w w' := by
  have hz := hM.1
  go_enter Tryd.func37, Tryd.ntmps37
  go_wp2
  go_loopw [16] (fun i wr => ∃ (S : Nat → Bool) (j : Nat), i = .int .i64 j ∧ j ≤ nl ∧ Arr wr w.heap.size S ∧ GInvS l S ∧ Hid (HasS l S j) ∧ Below w.heap.size w wr) (fun i _ => nl - (intOf i).toNat)
  case atStart =>
    refine ⟨fun k => decide (k = 0), 0, rfl, by omega, ⟨by simp, fun k hk => ?_, fun k => by rw [frozen_alloc_if]; simp⟩, GInvS.start l, HasS.start _ _, by (repeat' (first | exact Below.refl _ _ | assumption | (refine Below.alloc ?_ ?_ _) | (refine Below.setCell ?_ ?_ _) | (refine Below.drew ?_) | (refine below_drewN ?_ _) | (refine below_after (Ext.below _) ?_ ?_) | (refine below_after (by assumption) ?_ ?_) | (simp; done) | omega | (simp; omega)))⟩
    rw [cell_alloc_if, if_neg (by omega), if_pos rfl]
    have h : k = 0 ∨ k = 1 ∨ k = 2 ∨ k = 3 ∨ k = 4 ∨ k = 5 ∨ k = 6 ∨ k = 7 := by omega
    rcases h with rfl | rfl | rfl | rfl | rfl | rfl | rfl | rfl <;> rfl
  case round =>
    obtain ⟨S, j, rfl, hj, hA, hG, h1, hb⟩ := hrel
    have hs := hb.size
    by_cases hlt : j < nl
    · obtain ⟨x, b, o, hx, rfl, hbl, hcell⟩ := (hR.of hb).int hlt
      have h7 := and7_r8 x
      have h8 := r8_lt x
      have hca := hA.cell _ h8
      have hfr := hA.free (r8 x)
      go_wp2
      go_roundw
      case rel => exact ⟨_, j + 1, by go_num, by omega, hA.set h8, hG.add (must_base (List.mem_of_getElem? hx.out)), h1.out.step hx.out, by (repeat' (first | exact Below.refl _ _ | assumption | (refine Below.alloc ?_ ?_ _) | (refine Below.setCell ?_ ?_ _) | (refine Below.drew ?_) | (refine below_drewN ?_ _) | (refine below_after (Ext.below _) ?_ ?_) | (refine below_after (by assumption) ?_ ?_) | (simp; done) | omega | (simp; omega)))⟩
      case measure => simp [intOf]; omega
    · obtain rfl : j = nl := by omega
      have h1' : Hid (HasS l S l.length) := by rw [hR.len]; exact h1
      clear h1
      go_wp2
      go_loopw [6] (fun b wr => ∃ (S : Nat → Bool) (ag : Bool), b = .bool ag ∧ Arr wr w.heap.size S ∧ GInvS l S ∧ Hid (HasS l S l.length) ∧ Hid (ag = false → PairsS S 8 0) ∧ Below w.heap.size w wr) (fun b wr => 2 * (9 - cntW wr w.heap.size) + flagOf b)
      case atStart => exact ⟨S, true, rfl, hA, hG, h1', tf, hb⟩
      case round =>
        clear hA hG h1' hb hs
        obtain ⟨S, ag, rfl, hA, hG, h1, hsh, hb⟩ := hrel
        have hs := hb.size
        have hlt0 := hA.lt
        cases ag
        · have hgr := Lib.hid (hG.group h1.out (hsh.out rfl))
          obtain ⟨we, rfl⟩ : ∃ we : World, we = wr := ⟨_, rfl⟩
          have c0 := hA.cell 0 (by omega)
          have c1 := hA.cell 1 (by omega)
          have c2 := hA.cell 2 (by omega)
          have c3 := hA.cell 3 (by omega)
          have c4 := hA.cell 4 (by omega)
          have c5 := hA.cell 5 (by omega)
          have c6 := hA.cell 6 (by omega)
          have c7 := hA.cell 7 (by omega)
          clear hsh h1 hA
          go_wp2
          clear c0 c1 c2 c3 c4 c5 c6 c7
          go_loopw [10, 53] (fun v i wr => ∃ (A' : Option Addr) (n' c' : Nat) (k : Nat), v = .slice A' n' c' ∧ i = .int .i64 k ∧ k ≤ 8 ∧ n' ≤ k ∧ Own encI 1 3 we.heap.size wr A' n' c' (upTo S k) ∧ Below we.heap.size we wr) (fun _ i _ => 8 - (intOf i).toNat)
          case atStart => exact ⟨none, 0, 0, 0, rfl, rfl, by omega, by omega, Own.nil_, Below.refl _ _⟩
          case round =>
            obtain ⟨A', n', c', k, rfl, rfl, hk, hnk, hown, hbe⟩ := hrel
            have hs' := hbe.size
            by_cases hlt : k < 8
            · have hix := idx8 S k hlt
              by_cases hq : S k = true
              · go_wp2_with (first | (at_builtin; refine wpList_append_el rfl (.tmp 58) (.tmp 60) 26 rfl encI 1 3 (.int .i64 0) 8 Tryd.underlying26 (by kernel_rfl) rfl (by decide) encI_len encI_one (we.heap.size) _ _ _ _ rfl (hown.alloc _) ((k : Nat) : Int) ⟨(wr).heap.size, 0, none⟩ 1 rfl (cells_new (wr) _ _) (by omega) (by omega) (by first | omega | (simp; done) | (simp; omega)) ?_; intro A1 c1 w1 hown1 hg1 hb1; obtain ⟨hc1, hf1⟩ := bcell hb1; have hs1 := hb1.size; (try simp only [World.size_alloc, World.size_setCell, World.size_drew] at hc1 hf1); (try simp at hs1)))
                go_roundw
                case rel => exact ⟨A1, n' + 1, c1, k + 1, rfl, by go_num, by omega, by omega, by rw [upTo_yes hq]; exact hown1, by (repeat' (first | exact Below.refl _ _ | assumption | (refine Below.alloc ?_ ?_ _) | (refine Below.setCell ?_ ?_ _) | (refine Below.drew ?_) | (refine below_drewN ?_ _) | (refine below_after (Ext.below _) ?_ ?_) | (refine below_after (by assumption) ?_ ?_) | (simp; done) | omega | (simp; omega)))⟩
                case measure => simp [intOf]; omega
              · have hq' : S k = false := by simpa using hq
                clear hq
                go_wp2
                go_roundw
                case rel => exact ⟨A', n', c', k + 1, rfl, by go_num, by omega, by omega, by rw [upTo_no hq']; exact hown, hbe⟩
                case measure => simp [intOf]; omega
            · obtain rfl : k = 8 := by omega
              go_wp2
              go_ret
              exact ⟨A', n', c', rfl, by rw [← upTo_grp hgr.out]; exact hown.rd encI_len, by omega, by (repeat' (first | exact Below.refl _ _ | assumption | (refine Below.alloc ?_ ?_ _) | (refine Below.setCell ?_ ?_ _) | (refine Below.drew ?_) | (refine below_drewN ?_ _) | (refine below_after (Ext.below _) ?_ ?_) | (refine below_after (by assumption) ?_ ?_) | (simp; done) | omega | (simp; omega)))⟩
        · clear hsh
          obtain ⟨S0, hS0⟩ : ∃ S0 : Nat → Bool, S0 = S := ⟨_, rfl⟩
          have hc0 : Hid (cntW wr w.heap.size = cnt S0) := by rw [hS0]; exact hA.cntW
          have hle := cnt_le S0
          have hA0 : Hid (S0 = S) := hS0
          clear hS0
          go_wp2
          go_loopw [6, 25] (fun b i wr => ∃ (S : Nat → Bool) (ag : Bool) (a : Nat), b = .bool ag ∧ i = .int .i64 a ∧ a ≤ 8 ∧ Arr wr w.heap.size S ∧ GInvS l S ∧ Hid (HasS l S l.length) ∧ Below w.heap.size w wr ∧ Hid (Stt S0 S ag a 0)) (fun _ i _ => 8 - (intOf i).toNat)
          case atStart => exact ⟨S, false, 0, rfl, rfl, by omega, hA, hG, h1, hb, by rw [hA0.out]; exact Stt.start S⟩
          case round =>
            clear hA hG h1 hb hs hlt0
            obtain ⟨S1, ag, a, rfl, rfl, ha, hA, hG, h1, hb, hst⟩ := hrel
            have hs := hb.size
            have hlt0 := hA.lt
            by_cases hlt : a < 8
            · have hd : decide ((a : Int) < 8) = true := decide_eq_true (by omega)
              go_wp2
              clear hd
              go_loopw [6, 28] (fun b i wr => ∃ (S : Nat → Bool) (ag : Bool) (c : Nat), b = .bool ag ∧ i = .int .i64 c ∧ c ≤ 8 ∧ Arr wr w.heap.size S ∧ GInvS l S ∧ Hid (HasS l S l.length) ∧ Below w.heap.size w wr ∧ Hid (Stt S0 S ag a c)) (fun _ i _ => 8 - (intOf i).toNat)
              case atStart => exact ⟨S1, ag, 0, rfl, rfl, by omega, hA, hG, h1, hb, hst⟩
              case round =>
                clear hA hG h1 hb hs hlt0 hst
                obtain ⟨S2, ag, c, rfl, rfl, hc, hA, hG, h1, hb, hst⟩ := hrel
                have hs := hb.size
                have hlt0 := hA.lt
                by_cases hltc : c < 8
                · have h8 := cm_lt hlt hltc
                  have hca := hA.cell a hlt
                  have hcb := hA.cell c hltc
                  have hcc := hA.cell _ h8
                  have hfr := hA.free (cm a c)
                  cases hSa : S2 a with
                  | false =>
                    rw [hSa] at hca
                    have HS := Lib.hid hSa
                    clear hSa
                    go_wp2_with (first | (go_at_call 49; refine (sym_ComposeN a c hlt hltc _ (hM.of (by (repeat' (first | exact Below.refl _ _ | assumption | (refine Below.alloc ?_ ?_ _) | (refine Below.setCell ?_ ?_ _) | (refine Below.drew ?_) | (refine below_drewN ?_ _) | (refine below_after (Ext.below _) ?_ ?_) | (refine below_after (by assumption) ?_ ?_) | (simp; done) | omega | (simp; omega)))))).mono ?_; rintro e w1 ⟨rfl, hb1⟩; obtain ⟨hc1, hf1⟩ := bcell hb1; have hs1 := hb1.size; (try simp only [World.size_alloc, World.size_setCell, World.size_drew] at hc1 hf1); (try simp at hs1)))
                    go_roundw
                    case rel => exact ⟨S2, ag, c + 1, rfl, by go_num, by omega, hA.of hb1, hG, h1, (by (repeat' (first | exact Below.refl _ _ | assumption | (refine Below.alloc ?_ ?_ _) | (refine Below.setCell ?_ ?_ _) | (refine Below.drew ?_) | (refine below_drewN ?_ _) | (refine below_after (Ext.below _) ?_ ?_) | (refine below_after (by assumption) ?_ ?_) | (simp; done) | omega | (simp; omega)))), hst.out.next fun h => by rw [HS.out] at h; cases h⟩
                    case measure => simp [intOf]; omega
                  | true =>
                    rw [hSa] at hca
                    have HS := Lib.hid hSa
                    clear hSa
                    cases hSb : S2 c with
                    | false =>
                      rw [hSb] at hcb
                      have HT := Lib.hid hSb
                      clear hSb
                      go_wp2_with (first | (go_at_call 49; refine (sym_ComposeN a c hlt hltc _ (hM.of (by (repeat' (first | exact Below.refl _ _ | assumption | (refine Below.alloc ?_ ?_ _) | (refine Below.setCell ?_ ?_ _) | (refine Below.drew ?_) | (refine below_drewN ?_ _) | (refine below_after (Ext.below _) ?_ ?_) | (refine below_after (by assumption) ?_ ?_) | (simp; done) | omega | (simp; omega)))))).mono ?_; rintro e w1 ⟨rfl, hb1⟩; obtain ⟨hc1, hf1⟩ := bcell hb1; have hs1 := hb1.size; (try simp only [World.size_alloc, World.size_setCell, World.size_drew] at hc1 hf1); (try simp at hs1)))
                      go_roundw
                      case rel => exact ⟨S2, ag, c + 1, rfl, by go_num, by omega, hA.of hb1, hG, h1, (by (repeat' (first | exact Below.refl _ _ | assumption | (refine Below.alloc ?_ ?_ _) | (refine Below.setCell ?_ ?_ _) | (refine Below.drew ?_) | (refine below_drewN ?_ _) | (refine below_after (Ext.below _) ?_ ?_) | (refine below_after (by assumption) ?_ ?_) | (simp; done) | omega | (simp; omega)))), hst.out.next fun _ h => by rw [HT.out] at h; cases h⟩
                      case measure => simp [intOf]; omega
                    | true =>
                      rw [hSb] at hcb
                      have HT := Lib.hid hSb
                      clear hSb
                      cases hSc : S2 (cm a c) with
                      | true =>
                        rw [hSc] at hcc
                        have HU := Lib.hid hSc
                        clear hSc
                        go_wp2_with (first | (go_at_call 49; refine (sym_ComposeN a c hlt hltc _ (hM.of (by (repeat' (first | exact Below.refl _ _ | assumption | (refine Below.alloc ?_ ?_ _) | (refine Below.setCell ?_ ?_ _) | (refine Below.drew ?_) | (refine below_drewN ?_ _) | (refine below_after (Ext.below _) ?_ ?_) | (refine below_after (by assumption) ?_ ?_) | (simp; done) | omega | (simp; omega)))))).mono ?_; rintro e w1 ⟨rfl, hb1⟩; obtain ⟨hc1, hf1⟩ := bcell hb1; have hs1 := hb1.size; (try simp only [World.size_alloc, World.size_setCell, World.size_drew] at hc1 hf1); (try simp at hs1)))
                        go_roundw
                        case rel => exact ⟨S2, ag, c + 1, rfl, by go_num, by omega, hA.of hb1, hG, h1, (by (repeat' (first | exact Below.refl _ _ | assumption | (refine Below.alloc ?_ ?_ _) | (refine Below.setCell ?_ ?_ _) | (refine Below.drew ?_) | (refine below_drewN ?_ _) | (refine below_after (Ext.below _) ?_ ?_) | (refine below_after (by assumption) ?_ ?_) | (simp; done) | omega | (simp; omega)))), hst.out.next fun _ _ => HU.out⟩
                        case measure => simp [intOf]; omega
                      | false =>
                        rw [hSc] at hcc
                        have HU := Lib.hid hSc
                        clear hSc
                        go_wp2_with (first | (go_at_call 49; refine (sym_ComposeN a c hlt hltc _ (hM.of (by (repeat' (first | exact Below.refl _ _ | assumption | (refine Below.alloc ?_ ?_ _) | (refine Below.setCell ?_ ?_ _) | (refine Below.drew ?_) | (refine below_drewN ?_ _) | (refine below_after (Ext.below _) ?_ ?_) | (refine below_after (by assumption) ?_ ?_) | (simp; done) | omega | (simp; omega)))))).mono ?_; rintro e w1 ⟨rfl, hb1⟩; obtain ⟨hc1, hf1⟩ := bcell hb1; have hs1 := hb1.size; (try simp only [World.size_alloc, World.size_setCell, World.size_drew] at hc1 hf1); (try simp at hs1)))
                        go_roundw
                        case rel => exact ⟨_, true, c + 1, rfl, by go_num, by omega, (hA.of hb1).set h8, hG.add (must_comp hlt hltc (hG.must _ hlt HS.out) (hG.must _ hltc HT.out)), h1.out.more _, (by (repeat' (first | exact Below.refl _ _ | assumption | (refine Below.alloc ?_ ?_ _) | (refine Below.setCell ?_ ?_ _) | (refine Below.drew ?_) | (refine below_drewN ?_ _) | (refine below_after (Ext.below _) ?_ ?_) | (refine below_after (by assumption) ?_ ?_) | (simp; done) | omega | (simp; omega)))), hst.out.grow h8 HU.out⟩
                        case measure => simp [intOf]; omega
                · obtain rfl : c = 8 := by omega
                  go_wp2
                  go_roundw
                  case rel => exact ⟨S2, ag, a + 1, rfl, by go_num, by omega, hA, hG, h1, hb, hst.out.row⟩
                  case measure => simp [intOf]; omega
            · obtain rfl : a = 8 := by omega
              go_wp2
              go_roundw
              case rel => exact ⟨S1, ag, rfl, hA, hG, h1, hst.out.done, hb⟩
              case measure => rw [hA.cntW, hc0.out]; exact hst.out.less
end Go.Proofs.YtnhapgbjaeaamaaDoor
end
section
namespace Go.Proofs.YtnhapgbjaeaamaaDoor
open Go Go.RowKit
set_option maxRecDepth 100000
theorem anyOdd_some {l : List Int} {i : Nat} {x : Int} (hx : l[i]? = some x) (h : odd x = true) : anyOdd l = true :=
  List.any_eq_true.2 ⟨x, List.mem_of_getElem? hx, h⟩
theorem anyOdd_none {l : List Int} {n : Nat} (hl : l.length = n) (h : ∀ i x, i < n → l[i]? = some x → odd x = false) : anyOdd l = false := by
  unfold anyOdd
  rw [List.any_eq_false]
  intro x hx
  obtain ⟨i, hi, e⟩ := List.getElem_of_mem hx
  rw [h i x (by omega) (by rw [List.getElem?_eq_getElem hi, e])]
  simp
theorem odd_step {l : List Int} {j : Nat} {x : Int} (h : ∀ i y, i < j → l[i]? = some y → odd y = false) (hx : l[j]? = some x) (ho : odd x = false) : ∀ i y, i < j + 1 → l[i]? = some y → odd y = false := by
  intro i y hi hy
  by_cases e : i = j
  · rw [e, hx] at hy; cases hy; exact ho
  · exact h i y (by omega) hy
theorem odd_test (k : Int) (w : World) : Calls Tryd.prog 38 #[.int .i64 k] w fun e w' => e = .returned (.bool (odd k)) ∧ w = w' := by
  go_enter Tryd.func38, Tryd.ntmps38
  go_wp2
  go_ret
  exact ⟨ret_bool (by rw [Bool.eq_iff_iff]; simp [odd]), rfl⟩
set_option maxHeartbeats 400000 in
theorem indexFunc_odd (A : Option Addr) (n c : Nat) (l : List Int) (w : World) (hR : Rd encI 1 w A n l) (hn : n ≤ 4611686018427387904) :
    Calls Tryd.prog 43 #[.slice A n c, .func (.func 38) #[] #[]] w fun e w' => ∃ r : Int, e = .returned (.int .i64 r) ∧ Hid (anyOdd l = decide (0 ≤ r)) ∧ w = w' := by
  go_enter Tryd.func43, Tryd.ntmps43
  go_wp2
  go_loop [8] (fun i => ∃ j : Nat, j ≤ n ∧ i = .int .i64 j ∧ Hid (∀ i x, i < j → l[i]? = some x → odd x = false)) (fun i => n - (intOf i).toNat)
  case atStart => exact ⟨0, by omega, rfl, fun r x hr => absurd hr (by omega)⟩
  case round =>
    obtain ⟨j, hj, rfl, hno⟩ := hrel
    by_cases hlt : j < n
    · obtain ⟨x, b, o, hx, rfl, hb, hcell⟩ := hR.int hlt
      cases hq : odd x with
      | true =>
        go_wp2_with (first | (go_at_call 38; refine (odd_test _ _).mono ?_; rintro e w' ⟨rfl, rfl⟩))
        go_ret
        exact ⟨_, rfl, by show _ = _; rw [anyOdd_some hx.out hq]; simp, rfl⟩
      | false =>
        go_wp2_with (first | (go_at_call 38; refine (odd_test _ _).mono ?_; rintro e w' ⟨rfl, rfl⟩))
        go_round
        case rel => exact ⟨j + 1, by omega, by go_num, odd_step hno.out hx.out hq⟩
        case measure => simp [intOf]; omega
    · obtain rfl : j = n := by omega
      go_wp2
      go_ret
      exact ⟨_, rfl, by show _ = _; rw [anyOdd_none hR.len hno.out]; simp, rfl⟩
theorem containsFunc_odd (A : Option Addr) (n c : Nat) (l : List Int) (w : World) (hR : Rd encI 1 w A n l) (hn : n ≤ 4611686018427387904) :
    Calls Tryd.prog 27 #[.slice A n c, .func (.func 38) #[] #[]] w fun e w' => e = .returned (.bool (anyOdd l)) ∧ w = w' := by
  go_enter Tryd.func27, Tryd.ntmps27
  go_wp2_with (first | (go_at_call 43; refine (indexFunc_odd _ _ _ _ _ hR hn).mono ?_; rintro e w' ⟨r, rfl, hr, rfl⟩))
  go_ret
  exact ⟨ret_bool hr.out.symm, rfl⟩
end Go.Proofs.YtnhapgbjaeaamaaDoor
end
section
namespace Go.Proofs.YtnhapgbjaeaamaaDoor
open Go Go.RowKit
set_option maxRecDepth 100000
theorem sym_Orbits_no1 (A0 : Option Addr) (nl cl : Nat) (a b : Int) (w : World) (hs : ¬(1 ≤ a ∧ a ≤ 256 ∧ 1 ≤ b ∧ b ≤ 256)) :
    Calls Tryd.prog 23 #[.slice A0 nl cl, .int .i64 a, .int .i64 b] w fun e w' => e = .returned (.tuple #[.slice none 0 0, .int .i64 2]) ∧ Below w.heap.size w w' := by
  go_enter Tryd.func23, Tryd.ntmps23
  go_wp2
  all_goals first | (exfalso; omega) | (go_ret2; exact ⟨rfl, Below.refl _ _⟩)
theorem sym_Orbits_no2 (A0 : Option Addr) (nl cl : Nat) (a b : Int) (w : World) (ha : 1 ≤ a ∧ a ≤ 256) (hb : 1 ≤ b ∧ b ≤ 256) (hs : 4096 < a * b) :
    Calls Tryd.prog 23 #[.slice A0 nl cl, .int .i64 a, .int .i64 b] w fun e w' => e = .returned (.tuple #[.slice none 0 0, .int .i64 2]) ∧ Below w.heap.size w w' := by
  obtain ⟨hp1, hp2⟩ := prod_bound ha hb
  obtain ⟨ha1, ha2⟩ := ha
  obtain ⟨hb1, hb2⟩ := hb
  go_enter Tryd.func23, Tryd.ntmps23
  go_wp2
  all_goals first | (exfalso; omega) | (go_ret2; exact ⟨rfl, Below.refl _ _⟩)
set_option maxHeartbeats 400000 in
theorem sym_Orbits_no3 (A0 : Option Addr) (nl cl : Nat) (l : List Int) (a b : Int) (w : World) (hM : Mx w) (hR : Rd encI 1 w A0 nl l) (hn : nl ≤ 4611686018427387904) (ha : 1 ≤ a ∧ a ≤ 256) (hb : 1 ≤ b ∧ b ≤ 256) (hs : a * b ≤ 4096) (hab : a ≠ b) (ho : anyOdd (grp l) = true) :
    Calls Tryd.prog 23 #[.slice A0 nl cl, .int .i64 a, .int .i64 b] w fun e w' => e = .returned (.tuple #[.slice none 0 0, .int .i64 2]) ∧ Below w.heap.size w w' := by
  obtain ⟨hp1, hp2⟩ := prod_bound ha hb
  obtain ⟨ha1, ha2⟩ := ha
  obtain ⟨hb1, hb2⟩ := hb
  have hne : (a != b) = true := by simpa using hab
  clear hab
  go_enter Tryd.func23, Tryd.ntmps23
  go_wp2_with (first | (go_at_call 37; refine (sym_Group _ _ _ _ _ (hM.of (by (repeat' (first | exact Below.refl _ _ | assumption | (refine Below.alloc ?_ ?_ _) | (refine Below.setCell ?_ ?_ _) | (refine Below.drew ?_) | (refine below_drewN ?_ _) | (refine below_after (Ext.below _) ?_ ?_) | (refine below_after (by assumption) ?_ ?_) | (simp; done) | omega | (simp; omega))))) hR hn).mono ?_; rintro e w1 ⟨Ag, ng, cg, rfl, hRg, hng, hb1⟩) | (go_at_call 27; refine (containsFunc_odd _ _ _ _ _ hRg (by omega)).mono ?_; rintro e w' ⟨rfl, rfl⟩))
  all_goals first | (exfalso; omega) | (go_ret2; exact ⟨rfl, by (repeat' (first | exact Below.refl _ _ | assumption | (refine Below.alloc ?_ ?_ _) | (refine Below.setCell ?_ ?_ _) | (refine Below.drew ?_) | (refine below_drewN ?_ _) | (refine below_after (Ext.below _) ?_ ?_) | (refine below_after (by assumption) ?_ ?_) | (simp; done) | omega | (simp; omega)))⟩)
set_option maxHeartbeats 1000000 in
theorem sym_Orbits_yes (A0 : Option Addr) (nl cl : Nat) (l : List Int) (a b : Nat) (w : World) (hM : Mx w) (hR : Rd encI 1 w A0 nl l) (hn : nl ≤ 4611686018427387904) (ha : 1 ≤ a ∧ a ≤ 256) (hb : 1 ≤ b ∧ b ≤ 256) (hs : (a : Int) * b ≤ 4096)
    (hab : ((a : Int) != b) = false ∨ ((a : Int) != b) = true ∧ anyOdd (grp l) = false) :
    Calls Tryd.prog 23 #[.slice A0 nl cl, .int .i64 (a : Int), .int .i64 (b : Int)] w fun e w' => ∃ A c, e = .returned (.tuple #[.slice A (b * a) c, .int .i64 0]) ∧ Rd encI 1 w' A (b * a) (orb (wF a b) (grp l) a (b * a)) ∧ Below w.heap.size w w' := by
  obtain ⟨hp1, hp2⟩ := prod_bound (w := a) (h := b) (by omega) (by omega)
  obtain ⟨ha1, ha2⟩ := ha
  obtain ⟨hb1, hb2⟩ := hb
  have hN : ((a * b : Nat) : Int) = (a : Int) * b := by simp
  have hN4 : a * b ≤ 4096 := by omega
  have HN := Lib.hid hN
  clear hN
  have d1 : decide ((a : Int) < 1) = false := decide_eq_false (by omega)
  have d2 : decide ((256 : Int) < a) = false := decide_eq_false (by omega)
  have d3 : decide ((b : Int) < 1) = false := decide_eq_false (by omega)
  have d4 : decide ((256 : Int) < b) = false := decide_eq_false (by omega)
  have d5 : decide ((4096 : Int) < (a : Int) * b) = false := decide_eq_false (by omega)
  rcases hab with hq | ⟨hq, ho⟩
  all_goals
    go_enter Tryd.func23, Tryd.ntmps23
    go_wp2_with (first | (go_at_call 37; refine (sym_Group _ _ _ _ _ (hM.of (by (repeat' (first | exact Below.refl _ _ | assumption | (refine Below.alloc ?_ ?_ _) | (refine Below.setCell ?_ ?_ _) | (refine Below.drew ?_) | (refine below_drewN ?_ _) | (refine below_after (Ext.below _) ?_ ?_) | (refine below_after (by assumption) ?_ ?_) | (simp; done) | omega | (simp; omega))))) hR hn).mono ?_; rintro e w1 ⟨Ag, ng, cg, rfl, hRg, hng, hbg⟩; have hsg := hbg.size) | (go_at_call 27; refine (containsFunc_odd _ _ _ _ _ hRg (by omega)).mono ?_; rintro e w' ⟨rfl, rfl⟩) | (at_make; refine wpList_make_el rfl (.const (.int .i64 0)) (.tmp 51) 26 rfl encI 1 3 (.int .i64 0) 8 Tryd.underlying26 (by kernel_rfl) (w1.heap.size + 1) _ (a * b) rfl rfl (HN.out.symm) (by omega) (by omega) (by first | omega | (simp; done) | (simp; omega)) ?_; intro w3 hown3 hb3; obtain ⟨hc3, hf3⟩ := bcell hb3; have hs3 := hb3.size; (try simp only [World.size_alloc, World.size_setCell, World.size_drew] at hc3 hf3); (try simp at hs3)))
  all_goals try (exfalso; omega)
  all_goals
    clear d1 d2 d3 d4 d5 hq
    go_loopw [10, 54] (fun v i wr => ∃ (A : Option Addr) (n c y : Nat), v = .slice A n c ∧ i = .int .i64 y ∧ y ≤ b ∧ Hid (n = y * a) ∧ Own encI 1 3 (w1.heap.size + 1) wr A n c (orb (wF a b) (grp l) a (y * a)) ∧ Below (w1.heap.size + 1) (w1.alloc (.cells #[.int .i64 0, .int .i64 0, .int .i64 a, .int .i64 b] 73)) wr) (fun _ i _ => b - (intOf i).toNat)
    case atStart => exact ⟨_, 0, _, 0, rfl, rfl, by omega, (Nat.zero_mul a).symm, (by simpa [orb] using hown3), by (repeat' (first | exact Below.refl _ _ | assumption | (refine Below.alloc ?_ ?_ _) | (refine Below.setCell ?_ ?_ _) | (refine Below.drew ?_) | (refine below_drewN ?_ _) | (refine below_after (Ext.below _) ?_ ?_) | (refine below_after (by assumption) ?_ ?_) | (simp; done) | omega | (simp; omega)))⟩
    case round =>
      obtain ⟨A, n, c, y, rfl, rfl, hy, hny, hown, hbl⟩ := hrel
      obtain ⟨hcl, hfl⟩ := bcell hbl
      have hsl := hbl.size
      (try simp only [World.size_alloc] at hsl)
      by_cases hlt : y < b
      · have hd : decide ((y : Int) < b) = true := decide_eq_true (by omega)
        go_wp2
        clear hd hcl hfl
        go_loopw [10, 58] (fun v i wr => ∃ (A : Option Addr) (n c x : Nat), v = .slice A n c ∧ i = .int .i64 x ∧ x ≤ a ∧ Hid (n = y * a + x) ∧ Own encI 1 3 (w1.heap.size + 1) wr A n c (orb (wF a b) (grp l) a (y * a + x)) ∧ Below (w1.heap.size + 1) (w1.alloc (.cells #[.int .i64 0, .int .i64 0, .int .i64 a, .int .i64 b] 73)) wr) (fun _ i _ => a - (intOf i).toNat)
        case atStart => exact ⟨A, n, c, 0, rfl, rfl, by omega, hny, hown, hbl⟩
        case round =>
          clear hown hbl hsl hny
          obtain ⟨A, n, c, x, rfl, rfl, hx, hny, hown, hbl⟩ := hrel
          have hsl := hbl.size
          (try simp only [World.size_alloc] at hsl)
          by_cases hltx : x < a
          · have hd : decide ((x : Int) < a) = true := decide_eq_true (by omega)
            have hb1 : y * a + x < b * a := by
              have h1 : (y + 1) * a ≤ b * a := Nat.mul_le_mul_right a hlt
              rw [Nat.add_mul, Nat.one_mul] at h1
              omega
            have hb2 : b * a ≤ 4096 := by rw [Nat.mul_comm]; exact hN4
            have hn4 : n < 4096 := by have := hny.out; omega
            have hz1 : 0 ≤ (y : Int) * a ∧ (y : Int) * a + x ≤ 4096 := by
              have h1 : ((y * a : Nat) : Int) = (y : Int) * a := by simp
              omega
            obtain ⟨hz1, hz2⟩ := hz1
            clear hb1 hb2
            go_wp2
            clear hd
            go_loopw [13, 68] (fun m i wr => ∃ (j : Nat), i = .int .i64 j ∧ j ≤ ng ∧ m = .int .i64 (((grp l).take j).foldl (lstep (wF a b x y) a) ((y : Int) * a + x)) ∧ Own encI 1 3 (w1.heap.size + 1) wr A n c (orb (wF a b) (grp l) a (y * a + x)) ∧ Below (w1.heap.size + 1) (w1.alloc (.cells #[.int .i64 0, .int .i64 0, .int .i64 a, .int .i64 b] 73)) wr) (fun _ i _ => ng - (intOf i).toNat)
            case atStart => exact ⟨0, rfl, by omega, rfl, hown, hbl⟩
            case round =>
              clear hown hbl hsl
              obtain ⟨j, rfl, hj, rfl, hown, hbl⟩ := hrel
              have hsl := hbl.size
              (try simp only [World.size_alloc] at hsl)
              obtain ⟨hcl, hfl⟩ := bcell hbl
              by_cases hltj : j < ng
              · obtain ⟨k, bg, og, hk, rfl, hbg', hcell⟩ := hRg.int hltj
                have hfs := Lib.hid (fold_snoc (W := wF a b x y) (w := a) (m := (y : Int) * a + x) hk.out)
                generalize (((grp l).take j).foldl (lstep (wF a b x y) a) ((y : Int) * a + x)) = m0 at hfs ⊢
                go_wp2_with (first | (go_at_call 39; refine (sym_Within _ _ _ _ _ _ _ _ (hM.of (by (repeat' (first | exact Below.refl _ _ | assumption | (refine Below.alloc ?_ ?_ _) | (refine Below.setCell ?_ ?_ _) | (refine Below.drew ?_) | (refine below_drewN ?_ _) | (refine below_after (Ext.below _) ?_ ?_) | (refine below_after (by assumption) ?_ ?_) | (simp; done) | omega | (simp; omega)))))).mono ?_; rintro e w5 ⟨rfl, hb5⟩; obtain ⟨hc5, hf5⟩ := bcell hb5; have hs5 := hb5.size; (try simp only [World.size_alloc, World.size_setCell, World.size_drew] at hc5 hf5); (try simp at hs5)))
                go_roundw
                case rel => exact ⟨j + 1, by go_num, by omega, by rw [hfs.out]; rfl, (hown.of hb5).alloc _, by (repeat' (first | exact Below.refl _ _ | assumption | (refine Below.alloc ?_ ?_ _) | (refine Below.setCell ?_ ?_ _) | (refine Below.drew ?_) | (refine below_drewN ?_ _) | (refine below_after (Ext.below _) ?_ ?_) | (refine below_after (by assumption) ?_ ?_) | (simp; done) | omega | (simp; omega)))⟩
                case measure => simp [intOf]; omega
              · obtain rfl : j = ng := by omega
                have hle : ((grp l).take j).foldl (lstep (wF a b x y) a) ((y : Int) * a + x) = least (wF a b) (grp l) a x y := by rw [List.take_of_length_le (by rw [hRg.len]; omega)]; rfl
                rw [hle]
                have hsn := Lib.hid (orb_snoc (wF a b) (grp l) a x y hltx)
                generalize least (wF a b) (grp l) a x y = m0 at hsn ⊢
                clear hle
                go_wp2_with (first | (at_builtin; refine wpList_append_el rfl (.tmp 88) (.tmp 90) 26 rfl encI 1 3 (.int .i64 0) 8 Tryd.underlying26 (by kernel_rfl) rfl (by decide) encI_len encI_one (w1.heap.size + 1) _ _ _ _ rfl (hown.alloc _) m0 ⟨(wr).heap.size, 0, none⟩ 1 rfl (cells_new (wr) _ _) (by omega) (by omega) (by first | omega | (simp; done) | (simp; omega)) ?_; intro A6 c6 w6 hown6 hg6 hb6; obtain ⟨hc6, hf6⟩ := bcell hb6; have hs6 := hb6.size; (try simp only [World.size_alloc, World.size_setCell, World.size_drew] at hc6 hf6); (try simp at hs6)))
                go_roundw
                case rel => exact ⟨A6, n + 1, c6, x + 1, rfl, by go_num, by omega, (by rw [hny.out]; rfl), by rw [← Nat.add_assoc, hsn.out]; exact hown6, by (repeat' (first | exact Below.refl _ _ | assumption | (refine Below.alloc ?_ ?_ _) | (refine Below.setCell ?_ ?_ _) | (refine Below.drew ?_) | (refine below_drewN ?_ _) | (refine below_after (Ext.below _) ?_ ?_) | (refine below_after (by assumption) ?_ ?_) | (simp; done) | omega | (simp; omega)))⟩
                case measure => simp [intOf]; omega
          · obtain rfl : x = a := by omega
            go_wp2
            go_roundw
            case rel => exact ⟨A, n, c, y + 1, rfl, by go_num, by omega, (by rw [Nat.add_mul, Nat.one_mul]; exact hny), by rw [Nat.add_mul, Nat.one_mul]; exact hown, hbl⟩
            case measure => simp [intOf]; omega
      · obtain rfl : y = b := by omega
        have hr := hown.rd encI_len
        go_wp2
        go_ret2
        refine ⟨A, c, ?_, ?_, by (repeat' (first | exact Below.refl _ _ | assumption | (refine Below.alloc ?_ ?_ _) | (refine Below.setCell ?_ ?_ _) | (refine Below.drew ?_) | (refine below_drewN ?_ _) | (refine below_after (Ext.below _) ?_ ?_) | (refine below_after (by assumption) ?_ ?_) | (simp; done) | omega | (simp; omega)))⟩
        · rw [hny.out]; rfl
        · rw [hny.out] at hr; exact hr
end Go.Proofs.YtnhapgbjaeaamaaDoor
end
section
namespace Go.Proofs.YtnhapgbjaeaamaaDoor
open Go Go.RowKit
set_option maxRecDepth 100000
theorem r8_hid (x : Int) : Hid (x % 8 = ((r8 x : Nat) : Int)) := (r8_cast x).symm
end Go.Proofs.YtnhapgbjaeaamaaDoor
end
section
namespace Go.Proofs.YtnhapgbjaeaamaaDoor
open Go Go.RowKit
set_option maxRecDepth 100000
theorem keeps_all {l : List Int} {a b : Int} {i : Nat} {k : Int} (hk : (grp l)[i]? = some k) (hab : a = b ∨ anyOdd (grp l) = false) : keeps k a b = true := by
  have hm := List.mem_of_getElem? hk
  rw [keeps_grp hm]
  rcases hab with h | h
  · simp [h]
  · unfold anyOdd at h
    rw [List.any_eq_false] at h
    have := h k hm
    simp [this]
theorem keeps_some {l : List Int} {a b : Int} (hab : a ≠ b) (ho : anyOdd (grp l) = true) (h : ∀ (i : Nat) (k : Int), (grp l)[i]? = some k → keeps k a b = true) : False := by
  unfold anyOdd at ho
  obtain ⟨k, hk, hodd⟩ := List.any_eq_true.1 ho
  obtain ⟨i, hi, e⟩ := List.getElem_of_mem hk
  have := h i k (by rw [List.getElem?_eq_getElem hi, e])
  rw [keeps_grp hk] at this
  simp [hodd, hab] at this
def Kept (l : List Int) (a b : Int) (j : Nat) : Prop := ∀ (i : Nat) (k : Int), i < j → (grp l)[i]? = some k → keeps k a b = true
theorem Kept.step {l : List Int} {a b : Int} {j : Nat} {k : Int} (h : Kept l a b j) (hk : (grp l)[j]? = some k) (hq : keeps k a b = true) : Kept l a b (j + 1) := by
  intro i k' hi hk'
  by_cases e : i = j
  · rw [e, hk] at hk'; cases hk'; exact hq
  · exact h i k' (by omega) hk'
end Go.Proofs.YtnhapgbjaeaamaaDoor
end
section
namespace Go.Proofs.YtnhapgbjaeaamaaDoor
open Go Go.RowKit
theorem over_dec {l : List Int} {S : Nat → Bool} (h0 : S 0 = true) (h1 : ∀ m, m ∈ l → S (r8 m) = true) (h2 : ∀ a : Nat, a < 8 → ∀ b : Nat, b < 8 → (S a && S b) = true → S (cm a b) = true) : Over l S :=
  ⟨h0, h1, fun a b ha hb h3 h4 => h2 a ha b hb (by simp [h3, h4])⟩
theorem filter_congr8 {p q : Nat → Bool} (h : ∀ k, k < 8 → p k = q k) : (List.range 8).filter p = (List.range 8).filter q :=
  List.filter_congr fun x hx => h x (by simpa using hx)
theorem grp_eq {l : List Int} {S : Nat → Bool} (h : ∀ k, k < 8 → grpB l k = S k) : grp l = ((List.range 8).filter S).map fun k => ((k : Nat) : Int) := by
  unfold grp; rw [filter_congr8 h]
theorem grp_2 : grp [2] = [0, 2] := by
  have h : ∀ k, k < 8 → grpB [2] k = (k == 0 || k == 2) := by
    refine grp_of (over_dec rfl (by decide) (by decide +kernel)) ?_
    intro k hk hs
    have hc : k = 0 ∨ k = 2 := by simpa using hs
    rcases hc with rfl | rfl
    · exact must_zero _
    · exact must_base (m := 2) (by simp)
  rw [grp_eq h]; rfl
theorem must_1 {l : List Int} (h : (1 : Int) ∈ l) : ∀ k, k < 4 → Must l k := by
  have m1 : Must l 1 := must_base h
  have m2 : Must l 2 := (show cm 1 1 = 2 by decide +kernel) ▸ must_comp (a := 1) (b := 1) (by omega) (by omega) m1 m1
  have m3 : Must l 3 := (show cm 1 2 = 3 by decide +kernel) ▸ must_comp (a := 1) (b := 2) (by omega) (by omega) m1 m2
  intro k hk
  have hc : k = 0 ∨ k = 1 ∨ k = 2 ∨ k = 3 := by omega
  rcases hc with rfl | rfl | rfl | rfl
  · exact must_zero _
  · exact m1
  · exact m2
  · exact m3
theorem grp_1_odd : anyOdd (grp [1]) = true := by
  have hm : grpB [1] 1 = true := grpB_iff.2 (must_1 (by simp) 1 (by omega))
  unfold anyOdd grp
  rw [List.any_map, List.any_filter, List.any_eq_true]
  exact ⟨1, by decide, by rw [hm]; decide⟩
theorem grp_14_len : (grp [1, 4]).length = 8 := by
  have m := must_1 (l := [1, 4]) (by simp)
  have m4 : Must [1, 4] 4 := must_base (m := 4) (by simp)
  have h : ∀ k, k < 8 → grpB [1, 4] k = true := by
    intro k hk
    rw [grpB_iff]
    have key : ∀ k : Nat, k < 8 → k < 4 ∨ ∃ j : Nat, j < 4 ∧ cm 4 j = k := by decide +kernel
    rcases key k hk with h | ⟨j, hj, rfl⟩
    · exact m k h
    · exact must_comp (by omega) (by omega) m4 (m j hj)
  rw [grp_eq (S := fun _ => true) h]; rfl
theorem even_2 : anyOdd (grp [2]) = false := by rw [grp_2]; rfl
theorem orb_2 : orb (wF 3 1) (grp [2]) 3 3 = [0, 1, 0] := by rw [grp_2]; decide +kernel
theorem ex_app1 : app 1 1 0 = (0, 1) := by decide +kernel
theorem ex_app5 : app 5 1 0 = (0, -1) := by decide +kernel
theorem ex_comp1 : comp 1 4 = 7 := by decide +kernel
theorem ex_comp2 : comp 4 1 = 5 := by decide +kernel
theorem ex_inv : inv 1 = 3 := by decide +kernel
theorem ex_turn : turnF (app 1) 0 0 3 2 = (-1, 0, 2, 3) := by decide +kernel
theorem ex_within : withinF (app 1) 0 0 3 2 2 1 = (0, 2) := by decide +kernel
theorem ex_right : rightB 0 0 3 2 = true := by decide +kernel
end Go.Proofs.YtnhapgbjaeaamaaDoor
end
