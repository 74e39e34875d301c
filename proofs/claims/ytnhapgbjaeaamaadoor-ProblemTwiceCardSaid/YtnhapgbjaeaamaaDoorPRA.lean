/- Plain: search problems. No program in sight. The contracts of problem.fits, problem.first and the reference's Box. The contracts of problem.first and the reference's Box. The contract of the reference's Box. The contracts of problem.Check, problem.begin and the reference's Check. The contracts of problem.area, problem.states; Within in a box, both ways. The contract of problem.symmetric, and of slices.ContainsFunc at problem.solves' test. The contract of slices.ContainsFunc at problem.solves' test. -/
import Derived.Test.YtnhapgbjaeaamaaDoorGRP
import Derived.Test.YtnhapgbjaeaamaaDoorDirG
import Derived.Test.YtnhapgbjaeaamaaDoorDirV
import Derived.Test.YtnhapgbjaeaamaaDoorFLD
import Derived.Test.YtnhapgbjaeaamaaDoorDIR
import Derived.Test.YtnhapgbjaeaamaaDoorTRE
import Derived.Test.YtnhapgbjaeaamaaDoorSYM
import Derived.Test.YtnhapgbjaeaamaaDoorMEM
set_option linter.unusedSimpArgs false
set_option linter.unusedVariables false
section
namespace Go.Proofs.YtnhapgbjaeaamaaDoor
open Go Go.RowKit
/-- Does a symmetry map a box to itself? -/
def okS (W H s : Int) : Bool := decide (0 ≤ s ∧ s ≤ 7 ∧ (s % 2 = 1 → W = H))
def symAt (W H : Int) (S : List Int) (i : Nat) : Bool := match S[i]? with
  | none => true
  | some s => okS W H s && decide (s ∉ S.take i)
def symsB (W H : Int) (S : List Int) : Bool := (List.range S.length).all (symAt W H S)
theorem syms_bad {W H : Int} {S : List Int} {i : Nat} (h : symAt W H S i = false) : symsB W H S = false := by
  unfold symsB
  rw [List.all_eq_false]
  refine ⟨i, ?_, by rw [h]; simp⟩
  rw [List.mem_range]
  rcases Nat.lt_or_ge i S.length with g | g
  · exact g
  · unfold symAt at h; rw [List.getElem?_eq_none g] at h; cases h
theorem syms_good {W H : Int} {S : List Int} (h : ∀ i, i < S.length → symAt W H S i = true) : symsB W H S = true := by
  unfold symsB; rw [List.all_eq_true]; exact fun i hi => h i (List.mem_range.1 hi)
theorem syms_ok {W H : Int} {S : List Int} (h : symsB W H S = true) {s : Int} (hs : s ∈ S) : 0 ≤ s ∧ s ≤ 7 ∧ (s % 2 = 1 → W = H) := by
  obtain ⟨i, hi⟩ := List.getElem?_of_mem hs
  unfold symsB at h
  have hl : i < S.length := (List.getElem?_eq_some_iff.1 hi).1
  have := (List.all_eq_true.1 h) i (List.mem_range.2 hl)
  unfold symAt at this
  rw [hi] at this
  simp only [Bool.and_eq_true] at this
  exact of_decide_eq_true this.1
theorem symAt_yes {W H : Int} {S : List Int} {i : Nat} {s : Int} (hs : S[i]? = some s) (h : 0 ≤ s ∧ s ≤ 7 ∧ (s % 2 = 1 → W = H)) (hn : s ∉ S.take i) : symAt W H S i = true := by
  unfold symAt okS; rw [hs]; simp only [Bool.and_eq_true, decide_eq_true_eq]; exact ⟨h, hn⟩
theorem symAt_no {W H : Int} {S : List Int} {i : Nat} {s : Int} (hs : S[i]? = some s) (h : ¬(0 ≤ s ∧ s ≤ 7 ∧ (s % 2 = 1 → W = H)) ∨ s ∈ S.take i) : symAt W H S i = false := by
  unfold symAt okS; rw [hs]; simp only [Bool.and_eq_false_iff, decide_eq_false_iff_not]
  rcases h with h | h
  · exact .inl h
  · exact .inr (fun g => g h)
/-- The first error of a problem. -/
def boxE (W H G DX DY : Int) (S : List Int) : Int :=
  if W < 1 ∨ H < 1 then 2 else if 16 < W ∨ 16 < H ∨ 16 < W * H then 6
  else if G < 1 ∨ 6 < G ∨ DX < -24 ∨ 24 < DX ∨ DY < -24 ∨ 24 < DY then 2 else if symsB W H S = true then 0 else 2
structure PrbOk (W H G DX DY : Int) (S : List Int) : Prop where
  w : 1 ≤ W ∧ W ≤ 16
  h : 1 ≤ H ∧ H ≤ 16
  a : 1 ≤ W * H ∧ W * H ≤ 16
  g : 1 ≤ G ∧ G ≤ 6
  dx : -24 ≤ DX ∧ DX ≤ 24
  dy : -24 ≤ DY ∧ DY ≤ 24
  s : symsB W H S = true
theorem box_iff {W H G DX DY : Int} {S : List Int} : boxE W H G DX DY S = 0 ↔ PrbOk W H G DX DY S := by
  unfold boxE
  constructor
  · intro h
    by_cases h1 : W < 1 ∨ H < 1
    · rw [if_pos h1] at h; omega
    rw [if_neg h1] at h
    by_cases h2 : 16 < W ∨ 16 < H ∨ 16 < W * H
    · rw [if_pos h2] at h; omega
    rw [if_neg h2] at h
    by_cases h3 : G < 1 ∨ 6 < G ∨ DX < -24 ∨ 24 < DX ∨ DY < -24 ∨ 24 < DY
    · rw [if_pos h3] at h; omega
    rw [if_neg h3] at h
    by_cases h4 : symsB W H S = true
    · have h5 : 1 * 1 ≤ W * H := Int.mul_le_mul (by omega) (by omega) (by omega) (by omega)
      exact ⟨by omega, by omega, by omega, by omega, by omega, by omega, h4⟩
    · rw [if_neg h4] at h; omega
  · rintro ⟨h1, h2, h3, h4, h5, h6, h7⟩
    rw [if_neg (by omega), if_neg (by omega), if_neg (by omega), if_pos h7]
theorem box_range {W H G DX DY : Int} {S : List Int} : 0 ≤ boxE W H G DX DY S ∧ boxE W H G DX DY S ≤ 6 := by
  unfold boxE; (repeat' split) <;> omega
/-- The error of a rule and a problem. -/
def chkE (st : Int) (Hd : List (Int × Int)) (N : List (Int × List Int)) (W H G DX DY : Int) (S : List Int) : Int := if trQ st Hd N = true then boxE W H G DX DY S else 11
/-- ..., and a pattern. -/
def begE (st : Int) (Hd : List (Int × Int)) (N : List (Int × List Int)) (W H G DX DY : Int) (S : List Int) (p : List (Int × Int × Int)) : Int :=
  if chkE st Hd N W H G DX DY S = 0 then fitE st Hd N p else chkE st Hd N W H G DX DY S
theorem chk_zero {st : Int} {Hd : List (Int × Int)} {N : List (Int × List Int)} {W H G DX DY : Int} {S : List Int} (h : chkE st Hd N W H G DX DY S = 0) : trQ st Hd N = true ∧ PrbOk W H G DX DY S := by
  unfold chkE at h
  by_cases h1 : trQ st Hd N = true
  · rw [if_pos h1] at h; exact ⟨h1, box_iff.1 h⟩
  · rw [if_neg h1] at h; omega
theorem beg_zero {st : Int} {Hd : List (Int × Int)} {N : List (Int × List Int)} {W H G DX DY : Int} {S : List Int} {p : List (Int × Int × Int)} (h : begE st Hd N W H G DX DY S p = 0) : PrbOk W H G DX DY S ∧ FitsR st Hd N p := by
  unfold begE at h
  by_cases h1 : chkE st Hd N W H G DX DY S = 0
  · rw [if_pos h1] at h; exact ⟨(chk_zero h1).2, fit_iff.1 h⟩
  · rw [if_neg h1] at h; exact absurd h h1
/-- Do all cells lie in the box? -/
def inPC (W H : Int) (c : Int × Int × Int) : Bool := decide (0 ≤ c.1 ∧ c.1 < W ∧ 0 ≤ c.2.1 ∧ c.2.1 < H)
def inPB (W H : Int) (p : List (Int × Int × Int)) : Bool := p.all (inPC W H)
theorem inPB_no {W H : Int} {p : List (Int × Int × Int)} {j : Nat} {c : Int × Int × Int} (hc : p[j]? = some c) (h : ¬(0 ≤ c.1 ∧ c.1 < W ∧ 0 ≤ c.2.1 ∧ c.2.1 < H)) : inPB W H p = false := by
  unfold inPB; rw [List.all_eq_false]; exact ⟨c, List.mem_of_getElem? hc, by unfold inPC; simpa using h⟩
theorem inPB_yes {W H : Int} {p : List (Int × Int × Int)} (h : ∀ (j : Nat) c, p[j]? = some c → 0 ≤ c.1 ∧ c.1 < W ∧ 0 ≤ c.2.1 ∧ c.2.1 < H) : inPB W H p = true := by
  unfold inPB; rw [List.all_eq_true]; intro c hc; obtain ⟨j, hj⟩ := List.getElem?_of_mem hc; exact decide_eq_true (h j c hj)
theorem inPB_at {W H : Int} {p : List (Int × Int × Int)} (h : inPB W H p = true) {c : Int × Int × Int} (hc : c ∈ p) : 0 ≤ c.1 ∧ c.1 < W ∧ 0 ≤ c.2.1 ∧ c.2.1 < H :=
  of_decide_eq_true ((List.all_eq_true.1 h) c hc)
/-- Does a symmetry map the states of a box to themselves? -/
def symG (a b k : Nat) (g : List Int) : Bool := (List.range (b * a)).all fun i => decide (g.getD (idx a b k i) 0 = g.getD i 0)
theorem symG_no {a b k i : Nat} {g : List Int} (hi : i < b * a) (h : g.getD (idx a b k i) 0 ≠ g.getD i 0) : symG a b k g = false := by
  unfold symG; rw [List.all_eq_false]; exact ⟨i, List.mem_range.2 hi, by simpa using h⟩
theorem symG_yes {a b k : Nat} {g : List Int} (h : ∀ i, i < b * a → g.getD (idx a b k i) 0 = g.getD i 0) : symG a b k g = true := by
  unfold symG; rw [List.all_eq_true]; exact fun i hi => decide_eq_true (h i (List.mem_range.1 hi))
theorem symG_at {a b k i : Nat} {g : List Int} (h : symG a b k g = true) (hi : i < b * a) : g.getD (idx a b k i) 0 = g.getD i 0 :=
  of_decide_eq_true ((List.all_eq_true.1 h) i (List.mem_range.2 hi))
/-- What slices.ContainsFunc is asked: does some symmetry not do so? -/
def symX (a b : Nat) (g : List Int) (k : Int) : Bool := !symG a b k.toNat g
theorem okK_of {a b : Nat} {s : Int} (h : 0 ≤ s ∧ s ≤ 7 ∧ (s % 2 = 1 → (a : Int) = b)) : okK a b s.toNat := ⟨by omega, by omega⟩
theorem grid_get {p : List (Int × Int × Int)} {a b x y : Nat} (hx : x < a) (hy : y < b) : (gridL p 0 0 a b).getD (y * a + x) 0 = getC p x y := by
  rw [List.getD_eq_getElem?_getD, grid_at hx hy, Int.zero_add, Int.zero_add]; rfl
/-- Symmetric states, place by place. -/
theorem symG_iff {p : List (Int × Int × Int)} {a b k : Nat} (hk : okK a b k) : symG a b k (gridL p 0 0 a b) = true ↔ ∀ x y : Nat, x < a → y < b → getC p ((plc a b k x y).1 : Nat) ((plc a b k x y).2 : Nat) = getC p x y := by
  constructor
  · intro h x y hx hy
    have h1 := symG_at h (grid_lt hx hy)
    obtain ⟨e1, e2⟩ := idx_parts (q := y) hx
    obtain ⟨g1, g2⟩ := plc_lt hx hy hk
    unfold idx at h1
    rw [e1, e2, grid_get g1 g2, grid_get hx hy] at h1
    exact h1
  · intro h
    refine symG_yes fun i hi => ?_
    obtain ⟨ha, hx, hy⟩ := split_lt hi
    obtain ⟨g1, g2⟩ := plc_lt hx hy hk
    have e : i = i / a * a + i % a := by rw [Nat.mul_comm]; exact (Nat.div_add_mod i a).symm
    have h1 := h _ _ hx hy
    unfold idx
    rw [grid_get g1 g2, h1, ← grid_get (p := p) hx hy, ← e]
/-- A cell's picture. -/
def pic (a b k : Nat) (c : Int × Int × Int) : Int × Int × Int := (((plc a b k c.1.toNat c.2.1.toNat).1 : Nat), ((plc a b k c.1.toNat c.2.1.toNat).2 : Nat), c.2.2)
theorem iv_left : ∀ a : Nat, a < 8 → cm (iv a) a = 0 ∧ iv a < 8 ∧ (a % 2 = 0 → iv a % 2 = 0) := by decide +kernel
theorem okK_iv {a b k : Nat} (h : okK a b k) : okK a b (iv k) := by
  obtain ⟨h1, h2, h3⟩ := iv_left k h.1
  exact ⟨h2, h.2.imp id h3⟩
theorem plc_inj {a b k x y x' y' : Nat} (hk : okK a b k) (hx : x < a) (hy : y < b) (hx' : x' < a) (hy' : y' < b) (h : plc a b k x y = plc a b k x' y') : x = x' ∧ y = y' := by
  have hi := okK_iv hk
  have h1 := plc_comp hx hy hk hi
  have h2 := plc_comp hx' hy' hk hi
  have h0 : cm k (iv k) = 0 := (inv_table k hk.1).2.2.2
  rw [h0] at h1 h2
  rw [h, h2] at h1
  have e : ((x', y') : Nat × Nat) = (x, y) := h1
  injection e with e1 e2
  exact ⟨e1.symm, e2.symm⟩
theorem plc_onto {a b k x y : Nat} (hk : okK a b k) (hx : x < a) (hy : y < b) : ∃ x' y', x' < a ∧ y' < b ∧ plc a b k x' y' = (x, y) := by
  have hi := okK_iv hk
  obtain ⟨g1, g2⟩ := plc_lt hx hy hi
  refine ⟨_, _, g1, g2, ?_⟩
  rw [plc_comp hx hy hi hk, (iv_left k hk.1).1]
  rfl
section
variable {p : List (Int × Int × Int)} {a b k : Nat}
theorem in_nat (hi : inPB a b p = true) {c : Int × Int × Int} (hc : c ∈ p) : c.1.toNat < a ∧ c.2.1.toNat < b ∧ ((c.1.toNat : Nat) : Int) = c.1 ∧ ((c.2.1.toNat : Nat) : Int) = c.2.1 := by
  have := inPB_at hi hc; omega
theorem pic_nodup (hS : SSC p) (hi : inPB a b p = true) (hk : okK a b k) : ((p.map (pic a b k)).map posD).Nodup := by
  have hn := (ssc_iff.1 hS).2
  rw [List.map_map]
  unfold List.Nodup at hn ⊢
  rw [List.pairwise_map] at hn ⊢
  refine List.Pairwise.imp_of_mem (fun {c d} hc hd hne he => hne ?_) hn
  obtain ⟨c1, c2, c3, c4⟩ := in_nat hi hc
  obtain ⟨d1, d2, d3, d4⟩ := in_nat hi hd
  have e : plc a b k c.1.toNat c.2.1.toNat = plc a b k d.1.toNat d.2.1.toNat := by
    simp only [Function.comp_apply, pic, posD, Prod.mk.injEq] at he
    exact Prod.ext (by omega) (by omega)
  obtain ⟨h1, h2⟩ := plc_inj hk c1 c2 d1 d2 e
  unfold posD
  rw [← c3, ← c4, ← d3, ← d4, h1, h2]
/-- The picture of a pattern is the pattern exactly if its states are symmetric. -/
theorem img_same (hr : rightC p = true) (hi : inPB a b p = true) (hk : okK a b k) (ha : a ≤ 16) (hb : b ≤ 16) : sameL (frL (p.map (pic a b k))) p = symG a b k (gridL p 0 0 a b) := by
  have hS := rightC_sorted hr
  have hn := pic_nodup hS hi hk
  have hok : okCells (p.map (pic a b k)) := by
    intro c hc
    obtain ⟨d, hd, rfl⟩ := List.mem_map.1 hc
    obtain ⟨d1, d2, _, _⟩ := in_nat hi hd
    obtain ⟨g1, g2⟩ := plc_lt d1 d2 hk
    have h2 := cell_right hr (x := d.1) (y := d.2.1) (s := d.2.2) hd
    exact ⟨by unfold Pt pic; simp only; omega, h2.2⟩
  have hfr := (fr_cells hok hn).2
  rw [if_neg (by rw [List.length_map]; have := (rightC_ok hr).1; omega)] at hfr
  rw [hfr]
  have hSS : SSC (srtC (p.map (pic a b k))) := srt_of hn
  have hm : ∀ z, z ∈ srtC (p.map (pic a b k)) ↔ z ∈ p.map (pic a b k) := fun z => (srtC_perm _).mem_iff
  have key : (srtC (p.map (pic a b k)) = p) ↔ ∀ x y : Nat, x < a → y < b → getC p ((plc a b k x y).1 : Nat) ((plc a b k x y).2 : Nat) = getC p x y := by
    constructor
    · intro he x y hx hy
      rcases getC_or hS (x : Int) (y : Int) with h0 | ⟨s, hs, h1⟩
      · rw [h0]
        rcases getC_or hS ((plc a b k x y).1 : Nat) ((plc a b k x y).2 : Nat) with h2 | ⟨s, hs, h2⟩
        · exact h2
        · exfalso
          have h3 := (hm _).1 (he.symm ▸ hs)
          obtain ⟨d, hd, e⟩ := List.mem_map.1 h3
          obtain ⟨d1, d2, d3, d4⟩ := in_nat hi hd
          simp only [pic, Prod.mk.injEq] at e
          obtain ⟨e1, e2⟩ := plc_inj hk d1 d2 hx hy (Prod.ext (by omega) (by omega))
          have h4 := getC_mem hS (x := d.1) (y := d.2.1) (s := d.2.2) hd
          rw [← d3, ← d4, e1, e2, h0] at h4
          have := (cell_right hr (x := d.1) (y := d.2.1) (s := d.2.2) hd).2
          omega
      · rw [h1]
        refine getC_mem hS ?_
        have h3 : pic a b k ((x : Int), (y : Int), s) ∈ p := by rw [← he]; exact (hm _).2 (List.mem_map.2 ⟨_, hs, rfl⟩)
        exact h3
    · intro h
      refine ssc_unique _ _ hSS hS fun z => ?_
      rw [hm]
      constructor
      · intro hz
        obtain ⟨d, hd, rfl⟩ := List.mem_map.1 hz
        obtain ⟨d1, d2, d3, d4⟩ := in_nat hi hd
        have h1 := h _ _ d1 d2
        rw [d3, d4, getC_mem hS (x := d.1) (y := d.2.1) (s := d.2.2) hd] at h1
        have h5 := (cell_right hr (x := d.1) (y := d.2.1) (s := d.2.2) hd).2
        rcases getC_or hS ((plc a b k d.1.toNat d.2.1.toNat).1 : Nat) ((plc a b k d.1.toNat d.2.1.toNat).2 : Nat) with h2 | ⟨s, hs, h2⟩
        · omega
        · rw [h2] at h1; subst h1; exact hs
      · intro hz
        obtain ⟨z1, z2, z3, z4⟩ := in_nat hi hz
        obtain ⟨x, y, hx, hy, e⟩ := plc_onto hk z1 z2
        have h1 := h _ _ hx hy
        rw [e] at h1
        simp only [z3, z4] at h1
        rw [getC_mem hS (x := z.1) (y := z.2.1) (s := z.2.2) hz] at h1
        have h5 := (cell_right hr (x := z.1) (y := z.2.1) (s := z.2.2) hz).2
        rcases getC_or hS (x : Int) (y : Int) with h2 | ⟨s, hs, h2⟩
        · omega
        · rw [h2] at h1; subst h1
          refine List.mem_map.2 ⟨_, hs, ?_⟩
          unfold pic
          simp only [Int.toNat_natCast, e, z3, z4]
  unfold sameL
  rw [Bool.eq_iff_iff, decide_eq_true_eq, key, symG_iff hk]
end
end Go.Proofs.YtnhapgbjaeaamaaDoor
end
section
namespace Go.Proofs.YtnhapgbjaeaamaaDoor
open Go Go.RowKit
set_option maxRecDepth 100000
set_option linter.unusedSimpArgs false
set_option linter.unusedVariables false
theorem SvAt.set {w : World} {b b2 o : Nat} {v : Value} {cs : Array Value} (h : SvAt w b cs) (hb : b2 ≠ b) : SvAt (w.setCell ⟨b2, o, none⟩ v) b cs :=
  ⟨by rw [World.size_setCell]; exact h.1, fun i => by rw [cell_setCell_if, if_neg (by omega)]; exact h.2 i⟩
/-- A problem, boxed. -/
def PbAt (w : World) (b : Nat) (W H G DX DY : Int) (v : Value) : Prop := SvAt w b #[.int .i64 W, .int .i64 H, .int .i64 G, .int .i64 DX, .int .i64 DY, v]
section
variable {w w' : World} {b : Nat} {W H G DX DY : Int} {v : Value}
theorem PbAt.of (h : PbAt w b W H G DX DY v) (hb : Below w.heap.size w w') : PbAt w' b W H G DX DY v := SvAt.of h hb
theorem PbAt.set {b2 o : Nat} {u : Value} (h : PbAt w b W H G DX DY v) (hb : b2 ≠ b) : PbAt (w.setCell ⟨b2, o, none⟩ u) b W H G DX DY v := SvAt.set h hb
theorem PbAt.open (h : PbAt w b W H G DX DY v) : b < w.heap.size ∧ w.cell? ⟨b, 0, none⟩ = some (.int .i64 W) ∧ w.cell? ⟨b, 1, none⟩ = some (.int .i64 H) ∧ w.cell? ⟨b, 2, none⟩ = some (.int .i64 G) ∧ w.cell? ⟨b, 3, none⟩ = some (.int .i64 DX) ∧ w.cell? ⟨b, 4, none⟩ = some (.int .i64 DY) ∧ w.cell? ⟨b, 5, none⟩ = some v :=
  ⟨h.1, h.2 0, h.2 1, h.2 2, h.2 3, h.2 4, h.2 5⟩
theorem PbAt.new (w : World) (W H G DX DY : Int) (v : Value) (t : TypeId) : PbAt (w.alloc (.cells #[.int .i64 W, .int .i64 H, .int .i64 G, .int .i64 DX, .int .i64 DY, v] t)) w.heap.size W H G DX DY v := SvAt.new w _ t
end
/-- The set of the symmetries seen so far. -/
def SeenT (T : Nat → Bool) (S : List Int) (j : Nat) : Prop := ∀ k, k < 8 → (T k = true ↔ ((k : Nat) : Int) ∈ S.take j)
theorem SeenT.step {T : Nat → Bool} {S : List Int} {j k : Nat} (h : SeenT T S j) (hs : S[j]? = some ((k : Nat) : Int)) : SeenT (upd T k) S (j + 1) := by
  intro i hi
  rw [List.take_add_one, hs]
  unfold upd
  simp only [Bool.or_eq_true, decide_eq_true_eq, List.mem_append, Option.mem_toList, Option.some.injEq, h i hi]
  constructor
  · rintro (h | rfl)
    · exact .inl h
    · exact .inr rfl
  · rintro (h | h)
    · exact .inl h
    · exact .inr (by omega)
theorem all_step {W H : Int} {S : List Int} {j : Nat} (h : ∀ i, i < j → symAt W H S i = true) (hj : symAt W H S j = true) : ∀ i, i < j + 1 → symAt W H S i = true := by
  intro i hi
  by_cases e : i = j
  · rw [e]; exact hj
  · exact h i (by omega)
set_option maxHeartbeats 4000000 in
theorem prb_fits (W H G DX DY : Int) (S : List Int) (A : Option Addr) (n c : Nat) (w : World) (hR : Rd encI 1 w A n S) (hn : n ≤ 1000000) :
    Calls Tryd.prog 36 #[.agg #[.int .i64 W, .int .i64 H, .int .i64 G, .int .i64 DX, .int .i64 DY, .slice A n c]] w fun e w' => e = .returned (.bool (symsB W H S)) ∧ Below w.heap.size w w' := by
  have hSl := Lib.hid hR.len
  go_enter Tryd.func36, Tryd.ntmps36
  go_wp2_with fail
  go_loopw [9] (fun i wr => ∃ (T : Nat → Bool) (j : Nat), i = .int .i64 j ∧ j ≤ n ∧ Arr wr (w.heap.size + 1) T ∧ PbAt wr w.heap.size W H G DX DY (.slice A n c) ∧ Hid (SeenT T S j) ∧ Hid (∀ i, i < j → symAt W H S i = true) ∧ Below w.heap.size w wr) (fun i _ => n - (intOf i).toNat)
  case atStart =>
    refine ⟨fun _ => false, 0, rfl, by omega, ⟨by simp, fun k hk => ?_, fun k => ?_⟩, (PbAt.new w W H G DX DY (.slice A n c) _).of (by (repeat' (first | exact Below.refl _ _ | assumption | (refine Below.alloc ?_ ?_ _) | (refine Below.setCell ?_ ?_ _) | (refine Below.drew ?_) | (refine below_drewN ?_ _) | (refine below_after (Ext.below _) ?_ ?_) | (refine below_after (by assumption) ?_ ?_) | (simp; done) | omega | (simp; omega)))), Lib.hid (fun k _ => by simp), Lib.hid (fun i hi => absurd hi (by omega)), by (repeat' (first | exact Below.refl _ _ | assumption | (refine Below.alloc ?_ ?_ _) | (refine Below.setCell ?_ ?_ _) | (refine Below.drew ?_) | (refine below_drewN ?_ _) | (refine below_after (Ext.below _) ?_ ?_) | (refine below_after (by assumption) ?_ ?_) | (simp; done) | omega | (simp; omega)))⟩
    · rw [cell_alloc_if, if_neg (by simp only [World.size_alloc]; omega), if_pos (by simp)]
      have h : k = 0 ∨ k = 1 ∨ k = 2 ∨ k = 3 ∨ k = 4 ∨ k = 5 ∨ k = 6 ∨ k = 7 := by omega
      rcases h with rfl | rfl | rfl | rfl | rfl | rfl | rfl | rfl <;> rfl
    · simp [frozen_alloc_if]
  case round =>
    obtain ⟨T, j, rfl, hj, hA, hbx, hse, hal, hb⟩ := hrel
    have hs := hb.size
    obtain ⟨hbs, hb0, hb1, -, -, -, hb5⟩ := hbx.open
    by_cases hlt : j < n
    · obtain ⟨x, b, o, hx, rfl, hbl, hcell⟩ := (hR.of hb).int hlt
      by_cases hx0 : x < 0
      · have d1 : decide (x < 0) = true := decide_eq_true hx0
        have hE := Lib.hid (syms_bad (symAt_no (W := W) (H := H) hx.out (.inl (by omega))))
        go_wp2
        go_ret
        exact ⟨ret_bool hE.out.symm, by (repeat' (first | exact Below.refl _ _ | assumption | (refine Below.alloc ?_ ?_ _) | (refine Below.setCell ?_ ?_ _) | (refine Below.drew ?_) | (refine below_drewN ?_ _) | (refine below_after (Ext.below _) ?_ ?_) | (refine below_after (by assumption) ?_ ?_) | (simp; done) | omega | (simp; omega)))⟩
      · have d1 : decide (x < 0) = false := decide_eq_false hx0
        by_cases hx8 : 8 ≤ x
        · have d2 : decide (8 ≤ x) = true := decide_eq_true hx8
          have hE := Lib.hid (syms_bad (symAt_no (W := W) (H := H) hx.out (.inl (by omega))))
          go_wp2
          go_ret
          exact ⟨ret_bool hE.out.symm, by (repeat' (first | exact Below.refl _ _ | assumption | (refine Below.alloc ?_ ?_ _) | (refine Below.setCell ?_ ?_ _) | (refine Below.drew ?_) | (refine below_drewN ?_ _) | (refine below_after (Ext.below _) ?_ ?_) | (refine below_after (by assumption) ?_ ?_) | (simp; done) | omega | (simp; omega)))⟩
        · obtain ⟨k, rfl⟩ : ∃ k : Nat, x = (k : Int) := ⟨x.toNat, by omega⟩
          have hk : k < 8 := by omega
          have d2 : decide (8 ≤ (k : Int)) = false := decide_eq_false hx8
          have hca := hA.cell k hk
          have hfr := hA.free k
          have ht : (k : Int).tmod 2 = (k : Int) % 2 := Int.tmod_eq_emod_of_nonneg (by omega)
          cases hT : T k with
          | true =>
            rw [hT] at hca
            have hE := Lib.hid (syms_bad (symAt_no (W := W) (H := H) hx.out (.inr ((hse.out k hk).1 hT))))
            go_wp2
            go_ret
            exact ⟨ret_bool hE.out.symm, by (repeat' (first | exact Below.refl _ _ | assumption | (refine Below.alloc ?_ ?_ _) | (refine Below.setCell ?_ ?_ _) | (refine Below.drew ?_) | (refine below_drewN ?_ _) | (refine below_after (Ext.below _) ?_ ?_) | (refine below_after (by assumption) ?_ ?_) | (simp; done) | omega | (simp; omega)))⟩
          | false =>
            rw [hT] at hca
            have hnm : ((k : Nat) : Int) ∉ S.take j := fun h => by rw [(hse.out k hk).2 h] at hT; cases hT
            by_cases hod : (k : Int) % 2 = 1
            · have t1 : ((k : Int) % 2 == 1) = true := by rw [hod]; rfl
              by_cases hWH : W = H
              · have t2 : (W != H) = false := by rw [hWH]; simp
                have hE := Lib.hid (symAt_yes (W := W) (H := H) hx.out (by omega) hnm)
                clear hWH ht hT
                go_wp2
                go_roundw
                case rel => exact ⟨_, j + 1, by go_num, by omega, hA.set hk, hbx.set (by omega), Lib.hid (hse.out.step hx.out), Lib.hid (all_step hal.out hE.out), by (repeat' (first | exact Below.refl _ _ | assumption | (refine Below.alloc ?_ ?_ _) | (refine Below.setCell ?_ ?_ _) | (refine Below.drew ?_) | (refine below_drewN ?_ _) | (refine below_after (Ext.below _) ?_ ?_) | (refine below_after (by assumption) ?_ ?_) | (simp; done) | omega | (simp; omega)))⟩
                case measure => simp [intOf]; omega
              · have t2 : (W != H) = true := by simpa using hWH
                have hE := Lib.hid (syms_bad (symAt_no (W := W) (H := H) hx.out (.inl (by omega))))
                clear hWH ht hT
                go_wp2
                go_ret
                exact ⟨ret_bool hE.out.symm, by (repeat' (first | exact Below.refl _ _ | assumption | (refine Below.alloc ?_ ?_ _) | (refine Below.setCell ?_ ?_ _) | (refine Below.drew ?_) | (refine below_drewN ?_ _) | (refine below_after (Ext.below _) ?_ ?_) | (refine below_after (by assumption) ?_ ?_) | (simp; done) | omega | (simp; omega)))⟩
            · have t1 : ((k : Int) % 2 == 1) = false := by simpa using hod
              have hE := Lib.hid (symAt_yes (W := W) (H := H) hx.out (by omega) hnm)
              clear ht hT
              go_wp2
              go_roundw
              case rel => exact ⟨_, j + 1, by go_num, by omega, hA.set hk, hbx.set (by omega), Lib.hid (hse.out.step hx.out), Lib.hid (all_step hal.out hE.out), by (repeat' (first | exact Below.refl _ _ | assumption | (refine Below.alloc ?_ ?_ _) | (refine Below.setCell ?_ ?_ _) | (refine Below.drew ?_) | (refine below_drewN ?_ _) | (refine below_after (Ext.below _) ?_ ?_) | (refine below_after (by assumption) ?_ ?_) | (simp; done) | omega | (simp; omega)))⟩
              case measure => simp [intOf]; omega
    · obtain rfl : j = n := by omega
      have hE := Lib.hid (syms_good (W := W) (H := H) (S := S) (fun i hi => hal.out i (by rw [hSl.out] at hi; exact hi)))
      go_wp2
      go_ret
      exact ⟨ret_bool hE.out.symm, by (repeat' (first | exact Below.refl _ _ | assumption | (refine Below.alloc ?_ ?_ _) | (refine Below.setCell ?_ ?_ _) | (refine Below.drew ?_) | (refine below_drewN ?_ _) | (refine below_after (Ext.below _) ?_ ?_) | (refine below_after (by assumption) ?_ ?_) | (simp; done) | omega | (simp; omega)))⟩
end Go.Proofs.YtnhapgbjaeaamaaDoor
end
section
namespace Go.Proofs.YtnhapgbjaeaamaaDoor
open Go Go.RowKit
set_option maxRecDepth 100000
set_option linter.unusedSimpArgs false
set_option linter.unusedVariables false
section
variable {W H G DX DY : Int} {S : List Int}
theorem boxE_low (h : W < 1 ∨ H < 1) : boxE W H G DX DY S = 2 := by unfold boxE; rw [if_pos h]
theorem boxE_big (h : ¬(W < 1 ∨ H < 1)) (h2 : 16 < W ∨ 16 < H ∨ 16 < W * H) : boxE W H G DX DY S = 6 := by unfold boxE; rw [if_neg h, if_pos h2]
theorem boxE_arg (h : ¬(W < 1 ∨ H < 1)) (h2 : ¬(16 < W ∨ 16 < H ∨ 16 < W * H)) (h3 : G < 1 ∨ 6 < G ∨ DX < -24 ∨ 24 < DX ∨ DY < -24 ∨ 24 < DY) : boxE W H G DX DY S = 2 := by unfold boxE; rw [if_neg h, if_neg h2, if_pos h3]
theorem boxE_sym (h : ¬(W < 1 ∨ H < 1)) (h2 : ¬(16 < W ∨ 16 < H ∨ 16 < W * H)) (h3 : ¬(G < 1 ∨ 6 < G ∨ DX < -24 ∨ 24 < DX ∨ DY < -24 ∨ 24 < DY)) : boxE W H G DX DY S = if symsB W H S = true then 0 else 2 := by unfold boxE; rw [if_neg h, if_neg h2, if_neg h3]
theorem area_bd (h1 : 1 ≤ W ∧ W ≤ 16) (h2 : 1 ≤ H ∧ H ≤ 16) : 1 ≤ W * H ∧ W * H ≤ 256 := by
  have h3 : 1 * 1 ≤ W * H := Int.mul_le_mul h1.1 h2.1 (by omega) (by omega)
  have h4 : W * H ≤ 16 * 16 := Int.mul_le_mul h1.2 h2.2 (by omega) (by omega)
  omega
end
set_option maxHeartbeats 4000000 in
theorem prb_first (W H G DX DY : Int) (S : List Int) (A : Option Addr) (n c : Nat) (w : World) (hR : Rd encI 1 w A n S) (hn : n ≤ 1000000) :
    Calls Tryd.prog 22 #[.agg #[.int .i64 W, .int .i64 H, .int .i64 G, .int .i64 DX, .int .i64 DY, .slice A n c]] w fun e w' => e = .returned (.int .i64 (boxE W H G DX DY S)) ∧ Below w.heap.size w w' := by
  have kF := fun w1 h1 => prb_fits W H G DX DY S A n c w1 h1 hn
  by_cases h1 : W < 1 ∨ H < 1
  · have d1 : decide (min W H < 1) = true := decide_eq_true (by omega)
    rw [boxE_low h1]
    clear h1
    go_enter Tryd.func22, Tryd.ntmps22
    go_wp2
    go_ret
    exact ⟨rfl, by (repeat' (first | exact Below.refl _ _ | assumption | (refine Below.alloc ?_ ?_ _) | (refine Below.setCell ?_ ?_ _) | (refine Below.drew ?_) | (refine below_drewN ?_ _) | (refine below_after (Ext.below _) ?_ ?_) | (refine below_after (by assumption) ?_ ?_) | (simp; done) | omega | (simp; omega)))⟩
  have d1 : decide (min W H < 1) = false := decide_eq_false (by omega)
  by_cases h2 : 16 < W ∨ 16 < H
  · have d2 : decide (16 < max W H) = true := decide_eq_true (by omega)
    rw [boxE_big h1 (by omega)]
    clear h1 h2
    go_enter Tryd.func22, Tryd.ntmps22
    go_wp2
    go_ret
    exact ⟨rfl, by (repeat' (first | exact Below.refl _ _ | assumption | (refine Below.alloc ?_ ?_ _) | (refine Below.setCell ?_ ?_ _) | (refine Below.drew ?_) | (refine below_drewN ?_ _) | (refine below_after (Ext.below _) ?_ ?_) | (refine below_after (by assumption) ?_ ?_) | (simp; done) | omega | (simp; omega)))⟩
  have d2 : decide (16 < max W H) = false := decide_eq_false (by omega)
  have hm := area_bd (W := W) (H := H) (by omega) (by omega)
  have hw1 : IntKind.i64.wrap (W * H) = W * H := by rw [IntKind.wrap_i64]; omega
  have hw2 : wrap64 (W * H) = W * H := by unfold wrap64; omega
  have e1 := fun h => boxE_big (W := W) (H := H) (G := G) (DX := DX) (DY := DY) (S := S) h1 (.inr (.inr h))
  have e2 := boxE_arg (W := W) (H := H) (G := G) (DX := DX) (DY := DY) (S := S) h1
  have e3 := boxE_sym (W := W) (H := H) (G := G) (DX := DX) (DY := DY) (S := S) h1
  generalize hM : W * H = M at hm hw1 hw2 e1 e2 e3
  by_cases h3 : 16 < M
  · have d3 : decide (16 < M) = true := decide_eq_true h3
    rw [e1 h3]
    clear h1 h2 e1 e2 e3
    go_enter Tryd.func22, Tryd.ntmps22
    go_wp2
    go_ret
    exact ⟨rfl, by (repeat' (first | exact Below.refl _ _ | assumption | (refine Below.alloc ?_ ?_ _) | (refine Below.setCell ?_ ?_ _) | (refine Below.drew ?_) | (refine below_drewN ?_ _) | (refine below_after (Ext.below _) ?_ ?_) | (refine below_after (by assumption) ?_ ?_) | (simp; done) | omega | (simp; omega)))⟩
  have d3 : decide (16 < M) = false := decide_eq_false h3
  replace e2 := e2 (by omega)
  replace e3 := e3 (by omega)
  clear e1 h1 h2 h3
  by_cases g1 : G < 1
  · have q1 : decide (G < 1) = true := decide_eq_true g1
    rw [e2 (by omega)]
    clear e2 e3
    go_enter Tryd.func22, Tryd.ntmps22
    go_wp2
    go_ret
    exact ⟨rfl, by (repeat' (first | exact Below.refl _ _ | assumption | (refine Below.alloc ?_ ?_ _) | (refine Below.setCell ?_ ?_ _) | (refine Below.drew ?_) | (refine below_drewN ?_ _) | (refine below_after (Ext.below _) ?_ ?_) | (refine below_after (by assumption) ?_ ?_) | (simp; done) | omega | (simp; omega)))⟩
  have q1 : decide (G < 1) = false := decide_eq_false g1
  by_cases g2 : 6 < G
  · have q2 : decide (6 < G) = true := decide_eq_true g2
    rw [e2 (by omega)]
    clear e2 e3
    go_enter Tryd.func22, Tryd.ntmps22
    go_wp2
    go_ret
    exact ⟨rfl, by (repeat' (first | exact Below.refl _ _ | assumption | (refine Below.alloc ?_ ?_ _) | (refine Below.setCell ?_ ?_ _) | (refine Below.drew ?_) | (refine below_drewN ?_ _) | (refine below_after (Ext.below _) ?_ ?_) | (refine below_after (by assumption) ?_ ?_) | (simp; done) | omega | (simp; omega)))⟩
  have q2 : decide (6 < G) = false := decide_eq_false g2
  by_cases g3 : 24 < max DX DY
  · have q3 : decide (24 < max DX DY) = true := decide_eq_true g3
    rw [e2 (by omega)]
    clear e2 e3
    go_enter Tryd.func22, Tryd.ntmps22
    go_wp2
    go_ret
    exact ⟨rfl, by (repeat' (first | exact Below.refl _ _ | assumption | (refine Below.alloc ?_ ?_ _) | (refine Below.setCell ?_ ?_ _) | (refine Below.drew ?_) | (refine below_drewN ?_ _) | (refine below_after (Ext.below _) ?_ ?_) | (refine below_after (by assumption) ?_ ?_) | (simp; done) | omega | (simp; omega)))⟩
  have q3 : decide (24 < max DX DY) = false := decide_eq_false g3
  by_cases g4 : min DX DY < -24
  · have q4 : decide (min DX DY < -24) = true := decide_eq_true g4
    rw [e2 (by omega)]
    clear e2 e3
    go_enter Tryd.func22, Tryd.ntmps22
    go_wp2
    go_ret
    exact ⟨rfl, by (repeat' (first | exact Below.refl _ _ | assumption | (refine Below.alloc ?_ ?_ _) | (refine Below.setCell ?_ ?_ _) | (refine Below.drew ?_) | (refine below_drewN ?_ _) | (refine below_after (Ext.below _) ?_ ?_) | (refine below_after (by assumption) ?_ ?_) | (simp; done) | omega | (simp; omega)))⟩
  have q4 : decide (min DX DY < -24) = false := decide_eq_false g4
  rw [e3 (by omega)]
  clear e2 e3 g1 g2 g3 g4
  cases hs : symsB W H S with
  | true =>
    rw [hs] at kF
    clear hs
    go_enter Tryd.func22, Tryd.ntmps22
    go_wp2_with (first | (go_at_call 36; refine (kF _ (hR.of (by (repeat' (first | exact Below.refl _ _ | assumption | (refine Below.alloc ?_ ?_ _) | (refine Below.setCell ?_ ?_ _) | (refine Below.drew ?_) | (refine below_drewN ?_ _) | (refine below_after (Ext.below _) ?_ ?_) | (refine below_after (by assumption) ?_ ?_) | (simp; done) | omega | (simp; omega)))))).mono ?_; rintro e w1 ⟨rfl, hb1⟩; obtain ⟨hc1, hf1⟩ := bcell hb1; have hs1 := hb1.size; (try simp only [World.size_alloc, World.size_setCell, World.size_drew] at hc1 hf1); (try simp at hs1)))
    go_ret
    exact ⟨rfl, by (repeat' (first | exact Below.refl _ _ | assumption | (refine Below.alloc ?_ ?_ _) | (refine Below.setCell ?_ ?_ _) | (refine Below.drew ?_) | (refine below_drewN ?_ _) | (refine below_after (Ext.below _) ?_ ?_) | (refine below_after (by assumption) ?_ ?_) | (simp; done) | omega | (simp; omega)))⟩
  | false =>
    rw [hs] at kF
    clear hs
    go_enter Tryd.func22, Tryd.ntmps22
    go_wp2_with (first | (go_at_call 36; refine (kF _ (hR.of (by (repeat' (first | exact Below.refl _ _ | assumption | (refine Below.alloc ?_ ?_ _) | (refine Below.setCell ?_ ?_ _) | (refine Below.drew ?_) | (refine below_drewN ?_ _) | (refine below_after (Ext.below _) ?_ ?_) | (refine below_after (by assumption) ?_ ?_) | (simp; done) | omega | (simp; omega)))))).mono ?_; rintro e w1 ⟨rfl, hb1⟩; obtain ⟨hc1, hf1⟩ := bcell hb1; have hs1 := hb1.size; (try simp only [World.size_alloc, World.size_setCell, World.size_drew] at hc1 hf1); (try simp at hs1)))
    go_ret
    exact ⟨rfl, by (repeat' (first | exact Below.refl _ _ | assumption | (refine Below.alloc ?_ ?_ _) | (refine Below.setCell ?_ ?_ _) | (refine Below.drew ?_) | (refine below_drewN ?_ _) | (refine below_after (Ext.below _) ?_ ?_) | (refine below_after (by assumption) ?_ ?_) | (simp; done) | omega | (simp; omega)))⟩
end Go.Proofs.YtnhapgbjaeaamaaDoor
end
section
namespace Go.Proofs.YtnhapgbjaeaamaaDoor
open Go Go.RowKit
set_option maxRecDepth 100000
set_option linter.unusedSimpArgs false
set_option linter.unusedVariables false
theorem take_not {S : List Int} {j : Nat} {x : Int} (h : ∀ (i : Nat) y, i < j → S[i]? = some y → y ≠ x) : x ∉ S.take j := by
  intro hm
  obtain ⟨i, hi⟩ := List.getElem?_of_mem hm
  rw [List.getElem?_take] at hi
  split at hi
  · exact h i x ‹_› hi rfl
  · cases hi
theorem take_in {S : List Int} {j i : Nat} {x : Int} (hi : i < j) (h : S[i]? = some x) : x ∈ S.take j :=
  List.mem_of_getElem? (i := i) (by rw [List.getElem?_take, if_pos hi]; exact h)
end Go.Proofs.YtnhapgbjaeaamaaDoor
end
section
namespace Go.Proofs.YtnhapgbjaeaamaaDoor
open Go Go.RowKit
set_option maxRecDepth 100000
set_option linter.unusedSimpArgs false
set_option linter.unusedVariables false
theorem run_none {st : Int} {Hd : List (Int × Int)} {N : List (Int × List Int)} {p : List (Int × Int × Int)} : runE st Hd N p 0 = fitE st Hd N p := by
  unfold runE
  by_cases h : fitE st Hd N p = 0
  · rw [if_pos h, if_neg (by omega), h]; rfl
  · rw [if_neg h]
theorem fit_nil {st : Int} {Hd : List (Int × Int)} {N : List (Int × List Int)} : fitE st Hd N [] = if trQ st Hd N = true then 0 else 11 := by
  cases h : trQ st Hd N with
  | true => rw [if_pos rfl]; exact fit_iff.2 (nil_fits h)
  | false => rw [if_neg (by simp)]; exact fit_rule h
theorem TrAt.open {w : World} {b : Nat} {x y z : Value} (h : TrAt w b x y z) : b < w.heap.size ∧ w.cell? ⟨b, 0, none⟩ = some x ∧ w.cell? ⟨b, 1, none⟩ = some y ∧ w.cell? ⟨b, 2, none⟩ = some z := h
/-- The boxes of a rule and a problem. -/
theorem two_boxes (w : World) (x y z : Value) (t t' : TypeId) (W H G DX DY : Int) (v : Value) : ∃ we, we = (w.alloc (.cells #[x, y, z] t)).alloc (.cells #[.int .i64 W, .int .i64 H, .int .i64 G, .int .i64 DX, .int .i64 DY, v] t') ∧
    TrAt we w.heap.size x y z ∧ PbAt we (w.heap.size + 1) W H G DX DY v ∧ Below w.heap.size w we ∧ we.heap.size = w.heap.size + 2 := by
  have h1 := TrAt.new w x y z t
  have h2 := PbAt.new (w.alloc (.cells #[x, y, z] t)) W H G DX DY v t'
  rw [World.size_alloc] at h2
  exact ⟨_, rfl, h1.of (by (repeat' (first | exact Below.refl _ _ | assumption | (refine Below.alloc ?_ ?_ _) | (refine Below.setCell ?_ ?_ _) | (refine Below.drew ?_) | (refine below_drewN ?_ _) | (refine below_after (Ext.below _) ?_ ?_) | (refine below_after (by assumption) ?_ ?_) | (simp; done) | omega | (simp; omega)))), h2, by (repeat' (first | exact Below.refl _ _ | assumption | (refine Below.alloc ?_ ?_ _) | (refine Below.setCell ?_ ?_ _) | (refine Below.drew ?_) | (refine below_drewN ?_ _) | (refine below_after (Ext.below _) ?_ ?_) | (refine below_after (by assumption) ?_ ?_) | (simp; done) | omega | (simp; omega))), by simp only [World.size_alloc]⟩
section
variable (st : Int) (A B P : Option Addr) (n c m d ns cs : Nat) (Hd : List (Int × Int)) (N : List (Int × List Int)) (W H G DX DY : Int) (S : List Int) (w : World)
set_option maxHeartbeats 4000000 in
theorem prb_Check (hH : Rd encP 2 w A n Hd) (hN : RdX ekN w B m N) (hR : Rd encI 1 w P ns S) (hn : ns ≤ 1000000) :
    Calls Tryd.prog 15 #[.agg #[.int .i64 st, .slice A n c, .slice B m d], .agg #[.int .i64 W, .int .i64 H, .int .i64 G, .int .i64 DX, .int .i64 DY, .slice P ns cs]] w fun e w' => e = .returned (.int .i64 (chkE st Hd N W H G DX DY S)) ∧ Below w.heap.size w w' := by
  have kR := fun w1 h1 h2 => direct_Run st A B none n c m d 0 0 Hd N [] w1 0 h1 h2 Rd.nil_ (by omega) (by omega)
  have kF := fun w1 h1 => prb_first W H G DX DY S P ns cs w1 h1 hn
  rw [run_none, fit_nil] at kR
  unfold chkE
  cases hq : trQ st Hd N with
  | true =>
    rw [hq, if_pos rfl] at kR
    rw [if_pos rfl]
    clear hq
    go_enter Tryd.func15, Tryd.ntmps15
    go_wp2_with fail; go_at_call 25; refine (kR _ (hH.of (by (repeat' (first | exact Below.refl _ _ | assumption | (refine Below.alloc ?_ ?_ _) | (refine Below.setCell ?_ ?_ _) | (refine Below.drew ?_) | (refine below_drewN ?_ _) | (refine below_after (Ext.below _) ?_ ?_) | (refine below_after (by assumption) ?_ ?_) | (simp; done) | omega | (simp; omega))))) (hN.of (by (repeat' (first | exact Below.refl _ _ | assumption | (refine Below.alloc ?_ ?_ _) | (refine Below.setCell ?_ ?_ _) | (refine Below.drew ?_) | (refine below_drewN ?_ _) | (refine below_after (Ext.below _) ?_ ?_) | (refine below_after (by assumption) ?_ ?_) | (simp; done) | omega | (simp; omega)))))).mono ?_; rintro e w1 ⟨A2, n2, c2, rfl, hR2, hc2, hb1⟩; have hs1 := hb1.size; (try simp only [World.size_alloc, World.size_drew, World.size_setCell] at hs1); obtain ⟨hc1, hf1⟩ := bcell hb1; (try simp only [World.size_alloc, World.size_setCell, World.size_drew] at hc1 hf1)
    clear hR2
    go_wp2_with fail; go_at_call 22; refine (kF _ (hR.of (by (repeat' (first | exact Below.refl _ _ | assumption | (refine Below.alloc ?_ ?_ _) | (refine Below.setCell ?_ ?_ _) | (refine Below.drew ?_) | (refine below_drewN ?_ _) | (refine below_after (Ext.below _) ?_ ?_) | (refine below_after (by assumption) ?_ ?_) | (simp; done) | omega | (simp; omega)))))).mono ?_; rintro e w2 ⟨rfl, hb2⟩; have hs2 := hb2.size; (try simp only [World.size_alloc, World.size_drew, World.size_setCell] at hs2); obtain ⟨hc2, hf2⟩ := bcell hb2; (try simp only [World.size_alloc, World.size_setCell, World.size_drew] at hc2 hf2)
    go_wp2_with fail
    go_ret
    exact ⟨rfl, by (repeat' (first | exact Below.refl _ _ | assumption | (refine Below.alloc ?_ ?_ _) | (refine Below.setCell ?_ ?_ _) | (refine Below.drew ?_) | (refine below_drewN ?_ _) | (refine below_after (Ext.below _) ?_ ?_) | (refine below_after (by assumption) ?_ ?_) | (simp; done) | omega | (simp; omega)))⟩
  | false =>
    rw [hq, if_neg (by simp)] at kR
    rw [if_neg (by simp)]
    clear hq
    go_enter Tryd.func15, Tryd.ntmps15
    go_wp2_with fail; go_at_call 25; refine (kR _ (hH.of (by (repeat' (first | exact Below.refl _ _ | assumption | (refine Below.alloc ?_ ?_ _) | (refine Below.setCell ?_ ?_ _) | (refine Below.drew ?_) | (refine below_drewN ?_ _) | (refine below_after (Ext.below _) ?_ ?_) | (refine below_after (by assumption) ?_ ?_) | (simp; done) | omega | (simp; omega))))) (hN.of (by (repeat' (first | exact Below.refl _ _ | assumption | (refine Below.alloc ?_ ?_ _) | (refine Below.setCell ?_ ?_ _) | (refine Below.drew ?_) | (refine below_drewN ?_ _) | (refine below_after (Ext.below _) ?_ ?_) | (refine below_after (by assumption) ?_ ?_) | (simp; done) | omega | (simp; omega)))))).mono ?_; rintro e w1 ⟨A2, n2, c2, rfl, hR2, hc2, hb1⟩; have hs1 := hb1.size; (try simp only [World.size_alloc, World.size_drew, World.size_setCell] at hs1); obtain ⟨hc1, hf1⟩ := bcell hb1; (try simp only [World.size_alloc, World.size_setCell, World.size_drew] at hc1 hf1)
    clear hR2
    go_wp2_with fail
    go_ret
    exact ⟨rfl, by (repeat' (first | exact Below.refl _ _ | assumption | (refine Below.alloc ?_ ?_ _) | (refine Below.setCell ?_ ?_ _) | (refine Below.drew ?_) | (refine below_drewN ?_ _) | (refine below_after (Ext.below _) ?_ ?_) | (refine below_after (by assumption) ?_ ?_) | (simp; done) | omega | (simp; omega)))⟩
set_option maxHeartbeats 4000000 in
theorem prb_begin (D : Option Addr) (k e : Nat) (p : List (Int × Int × Int)) (hH : Rd encP 2 w A n Hd) (hN : RdX ekN w B m N) (hR : Rd encI 1 w P ns S) (hn : ns ≤ 1000000) (hP : Rd encC 3 w D k p) (hk : k ≤ 1000000) (hke : k ≤ e) :
    Calls Tryd.prog 16 #[.agg #[.int .i64 st, .slice A n c, .slice B m d], .agg #[.int .i64 W, .int .i64 H, .int .i64 G, .int .i64 DX, .int .i64 DY, .slice P ns cs], .slice D k e] w fun e w' => e = .returned (.int .i64 (begE st Hd N W H G DX DY S p)) ∧ Below w.heap.size w w' := by
  have kR := fun w1 h1 h2 h3 => direct_Run st A B D n c m d k e Hd N p w1 0 h1 h2 h3 hk hke
  have kC := fun w1 h1 h2 h3 => prb_Check st A B P n c m d ns cs Hd N W H G DX DY S w1 h1 h2 h3 hn
  rw [run_none] at kR
  unfold begE
  by_cases h0 : chkE st Hd N W H G DX DY S = 0
  · rw [h0] at kC
    rw [if_pos h0]
    clear h0
    go_enter Tryd.func16, Tryd.ntmps16
    go_wp2_with fail; go_at_call 15; refine (kC _ (hH.of (by (repeat' (first | exact Below.refl _ _ | assumption | (refine Below.alloc ?_ ?_ _) | (refine Below.setCell ?_ ?_ _) | (refine Below.drew ?_) | (refine below_drewN ?_ _) | (refine below_after (Ext.below _) ?_ ?_) | (refine below_after (by assumption) ?_ ?_) | (simp; done) | omega | (simp; omega))))) (hN.of (by (repeat' (first | exact Below.refl _ _ | assumption | (refine Below.alloc ?_ ?_ _) | (refine Below.setCell ?_ ?_ _) | (refine Below.drew ?_) | (refine below_drewN ?_ _) | (refine below_after (Ext.below _) ?_ ?_) | (refine below_after (by assumption) ?_ ?_) | (simp; done) | omega | (simp; omega))))) (hR.of (by (repeat' (first | exact Below.refl _ _ | assumption | (refine Below.alloc ?_ ?_ _) | (refine Below.setCell ?_ ?_ _) | (refine Below.drew ?_) | (refine below_drewN ?_ _) | (refine below_after (Ext.below _) ?_ ?_) | (refine below_after (by assumption) ?_ ?_) | (simp; done) | omega | (simp; omega)))))).mono ?_; rintro e w1 ⟨rfl, hb1⟩; have hs1 := hb1.size; (try simp only [World.size_alloc, World.size_drew, World.size_setCell] at hs1); obtain ⟨hc1, hf1⟩ := bcell hb1; (try simp only [World.size_alloc, World.size_setCell, World.size_drew] at hc1 hf1)
    go_wp2_with fail; go_at_call 25; refine (kR _ (hH.of (by (repeat' (first | exact Below.refl _ _ | assumption | (refine Below.alloc ?_ ?_ _) | (refine Below.setCell ?_ ?_ _) | (refine Below.drew ?_) | (refine below_drewN ?_ _) | (refine below_after (Ext.below _) ?_ ?_) | (refine below_after (by assumption) ?_ ?_) | (simp; done) | omega | (simp; omega))))) (hN.of (by (repeat' (first | exact Below.refl _ _ | assumption | (refine Below.alloc ?_ ?_ _) | (refine Below.setCell ?_ ?_ _) | (refine Below.drew ?_) | (refine below_drewN ?_ _) | (refine below_after (Ext.below _) ?_ ?_) | (refine below_after (by assumption) ?_ ?_) | (simp; done) | omega | (simp; omega))))) (hP.of (by (repeat' (first | exact Below.refl _ _ | assumption | (refine Below.alloc ?_ ?_ _) | (refine Below.setCell ?_ ?_ _) | (refine Below.drew ?_) | (refine below_drewN ?_ _) | (refine below_after (Ext.below _) ?_ ?_) | (refine below_after (by assumption) ?_ ?_) | (simp; done) | omega | (simp; omega)))))).mono ?_; rintro e w2 ⟨A2, n2, c2, rfl, hR2, hc2, hb2⟩; have hs2 := hb2.size; (try simp only [World.size_alloc, World.size_drew, World.size_setCell] at hs2); obtain ⟨hc2, hf2⟩ := bcell hb2; (try simp only [World.size_alloc, World.size_setCell, World.size_drew] at hc2 hf2)
    clear hR2
    go_wp2_with fail
    go_ret
    exact ⟨rfl, by (repeat' (first | exact Below.refl _ _ | assumption | (refine Below.alloc ?_ ?_ _) | (refine Below.setCell ?_ ?_ _) | (refine Below.drew ?_) | (refine below_drewN ?_ _) | (refine below_after (Ext.below _) ?_ ?_) | (refine below_after (by assumption) ?_ ?_) | (simp; done) | omega | (simp; omega)))⟩
  · rw [if_neg h0]
    generalize chkE st Hd N W H G DX DY S = q at kC h0
    have t0 : (q != 0) = true := by simpa using h0
    clear h0
    go_enter Tryd.func16, Tryd.ntmps16
    go_wp2_with fail; go_at_call 15; refine (kC _ (hH.of (by (repeat' (first | exact Below.refl _ _ | assumption | (refine Below.alloc ?_ ?_ _) | (refine Below.setCell ?_ ?_ _) | (refine Below.drew ?_) | (refine below_drewN ?_ _) | (refine below_after (Ext.below _) ?_ ?_) | (refine below_after (by assumption) ?_ ?_) | (simp; done) | omega | (simp; omega))))) (hN.of (by (repeat' (first | exact Below.refl _ _ | assumption | (refine Below.alloc ?_ ?_ _) | (refine Below.setCell ?_ ?_ _) | (refine Below.drew ?_) | (refine below_drewN ?_ _) | (refine below_after (Ext.below _) ?_ ?_) | (refine below_after (by assumption) ?_ ?_) | (simp; done) | omega | (simp; omega))))) (hR.of (by (repeat' (first | exact Below.refl _ _ | assumption | (refine Below.alloc ?_ ?_ _) | (refine Below.setCell ?_ ?_ _) | (refine Below.drew ?_) | (refine below_drewN ?_ _) | (refine below_after (Ext.below _) ?_ ?_) | (refine below_after (by assumption) ?_ ?_) | (simp; done) | omega | (simp; omega)))))).mono ?_; rintro e w1 ⟨rfl, hb1⟩; have hs1 := hb1.size; (try simp only [World.size_alloc, World.size_drew, World.size_setCell] at hs1); obtain ⟨hc1, hf1⟩ := bcell hb1; (try simp only [World.size_alloc, World.size_setCell, World.size_drew] at hc1 hf1)
    go_wp2_with fail
    go_ret
    exact ⟨rfl, by (repeat' (first | exact Below.refl _ _ | assumption | (refine Below.alloc ?_ ?_ _) | (refine Below.setCell ?_ ?_ _) | (refine Below.drew ?_) | (refine below_drewN ?_ _) | (refine below_after (Ext.below _) ?_ ?_) | (refine below_after (by assumption) ?_ ?_) | (simp; done) | omega | (simp; omega)))⟩
end
end Go.Proofs.YtnhapgbjaeaamaaDoor
end
section
namespace Go.Proofs.YtnhapgbjaeaamaaDoor
open Go Go.RowKit
set_option maxRecDepth 100000
set_option linter.unusedSimpArgs false
set_option linter.unusedVariables false
theorem fit_wF (a b : Nat) (ha : 1 ≤ a ∧ a ≤ 256) (hb : 1 ≤ b ∧ b ≤ 256) : Fits (wF a b) a b := by
  intro x y k hx hy ho
  have hr : rightB 0 0 (a : Int) (b : Int) = true := by rw [rightB_iff]; omega
  have hp : validB (x : Int) (y : Int) = true := by unfold validB; rw [decide_eq_true_eq]; omega
  unfold wF withinF
  rw [hr, hp, turn_turn8 _ _ _ _ _ hr, app_app8 _ _ _ (by unfold I64; omega) (by unfold I64; omega), app8_valid _ _ _ hp, r8_nat ho.1]
  have hk := ho.1
  have hc : k = 0 ∨ k = 1 ∨ k = 2 ∨ k = 3 ∨ k = 4 ∨ k = 5 ∨ k = 6 ∨ k = 7 := by omega
  rcases hc with rfl | rfl | rfl | rfl | rfl | rfl | rfl | rfl <;> simp [turn8F, app8V, plc, wrap64] <;> omega
section
variable {a b k x y u v : Nat}
theorem sym_WithinP (ha : 1 ≤ a ∧ a ≤ 256) (hb : 1 ≤ b ∧ b ≤ 256) (hx : x < a) (hy : y < b) (hk : okK a b k) (hu : (plc a b k x y).1 = u) (hv : (plc a b k x y).2 = v) (w : World) (hM : Mx w) :
    Calls Tryd.prog 39 #[.int .i64 (k : Int), .agg #[.int .i64 0, .int .i64 0, .int .i64 (a : Int), .int .i64 (b : Int)], .agg #[.int .i64 (x : Int), .int .i64 (y : Int)]] w fun e w' => e = .returned (.agg #[.int .i64 (u : Int), .int .i64 (v : Int)]) ∧ Below w.heap.size w w' := by
  have h := sym_Within (k : Int) 0 0 (a : Int) (b : Int) (x : Int) (y : Int) w hM
  have e : withinF (app (k : Int)) 0 0 (a : Int) (b : Int) (x : Int) (y : Int) = ((u : Int), (v : Int)) := by
    have := fit_wF a b ha hb x y k hx hy hk
    rw [hu, hv] at this
    exact this
  rw [e] at h
  exact h
end
theorem prb_area (W H G DX DY : Int) (v : Value) (w : World) :
    Calls Tryd.prog 44 #[.agg #[.int .i64 W, .int .i64 H, .int .i64 G, .int .i64 DX, .int .i64 DY, v]] w fun e w' => e = .returned (.agg #[.int .i64 0, .int .i64 0, .int .i64 W, .int .i64 H]) ∧ Below w.heap.size w w' := by
  go_enter Tryd.func44, Tryd.ntmps44
  go_wp2
  refine bodyPost_ret (v := .agg #[.int .i64 0, .int .i64 0, .int .i64 W, .int .i64 H]) (by simp [results, Tryd.results44, go_sem, *, ↓IntWalk.iteOmega]) rfl ?_
  exact ⟨rfl, by (repeat' (first | exact Below.refl _ _ | assumption | (refine Below.alloc ?_ ?_ _) | (refine Below.setCell ?_ ?_ _) | (refine Below.drew ?_) | (refine below_drewN ?_ _) | (refine below_after (Ext.below _) ?_ ?_) | (refine below_after (by assumption) ?_ ?_) | (simp; done) | omega | (simp; omega)))⟩
set_option maxHeartbeats 4000000 in
theorem prb_states_yes (a b : Nat) (G DX DY : Int) (P D : Option Addr) (ns cs k e : Nat) (p : List (Int × Int × Int)) (w : World) (ha : 1 ≤ a ∧ a ≤ 16) (hb : 1 ≤ b ∧ b ≤ 16) (hm : b * a ≤ 16) (hR : Rd encC 3 w D k p) (hr : rightC p = true) (hi : inPB a b p = true) :
    Calls Tryd.prog 26 #[.agg #[.int .i64 a, .int .i64 b, .int .i64 G, .int .i64 DX, .int .i64 DY, .slice P ns cs], .slice D k e] w fun e' w' => ∃ A2, e' = .returned (.tuple #[.slice A2 (b * a) (b * a), .bool true]) ∧ Rd encI 1 w' A2 (b * a) (gridL p 0 0 a b) ∧ Below w.heap.size w w' := by
  have hk5 : k ≤ 5000 := by rw [← hR.len]; exact (rightC_ok hr).1
  obtain ⟨M, hMM⟩ : ∃ M, b * a = M := ⟨_, rfl⟩
  have hsr := Lib.hid (rightC_sorted hr)
  have hRl := Lib.hid hR.len
  have hin := Lib.hid (fun c hc => inPB_at hi (c := c) hc)
  have q2 : (a : Int) * (b : Int) = (M : Int) := by rw [← hMM, Nat.mul_comm]; exact (Int.natCast_mul a b).symm
  rw [hMM] at hm ⊢
  clear hr hi
  replace hMM := Lib.hid hMM
  have e2 : IntKind.i64.wrap ((a : Int) * (b : Int)) = (M : Int) := by rw [q2]; exact IntWalk.i64_in _ (by omega)
  have e2' : wrap64 ((a : Int) * (b : Int)) = (M : Int) := by rw [q2]; unfold wrap64; omega
  clear q2
  have hmk := fun w => run_make_ints Tryd.underlying26 M (by clear e2 e2'; omega) w
  go_enter Tryd.func26, Tryd.ntmps26
  go_wp2_with fail
  have hbx := (PbAt.new w (a : Int) (b : Int) G DX DY (.slice P ns cs) 28)
  have hbe : Below w.heap.size w (w.alloc (.cells #[.int .i64 (a : Int), .int .i64 (b : Int), .int .i64 G, .int .i64 DX, .int .i64 DY, .slice P ns cs] 28)) := by (repeat' (first | exact Below.refl _ _ | assumption | (refine Below.alloc ?_ ?_ _) | (refine Below.setCell ?_ ?_ _) | (refine Below.drew ?_) | (refine below_drewN ?_ _) | (refine below_after (Ext.below _) ?_ ?_) | (refine below_after (by assumption) ?_ ?_) | (simp; done) | omega | (simp; omega)))
  have hO0 := own_made (w.alloc (.cells #[.int .i64 (a : Int), .int .i64 (b : Int), .int .i64 G, .int .i64 DX, .int .i64 DY, .slice P ns cs] 28)) 3 (w.heap.size + 1) (by simp) M (by clear e2 e2'; omega)
  rw [World.size_alloc] at hO0
  obtain ⟨we, hwe⟩ : ∃ we, we = w.alloc (.cells #[.int .i64 (a : Int), .int .i64 (b : Int), .int .i64 G, .int .i64 DX, .int .i64 DY, .slice P ns cs] 28) := ⟨_, rfl⟩
  have hse : we.heap.size = w.heap.size + 1 := by rw [hwe]; simp
  rw [← hwe] at hbx hbe hO0 ⊢
  clear hwe
  clear hmk e2 e2'
  go_loopw [17] (fun t wr => ∃ j : Nat, t = .int .i64 j ∧ j ≤ k ∧ PbAt wr w.heap.size a b G DX DY (.slice P ns cs) ∧ Own encI 1 3 (w.heap.size + 1) wr (some ⟨w.heap.size + 1, 0, none⟩) M M (gridL (p.take j) 0 0 a b) ∧ Below w.heap.size w wr) (fun t _ => k - (intOf t).toNat)
  case atStart => exact ⟨0, rfl, by omega, hbx.of ((Below.refl _ _).alloc (Nat.le_refl _) _), by rw [List.take_zero, grid_zero, hMM.out]; exact hO0, hbe.alloc (by omega) _⟩
  case round =>
    clear hO0 hbx
    obtain ⟨j, rfl, hj, hbx, hO, hb⟩ := hrel
    have hsz := hb.size
    obtain ⟨hbs, hb0, hb1, -, -, -, hb5⟩ := hbx.open
    by_cases hlj : j < k
    · have dj : decide ((j : Int) < k) = true := decide_eq_true (by omega)
      have dj' : decide (j < k) = true := decide_eq_true hlj
      obtain ⟨x, y, s, bo, o, hx, rfl, hbo, g1, g2, g3⟩ := (hR.of hb).cell hlj
      have hic := hin.out _ (List.mem_of_getElem? hx.out)
      simp only at hic
      obtain ⟨i, rfl⟩ : ∃ i : Nat, x = (i : Nat) := ⟨x.toNat, by omega⟩
      obtain ⟨q, rfl⟩ : ∃ q : Nat, y = (q : Nat) := ⟨y.toNat, by omega⟩
      have hiW : i < a := by omega
      have hqh : q < b := by omega
      have hst := Lib.hid (grid_set (X := 0) (Y := 0) (W := a) (h := b) hsr.out hx.out hiW hqh (by omega) (by omega))
      have hlt := grid_lt hiW hqh
      rw [hMM.out] at hlt
      have hqw : q * a ≤ M := by omega
      obtain ⟨m1, hm1⟩ : ∃ m1, q * a = m1 := ⟨_, rfl⟩
      have q2 : (q : Int) * (a : Int) = (m1 : Int) := by rw [← hm1]; exact (Int.natCast_mul q a).symm
      rw [hm1] at hlt hqw hst
      obtain ⟨K, hK⟩ : ∃ K, m1 + i = K := ⟨_, rfl⟩
      rw [hK] at hlt hst
      clear hm1
      obtain ⟨v, _, hg0, hc0, hz0, _, _⟩ := hO.intCell hlt
      have d1 : decide ((i : Int) < 0) = false := decide_eq_false (by omega)
      have d2 : decide ((a : Int) ≤ (i : Int)) = false := decide_eq_false (by omega)
      have d2' : decide (a ≤ i) = false := decide_eq_false (by omega)
      have d3 : decide ((q : Int) < 0) = false := decide_eq_false (by omega)
      have d4 : decide ((b : Int) ≤ (q : Int)) = false := decide_eq_false (by omega)
      have d4' : decide (b ≤ q) = false := decide_eq_false (by omega)
      have e2 : IntKind.i64.wrap ((q : Int) * (a : Int)) = (m1 : Int) := by rw [q2]; exact IntWalk.i64_in _ (by omega)
      have e2' : wrap64 ((q : Int) * (a : Int)) = (m1 : Int) := by rw [q2]; unfold wrap64; omega
      clear q2
      have e4 : IntKind.i64.wrap ((m1 : Int) + (i : Int)) = (K : Int) := by clear e2 e2'; rw [IntWalk.i64_in _ (by omega)]; omega
      have e4' : wrap64 ((m1 : Int) + (i : Int)) = (K : Int) := by clear e2 e2' e4; unfold wrap64; omega
      have l1 : (0 : Int) ≤ (K : Int) := by clear e2 e2' e4 e4'; omega
      have l2 : (K : Int) < (M : Int) := by clear e2 e2' e4 e4'; omega
      clear hK hqw hic hx
      go_wp2_with fail
      go_roundw
      case rel => exact ⟨j + 1, by go_num, by omega, (hbx.set (by omega)).of ((Below.refl _ _).alloc (Nat.le_refl _) _), by rw [← hst.out]; exact (own_setI hO hlt s).alloc _, by (repeat' (first | exact Below.refl _ _ | assumption | (refine Below.alloc ?_ ?_ _) | (refine Below.setCell ?_ ?_ _) | (refine Below.drew ?_) | (refine below_drewN ?_ _) | (refine below_after (Ext.below _) ?_ ?_) | (refine below_after (by assumption) ?_ ?_) | (simp; done) | omega | (simp; omega)))⟩
      case measure => simp [intOf]; omega
    · obtain rfl : j = k := by omega
      have dj : decide ((j : Int) < j) = false := decide_eq_false (by omega)
      have dj' : decide (j < j) = false := decide_eq_false (by omega)
      have hRo := hO.rd encI_len
      rw [List.take_of_length_le (by rw [hRl.out]; exact Nat.le_refl _)] at hRo
      go_wp2_with fail
      go_ret2
      exact ⟨_, rfl, hRo, by (repeat' (first | exact Below.refl _ _ | assumption | (refine Below.alloc ?_ ?_ _) | (refine Below.setCell ?_ ?_ _) | (refine Below.drew ?_) | (refine below_drewN ?_ _) | (refine below_after (Ext.below _) ?_ ?_) | (refine below_after (by assumption) ?_ ?_) | (simp; done) | omega | (simp; omega)))⟩
set_option maxHeartbeats 4000000 in
theorem prb_states_no (a b : Nat) (G DX DY : Int) (P D : Option Addr) (ns cs k e : Nat) (p : List (Int × Int × Int)) (w : World) (ha : 1 ≤ a ∧ a ≤ 16) (hb : 1 ≤ b ∧ b ≤ 16) (hm : b * a ≤ 16) (hR : Rd encC 3 w D k p) (hr : rightC p = true) (hi : inPB a b p = false) :
    Calls Tryd.prog 26 #[.agg #[.int .i64 a, .int .i64 b, .int .i64 G, .int .i64 DX, .int .i64 DY, .slice P ns cs], .slice D k e] w fun e' w' => e' = .returned (.tuple #[.slice none 0 0, .bool false]) ∧ Below w.heap.size w w' := by
  have hk5 : k ≤ 5000 := by rw [← hR.len]; exact (rightC_ok hr).1
  obtain ⟨M, hMM⟩ : ∃ M, b * a = M := ⟨_, rfl⟩
  have hsr := Lib.hid (rightC_sorted hr)
  have hRl := Lib.hid hR.len
  have hi := Lib.hid hi
  have q2 : (a : Int) * (b : Int) = (M : Int) := by rw [← hMM, Nat.mul_comm]; exact (Int.natCast_mul a b).symm
  rw [hMM] at hm
  clear hr
  replace hMM := Lib.hid hMM
  have e2 : IntKind.i64.wrap ((a : Int) * (b : Int)) = (M : Int) := by rw [q2]; exact IntWalk.i64_in _ (by omega)
  have e2' : wrap64 ((a : Int) * (b : Int)) = (M : Int) := by rw [q2]; unfold wrap64; omega
  clear q2
  have hmk := fun w => run_make_ints Tryd.underlying26 M (by clear e2 e2'; omega) w
  go_enter Tryd.func26, Tryd.ntmps26
  go_wp2_with fail
  have hbx := (PbAt.new w (a : Int) (b : Int) G DX DY (.slice P ns cs) 28)
  have hbe : Below w.heap.size w (w.alloc (.cells #[.int .i64 (a : Int), .int .i64 (b : Int), .int .i64 G, .int .i64 DX, .int .i64 DY, .slice P ns cs] 28)) := by (repeat' (first | exact Below.refl _ _ | assumption | (refine Below.alloc ?_ ?_ _) | (refine Below.setCell ?_ ?_ _) | (refine Below.drew ?_) | (refine below_drewN ?_ _) | (refine below_after (Ext.below _) ?_ ?_) | (refine below_after (by assumption) ?_ ?_) | (simp; done) | omega | (simp; omega)))
  have hO0 := own_made (w.alloc (.cells #[.int .i64 (a : Int), .int .i64 (b : Int), .int .i64 G, .int .i64 DX, .int .i64 DY, .slice P ns cs] 28)) 3 (w.heap.size + 1) (by simp) M (by clear e2 e2'; omega)
  rw [World.size_alloc] at hO0
  obtain ⟨we, hwe⟩ : ∃ we, we = w.alloc (.cells #[.int .i64 (a : Int), .int .i64 (b : Int), .int .i64 G, .int .i64 DX, .int .i64 DY, .slice P ns cs] 28) := ⟨_, rfl⟩
  have hse : we.heap.size = w.heap.size + 1 := by rw [hwe]; simp
  rw [← hwe] at hbx hbe hO0 ⊢
  clear hwe
  clear hmk e2 e2'
  go_loopw [17] (fun t wr => ∃ j : Nat, t = .int .i64 j ∧ j ≤ k ∧ PbAt wr w.heap.size a b G DX DY (.slice P ns cs) ∧ Own encI 1 3 (w.heap.size + 1) wr (some ⟨w.heap.size + 1, 0, none⟩) M M (gridL (p.take j) 0 0 a b) ∧ Hid (∀ (i : Nat) c, i < j → p[i]? = some c → 0 ≤ c.1 ∧ c.1 < (a : Int) ∧ 0 ≤ c.2.1 ∧ c.2.1 < (b : Int)) ∧ Below w.heap.size w wr) (fun t _ => k - (intOf t).toNat)
  case atStart => exact ⟨0, rfl, by omega, hbx.of ((Below.refl _ _).alloc (Nat.le_refl _) _), by rw [List.take_zero, grid_zero, hMM.out]; exact hO0, Lib.hid (fun i c h => absurd h (by omega)), hbe.alloc (by omega) _⟩
  case round =>
    clear hO0 hbx
    obtain ⟨j, rfl, hj, hbx, hO, hal, hb⟩ := hrel
    have hsz := hb.size
    obtain ⟨hbs, hb0, hb1, -, -, -, hb5⟩ := hbx.open
    by_cases hlj : j < k
    · have dj : decide ((j : Int) < k) = true := decide_eq_true (by omega)
      have dj' : decide (j < k) = true := decide_eq_true hlj
      obtain ⟨x, y, s, bo, o, hx, rfl, hbo, g1, g2, g3⟩ := (hR.of hb).cell hlj
      by_cases hno : ¬(0 ≤ x ∧ x < (a : Int) ∧ 0 ≤ y ∧ y < (b : Int))
      · have hways : decide (x < 0) = true ∨ (decide (x < 0) = false ∧ decide ((a : Int) ≤ x) = true) ∨ (decide (x < 0) = false ∧ decide ((a : Int) ≤ x) = false ∧ decide (y < 0) = true) ∨ (decide (x < 0) = false ∧ decide ((a : Int) ≤ x) = false ∧ decide (y < 0) = false ∧ decide ((b : Int) ≤ y) = true) := by
          simp only [decide_eq_true_eq, decide_eq_false_iff_not]; omega
        clear hno hO
        rcases hways with d1 | ⟨d1, d2⟩ | ⟨d1, d2, d3⟩ | ⟨d1, d2, d3, d4⟩
        all_goals
          go_wp2_with fail
          go_ret2
          exact ⟨rfl, by (repeat' (first | exact Below.refl _ _ | assumption | (refine Below.alloc ?_ ?_ _) | (refine Below.setCell ?_ ?_ _) | (refine Below.drew ?_) | (refine below_drewN ?_ _) | (refine below_after (Ext.below _) ?_ ?_) | (refine below_after (by assumption) ?_ ?_) | (simp; done) | omega | (simp; omega)))⟩
      have hic : 0 ≤ x ∧ x < (a : Int) ∧ 0 ≤ y ∧ y < (b : Int) := Decidable.not_not.1 hno
      clear hno
      have hals := Lib.hid (show ∀ (i : Nat) c, i < j + 1 → p[i]? = some c → 0 ≤ c.1 ∧ c.1 < (a : Int) ∧ 0 ≤ c.2.1 ∧ c.2.1 < (b : Int) from fun i c hi hc => by
        by_cases e : i = j
        · subst e; rw [hx.out] at hc; cases hc; exact hic
        · exact hal.out i c (by omega) hc)
      obtain ⟨i, rfl⟩ : ∃ i : Nat, x = (i : Nat) := ⟨x.toNat, by omega⟩
      obtain ⟨q, rfl⟩ : ∃ q : Nat, y = (q : Nat) := ⟨y.toNat, by omega⟩
      have hiW : i < a := by omega
      have hqh : q < b := by omega
      have hst := Lib.hid (grid_set (X := 0) (Y := 0) (W := a) (h := b) hsr.out hx.out hiW hqh (by omega) (by omega))
      have hlt := grid_lt hiW hqh
      rw [hMM.out] at hlt
      have hqw : q * a ≤ M := by omega
      obtain ⟨m1, hm1⟩ : ∃ m1, q * a = m1 := ⟨_, rfl⟩
      have q2 : (q : Int) * (a : Int) = (m1 : Int) := by rw [← hm1]; exact (Int.natCast_mul q a).symm
      rw [hm1] at hlt hqw hst
      obtain ⟨K, hK⟩ : ∃ K, m1 + i = K := ⟨_, rfl⟩
      rw [hK] at hlt hst
      clear hm1
      obtain ⟨v, _, hg0, hc0, hz0, _, _⟩ := hO.intCell hlt
      have d1 : decide ((i : Int) < 0) = false := decide_eq_false (by omega)
      have d2 : decide ((a : Int) ≤ (i : Int)) = false := decide_eq_false (by omega)
      have d2' : decide (a ≤ i) = false := decide_eq_false (by omega)
      have d3 : decide ((q : Int) < 0) = false := decide_eq_false (by omega)
      have d4 : decide ((b : Int) ≤ (q : Int)) = false := decide_eq_false (by omega)
      have d4' : decide (b ≤ q) = false := decide_eq_false (by omega)
      have e2 : IntKind.i64.wrap ((q : Int) * (a : Int)) = (m1 : Int) := by rw [q2]; exact IntWalk.i64_in _ (by omega)
      have e2' : wrap64 ((q : Int) * (a : Int)) = (m1 : Int) := by rw [q2]; unfold wrap64; omega
      clear q2
      have e4 : IntKind.i64.wrap ((m1 : Int) + (i : Int)) = (K : Int) := by clear e2 e2'; rw [IntWalk.i64_in _ (by omega)]; omega
      have e4' : wrap64 ((m1 : Int) + (i : Int)) = (K : Int) := by clear e2 e2' e4; unfold wrap64; omega
      have l1 : (0 : Int) ≤ (K : Int) := by clear e2 e2' e4 e4'; omega
      have l2 : (K : Int) < (M : Int) := by clear e2 e2' e4 e4'; omega
      clear hK hqw hic hx
      go_wp2_with fail
      go_roundw
      case rel => exact ⟨j + 1, by go_num, by omega, (hbx.set (by omega)).of ((Below.refl _ _).alloc (Nat.le_refl _) _), by rw [← hst.out]; exact (own_setI hO hlt s).alloc _, hals, by (repeat' (first | exact Below.refl _ _ | assumption | (refine Below.alloc ?_ ?_ _) | (refine Below.setCell ?_ ?_ _) | (refine Below.drew ?_) | (refine below_drewN ?_ _) | (refine below_after (Ext.below _) ?_ ?_) | (refine below_after (by assumption) ?_ ?_) | (simp; done) | omega | (simp; omega)))⟩
      case measure => simp [intOf]; omega
    · obtain rfl : j = k := by omega
      have dj : decide ((j : Int) < j) = false := decide_eq_false (by omega)
      have dj' : decide (j < j) = false := decide_eq_false (by omega)
      exfalso
      have := inPB_yes (W := a) (H := b) (p := p) (fun i c hc => hal.out i c (by have := (List.getElem?_eq_some_iff.1 hc).1; rw [hRl.out] at this; exact this) hc)
      rw [hi.out] at this
      cases this
end Go.Proofs.YtnhapgbjaeaamaaDoor
end
section
namespace Go.Proofs.YtnhapgbjaeaamaaDoor
open Go Go.RowKit
set_option maxRecDepth 100000
set_option linter.unusedSimpArgs false
set_option linter.unusedVariables false
theorem getD_some {g : List Int} {i : Nat} {x : Int} (h : g[i]? = some x) : g.getD i 0 = x := by rw [List.getD_eq_getElem?_getD, h]; rfl
set_option maxHeartbeats 8000000 in
theorem prb_symmetric (a b k : Nat) (G DX DY : Int) (P Q : Option Addr) (ns cs nq cq : Nat) (g : List Int) (w : World) (hM : Mx w) (ha : 1 ≤ a ∧ a ≤ 16) (hb : 1 ≤ b ∧ b ≤ 16) (hm : b * a ≤ 16) (hk : okK a b k) (hQ : Rd encI 1 w Q nq g) (hn : nq = b * a) :
    Calls Tryd.prog 29 #[.agg #[.int .i64 a, .int .i64 b, .int .i64 G, .int .i64 DX, .int .i64 DY, .slice P ns cs], .int .i64 (k : Int), .slice Q nq cq] w fun e w' => e = .returned (.bool (symG a b k g)) ∧ Below w.heap.size w w' := by
  have s0 := Lib.hid (fun i (hi : i < b * a) (h : g.getD (idx a b k i) 0 ≠ g.getD i 0) => symG_no (a := a) (b := b) (k := k) (g := g) hi h)
  have s1 := Lib.hid (fun (h : ∀ i, i < b * a → g.getD (idx a b k i) 0 = g.getD i 0) => symG_yes (a := a) (b := b) (k := k) (g := g) h)
  generalize symG a b k g = r at s0 s1 ⊢
  obtain ⟨N, hN⟩ : ∃ N, b * a = N := ⟨_, rfl⟩
  rw [hN] at s0 s1 hm hn
  subst hn
  replace hN := Lib.hid hN
  have hko := Lib.hid hk
  have hk8 := hk.1
  clear hk
  go_enter Tryd.func29, Tryd.ntmps29
  go_wp2_with fail
  have hbx := PbAt.new w (a : Int) (b : Int) G DX DY (.slice P ns cs) 28
  have hbe : Below w.heap.size w (w.alloc (.cells #[.int .i64 (a : Int), .int .i64 (b : Int), .int .i64 G, .int .i64 DX, .int .i64 DY, .slice P ns cs] 28)) := by (repeat' (first | exact Below.refl _ _ | assumption | (refine Below.alloc ?_ ?_ _) | (refine Below.setCell ?_ ?_ _) | (refine Below.drew ?_) | (refine below_drewN ?_ _) | (refine below_after (Ext.below _) ?_ ?_) | (refine below_after (by assumption) ?_ ?_) | (simp; done) | omega | (simp; omega)))
  obtain ⟨we, hwe⟩ : ∃ we, we = w.alloc (.cells #[.int .i64 (a : Int), .int .i64 (b : Int), .int .i64 G, .int .i64 DX, .int .i64 DY, .slice P ns cs] 28) := ⟨_, rfl⟩
  have hse : we.heap.size = w.heap.size + 1 := by rw [hwe]; simp
  rw [← hwe] at hbx hbe ⊢
  replace hQ := hQ.of hbe
  replace hM := hM.of hbe
  clear hwe
  go_loopw [12] (fun t wr => ∃ j : Nat, t = .int .i64 j ∧ j ≤ nq ∧ Hid (∀ i, i < j → g.getD (idx a b k i) 0 = g.getD i 0) ∧ Below we.heap.size we wr) (fun t _ => nq - (intOf t).toNat)
  case atStart => exact ⟨0, rfl, by omega, Lib.hid (fun i hi => absurd hi (by omega)), Below.refl _ _⟩
  case round =>
    obtain ⟨j, rfl, hj, hal, hb0⟩ := hrel
    have hsz := hb0.size
    obtain ⟨hbs, p0, p1, p2, p3, p4, p5⟩ := (hbx.of hb0).open
    have hM0 := hM.of hb0
    by_cases hlj : j < nq
    · have dj : decide ((j : Int) < nq) = true := decide_eq_true (by omega)
      have dj' : decide (j < nq) = true := decide_eq_true hlj
      obtain ⟨x, bo, o, hx, rfl, hbo, hcell⟩ := (hQ.of hb0).int hlj
      obtain ⟨ha0, hx1, hy1⟩ := split_lt (a := a) (b := b) (i := j) (by rw [hN.out]; exact hlj)
      have hil := idx_lt (a := a) (b := b) (r := k) (i := j) (by rw [hN.out]; exact hlj) hko.out
      have hid0 : idx a b k j = (plc a b k (j % a) (j / a)).2 * a + (plc a b k (j % a) (j / a)).1 := rfl
      rw [hN.out] at hil
      obtain ⟨u, hu⟩ : ∃ u, (plc a b k (j % a) (j / a)).1 = u := ⟨_, rfl⟩
      obtain ⟨v, hv⟩ : ∃ v, (plc a b k (j % a) (j / a)).2 = v := ⟨_, rfl⟩
      have kW := fun w1 h1 => sym_WithinP (a := a) (b := b) (k := k) (by omega) (by omega) hx1 hy1 hko.out hu hv w1 h1
      rw [hu, hv] at hid0
      obtain ⟨K, hK⟩ : ∃ K, idx a b k j = K := ⟨_, rfl⟩
      have s0j := Lib.hid (s0.out j hlj)
      have hst := Lib.hid (fun h => show ∀ i, i < j + 1 → g.getD (idx a b k i) 0 = g.getD i 0 from fun i hi => by
        by_cases e : i = j
        · subst e; exact h
        · exact hal.out i (by omega))
      rw [hK] at hil hid0 s0j hst
      obtain ⟨KM, hKM⟩ : ∃ r, r = j % a := ⟨_, rfl⟩
      obtain ⟨KD, hKD⟩ : ∃ r, r = j / a := ⟨_, rfl⟩
      have t1 : (j : Int).tmod (a : Int) = (KM : Int) := by rw [hKM]; rfl
      have t2 : (j : Int).tdiv (a : Int) = (KD : Int) := by rw [hKD]; rfl
      rw [← hKM, ← hKD] at kW
      rw [← hKD] at hy1
      have e0 : IntKind.i64.wrap (KD : Int) = (KD : Int) := IntWalk.i64_in _ (by omega)
      have e00 : wrap64 (KD : Int) = (KD : Int) := by unfold wrap64; omega
      have hw0 : ((a : Int) == 0) = false := by simp; omega
      have hw1 : (a : Int) ≠ 0 := by omega
      have hw2 : a ≠ 0 := by omega
      have hw3 : decide (a = 0) = false := decide_eq_false hw2
      have hva : v * a ≤ 16 := by omega
      obtain ⟨m1, hm1⟩ : ∃ m1, v * a = m1 := ⟨_, rfl⟩
      have q2 : (v : Int) * (a : Int) = (m1 : Int) := by rw [← hm1]; exact (Int.natCast_mul v a).symm
      rw [hm1] at hid0 hva
      have f2 : IntKind.i64.wrap ((v : Int) * (a : Int)) = (m1 : Int) := by rw [q2]; exact IntWalk.i64_in _ (by omega)
      have f2' : wrap64 ((v : Int) * (a : Int)) = (m1 : Int) := by rw [q2]; unfold wrap64; omega
      clear q2 hm1
      have f4 : IntKind.i64.wrap ((m1 : Int) + (u : Int)) = (K : Int) := by clear f2 f2'; rw [IntWalk.i64_in _ (by omega)]; omega
      have f4' : wrap64 ((m1 : Int) + (u : Int)) = (K : Int) := by clear f2 f2' f4; unfold wrap64; omega
      have l1 : (0 : Int) ≤ (K : Int) := by clear f2 f2' f4 f4'; omega
      have l2 : (K : Int) < (nq : Int) := by clear f2 f2' f4 f4'; omega
      obtain ⟨y, bo2, o2, hy, he, hbo2, hcell2⟩ := (hQ.of hb0).int hil
      injection he with he
      injection he with he1 he2
      subst he1 he2
      have hgx := getD_some hx.out
      have hgy := getD_some hy.out
      rw [hgx, hgy] at s0j
      rw [hgx, hgy] at hst
      clear hx1 hid0 hu hv hK hKM hKD hgx hgy hx hy
      go_wp2_with fail
      (refine' wp_region_fresh1 [false, false, false, false, false, false, false, false, false, false, false, false, false, true, true] 13 14 9 29 56 (.agg #[.int .i64 0, .int .i64 0]) _ (fun u hu => ?hqh5) (by kernel_rfl) (by kernel_rfl) (by kernel_rfl) (by kernel_rfl) rfl rfl Tryd.zeroValue56 ?s1h5 ?s2h5 ?s3h5 ?s4h5 ?s5h5 ?s6h5 ?finh5; (case hqh5 => (obtain ⟨hcu, hfu⟩ := bcell hu; have hsu := hu.size; simp only [stripM, blankO]; (repeat (go_big_quiet_step (first | (go_at_call 44; exact calls_ext (prb_area _ _ _ _ _ _ _)) | (go_at_call 39; exact calls_ext (kW _ (hM0.of (by (repeat' (first | exact Below.refl _ _ | assumption | (refine Below.alloc ?_ ?_ _) | (refine Below.setCell ?_ ?_ _) | (refine Below.drew ?_) | (refine below_drewN ?_ _) | (refine below_after (Ext.below _) ?_ ?_) | (refine below_after (by assumption) ?_ ?_) | (simp; done) | omega | (simp; omega)))))))))); refine wpQuiet_nil ?_; rfl)); (case s1h5 => rfl); (case s2h5 => simp); (case s3h5 => rfl); (case s4h5 => kernel_rfl); (case s5h5 => rfl); (case s6h5 => simp [Value.oneCell']); intro bk5 w5 hbl5 hbh5 hb5 hh5; obtain ⟨hc5, hf5⟩ := bcell hb5; have hs5 := hb5.size; have hk5 := cellOf_row hh5; have hl5 := frozenOf_row hh5; clear hh5; (try simp only [World.size_alloc, World.size_setCell, World.size_drew] at hc5 hf5); (try simp at hs5 hbl5); simp only [Act.put, List.setIfInBounds_toArray, List.set_cons_zero, List.set_cons_succ])
      by_cases hxy : y = x
      · have t3 : (y != x) = false := by simpa using hxy
        go_wp2_with fail
        go_roundw
        case rel => exact ⟨j + 1, by go_num, by omega, Lib.hid (hst.out hxy), by (repeat' (first | exact Below.refl _ _ | assumption | (refine Below.alloc ?_ ?_ _) | (refine Below.setCell ?_ ?_ _) | (refine Below.drew ?_) | (refine below_drewN ?_ _) | (refine below_after (Ext.below _) ?_ ?_) | (refine below_after (by assumption) ?_ ?_) | (simp; done) | omega | (simp; omega)))⟩
        case measure => simp [intOf]; omega
      · have t3 : (y != x) = true := by simpa using hxy
        have hE := Lib.hid (s0j.out hxy)
        go_wp2_with fail
        go_ret
        exact ⟨ret_bool hE.out.symm, by (repeat' (first | exact Below.refl _ _ | assumption | (refine Below.alloc ?_ ?_ _) | (refine Below.setCell ?_ ?_ _) | (refine Below.drew ?_) | (refine below_drewN ?_ _) | (refine below_after (Ext.below _) ?_ ?_) | (refine below_after (by assumption) ?_ ?_) | (simp; done) | omega | (simp; omega)))⟩
    · obtain rfl : j = nq := by omega
      have dj : decide ((j : Int) < j) = false := decide_eq_false (by omega)
      have dj' : decide (j < j) = false := decide_eq_false (by omega)
      have hE := Lib.hid (s1.out hal.out)
      go_wp2_with fail
      go_ret
      exact ⟨ret_bool hE.out.symm, by (repeat' (first | exact Below.refl _ _ | assumption | (refine Below.alloc ?_ ?_ _) | (refine Below.setCell ?_ ?_ _) | (refine Below.drew ?_) | (refine below_drewN ?_ _) | (refine below_after (Ext.below _) ?_ ?_) | (refine below_after (by assumption) ?_ ?_) | (simp; done) | omega | (simp; omega)))⟩
end Go.Proofs.YtnhapgbjaeaamaaDoor
end
section
namespace Go.Proofs.YtnhapgbjaeaamaaDoor
open Go Go.RowKit
set_option maxRecDepth 100000
set_option linter.unusedSimpArgs false
set_option linter.unusedVariables false
theorem any_yes' {α : Type} {p : α → Bool} {l : List α} {i : Nat} {x : α} (h : l[i]? = some x) (hp : p x = true) : l.any p = true := List.any_eq_true.2 ⟨x, List.mem_of_getElem? h, hp⟩
theorem any_none' {α : Type} {p : α → Bool} {l : List α} {n : Nat} (hl : l.length = n) (h : ∀ i x, i < n → l[i]? = some x → p x = false) : l.any p = false := by
  rw [List.any_eq_false]
  intro x hx
  obtain ⟨i, hi, e⟩ := List.getElem_of_mem hx
  rw [h i x (by omega) (by rw [List.getElem?_eq_getElem hi, e])]
  simp
theorem none_step' {α : Type} {p : α → Bool} {l : List α} {j : Nat} {a : α} (h : ∀ i x, i < j → l[i]? = some x → p x = false) (hx : l[j]? = some a) (ha : p a = false) : ∀ i x, i < j + 1 → l[i]? = some x → p x = false := by
  intro i x hi hy
  by_cases e : i = j
  · rw [e, hx] at hy; cases hy; exact ha
  · exact h i x (by omega) hy
section
variable (a b : Nat) (G DX DY : Int) (P Q : Option Addr) (ns cs nq cq : Nat) (g S : List Int) (bp bl : Nat) (w : World)
set_option maxHeartbeats 4000000 in
theorem prb_solves1 (k : Nat) (hM : Mx w) (ha : 1 ≤ a ∧ a ≤ 16) (hb : 1 ≤ b ∧ b ≤ 16) (hm : b * a ≤ 16) (hk : okK a b k) (hQ : Rd encI 1 w Q nq g) (hn : nq = b * a) (hbp : PbAt w bp a b G DX DY (.slice P ns cs)) (hl : w.cell? ⟨bl, 0, none⟩ = some (.slice Q nq cq)) (hbl : bl < w.heap.size) :
    Calls Tryd.prog 28 #[.int .i64 (k : Int), .pointer (some ⟨bp, 0, none⟩), .pointer (some ⟨bl, 0, none⟩)] w fun e w' => e = .returned (.bool (symX a b g (k : Int))) ∧ Below w.heap.size w w' := by
  have kS := fun w1 h1 h2 => prb_symmetric a b k G DX DY P Q ns cs nq cq g w1 h1 ha hb hm hk h2 hn
  replace hn := Lib.hid hn
  have hE := Lib.hid (show symX a b g (k : Int) = !symG a b k g by unfold symX; rw [Int.toNat_natCast])
  generalize symG a b k g = r at kS hE
  obtain ⟨hbs, p0, p1, p2, p3, p4, p5⟩ := hbp.open
  go_enter Tryd.func28, Tryd.ntmps28
  go_wp2_with fail; go_at_call 29; refine (kS _ hM hQ).mono ?_; rintro e w1 ⟨rfl, hb1⟩; have hs1 := hb1.size; (try simp only [World.size_alloc, World.size_drew, World.size_setCell] at hs1)
  go_wp2_with fail
  go_ret
  exact ⟨ret_bool hE.out.symm, by (repeat' (first | exact Below.refl _ _ | assumption | (refine Below.alloc ?_ ?_ _) | (refine Below.setCell ?_ ?_ _) | (refine Below.drew ?_) | (refine below_drewN ?_ _) | (refine below_after (Ext.below _) ?_ ?_) | (refine below_after (by assumption) ?_ ?_) | (simp; done) | omega | (simp; omega)))⟩
set_option maxHeartbeats 4000000 in
theorem indexFunc_sym (hM : Mx w) (ha : 1 ≤ a ∧ a ≤ 16) (hb : 1 ≤ b ∧ b ≤ 16) (hm : b * a ≤ 16) (hs : symsB a b S = true) (hR : Rd encI 1 w P ns S) (hns : ns ≤ 1000000) (hQ : Rd encI 1 w Q nq g) (hn : nq = b * a) (hbp : PbAt w bp a b G DX DY (.slice P ns cs)) (hl : w.cell? ⟨bl, 0, none⟩ = some (.slice Q nq cq)) (hbl : bl < w.heap.size) :
    Calls Tryd.prog 43 #[.slice P ns cs, .func (.func 28) #[] #[.pointer (some ⟨bp, 0, none⟩), .pointer (some ⟨bl, 0, none⟩)]] w fun e w' => ∃ r : Int, e = .returned (.int .i64 r) ∧ Hid (S.any (symX a b g) = decide (0 ≤ r)) ∧ Below w.heap.size w w' := by
  have hS := Lib.hid (fun s h => syms_ok hs (s := s) h)
  have hRl := Lib.hid hR.len
  replace hn := Lib.hid hn
  clear hs
  go_enter Tryd.func43, Tryd.ntmps43
  go_wp2
  go_loopw [8] (fun i wr => ∃ j : Nat, j ≤ ns ∧ i = .int .i64 j ∧ Below w.heap.size w wr ∧ Hid (∀ i x, i < j → S[i]? = some x → symX a b g x = false)) (fun i _ => ns - (intOf i).toNat)
  case atStart => exact ⟨0, by omega, rfl, Below.refl _ _, fun r x hr => absurd hr (by omega)⟩
  case round =>
    obtain ⟨j, hj, rfl, hb0, hno⟩ := hrel
    have hsz := hb0.size
    by_cases hlt : j < ns
    · obtain ⟨x, bo, o, hx, rfl, hbo, hcell⟩ := (hR.of hb0).int hlt
      have hxo := hS.out _ (List.mem_of_getElem? hx.out)
      have hko := okK_of hxo
      obtain ⟨k, rfl⟩ : ∃ k : Nat, x = (k : Int) := ⟨x.toNat, by omega⟩
      rw [Int.toNat_natCast] at hko
      have hsy := prb_solves1 a b G DX DY _ Q ns cs nq cq g bp bl wr k (hM.of hb0) ha hb hm hko (hQ.of hb0) hn.out (hbp.of hb0) ((hb0.cell (p := ⟨bl, 0, none⟩) hbl).trans hl) (by omega)
      cases hq : symX a b g (k : Int) with
      | true =>
        rw [hq] at hsy
        go_wp2_with fail; go_at_call 28; refine (hsy).mono ?_; rintro e w1 ⟨rfl, hb1⟩; have hs1 := hb1.size; (try simp only [World.size_alloc, World.size_drew, World.size_setCell] at hs1)
        go_wp2_with fail
        go_ret
        exact ⟨_, rfl, by show _ = _; rw [show S.any (symX a b g) = true from any_yes' hx.out hq]; simp, by (repeat' (first | exact Below.refl _ _ | assumption | (refine Below.alloc ?_ ?_ _) | (refine Below.setCell ?_ ?_ _) | (refine Below.drew ?_) | (refine below_drewN ?_ _) | (refine below_after (Ext.below _) ?_ ?_) | (refine below_after (by assumption) ?_ ?_) | (simp; done) | omega | (simp; omega)))⟩
      | false =>
        rw [hq] at hsy
        go_wp2_with fail; go_at_call 28; refine (hsy).mono ?_; rintro e w1 ⟨rfl, hb1⟩; have hs1 := hb1.size; (try simp only [World.size_alloc, World.size_drew, World.size_setCell] at hs1)
        go_wp2_with fail
        go_roundw
        case rel => exact ⟨j + 1, by omega, by go_num, (by (repeat' (first | exact Below.refl _ _ | assumption | (refine Below.alloc ?_ ?_ _) | (refine Below.setCell ?_ ?_ _) | (refine Below.drew ?_) | (refine below_drewN ?_ _) | (refine below_after (Ext.below _) ?_ ?_) | (refine below_after (by assumption) ?_ ?_) | (simp; done) | omega | (simp; omega)))), none_step' hno.out hx.out hq⟩
        case measure => simp [intOf]; omega
    · obtain rfl : j = ns := by omega
      go_wp2
      go_ret
      exact ⟨_, rfl, by show _ = _; rw [show S.any (symX a b g) = false from any_none' hRl.out hno.out]; simp, hb0⟩
theorem containsFunc_sym (hM : Mx w) (ha : 1 ≤ a ∧ a ≤ 16) (hb : 1 ≤ b ∧ b ≤ 16) (hm : b * a ≤ 16) (hs : symsB a b S = true) (hR : Rd encI 1 w P ns S) (hns : ns ≤ 1000000) (hQ : Rd encI 1 w Q nq g) (hn : nq = b * a) (hbp : PbAt w bp a b G DX DY (.slice P ns cs)) (hl : w.cell? ⟨bl, 0, none⟩ = some (.slice Q nq cq)) (hbl : bl < w.heap.size) :
    Calls Tryd.prog 27 #[.slice P ns cs, .func (.func 28) #[] #[.pointer (some ⟨bp, 0, none⟩), .pointer (some ⟨bl, 0, none⟩)]] w fun e w' => e = .returned (.bool (S.any (symX a b g))) ∧ Below w.heap.size w w' := by
  replace hn := Lib.hid hn
  go_enter Tryd.func27, Tryd.ntmps27
  go_wp2_with (first | (go_at_call 43; refine (indexFunc_sym a b G DX DY P Q ns cs nq cq g S bp bl w hM ha hb hm hs hR hns hQ hn.out hbp hl hbl).mono ?_; rintro e w' ⟨r, rfl, hr, hbr⟩))
  go_ret
  exact ⟨ret_bool hr.out.symm, hbr⟩
end
end Go.Proofs.YtnhapgbjaeaamaaDoor
end
