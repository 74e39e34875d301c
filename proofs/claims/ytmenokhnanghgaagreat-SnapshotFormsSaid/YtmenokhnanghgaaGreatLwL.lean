/- Laws of chapter 55: contracts in the laws' shape. By mklaw55.py. -/
import Derived.Test.YtmenokhnanghgaaGreatAwk55
import Derived.Test.YtmenokhnanghgaaGreatFEW
namespace Go.Proofs.YtmenokhnanghgaaGreat
open Go Go.RowKit
set_option linter.unusedSimpArgs false
set_option linter.unusedVariables false
set_option maxRecDepth 100000
set_option linter.unusedSimpArgs false
set_option linter.unusedVariables false
theorem few_okT {H : List (Int × Int)} {N : List Nd} (h : fewT H N = true) : H.length ≤ 40 ∧ N.length ≤ 400 ∧ ∀ x ∈ N, x.2.length ≤ 1000000 := by
  unfold fewT at h
  rw [Bool.and_eq_true, Bool.and_eq_true, decide_eq_true_eq, decide_eq_true_eq] at h
  refine ⟨h.1.1, h.1.2, fun x hx => ?_⟩
  have := List.all_eq_true.1 h.2 x hx
  rw [decide_eq_true_eq] at this; omega
theorem tlB_smT {key : Int} {fs : List TFr} (h : tlB key fs = true) : SmT fs := by
  obtain ⟨K, _, _, _, _, hok⟩ := tlB_ok h
  intro f hf
  obtain ⟨j, hj, rfl⟩ := List.getElem_of_mem hf
  have hje : fs[j]? = some fs[j] := List.getElem?_eq_getElem hj
  obtain ⟨⟨g, fu, C, D⟩, hfj⟩ : ∃ q, q = fs[j] := ⟨_, rfl⟩
  rw [← hfj] at hje ⊢
  obtain ⟨_, _, _, k1, k2⟩ := (okT_iff hje).1 (hok j)
  cases fu with
  | true =>
    obtain ⟨r1, r2⟩ := k1 rfl
    have := (rightC_ok r1).1
    subst r2
    exact ⟨by show C.length ≤ 1000000; omega, by simp⟩
  | false =>
    obtain ⟨r1, r2⟩ := k2 rfl
    have := (rightG_ok (apE_right r1).2.1).1
    subst r2
    exact ⟨by simp, by show D.length ≤ 1000000; omega⟩
theorem tm_smT {data : List Int} (hd : ByL data) (h : tmE (unB data) = 0) : SmT (tmV (unB data)).2 := by
  have hV : tmV (unB data) = ((tmK (unB data)).1, (tmF (unB data)).1) := by unfold tmV; rw [if_pos h]
  rw [hV]
  exact tlB_smT (tim_form hd h).1
theorem ne_beq {v : Int} (h : v ≠ 0) : (v == 0) = false := by simpa using h
section
variable {w : World} {A B : Option Addr} {n m c d : Nat} {l : List Cel} {st key : Int} {H : List (Int × Int)} {N : List Nd} {Q : List Qd} {fs : List TFr} {data : List Int}
theorem pat0 (hR : Rd encC 3 w A n l) (hn : n ≤ 1000000) (h : fpE l = 0) : Calls Tryz.prog 10 #[.slice A n c] w fun e w' => ∃ A' n' c', e = .returned (.tuple #[.slice A' n' c', .int .i64 0]) ∧ Rd encU 1 w' A' n' (fpL l) ∧ Below w.heap.size w w' := by
  have k := snp_Pattern A n c l w hR (by omega); rwa [h] at k
theorem patX (hR : Rd encC 3 w A n l) (hn : n ≤ 1000000) (h : fpE l ≠ 0) : Calls Tryz.prog 10 #[.slice A n c] w fun e w' => ∃ A' n' c' v, e = .returned (.tuple #[.slice A' n' c', .int .i64 v]) ∧ (v == 0) = false ∧ Below w.heap.size w w' := by
  refine (snp_Pattern A n c l w hR (by omega)).mono ?_
  rintro e w' ⟨A', n', c', rfl, _, hb⟩
  exact ⟨A', n', c', _, rfl, ne_beq h, hb⟩
theorem tpt0 (hR : Rd encU 1 w A n data) (hd : ByL data) (hn : n ≤ 65536) (h : tpE (unB data) = 0) : Calls Tryz.prog 12 #[.slice A n c] w fun e w' => ∃ A' n' c', e = .returned (.tuple #[.slice A' n' c', .int .i64 0]) ∧ Rd encC 3 w' A' n' (tpL (unB data)) ∧ Below w.heap.size w w' := by
  have k := snp_TakePattern A n c data w hR hd hn; rwa [h] at k
theorem tptX (hR : Rd encU 1 w A n data) (hd : ByL data) (hn : n ≤ 65536) (h : tpE (unB data) ≠ 0) : Calls Tryz.prog 12 #[.slice A n c] w fun e w' => ∃ A' n' c' v, e = .returned (.tuple #[.slice A' n' c', .int .i64 v]) ∧ (v == 0) = false ∧ Below w.heap.size w w' := by
  refine (snp_TakePattern A n c data w hR hd hn).mono ?_
  rintro e w' ⟨A', n', c', rfl, _, hb⟩
  exact ⟨A', n', c', _, rfl, ne_beq h, hb⟩
theorem tptB (hR : Rd encU 1 w A n (fpL l)) (hl : l.length = m) (h : fpE l = 0) : Calls Tryz.prog 12 #[.slice A n c] w fun e w' => ∃ A' c', e = .returned (.tuple #[.slice A' m c', .int .i64 0]) ∧ Rd encC 3 w' A' m l ∧ Below w.heap.size w w' := by
  obtain ⟨k1, k2⟩ := fpL_by l
  obtain ⟨k3, k4⟩ := fp_back h
  refine (tpt0 hR k1 (by rw [← hR.len]; exact k2) k3).mono ?_
  rw [k4]
  rintro e w' ⟨A', n', c', rfl, hA, hb⟩
  obtain rfl : n' = m := by rw [← hA.len]; exact hl
  exact ⟨A', c', rfl, hA, hb⟩
theorem tre0 (hH : Rd encP 2 w A n H) (hN : RdX ekN w B m N) (hn : n ≤ 1000000) (hm : m ≤ 1000000) (h : ftE st H N = 0) : Calls Tryz.prog 17 #[.agg #[.int .i64 st, .slice A n c, .slice B m d]] w fun e w' => ∃ A' n' c', e = .returned (.tuple #[.slice A' n' c', .int .i64 0]) ∧ Rd encU 1 w' A' n' (ftL st H N) ∧ Below w.heap.size w w' := by
  have k := snp_Tree st A B n c m d H N w hH hN (by omega) (by omega); rwa [h] at k
theorem treX (hH : Rd encP 2 w A n H) (hN : RdX ekN w B m N) (hn : n ≤ 1000000) (hm : m ≤ 1000000) (h : ftE st H N ≠ 0) : Calls Tryz.prog 17 #[.agg #[.int .i64 st, .slice A n c, .slice B m d]] w fun e w' => ∃ A' n' c' v, e = .returned (.tuple #[.slice A' n' c', .int .i64 v]) ∧ (v == 0) = false ∧ Below w.heap.size w w' := by
  refine (snp_Tree st A B n c m d H N w hH hN (by omega) (by omega)).mono ?_
  rintro e w' ⟨A', n', c', rfl, _, hb⟩
  exact ⟨A', n', c', _, rfl, ne_beq h, hb⟩
theorem ttr0 (hR : Rd encU 1 w A n data) (hd : ByL data) (hn : n ≤ 65536) (h : ttE (unB data) = 0) : Calls Tryz.prog 19 #[.slice A n c] w fun e w' => ∃ s HA hn hc NA nn nc, e = .returned (.tuple #[.agg #[.int .i64 s, .slice HA hn hc, .slice NA nn nc], .int .i64 0]) ∧ Hid (s = (ttV (unB data)).1) ∧ Rd encP 2 w' HA hn (ttV (unB data)).2.1 ∧ RdX ekN w' NA nn (ttV (unB data)).2.2 ∧ Below w.heap.size w w' := by
  have k := snp_TakeTree A n c data w hR hd hn
  rw [h] at k
  refine k.mono ?_
  rintro e w' ⟨HA, hn, hc, NA, nn, nc, rfl, hH, hN, hb⟩
  exact ⟨_, HA, hn, hc, NA, nn, nc, rfl, Lib.hid rfl, hH, hN, hb⟩
theorem ttrX (hR : Rd encU 1 w A n data) (hd : ByL data) (hn : n ≤ 65536) (h : ttE (unB data) ≠ 0) : Calls Tryz.prog 19 #[.slice A n c] w fun e w' => ∃ s HA hn hc NA nn nc v, e = .returned (.tuple #[.agg #[.int .i64 s, .slice HA hn hc, .slice NA nn nc], .int .i64 v]) ∧ (v == 0) = false ∧ Below w.heap.size w w' := by
  refine (snp_TakeTree A n c data w hR hd hn).mono ?_
  rintro e w' ⟨HA, hn, hc, NA, nn, nc, rfl, _, _, hb⟩
  exact ⟨_, HA, hn, hc, NA, nn, nc, _, rfl, ne_beq h, hb⟩
theorem ttrB {p q : Nat} (hR : Rd encU 1 w A n (ftL st H N)) (hp : H.length = p) (hq : N.length = q) (h : ftE st H N = 0) : Calls Tryz.prog 19 #[.slice A n c] w fun e w' => ∃ HA hc NA nc, e = .returned (.tuple #[.agg #[.int .i64 st, .slice HA p hc, .slice NA q nc], .int .i64 0]) ∧ Rd encP 2 w' HA p H ∧ RdX ekN w' NA q N ∧ Below w.heap.size w w' := by
  obtain ⟨k1, k2⟩ := ftL_by st H N
  obtain ⟨k3, k4⟩ := ft_back h
  refine (ttr0 hR k1 (by rw [← hR.len]; exact k2) k3).mono ?_
  rw [k4]
  rintro e w' ⟨s, HA, hn, hc, NA, nn, nc, rfl, hs, hH, hN, hb⟩
  obtain rfl := hs.out
  obtain rfl : hn = p := by rw [← hH.len]; exact hp
  obtain rfl : nn = q := by rw [← hN.len]; exact hq
  exact ⟨HA, hc, NA, nc, rfl, hH, hN, hb⟩
theorem qua0 (hQ : Rd encQd 4 w A n Q) (hn : n ≤ 1000000) (h : fqE st Q = 0) : Calls Tryz.prog 22 #[.agg #[.int .i64 st, .slice A n c]] w fun e w' => ∃ A' n' c', e = .returned (.tuple #[.slice A' n' c', .int .i64 0]) ∧ Rd encU 1 w' A' n' (fqL st Q) ∧ Below w.heap.size w w' := by
  have k := snp_Quads st A n c Q w hQ (by omega); rwa [h] at k
theorem quaX (hQ : Rd encQd 4 w A n Q) (hn : n ≤ 1000000) (h : fqE st Q ≠ 0) : Calls Tryz.prog 22 #[.agg #[.int .i64 st, .slice A n c]] w fun e w' => ∃ A' n' c' v, e = .returned (.tuple #[.slice A' n' c', .int .i64 v]) ∧ (v == 0) = false ∧ Below w.heap.size w w' := by
  refine (snp_Quads st A n c Q w hQ (by omega)).mono ?_
  rintro e w' ⟨A', n', c', rfl, _, hb⟩
  exact ⟨A', n', c', _, rfl, ne_beq h, hb⟩
theorem tquB {p : Nat} (hR : Rd encU 1 w A n (fqL st Q)) (hp : Q.length = p) (h : fqE st Q = 0) : Calls Tryz.prog 24 #[.slice A n c] w fun e w' => ∃ NA nc, e = .returned (.tuple #[.agg #[.int .i64 st, .slice NA p nc], .int .i64 0]) ∧ Rd encQd 4 w' NA p Q ∧ Below w.heap.size w w' := by
  obtain ⟨k1, k2⟩ := fqL_by st Q
  obtain ⟨k3, k4⟩ := fq_back h
  have k := snp_TakeQuads A n c _ w hR k1 (by rw [← hR.len]; exact k2)
  rw [k3, k4] at k
  refine k.mono ?_
  rintro e w' ⟨NA, nn, nc, rfl, hN, hb⟩
  obtain rfl : nn = p := by rw [← hN.len]; exact hp
  exact ⟨NA, nc, rfl, hN, hb⟩
theorem tim0 (hF : RdX ekFr w A n fs) (hs : SmT fs) (h : fmE key fs = 0) : Calls Tryz.prog 28 #[.agg #[.int .i64 key, .slice A n c]] w fun e w' => ∃ A' n' c', e = .returned (.tuple #[.slice A' n' c', .int .i64 0]) ∧ Rd encU 1 w' A' n' (fmL key fs) ∧ Below w.heap.size w w' := by
  have k := snp_Timeline key A n c fs w hF hs; rwa [h] at k
theorem timX (hF : RdX ekFr w A n fs) (hs : SmT fs) (h : fmE key fs ≠ 0) : Calls Tryz.prog 28 #[.agg #[.int .i64 key, .slice A n c]] w fun e w' => ∃ A' n' c' v, e = .returned (.tuple #[.slice A' n' c', .int .i64 v]) ∧ (v == 0) = false ∧ Below w.heap.size w w' := by
  refine (snp_Timeline key A n c fs w hF hs).mono ?_
  rintro e w' ⟨A', n', c', rfl, _, hb⟩
  exact ⟨A', n', c', _, rfl, ne_beq h, hb⟩
theorem tti0 (hR : Rd encU 1 w A n data) (hd : ByL data) (hn : n ≤ 65536) (h : tmE (unB data) = 0) : Calls Tryz.prog 30 #[.slice A n c] w fun e w' => ∃ s NA nn nc, e = .returned (.tuple #[.agg #[.int .i64 s, .slice NA nn nc], .int .i64 0]) ∧ Hid (s = (tmV (unB data)).1) ∧ RdX ekFr w' NA nn (tmV (unB data)).2 ∧ Below w.heap.size w w' := by
  have k := snp_TakeTimeline A n c data w hR hd hn
  rw [h] at k
  refine k.mono ?_
  rintro e w' ⟨NA, nn, nc, rfl, hN, hb⟩
  exact ⟨_, NA, nn, nc, rfl, Lib.hid rfl, hN, hb⟩
theorem ttiX (hR : Rd encU 1 w A n data) (hd : ByL data) (hn : n ≤ 65536) (h : tmE (unB data) ≠ 0) : Calls Tryz.prog 30 #[.slice A n c] w fun e w' => ∃ s NA nn nc v, e = .returned (.tuple #[.agg #[.int .i64 s, .slice NA nn nc], .int .i64 v]) ∧ (v == 0) = false ∧ Below w.heap.size w w' := by
  refine (snp_TakeTimeline A n c data w hR hd hn).mono ?_
  rintro e w' ⟨NA, nn, nc, rfl, _, hb⟩
  exact ⟨_, NA, nn, nc, _, rfl, ne_beq h, hb⟩
theorem ttiB {p : Nat} (hR : Rd encU 1 w A n (fmL key fs)) (hp : fs.length = p) (h : fmE key fs = 0) : Calls Tryz.prog 30 #[.slice A n c] w fun e w' => ∃ NA nc, e = .returned (.tuple #[.agg #[.int .i64 key, .slice NA p nc], .int .i64 0]) ∧ RdX ekFr w' NA p fs ∧ Below w.heap.size w w' := by
  obtain ⟨k1, k2⟩ := fmL_by key fs
  obtain ⟨k3, k4⟩ := fm_back h
  refine (tti0 hR k1 (by rw [← hR.len]; exact k2) k3).mono ?_
  rw [k4]
  rintro e w' ⟨s, NA, nn, nc, rfl, hs, hN, hb⟩
  obtain rfl := hs.out
  obtain rfl : nn = p := by rw [← hN.len]; exact hp
  exact ⟨NA, nc, rfl, hN, hb⟩
/-- The forms of what was read: the program writes the bytes again. -/
theorem patF (hR : Rd encC 3 w A n (tpL (unB data))) (hd : ByL data) (hn : data.length ≤ 65536) (h : tpE (unB data) = 0) : Calls Tryz.prog 10 #[.slice A n c] w fun e w' => ∃ A' n' c', e = .returned (.tuple #[.slice A' n' c', .int .i64 0]) ∧ Rd encU 1 w' A' n' data ∧ Below w.heap.size w w' := by
  obtain ⟨k1, k2⟩ := tp_form hd hn h
  have hl := (rightC_ok (pat_form hd h).1).1
  have k := snp_Pattern A n c (tpL (unB data)) w hR (by rw [← hR.len]; omega)
  rwa [k1, k2] at k
theorem treF {s : Int} (hs : Hid (s = (ttV (unB data)).1)) (hH : Rd encP 2 w A n (ttV (unB data)).2.1) (hN : RdX ekN w B m (ttV (unB data)).2.2) (hd : ByL data) (hl : data.length ≤ 65536) (h : ttE (unB data) = 0) : Calls Tryz.prog 17 #[.agg #[.int .i64 s, .slice A n c, .slice B m d]] w fun e w' => ∃ A' n' c', e = .returned (.tuple #[.slice A' n' c', .int .i64 0]) ∧ Rd encU 1 w' A' n' data ∧ Below w.heap.size w w' := by
  obtain rfl := hs.out
  obtain ⟨k1, k2⟩ := tt_form hd hl h
  have hV : ttV (unB data) = (ttS (unB data), (ttH (unB data)).1, (ttN (unB data)).1) := by unfold ttV; rw [if_pos h]
  have kb := trR_bounds (tre_form hd h).1
  have hn : n ≤ 9223372036854775807 := by
    have hq := hH.len; have := kb.2.1; rw [hV] at hq; simp only at hq; omega
  have hm : m ≤ 9223372036854775807 := by
    have hq := hN.len; have := kb.2.2.2.1; rw [hV] at hq; simp only at hq; omega
  have k := snp_Tree (ttV (unB data)).1 A B n c m d (ttV (unB data)).2.1 (ttV (unB data)).2.2 w hH hN hn hm
  rwa [k1, k2] at k
theorem timF {s : Int} (hs : Hid (s = (tmV (unB data)).1)) (hN : RdX ekFr w A n (tmV (unB data)).2) (hd : ByL data) (hl : data.length ≤ 65536) (h : tmE (unB data) = 0) : Calls Tryz.prog 28 #[.agg #[.int .i64 s, .slice A n c]] w fun e w' => ∃ A' n' c', e = .returned (.tuple #[.slice A' n' c', .int .i64 0]) ∧ Rd encU 1 w' A' n' data ∧ Below w.heap.size w w' := by
  obtain rfl := hs.out
  obtain ⟨k1, k2⟩ := tm_form hd hl h
  have k := snp_Timeline (tmV (unB data)).1 A n c (tmV (unB data)).2 w hN (tm_smT hd h)
  rwa [k1, k2] at k
theorem same54 (ka : Int) {c d : Nat} (hF : RdX ekFr w A n fs) (hG : RdX ekFr w B m fs) (hs : SmT fs) (hn : n ≤ 1000000) : Calls Tryz.prog 32 #[.agg #[.int .i64 ka, .slice A n c], .agg #[.int .i64 ka, .slice B m d]] w fun e w' => e = .returned (.bool true) ∧ Below w.heap.size w w' := by
  have k := ref54_Same ka ka A B n c m d fs fs w hF hG hs hs hn
  rwa [tlS_selfA] at k
end
end Go.Proofs.YtmenokhnanghgaaGreat
