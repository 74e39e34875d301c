/- Law of chapter 55: timelines and their forms. By mklaw55.py. -/
import Derived.Test.YtmenokhnanghgaaGreatLwL
import Derived.Test.YtmenokhnanghgaaGreatLwN
import Derived.Test.YtmenokhnanghgaaGreatRgE
import Derived.Test.YtmenokhnanghgaaGreatRgH
namespace Go.Proofs.YtmenokhnanghgaaGreat
open Go Go.RowKit
set_option linter.unusedSimpArgs false
set_option linter.unusedVariables false
set_option maxRecDepth 100000
set_option linter.unusedSimpArgs false
set_option linter.unusedVariables false
set_option maxHeartbeats 64000000 in
theorem law_LwM (XA D : Option Addr) (n c k dc : Nat) (key : Int) (fs : List TFr) (data : List Int) (w : World) (hX : RdX ekFr w XA n fs) (hxn : n ≤ 9223372036854775807) (hD : Rd encU 1 w D k data) (hby : ByL data) :
    Calls Tryz.prog 6 #[.agg #[.int .i64 key, .slice XA n c], .slice D k dc] w fun e w' => e = .returned (.bool true) ∧ Below w.heap.size w w' := by
  have hXl := Lib.hid hX.len
  have hDl := Lib.hid hD.len
  replace hby := Lib.hid hby
  have hways : fewS fs = false ∨ (fewS fs = true ∧ decide (2000 < (k : Int)) = true) ∨ (fewS fs = true ∧ decide (2000 < (k : Int)) = false ∧ k ≤ 2000) := by
    simp only [decide_eq_true_eq, decide_eq_false_iff_not]
    cases fewS fs <;> simp <;> omega
  rcases hways with hf | ⟨hf, d1⟩ | ⟨hf, d1, hk⟩
  · skip
    go_enter Tryz.func6, Tryz.ntmps6
    have hB : Below w.heap.size w w := Below.refl _ _
    go_wp2_with fail
    have hbt := BxW.new (w) [.int .i64 key, .slice XA n c] 54
    rw [show ∀ a b : Value, [a, b].toArray = #[a, b] from fun _ _ => rfl] at hbt
    have hal : Below w.heap.size w ((w).alloc (.cells #[.int .i64 key, .slice XA n c] 54)) := by (repeat' (first | exact Below.refl _ _ | assumption | (refine Below.alloc ?_ ?_ _) | (refine Below.setCell ?_ ?_ _) | (refine Below.drew ?_) | (refine below_drewN ?_ _) | (refine below_after (Ext.below _) ?_ ?_) | (refine below_after (by assumption) ?_ ?_) | (simp; done) | omega | (simp; omega)))
    obtain ⟨wn, hwn⟩ : ∃ wn, wn = (w).alloc (.cells #[.int .i64 key, .slice XA n c] 54) := ⟨_, rfl⟩
    rw [← hwn] at hbt hal ⊢
    obtain ⟨btb, hn⟩ : ∃ btb, btb = w.heap.size := ⟨_, rfl⟩
    (try rw [← hn] at hbt)
    (try rw [← hn])
    clear hn
    replace hX := hX.of hal
    replace hD := hD.of hal
    replace hB := below_thru hB hal
    clear hwn hal
    obtain ⟨w1, hwn⟩ : ∃ q, q = wn := ⟨_, rfl⟩
    subst hwn
    obtain ⟨btz, bt0, bt1, -, -⟩ := hbt.open2
    go_wp2_with fail
    replace hf := Lib.hid hf
    have kF := law_few55 key XA n c fs w1 hX hxn
    rw [hf.out] at kF
    go_at_call 27
    refine (kF).mono ?_
    rintro e2 w2 ⟨rfl, hb2⟩
    clear btz bt0 bt1
    replace hX := hX.of hb2
    replace hD := hD.of hb2
    replace hbt := hbt.of hb2
    replace hB := below_thru hB hb2
    clear hb2
    clear kF
    obtain ⟨btz, bt0, bt1, -, -⟩ := hbt.open2
    go_wp2_with fail
    go_at_call 9
    refine (awake_55 _).mono ?_
    rintro e3 w3 ⟨rfl, hb3⟩
    clear btz bt0 bt1
    replace hX := hX.of hb3
    replace hD := hD.of hb3
    replace hbt := hbt.of hb3
    replace hB := below_thru hB hb3
    clear hb3
    go_wp2_with fail
    go_ret
    exact ⟨rfl, hB⟩
  · skip
    go_enter Tryz.func6, Tryz.ntmps6
    have hB : Below w.heap.size w w := Below.refl _ _
    go_wp2_with fail
    have hbt := BxW.new (w) [.int .i64 key, .slice XA n c] 54
    rw [show ∀ a b : Value, [a, b].toArray = #[a, b] from fun _ _ => rfl] at hbt
    have hal : Below w.heap.size w ((w).alloc (.cells #[.int .i64 key, .slice XA n c] 54)) := by (repeat' (first | exact Below.refl _ _ | assumption | (refine Below.alloc ?_ ?_ _) | (refine Below.setCell ?_ ?_ _) | (refine Below.drew ?_) | (refine below_drewN ?_ _) | (refine below_after (Ext.below _) ?_ ?_) | (refine below_after (by assumption) ?_ ?_) | (simp; done) | omega | (simp; omega)))
    obtain ⟨wn, hwn⟩ : ∃ wn, wn = (w).alloc (.cells #[.int .i64 key, .slice XA n c] 54) := ⟨_, rfl⟩
    rw [← hwn] at hbt hal ⊢
    obtain ⟨btb, hn⟩ : ∃ btb, btb = w.heap.size := ⟨_, rfl⟩
    (try rw [← hn] at hbt)
    (try rw [← hn])
    clear hn
    replace hX := hX.of hal
    replace hD := hD.of hal
    replace hB := below_thru hB hal
    clear hwn hal
    obtain ⟨w1, hwn⟩ : ∃ q, q = wn := ⟨_, rfl⟩
    subst hwn
    obtain ⟨btz, bt0, bt1, -, -⟩ := hbt.open2
    go_wp2_with fail
    replace hf := Lib.hid hf
    have kF := law_few55 key XA n c fs w1 hX hxn
    rw [hf.out] at kF
    go_at_call 27
    refine (kF).mono ?_
    rintro e2 w2 ⟨rfl, hb2⟩
    clear btz bt0 bt1
    replace hX := hX.of hb2
    replace hD := hD.of hb2
    replace hbt := hbt.of hb2
    replace hB := below_thru hB hb2
    clear hb2
    clear kF
    obtain ⟨btz, bt0, bt1, -, -⟩ := hbt.open2
    go_wp2_with fail
    go_at_call 9
    refine (awake_55 _).mono ?_
    rintro e3 w3 ⟨rfl, hb3⟩
    clear btz bt0 bt1
    replace hX := hX.of hb3
    replace hD := hD.of hb3
    replace hbt := hbt.of hb3
    replace hB := below_thru hB hb3
    clear hb3
    go_wp2_with fail
    go_ret
    exact ⟨rfl, hB⟩
  · skip
    go_enter Tryz.func6, Tryz.ntmps6
    have hB : Below w.heap.size w w := Below.refl _ _
    go_wp2_with fail
    have hbt := BxW.new (w) [.int .i64 key, .slice XA n c] 54
    rw [show ∀ a b : Value, [a, b].toArray = #[a, b] from fun _ _ => rfl] at hbt
    have hal : Below w.heap.size w ((w).alloc (.cells #[.int .i64 key, .slice XA n c] 54)) := by (repeat' (first | exact Below.refl _ _ | assumption | (refine Below.alloc ?_ ?_ _) | (refine Below.setCell ?_ ?_ _) | (refine Below.drew ?_) | (refine below_drewN ?_ _) | (refine below_after (Ext.below _) ?_ ?_) | (refine below_after (by assumption) ?_ ?_) | (simp; done) | omega | (simp; omega)))
    obtain ⟨wn, hwn⟩ : ∃ wn, wn = (w).alloc (.cells #[.int .i64 key, .slice XA n c] 54) := ⟨_, rfl⟩
    rw [← hwn] at hbt hal ⊢
    obtain ⟨btb, hn⟩ : ∃ btb, btb = w.heap.size := ⟨_, rfl⟩
    (try rw [← hn] at hbt)
    (try rw [← hn])
    clear hn
    replace hX := hX.of hal
    replace hD := hD.of hal
    replace hB := below_thru hB hal
    clear hwn hal
    obtain ⟨w1, hwn⟩ : ∃ q, q = wn := ⟨_, rfl⟩
    subst hwn
    obtain ⟨btz, bt0, bt1, -, -⟩ := hbt.open2
    go_wp2_with fail
    replace hf := Lib.hid hf
    have kF := law_few55 key XA n c fs w1 hX hxn
    rw [hf.out] at kF
    go_at_call 27
    refine (kF).mono ?_
    rintro e2 w2 ⟨rfl, hb2⟩
    clear btz bt0 bt1
    replace hX := hX.of hb2
    replace hD := hD.of hb2
    replace hbt := hbt.of hb2
    replace hB := below_thru hB hb2
    clear hb2
    clear kF
    obtain ⟨btz, bt0, bt1, -, -⟩ := hbt.open2
    go_wp2_with fail
    obtain ⟨g1, g2⟩ := few_smS hf.out
    replace g1 := Lib.hid g1
    obtain ⟨v1, hv1⟩ : ∃ q, q = fmE key fs := ⟨_, rfl⟩
    replace hv1 := Lib.hid hv1
    obtain ⟨v2, hv2⟩ : ∃ q, q = tmE (unB data) := ⟨_, rfl⟩
    replace hv2 := Lib.hid hv2
    obtain ⟨s0, hs0⟩ : ∃ q, q = (tmV (unB data)).1 := ⟨_, rfl⟩
    replace hs0 := Lib.hid hs0
    have dv1 : (v1 == v1) = true := by simp
    have dv2 : (v2 == v2) = true := by simp
    have kK := snp_Timeline key XA n c fs w2 hX g1.out
    rw [← hv1.out] at kK
    go_at_call 28
    refine (kK).mono ?_
    rintro e3 w3 ⟨A1, n1, c1, rfl, hA1, hb3⟩
    clear btz bt0 bt1
    replace hX := hX.of hb3
    replace hD := hD.of hb3
    replace hbt := hbt.of hb3
    replace hB := below_thru hB hb3
    clear hb3
    clear kK
    obtain ⟨btz, bt0, bt1, -, -⟩ := hbt.open2
    go_wp2_with fail
    have kK := ref55_Timeline key XA n c fs w3 hX g1.out
    rw [← hv1.out] at kK
    go_at_call 29
    refine (kK).mono ?_
    rintro e4 w4 ⟨A2, n2, c2, rfl, hA2, hb4⟩
    clear btz bt0 bt1
    replace hX := hX.of hb4
    replace hD := hD.of hb4
    replace hA1 := hA1.of hb4
    replace hbt := hbt.of hb4
    replace hB := below_thru hB hb4
    clear hb4
    clear kK
    obtain ⟨btz, bt0, bt1, -, -⟩ := hbt.open2
    go_wp2_with fail
    have kK := snp_TakeTimeline D k dc data w4 hD hby.out (by omega)
    rw [← hv2.out] at kK
    rw [← hs0.out] at kK
    go_at_call 30
    refine (kK).mono ?_
    rintro e5 w5 ⟨XA1, p1, q1, rfl, hXA1, hb5⟩
    clear btz bt0 bt1
    replace hX := hX.of hb5
    replace hD := hD.of hb5
    replace hA1 := hA1.of hb5
    replace hA2 := hA2.of hb5
    replace hbt := hbt.of hb5
    replace hB := below_thru hB hb5
    clear hb5
    clear kK
    obtain ⟨btz, bt0, bt1, -, -⟩ := hbt.open2
    go_wp2_with fail
    clear btz bt0 bt1
    have hbu := BxW.new (w5) [.int .i64 s0, .slice XA1 p1 q1] 54
    rw [show ∀ a b : Value, [a, b].toArray = #[a, b] from fun _ _ => rfl] at hbu
    have hal : Below w5.heap.size w5 ((w5).alloc (.cells #[.int .i64 s0, .slice XA1 p1 q1] 54)) := by (repeat' (first | exact Below.refl _ _ | assumption | (refine Below.alloc ?_ ?_ _) | (refine Below.setCell ?_ ?_ _) | (refine Below.drew ?_) | (refine below_drewN ?_ _) | (refine below_after (Ext.below _) ?_ ?_) | (refine below_after (by assumption) ?_ ?_) | (simp; done) | omega | (simp; omega)))
    obtain ⟨wn, hwn⟩ : ∃ wn, wn = (w5).alloc (.cells #[.int .i64 s0, .slice XA1 p1 q1] 54) := ⟨_, rfl⟩
    rw [← hwn] at hbu hal ⊢
    obtain ⟨bub, hn⟩ : ∃ bub, bub = w5.heap.size := ⟨_, rfl⟩
    (try rw [← hn] at hbu)
    (try rw [← hn])
    clear hn
    replace hX := hX.of hal
    replace hD := hD.of hal
    replace hA1 := hA1.of hal
    replace hA2 := hA2.of hal
    replace hXA1 := hXA1.of hal
    replace hbt := hbt.of hal
    replace hB := below_thru hB hal
    clear hwn hal
    obtain ⟨w6, hwn⟩ : ∃ q, q = wn := ⟨_, rfl⟩
    subst hwn
    obtain ⟨btz, bt0, bt1, -, -⟩ := hbt.open2
    obtain ⟨buz, bu0, bu1, -, -⟩ := hbu.open2
    go_wp2_with fail
    have kK := ref55_TakeTimeline D k dc data w6 hD hby.out (by omega)
    rw [← hv2.out] at kK
    rw [← hs0.out] at kK
    go_at_call 31
    refine (kK).mono ?_
    rintro e7 w7 ⟨XB, p2, q2, rfl, hXB, hp2, hb7⟩
    clear btz bt0 bt1
    clear buz bu0 bu1
    replace hX := hX.of hb7
    replace hD := hD.of hb7
    replace hA1 := hA1.of hb7
    replace hA2 := hA2.of hb7
    replace hXA1 := hXA1.of hb7
    replace hbt := hbt.of hb7
    replace hbu := hbu.of hb7
    replace hB := below_thru hB hb7
    clear hb7
    clear kK
    obtain ⟨btz, bt0, bt1, -, -⟩ := hbt.open2
    obtain ⟨buz, bu0, bu1, -, -⟩ := hbu.open2
    go_wp2_with fail
    clear btz bt0 bt1
    clear buz bu0 bu1
    have hbv := BxW.new (w7) [.int .i64 s0, .slice XB p2 q2] 54
    rw [show ∀ a b : Value, [a, b].toArray = #[a, b] from fun _ _ => rfl] at hbv
    have hal : Below w7.heap.size w7 ((w7).alloc (.cells #[.int .i64 s0, .slice XB p2 q2] 54)) := by (repeat' (first | exact Below.refl _ _ | assumption | (refine Below.alloc ?_ ?_ _) | (refine Below.setCell ?_ ?_ _) | (refine Below.drew ?_) | (refine below_drewN ?_ _) | (refine below_after (Ext.below _) ?_ ?_) | (refine below_after (by assumption) ?_ ?_) | (simp; done) | omega | (simp; omega)))
    obtain ⟨wn, hwn⟩ : ∃ wn, wn = (w7).alloc (.cells #[.int .i64 s0, .slice XB p2 q2] 54) := ⟨_, rfl⟩
    rw [← hwn] at hbv hal ⊢
    obtain ⟨bvb, hn⟩ : ∃ bvb, bvb = w7.heap.size := ⟨_, rfl⟩
    (try rw [← hn] at hbv)
    (try rw [← hn])
    clear hn
    replace hX := hX.of hal
    replace hD := hD.of hal
    replace hA1 := hA1.of hal
    replace hA2 := hA2.of hal
    replace hXA1 := hXA1.of hal
    replace hXB := hXB.of hal
    replace hbt := hbt.of hal
    replace hbu := hbu.of hal
    replace hB := below_thru hB hal
    clear hwn hal
    obtain ⟨w8, hwn⟩ : ∃ q, q = wn := ⟨_, rfl⟩
    subst hwn
    obtain ⟨btz, bt0, bt1, -, -⟩ := hbt.open2
    obtain ⟨buz, bu0, bu1, -, -⟩ := hbu.open2
    obtain ⟨bvz, bv0, bv1, -, -⟩ := hbv.open2
    go_wp2_with fail
    go_at_call 14
    refine (ref02_SameV _ _ _ _ _ _ _ _ hA1 hA2 (by rw [← hA1.len]; have := (fmL_by key fs).2; omega)).mono ?_
    rintro e9 w9 ⟨rfl, hb9⟩
    clear btz bt0 bt1
    clear buz bu0 bu1
    clear bvz bv0 bv1
    replace hX := hX.of hb9
    replace hD := hD.of hb9
    replace hA1 := hA1.of hb9
    replace hA2 := hA2.of hb9
    replace hXA1 := hXA1.of hb9
    replace hXB := hXB.of hb9
    replace hbt := hbt.of hb9
    replace hbu := hbu.of hb9
    replace hbv := hbv.of hb9
    replace hB := below_thru hB hb9
    clear hb9
    obtain ⟨btz, bt0, bt1, -, -⟩ := hbt.open2
    obtain ⟨buz, bu0, bu1, -, -⟩ := hbu.open2
    obtain ⟨bvz, bv0, bv1, -, -⟩ := hbv.open2
    go_wp2_with fail
    go_at_call 32
    refine (same54 s0 hXA1 hXB (tmV_sm hby.out) (by rw [← hXA1.len, hXB.len]; exact hp2)).mono ?_
    rintro e10 w10 ⟨rfl, hb10⟩
    clear btz bt0 bt1
    clear buz bu0 bu1
    clear bvz bv0 bv1
    replace hX := hX.of hb10
    replace hD := hD.of hb10
    replace hA1 := hA1.of hb10
    replace hA2 := hA2.of hb10
    replace hXA1 := hXA1.of hb10
    replace hXB := hXB.of hb10
    replace hbt := hbt.of hb10
    replace hbu := hbu.of hb10
    replace hbv := hbv.of hb10
    replace hB := below_thru hB hb10
    clear hb10
    obtain ⟨btz, bt0, bt1, -, -⟩ := hbt.open2
    obtain ⟨buz, bu0, bu1, -, -⟩ := hbu.open2
    obtain ⟨bvz, bv0, bv1, -, -⟩ := hbv.open2
    go_wp2_with fail
    go_at_call 9
    refine (awake_55 _).mono ?_
    rintro e11 w11 ⟨rfl, hb11⟩
    clear btz bt0 bt1
    clear buz bu0 bu1
    clear bvz bv0 bv1
    replace hX := hX.of hb11
    replace hD := hD.of hb11
    replace hA1 := hA1.of hb11
    replace hA2 := hA2.of hb11
    replace hXA1 := hXA1.of hb11
    replace hXB := hXB.of hb11
    replace hbt := hbt.of hb11
    replace hbu := hbu.of hb11
    replace hbv := hbv.of hb11
    replace hB := below_thru hB hb11
    clear hb11
    go_wp2_with fail
    go_ret
    exact ⟨rfl, hB⟩
end Go.Proofs.YtmenokhnanghgaaGreat
