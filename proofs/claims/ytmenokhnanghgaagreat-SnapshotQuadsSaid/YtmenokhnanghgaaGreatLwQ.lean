/- Law of chapter 55: contents and their forms. By mklaw55.py. -/
import Derived.Test.YtmenokhnanghgaaGreatLwL
import Derived.Test.YtmenokhnanghgaaGreatLwN
import Derived.Test.YtmenokhnanghgaaGreatRGQ
import Derived.Test.YtmenokhnanghgaaGreatRgG
namespace Go.Proofs.YtmenokhnanghgaaGreat
open Go Go.RowKit
set_option linter.unusedSimpArgs false
set_option linter.unusedVariables false
set_option maxRecDepth 100000
set_option linter.unusedSimpArgs false
set_option linter.unusedVariables false
set_option maxHeartbeats 64000000 in
theorem law_LwQ (QA D : Option Addr) (n c k dc : Nat) (st : Int) (Q : List Qd) (data : List Int) (w : World) (hQ : Rd encQd 4 w QA n Q) (hD : Rd encU 1 w D k data) (hby : ByL data) :
    Calls Tryz.prog 5 #[.agg #[.int .i64 st, .slice QA n c], .slice D k dc] w fun e w' => e = .returned (.bool true) ∧ Below w.heap.size w w' := by
  have hQl := Lib.hid hQ.len
  have hDl := Lib.hid hD.len
  replace hby := Lib.hid hby
  have hways : decide (200 < (n : Int)) = true ∨ (decide (200 < (n : Int)) = false ∧ decide (1000 < (k : Int)) = true) ∨ (decide (200 < (n : Int)) = false ∧ n ≤ 200 ∧ decide (1000 < (k : Int)) = false ∧ k ≤ 1000) := by
    simp only [decide_eq_true_eq, decide_eq_false_iff_not]; omega
  rcases hways with d1 | ⟨d1, d2⟩ | ⟨d1, g1, d2, g2⟩
  · skip
    go_enter Tryz.func5, Tryz.ntmps5
    have hB : Below w.heap.size w w := Below.refl _ _
    go_wp2_with fail
    have hbt := BxW.new (w) [.int .i64 st, .slice QA n c] 46
    rw [show ∀ a b : Value, [a, b].toArray = #[a, b] from fun _ _ => rfl] at hbt
    have hal : Below w.heap.size w ((w).alloc (.cells #[.int .i64 st, .slice QA n c] 46)) := by (repeat' (first | exact Below.refl _ _ | assumption | (refine Below.alloc ?_ ?_ _) | (refine Below.setCell ?_ ?_ _) | (refine Below.drew ?_) | (refine below_drewN ?_ _) | (refine below_after (Ext.below _) ?_ ?_) | (refine below_after (by assumption) ?_ ?_) | (simp; done) | omega | (simp; omega)))
    obtain ⟨wn, hwn⟩ : ∃ wn, wn = (w).alloc (.cells #[.int .i64 st, .slice QA n c] 46) := ⟨_, rfl⟩
    rw [← hwn] at hbt hal ⊢
    obtain ⟨btb, hn⟩ : ∃ btb, btb = w.heap.size := ⟨_, rfl⟩
    (try rw [← hn] at hbt)
    (try rw [← hn])
    clear hn
    replace hQ := hQ.of hal
    replace hD := hD.of hal
    replace hB := below_thru hB hal
    clear hwn hal
    obtain ⟨w1, hwn⟩ : ∃ q, q = wn := ⟨_, rfl⟩
    subst hwn
    obtain ⟨btz, bt0, bt1, -, -⟩ := hbt.open2
    go_wp2_with fail
    go_at_call 9
    refine (awake_55 _).mono ?_
    rintro e2 w2 ⟨rfl, hb2⟩
    clear btz bt0 bt1
    replace hQ := hQ.of hb2
    replace hD := hD.of hb2
    replace hbt := hbt.of hb2
    replace hB := below_thru hB hb2
    clear hb2
    go_wp2_with fail
    go_ret
    exact ⟨rfl, hB⟩
  · skip
    go_enter Tryz.func5, Tryz.ntmps5
    have hB : Below w.heap.size w w := Below.refl _ _
    go_wp2_with fail
    have hbt := BxW.new (w) [.int .i64 st, .slice QA n c] 46
    rw [show ∀ a b : Value, [a, b].toArray = #[a, b] from fun _ _ => rfl] at hbt
    have hal : Below w.heap.size w ((w).alloc (.cells #[.int .i64 st, .slice QA n c] 46)) := by (repeat' (first | exact Below.refl _ _ | assumption | (refine Below.alloc ?_ ?_ _) | (refine Below.setCell ?_ ?_ _) | (refine Below.drew ?_) | (refine below_drewN ?_ _) | (refine below_after (Ext.below _) ?_ ?_) | (refine below_after (by assumption) ?_ ?_) | (simp; done) | omega | (simp; omega)))
    obtain ⟨wn, hwn⟩ : ∃ wn, wn = (w).alloc (.cells #[.int .i64 st, .slice QA n c] 46) := ⟨_, rfl⟩
    rw [← hwn] at hbt hal ⊢
    obtain ⟨btb, hn⟩ : ∃ btb, btb = w.heap.size := ⟨_, rfl⟩
    (try rw [← hn] at hbt)
    (try rw [← hn])
    clear hn
    replace hQ := hQ.of hal
    replace hD := hD.of hal
    replace hB := below_thru hB hal
    clear hwn hal
    obtain ⟨w1, hwn⟩ : ∃ q, q = wn := ⟨_, rfl⟩
    subst hwn
    obtain ⟨btz, bt0, bt1, -, -⟩ := hbt.open2
    go_wp2_with fail
    go_at_call 9
    refine (awake_55 _).mono ?_
    rintro e2 w2 ⟨rfl, hb2⟩
    clear btz bt0 bt1
    replace hQ := hQ.of hb2
    replace hD := hD.of hb2
    replace hbt := hbt.of hb2
    replace hB := below_thru hB hb2
    clear hb2
    go_wp2_with fail
    go_ret
    exact ⟨rfl, hB⟩
  · skip
    go_enter Tryz.func5, Tryz.ntmps5
    have hB : Below w.heap.size w w := Below.refl _ _
    go_wp2_with fail
    have hbt := BxW.new (w) [.int .i64 st, .slice QA n c] 46
    rw [show ∀ a b : Value, [a, b].toArray = #[a, b] from fun _ _ => rfl] at hbt
    have hal : Below w.heap.size w ((w).alloc (.cells #[.int .i64 st, .slice QA n c] 46)) := by (repeat' (first | exact Below.refl _ _ | assumption | (refine Below.alloc ?_ ?_ _) | (refine Below.setCell ?_ ?_ _) | (refine Below.drew ?_) | (refine below_drewN ?_ _) | (refine below_after (Ext.below _) ?_ ?_) | (refine below_after (by assumption) ?_ ?_) | (simp; done) | omega | (simp; omega)))
    obtain ⟨wn, hwn⟩ : ∃ wn, wn = (w).alloc (.cells #[.int .i64 st, .slice QA n c] 46) := ⟨_, rfl⟩
    rw [← hwn] at hbt hal ⊢
    obtain ⟨btb, hn⟩ : ∃ btb, btb = w.heap.size := ⟨_, rfl⟩
    (try rw [← hn] at hbt)
    (try rw [← hn])
    clear hn
    replace hQ := hQ.of hal
    replace hD := hD.of hal
    replace hB := below_thru hB hal
    clear hwn hal
    obtain ⟨w1, hwn⟩ : ∃ q, q = wn := ⟨_, rfl⟩
    subst hwn
    obtain ⟨btz, bt0, bt1, -, -⟩ := hbt.open2
    go_wp2_with fail
    obtain ⟨v1, hv1⟩ : ∃ q, q = fqE st Q := ⟨_, rfl⟩
    replace hv1 := Lib.hid hv1
    obtain ⟨v2, hv2⟩ : ∃ q, q = tqE (unB data) := ⟨_, rfl⟩
    replace hv2 := Lib.hid hv2
    obtain ⟨s0, hs0⟩ : ∃ q, q = (tqV (unB data)).1 := ⟨_, rfl⟩
    replace hs0 := Lib.hid hs0
    have dv1 : (v1 == v1) = true := by simp
    have dv2 : (v2 == v2) = true := by simp
    have kK := snp_Quads st QA n c Q w1 hQ (by omega)
    rw [← hv1.out] at kK
    go_at_call 22
    refine (kK).mono ?_
    rintro e2 w2 ⟨A1, n1, c1, rfl, hA1, hb2⟩
    clear btz bt0 bt1
    replace hQ := hQ.of hb2
    replace hD := hD.of hb2
    replace hbt := hbt.of hb2
    replace hB := below_thru hB hb2
    clear hb2
    clear kK
    obtain ⟨btz, bt0, bt1, -, -⟩ := hbt.open2
    go_wp2_with fail
    have kK := ref55_Quads st QA n c Q w2 hQ (by omega)
    rw [← hv1.out] at kK
    go_at_call 23
    refine (kK).mono ?_
    rintro e3 w3 ⟨A2, n2, c2, rfl, hA2, hb3⟩
    clear btz bt0 bt1
    replace hQ := hQ.of hb3
    replace hD := hD.of hb3
    replace hA1 := hA1.of hb3
    replace hbt := hbt.of hb3
    replace hB := below_thru hB hb3
    clear hb3
    clear kK
    obtain ⟨btz, bt0, bt1, -, -⟩ := hbt.open2
    go_wp2_with fail
    have kK := snp_TakeQuads D k dc data w3 hD hby.out (by omega)
    rw [← hv2.out] at kK
    rw [← hs0.out] at kK
    go_at_call 24
    refine (kK).mono ?_
    rintro e4 w4 ⟨XA, p1, q1, rfl, hXA, hb4⟩
    clear btz bt0 bt1
    replace hQ := hQ.of hb4
    replace hD := hD.of hb4
    replace hA1 := hA1.of hb4
    replace hA2 := hA2.of hb4
    replace hbt := hbt.of hb4
    replace hB := below_thru hB hb4
    clear hb4
    clear kK
    obtain ⟨btz, bt0, bt1, -, -⟩ := hbt.open2
    go_wp2_with fail
    clear btz bt0 bt1
    have hbu := BxW.new (w4) [.int .i64 s0, .slice XA p1 q1] 46
    rw [show ∀ a b : Value, [a, b].toArray = #[a, b] from fun _ _ => rfl] at hbu
    have hal : Below w4.heap.size w4 ((w4).alloc (.cells #[.int .i64 s0, .slice XA p1 q1] 46)) := by (repeat' (first | exact Below.refl _ _ | assumption | (refine Below.alloc ?_ ?_ _) | (refine Below.setCell ?_ ?_ _) | (refine Below.drew ?_) | (refine below_drewN ?_ _) | (refine below_after (Ext.below _) ?_ ?_) | (refine below_after (by assumption) ?_ ?_) | (simp; done) | omega | (simp; omega)))
    obtain ⟨wn, hwn⟩ : ∃ wn, wn = (w4).alloc (.cells #[.int .i64 s0, .slice XA p1 q1] 46) := ⟨_, rfl⟩
    rw [← hwn] at hbu hal ⊢
    obtain ⟨bub, hn⟩ : ∃ bub, bub = w4.heap.size := ⟨_, rfl⟩
    (try rw [← hn] at hbu)
    (try rw [← hn])
    clear hn
    replace hQ := hQ.of hal
    replace hD := hD.of hal
    replace hA1 := hA1.of hal
    replace hA2 := hA2.of hal
    replace hXA := hXA.of hal
    replace hbt := hbt.of hal
    replace hB := below_thru hB hal
    clear hwn hal
    obtain ⟨w5, hwn⟩ : ∃ q, q = wn := ⟨_, rfl⟩
    subst hwn
    obtain ⟨btz, bt0, bt1, -, -⟩ := hbt.open2
    obtain ⟨buz, bu0, bu1, -, -⟩ := hbu.open2
    go_wp2_with fail
    have kK := ref55_TakeQuads D k dc data w5 hD hby.out (by omega)
    rw [← hv2.out] at kK
    rw [← hs0.out] at kK
    go_at_call 25
    refine (kK).mono ?_
    rintro e6 w6 ⟨XB, p2, q2, rfl, hXB, hp2, hb6⟩
    clear btz bt0 bt1
    clear buz bu0 bu1
    replace hQ := hQ.of hb6
    replace hD := hD.of hb6
    replace hA1 := hA1.of hb6
    replace hA2 := hA2.of hb6
    replace hXA := hXA.of hb6
    replace hbt := hbt.of hb6
    replace hbu := hbu.of hb6
    replace hB := below_thru hB hb6
    clear hb6
    clear kK
    obtain ⟨btz, bt0, bt1, -, -⟩ := hbt.open2
    obtain ⟨buz, bu0, bu1, -, -⟩ := hbu.open2
    go_wp2_with fail
    clear btz bt0 bt1
    clear buz bu0 bu1
    have hbv := BxW.new (w6) [.int .i64 s0, .slice XB p2 q2] 46
    rw [show ∀ a b : Value, [a, b].toArray = #[a, b] from fun _ _ => rfl] at hbv
    have hal : Below w6.heap.size w6 ((w6).alloc (.cells #[.int .i64 s0, .slice XB p2 q2] 46)) := by (repeat' (first | exact Below.refl _ _ | assumption | (refine Below.alloc ?_ ?_ _) | (refine Below.setCell ?_ ?_ _) | (refine Below.drew ?_) | (refine below_drewN ?_ _) | (refine below_after (Ext.below _) ?_ ?_) | (refine below_after (by assumption) ?_ ?_) | (simp; done) | omega | (simp; omega)))
    obtain ⟨wn, hwn⟩ : ∃ wn, wn = (w6).alloc (.cells #[.int .i64 s0, .slice XB p2 q2] 46) := ⟨_, rfl⟩
    rw [← hwn] at hbv hal ⊢
    obtain ⟨bvb, hn⟩ : ∃ bvb, bvb = w6.heap.size := ⟨_, rfl⟩
    (try rw [← hn] at hbv)
    (try rw [← hn])
    clear hn
    replace hQ := hQ.of hal
    replace hD := hD.of hal
    replace hA1 := hA1.of hal
    replace hA2 := hA2.of hal
    replace hXA := hXA.of hal
    replace hXB := hXB.of hal
    replace hbt := hbt.of hal
    replace hbu := hbu.of hal
    replace hB := below_thru hB hal
    clear hwn hal
    obtain ⟨w7, hwn⟩ : ∃ q, q = wn := ⟨_, rfl⟩
    subst hwn
    obtain ⟨btz, bt0, bt1, -, -⟩ := hbt.open2
    obtain ⟨buz, bu0, bu1, -, -⟩ := hbu.open2
    obtain ⟨bvz, bv0, bv1, -, -⟩ := hbv.open2
    go_wp2_with fail
    go_at_call 14
    refine (ref02_SameV _ _ _ _ _ _ _ _ hA1 hA2 (by rw [← hA1.len]; have := (fqL_by st Q).2; omega)).mono ?_
    rintro e8 w8 ⟨rfl, hb8⟩
    clear btz bt0 bt1
    clear buz bu0 bu1
    clear bvz bv0 bv1
    replace hQ := hQ.of hb8
    replace hD := hD.of hb8
    replace hA1 := hA1.of hb8
    replace hA2 := hA2.of hb8
    replace hXA := hXA.of hb8
    replace hXB := hXB.of hb8
    replace hbt := hbt.of hb8
    replace hbu := hbu.of hb8
    replace hbv := hbv.of hb8
    replace hB := below_thru hB hb8
    clear hb8
    obtain ⟨btz, bt0, bt1, -, -⟩ := hbt.open2
    obtain ⟨buz, bu0, bu1, -, -⟩ := hbu.open2
    obtain ⟨bvz, bv0, bv1, -, -⟩ := hbv.open2
    go_wp2_with fail
    go_at_call 26
    refine (ref25_SameV s0 _ _ _ _ _ _ (tqV (unB data)).2 _ hXA hXB (by rw [← hXA.len, hXB.len]; exact hp2)).mono ?_
    rintro e9 w9 ⟨rfl, hb9⟩
    clear btz bt0 bt1
    clear buz bu0 bu1
    clear bvz bv0 bv1
    replace hQ := hQ.of hb9
    replace hD := hD.of hb9
    replace hA1 := hA1.of hb9
    replace hA2 := hA2.of hb9
    replace hXA := hXA.of hb9
    replace hXB := hXB.of hb9
    replace hbt := hbt.of hb9
    replace hbu := hbu.of hb9
    replace hbv := hbv.of hb9
    replace hB := below_thru hB hb9
    clear hb9
    obtain ⟨btz, bt0, bt1, -, -⟩ := hbt.open2
    obtain ⟨buz, bu0, bu1, -, -⟩ := hbu.open2
    obtain ⟨bvz, bv0, bv1, -, -⟩ := hbv.open2
    go_wp2_with fail
    go_at_call 9
    refine (awake_55 _).mono ?_
    rintro e10 w10 ⟨rfl, hb10⟩
    clear btz bt0 bt1
    clear buz bu0 bu1
    clear bvz bv0 bv1
    replace hQ := hQ.of hb10
    replace hD := hD.of hb10
    replace hA1 := hA1.of hb10
    replace hA2 := hA2.of hb10
    replace hXA := hXA.of hb10
    replace hXB := hXB.of hb10
    replace hbt := hbt.of hb10
    replace hbu := hbu.of hb10
    replace hbv := hbv.of hb10
    replace hB := below_thru hB hb10
    clear hb10
    go_wp2_with fail
    go_ret
    exact ⟨rfl, hB⟩
end Go.Proofs.YtmenokhnanghgaaGreat
