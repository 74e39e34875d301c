/- Law of chapter 55: trees and their forms. By mklaw55.py. -/
import Derived.Test.YtmenokhnanghgaaGreatLwL
import Derived.Test.YtmenokhnanghgaaGreatLwN
import Derived.Test.YtmenokhnanghgaaGreatRgC
import Derived.Test.YtmenokhnanghgaaGreatRgF
namespace Go.Proofs.YtmenokhnanghgaaGreat
open Go Go.RowKit
set_option linter.unusedSimpArgs false
set_option linter.unusedVariables false
set_option maxRecDepth 100000
set_option linter.unusedSimpArgs false
set_option linter.unusedVariables false
set_option maxHeartbeats 64000000 in
theorem law_LwT (TA NA D : Option Addr) (tn tc nn nc k dc : Nat) (st : Int) (H : List (Int × Int)) (N : List Nd) (data : List Int) (w : World) (hH : Rd encP 2 w TA tn H) (hN : RdX ekN w NA nn N) (hD : Rd encU 1 w D k data) (hby : ByL data) :
    Calls Tryz.prog 4 #[.agg #[.int .i64 st, .slice TA tn tc, .slice NA nn nc], .slice D k dc] w fun e w' => e = .returned (.bool true) ∧ Below w.heap.size w w' := by
  have hHl := Lib.hid hH.len
  have hNl := Lib.hid hN.len
  have hDl := Lib.hid hD.len
  replace hby := Lib.hid hby
  have hways : fewT H N = false ∨ (fewT H N = true ∧ decide (2000 < (k : Int)) = true) ∨ (fewT H N = true ∧ decide (2000 < (k : Int)) = false ∧ k ≤ 2000) := by
    simp only [decide_eq_true_eq, decide_eq_false_iff_not]
    cases fewT H N <;> simp <;> omega
  rcases hways with hf | ⟨hf, d1⟩ | ⟨hf, d1, hk⟩
  · skip
    go_enter Tryz.func4, Tryz.ntmps4
    have hB : Below w.heap.size w w := Below.refl _ _
    go_wp2_with fail
    have hbt := TrAt.new (w) (.int .i64 st) (.slice TA tn tc) (.slice NA nn nc) 37
    have hal : Below w.heap.size w ((w).alloc (.cells #[.int .i64 st, .slice TA tn tc, .slice NA nn nc] 37)) := by (repeat' (first | exact Below.refl _ _ | assumption | (refine Below.alloc ?_ ?_ _) | (refine Below.setCell ?_ ?_ _) | (refine Below.drew ?_) | (refine below_drewN ?_ _) | (refine below_after (Ext.below _) ?_ ?_) | (refine below_after (by assumption) ?_ ?_) | (simp; done) | omega | (simp; omega)))
    obtain ⟨wn, hwn⟩ : ∃ wn, wn = (w).alloc (.cells #[.int .i64 st, .slice TA tn tc, .slice NA nn nc] 37) := ⟨_, rfl⟩
    rw [← hwn] at hbt hal ⊢
    obtain ⟨btb, hn⟩ : ∃ btb, btb = w.heap.size := ⟨_, rfl⟩
    (try rw [← hn] at hbt)
    (try rw [← hn])
    clear hn
    replace hH := hH.of hal
    replace hN := hN.of hal
    replace hD := hD.of hal
    replace hB := below_thru hB hal
    clear hwn hal
    obtain ⟨w1, hwn⟩ : ∃ q, q = wn := ⟨_, rfl⟩
    subst hwn
    have ⟨btz, bt0, bt1, bt2⟩ := hbt
    go_wp2_with fail
    replace hf := Lib.hid hf
    have kF := law_Few st TA NA tn tc nn nc H N w1 hH hN
    rw [hf.out] at kF
    go_at_call 16
    refine (kF).mono ?_
    rintro e2 w2 ⟨rfl, hb2⟩
    clear btz bt0 bt1 bt2
    replace hH := hH.of hb2
    replace hN := hN.of hb2
    replace hD := hD.of hb2
    replace hbt := hbt.of hb2
    replace hB := below_thru hB hb2
    clear hb2
    clear kF
    have ⟨btz, bt0, bt1, bt2⟩ := hbt
    go_wp2_with fail
    go_at_call 9
    refine (awake_55 _).mono ?_
    rintro e3 w3 ⟨rfl, hb3⟩
    clear btz bt0 bt1 bt2
    replace hH := hH.of hb3
    replace hN := hN.of hb3
    replace hD := hD.of hb3
    replace hbt := hbt.of hb3
    replace hB := below_thru hB hb3
    clear hb3
    go_wp2_with fail
    go_ret
    exact ⟨rfl, hB⟩
  · skip
    go_enter Tryz.func4, Tryz.ntmps4
    have hB : Below w.heap.size w w := Below.refl _ _
    go_wp2_with fail
    have hbt := TrAt.new (w) (.int .i64 st) (.slice TA tn tc) (.slice NA nn nc) 37
    have hal : Below w.heap.size w ((w).alloc (.cells #[.int .i64 st, .slice TA tn tc, .slice NA nn nc] 37)) := by (repeat' (first | exact Below.refl _ _ | assumption | (refine Below.alloc ?_ ?_ _) | (refine Below.setCell ?_ ?_ _) | (refine Below.drew ?_) | (refine below_drewN ?_ _) | (refine below_after (Ext.below _) ?_ ?_) | (refine below_after (by assumption) ?_ ?_) | (simp; done) | omega | (simp; omega)))
    obtain ⟨wn, hwn⟩ : ∃ wn, wn = (w).alloc (.cells #[.int .i64 st, .slice TA tn tc, .slice NA nn nc] 37) := ⟨_, rfl⟩
    rw [← hwn] at hbt hal ⊢
    obtain ⟨btb, hn⟩ : ∃ btb, btb = w.heap.size := ⟨_, rfl⟩
    (try rw [← hn] at hbt)
    (try rw [← hn])
    clear hn
    replace hH := hH.of hal
    replace hN := hN.of hal
    replace hD := hD.of hal
    replace hB := below_thru hB hal
    clear hwn hal
    obtain ⟨w1, hwn⟩ : ∃ q, q = wn := ⟨_, rfl⟩
    subst hwn
    have ⟨btz, bt0, bt1, bt2⟩ := hbt
    go_wp2_with fail
    replace hf := Lib.hid hf
    have kF := law_Few st TA NA tn tc nn nc H N w1 hH hN
    rw [hf.out] at kF
    go_at_call 16
    refine (kF).mono ?_
    rintro e2 w2 ⟨rfl, hb2⟩
    clear btz bt0 bt1 bt2
    replace hH := hH.of hb2
    replace hN := hN.of hb2
    replace hD := hD.of hb2
    replace hbt := hbt.of hb2
    replace hB := below_thru hB hb2
    clear hb2
    clear kF
    have ⟨btz, bt0, bt1, bt2⟩ := hbt
    go_wp2_with fail
    go_at_call 9
    refine (awake_55 _).mono ?_
    rintro e3 w3 ⟨rfl, hb3⟩
    clear btz bt0 bt1 bt2
    replace hH := hH.of hb3
    replace hN := hN.of hb3
    replace hD := hD.of hb3
    replace hbt := hbt.of hb3
    replace hB := below_thru hB hb3
    clear hb3
    go_wp2_with fail
    go_ret
    exact ⟨rfl, hB⟩
  · skip
    go_enter Tryz.func4, Tryz.ntmps4
    have hB : Below w.heap.size w w := Below.refl _ _
    go_wp2_with fail
    have hbt := TrAt.new (w) (.int .i64 st) (.slice TA tn tc) (.slice NA nn nc) 37
    have hal : Below w.heap.size w ((w).alloc (.cells #[.int .i64 st, .slice TA tn tc, .slice NA nn nc] 37)) := by (repeat' (first | exact Below.refl _ _ | assumption | (refine Below.alloc ?_ ?_ _) | (refine Below.setCell ?_ ?_ _) | (refine Below.drew ?_) | (refine below_drewN ?_ _) | (refine below_after (Ext.below _) ?_ ?_) | (refine below_after (by assumption) ?_ ?_) | (simp; done) | omega | (simp; omega)))
    obtain ⟨wn, hwn⟩ : ∃ wn, wn = (w).alloc (.cells #[.int .i64 st, .slice TA tn tc, .slice NA nn nc] 37) := ⟨_, rfl⟩
    rw [← hwn] at hbt hal ⊢
    obtain ⟨btb, hn⟩ : ∃ btb, btb = w.heap.size := ⟨_, rfl⟩
    (try rw [← hn] at hbt)
    (try rw [← hn])
    clear hn
    replace hH := hH.of hal
    replace hN := hN.of hal
    replace hD := hD.of hal
    replace hB := below_thru hB hal
    clear hwn hal
    obtain ⟨w1, hwn⟩ : ∃ q, q = wn := ⟨_, rfl⟩
    subst hwn
    have ⟨btz, bt0, bt1, bt2⟩ := hbt
    go_wp2_with fail
    replace hf := Lib.hid hf
    have kF := law_Few st TA NA tn tc nn nc H N w1 hH hN
    rw [hf.out] at kF
    go_at_call 16
    refine (kF).mono ?_
    rintro e2 w2 ⟨rfl, hb2⟩
    clear btz bt0 bt1 bt2
    replace hH := hH.of hb2
    replace hN := hN.of hb2
    replace hD := hD.of hb2
    replace hbt := hbt.of hb2
    replace hB := below_thru hB hb2
    clear hb2
    clear kF
    have ⟨btz, bt0, bt1, bt2⟩ := hbt
    go_wp2_with fail
    obtain ⟨g1, g2, g3⟩ := few_okT hf.out
    rw [hHl.out] at g1
    rw [hNl.out] at g2
    clear g3
    obtain ⟨v1, hv1⟩ : ∃ q, q = ftE st H N := ⟨_, rfl⟩
    replace hv1 := Lib.hid hv1
    obtain ⟨v2, hv2⟩ : ∃ q, q = ttE (unB data) := ⟨_, rfl⟩
    replace hv2 := Lib.hid hv2
    obtain ⟨s0, hs0⟩ : ∃ q, q = (ttV (unB data)).1 := ⟨_, rfl⟩
    replace hs0 := Lib.hid hs0
    have dv1 : (v1 == v1) = true := by simp
    have dv2 : (v2 == v2) = true := by simp
    have kK := snp_Tree st TA NA tn tc nn nc H N w2 hH hN (by omega) (by omega)
    rw [← hv1.out] at kK
    go_at_call 17
    refine (kK).mono ?_
    rintro e3 w3 ⟨A1, n1, c1, rfl, hA1, hb3⟩
    clear btz bt0 bt1 bt2
    replace hH := hH.of hb3
    replace hN := hN.of hb3
    replace hD := hD.of hb3
    replace hbt := hbt.of hb3
    replace hB := below_thru hB hb3
    clear hb3
    clear kK
    have ⟨btz, bt0, bt1, bt2⟩ := hbt
    go_wp2_with fail
    have kK := ref55_Tree st TA NA tn tc nn nc H N w3 hH hN
    rw [← hv1.out] at kK
    go_at_call 18
    refine (kK).mono ?_
    rintro e4 w4 ⟨A2, n2, c2, rfl, hA2, hb4⟩
    clear btz bt0 bt1 bt2
    replace hH := hH.of hb4
    replace hN := hN.of hb4
    replace hD := hD.of hb4
    replace hA1 := hA1.of hb4
    replace hbt := hbt.of hb4
    replace hB := below_thru hB hb4
    clear hb4
    clear kK
    have ⟨btz, bt0, bt1, bt2⟩ := hbt
    go_wp2_with fail
    have kK := snp_TakeTree D k dc data w4 hD hby.out (by omega)
    rw [← hv2.out] at kK
    rw [← hs0.out] at kK
    go_at_call 19
    refine (kK).mono ?_
    rintro e5 w5 ⟨HA, p1, q1, MA, p2, q2, rfl, hHA, hMA, hb5⟩
    clear btz bt0 bt1 bt2
    replace hH := hH.of hb5
    replace hN := hN.of hb5
    replace hD := hD.of hb5
    replace hA1 := hA1.of hb5
    replace hA2 := hA2.of hb5
    replace hbt := hbt.of hb5
    replace hB := below_thru hB hb5
    clear hb5
    clear kK
    have ⟨btz, bt0, bt1, bt2⟩ := hbt
    go_wp2_with fail
    clear btz bt0 bt1 bt2
    have hbu := TrAt.new (w5) (.int .i64 s0) (.slice HA p1 q1) (.slice MA p2 q2) 37
    have hal : Below w5.heap.size w5 ((w5).alloc (.cells #[.int .i64 s0, .slice HA p1 q1, .slice MA p2 q2] 37)) := by (repeat' (first | exact Below.refl _ _ | assumption | (refine Below.alloc ?_ ?_ _) | (refine Below.setCell ?_ ?_ _) | (refine Below.drew ?_) | (refine below_drewN ?_ _) | (refine below_after (Ext.below _) ?_ ?_) | (refine below_after (by assumption) ?_ ?_) | (simp; done) | omega | (simp; omega)))
    obtain ⟨wn, hwn⟩ : ∃ wn, wn = (w5).alloc (.cells #[.int .i64 s0, .slice HA p1 q1, .slice MA p2 q2] 37) := ⟨_, rfl⟩
    rw [← hwn] at hbu hal ⊢
    obtain ⟨bub, hn⟩ : ∃ bub, bub = w5.heap.size := ⟨_, rfl⟩
    (try rw [← hn] at hbu)
    (try rw [← hn])
    clear hn
    replace hH := hH.of hal
    replace hN := hN.of hal
    replace hD := hD.of hal
    replace hA1 := hA1.of hal
    replace hA2 := hA2.of hal
    replace hHA := hHA.of hal
    replace hMA := hMA.of hal
    replace hbt := hbt.of hal
    replace hB := below_thru hB hal
    clear hwn hal
    obtain ⟨w6, hwn⟩ : ∃ q, q = wn := ⟨_, rfl⟩
    subst hwn
    have ⟨btz, bt0, bt1, bt2⟩ := hbt
    have ⟨buz, bu0, bu1, bu2⟩ := hbu
    go_wp2_with fail
    have kK := ref55_TakeTree D k dc data w6 hD hby.out (by omega)
    rw [← hv2.out] at kK
    rw [← hs0.out] at kK
    go_at_call 20
    refine (kK).mono ?_
    rintro e7 w7 ⟨HB, p3, q3, MB, p4, q4, rfl, hHB, hMB, hb7⟩
    clear btz bt0 bt1 bt2
    clear buz bu0 bu1 bu2
    replace hH := hH.of hb7
    replace hN := hN.of hb7
    replace hD := hD.of hb7
    replace hA1 := hA1.of hb7
    replace hA2 := hA2.of hb7
    replace hHA := hHA.of hb7
    replace hMA := hMA.of hb7
    replace hbt := hbt.of hb7
    replace hbu := hbu.of hb7
    replace hB := below_thru hB hb7
    clear hb7
    clear kK
    have ⟨btz, bt0, bt1, bt2⟩ := hbt
    have ⟨buz, bu0, bu1, bu2⟩ := hbu
    go_wp2_with fail
    clear btz bt0 bt1 bt2
    clear buz bu0 bu1 bu2
    have hbv := TrAt.new (w7) (.int .i64 s0) (.slice HB p3 q3) (.slice MB p4 q4) 37
    have hal : Below w7.heap.size w7 ((w7).alloc (.cells #[.int .i64 s0, .slice HB p3 q3, .slice MB p4 q4] 37)) := by (repeat' (first | exact Below.refl _ _ | assumption | (refine Below.alloc ?_ ?_ _) | (refine Below.setCell ?_ ?_ _) | (refine Below.drew ?_) | (refine below_drewN ?_ _) | (refine below_after (Ext.below _) ?_ ?_) | (refine below_after (by assumption) ?_ ?_) | (simp; done) | omega | (simp; omega)))
    obtain ⟨wn, hwn⟩ : ∃ wn, wn = (w7).alloc (.cells #[.int .i64 s0, .slice HB p3 q3, .slice MB p4 q4] 37) := ⟨_, rfl⟩
    rw [← hwn] at hbv hal ⊢
    obtain ⟨bvb, hn⟩ : ∃ bvb, bvb = w7.heap.size := ⟨_, rfl⟩
    (try rw [← hn] at hbv)
    (try rw [← hn])
    clear hn
    replace hH := hH.of hal
    replace hN := hN.of hal
    replace hD := hD.of hal
    replace hA1 := hA1.of hal
    replace hA2 := hA2.of hal
    replace hHA := hHA.of hal
    replace hMA := hMA.of hal
    replace hHB := hHB.of hal
    replace hMB := hMB.of hal
    replace hbt := hbt.of hal
    replace hbu := hbu.of hal
    replace hB := below_thru hB hal
    clear hwn hal
    obtain ⟨w8, hwn⟩ : ∃ q, q = wn := ⟨_, rfl⟩
    subst hwn
    have ⟨btz, bt0, bt1, bt2⟩ := hbt
    have ⟨buz, bu0, bu1, bu2⟩ := hbu
    have ⟨bvz, bv0, bv1, bv2⟩ := hbv
    go_wp2_with fail
    go_at_call 14
    refine (ref02_SameV _ _ _ _ _ _ _ _ hA1 hA2 (by rw [← hA1.len]; have := (ftL_by st H N).2; omega)).mono ?_
    rintro e9 w9 ⟨rfl, hb9⟩
    clear btz bt0 bt1 bt2
    clear buz bu0 bu1 bu2
    clear bvz bv0 bv1 bv2
    replace hH := hH.of hb9
    replace hN := hN.of hb9
    replace hD := hD.of hb9
    replace hA1 := hA1.of hb9
    replace hA2 := hA2.of hb9
    replace hHA := hHA.of hb9
    replace hMA := hMA.of hb9
    replace hHB := hHB.of hb9
    replace hMB := hMB.of hb9
    replace hbt := hbt.of hb9
    replace hbu := hbu.of hb9
    replace hbv := hbv.of hb9
    replace hB := below_thru hB hb9
    clear hb9
    have ⟨btz, bt0, bt1, bt2⟩ := hbt
    have ⟨buz, bu0, bu1, bu2⟩ := hbu
    have ⟨bvz, bv0, bv1, bv2⟩ := hbv
    go_wp2_with fail
    go_at_call 21
    refine (ref12_SameV s0 _ _ _ _ _ _ _ _ _ _ _ _ (ttV (unB data)).2.1 (ttV (unB data)).2.2 _ hHA hMA hHB hMB (by rw [← hHA.len]; exact (ttV_sm hby.out).1) (by rw [← hMA.len]; exact (ttV_sm hby.out).2.1) (ttV_sm hby.out).2.2).mono ?_
    rintro e10 w10 ⟨rfl, hb10⟩
    clear btz bt0 bt1 bt2
    clear buz bu0 bu1 bu2
    clear bvz bv0 bv1 bv2
    replace hH := hH.of hb10
    replace hN := hN.of hb10
    replace hD := hD.of hb10
    replace hA1 := hA1.of hb10
    replace hA2 := hA2.of hb10
    replace hHA := hHA.of hb10
    replace hMA := hMA.of hb10
    replace hHB := hHB.of hb10
    replace hMB := hMB.of hb10
    replace hbt := hbt.of hb10
    replace hbu := hbu.of hb10
    replace hbv := hbv.of hb10
    replace hB := below_thru hB hb10
    clear hb10
    have ⟨btz, bt0, bt1, bt2⟩ := hbt
    have ⟨buz, bu0, bu1, bu2⟩ := hbu
    have ⟨bvz, bv0, bv1, bv2⟩ := hbv
    go_wp2_with fail
    go_at_call 9
    refine (awake_55 _).mono ?_
    rintro e11 w11 ⟨rfl, hb11⟩
    clear btz bt0 bt1 bt2
    clear buz bu0 bu1 bu2
    clear bvz bv0 bv1 bv2
    replace hH := hH.of hb11
    replace hN := hN.of hb11
    replace hD := hD.of hb11
    replace hA1 := hA1.of hb11
    replace hA2 := hA2.of hb11
    replace hHA := hHA.of hb11
    replace hMA := hMA.of hb11
    replace hHB := hHB.of hb11
    replace hMB := hMB.of hb11
    replace hbt := hbt.of hb11
    replace hbu := hbu.of hb11
    replace hbv := hbv.of hb11
    replace hB := below_thru hB hb11
    clear hb11
    go_wp2_with fail
    go_ret
    exact ⟨rfl, hB⟩
end Go.Proofs.YtmenokhnanghgaaGreat
