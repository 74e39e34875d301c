/- Law of chapter 55: a form that is accepted is the form of what was read. By mklaw55.py. -/
import Derived.Test.YtmenokhnanghgaaGreatLwL
namespace Go.Proofs.YtmenokhnanghgaaGreat
open Go Go.RowKit
set_option linter.unusedSimpArgs false
set_option linter.unusedVariables false
set_option maxRecDepth 100000
set_option linter.unusedSimpArgs false
set_option linter.unusedVariables false
set_option maxHeartbeats 64000000 in
theorem law_Forms (XA D : Option Addr) (xn xc k dc : Nat) (key : Int) (fs : List TFr) (data : List Int) (w : World) (hX : RdX ekFr w XA xn fs) (hxn : xn ≤ 9223372036854775807) (hD : Rd encU 1 w D k data) (hby : ByL data) :
    Calls Tryz.prog 8 #[.agg #[.int .i64 key, .slice XA xn xc], .slice D k dc] w fun e w' => e = .returned (.bool true) ∧ Below w.heap.size w w' := by
  have hXl := Lib.hid hX.len
  have hDl := Lib.hid hD.len
  replace hby := Lib.hid hby
  have hways : fewS fs = false ∨ (fewS fs = true ∧ decide (2000 < (k : Int)) = true) ∨ (fewS fs = true ∧ decide (2000 < (k : Int)) = false ∧ k ≤ 2000) := by
    simp only [decide_eq_true_eq, decide_eq_false_iff_not]
    cases fewS fs <;> simp <;> omega
  rcases hways with hf | ⟨hf, d1⟩ | ⟨hf, d1, hk⟩
  · skip
    replace hf := Lib.hid hf
    go_enter Tryz.func8, Tryz.ntmps8
    have hB : Below w.heap.size w w := Below.refl _ _
    go_wp2_with fail
    have hbt := BxW.new (w) [.int .i64 key, .slice XA xn xc] 54
    rw [show ∀ a b : Value, [a, b].toArray = #[a, b] from fun _ _ => rfl] at hbt
    have hal : Below w.heap.size w ((w).alloc (.cells #[.int .i64 key, .slice XA xn xc] 54)) := by (repeat' (first | exact Below.refl _ _ | assumption | (refine Below.alloc ?_ ?_ _) | (refine Below.setCell ?_ ?_ _) | (refine Below.drew ?_) | (refine below_drewN ?_ _) | (refine below_after (Ext.below _) ?_ ?_) | (refine below_after (by assumption) ?_ ?_) | (simp; done) | omega | (simp; omega)))
    obtain ⟨wn, hwn⟩ : ∃ wn, wn = (w).alloc (.cells #[.int .i64 key, .slice XA xn xc] 54) := ⟨_, rfl⟩
    rw [← hwn] at hbt hal ⊢
    obtain ⟨btb, hn⟩ : ∃ btb, btb = w.heap.size := ⟨_, rfl⟩
    (try rw [← hn] at hbt)
    (try rw [← hn])
    clear hn
    replace hX := hX.of hal
    replace hD := hD.of hal
    replace hB := below_thru hB hal
    clear hwn hal
    obtain ⟨w1, hwn⟩ : ∃ q, q = wn := ⟨_, rfl⟩
    subst hwn
    obtain ⟨btz, bt0, bt1, -, -⟩ := hbt.open2
    go_wp2_with fail
    have kF := law_few55 key XA xn xc fs w1 hX hxn
    rw [hf.out] at kF
    go_at_call 27
    refine (kF).mono ?_
    rintro e2 w2 ⟨rfl, hb2⟩
    clear btz bt0 bt1
    replace hX := hX.of hb2
    replace hD := hD.of hb2
    replace hbt := hbt.of hb2
    replace hB := below_thru hB hb2
    clear hb2
    clear kF
    obtain ⟨btz, bt0, bt1, -, -⟩ := hbt.open2
    go_wp2_with fail
    go_at_call 9
    refine (awake_55 _).mono ?_
    rintro e3 w3 ⟨rfl, hb3⟩
    clear btz bt0 bt1
    replace hX := hX.of hb3
    replace hD := hD.of hb3
    replace hbt := hbt.of hb3
    replace hB := below_thru hB hb3
    clear hb3
    go_wp2_with fail
    go_ret
    exact ⟨rfl, hB⟩
  · skip
    replace hf := Lib.hid hf
    go_enter Tryz.func8, Tryz.ntmps8
    have hB : Below w.heap.size w w := Below.refl _ _
    go_wp2_with fail
    have hbt := BxW.new (w) [.int .i64 key, .slice XA xn xc] 54
    rw [show ∀ a b : Value, [a, b].toArray = #[a, b] from fun _ _ => rfl] at hbt
    have hal : Below w.heap.size w ((w).alloc (.cells #[.int .i64 key, .slice XA xn xc] 54)) := by (repeat' (first | exact Below.refl _ _ | assumption | (refine Below.alloc ?_ ?_ _) | (refine Below.setCell ?_ ?_ _) | (refine Below.drew ?_) | (refine below_drewN ?_ _) | (refine below_after (Ext.below _) ?_ ?_) | (refine below_after (by assumption) ?_ ?_) | (simp; done) | omega | (simp; omega)))
    obtain ⟨wn, hwn⟩ : ∃ wn, wn = (w).alloc (.cells #[.int .i64 key, .slice XA xn xc] 54) := ⟨_, rfl⟩
    rw [← hwn] at hbt hal ⊢
    obtain ⟨btb, hn⟩ : ∃ btb, btb = w.heap.size := ⟨_, rfl⟩
    (try rw [← hn] at hbt)
    (try rw [← hn])
    clear hn
    replace hX := hX.of hal
    replace hD := hD.of hal
    replace hB := below_thru hB hal
    clear hwn hal
    obtain ⟨w1, hwn⟩ : ∃ q, q = wn := ⟨_, rfl⟩
    subst hwn
    obtain ⟨btz, bt0, bt1, -, -⟩ := hbt.open2
    go_wp2_with fail
    have kF := law_few55 key XA xn xc fs w1 hX hxn
    rw [hf.out] at kF
    go_at_call 27
    refine (kF).mono ?_
    rintro e2 w2 ⟨rfl, hb2⟩
    clear btz bt0 bt1
    replace hX := hX.of hb2
    replace hD := hD.of hb2
    replace hbt := hbt.of hb2
    replace hB := below_thru hB hb2
    clear hb2
    clear kF
    obtain ⟨btz, bt0, bt1, -, -⟩ := hbt.open2
    go_wp2_with fail
    go_at_call 9
    refine (awake_55 _).mono ?_
    rintro e3 w3 ⟨rfl, hb3⟩
    clear btz bt0 bt1
    replace hX := hX.of hb3
    replace hD := hD.of hb3
    replace hbt := hbt.of hb3
    replace hB := below_thru hB hb3
    clear hb3
    go_wp2_with fail
    go_ret
    exact ⟨rfl, hB⟩
  · skip
    replace hf := Lib.hid hf
    go_enter Tryz.func8, Tryz.ntmps8
    have hB : Below w.heap.size w w := Below.refl _ _
    go_wp2_with fail
    have hbt := BxW.new (w) [.int .i64 key, .slice XA xn xc] 54
    rw [show ∀ a b : Value, [a, b].toArray = #[a, b] from fun _ _ => rfl] at hbt
    have hal : Below w.heap.size w ((w).alloc (.cells #[.int .i64 key, .slice XA xn xc] 54)) := by (repeat' (first | exact Below.refl _ _ | assumption | (refine Below.alloc ?_ ?_ _) | (refine Below.setCell ?_ ?_ _) | (refine Below.drew ?_) | (refine below_drewN ?_ _) | (refine below_after (Ext.below _) ?_ ?_) | (refine below_after (by assumption) ?_ ?_) | (simp; done) | omega | (simp; omega)))
    obtain ⟨wn, hwn⟩ : ∃ wn, wn = (w).alloc (.cells #[.int .i64 key, .slice XA xn xc] 54) := ⟨_, rfl⟩
    rw [← hwn] at hbt hal ⊢
    obtain ⟨btb, hn⟩ : ∃ btb, btb = w.heap.size := ⟨_, rfl⟩
    (try rw [← hn] at hbt)
    (try rw [← hn])
    clear hn
    replace hX := hX.of hal
    replace hD := hD.of hal
    replace hB := below_thru hB hal
    clear hwn hal
    obtain ⟨w1, hwn⟩ : ∃ q, q = wn := ⟨_, rfl⟩
    subst hwn
    obtain ⟨btz, bt0, bt1, -, -⟩ := hbt.open2
    go_wp2_with fail
    have kF := law_few55 key XA xn xc fs w1 hX hxn
    rw [hf.out] at kF
    go_at_call 27
    refine (kF).mono ?_
    rintro e2 w2 ⟨rfl, hb2⟩
    clear btz bt0 bt1
    replace hX := hX.of hb2
    replace hD := hD.of hb2
    replace hbt := hbt.of hb2
    replace hB := below_thru hB hb2
    clear hb2
    clear kF
    obtain ⟨btz, bt0, bt1, -, -⟩ := hbt.open2
    go_wp2_with fail
    obtain ⟨g1, g2⟩ := few_smS hf.out
    replace g1 := Lib.hid g1
    rw [hXl.out] at g2
    have g3 := Lib.hid (show data.length ≤ 65536 by rw [hDl.out]; omega)
    rcases Classical.em (fmE key fs = 0) with he | he
    · skip
      replace he := Lib.hid he
      go_at_call 28
      refine (tim0 hX g1.out he.out).mono ?_
      rintro e3 w3 ⟨A1, n1, c1, rfl, hA1, hb3⟩
      clear btz bt0 bt1
      replace hX := hX.of hb3
      replace hD := hD.of hb3
      replace hbt := hbt.of hb3
      replace hB := below_thru hB hb3
      clear hb3
      obtain ⟨btz, bt0, bt1, -, -⟩ := hbt.open2
      go_wp2_with fail
      go_at_call 30
      refine (ttiB hA1 hXl.out he.out).mono ?_
      rintro e4 w4 ⟨A2, c2, rfl, hA2, hb4⟩
      clear btz bt0 bt1
      replace hX := hX.of hb4
      replace hD := hD.of hb4
      replace hA1 := hA1.of hb4
      replace hbt := hbt.of hb4
      replace hB := below_thru hB hb4
      clear hb4
      clear hA1
      obtain ⟨btz, bt0, bt1, -, -⟩ := hbt.open2
      go_wp2_with fail
      clear btz bt0 bt1
      have hbx := BxW.new (w4) [.int .i64 key, .slice A2 xn c2] 54
      rw [show ∀ a b : Value, [a, b].toArray = #[a, b] from fun _ _ => rfl] at hbx
      have hal : Below w4.heap.size w4 ((w4).alloc (.cells #[.int .i64 key, .slice A2 xn c2] 54)) := by (repeat' (first | exact Below.refl _ _ | assumption | (refine Below.alloc ?_ ?_ _) | (refine Below.setCell ?_ ?_ _) | (refine Below.drew ?_) | (refine below_drewN ?_ _) | (refine below_after (Ext.below _) ?_ ?_) | (refine below_after (by assumption) ?_ ?_) | (simp; done) | omega | (simp; omega)))
      obtain ⟨wn, hwn⟩ : ∃ wn, wn = (w4).alloc (.cells #[.int .i64 key, .slice A2 xn c2] 54) := ⟨_, rfl⟩
      rw [← hwn] at hbx hal ⊢
      obtain ⟨bxb, hn⟩ : ∃ bxb, bxb = w4.heap.size := ⟨_, rfl⟩
      (try rw [← hn] at hbx)
      (try rw [← hn])
      clear hn
      replace hX := hX.of hal
      replace hD := hD.of hal
      replace hA2 := hA2.of hal
      replace hbt := hbt.of hal
      replace hB := below_thru hB hal
      clear hwn hal
      obtain ⟨w5, hwn⟩ : ∃ q, q = wn := ⟨_, rfl⟩
      subst hwn
      obtain ⟨btz, bt0, bt1, -, -⟩ := hbt.open2
      obtain ⟨bxz, bx0, bx1, -, -⟩ := hbx.open2
      go_wp2_with fail
      go_at_call 32
      refine (same54 key hX hA2 g1.out (by omega)).mono ?_
      rintro e6 w6 ⟨rfl, hb6⟩
      clear btz bt0 bt1
      clear bxz bx0 bx1
      replace hX := hX.of hb6
      replace hD := hD.of hb6
      replace hA2 := hA2.of hb6
      replace hbt := hbt.of hb6
      replace hbx := hbx.of hb6
      replace hB := below_thru hB hb6
      clear hb6
      clear hA2
      clear hbx
      obtain ⟨btz, bt0, bt1, -, -⟩ := hbt.open2
      go_wp2_with fail
      rcases Classical.em (tpE (unB data) = 0) with hu | hu
      · skip
        replace hu := Lib.hid hu
        go_at_call 12
        refine (tpt0 hD hby.out (by omega) hu.out).mono ?_
        rintro e7 w7 ⟨A3, n3, c3, rfl, hA3, hb7⟩
        clear btz bt0 bt1
        replace hX := hX.of hb7
        replace hD := hD.of hb7
        replace hbt := hbt.of hb7
        replace hB := below_thru hB hb7
        clear hb7
        obtain ⟨btz, bt0, bt1, -, -⟩ := hbt.open2
        go_wp2_with fail
        go_at_call 10
        refine (patF hA3 hby.out g3.out hu.out).mono ?_
        rintro e8 w8 ⟨A4, n4, c4, rfl, hA4, hb8⟩
        clear btz bt0 bt1
        replace hX := hX.of hb8
        replace hD := hD.of hb8
        replace hA3 := hA3.of hb8
        replace hbt := hbt.of hb8
        replace hB := below_thru hB hb8
        clear hb8
        clear hA3
        obtain ⟨btz, bt0, bt1, -, -⟩ := hbt.open2
        go_wp2_with fail
        go_at_call 14
        refine (ref02_SameV _ _ _ _ _ _ _ _ hA4 hD (by rw [← hA4.len]; have := g3.out; omega)).mono ?_
        rintro e9 w9 ⟨rfl, hb9⟩
        clear btz bt0 bt1
        replace hX := hX.of hb9
        replace hD := hD.of hb9
        replace hA4 := hA4.of hb9
        replace hbt := hbt.of hb9
        replace hB := below_thru hB hb9
        clear hb9
        clear hA4
        obtain ⟨btz, bt0, bt1, -, -⟩ := hbt.open2
        go_wp2_with fail
        rcases Classical.em (ttE (unB data) = 0) with hz | hz
        · skip
          replace hz := Lib.hid hz
          go_at_call 19
          refine (ttr0 hD hby.out (by omega) hz.out).mono ?_
          rintro e10 w10 ⟨s5, H5, h5, k5, N5, n5, c5, rfl, hs5, hH5, hN5, hb10⟩
          clear btz bt0 bt1
          replace hX := hX.of hb10
          replace hD := hD.of hb10
          replace hbt := hbt.of hb10
          replace hB := below_thru hB hb10
          clear hb10
          obtain ⟨btz, bt0, bt1, -, -⟩ := hbt.open2
          go_wp2_with fail
          clear btz bt0 bt1
          have hbw := TrAt.new (w10) (.int .i64 s5) (.slice H5 h5 k5) (.slice N5 n5 c5) 37
          have hal : Below w10.heap.size w10 ((w10).alloc (.cells #[.int .i64 s5, .slice H5 h5 k5, .slice N5 n5 c5] 37)) := by (repeat' (first | exact Below.refl _ _ | assumption | (refine Below.alloc ?_ ?_ _) | (refine Below.setCell ?_ ?_ _) | (refine Below.drew ?_) | (refine below_drewN ?_ _) | (refine below_after (Ext.below _) ?_ ?_) | (refine below_after (by assumption) ?_ ?_) | (simp; done) | omega | (simp; omega)))
          obtain ⟨wn, hwn⟩ : ∃ wn, wn = (w10).alloc (.cells #[.int .i64 s5, .slice H5 h5 k5, .slice N5 n5 c5] 37) := ⟨_, rfl⟩
          rw [← hwn] at hbw hal ⊢
          obtain ⟨bwb, hn⟩ : ∃ bwb, bwb = w10.heap.size := ⟨_, rfl⟩
          (try rw [← hn] at hbw)
          (try rw [← hn])
          clear hn
          replace hX := hX.of hal
          replace hD := hD.of hal
          replace hH5 := hH5.of hal
          replace hN5 := hN5.of hal
          replace hbt := hbt.of hal
          replace hB := below_thru hB hal
          clear hwn hal
          obtain ⟨w11, hwn⟩ : ∃ q, q = wn := ⟨_, rfl⟩
          subst hwn
          obtain ⟨btz, bt0, bt1, -, -⟩ := hbt.open2
          have ⟨bwz, bw0, bw1, bw2⟩ := hbw
          go_wp2_with fail
          go_at_call 17
          refine (treF hs5 hH5 hN5 hby.out g3.out hz.out).mono ?_
          rintro e12 w12 ⟨A6, n6, c6, rfl, hA6, hb12⟩
          clear btz bt0 bt1
          clear bwz bw0 bw1 bw2
          replace hX := hX.of hb12
          replace hD := hD.of hb12
          replace hH5 := hH5.of hb12
          replace hN5 := hN5.of hb12
          replace hbt := hbt.of hb12
          replace hbw := hbw.of hb12
          replace hB := below_thru hB hb12
          clear hb12
          clear hH5
          clear hN5
          clear hs5
          clear hbw
          obtain ⟨btz, bt0, bt1, -, -⟩ := hbt.open2
          go_wp2_with fail
          go_at_call 14
          refine (ref02_SameV _ _ _ _ _ _ _ _ hA6 hD (by rw [← hA6.len]; have := g3.out; omega)).mono ?_
          rintro e13 w13 ⟨rfl, hb13⟩
          clear btz bt0 bt1
          replace hX := hX.of hb13
          replace hD := hD.of hb13
          replace hA6 := hA6.of hb13
          replace hbt := hbt.of hb13
          replace hB := below_thru hB hb13
          clear hb13
          clear hA6
          obtain ⟨btz, bt0, bt1, -, -⟩ := hbt.open2
          go_wp2_with fail
          rcases Classical.em (tmE (unB data) = 0) with hv | hv
          · skip
            replace hv := Lib.hid hv
            go_at_call 30
            refine (tti0 hD hby.out (by omega) hv.out).mono ?_
            rintro e14 w14 ⟨s7, N7, n7, c7, rfl, hs7, hN7, hb14⟩
            clear btz bt0 bt1
            replace hX := hX.of hb14
            replace hD := hD.of hb14
            replace hbt := hbt.of hb14
            replace hB := below_thru hB hb14
            clear hb14
            obtain ⟨btz, bt0, bt1, -, -⟩ := hbt.open2
            go_wp2_with fail
            clear btz bt0 bt1
            have hbz := BxW.new (w14) [.int .i64 s7, .slice N7 n7 c7] 54
            rw [show ∀ a b : Value, [a, b].toArray = #[a, b] from fun _ _ => rfl] at hbz
            have hal : Below w14.heap.size w14 ((w14).alloc (.cells #[.int .i64 s7, .slice N7 n7 c7] 54)) := by (repeat' (first | exact Below.refl _ _ | assumption | (refine Below.alloc ?_ ?_ _) | (refine Below.setCell ?_ ?_ _) | (refine Below.drew ?_) | (refine below_drewN ?_ _) | (refine below_after (Ext.below _) ?_ ?_) | (refine below_after (by assumption) ?_ ?_) | (simp; done) | omega | (simp; omega)))
            obtain ⟨wn, hwn⟩ : ∃ wn, wn = (w14).alloc (.cells #[.int .i64 s7, .slice N7 n7 c7] 54) := ⟨_, rfl⟩
            rw [← hwn] at hbz hal ⊢
            obtain ⟨bzb, hn⟩ : ∃ bzb, bzb = w14.heap.size := ⟨_, rfl⟩
            (try rw [← hn] at hbz)
            (try rw [← hn])
            clear hn
            replace hX := hX.of hal
            replace hD := hD.of hal
            replace hN7 := hN7.of hal
            replace hbt := hbt.of hal
            replace hB := below_thru hB hal
            clear hwn hal
            obtain ⟨w15, hwn⟩ : ∃ q, q = wn := ⟨_, rfl⟩
            subst hwn
            obtain ⟨btz, bt0, bt1, -, -⟩ := hbt.open2
            obtain ⟨bzz, bz0, bz1, -, -⟩ := hbz.open2
            go_wp2_with fail
            go_at_call 28
            refine (timF hs7 hN7 hby.out g3.out hv.out).mono ?_
            rintro e16 w16 ⟨A8, n8, c8, rfl, hA8, hb16⟩
            clear btz bt0 bt1
            clear bzz bz0 bz1
            replace hX := hX.of hb16
            replace hD := hD.of hb16
            replace hN7 := hN7.of hb16
            replace hbt := hbt.of hb16
            replace hbz := hbz.of hb16
            replace hB := below_thru hB hb16
            clear hb16
            clear hN7
            clear hs7
            clear hbz
            obtain ⟨btz, bt0, bt1, -, -⟩ := hbt.open2
            go_wp2_with fail
            go_at_call 14
            refine (ref02_SameV _ _ _ _ _ _ _ _ hA8 hD (by rw [← hA8.len]; have := g3.out; omega)).mono ?_
            rintro e17 w17 ⟨rfl, hb17⟩
            clear btz bt0 bt1
            replace hX := hX.of hb17
            replace hD := hD.of hb17
            replace hA8 := hA8.of hb17
            replace hbt := hbt.of hb17
            replace hB := below_thru hB hb17
            clear hb17
            clear hA8
            obtain ⟨btz, bt0, bt1, -, -⟩ := hbt.open2
            go_wp2_with fail
            go_at_call 9
            refine (awake_55 _).mono ?_
            rintro e18 w18 ⟨rfl, hb18⟩
            clear btz bt0 bt1
            replace hX := hX.of hb18
            replace hD := hD.of hb18
            replace hbt := hbt.of hb18
            replace hB := below_thru hB hb18
            clear hb18
            go_wp2_with fail
            go_ret
            exact ⟨rfl, hB⟩
          · skip
            replace hv := Lib.hid hv
            go_at_call 30
            refine (ttiX hD hby.out (by omega) hv.out).mono ?_
            rintro e14 w14 ⟨s7, N7, n7, c7, v7, rfl, dv7, hb14⟩
            clear btz bt0 bt1
            replace hX := hX.of hb14
            replace hD := hD.of hb14
            replace hbt := hbt.of hb14
            replace hB := below_thru hB hb14
            clear hb14
            obtain ⟨btz, bt0, bt1, -, -⟩ := hbt.open2
            go_wp2_with fail
            clear btz bt0 bt1
            have hbz := BxW.new (w14) [.int .i64 s7, .slice N7 n7 c7] 54
            rw [show ∀ a b : Value, [a, b].toArray = #[a, b] from fun _ _ => rfl] at hbz
            have hal : Below w14.heap.size w14 ((w14).alloc (.cells #[.int .i64 s7, .slice N7 n7 c7] 54)) := by (repeat' (first | exact Below.refl _ _ | assumption | (refine Below.alloc ?_ ?_ _) | (refine Below.setCell ?_ ?_ _) | (refine Below.drew ?_) | (refine below_drewN ?_ _) | (refine below_after (Ext.below _) ?_ ?_) | (refine below_after (by assumption) ?_ ?_) | (simp; done) | omega | (simp; omega)))
            obtain ⟨wn, hwn⟩ : ∃ wn, wn = (w14).alloc (.cells #[.int .i64 s7, .slice N7 n7 c7] 54) := ⟨_, rfl⟩
            rw [← hwn] at hbz hal ⊢
            obtain ⟨bzb, hn⟩ : ∃ bzb, bzb = w14.heap.size := ⟨_, rfl⟩
            (try rw [← hn] at hbz)
            (try rw [← hn])
            clear hn
            replace hX := hX.of hal
            replace hD := hD.of hal
            replace hbt := hbt.of hal
            replace hB := below_thru hB hal
            clear hwn hal
            obtain ⟨w15, hwn⟩ : ∃ q, q = wn := ⟨_, rfl⟩
            subst hwn
            clear hbz
            obtain ⟨btz, bt0, bt1, -, -⟩ := hbt.open2
            go_wp2_with fail
            go_at_call 9
            refine (awake_55 _).mono ?_
            rintro e16 w16 ⟨rfl, hb16⟩
            clear btz bt0 bt1
            replace hX := hX.of hb16
            replace hD := hD.of hb16
            replace hbt := hbt.of hb16
            replace hB := below_thru hB hb16
            clear hb16
            go_wp2_with fail
            go_ret
            exact ⟨rfl, hB⟩
        · skip
          replace hz := Lib.hid hz
          go_at_call 19
          refine (ttrX hD hby.out (by omega) hz.out).mono ?_
          rintro e10 w10 ⟨s5, H5, h5, k5, N5, n5, c5, v5, rfl, dv5, hb10⟩
          clear btz bt0 bt1
          replace hX := hX.of hb10
          replace hD := hD.of hb10
          replace hbt := hbt.of hb10
          replace hB := below_thru hB hb10
          clear hb10
          obtain ⟨btz, bt0, bt1, -, -⟩ := hbt.open2
          go_wp2_with fail
          clear btz bt0 bt1
          have hbw := TrAt.new (w10) (.int .i64 s5) (.slice H5 h5 k5) (.slice N5 n5 c5) 37
          have hal : Below w10.heap.size w10 ((w10).alloc (.cells #[.int .i64 s5, .slice H5 h5 k5, .slice N5 n5 c5] 37)) := by (repeat' (first | exact Below.refl _ _ | assumption | (refine Below.alloc ?_ ?_ _) | (refine Below.setCell ?_ ?_ _) | (refine Below.drew ?_) | (refine below_drewN ?_ _) | (refine below_after (Ext.below _) ?_ ?_) | (refine below_after (by assumption) ?_ ?_) | (simp; done) | omega | (simp; omega)))
          obtain ⟨wn, hwn⟩ : ∃ wn, wn = (w10).alloc (.cells #[.int .i64 s5, .slice H5 h5 k5, .slice N5 n5 c5] 37) := ⟨_, rfl⟩
          rw [← hwn] at hbw hal ⊢
          obtain ⟨bwb, hn⟩ : ∃ bwb, bwb = w10.heap.size := ⟨_, rfl⟩
          (try rw [← hn] at hbw)
          (try rw [← hn])
          clear hn
          replace hX := hX.of hal
          replace hD := hD.of hal
          replace hbt := hbt.of hal
          replace hB := below_thru hB hal
          clear hwn hal
          obtain ⟨w11, hwn⟩ : ∃ q, q = wn := ⟨_, rfl⟩
          subst hwn
          clear hbw
          obtain ⟨btz, bt0, bt1, -, -⟩ := hbt.open2
          go_wp2_with fail
          rcases Classical.em (tmE (unB data) = 0) with hv | hv
          · skip
            replace hv := Lib.hid hv
            go_at_call 30
            refine (tti0 hD hby.out (by omega) hv.out).mono ?_
            rintro e12 w12 ⟨s7, N7, n7, c7, rfl, hs7, hN7, hb12⟩
            clear btz bt0 bt1
            replace hX := hX.of hb12
            replace hD := hD.of hb12
            replace hbt := hbt.of hb12
            replace hB := below_thru hB hb12
            clear hb12
            obtain ⟨btz, bt0, bt1, -, -⟩ := hbt.open2
            go_wp2_with fail
            clear btz bt0 bt1
            have hbz := BxW.new (w12) [.int .i64 s7, .slice N7 n7 c7] 54
            rw [show ∀ a b : Value, [a, b].toArray = #[a, b] from fun _ _ => rfl] at hbz
            have hal : Below w12.heap.size w12 ((w12).alloc (.cells #[.int .i64 s7, .slice N7 n7 c7] 54)) := by (repeat' (first | exact Below.refl _ _ | assumption | (refine Below.alloc ?_ ?_ _) | (refine Below.setCell ?_ ?_ _) | (refine Below.drew ?_) | (refine below_drewN ?_ _) | (refine below_after (Ext.below _) ?_ ?_) | (refine below_after (by assumption) ?_ ?_) | (simp; done) | omega | (simp; omega)))
            obtain ⟨wn, hwn⟩ : ∃ wn, wn = (w12).alloc (.cells #[.int .i64 s7, .slice N7 n7 c7] 54) := ⟨_, rfl⟩
            rw [← hwn] at hbz hal ⊢
            obtain ⟨bzb, hn⟩ : ∃ bzb, bzb = w12.heap.size := ⟨_, rfl⟩
            (try rw [← hn] at hbz)
            (try rw [← hn])
            clear hn
            replace hX := hX.of hal
            replace hD := hD.of hal
            replace hN7 := hN7.of hal
            replace hbt := hbt.of hal
            replace hB := below_thru hB hal
            clear hwn hal
            obtain ⟨w13, hwn⟩ : ∃ q, q = wn := ⟨_, rfl⟩
            subst hwn
            obtain ⟨btz, bt0, bt1, -, -⟩ := hbt.open2
            obtain ⟨bzz, bz0, bz1, -, -⟩ := hbz.open2
            go_wp2_with fail
            go_at_call 28
            refine (timF hs7 hN7 hby.out g3.out hv.out).mono ?_
            rintro e14 w14 ⟨A8, n8, c8, rfl, hA8, hb14⟩
            clear btz bt0 bt1
            clear bzz bz0 bz1
            replace hX := hX.of hb14
            replace hD := hD.of hb14
            replace hN7 := hN7.of hb14
            replace hbt := hbt.of hb14
            replace hbz := hbz.of hb14
            replace hB := below_thru hB hb14
            clear hb14
            clear hN7
            clear hs7
            clear hbz
            obtain ⟨btz, bt0, bt1, -, -⟩ := hbt.open2
            go_wp2_with fail
            go_at_call 14
            refine (ref02_SameV _ _ _ _ _ _ _ _ hA8 hD (by rw [← hA8.len]; have := g3.out; omega)).mono ?_
            rintro e15 w15 ⟨rfl, hb15⟩
            clear btz bt0 bt1
            replace hX := hX.of hb15
            replace hD := hD.of hb15
            replace hA8 := hA8.of hb15
            replace hbt := hbt.of hb15
            replace hB := below_thru hB hb15
            clear hb15
            clear hA8
            obtain ⟨btz, bt0, bt1, -, -⟩ := hbt.open2
            go_wp2_with fail
            go_at_call 9
            refine (awake_55 _).mono ?_
            rintro e16 w16 ⟨rfl, hb16⟩
            clear btz bt0 bt1
            replace hX := hX.of hb16
            replace hD := hD.of hb16
            replace hbt := hbt.of hb16
            replace hB := below_thru hB hb16
            clear hb16
            go_wp2_with fail
            go_ret
            exact ⟨rfl, hB⟩
          · skip
            replace hv := Lib.hid hv
            go_at_call 30
            refine (ttiX hD hby.out (by omega) hv.out).mono ?_
            rintro e12 w12 ⟨s7, N7, n7, c7, v7, rfl, dv7, hb12⟩
            clear btz bt0 bt1
            replace hX := hX.of hb12
            replace hD := hD.of hb12
            replace hbt := hbt.of hb12
            replace hB := below_thru hB hb12
            clear hb12
            obtain ⟨btz, bt0, bt1, -, -⟩ := hbt.open2
            go_wp2_with fail
            clear btz bt0 bt1
            have hbz := BxW.new (w12) [.int .i64 s7, .slice N7 n7 c7] 54
            rw [show ∀ a b : Value, [a, b].toArray = #[a, b] from fun _ _ => rfl] at hbz
            have hal : Below w12.heap.size w12 ((w12).alloc (.cells #[.int .i64 s7, .slice N7 n7 c7] 54)) := by (repeat' (first | exact Below.refl _ _ | assumption | (refine Below.alloc ?_ ?_ _) | (refine Below.setCell ?_ ?_ _) | (refine Below.drew ?_) | (refine below_drewN ?_ _) | (refine below_after (Ext.below _) ?_ ?_) | (refine below_after (by assumption) ?_ ?_) | (simp; done) | omega | (simp; omega)))
            obtain ⟨wn, hwn⟩ : ∃ wn, wn = (w12).alloc (.cells #[.int .i64 s7, .slice N7 n7 c7] 54) := ⟨_, rfl⟩
            rw [← hwn] at hbz hal ⊢
            obtain ⟨bzb, hn⟩ : ∃ bzb, bzb = w12.heap.size := ⟨_, rfl⟩
            (try rw [← hn] at hbz)
            (try rw [← hn])
            clear hn
            replace hX := hX.of hal
            replace hD := hD.of hal
            replace hbt := hbt.of hal
            replace hB := below_thru hB hal
            clear hwn hal
            obtain ⟨w13, hwn⟩ : ∃ q, q = wn := ⟨_, rfl⟩
            subst hwn
            clear hbz
            obtain ⟨btz, bt0, bt1, -, -⟩ := hbt.open2
            go_wp2_with fail
            go_at_call 9
            refine (awake_55 _).mono ?_
            rintro e14 w14 ⟨rfl, hb14⟩
            clear btz bt0 bt1
            replace hX := hX.of hb14
            replace hD := hD.of hb14
            replace hbt := hbt.of hb14
            replace hB := below_thru hB hb14
            clear hb14
            go_wp2_with fail
            go_ret
            exact ⟨rfl, hB⟩
      · skip
        replace hu := Lib.hid hu
        go_at_call 12
        refine (tptX hD hby.out (by omega) hu.out).mono ?_
        rintro e7 w7 ⟨A3, n3, c3, v3, rfl, dv3, hb7⟩
        clear btz bt0 bt1
        replace hX := hX.of hb7
        replace hD := hD.of hb7
        replace hbt := hbt.of hb7
        replace hB := below_thru hB hb7
        clear hb7
        obtain ⟨btz, bt0, bt1, -, -⟩ := hbt.open2
        go_wp2_with fail
        rcases Classical.em (ttE (unB data) = 0) with hz | hz
        · skip
          replace hz := Lib.hid hz
          go_at_call 19
          refine (ttr0 hD hby.out (by omega) hz.out).mono ?_
          rintro e8 w8 ⟨s5, H5, h5, k5, N5, n5, c5, rfl, hs5, hH5, hN5, hb8⟩
          clear btz bt0 bt1
          replace hX := hX.of hb8
          replace hD := hD.of hb8
          replace hbt := hbt.of hb8
          replace hB := below_thru hB hb8
          clear hb8
          obtain ⟨btz, bt0, bt1, -, -⟩ := hbt.open2
          go_wp2_with fail
          clear btz bt0 bt1
          have hbw := TrAt.new (w8) (.int .i64 s5) (.slice H5 h5 k5) (.slice N5 n5 c5) 37
          have hal : Below w8.heap.size w8 ((w8).alloc (.cells #[.int .i64 s5, .slice H5 h5 k5, .slice N5 n5 c5] 37)) := by (repeat' (first | exact Below.refl _ _ | assumption | (refine Below.alloc ?_ ?_ _) | (refine Below.setCell ?_ ?_ _) | (refine Below.drew ?_) | (refine below_drewN ?_ _) | (refine below_after (Ext.below _) ?_ ?_) | (refine below_after (by assumption) ?_ ?_) | (simp; done) | omega | (simp; omega)))
          obtain ⟨wn, hwn⟩ : ∃ wn, wn = (w8).alloc (.cells #[.int .i64 s5, .slice H5 h5 k5, .slice N5 n5 c5] 37) := ⟨_, rfl⟩
          rw [← hwn] at hbw hal ⊢
          obtain ⟨bwb, hn⟩ : ∃ bwb, bwb = w8.heap.size := ⟨_, rfl⟩
          (try rw [← hn] at hbw)
          (try rw [← hn])
          clear hn
          replace hX := hX.of hal
          replace hD := hD.of hal
          replace hH5 := hH5.of hal
          replace hN5 := hN5.of hal
          replace hbt := hbt.of hal
          replace hB := below_thru hB hal
          clear hwn hal
          obtain ⟨w9, hwn⟩ : ∃ q, q = wn := ⟨_, rfl⟩
          subst hwn
          obtain ⟨btz, bt0, bt1, -, -⟩ := hbt.open2
          have ⟨bwz, bw0, bw1, bw2⟩ := hbw
          go_wp2_with fail
          go_at_call 17
          refine (treF hs5 hH5 hN5 hby.out g3.out hz.out).mono ?_
          rintro e10 w10 ⟨A6, n6, c6, rfl, hA6, hb10⟩
          clear btz bt0 bt1
          clear bwz bw0 bw1 bw2
          replace hX := hX.of hb10
          replace hD := hD.of hb10
          replace hH5 := hH5.of hb10
          replace hN5 := hN5.of hb10
          replace hbt := hbt.of hb10
          replace hbw := hbw.of hb10
          replace hB := below_thru hB hb10
          clear hb10
          clear hH5
          clear hN5
          clear hs5
          clear hbw
          obtain ⟨btz, bt0, bt1, -, -⟩ := hbt.open2
          go_wp2_with fail
          go_at_call 14
          refine (ref02_SameV _ _ _ _ _ _ _ _ hA6 hD (by rw [← hA6.len]; have := g3.out; omega)).mono ?_
          rintro e11 w11 ⟨rfl, hb11⟩
          clear btz bt0 bt1
          replace hX := hX.of hb11
          replace hD := hD.of hb11
          replace hA6 := hA6.of hb11
          replace hbt := hbt.of hb11
          replace hB := below_thru hB hb11
          clear hb11
          clear hA6
          obtain ⟨btz, bt0, bt1, -, -⟩ := hbt.open2
          go_wp2_with fail
          rcases Classical.em (tmE (unB data) = 0) with hv | hv
          · skip
            replace hv := Lib.hid hv
            go_at_call 30
            refine (tti0 hD hby.out (by omega) hv.out).mono ?_
            rintro e12 w12 ⟨s7, N7, n7, c7, rfl, hs7, hN7, hb12⟩
            clear btz bt0 bt1
            replace hX := hX.of hb12
            replace hD := hD.of hb12
            replace hbt := hbt.of hb12
            replace hB := below_thru hB hb12
            clear hb12
            obtain ⟨btz, bt0, bt1, -, -⟩ := hbt.open2
            go_wp2_with fail
            clear btz bt0 bt1
            have hbz := BxW.new (w12) [.int .i64 s7, .slice N7 n7 c7] 54
            rw [show ∀ a b : Value, [a, b].toArray = #[a, b] from fun _ _ => rfl] at hbz
            have hal : Below w12.heap.size w12 ((w12).alloc (.cells #[.int .i64 s7, .slice N7 n7 c7] 54)) := by (repeat' (first | exact Below.refl _ _ | assumption | (refine Below.alloc ?_ ?_ _) | (refine Below.setCell ?_ ?_ _) | (refine Below.drew ?_) | (refine below_drewN ?_ _) | (refine below_after (Ext.below _) ?_ ?_) | (refine below_after (by assumption) ?_ ?_) | (simp; done) | omega | (simp; omega)))
            obtain ⟨wn, hwn⟩ : ∃ wn, wn = (w12).alloc (.cells #[.int .i64 s7, .slice N7 n7 c7] 54) := ⟨_, rfl⟩
            rw [← hwn] at hbz hal ⊢
            obtain ⟨bzb, hn⟩ : ∃ bzb, bzb = w12.heap.size := ⟨_, rfl⟩
            (try rw [← hn] at hbz)
            (try rw [← hn])
            clear hn
            replace hX := hX.of hal
            replace hD := hD.of hal
            replace hN7 := hN7.of hal
            replace hbt := hbt.of hal
            replace hB := below_thru hB hal
            clear hwn hal
            obtain ⟨w13, hwn⟩ : ∃ q, q = wn := ⟨_, rfl⟩
            subst hwn
            obtain ⟨btz, bt0, bt1, -, -⟩ := hbt.open2
            obtain ⟨bzz, bz0, bz1, -, -⟩ := hbz.open2
            go_wp2_with fail
            go_at_call 28
            refine (timF hs7 hN7 hby.out g3.out hv.out).mono ?_
            rintro e14 w14 ⟨A8, n8, c8, rfl, hA8, hb14⟩
            clear btz bt0 bt1
            clear bzz bz0 bz1
            replace hX := hX.of hb14
            replace hD := hD.of hb14
            replace hN7 := hN7.of hb14
            replace hbt := hbt.of hb14
            replace hbz := hbz.of hb14
            replace hB := below_thru hB hb14
            clear hb14
            clear hN7
            clear hs7
            clear hbz
            obtain ⟨btz, bt0, bt1, -, -⟩ := hbt.open2
            go_wp2_with fail
            go_at_call 14
            refine (ref02_SameV _ _ _ _ _ _ _ _ hA8 hD (by rw [← hA8.len]; have := g3.out; omega)).mono ?_
            rintro e15 w15 ⟨rfl, hb15⟩
            clear btz bt0 bt1
            replace hX := hX.of hb15
            replace hD := hD.of hb15
            replace hA8 := hA8.of hb15
            replace hbt := hbt.of hb15
            replace hB := below_thru hB hb15
            clear hb15
            clear hA8
            obtain ⟨btz, bt0, bt1, -, -⟩ := hbt.open2
            go_wp2_with fail
            go_at_call 9
            refine (awake_55 _).mono ?_
            rintro e16 w16 ⟨rfl, hb16⟩
            clear btz bt0 bt1
            replace hX := hX.of hb16
            replace hD := hD.of hb16
            replace hbt := hbt.of hb16
            replace hB := below_thru hB hb16
            clear hb16
            go_wp2_with fail
            go_ret
            exact ⟨rfl, hB⟩
          · skip
            replace hv := Lib.hid hv
            go_at_call 30
            refine (ttiX hD hby.out (by omega) hv.out).mono ?_
            rintro e12 w12 ⟨s7, N7, n7, c7, v7, rfl, dv7, hb12⟩
            clear btz bt0 bt1
            replace hX := hX.of hb12
            replace hD := hD.of hb12
            replace hbt := hbt.of hb12
            replace hB := below_thru hB hb12
            clear hb12
            obtain ⟨btz, bt0, bt1, -, -⟩ := hbt.open2
            go_wp2_with fail
            clear btz bt0 bt1
            have hbz := BxW.new (w12) [.int .i64 s7, .slice N7 n7 c7] 54
            rw [show ∀ a b : Value, [a, b].toArray = #[a, b] from fun _ _ => rfl] at hbz
            have hal : Below w12.heap.size w12 ((w12).alloc (.cells #[.int .i64 s7, .slice N7 n7 c7] 54)) := by (repeat' (first | exact Below.refl _ _ | assumption | (refine Below.alloc ?_ ?_ _) | (refine Below.setCell ?_ ?_ _) | (refine Below.drew ?_) | (refine below_drewN ?_ _) | (refine below_after (Ext.below _) ?_ ?_) | (refine below_after (by assumption) ?_ ?_) | (simp; done) | omega | (simp; omega)))
            obtain ⟨wn, hwn⟩ : ∃ wn, wn = (w12).alloc (.cells #[.int .i64 s7, .slice N7 n7 c7] 54) := ⟨_, rfl⟩
            rw [← hwn] at hbz hal ⊢
            obtain ⟨bzb, hn⟩ : ∃ bzb, bzb = w12.heap.size := ⟨_, rfl⟩
            (try rw [← hn] at hbz)
            (try rw [← hn])
            clear hn
            replace hX := hX.of hal
            replace hD := hD.of hal
            replace hbt := hbt.of hal
            replace hB := below_thru hB hal
            clear hwn hal
            obtain ⟨w13, hwn⟩ : ∃ q, q = wn := ⟨_, rfl⟩
            subst hwn
            clear hbz
            obtain ⟨btz, bt0, bt1, -, -⟩ := hbt.open2
            go_wp2_with fail
            go_at_call 9
            refine (awake_55 _).mono ?_
            rintro e14 w14 ⟨rfl, hb14⟩
            clear btz bt0 bt1
            replace hX := hX.of hb14
            replace hD := hD.of hb14
            replace hbt := hbt.of hb14
            replace hB := below_thru hB hb14
            clear hb14
            go_wp2_with fail
            go_ret
            exact ⟨rfl, hB⟩
        · skip
          replace hz := Lib.hid hz
          go_at_call 19
          refine (ttrX hD hby.out (by omega) hz.out).mono ?_
          rintro e8 w8 ⟨s5, H5, h5, k5, N5, n5, c5, v5, rfl, dv5, hb8⟩
          clear btz bt0 bt1
          replace hX := hX.of hb8
          replace hD := hD.of hb8
          replace hbt := hbt.of hb8
          replace hB := below_thru hB hb8
          clear hb8
          obtain ⟨btz, bt0, bt1, -, -⟩ := hbt.open2
          go_wp2_with fail
          clear btz bt0 bt1
          have hbw := TrAt.new (w8) (.int .i64 s5) (.slice H5 h5 k5) (.slice N5 n5 c5) 37
          have hal : Below w8.heap.size w8 ((w8).alloc (.cells #[.int .i64 s5, .slice H5 h5 k5, .slice N5 n5 c5] 37)) := by (repeat' (first | exact Below.refl _ _ | assumption | (refine Below.alloc ?_ ?_ _) | (refine Below.setCell ?_ ?_ _) | (refine Below.drew ?_) | (refine below_drewN ?_ _) | (refine below_after (Ext.below _) ?_ ?_) | (refine below_after (by assumption) ?_ ?_) | (simp; done) | omega | (simp; omega)))
          obtain ⟨wn, hwn⟩ : ∃ wn, wn = (w8).alloc (.cells #[.int .i64 s5, .slice H5 h5 k5, .slice N5 n5 c5] 37) := ⟨_, rfl⟩
          rw [← hwn] at hbw hal ⊢
          obtain ⟨bwb, hn⟩ : ∃ bwb, bwb = w8.heap.size := ⟨_, rfl⟩
          (try rw [← hn] at hbw)
          (try rw [← hn])
          clear hn
          replace hX := hX.of hal
          replace hD := hD.of hal
          replace hbt := hbt.of hal
          replace hB := below_thru hB hal
          clear hwn hal
          obtain ⟨w9, hwn⟩ : ∃ q, q = wn := ⟨_, rfl⟩
          subst hwn
          clear hbw
          obtain ⟨btz, bt0, bt1, -, -⟩ := hbt.open2
          go_wp2_with fail
          rcases Classical.em (tmE (unB data) = 0) with hv | hv
          · skip
            replace hv := Lib.hid hv
            go_at_call 30
            refine (tti0 hD hby.out (by omega) hv.out).mono ?_
            rintro e10 w10 ⟨s7, N7, n7, c7, rfl, hs7, hN7, hb10⟩
            clear btz bt0 bt1
            replace hX := hX.of hb10
            replace hD := hD.of hb10
            replace hbt := hbt.of hb10
            replace hB := below_thru hB hb10
            clear hb10
            obtain ⟨btz, bt0, bt1, -, -⟩ := hbt.open2
            go_wp2_with fail
            clear btz bt0 bt1
            have hbz := BxW.new (w10) [.int .i64 s7, .slice N7 n7 c7] 54
            rw [show ∀ a b : Value, [a, b].toArray = #[a, b] from fun _ _ => rfl] at hbz
            have hal : Below w10.heap.size w10 ((w10).alloc (.cells #[.int .i64 s7, .slice N7 n7 c7] 54)) := by (repeat' (first | exact Below.refl _ _ | assumption | (refine Below.alloc ?_ ?_ _) | (refine Below.setCell ?_ ?_ _) | (refine Below.drew ?_) | (refine below_drewN ?_ _) | (refine below_after (Ext.below _) ?_ ?_) | (refine below_after (by assumption) ?_ ?_) | (simp; done) | omega | (simp; omega)))
            obtain ⟨wn, hwn⟩ : ∃ wn, wn = (w10).alloc (.cells #[.int .i64 s7, .slice N7 n7 c7] 54) := ⟨_, rfl⟩
            rw [← hwn] at hbz hal ⊢
            obtain ⟨bzb, hn⟩ : ∃ bzb, bzb = w10.heap.size := ⟨_, rfl⟩
            (try rw [← hn] at hbz)
            (try rw [← hn])
            clear hn
            replace hX := hX.of hal
            replace hD := hD.of hal
            replace hN7 := hN7.of hal
            replace hbt := hbt.of hal
            replace hB := below_thru hB hal
            clear hwn hal
            obtain ⟨w11, hwn⟩ : ∃ q, q = wn := ⟨_, rfl⟩
            subst hwn
            obtain ⟨btz, bt0, bt1, -, -⟩ := hbt.open2
            obtain ⟨bzz, bz0, bz1, -, -⟩ := hbz.open2
            go_wp2_with fail
            go_at_call 28
            refine (timF hs7 hN7 hby.out g3.out hv.out).mono ?_
            rintro e12 w12 ⟨A8, n8, c8, rfl, hA8, hb12⟩
            clear btz bt0 bt1
            clear bzz bz0 bz1
            replace hX := hX.of hb12
            replace hD := hD.of hb12
            replace hN7 := hN7.of hb12
            replace hbt := hbt.of hb12
            replace hbz := hbz.of hb12
            replace hB := below_thru hB hb12
            clear hb12
            clear hN7
            clear hs7
            clear hbz
            obtain ⟨btz, bt0, bt1, -, -⟩ := hbt.open2
            go_wp2_with fail
            go_at_call 14
            refine (ref02_SameV _ _ _ _ _ _ _ _ hA8 hD (by rw [← hA8.len]; have := g3.out; omega)).mono ?_
            rintro e13 w13 ⟨rfl, hb13⟩
            clear btz bt0 bt1
            replace hX := hX.of hb13
            replace hD := hD.of hb13
            replace hA8 := hA8.of hb13
            replace hbt := hbt.of hb13
            replace hB := below_thru hB hb13
            clear hb13
            clear hA8
            obtain ⟨btz, bt0, bt1, -, -⟩ := hbt.open2
            go_wp2_with fail
            go_at_call 9
            refine (awake_55 _).mono ?_
            rintro e14 w14 ⟨rfl, hb14⟩
            clear btz bt0 bt1
            replace hX := hX.of hb14
            replace hD := hD.of hb14
            replace hbt := hbt.of hb14
            replace hB := below_thru hB hb14
            clear hb14
            go_wp2_with fail
            go_ret
            exact ⟨rfl, hB⟩
          · skip
            replace hv := Lib.hid hv
            go_at_call 30
            refine (ttiX hD hby.out (by omega) hv.out).mono ?_
            rintro e10 w10 ⟨s7, N7, n7, c7, v7, rfl, dv7, hb10⟩
            clear btz bt0 bt1
            replace hX := hX.of hb10
            replace hD := hD.of hb10
            replace hbt := hbt.of hb10
            replace hB := below_thru hB hb10
            clear hb10
            obtain ⟨btz, bt0, bt1, -, -⟩ := hbt.open2
            go_wp2_with fail
            clear btz bt0 bt1
            have hbz := BxW.new (w10) [.int .i64 s7, .slice N7 n7 c7] 54
            rw [show ∀ a b : Value, [a, b].toArray = #[a, b] from fun _ _ => rfl] at hbz
            have hal : Below w10.heap.size w10 ((w10).alloc (.cells #[.int .i64 s7, .slice N7 n7 c7] 54)) := by (repeat' (first | exact Below.refl _ _ | assumption | (refine Below.alloc ?_ ?_ _) | (refine Below.setCell ?_ ?_ _) | (refine Below.drew ?_) | (refine below_drewN ?_ _) | (refine below_after (Ext.below _) ?_ ?_) | (refine below_after (by assumption) ?_ ?_) | (simp; done) | omega | (simp; omega)))
            obtain ⟨wn, hwn⟩ : ∃ wn, wn = (w10).alloc (.cells #[.int .i64 s7, .slice N7 n7 c7] 54) := ⟨_, rfl⟩
            rw [← hwn] at hbz hal ⊢
            obtain ⟨bzb, hn⟩ : ∃ bzb, bzb = w10.heap.size := ⟨_, rfl⟩
            (try rw [← hn] at hbz)
            (try rw [← hn])
            clear hn
            replace hX := hX.of hal
            replace hD := hD.of hal
            replace hbt := hbt.of hal
            replace hB := below_thru hB hal
            clear hwn hal
            obtain ⟨w11, hwn⟩ : ∃ q, q = wn := ⟨_, rfl⟩
            subst hwn
            clear hbz
            obtain ⟨btz, bt0, bt1, -, -⟩ := hbt.open2
            go_wp2_with fail
            go_at_call 9
            refine (awake_55 _).mono ?_
            rintro e12 w12 ⟨rfl, hb12⟩
            clear btz bt0 bt1
            replace hX := hX.of hb12
            replace hD := hD.of hb12
            replace hbt := hbt.of hb12
            replace hB := below_thru hB hb12
            clear hb12
            go_wp2_with fail
            go_ret
            exact ⟨rfl, hB⟩
    · skip
      replace he := Lib.hid he
      go_at_call 28
      refine (timX hX g1.out he.out).mono ?_
      rintro e3 w3 ⟨A1, n1, c1, v1, rfl, dv1, hb3⟩
      clear btz bt0 bt1
      replace hX := hX.of hb3
      replace hD := hD.of hb3
      replace hbt := hbt.of hb3
      replace hB := below_thru hB hb3
      clear hb3
      obtain ⟨btz, bt0, bt1, -, -⟩ := hbt.open2
      go_wp2_with fail
      rcases Classical.em (tpE (unB data) = 0) with hu | hu
      · skip
        replace hu := Lib.hid hu
        go_at_call 12
        refine (tpt0 hD hby.out (by omega) hu.out).mono ?_
        rintro e4 w4 ⟨A3, n3, c3, rfl, hA3, hb4⟩
        clear btz bt0 bt1
        replace hX := hX.of hb4
        replace hD := hD.of hb4
        replace hbt := hbt.of hb4
        replace hB := below_thru hB hb4
        clear hb4
        obtain ⟨btz, bt0, bt1, -, -⟩ := hbt.open2
        go_wp2_with fail
        go_at_call 10
        refine (patF hA3 hby.out g3.out hu.out).mono ?_
        rintro e5 w5 ⟨A4, n4, c4, rfl, hA4, hb5⟩
        clear btz bt0 bt1
        replace hX := hX.of hb5
        replace hD := hD.of hb5
        replace hA3 := hA3.of hb5
        replace hbt := hbt.of hb5
        replace hB := below_thru hB hb5
        clear hb5
        clear hA3
        obtain ⟨btz, bt0, bt1, -, -⟩ := hbt.open2
        go_wp2_with fail
        go_at_call 14
        refine (ref02_SameV _ _ _ _ _ _ _ _ hA4 hD (by rw [← hA4.len]; have := g3.out; omega)).mono ?_
        rintro e6 w6 ⟨rfl, hb6⟩
        clear btz bt0 bt1
        replace hX := hX.of hb6
        replace hD := hD.of hb6
        replace hA4 := hA4.of hb6
        replace hbt := hbt.of hb6
        replace hB := below_thru hB hb6
        clear hb6
        clear hA4
        obtain ⟨btz, bt0, bt1, -, -⟩ := hbt.open2
        go_wp2_with fail
        rcases Classical.em (ttE (unB data) = 0) with hz | hz
        · skip
          replace hz := Lib.hid hz
          go_at_call 19
          refine (ttr0 hD hby.out (by omega) hz.out).mono ?_
          rintro e7 w7 ⟨s5, H5, h5, k5, N5, n5, c5, rfl, hs5, hH5, hN5, hb7⟩
          clear btz bt0 bt1
          replace hX := hX.of hb7
          replace hD := hD.of hb7
          replace hbt := hbt.of hb7
          replace hB := below_thru hB hb7
          clear hb7
          obtain ⟨btz, bt0, bt1, -, -⟩ := hbt.open2
          go_wp2_with fail
          clear btz bt0 bt1
          have hbw := TrAt.new (w7) (.int .i64 s5) (.slice H5 h5 k5) (.slice N5 n5 c5) 37
          have hal : Below w7.heap.size w7 ((w7).alloc (.cells #[.int .i64 s5, .slice H5 h5 k5, .slice N5 n5 c5] 37)) := by (repeat' (first | exact Below.refl _ _ | assumption | (refine Below.alloc ?_ ?_ _) | (refine Below.setCell ?_ ?_ _) | (refine Below.drew ?_) | (refine below_drewN ?_ _) | (refine below_after (Ext.below _) ?_ ?_) | (refine below_after (by assumption) ?_ ?_) | (simp; done) | omega | (simp; omega)))
          obtain ⟨wn, hwn⟩ : ∃ wn, wn = (w7).alloc (.cells #[.int .i64 s5, .slice H5 h5 k5, .slice N5 n5 c5] 37) := ⟨_, rfl⟩
          rw [← hwn] at hbw hal ⊢
          obtain ⟨bwb, hn⟩ : ∃ bwb, bwb = w7.heap.size := ⟨_, rfl⟩
          (try rw [← hn] at hbw)
          (try rw [← hn])
          clear hn
          replace hX := hX.of hal
          replace hD := hD.of hal
          replace hH5 := hH5.of hal
          replace hN5 := hN5.of hal
          replace hbt := hbt.of hal
          replace hB := below_thru hB hal
          clear hwn hal
          obtain ⟨w8, hwn⟩ : ∃ q, q = wn := ⟨_, rfl⟩
          subst hwn
          obtain ⟨btz, bt0, bt1, -, -⟩ := hbt.open2
          have ⟨bwz, bw0, bw1, bw2⟩ := hbw
          go_wp2_with fail
          go_at_call 17
          refine (treF hs5 hH5 hN5 hby.out g3.out hz.out).mono ?_
          rintro e9 w9 ⟨A6, n6, c6, rfl, hA6, hb9⟩
          clear btz bt0 bt1
          clear bwz bw0 bw1 bw2
          replace hX := hX.of hb9
          replace hD := hD.of hb9
          replace hH5 := hH5.of hb9
          replace hN5 := hN5.of hb9
          replace hbt := hbt.of hb9
          replace hbw := hbw.of hb9
          replace hB := below_thru hB hb9
          clear hb9
          clear hH5
          clear hN5
          clear hs5
          clear hbw
          obtain ⟨btz, bt0, bt1, -, -⟩ := hbt.open2
          go_wp2_with fail
          go_at_call 14
          refine (ref02_SameV _ _ _ _ _ _ _ _ hA6 hD (by rw [← hA6.len]; have := g3.out; omega)).mono ?_
          rintro e10 w10 ⟨rfl, hb10⟩
          clear btz bt0 bt1
          replace hX := hX.of hb10
          replace hD := hD.of hb10
          replace hA6 := hA6.of hb10
          replace hbt := hbt.of hb10
          replace hB := below_thru hB hb10
          clear hb10
          clear hA6
          obtain ⟨btz, bt0, bt1, -, -⟩ := hbt.open2
          go_wp2_with fail
          rcases Classical.em (tmE (unB data) = 0) with hv | hv
          · skip
            replace hv := Lib.hid hv
            go_at_call 30
            refine (tti0 hD hby.out (by omega) hv.out).mono ?_
            rintro e11 w11 ⟨s7, N7, n7, c7, rfl, hs7, hN7, hb11⟩
            clear btz bt0 bt1
            replace hX := hX.of hb11
            replace hD := hD.of hb11
            replace hbt := hbt.of hb11
            replace hB := below_thru hB hb11
            clear hb11
            obtain ⟨btz, bt0, bt1, -, -⟩ := hbt.open2
            go_wp2_with fail
            clear btz bt0 bt1
            have hbz := BxW.new (w11) [.int .i64 s7, .slice N7 n7 c7] 54
            rw [show ∀ a b : Value, [a, b].toArray = #[a, b] from fun _ _ => rfl] at hbz
            have hal : Below w11.heap.size w11 ((w11).alloc (.cells #[.int .i64 s7, .slice N7 n7 c7] 54)) := by (repeat' (first | exact Below.refl _ _ | assumption | (refine Below.alloc ?_ ?_ _) | (refine Below.setCell ?_ ?_ _) | (refine Below.drew ?_) | (refine below_drewN ?_ _) | (refine below_after (Ext.below _) ?_ ?_) | (refine below_after (by assumption) ?_ ?_) | (simp; done) | omega | (simp; omega)))
            obtain ⟨wn, hwn⟩ : ∃ wn, wn = (w11).alloc (.cells #[.int .i64 s7, .slice N7 n7 c7] 54) := ⟨_, rfl⟩
            rw [← hwn] at hbz hal ⊢
            obtain ⟨bzb, hn⟩ : ∃ bzb, bzb = w11.heap.size := ⟨_, rfl⟩
            (try rw [← hn] at hbz)
            (try rw [← hn])
            clear hn
            replace hX := hX.of hal
            replace hD := hD.of hal
            replace hN7 := hN7.of hal
            replace hbt := hbt.of hal
            replace hB := below_thru hB hal
            clear hwn hal
            obtain ⟨w12, hwn⟩ : ∃ q, q = wn := ⟨_, rfl⟩
            subst hwn
            obtain ⟨btz, bt0, bt1, -, -⟩ := hbt.open2
            obtain ⟨bzz, bz0, bz1, -, -⟩ := hbz.open2
            go_wp2_with fail
            go_at_call 28
            refine (timF hs7 hN7 hby.out g3.out hv.out).mono ?_
            rintro e13 w13 ⟨A8, n8, c8, rfl, hA8, hb13⟩
            clear btz bt0 bt1
            clear bzz bz0 bz1
            replace hX := hX.of hb13
            replace hD := hD.of hb13
            replace hN7 := hN7.of hb13
            replace hbt := hbt.of hb13
            replace hbz := hbz.of hb13
            replace hB := below_thru hB hb13
            clear hb13
            clear hN7
            clear hs7
            clear hbz
            obtain ⟨btz, bt0, bt1, -, -⟩ := hbt.open2
            go_wp2_with fail
            go_at_call 14
            refine (ref02_SameV _ _ _ _ _ _ _ _ hA8 hD (by rw [← hA8.len]; have := g3.out; omega)).mono ?_
            rintro e14 w14 ⟨rfl, hb14⟩
            clear btz bt0 bt1
            replace hX := hX.of hb14
            replace hD := hD.of hb14
            replace hA8 := hA8.of hb14
            replace hbt := hbt.of hb14
            replace hB := below_thru hB hb14
            clear hb14
            clear hA8
            obtain ⟨btz, bt0, bt1, -, -⟩ := hbt.open2
            go_wp2_with fail
            go_at_call 9
            refine (awake_55 _).mono ?_
            rintro e15 w15 ⟨rfl, hb15⟩
            clear btz bt0 bt1
            replace hX := hX.of hb15
            replace hD := hD.of hb15
            replace hbt := hbt.of hb15
            replace hB := below_thru hB hb15
            clear hb15
            go_wp2_with fail
            go_ret
            exact ⟨rfl, hB⟩
          · skip
            replace hv := Lib.hid hv
            go_at_call 30
            refine (ttiX hD hby.out (by omega) hv.out).mono ?_
            rintro e11 w11 ⟨s7, N7, n7, c7, v7, rfl, dv7, hb11⟩
            clear btz bt0 bt1
            replace hX := hX.of hb11
            replace hD := hD.of hb11
            replace hbt := hbt.of hb11
            replace hB := below_thru hB hb11
            clear hb11
            obtain ⟨btz, bt0, bt1, -, -⟩ := hbt.open2
            go_wp2_with fail
            clear btz bt0 bt1
            have hbz := BxW.new (w11) [.int .i64 s7, .slice N7 n7 c7] 54
            rw [show ∀ a b : Value, [a, b].toArray = #[a, b] from fun _ _ => rfl] at hbz
            have hal : Below w11.heap.size w11 ((w11).alloc (.cells #[.int .i64 s7, .slice N7 n7 c7] 54)) := by (repeat' (first | exact Below.refl _ _ | assumption | (refine Below.alloc ?_ ?_ _) | (refine Below.setCell ?_ ?_ _) | (refine Below.drew ?_) | (refine below_drewN ?_ _) | (refine below_after (Ext.below _) ?_ ?_) | (refine below_after (by assumption) ?_ ?_) | (simp; done) | omega | (simp; omega)))
            obtain ⟨wn, hwn⟩ : ∃ wn, wn = (w11).alloc (.cells #[.int .i64 s7, .slice N7 n7 c7] 54) := ⟨_, rfl⟩
            rw [← hwn] at hbz hal ⊢
            obtain ⟨bzb, hn⟩ : ∃ bzb, bzb = w11.heap.size := ⟨_, rfl⟩
            (try rw [← hn] at hbz)
            (try rw [← hn])
            clear hn
            replace hX := hX.of hal
            replace hD := hD.of hal
            replace hbt := hbt.of hal
            replace hB := below_thru hB hal
            clear hwn hal
            obtain ⟨w12, hwn⟩ : ∃ q, q = wn := ⟨_, rfl⟩
            subst hwn
            clear hbz
            obtain ⟨btz, bt0, bt1, -, -⟩ := hbt.open2
            go_wp2_with fail
            go_at_call 9
            refine (awake_55 _).mono ?_
            rintro e13 w13 ⟨rfl, hb13⟩
            clear btz bt0 bt1
            replace hX := hX.of hb13
            replace hD := hD.of hb13
            replace hbt := hbt.of hb13
            replace hB := below_thru hB hb13
            clear hb13
            go_wp2_with fail
            go_ret
            exact ⟨rfl, hB⟩
        · skip
          replace hz := Lib.hid hz
          go_at_call 19
          refine (ttrX hD hby.out (by omega) hz.out).mono ?_
          rintro e7 w7 ⟨s5, H5, h5, k5, N5, n5, c5, v5, rfl, dv5, hb7⟩
          clear btz bt0 bt1
          replace hX := hX.of hb7
          replace hD := hD.of hb7
          replace hbt := hbt.of hb7
          replace hB := below_thru hB hb7
          clear hb7
          obtain ⟨btz, bt0, bt1, -, -⟩ := hbt.open2
          go_wp2_with fail
          clear btz bt0 bt1
          have hbw := TrAt.new (w7) (.int .i64 s5) (.slice H5 h5 k5) (.slice N5 n5 c5) 37
          have hal : Below w7.heap.size w7 ((w7).alloc (.cells #[.int .i64 s5, .slice H5 h5 k5, .slice N5 n5 c5] 37)) := by (repeat' (first | exact Below.refl _ _ | assumption | (refine Below.alloc ?_ ?_ _) | (refine Below.setCell ?_ ?_ _) | (refine Below.drew ?_) | (refine below_drewN ?_ _) | (refine below_after (Ext.below _) ?_ ?_) | (refine below_after (by assumption) ?_ ?_) | (simp; done) | omega | (simp; omega)))
          obtain ⟨wn, hwn⟩ : ∃ wn, wn = (w7).alloc (.cells #[.int .i64 s5, .slice H5 h5 k5, .slice N5 n5 c5] 37) := ⟨_, rfl⟩
          rw [← hwn] at hbw hal ⊢
          obtain ⟨bwb, hn⟩ : ∃ bwb, bwb = w7.heap.size := ⟨_, rfl⟩
          (try rw [← hn] at hbw)
          (try rw [← hn])
          clear hn
          replace hX := hX.of hal
          replace hD := hD.of hal
          replace hbt := hbt.of hal
          replace hB := below_thru hB hal
          clear hwn hal
          obtain ⟨w8, hwn⟩ : ∃ q, q = wn := ⟨_, rfl⟩
          subst hwn
          clear hbw
          obtain ⟨btz, bt0, bt1, -, -⟩ := hbt.open2
          go_wp2_with fail
          rcases Classical.em (tmE (unB data) = 0) with hv | hv
          · skip
            replace hv := Lib.hid hv
            go_at_call 30
            refine (tti0 hD hby.out (by omega) hv.out).mono ?_
            rintro e9 w9 ⟨s7, N7, n7, c7, rfl, hs7, hN7, hb9⟩
            clear btz bt0 bt1
            replace hX := hX.of hb9
            replace hD := hD.of hb9
            replace hbt := hbt.of hb9
            replace hB := below_thru hB hb9
            clear hb9
            obtain ⟨btz, bt0, bt1, -, -⟩ := hbt.open2
            go_wp2_with fail
            clear btz bt0 bt1
            have hbz := BxW.new (w9) [.int .i64 s7, .slice N7 n7 c7] 54
            rw [show ∀ a b : Value, [a, b].toArray = #[a, b] from fun _ _ => rfl] at hbz
            have hal : Below w9.heap.size w9 ((w9).alloc (.cells #[.int .i64 s7, .slice N7 n7 c7] 54)) := by (repeat' (first | exact Below.refl _ _ | assumption | (refine Below.alloc ?_ ?_ _) | (refine Below.setCell ?_ ?_ _) | (refine Below.drew ?_) | (refine below_drewN ?_ _) | (refine below_after (Ext.below _) ?_ ?_) | (refine below_after (by assumption) ?_ ?_) | (simp; done) | omega | (simp; omega)))
            obtain ⟨wn, hwn⟩ : ∃ wn, wn = (w9).alloc (.cells #[.int .i64 s7, .slice N7 n7 c7] 54) := ⟨_, rfl⟩
            rw [← hwn] at hbz hal ⊢
            obtain ⟨bzb, hn⟩ : ∃ bzb, bzb = w9.heap.size := ⟨_, rfl⟩
            (try rw [← hn] at hbz)
            (try rw [← hn])
            clear hn
            replace hX := hX.of hal
            replace hD := hD.of hal
            replace hN7 := hN7.of hal
            replace hbt := hbt.of hal
            replace hB := below_thru hB hal
            clear hwn hal
            obtain ⟨w10, hwn⟩ : ∃ q, q = wn := ⟨_, rfl⟩
            subst hwn
            obtain ⟨btz, bt0, bt1, -, -⟩ := hbt.open2
            obtain ⟨bzz, bz0, bz1, -, -⟩ := hbz.open2
            go_wp2_with fail
            go_at_call 28
            refine (timF hs7 hN7 hby.out g3.out hv.out).mono ?_
            rintro e11 w11 ⟨A8, n8, c8, rfl, hA8, hb11⟩
            clear btz bt0 bt1
            clear bzz bz0 bz1
            replace hX := hX.of hb11
            replace hD := hD.of hb11
            replace hN7 := hN7.of hb11
            replace hbt := hbt.of hb11
            replace hbz := hbz.of hb11
            replace hB := below_thru hB hb11
            clear hb11
            clear hN7
            clear hs7
            clear hbz
            obtain ⟨btz, bt0, bt1, -, -⟩ := hbt.open2
            go_wp2_with fail
            go_at_call 14
            refine (ref02_SameV _ _ _ _ _ _ _ _ hA8 hD (by rw [← hA8.len]; have := g3.out; omega)).mono ?_
            rintro e12 w12 ⟨rfl, hb12⟩
            clear btz bt0 bt1
            replace hX := hX.of hb12
            replace hD := hD.of hb12
            replace hA8 := hA8.of hb12
            replace hbt := hbt.of hb12
            replace hB := below_thru hB hb12
            clear hb12
            clear hA8
            obtain ⟨btz, bt0, bt1, -, -⟩ := hbt.open2
            go_wp2_with fail
            go_at_call 9
            refine (awake_55 _).mono ?_
            rintro e13 w13 ⟨rfl, hb13⟩
            clear btz bt0 bt1
            replace hX := hX.of hb13
            replace hD := hD.of hb13
            replace hbt := hbt.of hb13
            replace hB := below_thru hB hb13
            clear hb13
            go_wp2_with fail
            go_ret
            exact ⟨rfl, hB⟩
          · skip
            replace hv := Lib.hid hv
            go_at_call 30
            refine (ttiX hD hby.out (by omega) hv.out).mono ?_
            rintro e9 w9 ⟨s7, N7, n7, c7, v7, rfl, dv7, hb9⟩
            clear btz bt0 bt1
            replace hX := hX.of hb9
            replace hD := hD.of hb9
            replace hbt := hbt.of hb9
            replace hB := below_thru hB hb9
            clear hb9
            obtain ⟨btz, bt0, bt1, -, -⟩ := hbt.open2
            go_wp2_with fail
            clear btz bt0 bt1
            have hbz := BxW.new (w9) [.int .i64 s7, .slice N7 n7 c7] 54
            rw [show ∀ a b : Value, [a, b].toArray = #[a, b] from fun _ _ => rfl] at hbz
            have hal : Below w9.heap.size w9 ((w9).alloc (.cells #[.int .i64 s7, .slice N7 n7 c7] 54)) := by (repeat' (first | exact Below.refl _ _ | assumption | (refine Below.alloc ?_ ?_ _) | (refine Below.setCell ?_ ?_ _) | (refine Below.drew ?_) | (refine below_drewN ?_ _) | (refine below_after (Ext.below _) ?_ ?_) | (refine below_after (by assumption) ?_ ?_) | (simp; done) | omega | (simp; omega)))
            obtain ⟨wn, hwn⟩ : ∃ wn, wn = (w9).alloc (.cells #[.int .i64 s7, .slice N7 n7 c7] 54) := ⟨_, rfl⟩
            rw [← hwn] at hbz hal ⊢
            obtain ⟨bzb, hn⟩ : ∃ bzb, bzb = w9.heap.size := ⟨_, rfl⟩
            (try rw [← hn] at hbz)
            (try rw [← hn])
            clear hn
            replace hX := hX.of hal
            replace hD := hD.of hal
            replace hbt := hbt.of hal
            replace hB := below_thru hB hal
            clear hwn hal
            obtain ⟨w10, hwn⟩ : ∃ q, q = wn := ⟨_, rfl⟩
            subst hwn
            clear hbz
            obtain ⟨btz, bt0, bt1, -, -⟩ := hbt.open2
            go_wp2_with fail
            go_at_call 9
            refine (awake_55 _).mono ?_
            rintro e11 w11 ⟨rfl, hb11⟩
            clear btz bt0 bt1
            replace hX := hX.of hb11
            replace hD := hD.of hb11
            replace hbt := hbt.of hb11
            replace hB := below_thru hB hb11
            clear hb11
            go_wp2_with fail
            go_ret
            exact ⟨rfl, hB⟩
      · skip
        replace hu := Lib.hid hu
        go_at_call 12
        refine (tptX hD hby.out (by omega) hu.out).mono ?_
        rintro e4 w4 ⟨A3, n3, c3, v3, rfl, dv3, hb4⟩
        clear btz bt0 bt1
        replace hX := hX.of hb4
        replace hD := hD.of hb4
        replace hbt := hbt.of hb4
        replace hB := below_thru hB hb4
        clear hb4
        obtain ⟨btz, bt0, bt1, -, -⟩ := hbt.open2
        go_wp2_with fail
        rcases Classical.em (ttE (unB data) = 0) with hz | hz
        · skip
          replace hz := Lib.hid hz
          go_at_call 19
          refine (ttr0 hD hby.out (by omega) hz.out).mono ?_
          rintro e5 w5 ⟨s5, H5, h5, k5, N5, n5, c5, rfl, hs5, hH5, hN5, hb5⟩
          clear btz bt0 bt1
          replace hX := hX.of hb5
          replace hD := hD.of hb5
          replace hbt := hbt.of hb5
          replace hB := below_thru hB hb5
          clear hb5
          obtain ⟨btz, bt0, bt1, -, -⟩ := hbt.open2
          go_wp2_with fail
          clear btz bt0 bt1
          have hbw := TrAt.new (w5) (.int .i64 s5) (.slice H5 h5 k5) (.slice N5 n5 c5) 37
          have hal : Below w5.heap.size w5 ((w5).alloc (.cells #[.int .i64 s5, .slice H5 h5 k5, .slice N5 n5 c5] 37)) := by (repeat' (first | exact Below.refl _ _ | assumption | (refine Below.alloc ?_ ?_ _) | (refine Below.setCell ?_ ?_ _) | (refine Below.drew ?_) | (refine below_drewN ?_ _) | (refine below_after (Ext.below _) ?_ ?_) | (refine below_after (by assumption) ?_ ?_) | (simp; done) | omega | (simp; omega)))
          obtain ⟨wn, hwn⟩ : ∃ wn, wn = (w5).alloc (.cells #[.int .i64 s5, .slice H5 h5 k5, .slice N5 n5 c5] 37) := ⟨_, rfl⟩
          rw [← hwn] at hbw hal ⊢
          obtain ⟨bwb, hn⟩ : ∃ bwb, bwb = w5.heap.size := ⟨_, rfl⟩
          (try rw [← hn] at hbw)
          (try rw [← hn])
          clear hn
          replace hX := hX.of hal
          replace hD := hD.of hal
          replace hH5 := hH5.of hal
          replace hN5 := hN5.of hal
          replace hbt := hbt.of hal
          replace hB := below_thru hB hal
          clear hwn hal
          obtain ⟨w6, hwn⟩ : ∃ q, q = wn := ⟨_, rfl⟩
          subst hwn
          obtain ⟨btz, bt0, bt1, -, -⟩ := hbt.open2
          have ⟨bwz, bw0, bw1, bw2⟩ := hbw
          go_wp2_with fail
          go_at_call 17
          refine (treF hs5 hH5 hN5 hby.out g3.out hz.out).mono ?_
          rintro e7 w7 ⟨A6, n6, c6, rfl, hA6, hb7⟩
          clear btz bt0 bt1
          clear bwz bw0 bw1 bw2
          replace hX := hX.of hb7
          replace hD := hD.of hb7
          replace hH5 := hH5.of hb7
          replace hN5 := hN5.of hb7
          replace hbt := hbt.of hb7
          replace hbw := hbw.of hb7
          replace hB := below_thru hB hb7
          clear hb7
          clear hH5
          clear hN5
          clear hs5
          clear hbw
          obtain ⟨btz, bt0, bt1, -, -⟩ := hbt.open2
          go_wp2_with fail
          go_at_call 14
          refine (ref02_SameV _ _ _ _ _ _ _ _ hA6 hD (by rw [← hA6.len]; have := g3.out; omega)).mono ?_
          rintro e8 w8 ⟨rfl, hb8⟩
          clear btz bt0 bt1
          replace hX := hX.of hb8
          replace hD := hD.of hb8
          replace hA6 := hA6.of hb8
          replace hbt := hbt.of hb8
          replace hB := below_thru hB hb8
          clear hb8
          clear hA6
          obtain ⟨btz, bt0, bt1, -, -⟩ := hbt.open2
          go_wp2_with fail
          rcases Classical.em (tmE (unB data) = 0) with hv | hv
          · skip
            replace hv := Lib.hid hv
            go_at_call 30
            refine (tti0 hD hby.out (by omega) hv.out).mono ?_
            rintro e9 w9 ⟨s7, N7, n7, c7, rfl, hs7, hN7, hb9⟩
            clear btz bt0 bt1
            replace hX := hX.of hb9
            replace hD := hD.of hb9
            replace hbt := hbt.of hb9
            replace hB := below_thru hB hb9
            clear hb9
            obtain ⟨btz, bt0, bt1, -, -⟩ := hbt.open2
            go_wp2_with fail
            clear btz bt0 bt1
            have hbz := BxW.new (w9) [.int .i64 s7, .slice N7 n7 c7] 54
            rw [show ∀ a b : Value, [a, b].toArray = #[a, b] from fun _ _ => rfl] at hbz
            have hal : Below w9.heap.size w9 ((w9).alloc (.cells #[.int .i64 s7, .slice N7 n7 c7] 54)) := by (repeat' (first | exact Below.refl _ _ | assumption | (refine Below.alloc ?_ ?_ _) | (refine Below.setCell ?_ ?_ _) | (refine Below.drew ?_) | (refine below_drewN ?_ _) | (refine below_after (Ext.below _) ?_ ?_) | (refine below_after (by assumption) ?_ ?_) | (simp; done) | omega | (simp; omega)))
            obtain ⟨wn, hwn⟩ : ∃ wn, wn = (w9).alloc (.cells #[.int .i64 s7, .slice N7 n7 c7] 54) := ⟨_, rfl⟩
            rw [← hwn] at hbz hal ⊢
            obtain ⟨bzb, hn⟩ : ∃ bzb, bzb = w9.heap.size := ⟨_, rfl⟩
            (try rw [← hn] at hbz)
            (try rw [← hn])
            clear hn
            replace hX := hX.of hal
            replace hD := hD.of hal
            replace hN7 := hN7.of hal
            replace hbt := hbt.of hal
            replace hB := below_thru hB hal
            clear hwn hal
            obtain ⟨w10, hwn⟩ : ∃ q, q = wn := ⟨_, rfl⟩
            subst hwn
            obtain ⟨btz, bt0, bt1, -, -⟩ := hbt.open2
            obtain ⟨bzz, bz0, bz1, -, -⟩ := hbz.open2
            go_wp2_with fail
            go_at_call 28
            refine (timF hs7 hN7 hby.out g3.out hv.out).mono ?_
            rintro e11 w11 ⟨A8, n8, c8, rfl, hA8, hb11⟩
            clear btz bt0 bt1
            clear bzz bz0 bz1
            replace hX := hX.of hb11
            replace hD := hD.of hb11
            replace hN7 := hN7.of hb11
            replace hbt := hbt.of hb11
            replace hbz := hbz.of hb11
            replace hB := below_thru hB hb11
            clear hb11
            clear hN7
            clear hs7
            clear hbz
            obtain ⟨btz, bt0, bt1, -, -⟩ := hbt.open2
            go_wp2_with fail
            go_at_call 14
            refine (ref02_SameV _ _ _ _ _ _ _ _ hA8 hD (by rw [← hA8.len]; have := g3.out; omega)).mono ?_
            rintro e12 w12 ⟨rfl, hb12⟩
            clear btz bt0 bt1
            replace hX := hX.of hb12
            replace hD := hD.of hb12
            replace hA8 := hA8.of hb12
            replace hbt := hbt.of hb12
            replace hB := below_thru hB hb12
            clear hb12
            clear hA8
            obtain ⟨btz, bt0, bt1, -, -⟩ := hbt.open2
            go_wp2_with fail
            go_at_call 9
            refine (awake_55 _).mono ?_
            rintro e13 w13 ⟨rfl, hb13⟩
            clear btz bt0 bt1
            replace hX := hX.of hb13
            replace hD := hD.of hb13
            replace hbt := hbt.of hb13
            replace hB := below_thru hB hb13
            clear hb13
            go_wp2_with fail
            go_ret
            exact ⟨rfl, hB⟩
          · skip
            replace hv := Lib.hid hv
            go_at_call 30
            refine (ttiX hD hby.out (by omega) hv.out).mono ?_
            rintro e9 w9 ⟨s7, N7, n7, c7, v7, rfl, dv7, hb9⟩
            clear btz bt0 bt1
            replace hX := hX.of hb9
            replace hD := hD.of hb9
            replace hbt := hbt.of hb9
            replace hB := below_thru hB hb9
            clear hb9
            obtain ⟨btz, bt0, bt1, -, -⟩ := hbt.open2
            go_wp2_with fail
            clear btz bt0 bt1
            have hbz := BxW.new (w9) [.int .i64 s7, .slice N7 n7 c7] 54
            rw [show ∀ a b : Value, [a, b].toArray = #[a, b] from fun _ _ => rfl] at hbz
            have hal : Below w9.heap.size w9 ((w9).alloc (.cells #[.int .i64 s7, .slice N7 n7 c7] 54)) := by (repeat' (first | exact Below.refl _ _ | assumption | (refine Below.alloc ?_ ?_ _) | (refine Below.setCell ?_ ?_ _) | (refine Below.drew ?_) | (refine below_drewN ?_ _) | (refine below_after (Ext.below _) ?_ ?_) | (refine below_after (by assumption) ?_ ?_) | (simp; done) | omega | (simp; omega)))
            obtain ⟨wn, hwn⟩ : ∃ wn, wn = (w9).alloc (.cells #[.int .i64 s7, .slice N7 n7 c7] 54) := ⟨_, rfl⟩
            rw [← hwn] at hbz hal ⊢
            obtain ⟨bzb, hn⟩ : ∃ bzb, bzb = w9.heap.size := ⟨_, rfl⟩
            (try rw [← hn] at hbz)
            (try rw [← hn])
            clear hn
            replace hX := hX.of hal
            replace hD := hD.of hal
            replace hbt := hbt.of hal
            replace hB := below_thru hB hal
            clear hwn hal
            obtain ⟨w10, hwn⟩ : ∃ q, q = wn := ⟨_, rfl⟩
            subst hwn
            clear hbz
            obtain ⟨btz, bt0, bt1, -, -⟩ := hbt.open2
            go_wp2_with fail
            go_at_call 9
            refine (awake_55 _).mono ?_
            rintro e11 w11 ⟨rfl, hb11⟩
            clear btz bt0 bt1
            replace hX := hX.of hb11
            replace hD := hD.of hb11
            replace hbt := hbt.of hb11
            replace hB := below_thru hB hb11
            clear hb11
            go_wp2_with fail
            go_ret
            exact ⟨rfl, hB⟩
        · skip
          replace hz := Lib.hid hz
          go_at_call 19
          refine (ttrX hD hby.out (by omega) hz.out).mono ?_
          rintro e5 w5 ⟨s5, H5, h5, k5, N5, n5, c5, v5, rfl, dv5, hb5⟩
          clear btz bt0 bt1
          replace hX := hX.of hb5
          replace hD := hD.of hb5
          replace hbt := hbt.of hb5
          replace hB := below_thru hB hb5
          clear hb5
          obtain ⟨btz, bt0, bt1, -, -⟩ := hbt.open2
          go_wp2_with fail
          clear btz bt0 bt1
          have hbw := TrAt.new (w5) (.int .i64 s5) (.slice H5 h5 k5) (.slice N5 n5 c5) 37
          have hal : Below w5.heap.size w5 ((w5).alloc (.cells #[.int .i64 s5, .slice H5 h5 k5, .slice N5 n5 c5] 37)) := by (repeat' (first | exact Below.refl _ _ | assumption | (refine Below.alloc ?_ ?_ _) | (refine Below.setCell ?_ ?_ _) | (refine Below.drew ?_) | (refine below_drewN ?_ _) | (refine below_after (Ext.below _) ?_ ?_) | (refine below_after (by assumption) ?_ ?_) | (simp; done) | omega | (simp; omega)))
          obtain ⟨wn, hwn⟩ : ∃ wn, wn = (w5).alloc (.cells #[.int .i64 s5, .slice H5 h5 k5, .slice N5 n5 c5] 37) := ⟨_, rfl⟩
          rw [← hwn] at hbw hal ⊢
          obtain ⟨bwb, hn⟩ : ∃ bwb, bwb = w5.heap.size := ⟨_, rfl⟩
          (try rw [← hn] at hbw)
          (try rw [← hn])
          clear hn
          replace hX := hX.of hal
          replace hD := hD.of hal
          replace hbt := hbt.of hal
          replace hB := below_thru hB hal
          clear hwn hal
          obtain ⟨w6, hwn⟩ : ∃ q, q = wn := ⟨_, rfl⟩
          subst hwn
          clear hbw
          obtain ⟨btz, bt0, bt1, -, -⟩ := hbt.open2
          go_wp2_with fail
          rcases Classical.em (tmE (unB data) = 0) with hv | hv
          · skip
            replace hv := Lib.hid hv
            go_at_call 30
            refine (tti0 hD hby.out (by omega) hv.out).mono ?_
            rintro e7 w7 ⟨s7, N7, n7, c7, rfl, hs7, hN7, hb7⟩
            clear btz bt0 bt1
            replace hX := hX.of hb7
            replace hD := hD.of hb7
            replace hbt := hbt.of hb7
            replace hB := below_thru hB hb7
            clear hb7
            obtain ⟨btz, bt0, bt1, -, -⟩ := hbt.open2
            go_wp2_with fail
            clear btz bt0 bt1
            have hbz := BxW.new (w7) [.int .i64 s7, .slice N7 n7 c7] 54
            rw [show ∀ a b : Value, [a, b].toArray = #[a, b] from fun _ _ => rfl] at hbz
            have hal : Below w7.heap.size w7 ((w7).alloc (.cells #[.int .i64 s7, .slice N7 n7 c7] 54)) := by (repeat' (first | exact Below.refl _ _ | assumption | (refine Below.alloc ?_ ?_ _) | (refine Below.setCell ?_ ?_ _) | (refine Below.drew ?_) | (refine below_drewN ?_ _) | (refine below_after (Ext.below _) ?_ ?_) | (refine below_after (by assumption) ?_ ?_) | (simp; done) | omega | (simp; omega)))
            obtain ⟨wn, hwn⟩ : ∃ wn, wn = (w7).alloc (.cells #[.int .i64 s7, .slice N7 n7 c7] 54) := ⟨_, rfl⟩
            rw [← hwn] at hbz hal ⊢
            obtain ⟨bzb, hn⟩ : ∃ bzb, bzb = w7.heap.size := ⟨_, rfl⟩
            (try rw [← hn] at hbz)
            (try rw [← hn])
            clear hn
            replace hX := hX.of hal
            replace hD := hD.of hal
            replace hN7 := hN7.of hal
            replace hbt := hbt.of hal
            replace hB := below_thru hB hal
            clear hwn hal
            obtain ⟨w8, hwn⟩ : ∃ q, q = wn := ⟨_, rfl⟩
            subst hwn
            obtain ⟨btz, bt0, bt1, -, -⟩ := hbt.open2
            obtain ⟨bzz, bz0, bz1, -, -⟩ := hbz.open2
            go_wp2_with fail
            go_at_call 28
            refine (timF hs7 hN7 hby.out g3.out hv.out).mono ?_
            rintro e9 w9 ⟨A8, n8, c8, rfl, hA8, hb9⟩
            clear btz bt0 bt1
            clear bzz bz0 bz1
            replace hX := hX.of hb9
            replace hD := hD.of hb9
            replace hN7 := hN7.of hb9
            replace hbt := hbt.of hb9
            replace hbz := hbz.of hb9
            replace hB := below_thru hB hb9
            clear hb9
            clear hN7
            clear hs7
            clear hbz
            obtain ⟨btz, bt0, bt1, -, -⟩ := hbt.open2
            go_wp2_with fail
            go_at_call 14
            refine (ref02_SameV _ _ _ _ _ _ _ _ hA8 hD (by rw [← hA8.len]; have := g3.out; omega)).mono ?_
            rintro e10 w10 ⟨rfl, hb10⟩
            clear btz bt0 bt1
            replace hX := hX.of hb10
            replace hD := hD.of hb10
            replace hA8 := hA8.of hb10
            replace hbt := hbt.of hb10
            replace hB := below_thru hB hb10
            clear hb10
            clear hA8
            obtain ⟨btz, bt0, bt1, -, -⟩ := hbt.open2
            go_wp2_with fail
            go_at_call 9
            refine (awake_55 _).mono ?_
            rintro e11 w11 ⟨rfl, hb11⟩
            clear btz bt0 bt1
            replace hX := hX.of hb11
            replace hD := hD.of hb11
            replace hbt := hbt.of hb11
            replace hB := below_thru hB hb11
            clear hb11
            go_wp2_with fail
            go_ret
            exact ⟨rfl, hB⟩
          · skip
            replace hv := Lib.hid hv
            go_at_call 30
            refine (ttiX hD hby.out (by omega) hv.out).mono ?_
            rintro e7 w7 ⟨s7, N7, n7, c7, v7, rfl, dv7, hb7⟩
            clear btz bt0 bt1
            replace hX := hX.of hb7
            replace hD := hD.of hb7
            replace hbt := hbt.of hb7
            replace hB := below_thru hB hb7
            clear hb7
            obtain ⟨btz, bt0, bt1, -, -⟩ := hbt.open2
            go_wp2_with fail
            clear btz bt0 bt1
            have hbz := BxW.new (w7) [.int .i64 s7, .slice N7 n7 c7] 54
            rw [show ∀ a b : Value, [a, b].toArray = #[a, b] from fun _ _ => rfl] at hbz
            have hal : Below w7.heap.size w7 ((w7).alloc (.cells #[.int .i64 s7, .slice N7 n7 c7] 54)) := by (repeat' (first | exact Below.refl _ _ | assumption | (refine Below.alloc ?_ ?_ _) | (refine Below.setCell ?_ ?_ _) | (refine Below.drew ?_) | (refine below_drewN ?_ _) | (refine below_after (Ext.below _) ?_ ?_) | (refine below_after (by assumption) ?_ ?_) | (simp; done) | omega | (simp; omega)))
            obtain ⟨wn, hwn⟩ : ∃ wn, wn = (w7).alloc (.cells #[.int .i64 s7, .slice N7 n7 c7] 54) := ⟨_, rfl⟩
            rw [← hwn] at hbz hal ⊢
            obtain ⟨bzb, hn⟩ : ∃ bzb, bzb = w7.heap.size := ⟨_, rfl⟩
            (try rw [← hn] at hbz)
            (try rw [← hn])
            clear hn
            replace hX := hX.of hal
            replace hD := hD.of hal
            replace hbt := hbt.of hal
            replace hB := below_thru hB hal
            clear hwn hal
            obtain ⟨w8, hwn⟩ : ∃ q, q = wn := ⟨_, rfl⟩
            subst hwn
            clear hbz
            obtain ⟨btz, bt0, bt1, -, -⟩ := hbt.open2
            go_wp2_with fail
            go_at_call 9
            refine (awake_55 _).mono ?_
            rintro e9 w9 ⟨rfl, hb9⟩
            clear btz bt0 bt1
            replace hX := hX.of hb9
            replace hD := hD.of hb9
            replace hbt := hbt.of hb9
            replace hB := below_thru hB hb9
            clear hb9
            go_wp2_with fail
            go_ret
            exact ⟨rfl, hB⟩
end Go.Proofs.YtmenokhnanghgaaGreat
