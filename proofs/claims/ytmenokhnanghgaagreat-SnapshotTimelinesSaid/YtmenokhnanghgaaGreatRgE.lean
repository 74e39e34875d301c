/- The reference's form of a timeline. By mkrgb.py. -/
import Derived.Test.YtmenokhnanghgaaGreatRgB
import Derived.Test.YtmenokhnanghgaaGreatRfH
import Derived.Test.YtmenokhnanghgaaGreatSnp7
import Derived.Test.YtmenokhnanghgaaGreatDLS
namespace Go.Proofs.YtmenokhnanghgaaGreat
open Go Go.RowKit
set_option linter.unusedSimpArgs false
set_option linter.unusedVariables false
set_option maxRecDepth 100000
set_option linter.unusedSimpArgs false
set_option linter.unusedVariables false
set_option maxHeartbeats 32000000 in
theorem ref55_Timeline (key : Int) (A : Option Addr) (n c : Nat) (fs : List TFr) (w : World) (hF : RdX ekFr w A n fs) (hsm : SmT fs) :
    Calls Tryz.prog 29 #[.agg #[.int .i64 key, .slice A n c]] w fun e w' => ∃ A' n' c', e = .returned (.tuple #[.slice A' n' c', .int .i64 (fmE key fs)]) ∧ Rd encU 1 w' A' n' (fmL key fs) ∧ Below w.heap.size w w' := by
  obtain ⟨w0, hw0⟩ : ∃ w0, w0 = w.alloc (.cells #[.int .i64 key, .slice A n c] 54) := ⟨_, rfl⟩
  have hb0 : Below w.heap.size w w0 := by rw [hw0]; exact (Below.refl _ _).alloc (Nat.le_refl _) _
  have hbt : BxW w0 w.heap.size [.int .i64 key, .slice A n c] := by rw [hw0]; exact BxW.new w [.int .i64 key, .slice A n c] _
  have hF0 := Lib.hid (hF.of hb0)
  have kR := fun w1 h => ref54_Right key A n c fs w1 h hsm
  have hFl := Lib.hid hF.len
  cases hr : tlB key fs with
  | false =>
    obtain ⟨h1, h2⟩ := fm_bad hr
    rw [hr] at kR
    rw [h1, h2]
    clear hr h1 h2 hF
    obtain ⟨_, t0, t1, -, -⟩ := hbt.open2
    go_enter Tryz.func29, Tryz.ntmps29
    go_wp2_with fail
    rw [← hw0]
    clear hw0
    go_wp2_with fail; go_at_call 69; refine (kR _ hF0.out).mono ?_; rintro e w1 ⟨rfl, hb1⟩; have hs1 := hb1.size; (try simp only [World.size_alloc, World.size_drew, World.size_setCell] at hs1)
    go_wp2_with fail
    refine bodyPost_ret (v := .tuple #[.slice none 0 0, .int .i64 2]) (by simp [results, Tryz.results29, go_sem, *, ↓IntWalk.iteOmega]) rfl ?_
    exact ⟨none, 0, 0, rfl, Rd.nil_, below_thru hb0 hb1⟩
  | true =>
    obtain ⟨h1, h2⟩ := fm_ok hr
    rw [hr] at kR
    rw [h1, h2]
    obtain ⟨K, rfl, hK1, hK2, hlen, hok⟩ := tlB_ok hr
    have hgn := Lib.hid (gen_nn (key := (K : Int)) hok)
    replace hok := Lib.hid hok
    have hn1 : n ≤ 1000 := by rw [← hFl.out]; exact hlen
    clear hr h1 h2 hF hlen
    have hbits := Lib.hid (show hdB 4 ++ gamB K ++ gamB fs.length ++ fs.flatMap frB = timB (K : Int) fs by unfold timB; simp only [Int.toNat_natCast])
    rw [← hbits.out, hFl.out]
    clear hbits
    obtain ⟨X1, hX1⟩ : ∃ X1, X1 = hdB 4 ++ gamB K ++ gamB n := ⟨_, rfl⟩
    rw [← hX1]
    replace hX1 := Lib.hid hX1
    obtain ⟨_, t0, t1, -, -⟩ := hbt.open2
    go_enter Tryz.func29, Tryz.ntmps29
    go_wp2_with fail
    rw [← hw0]
    clear hw0
    go_at_call 69
    refine (kR _ hF0.out).mono ?_
    rintro e w1 ⟨rfl, hb1⟩
    clear t0 t1
    go_wp2_with fail
    go_at_call 39
    refine (ref55_begin 4 (by omega) _).mono ?_
    rintro e w2 ⟨bw, A2, n2, c2, T2, b2, rfl, hX2, hbw, hb2⟩
    have hz1 := hb1.size
    have hwb : w0.heap.size ≤ bw := by omega
    have hB2 := Lib.hid (below_thru hb1 hb2)
    obtain ⟨_, t0, t1, -, -⟩ := (hbt.of hB2.out).open2
    have kW := ref55_gamma bw A2 n2 c2 _ T2 b2 w2 K hX2 (by omega)
    replace hX2 := Lib.hid hX2
    clear hb1 hb2 kR hz1
    go_wp2_with fail
    go_at_call 54
    refine kW.mono ?_
    rintro e w3 ⟨A3, n3, c3, T3, b3, rfl, hX3, hK3⟩
    have hB3 := hX2.out.go hB2.out hK3 hwb
    replace hB3 := Lib.hid hB3
    clear kW
    clear t0 t1
    obtain ⟨_, t0, t1, -, -⟩ := (hbt.of hB3.out).open2
    have kW := ref55_gamma bw A3 n3 c3 _ T3 b3 w3 n hX3 (by omega)
    replace hX3 := Lib.hid hX3
    clear hK3
    go_wp2_with fail
    go_at_call 54
    refine kW.mono ?_
    rintro e w4 ⟨A4, n4, c4, T4, b4, rfl, hX4, hK4⟩
    have hB4 := hX3.out.go hB3.out hK4 hwb
    replace hB4 := Lib.hid hB4
    clear kW
    clear t0 t1 hK4 hX2 hX3 hB2 hB3
    rw [← hX1.out] at hX4
    replace hX4 := Lib.hid hX4
    clear hX1
    go_wp2_with fail
    go_loopw [5] (fun i wr => ∃ (j : Nat) (A4 : Option Addr) (n4 c4 : Nat) (T4 : List Bool) (b4 : Bool), i = .int .i64 j ∧ j ≤ n ∧ WqX wr bw A4 n4 c4 (X1 ++ (fs.take j).flatMap frB) T4 b4 ∧ Below w0.heap.size w0 wr) (fun i _ => n - (intOf i).toNat)
    case atStart => exact ⟨0, A4, n4, c4, T4, b4, rfl, by omega, by simpa using hX4.out, hB4.out⟩
    case round =>
      clear hX4 hB4
      obtain ⟨q, A4, n4, c4, T4, b4, rfl, hq, hX4, hB4⟩ := hrel
      have hz4 := hB4.size
      obtain ⟨_, t0, t1, -, -⟩ := (hbt.of hB4).open2
      by_cases hltq : q < n
      · have dq : decide ((q : Int) < n) = true := decide_eq_true (by omega)
        have dq' : decide (q < n) = true := decide_eq_true hltq
        obtain ⟨gen, fu, C, D, CA, cn, cc, DA, dn, dc, bo, o, hx, rfl, hbo, cx0, cx1, cx2, cx3, hC, hcc, hD, hdc⟩ := hF0.out.frm hltq
        obtain ⟨k1, k2, k3, k4, k5⟩ := (okT_iff hx.out).1 (hok.out q)
        have hg0 := hgn.out q
        obtain ⟨g, rfl⟩ : ∃ g : Nat, gen = (g : Int) := ⟨gen.toNat, by omega⟩
        have cy0 := (hB4.cell (p := ⟨bo, o + q * 4, none⟩) hbo).trans cx0
        have cy1 := (hB4.cell (p := ⟨bo, o + q * 4 + 1, none⟩) hbo).trans cx1
        have cy2 := (hB4.cell (p := ⟨bo, o + q * 4 + 2, none⟩) hbo).trans cx2
        have cy3 := (hB4.cell (p := ⟨bo, o + q * 4 + 3, none⟩) hbo).trans cx3
        have hstep := Lib.hid (flat_step frB hx.out)
        have i0 : (0 : Int) ≤ (q : Int) := by omega
        have i1 : (q : Int) < (n : Int) := by omega
        obtain ⟨wf, hwf⟩ : ∃ wf, wf = wr.alloc (.cells #[.int .i64 (g : Int), .bool fu, .slice CA cn cc, .slice DA dn dc] 72) := ⟨_, rfl⟩
        have hal : Below wr.heap.size wr wf := by rw [hwf]; exact (Below.refl _ _).alloc (Nat.le_refl _) _
        have hbn : BxW wf wr.heap.size [.int .i64 (g : Int), .bool fu, .slice CA cn cc, .slice DA dn dc] := by rw [hwf]; exact BxW.new wr [_, _, _, _] _
        have hnw := hX4.s.new (Nat.le_refl wr.heap.size)
        have hX5 := hX4.of hal
        have hB5 := Lib.hid (below_thru hB4 hal)
        have kW := ref55_gamma bw A4 n4 c4 _ T4 b4 wf g hX5 (by omega)
        replace hX5 := Lib.hid hX5
        replace hC := Lib.hid hC
        replace hD := Lib.hid hD
        clear hX4 hB4 cx0 cx1 cx2 cx3 hcc hdc hx k1 k2 k3 hg0
        go_upto_region 10 with (fail)
        rw [← hwf]
        clear hwf t0 t1 cy0 cy1 cy2 cy3 hal
        obtain ⟨_, p0, p1, p2, p3, -, -, -, -⟩ := hbn.open4
        go_wp2_with fail
        go_at_call 54
        refine kW.mono ?_
        rintro e w6 ⟨A6, n6, c6, T6, b6, rfl, hX6, hK6⟩
        have hB6 := Lib.hid (hX5.out.go hB5.out hK6 hwb)
        obtain ⟨hbn6, hnn6⟩ := hK6.box hbn hnw.1 hnw.2
        clear kW hK6 hX5 hB5 hbn p0 p1 p2 p3
        obtain ⟨_, p0, p1, p2, p3, -, -, -, -⟩ := hbn6.open4
        cases fu with
        | true =>
          obtain ⟨hCr, hD0⟩ := k4 rfl
          have hbits := Lib.hid (show frB ((g : Int), true, C, D) = gamB g ++ (digB 1 1 ++ lstB psC cdC C) by unfold frB; simp only [Int.toNat_natCast, if_true])
          clear k5 k4 hD0
          have kW := ref55_bits bw A6 n6 c6 _ T6 b6 w6 1 1 hX6 (by omega) (by decide)
          replace hX6 := Lib.hid hX6
          go_wp2_with fail
          go_at_call 53
          refine kW.mono ?_
          rintro e w7 ⟨A7, n7, c7, T7, b7, rfl, hX7, hK7⟩
          have hB7 := Lib.hid (hX6.out.go hB6.out hK7 hwb)
          obtain ⟨hbn7, hnn7⟩ := hK7.box hbn6 hnw.1 hnn6
          clear kW hK7 hX6 hB6 hbn6 p0 p1 p2 p3 hnn6
          obtain ⟨_, p0, p1, p2, p3, -, -, -, -⟩ := hbn7.open4
          have kC := ref55_cells bw A7 n7 c7 _ T7 b7 CA cn cc C w7 hX7 (hC.out.of hB7.out) hCr (offQ_old hC.out hX7 hwb)
          replace hX7 := Lib.hid hX7
          clear hbn7 hnn7 hnw
          go_wp2_with fail
          go_at_call 40
          refine kC.mono ?_
          rintro e w8 ⟨A8, n8, c8, T8, b8, rfl, hX8, hK8⟩
          have hB8 := Lib.hid (hX7.out.go hB7.out hK8 hwb)
          replace hX8 := Lib.hid hX8
          clear kC hK8 p0 p1 p2 p3
          go_wp2_with fail
          go_roundw
          case rel => exact ⟨q + 1, A8, n8, c8, T8, b8, by go_num, by omega, by rw [hstep.out, hbits.out]; simpa only [List.append_assoc] using hX8.out, hB8.out⟩
          case measure => simp [intOf]; omega
        | false =>
          obtain ⟨hap, hC0⟩ := k5 rfl
          have hDr := (apE_right hap).2.1
          have hbits := Lib.hid (show frB ((g : Int), false, C, D) = gamB g ++ (digB 1 0 ++ lstB psG cdG D) by unfold frB; simp only [Int.toNat_natCast, Bool.false_eq_true, if_false])
          clear k5 k4 hC0 hap
          have kW := ref55_bits bw A6 n6 c6 _ T6 b6 w6 0 1 hX6 (by omega) (by decide)
          replace hX6 := Lib.hid hX6
          go_wp2_with fail
          go_at_call 53
          refine kW.mono ?_
          rintro e w7 ⟨A7, n7, c7, T7, b7, rfl, hX7, hK7⟩
          have hB7 := Lib.hid (hX6.out.go hB6.out hK7 hwb)
          obtain ⟨hbn7, hnn7⟩ := hK7.box hbn6 hnw.1 hnn6
          clear kW hK7 hX6 hB6 hbn6 p0 p1 p2 p3 hnn6
          obtain ⟨_, p0, p1, p2, p3, -, -, -, -⟩ := hbn7.open4
          have kC := ref55_changes bw A7 n7 c7 _ T7 b7 DA dn dc D w7 hX7 (hD.out.of hB7.out) hDr (offQ_old hD.out hX7 hwb)
          replace hX7 := Lib.hid hX7
          clear hbn7 hnn7 hnw
          go_wp2_with fail
          go_at_call 70
          refine kC.mono ?_
          rintro e w8 ⟨A8, n8, c8, T8, b8, rfl, hX8, hK8⟩
          have hB8 := Lib.hid (hX7.out.go hB7.out hK8 hwb)
          replace hX8 := Lib.hid hX8
          clear kC hK8 p0 p1 p2 p3
          go_wp2_with fail
          go_roundw
          case rel => exact ⟨q + 1, A8, n8, c8, T8, b8, by go_num, by omega, by rw [hstep.out, hbits.out]; simpa only [List.append_assoc] using hX8.out, hB8.out⟩
          case measure => simp [intOf]; omega
      · obtain rfl : q = n := by omega
        have dq : decide ((q : Int) < q) = false := decide_eq_false (by omega)
        have dq' : decide (q < q) = false := decide_eq_false (by omega)
        rw [flat_all frB hFl.out] at hX4
        replace hX4 := Lib.hid hX4
        replace hB4 := Lib.hid hB4
        go_wp2_with fail
        go_at_call 41
        refine (ref55_done bw A4 n4 c4 _ T4 b4 _ hX4.out).mono ?_
        rintro e w9 ⟨A9, n9, c9, rfl, hR9, hb9⟩
        have hB9 := Lib.hid (below_thru hb0 (below_thru hB4.out hb9))
        replace hR9 := Lib.hid hR9
        go_wp2_with fail
        refine bodyPost_ret (v := .tuple #[.slice A9 n9 c9, .int .i64 (endE (X1 ++ fs.flatMap frB))]) (by simp [results, Tryz.results29, go_sem, *, ↓IntWalk.iteOmega]) rfl ?_
        exact ⟨A9, n9, c9, rfl, hR9.out, hB9.out⟩
end Go.Proofs.YtmenokhnanghgaaGreat
