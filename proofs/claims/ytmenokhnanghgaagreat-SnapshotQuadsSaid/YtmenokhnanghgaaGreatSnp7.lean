/- The form of a timeline. -/
import Derived.Test.YtmenokhnanghgaaGreatSnp6
import Derived.Test.YtmenokhnanghgaaGreatDLS
namespace Go.Proofs.YtmenokhnanghgaaGreat
open Go Go.RowKit
set_option linter.unusedSimpArgs false
set_option linter.unusedVariables false
set_option maxRecDepth 100000
set_option linter.unusedSimpArgs false
set_option linter.unusedVariables false
def fmE (key : Int) (fs : List TFr) : Int := if tlB key fs = true then endE (timB key fs) else 2
def fmL (key : Int) (fs : List TFr) : List Int := if tlB key fs = true then endL (timB key fs) else []
theorem fm_bad {key : Int} {fs : List TFr} (h : tlB key fs = false) : fmE key fs = 2 ∧ fmL key fs = [] := by unfold fmE fmL; rw [h]; exact ⟨rfl, rfl⟩
theorem fm_ok {key : Int} {fs : List TFr} (h : tlB key fs = true) : fmE key fs = endE (timB key fs) ∧ fmL key fs = endL (timB key fs) := by unfold fmE fmL; rw [h]; exact ⟨rfl, rfl⟩
theorem tim_bits (K : Nat) (fs : List TFr) : hdB 4 ++ ptsB [.gam K, .gam fs.length] ++ fs.flatMap frB = timB (K : Int) fs := by
  rw [ptsB_two]
  unfold timB
  simp only [Int.toNat_natCast, List.append_assoc]
  rfl
theorem fr_bits_full {g : Nat} {C : List Cel} {D : List Chg} : frB ((g : Int), true, C, D) = ptsB [.gam g] ++ ptsB [.fix 1 1] ++ lstB psC cdC C := by
  rw [ptsB_one, ptsB_one]
  unfold frB
  simp only [Int.toNat_natCast, if_true, List.append_assoc]
  rfl
theorem fr_bits_chg {g : Nat} {C : List Cel} {D : List Chg} : frB ((g : Int), false, C, D) = ptsB [.gam g] ++ ptsB [.fix 0 1] ++ lstB psG cdG D := by
  rw [ptsB_one, ptsB_one]
  unfold frB
  simp only [Int.toNat_natCast, Bool.false_eq_true, if_false, List.append_assoc]
  rfl
theorem gen_nn {key : Int} {fs : List TFr} {K : Nat} (hok : ∀ j, okT K fs j = true) : ∀ j, -1 ≤ lastG fs j
  | 0 => Int.le_refl _
  | j + 1 => by
    show -1 ≤ (match fs[j]? with | none => -1 | some f => f.1)
    have ih := gen_nn (key := key) hok j
    cases hq : fs[j]? with
    | none => exact Int.le_refl _
    | some f =>
      obtain ⟨g2, fu2, C2, D2⟩ := f
      have := ((okT_iff hq).1 (hok j)).1
      simp only; omega
set_option maxHeartbeats 32000000 in
theorem snp_Timeline (key : Int) (A : Option Addr) (n c : Nat) (fs : List TFr) (w : World) (hF : RdX ekFr w A n fs) (hsm : SmT fs) :
    Calls Tryz.prog 28 #[.agg #[.int .i64 key, .slice A n c]] w fun e w' => ∃ A' n' c', e = .returned (.tuple #[.slice A' n' c', .int .i64 (fmE key fs)]) ∧ Rd encU 1 w' A' n' (fmL key fs) ∧ Below w.heap.size w w' := by
  obtain ⟨w0, hw0⟩ : ∃ w0, w0 = w.alloc (.cells #[.int .i64 key, .slice A n c] 54) := ⟨_, rfl⟩
  have hb0 : Below w.heap.size w w0 := by rw [hw0]; exact (Below.refl _ _).alloc (Nat.le_refl _) _
  have hbt : BxW w0 w.heap.size [.int .i64 key, .slice A n c] := by rw [hw0]; exact BxW.new w [.int .i64 key, .slice A n c] _
  have hF0 := Lib.hid (hF.of hb0)
  have kR := fun w1 h => tl_Right key A n c fs w1 h hsm
  have hFl := Lib.hid hF.len
  cases hr : tlB key fs with
  | false =>
    obtain ⟨h1, h2⟩ := fm_bad hr
    rw [hr] at kR
    rw [h1, h2]
    clear hr h1 h2 hF
    obtain ⟨_, t0, t1, -, -⟩ := hbt.open2
    go_enter Tryz.func28, Tryz.ntmps28
    go_wp2_with fail
    rw [← hw0]
    clear hw0
    go_wp2_with fail; go_at_call 67; refine (kR _ hF0.out).mono ?_; rintro e w1 ⟨rfl, hb1⟩; have hs1 := hb1.size; (try simp only [World.size_alloc, World.size_drew, World.size_setCell] at hs1)
    go_wp2_with fail
    refine bodyPost_ret (v := .tuple #[.slice none 0 0, .int .i64 2]) (by simp [results, Tryz.results28, go_sem, *, ↓IntWalk.iteOmega]) rfl ?_
    exact ⟨none, 0, 0, rfl, Rd.nil_, below_thru hb0 hb1⟩
  | true =>
    obtain ⟨h1, h2⟩ := fm_ok hr
    rw [hr] at kR
    rw [h1, h2]
    obtain ⟨K, rfl, hK1, hK2, hlen, hok⟩ := tlB_ok hr
    have hgn := Lib.hid (gen_nn (key := (K : Int)) hok)
    replace hok := Lib.hid hok
    have hn1 : n ≤ 1000 := by rw [← hFl.out]; exact hlen
    clear hr h1 h2 hF hlen
    rw [← tim_bits K fs, hFl.out]
    obtain ⟨X1, hX1⟩ : ∃ X1, X1 = hdB 4 ++ ptsB [.gam K, .gam n] := ⟨_, rfl⟩
    rw [← hX1]
    replace hX1 := Lib.hid hX1
    obtain ⟨_, t0, t1, -, -⟩ := hbt.open2
    go_enter Tryz.func28, Tryz.ntmps28
    go_wp2_with fail
    rw [← hw0]
    clear hw0
    go_at_call 67
    refine (kR _ hF0.out).mono ?_
    rintro e w1 ⟨rfl, hb1⟩
    clear t0 t1
    go_wp2_with fail
    go_at_call 35
    refine (snp_start 4 (by omega) _).mono ?_
    rintro e w2 ⟨bw, A2, n2, c2, T2, e2, rfl, hX2, hbw, hb2⟩
    have hz1 := hb1.size
    have hwb : w0.heap.size ≤ bw := by omega
    have hB2 := Lib.hid (below_thru hb1 hb2)
    obtain ⟨_, t0, t1, -, -⟩ := (hbt.of hB2.out).open2
    have kW := snp_wr1 hX2 [.gam K, .gam n] 2 rfl (by omega) (ok_two (ok_gam (by omega)) (ok_gam (by omega))) _ rfl
    have hS2 := Lib.hid hX2.s
    clear hX2 hb1 hb2
    go_wp2_with fail
    go_at_call 51
    refine kW.mono ?_
    rintro e w3 ⟨A3, n3, c3, T3, e3, rfl, hX3, hK3⟩
    clear kW t0 t1
    have hB3 := hB2.out.trans (hK3.below hS2.out hwb)
    obtain ⟨_, t0, t1, -, -⟩ := (hbt.of hB3).open2
    rw [← hX1.out] at hX3
    replace hX3 := Lib.hid hX3
    replace hB3 := Lib.hid hB3
    clear hK3 hS2 hB2 hz1 hX1
    go_wp2_with fail
    clear t0 t1
    go_loopw [24] (fun i wr => ∃ (j : Nat) (A4 : Option Addr) (n4 c4 : Nat) (T4 : List Bool) (e4 : Int), i = .int .i64 j ∧ j ≤ n ∧ WrX wr bw A4 n4 c4 (X1 ++ (fs.take j).flatMap frB) T4 e4 ∧ Below w0.heap.size w0 wr) (fun i _ => n - (intOf i).toNat)
    case atStart => exact ⟨0, A3, n3, c3, T3, e3, rfl, by omega, by simpa using hX3.out, hB3.out⟩
    case round =>
      clear hX3 hB3
      obtain ⟨q, A4, n4, c4, T4, e4, rfl, hq, hX4, hB4⟩ := hrel
      have hz4 := hB4.size
      by_cases hltq : q < n
      · have dq : decide ((q : Int) < n) = true := decide_eq_true (by omega)
        have dq' : decide (q < n) = true := decide_eq_true hltq
        obtain ⟨gen, fu, C, D, CA, cn, cc, DA, dn, dc, bo, o, hx, rfl, hbo, cx0, cx1, cx2, cx3, hC, hcc, hD, hdc⟩ := hF0.out.frm hltq
        obtain ⟨k1, k2, k3, k4, k5⟩ := (okT_iff hx.out).1 (hok.out q)
        have hg0 := hgn.out q
        obtain ⟨g, rfl⟩ : ∃ g : Nat, gen = (g : Int) := ⟨gen.toNat, by omega⟩
        have cy0 := (hB4.cell (p := ⟨bo, o + q * 4, none⟩) hbo).trans cx0
        have cy1 := (hB4.cell (p := ⟨bo, o + q * 4 + 1, none⟩) hbo).trans cx1
        have cy2 := (hB4.cell (p := ⟨bo, o + q * 4 + 2, none⟩) hbo).trans cx2
        have cy3 := (hB4.cell (p := ⟨bo, o + q * 4 + 3, none⟩) hbo).trans cx3
        have hstep := Lib.hid (flat_step frB hx.out)
        have kW := snp_wr2 hX4 (.cells #[.int .i64 (g : Int), .bool fu, .slice CA cn cc, .slice DA dn dc] 72) [.gam g] 1 rfl (by omega) (ok_one (show g < _ by omega)) _ rfl
        have hal : Below w0.heap.size w0 (wr.alloc (.cells #[.int .i64 (g : Int), .bool fu, .slice CA cn cc, .slice DA dn dc] 72)) := hB4.alloc hz4 _
        have hal2 : Below wr.heap.size wr (wr.alloc (.cells #[.int .i64 (g : Int), .bool fu, .slice CA cn cc, .slice DA dn dc] 72)) := (Below.refl _ _).alloc (Nat.le_refl _) _
        have hS4 := Lib.hid (hX4.s.of hal2)
        have hbn := BxW.new wr [.int .i64 (g : Int), .bool fu, .slice CA cn cc, .slice DA dn dc] 72
        rw [show ∀ a b c d : Value, [a, b, c, d].toArray = #[a, b, c, d] from fun _ _ _ _ => rfl] at hbn
        have hnw := hX4.new (Nat.le_refl wr.heap.size)
        replace hC := Lib.hid hC
        replace hD := Lib.hid hD
        clear hX4 cx0 cx1 cx2 cx3 hcc hdc hx k1 k2 k3 hg0
        cases fu with
        | true =>
          obtain ⟨hCr, hD0⟩ := k4 rfl
          have hbits := Lib.hid (fr_bits_full (g := g) (C := C) (D := D))
          clear k5 k4 hD0
          go_wp2_with fail
          go_at_call 51
          refine kW.mono ?_
          rintro e w5 ⟨A5, n5, c5, T5, e5, rfl, hX5, hK5⟩
          have hB5 := Lib.hid (hal.trans (hK5.below hS4.out hwb))
          obtain ⟨hbn5, hnn5⟩ := hK5.box hbn hnw.1 hnw.2
          clear kW hK5 cy0 cy1 cy2 cy3 hal hal2 hbn
          obtain ⟨_, p0, p1, p2, p3, -, -, -, -⟩ := hbn5.open4
          have kW := snp_wr1 hX5 [.fix 1 1] 1 rfl (by omega) (ok_one ⟨by omega, by omega, by omega⟩) _ rfl
          have hS5 := Lib.hid hX5.s
          clear hX5
          go_wp2_with fail
          go_at_call 51
          refine kW.mono ?_
          rintro e w6 ⟨A6, n6, c6, T6, e6, rfl, hX6, hK6⟩
          clear kW p0 p1 p2 p3
          have hB6 := Lib.hid (hB5.out.trans (hK6.below hS5.out hwb))
          obtain ⟨hbn6, hnn6⟩ := hK6.box hbn5 hnw.1 hnn5
          obtain ⟨_, p0, p1, p2, p3, -, -, -, -⟩ := hbn6.open4
          have kC := snp_wcells bw A6 n6 c6 _ T6 e6 CA cn cc _ C hX6 (hC.out.of hB6.out) hCr (off_old hC.out hX6 hwb)
          have hS6 := Lib.hid hX6.s
          clear hX6 hK6 hbn5 hbn6 hnn5 hnn6 hnw
          go_wp2_with fail
          go_at_call 36
          refine kC.mono ?_
          rintro e w7 ⟨A7, n7, c7, T7, e7, rfl, hX7, hK7⟩
          have hB7 := Lib.hid (hB6.out.trans (hK7.below hS6.out hwb))
          replace hX7 := Lib.hid hX7
          clear kC hK7 p0 p1 p2 p3
          go_wp2_with fail
          go_roundw
          case rel => exact ⟨q + 1, A7, n7, c7, T7, e7, by go_num, by omega, by rw [hstep.out, hbits.out]; simpa only [List.append_assoc] using hX7.out, hB7.out⟩
          case measure => simp [intOf]; omega
        | false =>
          obtain ⟨hap, hC0⟩ := k5 rfl
          have hDr := (apE_right hap).2.1
          have hbits := Lib.hid (fr_bits_chg (g := g) (C := C) (D := D))
          clear k5 k4 hC0 hap
          go_wp2_with fail
          go_at_call 51
          refine kW.mono ?_
          rintro e w5 ⟨A5, n5, c5, T5, e5, rfl, hX5, hK5⟩
          have hB5 := Lib.hid (hal.trans (hK5.below hS4.out hwb))
          obtain ⟨hbn5, hnn5⟩ := hK5.box hbn hnw.1 hnw.2
          clear kW hK5 cy0 cy1 cy2 cy3 hal hal2 hbn
          obtain ⟨_, p0, p1, p2, p3, -, -, -, -⟩ := hbn5.open4
          have kW := snp_wr1 hX5 [.fix 0 1] 1 rfl (by omega) (ok_one ⟨by omega, by omega, by omega⟩) _ rfl
          have hS5 := Lib.hid hX5.s
          clear hX5
          go_wp2_with fail
          go_at_call 51
          refine kW.mono ?_
          rintro e w6 ⟨A6, n6, c6, T6, e6, rfl, hX6, hK6⟩
          clear kW p0 p1 p2 p3
          have hB6 := Lib.hid (hB5.out.trans (hK6.below hS5.out hwb))
          obtain ⟨hbn6, hnn6⟩ := hK6.box hbn5 hnw.1 hnn5
          obtain ⟨_, p0, p1, p2, p3, -, -, -, -⟩ := hbn6.open4
          have kC := snp_wchanges bw A6 n6 c6 _ T6 e6 DA dn dc _ D hX6 (hD.out.of hB6.out) hDr (off_old hD.out hX6 hwb)
          have hS6 := Lib.hid hX6.s
          clear hX6 hK6 hbn5 hbn6 hnn5 hnn6 hnw
          go_wp2_with fail
          go_at_call 68
          refine kC.mono ?_
          rintro e w7 ⟨A7, n7, c7, T7, e7, rfl, hX7, hK7⟩
          have hB7 := Lib.hid (hB6.out.trans (hK7.below hS6.out hwb))
          replace hX7 := Lib.hid hX7
          clear kC hK7 p0 p1 p2 p3
          go_wp2_with fail
          go_roundw
          case rel => exact ⟨q + 1, A7, n7, c7, T7, e7, by go_num, by omega, by rw [hstep.out, hbits.out]; simpa only [List.append_assoc] using hX7.out, hB7.out⟩
          case measure => simp [intOf]; omega
      · obtain rfl : q = n := by omega
        have dq : decide ((q : Int) < q) = false := decide_eq_false (by omega)
        have dq' : decide (q < q) = false := decide_eq_false (by omega)
        rw [flat_all frB hFl.out] at hX4
        replace hX4 := Lib.hid hX4
        replace hB4 := Lib.hid hB4
        go_wp2_with fail
        go_at_call 37
        refine (snp_end bw A4 n4 c4 _ T4 e4 _ hX4.out).mono ?_
        rintro e w9 ⟨A9, n9, c9, rfl, hR9, hb9⟩
        have hB9 := Lib.hid (below_thru hb0 (below_thru hB4.out hb9))
        replace hR9 := Lib.hid hR9
        go_wp2_with fail
        refine bodyPost_ret (v := .tuple #[.slice A9 n9 c9, .int .i64 (endE (X1 ++ fs.flatMap frB))]) (by simp [results, Tryz.results28, go_sem, *, ↓IntWalk.iteOmega]) rfl ?_
        exact ⟨A9, n9, c9, rfl, hR9.out, hB9.out⟩
end Go.Proofs.YtmenokhnanghgaaGreat
