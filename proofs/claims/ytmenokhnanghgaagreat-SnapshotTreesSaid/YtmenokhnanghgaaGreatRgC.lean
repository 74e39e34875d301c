/- The reference's form of a tree. By mkrgb.py. -/
import Derived.Test.YtmenokhnanghgaaGreatRgB
import Derived.Test.YtmenokhnanghgaaGreatSnp6
import Derived.Test.YtmenokhnanghgaaGreatTRE
namespace Go.Proofs.YtmenokhnanghgaaGreat
open Go Go.RowKit
set_option linter.unusedSimpArgs false
set_option linter.unusedVariables false
set_option maxRecDepth 100000
set_option linter.unusedSimpArgs false
set_option linter.unusedVariables false
theorem ref55_tre_bits (k : Nat) (st : Int) (H : List (Int × Int)) (N : List Nd) (hs : (st - 1).toNat = k) : hdB 2 ++ digB 3 k ++ gamB H.length ++ H.flatMap pt3B ++ gamB N.length ++ N.flatMap ndB = treB st H N := by
  unfold treB
  rw [hs]
set_option maxHeartbeats 32000000 in
theorem ref55_Tree (st : Int) (A B : Option Addr) (n c m d : Nat) (H : List (Int × Int)) (N : List Nd) (w : World) (hH : Rd encP 2 w A n H) (hN : RdX ekN w B m N) :
    Calls Tryz.prog 18 #[.agg #[.int .i64 st, .slice A n c, .slice B m d]] w fun e w' => ∃ A' n' c', e = .returned (.tuple #[.slice A' n' c', .int .i64 (ftE st H N)]) ∧ Rd encU 1 w' A' n' (ftL st H N) ∧ Below w.heap.size w w' := by
  obtain ⟨w0, hw0⟩ : ∃ w0, w0 = w.alloc (.cells #[.int .i64 st, .slice A n c, .slice B m d] 37) := ⟨_, rfl⟩
  have hb0 : Below w.heap.size w w0 := by rw [hw0]; exact (Below.refl _ _).alloc (Nat.le_refl _) _
  have hbt : TrAt w0 w.heap.size (.int .i64 st) (.slice A n c) (.slice B m d) := by rw [hw0]; exact TrAt.new _ _ _ _ _
  have hH0 := Lib.hid (hH.of hb0)
  have hN0 := Lib.hid (hN.of hb0)
  have kR := fun w1 h1 h2 => ref12_Right st A B n c m d H N w1 h1 h2
  have hHl := Lib.hid hH.len
  have hNl := Lib.hid hN.len
  cases hr : trR st H N with
  | false =>
    obtain ⟨h1, h2⟩ := ft_bad hr
    rw [hr] at kR
    rw [h1, h2]
    clear hr h1 h2 hH hN
    have ⟨_, t0, t1, t2⟩ := hbt
    go_enter Tryz.func18, Tryz.ntmps18
    go_wp2_with fail
    rw [← hw0]
    clear hw0
    go_wp2_with fail; go_at_call 52; refine (kR _ hH0.out hN0.out).mono ?_; rintro e w1 ⟨rfl, hb1⟩; have hs1 := hb1.size; (try simp only [World.size_alloc, World.size_drew, World.size_setCell] at hs1)
    go_wp2_with fail
    refine bodyPost_ret (v := .tuple #[.slice none 0 0, .int .i64 2]) (by simp [results, Tryz.results18, go_sem, *, ↓IntWalk.iteOmega]) rfl ?_
    exact ⟨none, 0, 0, rfl, Rd.nil_, below_thru hb0 hb1⟩
  | true =>
    obtain ⟨h1, h2⟩ := ft_ok hr
    rw [hr] at kR
    rw [h1, h2]
    obtain ⟨bd1, bd2, bd3, bd4, bd5⟩ := trR_bounds hr
    replace bd3 := Lib.hid bd3
    replace bd5 := Lib.hid bd5
    have hn25 : n ≤ 25 := by rw [← hHl.out]; exact bd2
    have hm40 : m ≤ 4096 := by rw [← hNl.out]; exact bd4
    clear hr h1 h2 hH hN bd2 bd4
    obtain ⟨k, hk⟩ : ∃ k : Nat, (k : Int) = st - 1 := ⟨(st - 1).toNat, by omega⟩
    have hks : (st - 1).toNat = k := by omega
    have hbits := Lib.hid (ref55_tre_bits k st H N hks)
    have hk7 : k ≤ 7 := by omega
    obtain ⟨sn, rfl⟩ : ∃ sn : Nat, st = (sn : Int) := ⟨st.toNat, by omega⟩
    have e0 : IntKind.i64.wrap ((sn : Int) - 1) = (k : Int) := by rw [IntWalk.i64_in _ (by omega)]; exact hk.symm
    replace hk := Lib.hid hk
    clear hks
    rw [← hbits.out, hHl.out, hNl.out]
    clear hbits
    obtain ⟨X1, hX1⟩ : ∃ X1, X1 = hdB 2 ++ digB 3 k ++ gamB n := ⟨_, rfl⟩
    rw [← hX1]
    obtain ⟨X2, hX2'⟩ : ∃ X2, X2 = X1 ++ H.flatMap pt3B ++ gamB m := ⟨_, rfl⟩
    rw [← hX2']
    replace hX1 := Lib.hid hX1
    replace hX2' := Lib.hid hX2'
    have ⟨_, t0, t1, t2⟩ := hbt
    go_enter Tryz.func18, Tryz.ntmps18
    go_wp2_with fail
    rw [← hw0]
    clear hw0
    go_at_call 52
    refine (kR _ hH0.out hN0.out).mono ?_
    rintro e w1 ⟨rfl, hb1⟩
    clear t0 t1 t2
    go_wp2_with fail
    go_at_call 39
    refine (ref55_begin 2 (by omega) _).mono ?_
    rintro e w2 ⟨bw, A2, n2, c2, T2, b2, rfl, hX2, hbw, hb2⟩
    have hz1 := hb1.size
    have hwb : w0.heap.size ≤ bw := by omega
    have hB2 := Lib.hid (below_thru hb1 hb2)
    have kW := ref55_bits bw A2 n2 c2 _ T2 b2 w2 k 3 hX2 (by omega) (by omega)
    replace hX2 := Lib.hid hX2
    clear hb1 hb2 kR hz1
    have ⟨_, t0, t1, t2⟩ := hbt.of hB2.out
    go_wp2_with fail
    go_at_call 53
    refine kW.mono ?_
    rintro e w3 ⟨A3, n3, c3, T3, b3, rfl, hX3, hK3⟩
    have hB3 := hX2.out.go hB2.out hK3 hwb
    replace hB3 := Lib.hid hB3
    clear kW
    clear t0 t1 t2
    have ⟨_, t0, t1, t2⟩ := hbt.of hB3.out
    have kW := ref55_gamma bw A3 n3 c3 _ T3 b3 w3 n hX3 (by omega)
    replace hX3 := Lib.hid hX3
    clear hK3
    go_wp2_with fail
    go_at_call 54
    refine kW.mono ?_
    rintro e w4 ⟨A4, n4, c4, T4, b4, rfl, hX4, hK4⟩
    have hB4 := hX3.out.go hB3.out hK4 hwb
    replace hB4 := Lib.hid hB4
    clear kW
    clear t0 t1 t2 hK4 hX2 hX3 hB2 hB3
    rw [← hX1.out] at hX4
    replace hX4 := Lib.hid hX4
    clear hX1
    go_wp2_with fail
    go_loopw [5] (fun i wr => ∃ (j : Nat) (A4 : Option Addr) (n4 c4 : Nat) (T4 : List Bool) (b4 : Bool), i = .int .i64 j ∧ j ≤ n ∧ WqX wr bw A4 n4 c4 (X1 ++ (H.take j).flatMap pt3B) T4 b4 ∧ Below w0.heap.size w0 wr) (fun i _ => n - (intOf i).toNat)
    case atStart => exact ⟨0, A4, n4, c4, T4, b4, rfl, by omega, by simpa using hX4.out, hB4.out⟩
    case round =>
      clear hX4 hB4
      obtain ⟨j, A4, n4, c4, T4, b4, rfl, hj, hX4, hB4⟩ := hrel
      have hz4 := hB4.size
      have ⟨_, t0, t1, t2⟩ := hbt.of hB4
      by_cases hlt : j < n
      · have dj : decide ((j : Int) < n) = true := decide_eq_true (by omega)
        have dj' : decide (j < n) = true := decide_eq_true hlt
        obtain ⟨x, y, bo, o, hx, rfl, hbo, cx, cy⟩ := hH0.out.pt hlt
        have hd := bd3.out _ (List.mem_of_getElem? hx.out)
        simp only at hd
        obtain ⟨a, ha⟩ : ∃ a : Nat, (a : Int) = x + 2 := ⟨(x + 2).toNat, by omega⟩
        obtain ⟨b, hb⟩ : ∃ b : Nat, (b : Int) = y + 2 := ⟨(y + 2).toNat, by omega⟩
        have w0' : IntKind.i64.wrap (x + 2) = (a : Int) := by rw [IntWalk.i64_in _ (by omega)]; exact ha.symm
        have w1' : IntKind.i64.wrap (y + 2) = (b : Int) := by rw [IntWalk.i64_in _ (by omega)]; exact hb.symm
        have hst := Lib.hid (show X1 ++ (H.take (j + 1)).flatMap pt3B = X1 ++ (H.take j).flatMap pt3B ++ digB 3 a ++ digB 3 b by rw [flat_step pt3B hx.out, pt_bits ha hb, ptsB_two, ← List.append_assoc, ← List.append_assoc]; rfl)
        have cx' := (hB4.cell (p := ⟨bo, o + j * 2, none⟩) hbo).trans cx
        have i0 : (0 : Int) ≤ (j : Int) := by omega
        have i1 : (j : Int) < (n : Int) := by omega
        have kW := ref55_bits bw A4 n4 c4 _ T4 b4 wr a 3 hX4 (by omega) (by omega)
        have hb8 : b < 2 ^ 3 := by omega
        replace hX4 := Lib.hid hX4
        replace hB4 := Lib.hid hB4
        clear ha hb hd cx hx
        go_wp2_with fail
        go_at_call 53
        refine kW.mono ?_
        rintro e w5 ⟨A5, n5, c5, T5, b5, rfl, hX5, hK5⟩
        have hB5 := hX4.out.go hB4.out hK5 hwb
        replace hB5 := Lib.hid hB5
        clear kW
        clear t0 t1 t2 cx'
        have ⟨_, t0, t1, t2⟩ := hbt.of hB5.out
        have cy' := (hB5.out.cell (p := ⟨bo, o + j * 2 + 1, none⟩) hbo).trans cy
        have kW := ref55_bits bw A5 n5 c5 _ T5 b5 w5 b 3 hX5 (by omega) hb8
        replace hX5 := Lib.hid hX5
        clear hK5 cy
        go_wp2_with fail
        go_at_call 53
        refine kW.mono ?_
        rintro e w6 ⟨A6, n6, c6, T6, b6, rfl, hX6, hK6⟩
        have hB6 := hX5.out.go hB5.out hK6 hwb
        replace hB6 := Lib.hid hB6
        clear kW
        replace hX6 := Lib.hid hX6
        clear hK6 cy' t0 t1 t2
        go_wp2_with fail
        go_roundw
        case rel => exact ⟨j + 1, A6, n6, c6, T6, b6, by go_num, by omega, by rw [hst.out]; exact hX6.out, hB6.out⟩
        case measure => simp [intOf]; omega
      · obtain rfl : j = n := by omega
        have dj : decide ((j : Int) < j) = false := decide_eq_false (by omega)
        have dj' : decide (j < j) = false := decide_eq_false (by omega)
        rw [flat_all pt3B hHl.out] at hX4
        have kW := ref55_gamma bw A4 n4 c4 _ T4 b4 wr m hX4 (by omega)
        replace hX4 := Lib.hid hX4
        replace hB4 := Lib.hid hB4
        go_wp2_with fail
        go_at_call 54
        refine kW.mono ?_
        rintro e w6 ⟨A6, n6, c6, T6, b6, rfl, hX6, hK6⟩
        have hB6 := hX4.out.go hB4.out hK6 hwb
        replace hB6 := Lib.hid hB6
        clear kW
        clear t0 t1 t2 hK6
        rw [← hX2'.out] at hX6
        replace hX6 := Lib.hid hX6
        clear hX4 hB4 hz4 hX2'
        go_wp2_with fail
        go_loopw [6] (fun i wr => ∃ (q : Nat) (A4 : Option Addr) (n4 c4 : Nat) (T4 : List Bool) (b4 : Bool), i = .int .i64 q ∧ q ≤ m ∧ WqX wr bw A4 n4 c4 (X2 ++ (N.take q).flatMap ndB) T4 b4 ∧ Below w0.heap.size w0 wr) (fun i _ => m - (intOf i).toNat)
        case atStart => exact ⟨0, A6, n6, c6, T6, b6, rfl, by omega, by simpa using hX6.out, hB6.out⟩
        case round =>
          clear hX6 hB6
          obtain ⟨q, A4, n4, c4, T4, b4, rfl, hq, hX4, hB4⟩ := hrel
          have hz4 := hB4.size
          have ⟨_, t0, t1, t2⟩ := hbt.of hB4
          by_cases hltq : q < m
          · have dq : decide ((q : Int) < m) = true := decide_eq_true (by omega)
            have dq' : decide (q < m) = true := decide_eq_true hltq
            obtain ⟨lv, nx, E, me, ce, bo, o, hx, rfl, hbo, cx, cy, hNx, hce⟩ := hN0.out.node hltq
            obtain ⟨⟨hl1, hl2⟩, hl3, hl4⟩ := bd5.out _ (List.mem_of_getElem? hx.out)
            simp only at hl1 hl2 hl3 hl4
            replace hl4 := Lib.hid hl4
            have hme : me = sn := by have := hNx.len; omega
            subst hme
            obtain ⟨lw, rfl⟩ : ∃ lw : Nat, lv = (lw : Int) := ⟨lv.toNat, by omega⟩
            have cx' := (hB4.cell (p := ⟨bo, o + q * 2, none⟩) hbo).trans cx
            have hst := Lib.hid (show X2 ++ (N.take (q + 1)).flatMap ndB = X2 ++ (N.take q).flatMap ndB ++ gamB lw ++ nx.flatMap (fun n => gamB n.toNat) by rw [flat_step ndB hx.out, nd_bits, ptsB_one, ← List.append_assoc, ← List.append_assoc]; rfl)
            have i0 : (0 : Int) ≤ (q : Int) := by omega
            have i1 : (q : Int) < (m : Int) := by omega
            have kW := ref55_gamma bw A4 n4 c4 _ T4 b4 wr lw hX4 (by omega)
            have hNh := Lib.hid hNx
            have hnl := Lib.hid hNx.len
            replace hX4 := Lib.hid hX4
            replace hB4 := Lib.hid hB4
            clear cx hl3 hce hNx hx
            go_wp2_with fail
            go_at_call 54
            refine kW.mono ?_
            rintro e w5 ⟨A5, n5, c5, T5, b5, rfl, hX5, hK5⟩
            have hB5 := hX4.out.go hB4.out hK5 hwb
            replace hB5 := Lib.hid hB5
            clear kW
            obtain ⟨X3, hX3⟩ : ∃ X3, X3 = X2 ++ (N.take q).flatMap ndB ++ gamB lw := ⟨_, rfl⟩
            rw [← hX3] at hX5 hst
            replace hX5 := Lib.hid hX5
            clear hX3 hK5 cx' t0 t1 t2
            go_wp2_with fail
            go_loopw [7] (fun i wq => ∃ (r : Nat) (A7 : Option Addr) (n7 c7 : Nat) (T7 : List Bool) (b7 : Bool), i = .int .i64 r ∧ r ≤ me ∧ WqX wq bw A7 n7 c7 (X3 ++ (nx.take r).flatMap (fun n => gamB n.toNat)) T7 b7 ∧ Below w0.heap.size w0 wq) (fun i _ => me - (intOf i).toNat)
            case atStart => exact ⟨0, A5, n5, c5, T5, b5, rfl, by omega, by simpa using hX5.out, hB5.out⟩
            case round =>
              clear hX5 hB5
              obtain ⟨r, A7, n7, c7, T7, b7, rfl, hr, hX7, hB7⟩ := hrel
              have ⟨_, t0, t1, t2⟩ := hbt.of hB7
              by_cases hltr : r < me
              · have dr : decide ((r : Int) < me) = true := decide_eq_true (by omega)
                have dr' : decide (r < me) = true := decide_eq_true hltr
                obtain ⟨kk, b9, o2, hk2, rfl, hb2, ck⟩ := hNh.out.int hltr
                have hk3 := hl4.out kk (List.mem_of_getElem? hk2.out)
                obtain ⟨kn, rfl⟩ : ∃ kn : Nat, kk = (kn : Int) := ⟨kk.toNat, by omega⟩
                have ck' := (hB7.cell (p := ⟨b9, o2 + r, none⟩) hb2).trans ck
                have cy' := (hB7.cell (p := ⟨bo, o + q * 2 + 1, none⟩) hbo).trans cy
                have j0 : (0 : Int) ≤ (r : Int) := by omega
                have j1 : (r : Int) < (me : Int) := by omega
                have hst2 := Lib.hid (show X3 ++ (nx.take (r + 1)).flatMap (fun n => gamB n.toNat) = X3 ++ (nx.take r).flatMap (fun n => gamB n.toNat) ++ gamB kn by rw [flat_step _ hk2.out, List.append_assoc]; simp only [Int.toNat_natCast])
                have kW := ref55_gamma bw A7 n7 c7 _ T7 b7 _ kn hX7 (by omega)
                replace hX7 := Lib.hid hX7
                replace hB7 := Lib.hid hB7
                clear ck hk3 hk2
                go_wp2_with fail
                go_at_call 54
                refine kW.mono ?_
                rintro e w8 ⟨A8, n8, c8, T8, b8, rfl, hX8, hK8⟩
                have hB8 := hX7.out.go hB7.out hK8 hwb
                replace hB8 := Lib.hid hB8
                clear kW
                replace hX8 := Lib.hid hX8
                clear hK8 ck' cy' t0 t1 t2
                go_wp2_with fail
                go_roundw
                case rel => exact ⟨r + 1, A8, n8, c8, T8, b8, by go_num, by omega, by rw [hst2.out]; exact hX8.out, hB8.out⟩
                case measure => simp [intOf]; omega
              · obtain rfl : r = me := by omega
                have dr : decide ((r : Int) < r) = false := decide_eq_false (by omega)
                have dr' : decide (r < r) = false := decide_eq_false (by omega)
                rw [flat_all _ hnl.out, ← hst.out] at hX7
                replace hX7 := Lib.hid hX7
                replace hB7 := Lib.hid hB7
                go_wp2_with fail
                go_roundw
                case rel => exact ⟨q + 1, A7, n7, c7, T7, b7, by go_num, by omega, hX7.out, hB7.out⟩
                case measure => simp [intOf]; omega
          · obtain rfl : q = m := by omega
            have dq : decide ((q : Int) < q) = false := decide_eq_false (by omega)
            have dq' : decide (q < q) = false := decide_eq_false (by omega)
            rw [flat_all ndB hNl.out] at hX4
            replace hX4 := Lib.hid hX4
            replace hB4 := Lib.hid hB4
            go_wp2_with fail
            go_at_call 41
            refine (ref55_done bw A4 n4 c4 _ T4 b4 _ hX4.out).mono ?_
            rintro e w9 ⟨A9, n9, c9, rfl, hR9, hb9⟩
            have hB9 := Lib.hid (below_thru hb0 (below_thru hB4.out hb9))
            replace hR9 := Lib.hid hR9
            go_wp2_with fail
            refine bodyPost_ret (v := .tuple #[.slice A9 n9 c9, .int .i64 (endE (X2 ++ N.flatMap ndB))]) (by simp [results, Tryz.results18, go_sem, *, ↓IntWalk.iteOmega]) rfl ?_
            exact ⟨A9, n9, c9, rfl, hR9.out, hB9.out⟩
end Go.Proofs.YtmenokhnanghgaaGreat
