/- The form of a tree. -/
import Derived.Test.YtmenokhnanghgaaGreatSnp5
import Derived.Test.YtmenokhnanghgaaGreatTRE
namespace Go.Proofs.YtmenokhnanghgaaGreat
open Go Go.RowKit
set_option linter.unusedSimpArgs false
set_option linter.unusedVariables false
set_option maxRecDepth 100000
set_option linter.unusedSimpArgs false
set_option linter.unusedVariables false
theorem flat_step {α β : Type} {l : List α} {j : Nat} {a : α} (f : α → List β) (h : l[j]? = some a) : (l.take (j + 1)).flatMap f = (l.take j).flatMap f ++ f a := by
  rw [List.take_add_one, h, List.flatMap_append]; simp
theorem flat_all {α β : Type} {l : List α} {n : Nat} (f : α → List β) (h : l.length = n) : (l.take n).flatMap f = l.flatMap f := by
  rw [List.take_of_length_le (by omega)]
def ftE (st : Int) (H : List (Int × Int)) (N : List Nd) : Int := if trR st H N = true then endE (treB st H N) else 2
def ftL (st : Int) (H : List (Int × Int)) (N : List Nd) : List Int := if trR st H N = true then endL (treB st H N) else []
theorem ft_bad {st : Int} {H : List (Int × Int)} {N : List Nd} (h : trR st H N = false) : ftE st H N = 2 ∧ ftL st H N = [] := by unfold ftE ftL; rw [h]; exact ⟨rfl, rfl⟩
theorem ft_ok {st : Int} {H : List (Int × Int)} {N : List Nd} (h : trR st H N = true) : ftE st H N = endE (treB st H N) ∧ ftL st H N = endL (treB st H N) := by unfold ftE ftL; rw [h]; exact ⟨rfl, rfl⟩
theorem tre_bits (k : Nat) (st : Int) (H : List (Int × Int)) (N : List Nd) (hs : (st - 1).toNat = k) : hdB 2 ++ ptsB [.fix k 3, .gam H.length] ++ H.flatMap pt3B ++ ptsB [.gam N.length] ++ N.flatMap ndB = treB st H N := by
  rw [ptsB_two, ptsB_one]
  unfold treB
  rw [hs]
  simp only [List.append_assoc]
  rfl
theorem pt_bits {x y : Int} {a b : Nat} (ha : (a : Int) = x + 2) (hb : (b : Int) = y + 2) : pt3B (x, y) = ptsB [.fix a 3, .fix b 3] := by
  rw [ptsB_two]
  unfold pt3B
  rw [← ha, ← hb, Int.toNat_natCast, Int.toNat_natCast]; rfl
theorem nd_bits {lv : Nat} {nx : List Int} : ndB ((lv : Int), nx) = ptsB [.gam lv] ++ nx.flatMap (fun n => gamB n.toNat) := by
  rw [ptsB_one]
  unfold ndB gmsB
  simp only [Int.toNat_natCast]
  rfl
set_option maxHeartbeats 32000000 in
theorem snp_Tree (st : Int) (A B : Option Addr) (n c m d : Nat) (H : List (Int × Int)) (N : List Nd) (w : World) (hH : Rd encP 2 w A n H) (hN : RdX ekN w B m N) (hn : n ≤ 9223372036854775807) (hm : m ≤ 9223372036854775807) :
    Calls Tryz.prog 17 #[.agg #[.int .i64 st, .slice A n c, .slice B m d]] w fun e w' => ∃ A' n' c', e = .returned (.tuple #[.slice A' n' c', .int .i64 (ftE st H N)]) ∧ Rd encU 1 w' A' n' (ftL st H N) ∧ Below w.heap.size w w' := by
  obtain ⟨w0, hw0⟩ : ∃ w0, w0 = w.alloc (.cells #[.int .i64 st, .slice A n c, .slice B m d] 37) := ⟨_, rfl⟩
  have hb0 : Below w.heap.size w w0 := by rw [hw0]; exact (Below.refl _ _).alloc (Nat.le_refl _) _
  have hbt : TrAt w0 w.heap.size (.int .i64 st) (.slice A n c) (.slice B m d) := by rw [hw0]; exact TrAt.new _ _ _ _ _
  have hH0 := Lib.hid (hH.of hb0)
  have hN0 := Lib.hid (hN.of hb0)
  have kR := fun w1 h1 h2 => tree_Right st A B n c m d H N w1 h1 h2
  have hHl := Lib.hid hH.len
  have hNl := Lib.hid hN.len
  cases hr : trR st H N with
  | false =>
    obtain ⟨h1, h2⟩ := ft_bad hr
    rw [hr] at kR
    rw [h1, h2]
    clear hr h1 h2 hH hN
    have ⟨_, t0, t1, t2⟩ := hbt
    go_enter Tryz.func17, Tryz.ntmps17
    go_wp2_with fail
    rw [← hw0]
    clear hw0
    go_wp2_with fail; go_at_call 50; refine (kR _ hH0.out hN0.out).mono ?_; rintro e w1 ⟨rfl, hb1⟩; have hs1 := hb1.size; (try simp only [World.size_alloc, World.size_drew, World.size_setCell] at hs1)
    go_wp2_with fail
    refine bodyPost_ret (v := .tuple #[.slice none 0 0, .int .i64 2]) (by simp [results, Tryz.results17, go_sem, *, ↓IntWalk.iteOmega]) rfl ?_
    exact ⟨none, 0, 0, rfl, Rd.nil_, below_thru hb0 hb1⟩
  | true =>
    obtain ⟨h1, h2⟩ := ft_ok hr
    rw [hr] at kR
    rw [h1, h2]
    obtain ⟨bd1, bd2, bd3, bd4, bd5⟩ := trR_bounds hr
    replace bd3 := Lib.hid bd3
    replace bd5 := Lib.hid bd5
    have hn25 : n ≤ 25 := by rw [← hHl.out]; exact bd2
    have hm40 : m ≤ 4096 := by rw [← hNl.out]; exact bd4
    clear hr h1 h2 hH hN bd2 bd4
    obtain ⟨k, hk⟩ : ∃ k : Nat, (k : Int) = st - 1 := ⟨(st - 1).toNat, by omega⟩
    have hks : (st - 1).toNat = k := by omega
    have hbits := Lib.hid (tre_bits k st H N hks)
    have hk7 : k ≤ 7 := by omega
    have e0 : IntKind.i64.wrap (st - 1) = (k : Int) := by rw [IntWalk.i64_in _ (by omega)]; exact hk.symm
    replace hk := Lib.hid hk
    clear hks
    rw [← hbits.out, hHl.out, hNl.out]
    clear hbits
    obtain ⟨X1, hX1⟩ : ∃ X1, X1 = hdB 2 ++ ptsB [.fix k 3, .gam n] := ⟨_, rfl⟩
    rw [← hX1]
    obtain ⟨X2, hX2'⟩ : ∃ X2, X2 = X1 ++ H.flatMap pt3B ++ ptsB [.gam m] := ⟨_, rfl⟩
    rw [← hX2']
    replace hX1 := Lib.hid hX1
    replace hX2' := Lib.hid hX2'
    have ⟨_, t0, t1, t2⟩ := hbt
    go_enter Tryz.func17, Tryz.ntmps17
    go_wp2_with fail
    rw [← hw0]
    clear hw0
    go_at_call 50
    refine (kR _ hH0.out hN0.out).mono ?_
    rintro e w1 ⟨rfl, hb1⟩
    have hB1 := Lib.hid (below_thru hb0 hb1)
    clear t0 t1 t2
    go_wp2_with fail
    go_at_call 35
    refine (snp_start 2 (by omega) _).mono ?_
    rintro e w2 ⟨bw, A2, n2, c2, T2, e2, rfl, hX2, hbw, hb2⟩
    have hz0 := hb0.size
    have hz1 := hb1.size
    have hB2 := Lib.hid (below_thru (below_thru hb1 hb2) (Below.refl _ _))
    have hBw2 := Lib.hid (below_thru hB1.out hb2)
    have hbt2 := hbt.of hB2.out
    have hH2 := Lib.hid (hH0.out.of hB2.out)
    have hN2 := Lib.hid (hN0.out.of hB2.out)
    have ⟨_, t0, t1, t2⟩ := hbt2
    have kW := snp_wr1 hX2 [.fix k 3, .gam n] 2 rfl (by omega) (ok_two (ok_three hk7) (ok_gam (by omega))) _ rfl
    have hS2 := Lib.hid hX2.s
    have hwb : w0.heap.size ≤ bw := by omega
    clear hX2 hb1 hb2 hH2 hN2
    go_wp2_with fail
    go_at_call 51
    refine kW.mono ?_
    rintro e w3 ⟨A3, n3, c3, T3, e3, rfl, hX3, hK3⟩
    clear kW t0 t1 t2
    have hB3 := hB2.out.trans (hK3.below hS2.out hwb)
    have ⟨_, t0, t1, t2⟩ := hbt.of hB3
    rw [← hX1.out] at hX3
    replace hX3 := Lib.hid hX3
    replace hB3 := Lib.hid hB3
    clear hK3 hS2 hB2 hbt2 hz1 hBw2 hB1 hX1
    go_wp2_with fail
    clear t0 t1 t2
    go_loopw [30] (fun i wr => ∃ (j : Nat) (A4 : Option Addr) (n4 c4 : Nat) (T4 : List Bool) (e4 : Int), i = .int .i64 j ∧ j ≤ n ∧ WrX wr bw A4 n4 c4 (X1 ++ (H.take j).flatMap pt3B) T4 e4 ∧ Below w0.heap.size w0 wr) (fun i _ => n - (intOf i).toNat)
    case atStart => exact ⟨0, A3, n3, c3, T3, e3, rfl, by omega, by simpa using hX3.out, hB3.out⟩
    case round =>
      clear hX3 hB3
      obtain ⟨j, A4, n4, c4, T4, e4, rfl, hj, hX4, hB4⟩ := hrel
      have hz4 := hB4.size
      by_cases hlt : j < n
      · have dj : decide ((j : Int) < n) = true := decide_eq_true (by omega)
        have dj' : decide (j < n) = true := decide_eq_true hlt
        obtain ⟨x, y, bo, o, hx, rfl, hbo, cx, cy⟩ := hH0.out.pt hlt
        have hd := bd3.out _ (List.mem_of_getElem? hx.out)
        simp only at hd
        obtain ⟨a, ha⟩ : ∃ a : Nat, (a : Int) = x + 2 := ⟨(x + 2).toNat, by omega⟩
        obtain ⟨b, hb⟩ : ∃ b : Nat, (b : Int) = y + 2 := ⟨(y + 2).toNat, by omega⟩
        have w0' : IntKind.i64.wrap (x + 2) = (a : Int) := by rw [IntWalk.i64_in _ (by omega)]; exact ha.symm
        have w1' : IntKind.i64.wrap (y + 2) = (b : Int) := by rw [IntWalk.i64_in _ (by omega)]; exact hb.symm
        have hst := Lib.hid (show X1 ++ (H.take (j + 1)).flatMap pt3B = X1 ++ (H.take j).flatMap pt3B ++ ptsB [.fix a 3, .fix b 3] by rw [flat_step pt3B hx.out, pt_bits ha hb, List.append_assoc])
        have cx' := (hB4.cell (p := ⟨bo, o + j * 2, none⟩) hbo).trans cx
        have cy' := (hB4.cell (p := ⟨bo, o + j * 2 + 1, none⟩) hbo).trans cy
        have kW := snp_wr2 hX4 (.cells #[.int .i64 x, .int .i64 y] 66) [.fix a 3, .fix b 3] 2 rfl (by omega) (ok_two (ok_three (by omega)) (ok_three (by omega))) _ rfl
        have hal : Below w0.heap.size w0 (wr.alloc (.cells #[.int .i64 x, .int .i64 y] 66)) := hB4.alloc hz4 _
        have hS4 := Lib.hid (hX4.s.of (show Below wr.heap.size wr (wr.alloc (.cells #[.int .i64 x, .int .i64 y] 66)) from (Below.refl _ _).alloc (Nat.le_refl _) _))
        clear ha hb hd hX4 cx cy
        go_wp2_with fail
        go_at_call 51
        refine kW.mono ?_
        rintro e w5 ⟨A5, n5, c5, T5, e5, rfl, hX5, hK5⟩
        have hB5 := Lib.hid (hal.trans (hK5.below hS4.out hwb))
        replace hX5 := Lib.hid hX5
        clear kW hK5 cx' cy' hal
        go_wp2_with fail
        go_roundw
        case rel => exact ⟨j + 1, A5, n5, c5, T5, e5, by go_num, by omega, by rw [hst.out]; exact hX5.out, hB5.out⟩
        case measure => simp [intOf]; omega
      · obtain rfl : j = n := by omega
        have dj : decide ((j : Int) < j) = false := decide_eq_false (by omega)
        have dj' : decide (j < j) = false := decide_eq_false (by omega)
        have ⟨_, t0, t1, t2⟩ := hbt.of hB4
        have kW := snp_wr1 hX4 [.gam m] 1 rfl (by omega) (ok_one (ok_gam (by omega))) _ rfl
        have hS4 := Lib.hid hX4.s
        rw [flat_all pt3B hHl.out] at kW
        replace hB4 := Lib.hid hB4
        clear hX4
        go_wp2_with fail
        go_at_call 51
        refine kW.mono ?_
        rintro e w6 ⟨A6, n6, c6, T6, e6, rfl, hX6, hK6⟩
        clear kW t0 t1 t2
        have hB6 := hB4.out.trans (hK6.below hS4.out hwb)
        have ⟨_, t0, t1, t2⟩ := hbt.of hB6
        rw [← hX2'.out] at hX6
        replace hX6 := Lib.hid hX6
        replace hB6 := Lib.hid hB6
        clear hK6 hS4 hB4
        go_wp2_with fail
        clear t0 t1 t2
        go_loopw [58] (fun i wr => ∃ (j : Nat) (A4 : Option Addr) (n4 c4 : Nat) (T4 : List Bool) (e4 : Int), i = .int .i64 j ∧ j ≤ m ∧ WrX wr bw A4 n4 c4 (X2 ++ (N.take j).flatMap ndB) T4 e4 ∧ Below w0.heap.size w0 wr) (fun i _ => m - (intOf i).toNat)
        case atStart => exact ⟨0, A6, n6, c6, T6, e6, rfl, by omega, by simpa using hX6.out, hB6.out⟩
        case round =>
          clear hX6 hB6 hz4
          obtain ⟨q, A4, n4, c4, T4, e4, rfl, hq, hX4, hB4⟩ := hrel
          have hz4 := hB4.size
          by_cases hltq : q < m
          · have dq : decide ((q : Int) < m) = true := decide_eq_true (by omega)
            have dq' : decide (q < m) = true := decide_eq_true hltq
            obtain ⟨lv, nx, E, me, ce, bo, o, hx, rfl, hbo, cx, cy, hNx, hce⟩ := hN0.out.node hltq
            obtain ⟨⟨hl1, hl2⟩, hl3, hl4⟩ := bd5.out _ (List.mem_of_getElem? hx.out)
            simp only at hl1 hl2 hl3 hl4
            replace hl4 := Lib.hid hl4
            have hme : me ≤ 8 := by have := hNx.len; omega
            obtain ⟨lw, rfl⟩ : ∃ lw : Nat, lv = (lw : Int) := ⟨lv.toNat, by omega⟩
            have cx' := (hB4.cell (p := ⟨bo, o + q * 2, none⟩) hbo).trans cx
            have cy' := (hB4.cell (p := ⟨bo, o + q * 2 + 1, none⟩) hbo).trans cy
            have hst := Lib.hid (show X2 ++ (N.take (q + 1)).flatMap ndB = X2 ++ (N.take q).flatMap ndB ++ ptsB [.gam lw] ++ nx.flatMap (fun n => gamB n.toNat) by rw [flat_step ndB hx.out, nd_bits]; simp only [List.append_assoc])
            have kW := snp_wr2 hX4 (.cells #[.int .i64 (lw : Int), .slice E me ce] 93) [.gam lw] 1 rfl (by omega) (ok_one (ok_gam (by omega))) _ rfl
            have hal : Below w0.heap.size w0 (wr.alloc (.cells #[.int .i64 (lw : Int), .slice E me ce] 93)) := hB4.alloc hz4 _
            have hal2 : Below wr.heap.size wr (wr.alloc (.cells #[.int .i64 (lw : Int), .slice E me ce] 93)) := (Below.refl _ _).alloc (Nat.le_refl _) _
            have hS4 := Lib.hid (hX4.s.of hal2)
            have hbn := BxW.new wr [.int .i64 (lw : Int), .slice E me ce] 93
            rw [show ∀ a b : Value, [a, b].toArray = #[a, b] from fun _ _ => rfl] at hbn
            have hnw := hX4.new (Nat.le_refl wr.heap.size)
            have hNh := Lib.hid hNx
            have hnl := Lib.hid hNx.len
            clear hX4 cx cy hl3 hce hNx hx
            go_wp2_with fail
            go_at_call 51
            refine kW.mono ?_
            rintro e w5 ⟨A5, n5, c5, T5, e5, rfl, hX5, hK5⟩
            have hB5 := Lib.hid (hal.trans (hK5.below hS4.out hwb))
            have hbn5 := (hK5.box hbn hnw.1 hnw.2).1
            replace hX5 := Lib.hid hX5
            obtain ⟨_, p0, p1, -, -⟩ := hbn5.open2
            clear kW hK5 cx' cy' hal hal2 hbn hbn5 hnw
            obtain ⟨X3, hX3⟩ : ∃ X3, X3 = X2 ++ (N.take q).flatMap ndB ++ ptsB [.gam lw] := ⟨_, rfl⟩
            rw [← hX3] at hX5 hst
            clear hX3
            go_wp2_with fail
            clear p0 p1
            go_loopw [71] (fun i wq => ∃ (r : Nat) (A7 : Option Addr) (n7 c7 : Nat) (T7 : List Bool) (e7 : Int), i = .int .i64 r ∧ r ≤ me ∧ WrX wq bw A7 n7 c7 (X3 ++ (nx.take r).flatMap (fun n => gamB n.toNat)) T7 e7 ∧ Below w0.heap.size w0 wq) (fun i _ => me - (intOf i).toNat)
            case atStart => exact ⟨0, A5, n5, c5, T5, e5, rfl, by omega, by simpa using hX5.out, hB5.out⟩
            case round =>
              clear hX5 hB5
              rename_i wq
              obtain ⟨r, A7, n7, c7, T7, e7, rfl, hr, hX7, hB7⟩ := hrel
              by_cases hltr : r < me
              · have dr : decide ((r : Int) < me) = true := decide_eq_true (by omega)
                have dr' : decide (r < me) = true := decide_eq_true hltr
                obtain ⟨kk, b2, o2, hk2, rfl, hb2, ck⟩ := hNh.out.int hltr
                have hk3 := hl4.out kk (List.mem_of_getElem? hk2.out)
                obtain ⟨kn, rfl⟩ : ∃ kn : Nat, kk = (kn : Int) := ⟨kk.toNat, by omega⟩
                have ck' := (hB7.cell (p := ⟨b2, o2 + r, none⟩) hb2).trans ck
                have hst2 := Lib.hid (show X3 ++ (nx.take (r + 1)).flatMap (fun n => gamB n.toNat) = X3 ++ (nx.take r).flatMap (fun n => gamB n.toNat) ++ ptsB [.gam kn] by rw [flat_step _ hk2.out, ptsB_one, List.append_assoc]; simp only [Int.toNat_natCast]; rfl)
                have kW := snp_wr1 hX7 [.gam kn] 1 rfl (by omega) (ok_one (ok_gam (by omega))) _ rfl
                have hS7 := Lib.hid hX7.s
                replace hB7 := Lib.hid hB7
                clear hX7 ck hk3
                go_wp2_with fail
                go_at_call 51
                refine kW.mono ?_
                rintro e w8 ⟨A8, n8, c8, T8, e8, rfl, hX8, hK8⟩
                have hB8 := Lib.hid (hB7.out.trans (hK8.below hS7.out hwb))
                replace hX8 := Lib.hid hX8
                clear kW hK8 ck'
                go_wp2_with fail
                go_roundw
                case rel => exact ⟨r + 1, A8, n8, c8, T8, e8, by go_num, by omega, by rw [hst2.out]; exact hX8.out, hB8.out⟩
                case measure => simp [intOf]; omega
              · obtain rfl : r = me := by omega
                have dr : decide ((r : Int) < r) = false := decide_eq_false (by omega)
                have dr' : decide (r < r) = false := decide_eq_false (by omega)
                rw [flat_all _ hnl.out, ← hst.out] at hX7
                replace hX7 := Lib.hid hX7
                replace hB7 := Lib.hid hB7
                go_wp2_with fail
                go_roundw
                case rel => exact ⟨q + 1, A7, n7, c7, T7, e7, by go_num, by omega, hX7.out, hB7.out⟩
                case measure => simp [intOf]; omega
          · obtain rfl : q = m := by omega
            have dq : decide ((q : Int) < q) = false := decide_eq_false (by omega)
            have dq' : decide (q < q) = false := decide_eq_false (by omega)
            rw [flat_all ndB hNl.out] at hX4
            replace hX4 := Lib.hid hX4
            replace hB4 := Lib.hid hB4
            go_wp2_with fail
            go_at_call 37
            refine (snp_end bw A4 n4 c4 _ T4 e4 _ hX4.out).mono ?_
            rintro e w9 ⟨A9, n9, c9, rfl, hR9, hb9⟩
            have hB9 := Lib.hid (below_thru hb0 (below_thru hB4.out hb9))
            replace hR9 := Lib.hid hR9
            go_wp2_with fail
            refine bodyPost_ret (v := .tuple #[.slice A9 n9 c9, .int .i64 (endE (X2 ++ N.flatMap ndB))]) (by simp [results, Tryz.results17, go_sem, *, ↓IntWalk.iteOmega]) rfl ?_
            exact ⟨A9, n9, c9, rfl, hR9.out, hB9.out⟩
end Go.Proofs.YtmenokhnanghgaaGreat
