/- The form of a store. By mksnpx.py. -/
import Derived.Test.YtmenokhnanghgaaGreatSnp6
import Derived.Test.YtmenokhnanghgaaGreatQUR
namespace Go.Proofs.YtmenokhnanghgaaGreat
open Go Go.RowKit
set_option linter.unusedSimpArgs false
set_option linter.unusedVariables false
set_option maxRecDepth 100000
set_option linter.unusedSimpArgs false
set_option linter.unusedVariables false
def fqE (st : Int) (Q : List Qd) : Int := if qR st Q = true then endE (qdsB st Q) else 2
def fqL (st : Int) (Q : List Qd) : List Int := if qR st Q = true then endL (qdsB st Q) else []
theorem fq_bad {st : Int} {Q : List Qd} (h : qR st Q = false) : fqE st Q = 2 ∧ fqL st Q = [] := by unfold fqE fqL; rw [h]; exact ⟨rfl, rfl⟩
theorem fq_ok {st : Int} {Q : List Qd} (h : qR st Q = true) : fqE st Q = endE (qdsB st Q) ∧ fqL st Q = endL (qdsB st Q) := by unfold fqE fqL; rw [h]; exact ⟨rfl, rfl⟩
theorem qds_bits (k : Nat) (st : Int) (Q : List Qd) (hs : (st - 1).toNat = k) : hdB 3 ++ ptsB [.fix k 3, .gam Q.length] ++ Q.flatMap qdB = qdsB st Q := by
  rw [ptsB_two]
  unfold qdsB
  rw [hs]
  simp only [List.append_assoc]
  rfl
/-- The first r codes of a node. -/
def qdT (a b c d : Nat) : Nat → List Bool
  | 0 => []
  | 1 => gamB a
  | 2 => gamB a ++ gamB b
  | 3 => gamB a ++ gamB b ++ gamB c
  | _ => gamB a ++ gamB b ++ gamB c ++ gamB d
set_option maxHeartbeats 32000000 in
theorem snp_Quads (st : Int) (A : Option Addr) (n c : Nat) (Q : List Qd) (w : World) (hQ : Rd encQd 4 w A n Q) (hn : n ≤ 9223372036854775807) :
    Calls Tryz.prog 22 #[.agg #[.int .i64 st, .slice A n c]] w fun e w' => ∃ A' n' c', e = .returned (.tuple #[.slice A' n' c', .int .i64 (fqE st Q)]) ∧ Rd encU 1 w' A' n' (fqL st Q) ∧ Below w.heap.size w w' := by
  obtain ⟨w0, hw0⟩ : ∃ w0, w0 = w.alloc (.cells #[.int .i64 st, .slice A n c] 46) := ⟨_, rfl⟩
  have hb0 : Below w.heap.size w w0 := by rw [hw0]; exact (Below.refl _ _).alloc (Nat.le_refl _) _
  have hbt : BxW w0 w.heap.size [.int .i64 st, .slice A n c] := by rw [hw0]; exact BxW.new w [.int .i64 st, .slice A n c] _
  have hQ0 := Lib.hid (hQ.of hb0)
  have kR := fun w1 h => quad_Right st A n c Q w1 h hn
  have hQl := Lib.hid hQ.len
  cases hr : qR st Q with
  | false =>
    obtain ⟨h1, h2⟩ := fq_bad hr
    rw [hr] at kR
    rw [h1, h2]
    clear hr h1 h2 hQ
    obtain ⟨_, t0, t1, -, -⟩ := hbt.open2
    go_enter Tryz.func22, Tryz.ntmps22
    go_wp2_with fail
    rw [← hw0]
    clear hw0
    go_wp2_with fail; go_at_call 63; refine (kR _ hQ0.out).mono ?_; rintro e w1 ⟨rfl, hb1⟩; have hs1 := hb1.size; (try simp only [World.size_alloc, World.size_drew, World.size_setCell] at hs1)
    go_wp2_with fail
    refine bodyPost_ret (v := .tuple #[.slice none 0 0, .int .i64 2]) (by simp [results, Tryz.results22, go_sem, *, ↓IntWalk.iteOmega]) rfl ?_
    exact ⟨none, 0, 0, rfl, Rd.nil_, below_thru hb0 hb1⟩
  | true =>
    obtain ⟨h1, h2⟩ := fq_ok hr
    rw [hr] at kR
    rw [h1, h2]
    obtain ⟨bd1, bd2, -⟩ := qR_parts hr
    have hkid := Lib.hid (fun i x (hx : Q[i]? = some x) => qR_kids hr hx)
    have hn5 : n ≤ 100000 := by rw [← hQl.out]; exact bd2
    clear hr h1 h2 hQ bd2
    obtain ⟨k, hk⟩ : ∃ k : Nat, (k : Int) = st - 1 := ⟨(st - 1).toNat, by omega⟩
    have hks : (st - 1).toNat = k := by omega
    have hbits := Lib.hid (qds_bits k st Q hks)
    have hk7 : k ≤ 7 := by omega
    have e0 : IntKind.i64.wrap (st - 1) = (k : Int) := by rw [IntWalk.i64_in _ (by omega)]; exact hk.symm
    replace hk := Lib.hid hk
    clear hks
    rw [← hbits.out, hQl.out]
    clear hbits
    obtain ⟨X1, hX1⟩ : ∃ X1, X1 = hdB 3 ++ ptsB [.fix k 3, .gam n] := ⟨_, rfl⟩
    rw [← hX1]
    replace hX1 := Lib.hid hX1
    obtain ⟨_, t0, t1, -, -⟩ := hbt.open2
    go_enter Tryz.func22, Tryz.ntmps22
    go_wp2_with fail
    rw [← hw0]
    clear hw0
    have hB0 := Lib.hid hb0
    go_wp2_with fail; go_at_call 63; refine (kR _ hQ0.out).mono ?_; rintro e w1 ⟨rfl, hb1⟩; have hs1 := hb1.size; (try simp only [World.size_alloc, World.size_drew, World.size_setCell] at hs1)
    clear t0 t1
    go_wp2_with fail
    go_at_call 35
    refine (snp_start 3 (by omega) _).mono ?_
    rintro e w2 ⟨bw, A2, n2, c2, T2, e2, rfl, hX2, hbw, hb2⟩
    have hz0 := hb0.size
    have hz1 := hb1.size
    have hB2 := Lib.hid (below_thru (below_thru hb1 hb2) (Below.refl _ _))
    have hbt2 := hbt.of hB2.out
    obtain ⟨_, t0, t1, -, -⟩ := hbt2.open2
    have kW := snp_wr1 hX2 [.fix k 3, .gam n] 2 rfl (by omega) (ok_two (ok_three hk7) (ok_gam (by omega))) _ rfl
    have hS2 := Lib.hid hX2.s
    have hwb : w0.heap.size ≤ bw := by omega
    clear hX2 hb1 hb2
    go_wp2_with fail
    go_at_call 51
    refine kW.mono ?_
    rintro e w3 ⟨A3, n3, c3, T3, e3, rfl, hX3, hK3⟩
    clear kW t0 t1
    have hB3 := hB2.out.trans (hK3.below hS2.out hwb)
    obtain ⟨_, t0, t1, -, -⟩ := (hbt.of hB3).open2
    rw [← hX1.out] at hX3
    replace hX3 := Lib.hid hX3
    replace hB3 := Lib.hid hB3
    clear hK3 hS2 hB2 hbt2 hz1 hX1
    go_wp2_with fail
    clear t0 t1
    go_loopw [28] (fun i wr => ∃ (j : Nat) (A4 : Option Addr) (n4 c4 : Nat) (T4 : List Bool) (e4 : Int), i = .int .i64 j ∧ j ≤ n ∧ WrX wr bw A4 n4 c4 (X1 ++ (Q.take j).flatMap qdB) T4 e4 ∧ Below w0.heap.size w0 wr) (fun i _ => n - (intOf i).toNat)
    case atStart => exact ⟨0, A3, n3, c3, T3, e3, rfl, by omega, by simpa using hX3.out, hB3.out⟩
    case round =>
      clear hX3 hB3
      obtain ⟨j, A4, n4, c4, T4, e4, rfl, hj, hX4, hB4⟩ := hrel
      have hz4 := hB4.size
      by_cases hlt : j < n
      · have dj : decide ((j : Int) < n) = true := decide_eq_true (by omega)
        have dj' : decide (j < n) = true := decide_eq_true hlt
        obtain ⟨x0, x1, x2, x3, bo, o, hx, rfl, hbo, cx0, cx1, cx2, cx3⟩ := hQ0.out.qd hlt
        obtain ⟨g0, g1, g2, g3⟩ := hkid.out j _ hx.out
        simp only at g0 g1 g2 g3
        obtain ⟨a, rfl⟩ : ∃ a : Nat, x0 = (a : Int) := ⟨x0.toNat, by omega⟩
        obtain ⟨b, rfl⟩ : ∃ b : Nat, x1 = (b : Int) := ⟨x1.toNat, by omega⟩
        obtain ⟨d, rfl⟩ : ∃ d : Nat, x2 = (d : Int) := ⟨x2.toNat, by omega⟩
        obtain ⟨e9, rfl⟩ : ∃ e9 : Nat, x3 = (e9 : Int) := ⟨x3.toNat, by omega⟩
        have ha : a ≤ 200000 := by omega
        have hb : b ≤ 200000 := by omega
        have hd : d ≤ 200000 := by omega
        have he9 : e9 ≤ 200000 := by omega
        have hst := Lib.hid (show X1 ++ (Q.take (j + 1)).flatMap qdB = X1 ++ (Q.take j).flatMap qdB ++ qdT a b d e9 4 by rw [flat_step qdB hx.out, List.append_assoc]; simp [qdB, qdT, List.append_assoc])
        have d0 := (hB4.cell (p := ⟨bo, o + j * 4, none⟩) hbo).trans cx0
        have d1 := (hB4.cell (p := ⟨bo, o + j * 4 + 1, none⟩) hbo).trans cx1
        have d2 := (hB4.cell (p := ⟨bo, o + j * 4 + 2, none⟩) hbo).trans cx2
        have d3 := (hB4.cell (p := ⟨bo, o + j * 4 + 3, none⟩) hbo).trans cx3
        obtain ⟨W, hW⟩ : ∃ W, W = wr.alloc (.cells #[.int .i64 (a : Int), .int .i64 (b : Int), .int .i64 (d : Int), .int .i64 (e9 : Int)] 69) := ⟨_, rfl⟩
        have hbW : Below wr.heap.size wr W := by rw [hW]; exact (Below.refl _ _).alloc (Nat.le_refl _) _
        have hxW : BxW W wr.heap.size [.int .i64 (a : Int), .int .i64 (b : Int), .int .i64 (d : Int), .int .i64 (e9 : Int)] := by rw [hW]; exact BxW.new wr [_, _, _, _] _
        obtain ⟨hxz, y0, y1, y2, y3⟩ : wr.heap.size < W.heap.size ∧ W.cell? ⟨wr.heap.size, 0, none⟩ = some (.int .i64 (a : Int)) ∧ W.cell? ⟨wr.heap.size, 1, none⟩ = some (.int .i64 (b : Int)) ∧ W.cell? ⟨wr.heap.size, 2, none⟩ = some (.int .i64 (d : Int)) ∧ W.cell? ⟨wr.heap.size, 3, none⟩ = some (.int .i64 (e9 : Int)) := ⟨hxW.1, hxW.2.1 0, hxW.2.1 1, hxW.2.1 2, hxW.2.1 3⟩
        have hXW := Lib.hid (hX4.of hbW)
        have hBW := Lib.hid (hB4.trans (hbW.mono hz4))
        clear hX4 hbW hxW cx0 cx1 cx2 cx3 g0 g1 g2 g3
        go_upto_region 8 with (fail)
        rw [← hW]
        clear hW d0 d1 d2 d3
        go_upto_region 9 with (fail)
        clear y0 y1 y2 y3 hxz
        go_loopw [34] (fun i wq => ∃ (r : Nat) (A7 : Option Addr) (n7 c7 : Nat) (T7 : List Bool) (e7 : Int), i = .int .i64 r ∧ r ≤ 4 ∧ WrX wq bw A7 n7 c7 (X1 ++ (Q.take j).flatMap qdB ++ qdT a b d e9 r) T7 e7 ∧ Below w0.heap.size w0 wq) (fun i _ => 4 - (intOf i).toNat)
        case atStart => exact ⟨0, A4, n4, c4, T4, e4, rfl, by omega, by simpa [qdT] using hXW.out, hBW.out⟩
        case round =>
          clear hXW hBW
          rename_i wq
          obtain ⟨r, A7, n7, c7, T7, e7, rfl, hr, hX7, hB7⟩ := hrel
          have hcase : r = 0 ∨ r = 1 ∨ r = 2 ∨ r = 3 ∨ r = 4 := by omega
          rcases hcase with rfl | rfl | rfl | rfl | rfl
          · have ii : ∀ w, (Instr.index 67 (.agg #[.int .i64 (a : Int), .int .i64 (b : Int), .int .i64 (d : Int), .int .i64 (e9 : Int)]) (.int .i64 0)).run Tryz.prog w = .ok (.int .i64 (a : Int)) w := fun _ => by kernel_rfl
            have kW := snp_wr1 hX7 [.gam a] 1 rfl (by omega) (ok_one (ok_gam (by omega))) _ rfl
            have hS7 := Lib.hid hX7.s
            have hB7h := Lib.hid hB7
            clear hX7 hB7
            go_wp2_with fail
            go_at_call 51
            refine kW.mono ?_
            rintro e w8 ⟨A8, n8, c8, T8, e8, rfl, hX8, hK8⟩
            have hB8 := Lib.hid (hB7h.out.trans (hK8.below hS7.out hwb))
            rw [show X1 ++ (Q.take j).flatMap qdB ++ qdT a b d e9 0 ++ ptsB [.gam a] = X1 ++ (Q.take j).flatMap qdB ++ qdT a b d e9 1 by rw [ptsB_one]; simp only [qdT, List.append_assoc, List.nil_append]; try rfl] at hX8
            replace hX8 := Lib.hid hX8
            clear kW hK8 hS7 hB7h
            go_wp2_with fail
            go_roundw
            case rel => exact ⟨1, A8, n8, c8, T8, e8, by go_num, by omega, hX8.out, hB8.out⟩
            case measure => simp [intOf]
          · have ii : ∀ w, (Instr.index 67 (.agg #[.int .i64 (a : Int), .int .i64 (b : Int), .int .i64 (d : Int), .int .i64 (e9 : Int)]) (.int .i64 1)).run Tryz.prog w = .ok (.int .i64 (b : Int)) w := fun _ => by kernel_rfl
            have kW := snp_wr1 hX7 [.gam b] 1 rfl (by omega) (ok_one (ok_gam (by omega))) _ rfl
            have hS7 := Lib.hid hX7.s
            have hB7h := Lib.hid hB7
            clear hX7 hB7
            go_wp2_with fail
            go_at_call 51
            refine kW.mono ?_
            rintro e w8 ⟨A8, n8, c8, T8, e8, rfl, hX8, hK8⟩
            have hB8 := Lib.hid (hB7h.out.trans (hK8.below hS7.out hwb))
            rw [show X1 ++ (Q.take j).flatMap qdB ++ qdT a b d e9 1 ++ ptsB [.gam b] = X1 ++ (Q.take j).flatMap qdB ++ qdT a b d e9 2 by rw [ptsB_one]; simp only [qdT, List.append_assoc, List.nil_append]; try rfl] at hX8
            replace hX8 := Lib.hid hX8
            clear kW hK8 hS7 hB7h
            go_wp2_with fail
            go_roundw
            case rel => exact ⟨2, A8, n8, c8, T8, e8, by go_num, by omega, hX8.out, hB8.out⟩
            case measure => simp [intOf]
          · have ii : ∀ w, (Instr.index 67 (.agg #[.int .i64 (a : Int), .int .i64 (b : Int), .int .i64 (d : Int), .int .i64 (e9 : Int)]) (.int .i64 2)).run Tryz.prog w = .ok (.int .i64 (d : Int)) w := fun _ => by kernel_rfl
            have kW := snp_wr1 hX7 [.gam d] 1 rfl (by omega) (ok_one (ok_gam (by omega))) _ rfl
            have hS7 := Lib.hid hX7.s
            have hB7h := Lib.hid hB7
            clear hX7 hB7
            go_wp2_with fail
            go_at_call 51
            refine kW.mono ?_
            rintro e w8 ⟨A8, n8, c8, T8, e8, rfl, hX8, hK8⟩
            have hB8 := Lib.hid (hB7h.out.trans (hK8.below hS7.out hwb))
            rw [show X1 ++ (Q.take j).flatMap qdB ++ qdT a b d e9 2 ++ ptsB [.gam d] = X1 ++ (Q.take j).flatMap qdB ++ qdT a b d e9 3 by rw [ptsB_one]; simp only [qdT, List.append_assoc, List.nil_append]; try rfl] at hX8
            replace hX8 := Lib.hid hX8
            clear kW hK8 hS7 hB7h
            go_wp2_with fail
            go_roundw
            case rel => exact ⟨3, A8, n8, c8, T8, e8, by go_num, by omega, hX8.out, hB8.out⟩
            case measure => simp [intOf]
          · have ii : ∀ w, (Instr.index 67 (.agg #[.int .i64 (a : Int), .int .i64 (b : Int), .int .i64 (d : Int), .int .i64 (e9 : Int)]) (.int .i64 3)).run Tryz.prog w = .ok (.int .i64 (e9 : Int)) w := fun _ => by kernel_rfl
            have kW := snp_wr1 hX7 [.gam e9] 1 rfl (by omega) (ok_one (ok_gam (by omega))) _ rfl
            have hS7 := Lib.hid hX7.s
            have hB7h := Lib.hid hB7
            clear hX7 hB7
            go_wp2_with fail
            go_at_call 51
            refine kW.mono ?_
            rintro e w8 ⟨A8, n8, c8, T8, e8, rfl, hX8, hK8⟩
            have hB8 := Lib.hid (hB7h.out.trans (hK8.below hS7.out hwb))
            rw [show X1 ++ (Q.take j).flatMap qdB ++ qdT a b d e9 3 ++ ptsB [.gam e9] = X1 ++ (Q.take j).flatMap qdB ++ qdT a b d e9 4 by rw [ptsB_one]; simp only [qdT, List.append_assoc, List.nil_append]; try rfl] at hX8
            replace hX8 := Lib.hid hX8
            clear kW hK8 hS7 hB7h
            go_wp2_with fail
            go_roundw
            case rel => exact ⟨4, A8, n8, c8, T8, e8, by go_num, by omega, hX8.out, hB8.out⟩
            case measure => simp [intOf]
          · rw [← hst.out] at hX7
            replace hX7 := Lib.hid hX7
            replace hB7 := Lib.hid hB7
            go_wp2_with fail
            go_roundw
            case rel => exact ⟨j + 1, A7, n7, c7, T7, e7, by go_num, by omega, hX7.out, hB7.out⟩
            case measure => simp [intOf]; omega
      · obtain rfl : j = n := by omega
        have dj : decide ((j : Int) < j) = false := decide_eq_false (by omega)
        have dj' : decide (j < j) = false := decide_eq_false (by omega)
        rw [flat_all qdB hQl.out] at hX4
        have hE := snp_end bw A4 n4 c4 _ T4 e4 wr hX4
        have hB4h := Lib.hid (hB0.out.trans (hB4.mono hb0.size))
        obtain ⟨_, t0, t1, -, -⟩ := (hbt.of hB4).open2
        clear hX4
        go_wp2_with fail
        go_at_call 37
        refine hE.mono ?_
        rintro e w8 ⟨A8, n8, c8, rfl, hR8, hb8⟩
        have hB8 := Lib.hid (below_thru hB4h.out hb8)
        replace hR8 := Lib.hid hR8
        clear hE
        go_wp2_with fail
        refine bodyPost_ret (v := .tuple #[.slice A8 n8 c8, .int .i64 (endE (X1 ++ Q.flatMap qdB))]) (by simp [results, Tryz.results22, go_sem, *, ↓IntWalk.iteOmega]) rfl ?_
        exact ⟨A8, n8, c8, rfl, hR8.out, hB8.out⟩
end Go.Proofs.YtmenokhnanghgaaGreat
