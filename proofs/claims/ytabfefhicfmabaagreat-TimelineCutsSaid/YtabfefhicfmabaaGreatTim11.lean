/- Cut, the reference's. By mktim10.py. -/
import Derived.Test.YtabfefhicfmabaaGreatTMT
import Derived.Test.YtabfefhicfmabaaGreatTim2
namespace Go.Proofs.YtabfefhicfmabaaGreat
open Go Go.RowKit
set_option linter.unusedSimpArgs false
set_option linter.unusedVariables false
set_option maxRecDepth 100000
set_option linter.unusedSimpArgs false
set_option linter.unusedVariables false
set_option maxHeartbeats 8000000 in
theorem ref54_Cut (key : Int) (A : Option Addr) (n c : Nat) (fs : List TFr) (a b : Int) (w : World) (hF : RdX ekFr w A n fs) (hsm : SmT fs) (hc : n ≤ c) :
    Calls Tryz.prog 31 #[.agg #[.int .i64 key, .slice A n c], .int .i64 a, .int .i64 b] w fun e w' => ∃ B' m' d', e = .returned (.tuple #[.agg #[.int .i64 (cuK key fs a b), .slice B' m' d'], .int .i64 (cuE key fs a b)]) ∧ RdX ekFr w' B' m' (cuL key fs a b) ∧ m' ≤ d' ∧ Below w.heap.size w w' := by
  have kP := fun w1 h => ref54_Patterns key A n c fs w1 h hsm
  have hFl := Lib.hid hF.len
  cases hv : tlB key fs with
  | false =>
    have HE := Lib.hid (cu_no (q := 2) (show cuE key fs a b = 2 by unfold cuE; rw [if_neg (by rw [hv]; simp)]) (by omega))
    rw [hv] at kP
    clear hv
    go_enter Tryz.func31, Tryz.ntmps31
    go_wp2_with fail
    obtain ⟨we, hwe, hxb, hrb, hB, hsw⟩ := two_boxesT w key A n c 34 34
    rw [← hwe]
    clear hwe
    obtain ⟨xb, hxe⟩ : ∃ xb, xb = w.heap.size := ⟨_, rfl⟩
    obtain ⟨rb, hre⟩ : ∃ rb, rb = w.heap.size + 1 := ⟨_, rfl⟩
    rw [← hxe] at hxb
    rw [← hre] at hrb
    rw [← hre, ← hxe]
    have hrg : w.heap.size ≤ rb := by omega
    have hxr : xb ≠ rb := by omega
    clear hre hxe
    replace hF := hF.of hB
    have ⟨_, x0, x1, fx0, fx1⟩ := hxb.open2
    go_wp2_with fail
    go_at_call 74
    refine (kP _ hF).mono ?_
    rintro e1 w1 ⟨A1, m1, d1, rfl, hO, hb1⟩
    clear x0 x1 fx0 fx1
    replace hF := hF.of hb1
    replace hxb := hxb.of hb1
    replace hrb := hrb.of hb1
    have hs1 := hb1.size
    replace hB := below_thru hB hb1
    clear hb1
    have ⟨_, x0, x1, fx0, fx1⟩ := hxb.open2
    have ⟨_, r0, r1, fr0, fr1⟩ := hrb.open2
    go_wp2_with fail
    refine bodyPost_ret (v := .tuple #[.agg #[.int .i64 0, .slice none 0 0], .int .i64 2]) (by simp [results, Tryz.results31, go_sem, *, ↓IntWalk.iteOmega]) rfl ?_
    exact ⟨none, 0, 0, ret_tle HE.out.2.2.symm HE.out.1.symm, by rw [HE.out.2.1]; exact RdX.nil_, by omega, (hB.setCell hrg _).setCell hrg _⟩
  | true =>
    obtain ⟨K, rfl, hK1, hK2, hKn, hok⟩ := tlB_ok hv
    have hPl := Lib.hid (tlP_len hv)
    have hPr := Lib.hid (tlP_right hv)
    have hn1 : n ≤ 1000 := by rw [← hFl.out]; exact hKn
    by_cases hg : 0 ≤ a ∧ a ≤ b ∧ b < (n : Int)
    · obtain ⟨a, rfl⟩ : ∃ a' : Nat, a = a' := ⟨a.toNat, by omega⟩
      obtain ⟨b, rfl⟩ : ∃ b' : Nat, b = b' := ⟨b.toNat, by omega⟩
      have HE := Lib.hid (cu_yes (show cuE K fs a b = 0 by unfold cuE; rw [if_pos hv, if_pos (by rw [hFl.out]; exact hg)]))
      rw [hv] at kP
      have hab : a ≤ b := by omega
      have hbn : b < n := by omega
      clear hv hok hg
      have da : decide ((a : Int) < 0) = false := decide_eq_false (by omega)
      have db : decide ((b : Int) < a) = false := decide_eq_false (by omega)
      have db' : decide (b < a) = false := decide_eq_false (by omega)
      have dc : decide ((n : Int) ≤ b) = false := decide_eq_false (by omega)
      have dc' : decide (n ≤ b) = false := decide_eq_false (by omega)
      have hw1 : IntKind.i64.wrap ((b : Int) + 1) = ((b + 1 : Nat) : Int) := by rw [IntWalk.i64_in _ (by omega)]; omega
      go_enter Tryz.func31, Tryz.ntmps31
      go_wp2_with fail
      obtain ⟨we, hwe, hxb, hrb, hB, hsw⟩ := two_boxesT w (K : Int) A n c 34 34
      rw [← hwe]
      clear hwe
      obtain ⟨xb, hxe⟩ : ∃ xb, xb = w.heap.size := ⟨_, rfl⟩
      obtain ⟨rb, hre⟩ : ∃ rb, rb = w.heap.size + 1 := ⟨_, rfl⟩
      rw [← hxe] at hxb
      rw [← hre] at hrb
      rw [← hre, ← hxe]
      have hrg : w.heap.size ≤ rb := by omega
      have hxr : xb ≠ rb := by omega
      clear hre hxe
      replace hF := hF.of hB
      have ⟨_, x0, x1, fx0, fx1⟩ := hxb.open2
      go_wp2_with fail
      go_at_call 74
      refine (kP _ hF).mono ?_
      rintro e1 w1 ⟨A1, m1, d1, rfl, hO, hb1⟩
      clear x0 x1 fx0 fx1
      replace hF := hF.of hb1
      replace hxb := hxb.of hb1
      replace hrb := hrb.of hb1
      have hs1 := hb1.size
      replace hB := below_thru hB hb1
      clear hb1
      have ⟨_, x0, x1, fx0, fx1⟩ := hxb.open2
      have ⟨_, r0, r1, fr0, fr1⟩ := hrb.open2
      obtain rfl : n = m1 := by rw [← hO.len, hPl.out, hFl.out]
      have hd1 := hO.capX
      have hR := hO.rd
      obtain ⟨bo, oo, rfl⟩ : ∃ bo oo, A1 = some ⟨bo, oo, none⟩ := by
        obtain ⟨_, _, _, _, bo, oo, _, h, _⟩ := hR.pat (i := b) hbn
        exact ⟨bo, oo, h⟩
      obtain ⟨b1, hb1e⟩ : ∃ b1, b1 = b + 1 := ⟨_, rfl⟩
      rw [← hb1e] at hw1
      have hRs := hR.sub (i := a) (j := b1) (by omega) (by omega)
      rw [show oo + a * ekC.k = oo + a from by show oo + a * 1 = _; omega] at hRs
      have hi0 : (0 : Int) ≤ (a : Int) := by omega
      have hi1 : (a : Int) ≤ (b1 : Int) := by omega
      have hi2 : (b1 : Int) ≤ (d1 : Int) := by omega
      have hi3 : a ≤ b1 := by omega
      have hi4 : b1 ≤ d1 := by omega
      have hb1q := Lib.hid hb1e
      have hK := Lib.hid (And.intro hK1 hK2)
      have hpr := Lib.hid (fun p (h : p ∈ ((tlP K fs).take b1).drop a) => hPr.out p (List.mem_of_mem_take (List.mem_of_mem_drop h)))
      have hxl := hxb.1
      obtain ⟨fo, of, rfl⟩ : ∃ fo of, A = some ⟨fo, of, none⟩ := by
        obtain ⟨_, _, _, _, _, _, _, _, _, _, bo, oo, _, h, _⟩ := hF.frm (i := b) hbn
        exact ⟨bo, oo, h⟩
      have hFs := hF.sub (i := a) (j := b1) (by omega) (by omega)
      rw [show of + a * ekFr.k = of + a * 4 from rfl] at hFs
      have hi7 : b1 ≤ c := by omega
      have hi8 : (b1 : Int) ≤ (c : Int) := by omega
      have kG := fun (w2 : World) (h : Below w1.heap.size w1 w2) => ref54_gens (b1 - a) (c - a) (some ⟨fo, of + a * 4, none⟩) ((fs.take b1).drop a) w2 (hFs.of h) (by omega)
      have kM := fun (G3 : Option Addr) (g3 : Nat) (w2 : World) (h1 : Rd encI 1 w2 G3 (b1 - a) (gnL ((fs.take b1).drop a))) (h : Below w1.heap.size w1 w2) => ref54_build K (b1 - a) g3 (b1 - a) (d1 - a) G3 (some ⟨bo, oo + a, none⟩) (gnL ((fs.take b1).drop a)) (((tlP K fs).take b1).drop a) w2 hK.out h1 (hRs.of h) hpr.out (by omega) (Nat.le_refl _)
      have hda : ¬ d1 = a := by omega
      have hca : ¬ c = a := by omega
      clear hb1e hO hPl hRs hR hFs
      clear hn1
      go_wp2_with fail
      go_region_held3 (fun w' => FrG w1 rb w' ∧ w'.cell? ⟨xb, 0, none⟩ = some (.int .i64 (K : Int)) ∧ w'.cell? ⟨xb, 1, none⟩ = some (.slice (some ⟨fo, of, none⟩) n c))
        (((try go_split_ands); refine FrG.two ?_ hxl hxr x0 hxl hxr x1; with_reducible (first | assumption | exact FrG.drew (FrG.here _ _) | exact FrG.drew ‹_› | exact FrG.of ‹_› hb7 | exact FrG.of ‹_› hb8 | exact FrG.set (FrG.set ‹_› _ _) _ _ | exact FrG.set (FrG.set (FrG.of ‹_› hb8) _ _) _ _ | fail)))
        ((first | (go_at_call 78; (try go_split_ands); refine (kG _ (Below.refl _ _).drew).mono ?_; rintro e3 w3 ⟨G3, g3, rfl, hown3, hb7⟩) | (go_at_call 66; (try go_split_ands); refine (kM _ _ _ (hown3.rd encI_len) (below_thru (Below.refl _ _).drew hb7)).mono ?_; rintro e4 w4 ⟨B4, m4, d4, rfl, hO4, hb8⟩; have hrb4 := ((BxW.drew hrb).of hb7).of hb8; have ⟨_, r40, r41, f40, f41⟩ := hrb4.open2) | fail))
      have hrb5 := hrb4
      have hB4 : Below w.heap.size w w4 := below_thru (below_thru hB.drew hb7) hb8
      go_wp2_with fail
      refine bodyPost_ret (v := .tuple #[.agg #[.int .i64 (K : Int), .slice B4 m4 d4], .int .i64 0]) (by simp [results, Tryz.results31, go_sem, *, ↓IntWalk.iteOmega]) rfl ?_
      refine ⟨B4, m4, d4, ret_tle HE.out.2.2.symm HE.out.1.symm, ?_, hO4.capX, (hB4.setCell hrg _).setCell hrg _⟩
      rw [HE.out.2.1, ← hb1q.out]
      rw [gn_sub]
      exact hO4.rd.set2 hrb5 _ _
    · have HE := Lib.hid (cu_no (q := 13) (show cuE K fs a b = 13 by unfold cuE; rw [if_pos hv, if_neg (by rw [hFl.out]; exact hg)]) (by omega))
      rw [hv] at kP
      clear hv hok
      by_cases q0 : a < 0
      · have dq : decide (a < 0) = true := decide_eq_true q0
        clear hg q0
        go_enter Tryz.func31, Tryz.ntmps31
        go_wp2_with fail
        obtain ⟨we, hwe, hxb, hrb, hB, hsw⟩ := two_boxesT w (K : Int) A n c 34 34
        rw [← hwe]
        clear hwe
        obtain ⟨xb, hxe⟩ : ∃ xb, xb = w.heap.size := ⟨_, rfl⟩
        obtain ⟨rb, hre⟩ : ∃ rb, rb = w.heap.size + 1 := ⟨_, rfl⟩
        rw [← hxe] at hxb
        rw [← hre] at hrb
        rw [← hre, ← hxe]
        have hrg : w.heap.size ≤ rb := by omega
        have hxr : xb ≠ rb := by omega
        clear hre hxe
        replace hF := hF.of hB
        have ⟨_, x0, x1, fx0, fx1⟩ := hxb.open2
        go_wp2_with fail
        go_at_call 74
        refine (kP _ hF).mono ?_
        rintro e1 w1 ⟨A1, m1, d1, rfl, hO, hb1⟩
        clear x0 x1 fx0 fx1
        replace hF := hF.of hb1
        replace hxb := hxb.of hb1
        replace hrb := hrb.of hb1
        have hs1 := hb1.size
        replace hB := below_thru hB hb1
        clear hb1
        have ⟨_, x0, x1, fx0, fx1⟩ := hxb.open2
        have ⟨_, r0, r1, fr0, fr1⟩ := hrb.open2
        obtain rfl : n = m1 := by rw [← hO.len, hPl.out, hFl.out]
        clear hO hPl
        go_wp2_with fail
        refine bodyPost_ret (v := .tuple #[.agg #[.int .i64 0, .slice none 0 0], .int .i64 13]) (by simp [results, Tryz.results31, go_sem, *, ↓IntWalk.iteOmega]) rfl ?_
        exact ⟨none, 0, 0, ret_tle HE.out.2.2.symm HE.out.1.symm, by rw [HE.out.2.1]; exact RdX.nil_, by omega, (hB.setCell hrg _).setCell hrg _⟩
      · skip
        by_cases q1 : b < a
        · have dq : decide (b < a) = true := decide_eq_true q1
          have da : decide (a < 0) = false := decide_eq_false (by omega)
          clear hg q0 q1
          go_enter Tryz.func31, Tryz.ntmps31
          go_wp2_with fail
          obtain ⟨we, hwe, hxb, hrb, hB, hsw⟩ := two_boxesT w (K : Int) A n c 34 34
          rw [← hwe]
          clear hwe
          obtain ⟨xb, hxe⟩ : ∃ xb, xb = w.heap.size := ⟨_, rfl⟩
          obtain ⟨rb, hre⟩ : ∃ rb, rb = w.heap.size + 1 := ⟨_, rfl⟩
          rw [← hxe] at hxb
          rw [← hre] at hrb
          rw [← hre, ← hxe]
          have hrg : w.heap.size ≤ rb := by omega
          have hxr : xb ≠ rb := by omega
          clear hre hxe
          replace hF := hF.of hB
          have ⟨_, x0, x1, fx0, fx1⟩ := hxb.open2
          go_wp2_with fail
          go_at_call 74
          refine (kP _ hF).mono ?_
          rintro e1 w1 ⟨A1, m1, d1, rfl, hO, hb1⟩
          clear x0 x1 fx0 fx1
          replace hF := hF.of hb1
          replace hxb := hxb.of hb1
          replace hrb := hrb.of hb1
          have hs1 := hb1.size
          replace hB := below_thru hB hb1
          clear hb1
          have ⟨_, x0, x1, fx0, fx1⟩ := hxb.open2
          have ⟨_, r0, r1, fr0, fr1⟩ := hrb.open2
          obtain rfl : n = m1 := by rw [← hO.len, hPl.out, hFl.out]
          clear hO hPl
          go_wp2_with fail
          refine bodyPost_ret (v := .tuple #[.agg #[.int .i64 0, .slice none 0 0], .int .i64 13]) (by simp [results, Tryz.results31, go_sem, *, ↓IntWalk.iteOmega]) rfl ?_
          exact ⟨none, 0, 0, ret_tle HE.out.2.2.symm HE.out.1.symm, by rw [HE.out.2.1]; exact RdX.nil_, by omega, (hB.setCell hrg _).setCell hrg _⟩
        · have dq : decide ((n : Int) ≤ b) = true := decide_eq_true (by omega)
          have da : decide (a < 0) = false := decide_eq_false (by omega)
          have db : decide (b < a) = false := decide_eq_false (by omega)
          clear hg q0 q1
          go_enter Tryz.func31, Tryz.ntmps31
          go_wp2_with fail
          obtain ⟨we, hwe, hxb, hrb, hB, hsw⟩ := two_boxesT w (K : Int) A n c 34 34
          rw [← hwe]
          clear hwe
          obtain ⟨xb, hxe⟩ : ∃ xb, xb = w.heap.size := ⟨_, rfl⟩
          obtain ⟨rb, hre⟩ : ∃ rb, rb = w.heap.size + 1 := ⟨_, rfl⟩
          rw [← hxe] at hxb
          rw [← hre] at hrb
          rw [← hre, ← hxe]
          have hrg : w.heap.size ≤ rb := by omega
          have hxr : xb ≠ rb := by omega
          clear hre hxe
          replace hF := hF.of hB
          have ⟨_, x0, x1, fx0, fx1⟩ := hxb.open2
          go_wp2_with fail
          go_at_call 74
          refine (kP _ hF).mono ?_
          rintro e1 w1 ⟨A1, m1, d1, rfl, hO, hb1⟩
          clear x0 x1 fx0 fx1
          replace hF := hF.of hb1
          replace hxb := hxb.of hb1
          replace hrb := hrb.of hb1
          have hs1 := hb1.size
          replace hB := below_thru hB hb1
          clear hb1
          have ⟨_, x0, x1, fx0, fx1⟩ := hxb.open2
          have ⟨_, r0, r1, fr0, fr1⟩ := hrb.open2
          obtain rfl : n = m1 := by rw [← hO.len, hPl.out, hFl.out]
          clear hO hPl
          go_wp2_with fail
          refine bodyPost_ret (v := .tuple #[.agg #[.int .i64 0, .slice none 0 0], .int .i64 13]) (by simp [results, Tryz.results31, go_sem, *, ↓IntWalk.iteOmega]) rfl ?_
          exact ⟨none, 0, 0, ret_tle HE.out.2.2.symm HE.out.1.symm, by rw [HE.out.2.1]; exact RdX.nil_, by omega, (hB.setCell hrg _).setCell hrg _⟩
end Go.Proofs.YtabfefhicfmabaaGreat
