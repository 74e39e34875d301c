/- Cut, the program's. By mktim10.py. Append, the program's. By mktim12.py. -/
import Derived.Test.YtabfefhicfmabaaGreatTMF
import Derived.Test.YtabfefhicfmabaaGreatTim8
import Derived.Test.YtabfefhicfmabaaGreatTMC
import Derived.Test.YtabfefhicfmabaaGreatTim1
set_option linter.unusedSimpArgs false
set_option linter.unusedVariables false
section
namespace Go.Proofs.YtabfefhicfmabaaGreat
open Go Go.RowKit
set_option maxRecDepth 100000
def cuK (key : Int) (fs : List TFr) (a b : Int) : Int := if cuE key fs a b = 0 then key else 0
theorem cu_no {key a b q : Int} {fs : List TFr} (h : cuE key fs a b = q) (hq : q ≠ 0) : cuE key fs a b = q ∧ cuL key fs a b = [] ∧ cuK key fs a b = 0 := by
  refine ⟨h, ?_, ?_⟩
  · unfold cuL; rw [if_neg (by rw [h]; exact hq)]
  · unfold cuK; rw [if_neg (by rw [h]; exact hq)]
theorem cu_yes {K : Nat} {fs : List TFr} {a b : Nat} (h : cuE K fs a b = 0) : cuE K fs a b = 0 ∧ cuL K fs a b = bldL K (((gnL fs).take (b + 1)).drop a) (((tlP K fs).take (b + 1)).drop a) (b + 1 - a) ∧ cuK K fs a b = K := by
  refine ⟨h, ?_, ?_⟩
  · unfold cuL; rw [if_pos h]; simp
  · unfold cuK; rw [if_pos h]
theorem gn_sub {fs : List TFr} {i j : Nat} : ((gnL fs).take j).drop i = gnL ((fs.take j).drop i) := by unfold gnL; rw [← List.map_take, ← List.map_drop]
theorem gn_at {fs : List TFr} {a b i : Nat} (hi : i < b + 1 - a) (hb : b < fs.length) : (((gnL fs).take (b + 1)).drop a).getD i 0 = (gnL fs).getD (a + i) 0 := by
  rw [List.getD_eq_getElem?_getD, List.getD_eq_getElem?_getD, List.getElem?_drop, List.getElem?_take, if_pos (by omega)]
set_option maxHeartbeats 8000000 in
theorem tl_Cut (key : Int) (A : Option Addr) (n c : Nat) (fs : List TFr) (a b : Int) (w : World) (hF : RdX ekFr w A n fs) (hsm : SmT fs) (hc : n ≤ c) :
    Calls Tryz.prog 30 #[.agg #[.int .i64 key, .slice A n c], .int .i64 a, .int .i64 b] w fun e w' => ∃ B' m' d', e = .returned (.tuple #[.agg #[.int .i64 (cuK key fs a b), .slice B' m' d'], .int .i64 (cuE key fs a b)]) ∧ RdX ekFr w' B' m' (cuL key fs a b) ∧ m' ≤ d' ∧ Below w.heap.size w w' := by
  have kP := fun w1 h => tl_patterns key A n c fs w1 h hsm
  have hFl := Lib.hid hF.len
  cases hv : tlB key fs with
  | false =>
    have HE := Lib.hid (cu_no (q := 2) (show cuE key fs a b = 2 by unfold cuE; rw [if_neg (by rw [hv]; simp)]) (by omega))
    rw [hv] at kP
    clear hv
    go_enter Tryz.func30, Tryz.ntmps30
    go_wp2_with fail
    obtain ⟨we, hwe, hxb, hfb, hrb, hB, hsw⟩ := three_boxesC w key a A n c 34 3 34
    rw [← hwe]
    clear hwe
    obtain ⟨xb, hxe⟩ : ∃ xb, xb = w.heap.size := ⟨_, rfl⟩
    obtain ⟨fb, hfe⟩ : ∃ fb, fb = w.heap.size + 1 := ⟨_, rfl⟩
    obtain ⟨rb, hre⟩ : ∃ rb, rb = w.heap.size + 2 := ⟨_, rfl⟩
    rw [← hxe] at hxb
    rw [← hfe] at hfb
    rw [← hre] at hrb
    rw [← hre, ← hfe, ← hxe]
    have hrg : w.heap.size ≤ rb := by omega
    have hxr : xb ≠ rb := by omega
    have hfr : fb ≠ rb := by omega
    clear hre hfe hxe
    replace hF := hF.of hB
    have ⟨_, x0, x1, fx0, fx1⟩ := hxb.open2
    go_wp2_with fail
    go_at_call 67
    refine (kP _ hF).mono ?_
    rintro e1 w1 ⟨A1, m1, d1, rfl, hO, hb1⟩
    clear x0 x1 fx0 fx1
    replace hF := hF.of hb1
    replace hxb := hxb.of hb1
    replace hrb := hrb.of hb1
    replace hfb := hfb.of hb1
    have hs1 := hb1.size
    replace hB := below_thru hB hb1
    clear hb1
    have ⟨_, x0, x1, fx0, fx1⟩ := hxb.open2
    have ⟨_, r0, r1, fr0, fr1⟩ := hrb.open2
    have ⟨_, f0, ff0⟩ := hfb.open1
    go_wp2_with fail
    refine bodyPost_ret (v := .tuple #[.agg #[.int .i64 0, .slice none 0 0], .int .i64 2]) (by simp [results, Tryz.results30, go_sem, *, ↓IntWalk.iteOmega]) rfl ?_
    exact ⟨none, 0, 0, ret_tle HE.out.2.2.symm HE.out.1.symm, by rw [HE.out.2.1]; exact RdX.nil_, by omega, (hB.setCell hrg _).setCell hrg _⟩
  | true =>
    obtain ⟨K, rfl, hK1, hK2, hKn, hok⟩ := tlB_ok hv
    have hPl := Lib.hid (tlP_len hv)
    have hPr := Lib.hid (tlP_right hv)
    have hn1 : n ≤ 1000 := by rw [← hFl.out]; exact hKn
    by_cases hg : 0 ≤ a ∧ a ≤ b ∧ b < (n : Int)
    · obtain ⟨a, rfl⟩ : ∃ a' : Nat, a = a' := ⟨a.toNat, by omega⟩
      obtain ⟨b, rfl⟩ : ∃ b' : Nat, b = b' := ⟨b.toNat, by omega⟩
      have HE := Lib.hid (cu_yes (show cuE K fs a b = 0 by unfold cuE; rw [if_pos hv, if_pos (by rw [hFl.out]; exact hg)]))
      rw [hv] at kP
      have hab : a ≤ b := by omega
      have hbn : b < n := by omega
      clear hv hok hg
      have da : decide ((a : Int) < 0) = false := decide_eq_false (by omega)
      have db : decide ((b : Int) < a) = false := decide_eq_false (by omega)
      have db' : decide (b < a) = false := decide_eq_false (by omega)
      have dc : decide ((n : Int) ≤ b) = false := decide_eq_false (by omega)
      have dc' : decide (n ≤ b) = false := decide_eq_false (by omega)
      have hw1 : IntKind.i64.wrap ((b : Int) + 1) = ((b + 1 : Nat) : Int) := by rw [IntWalk.i64_in _ (by omega)]; omega
      go_enter Tryz.func30, Tryz.ntmps30
      go_wp2_with fail
      obtain ⟨we, hwe, hxb, hfb, hrb, hB, hsw⟩ := three_boxesC w (K : Int) a A n c 34 3 34
      rw [← hwe]
      clear hwe
      obtain ⟨xb, hxe⟩ : ∃ xb, xb = w.heap.size := ⟨_, rfl⟩
      obtain ⟨fb, hfe⟩ : ∃ fb, fb = w.heap.size + 1 := ⟨_, rfl⟩
      obtain ⟨rb, hre⟩ : ∃ rb, rb = w.heap.size + 2 := ⟨_, rfl⟩
      rw [← hxe] at hxb
      rw [← hfe] at hfb
      rw [← hre] at hrb
      rw [← hre, ← hfe, ← hxe]
      have hrg : w.heap.size ≤ rb := by omega
      have hxr : xb ≠ rb := by omega
      have hfr : fb ≠ rb := by omega
      clear hre hfe hxe
      replace hF := hF.of hB
      have ⟨_, x0, x1, fx0, fx1⟩ := hxb.open2
      go_wp2_with fail
      go_at_call 67
      refine (kP _ hF).mono ?_
      rintro e1 w1 ⟨A1, m1, d1, rfl, hO, hb1⟩
      clear x0 x1 fx0 fx1
      replace hF := hF.of hb1
      replace hxb := hxb.of hb1
      replace hrb := hrb.of hb1
      replace hfb := hfb.of hb1
      have hs1 := hb1.size
      replace hB := below_thru hB hb1
      clear hb1
      have ⟨_, x0, x1, fx0, fx1⟩ := hxb.open2
      have ⟨_, r0, r1, fr0, fr1⟩ := hrb.open2
      have ⟨_, f0, ff0⟩ := hfb.open1
      obtain rfl : n = m1 := by rw [← hO.len, hPl.out, hFl.out]
      have hd1 := hO.capX
      have hR := hO.rd
      obtain ⟨bo, oo, rfl⟩ : ∃ bo oo, A1 = some ⟨bo, oo, none⟩ := by
        obtain ⟨_, _, _, _, bo, oo, _, h, _⟩ := hR.pat (i := b) hbn
        exact ⟨bo, oo, h⟩
      obtain ⟨b1, hb1e⟩ : ∃ b1, b1 = b + 1 := ⟨_, rfl⟩
      rw [← hb1e] at hw1
      have hRs := hR.sub (i := a) (j := b1) (by omega) (by omega)
      rw [show oo + a * ekC.k = oo + a from by show oo + a * 1 = _; omega] at hRs
      have hi0 : (0 : Int) ≤ (a : Int) := by omega
      have hi1 : (a : Int) ≤ (b1 : Int) := by omega
      have hi2 : (b1 : Int) ≤ (d1 : Int) := by omega
      have hi3 : a ≤ b1 := by omega
      have hi4 : b1 ≤ d1 := by omega
      have hb1q := Lib.hid hb1e
      have hK := Lib.hid (And.intro hK1 hK2)
      have hpr := Lib.hid (fun p (h : p ∈ ((tlP K fs).take b1).drop a) => hPr.out p (List.mem_of_mem_take (List.mem_of_mem_drop h)))
      have hxl := hxb.1
      have hfl := hfb.1
      have hgn := Lib.hid (fun i (hi : i < b1 - a) => show (((gnL fs).take b1).drop a).getD i 0 = (gnL fs).getD (a + i) 0 by rw [hb1q.out]; exact gn_at (by omega) (by rw [hFl.out]; omega))
      have kM := fun (w2 : World) (h : Below w1.heap.size w1 w2) => tl_madeC K (b1 - a) (d1 - a) xb fb n c a (some ⟨bo, oo + a, none⟩) A (((tlP K fs).take b1).drop a) fs (((gnL fs).take b1).drop a) w2 hK.out (hRs.of h) hpr.out (by omega) ((h.cell (p := ⟨_, _, none⟩) hxl).trans x1) ((h.cell (p := ⟨_, _, none⟩) hfl).trans f0) (by have := h.size; omega) (by have := h.size; omega) (hF.of h) (by omega) hn1 hgn.out
      have hda : ¬ d1 = a := by omega
      clear hb1e hO hPl hRs hR
      clear hn1
      go_wp2_with fail
      go_region_held3 (fun w' => FrG w1 rb w' ∧ w'.cell? ⟨xb, 0, none⟩ = some (.int .i64 (K : Int)) ∧ w'.cell? ⟨fb, 0, none⟩ = some (.int .i64 (a : Int)))
        (((try go_split_ands); refine FrG.two ?_ hxl hxr x0 hfl hfr f0; with_reducible (first | assumption | exact FrG.drew (FrG.here _ _) | exact FrG.drew ‹_› | exact FrG.of ‹_› hb8 | exact FrG.set (FrG.set ‹_› _ _) _ _ | exact FrG.set (FrG.set (FrG.of ‹_› hb8) _ _) _ _ | fail)))
        ((first | (go_at_call 63; (try go_split_ands); refine (kM _ (Below.refl _ _).drew).mono ?_; rintro e4 w4 ⟨B4, m4, d4, rfl, hO4, hb8⟩; have hrb4 := (BxW.drew hrb).of hb8; have ⟨_, r40, r41, f40, f41⟩ := hrb4.open2) | fail))
      have hrb5 := hrb4
      have hB4 : Below w.heap.size w w4 := below_thru hB.drew hb8
      go_wp2_with fail
      refine bodyPost_ret (v := .tuple #[.agg #[.int .i64 (K : Int), .slice B4 m4 d4], .int .i64 0]) (by simp [results, Tryz.results30, go_sem, *, ↓IntWalk.iteOmega]) rfl ?_
      refine ⟨B4, m4, d4, ret_tle HE.out.2.2.symm HE.out.1.symm, ?_, hO4.capX, (hB4.setCell hrg _).setCell hrg _⟩
      rw [HE.out.2.1, ← hb1q.out]
      exact hO4.rd.set2 hrb5 _ _
    · have HE := Lib.hid (cu_no (q := 13) (show cuE K fs a b = 13 by unfold cuE; rw [if_pos hv, if_neg (by rw [hFl.out]; exact hg)]) (by omega))
      rw [hv] at kP
      clear hv hok
      by_cases q0 : a < 0
      · have dq : decide (a < 0) = true := decide_eq_true q0
        clear hg q0
        go_enter Tryz.func30, Tryz.ntmps30
        go_wp2_with fail
        obtain ⟨we, hwe, hxb, hfb, hrb, hB, hsw⟩ := three_boxesC w (K : Int) a A n c 34 3 34
        rw [← hwe]
        clear hwe
        obtain ⟨xb, hxe⟩ : ∃ xb, xb = w.heap.size := ⟨_, rfl⟩
        obtain ⟨fb, hfe⟩ : ∃ fb, fb = w.heap.size + 1 := ⟨_, rfl⟩
        obtain ⟨rb, hre⟩ : ∃ rb, rb = w.heap.size + 2 := ⟨_, rfl⟩
        rw [← hxe] at hxb
        rw [← hfe] at hfb
        rw [← hre] at hrb
        rw [← hre, ← hfe, ← hxe]
        have hrg : w.heap.size ≤ rb := by omega
        have hxr : xb ≠ rb := by omega
        have hfr : fb ≠ rb := by omega
        clear hre hfe hxe
        replace hF := hF.of hB
        have ⟨_, x0, x1, fx0, fx1⟩ := hxb.open2
        go_wp2_with fail
        go_at_call 67
        refine (kP _ hF).mono ?_
        rintro e1 w1 ⟨A1, m1, d1, rfl, hO, hb1⟩
        clear x0 x1 fx0 fx1
        replace hF := hF.of hb1
        replace hxb := hxb.of hb1
        replace hrb := hrb.of hb1
        replace hfb := hfb.of hb1
        have hs1 := hb1.size
        replace hB := below_thru hB hb1
        clear hb1
        have ⟨_, x0, x1, fx0, fx1⟩ := hxb.open2
        have ⟨_, r0, r1, fr0, fr1⟩ := hrb.open2
        have ⟨_, f0, ff0⟩ := hfb.open1
        obtain rfl : n = m1 := by rw [← hO.len, hPl.out, hFl.out]
        clear hO hPl
        go_wp2_with fail
        refine bodyPost_ret (v := .tuple #[.agg #[.int .i64 0, .slice none 0 0], .int .i64 13]) (by simp [results, Tryz.results30, go_sem, *, ↓IntWalk.iteOmega]) rfl ?_
        exact ⟨none, 0, 0, ret_tle HE.out.2.2.symm HE.out.1.symm, by rw [HE.out.2.1]; exact RdX.nil_, by omega, (hB.setCell hrg _).setCell hrg _⟩
      · skip
        by_cases q1 : b < a
        · have dq : decide (b < a) = true := decide_eq_true q1
          have da : decide (a < 0) = false := decide_eq_false (by omega)
          clear hg q0 q1
          go_enter Tryz.func30, Tryz.ntmps30
          go_wp2_with fail
          obtain ⟨we, hwe, hxb, hfb, hrb, hB, hsw⟩ := three_boxesC w (K : Int) a A n c 34 3 34
          rw [← hwe]
          clear hwe
          obtain ⟨xb, hxe⟩ : ∃ xb, xb = w.heap.size := ⟨_, rfl⟩
          obtain ⟨fb, hfe⟩ : ∃ fb, fb = w.heap.size + 1 := ⟨_, rfl⟩
          obtain ⟨rb, hre⟩ : ∃ rb, rb = w.heap.size + 2 := ⟨_, rfl⟩
          rw [← hxe] at hxb
          rw [← hfe] at hfb
          rw [← hre] at hrb
          rw [← hre, ← hfe, ← hxe]
          have hrg : w.heap.size ≤ rb := by omega
          have hxr : xb ≠ rb := by omega
          have hfr : fb ≠ rb := by omega
          clear hre hfe hxe
          replace hF := hF.of hB
          have ⟨_, x0, x1, fx0, fx1⟩ := hxb.open2
          go_wp2_with fail
          go_at_call 67
          refine (kP _ hF).mono ?_
          rintro e1 w1 ⟨A1, m1, d1, rfl, hO, hb1⟩
          clear x0 x1 fx0 fx1
          replace hF := hF.of hb1
          replace hxb := hxb.of hb1
          replace hrb := hrb.of hb1
          replace hfb := hfb.of hb1
          have hs1 := hb1.size
          replace hB := below_thru hB hb1
          clear hb1
          have ⟨_, x0, x1, fx0, fx1⟩ := hxb.open2
          have ⟨_, r0, r1, fr0, fr1⟩ := hrb.open2
          have ⟨_, f0, ff0⟩ := hfb.open1
          obtain rfl : n = m1 := by rw [← hO.len, hPl.out, hFl.out]
          clear hO hPl
          go_wp2_with fail
          refine bodyPost_ret (v := .tuple #[.agg #[.int .i64 0, .slice none 0 0], .int .i64 13]) (by simp [results, Tryz.results30, go_sem, *, ↓IntWalk.iteOmega]) rfl ?_
          exact ⟨none, 0, 0, ret_tle HE.out.2.2.symm HE.out.1.symm, by rw [HE.out.2.1]; exact RdX.nil_, by omega, (hB.setCell hrg _).setCell hrg _⟩
        · have dq : decide ((n : Int) ≤ b) = true := decide_eq_true (by omega)
          have da : decide (a < 0) = false := decide_eq_false (by omega)
          have db : decide (b < a) = false := decide_eq_false (by omega)
          clear hg q0 q1
          go_enter Tryz.func30, Tryz.ntmps30
          go_wp2_with fail
          obtain ⟨we, hwe, hxb, hfb, hrb, hB, hsw⟩ := three_boxesC w (K : Int) a A n c 34 3 34
          rw [← hwe]
          clear hwe
          obtain ⟨xb, hxe⟩ : ∃ xb, xb = w.heap.size := ⟨_, rfl⟩
          obtain ⟨fb, hfe⟩ : ∃ fb, fb = w.heap.size + 1 := ⟨_, rfl⟩
          obtain ⟨rb, hre⟩ : ∃ rb, rb = w.heap.size + 2 := ⟨_, rfl⟩
          rw [← hxe] at hxb
          rw [← hfe] at hfb
          rw [← hre] at hrb
          rw [← hre, ← hfe, ← hxe]
          have hrg : w.heap.size ≤ rb := by omega
          have hxr : xb ≠ rb := by omega
          have hfr : fb ≠ rb := by omega
          clear hre hfe hxe
          replace hF := hF.of hB
          have ⟨_, x0, x1, fx0, fx1⟩ := hxb.open2
          go_wp2_with fail
          go_at_call 67
          refine (kP _ hF).mono ?_
          rintro e1 w1 ⟨A1, m1, d1, rfl, hO, hb1⟩
          clear x0 x1 fx0 fx1
          replace hF := hF.of hb1
          replace hxb := hxb.of hb1
          replace hrb := hrb.of hb1
          replace hfb := hfb.of hb1
          have hs1 := hb1.size
          replace hB := below_thru hB hb1
          clear hb1
          have ⟨_, x0, x1, fx0, fx1⟩ := hxb.open2
          have ⟨_, r0, r1, fr0, fr1⟩ := hrb.open2
          have ⟨_, f0, ff0⟩ := hfb.open1
          obtain rfl : n = m1 := by rw [← hO.len, hPl.out, hFl.out]
          clear hO hPl
          go_wp2_with fail
          refine bodyPost_ret (v := .tuple #[.agg #[.int .i64 0, .slice none 0 0], .int .i64 13]) (by simp [results, Tryz.results30, go_sem, *, ↓IntWalk.iteOmega]) rfl ?_
          exact ⟨none, 0, 0, ret_tle HE.out.2.2.symm HE.out.1.symm, by rw [HE.out.2.1]; exact RdX.nil_, by omega, (hB.setCell hrg _).setCell hrg _⟩
end Go.Proofs.YtabfefhicfmabaaGreat
end
section
namespace Go.Proofs.YtabfefhicfmabaaGreat
open Go Go.RowKit
set_option maxRecDepth 100000
def adK (key : Int) (fs : List TFr) (gen : Int) (p : List Cel) : Int := if adE key fs gen p = 0 then key else 0
theorem ad_no {key gen q : Int} {fs : List TFr} {p : List Cel} (h : adE key fs gen p = q) (hq : q ≠ 0) : adE key fs gen p = q ∧ adL key fs gen p = [] ∧ adK key fs gen p = 0 := by
  refine ⟨h, ?_, ?_⟩
  · unfold adL; rw [if_neg (by rw [h]; exact hq)]
  · unfold adK; rw [if_neg (by rw [h]; exact hq)]
theorem ad_yes {K : Nat} {gen : Int} {fs : List TFr} {p : List Cel} (h : adE K fs gen p = 0) : adE K fs gen p = 0 ∧ adL K fs gen p = fs ++ [bldF K (gnL fs ++ [gen]) (tlP K fs ++ [p]) fs.length] ∧ adK K fs gen p = K := by
  refine ⟨h, ?_, ?_⟩
  · have := ad_snoc h; rw [Int.toNat_natCast] at this; exact this
  · unfold adK; rw [if_pos h]
theorem ad_yesR {K : Nat} {gen : Int} {fs : List TFr} {p : List Cel} (h : adE K fs gen p = 0) : adE K fs gen p = 0 ∧ adL K fs gen p = bldL K (gnL fs ++ [gen]) (tlP K fs ++ [p]) (fs.length + 1) ∧ adK K fs gen p = K := by
  refine ⟨h, ?_, ?_⟩
  · unfold adL; rw [if_pos h, Int.toNat_natCast]
  · unfold adK; rw [if_pos h]
theorem RdX.drewF {w : World} {A : Option Addr} {n : Nat} {fs : List TFr} (h : RdX ekFr w A n fs) : RdX ekFr w.drew A n fs := h
theorem ekFr_drew {w : World} {a : Int × Bool × Hdl × Hdl} {f : TFr} (h : ekFr.rel w a f) : ekFr.rel w.drew a f := h
theorem cells_drew (w : World) (vs : List Value) (t : TypeId) : ∀ j u, vs[j]? = some u → (w.alloc (.cells vs.toArray t)).drew.cell? ((⟨w.heap.size, 0, none⟩ : Addr).add j) = some u := fun j u h => cells_new w vs t j u h
theorem bldF_last {K : Nat} {gen : Int} {gs : List Int} {p b : List Cel} {l : List (List Cel)} {n : Nat} (hg : gs.length = n) (hl : l.length = n) (hb : 0 < n → l.getD (n - 1) [] = b) :
    bldF K (gs ++ [gen]) (l ++ [p]) n = (gen, decide (n % K = 0), if n % K = 0 then p else [], if n % K = 0 then [] else ofL b p) := by
  unfold bldF
  rw [getD_here hg.symm, getD_here hl.symm]
  by_cases h0 : n % K = 0
  · simp only [if_pos h0]
  · have hn : 0 < n := by rcases Nat.eq_zero_or_pos n with h | h; · exact absurd (by rw [h]; exact Nat.zero_mod K) h0
                          · exact h
    simp only [if_neg h0]
    rw [getD_left (by omega), hb hn]
set_option maxHeartbeats 16000000 in
theorem tl_Append (key : Int) (A D : Option Addr) (n c k e : Nat) (fs : List TFr) (gen : Int) (p : List Cel) (w : World) (hF : RdX ekFr w A n fs) (hsm : SmT fs) (hc : n ≤ c) (hR : Rd encC 3 w D k p) (hk : k ≤ 1000000) (hke : k ≤ e) :
    Calls Tryz.prog 28 #[.agg #[.int .i64 key, .slice A n c], .int .i64 gen, .slice D k e] w fun e w' => ∃ B' m' d', e = .returned (.tuple #[.agg #[.int .i64 (adK key fs gen p), .slice B' m' d'], .int .i64 (adE key fs gen p)]) ∧ RdX ekFr w' B' m' (adL key fs gen p) ∧ m' ≤ d' ∧ Below w.heap.size w w' := by
  have kP := fun w1 h => tl_patterns key A n c fs w1 h hsm
  have kR := fun w1 h => pat_Right D k e p w1 h (by omega)
  have hFl := Lib.hid hF.len
  cases hv : tlB key fs with
  | false =>
    have HE := Lib.hid (ad_no (q := 2) (show adE key fs gen p = 2 by unfold adE; rw [if_neg (by rw [hv]; simp)]) (by omega))
    rw [hv] at kP
    clear hv kR
    go_enter Tryz.func28, Tryz.ntmps28
    go_wp2_with fail
    obtain ⟨we, hwe, hxb, hrb, hB, hsw⟩ := two_boxesT w key A n c 34 34
    rw [← hwe]
    clear hwe
    obtain ⟨xb, hxe⟩ : ∃ xb, xb = w.heap.size := ⟨_, rfl⟩
    obtain ⟨rb, hre⟩ : ∃ rb, rb = w.heap.size + 1 := ⟨_, rfl⟩
    rw [← hxe] at hxb
    rw [← hre] at hrb
    rw [← hre, ← hxe]
    have hrg : w.heap.size ≤ rb := by omega
    have hxg : w.heap.size ≤ xb := by omega
    have hxr : xb ≠ rb := by omega
    have hxB : xb < we.heap.size := by omega
    have hrB : rb < we.heap.size := by omega
    clear hre hxe
    replace hF := hF.of hB
    replace hR := hR.of hB
    have ⟨_, x0, x1, fx0, fx1⟩ := hxb.open2
    go_wp2_with fail
    go_at_call 67
    refine (kP _ hF).mono ?_
    rintro e1 w1 ⟨A1, m1, d1, rfl, hO, hb1⟩
    clear x0 x1 fx0 fx1
    replace hF := hF.of hb1
    replace hR := hR.of hb1
    replace hxb := hxb.of hb1
    replace hrb := hrb.of hb1
    have hs1 := hb1.size
    replace hB := below_thru hB hb1
    clear hb1
    have ⟨_, x0, x1, fx0, fx1⟩ := hxb.open2
    have ⟨_, r0, r1, fr0, fr1⟩ := hrb.open2
    go_wp2_with fail
    refine bodyPost_ret (v := .tuple #[.agg #[.int .i64 0, .slice none 0 0], .int .i64 2]) (by simp [results, Tryz.results28, go_sem, *, ↓IntWalk.iteOmega]) rfl ?_
    exact ⟨none, 0, 0, ret_tle HE.out.2.2.symm HE.out.1.symm, by rw [HE.out.2.1]; exact RdX.nil_, by omega, (hB.setCell hrg _).setCell hrg _⟩
  | true =>
    obtain ⟨K, rfl, hK1, hK2, hKn, hok⟩ := tlB_ok hv
    have hPl := Lib.hid (tlP_len hv)
    have hPr := Lib.hid (tlP_right hv)
    have hn1 : n ≤ 1000 := by rw [← hFl.out]; exact hKn
    have hkv := Lib.hid hv
    rw [hv] at kP
    clear hv hok
    cases hp : rightC p with
    | false =>
      have HE := Lib.hid (ad_no (q := 2) (show adE K fs gen p = 2 by unfold adE; rw [if_neg (by rw [hp]; simp)]) (by omega))
      rw [hp] at kR
      clear hp
      go_enter Tryz.func28, Tryz.ntmps28
      go_wp2_with fail
      obtain ⟨we, hwe, hxb, hrb, hB, hsw⟩ := two_boxesT w (K : Int) A n c 34 34
      rw [← hwe]
      clear hwe
      obtain ⟨xb, hxe⟩ : ∃ xb, xb = w.heap.size := ⟨_, rfl⟩
      obtain ⟨rb, hre⟩ : ∃ rb, rb = w.heap.size + 1 := ⟨_, rfl⟩
      rw [← hxe] at hxb
      rw [← hre] at hrb
      rw [← hre, ← hxe]
      have hrg : w.heap.size ≤ rb := by omega
      have hxg : w.heap.size ≤ xb := by omega
      have hxr : xb ≠ rb := by omega
      have hxB : xb < we.heap.size := by omega
      have hrB : rb < we.heap.size := by omega
      clear hre hxe
      replace hF := hF.of hB
      replace hR := hR.of hB
      have ⟨_, x0, x1, fx0, fx1⟩ := hxb.open2
      go_wp2_with fail
      go_at_call 67
      refine (kP _ hF).mono ?_
      rintro e1 w1 ⟨A1, m1, d1, rfl, hO, hb1⟩
      clear x0 x1 fx0 fx1
      replace hF := hF.of hb1
      replace hR := hR.of hb1
      replace hxb := hxb.of hb1
      replace hrb := hrb.of hb1
      have hs1 := hb1.size
      replace hB := below_thru hB hb1
      clear hb1
      have ⟨_, x0, x1, fx0, fx1⟩ := hxb.open2
      have ⟨_, r0, r1, fr0, fr1⟩ := hrb.open2
      obtain rfl : n = m1 := by rw [← hO.len, hPl.out, hFl.out]
      go_wp2_with fail
      go_at_call 75
      refine (kR _ hR).mono ?_
      rintro e2 w2 ⟨rfl, hb2⟩
      clear x0 x1 fx0 fx1 r0 r1 fr0 fr1
      replace hF := hF.of hb2
      replace hR := hR.of hb2
      replace hO := hO.of hb2
      replace hxb := hxb.of hb2
      replace hrb := hrb.of hb2
      have hs2 := hb2.size
      replace hB := below_thru hB hb2
      clear hb2
      have ⟨_, x0, x1, fx0, fx1⟩ := hxb.open2
      have ⟨_, r0, r1, fr0, fr1⟩ := hrb.open2
      go_wp2_with fail
      refine bodyPost_ret (v := .tuple #[.agg #[.int .i64 0, .slice none 0 0], .int .i64 2]) (by simp [results, Tryz.results28, go_sem, *, ↓IntWalk.iteOmega]) rfl ?_
      exact ⟨none, 0, 0, ret_tle HE.out.2.2.symm HE.out.1.symm, by rw [HE.out.2.1]; exact RdX.nil_, by omega, (hB.setCell hrg _).setCell hrg _⟩
    | true =>
      have hpr := Lib.hid hp
      rw [hp] at kR
      clear hp
      by_cases q0 : gen < 0
      · have HE := Lib.hid (ad_no (q := 2) (show adE K fs gen p = 2 by unfold adE; rw [if_neg (by omega)]) (by omega))
        have da : decide (gen < 0) = true := decide_eq_true q0
        clear q0
        go_enter Tryz.func28, Tryz.ntmps28
        go_wp2_with fail
        obtain ⟨we, hwe, hxb, hrb, hB, hsw⟩ := two_boxesT w (K : Int) A n c 34 34
        rw [← hwe]
        clear hwe
        obtain ⟨xb, hxe⟩ : ∃ xb, xb = w.heap.size := ⟨_, rfl⟩
        obtain ⟨rb, hre⟩ : ∃ rb, rb = w.heap.size + 1 := ⟨_, rfl⟩
        rw [← hxe] at hxb
        rw [← hre] at hrb
        rw [← hre, ← hxe]
        have hrg : w.heap.size ≤ rb := by omega
        have hxg : w.heap.size ≤ xb := by omega
        have hxr : xb ≠ rb := by omega
        have hxB : xb < we.heap.size := by omega
        have hrB : rb < we.heap.size := by omega
        clear hre hxe
        replace hF := hF.of hB
        replace hR := hR.of hB
        have ⟨_, x0, x1, fx0, fx1⟩ := hxb.open2
        go_wp2_with fail
        go_at_call 67
        refine (kP _ hF).mono ?_
        rintro e1 w1 ⟨A1, m1, d1, rfl, hO, hb1⟩
        clear x0 x1 fx0 fx1
        replace hF := hF.of hb1
        replace hR := hR.of hb1
        replace hxb := hxb.of hb1
        replace hrb := hrb.of hb1
        have hs1 := hb1.size
        replace hB := below_thru hB hb1
        clear hb1
        have ⟨_, x0, x1, fx0, fx1⟩ := hxb.open2
        have ⟨_, r0, r1, fr0, fr1⟩ := hrb.open2
        obtain rfl : n = m1 := by rw [← hO.len, hPl.out, hFl.out]
        go_wp2_with fail
        go_at_call 75
        refine (kR _ hR).mono ?_
        rintro e2 w2 ⟨rfl, hb2⟩
        clear x0 x1 fx0 fx1 r0 r1 fr0 fr1
        replace hF := hF.of hb2
        replace hR := hR.of hb2
        replace hO := hO.of hb2
        replace hxb := hxb.of hb2
        replace hrb := hrb.of hb2
        have hs2 := hb2.size
        replace hB := below_thru hB hb2
        clear hb2
        have ⟨_, x0, x1, fx0, fx1⟩ := hxb.open2
        have ⟨_, r0, r1, fr0, fr1⟩ := hrb.open2
        go_wp2_with fail
        refine bodyPost_ret (v := .tuple #[.agg #[.int .i64 0, .slice none 0 0], .int .i64 2]) (by simp [results, Tryz.results28, go_sem, *, ↓IntWalk.iteOmega]) rfl ?_
        exact ⟨none, 0, 0, ret_tle HE.out.2.2.symm HE.out.1.symm, by rw [HE.out.2.1]; exact RdX.nil_, by omega, (hB.setCell hrg _).setCell hrg _⟩
      have da : decide (gen < 0) = false := decide_eq_false q0
      by_cases q1 : 2147483647 < gen
      · have HE := Lib.hid (ad_no (q := 2) (show adE K fs gen p = 2 by unfold adE; rw [if_neg (by omega)]) (by omega))
        have db : decide (2147483647 < gen) = true := decide_eq_true q1
        clear q0 q1
        go_enter Tryz.func28, Tryz.ntmps28
        go_wp2_with fail
        obtain ⟨we, hwe, hxb, hrb, hB, hsw⟩ := two_boxesT w (K : Int) A n c 34 34
        rw [← hwe]
        clear hwe
        obtain ⟨xb, hxe⟩ : ∃ xb, xb = w.heap.size := ⟨_, rfl⟩
        obtain ⟨rb, hre⟩ : ∃ rb, rb = w.heap.size + 1 := ⟨_, rfl⟩
        rw [← hxe] at hxb
        rw [← hre] at hrb
        rw [← hre, ← hxe]
        have hrg : w.heap.size ≤ rb := by omega
        have hxg : w.heap.size ≤ xb := by omega
        have hxr : xb ≠ rb := by omega
        have hxB : xb < we.heap.size := by omega
        have hrB : rb < we.heap.size := by omega
        clear hre hxe
        replace hF := hF.of hB
        replace hR := hR.of hB
        have ⟨_, x0, x1, fx0, fx1⟩ := hxb.open2
        go_wp2_with fail
        go_at_call 67
        refine (kP _ hF).mono ?_
        rintro e1 w1 ⟨A1, m1, d1, rfl, hO, hb1⟩
        clear x0 x1 fx0 fx1
        replace hF := hF.of hb1
        replace hR := hR.of hb1
        replace hxb := hxb.of hb1
        replace hrb := hrb.of hb1
        have hs1 := hb1.size
        replace hB := below_thru hB hb1
        clear hb1
        have ⟨_, x0, x1, fx0, fx1⟩ := hxb.open2
        have ⟨_, r0, r1, fr0, fr1⟩ := hrb.open2
        obtain rfl : n = m1 := by rw [← hO.len, hPl.out, hFl.out]
        go_wp2_with fail
        go_at_call 75
        refine (kR _ hR).mono ?_
        rintro e2 w2 ⟨rfl, hb2⟩
        clear x0 x1 fx0 fx1 r0 r1 fr0 fr1
        replace hF := hF.of hb2
        replace hR := hR.of hb2
        replace hO := hO.of hb2
        replace hxb := hxb.of hb2
        replace hrb := hrb.of hb2
        have hs2 := hb2.size
        replace hB := below_thru hB hb2
        clear hb2
        have ⟨_, x0, x1, fx0, fx1⟩ := hxb.open2
        have ⟨_, r0, r1, fr0, fr1⟩ := hrb.open2
        go_wp2_with fail
        refine bodyPost_ret (v := .tuple #[.agg #[.int .i64 0, .slice none 0 0], .int .i64 2]) (by simp [results, Tryz.results28, go_sem, *, ↓IntWalk.iteOmega]) rfl ?_
        exact ⟨none, 0, 0, ret_tle HE.out.2.2.symm HE.out.1.symm, by rw [HE.out.2.1]; exact RdX.nil_, by omega, (hB.setCell hrg _).setCell hrg _⟩
      have db : decide (2147483647 < gen) = false := decide_eq_false q1
      have hmn := Lib.hid (show tlB K fs = true ∧ rightC p = true ∧ 0 ≤ gen ∧ gen ≤ 2147483647 from ⟨hkv.out, hpr.out, by omega, by omega⟩)
      clear q0 q1
      have hK := Lib.hid (And.intro hK1 hK2)
      by_cases hz : n = 0
      · subst hz
        have dn : decide (0 < (0 : Int)) = false := rfl
        have HE := Lib.hid (ad_yes (show adE K fs gen p = 0 by unfold adE; rw [if_pos hmn.out, hFl.out, if_neg (by omega), if_neg (by omega)]))
        clear hmn
        go_enter Tryz.func28, Tryz.ntmps28
        go_wp2_with fail
        obtain ⟨we, hwe, hxb, hrb, hB, hsw⟩ := two_boxesT w (K : Int) A 0 c 34 34
        rw [← hwe]
        clear hwe
        obtain ⟨xb, hxe⟩ : ∃ xb, xb = w.heap.size := ⟨_, rfl⟩
        obtain ⟨rb, hre⟩ : ∃ rb, rb = w.heap.size + 1 := ⟨_, rfl⟩
        rw [← hxe] at hxb
        rw [← hre] at hrb
        rw [← hre, ← hxe]
        have hrg : w.heap.size ≤ rb := by omega
        have hxg : w.heap.size ≤ xb := by omega
        have hxr : xb ≠ rb := by omega
        have hxB : xb < we.heap.size := by omega
        have hrB : rb < we.heap.size := by omega
        clear hre hxe
        replace hF := hF.of hB
        replace hR := hR.of hB
        have ⟨_, x0, x1, fx0, fx1⟩ := hxb.open2
        go_wp2_with fail
        go_at_call 67
        refine (kP _ hF).mono ?_
        rintro e1 w1 ⟨A1, m1, d1, rfl, hO, hb1⟩
        clear x0 x1 fx0 fx1
        replace hF := hF.of hb1
        replace hR := hR.of hb1
        replace hxb := hxb.of hb1
        replace hrb := hrb.of hb1
        have hs1 := hb1.size
        replace hB := below_thru hB hb1
        clear hb1
        have ⟨_, x0, x1, fx0, fx1⟩ := hxb.open2
        have ⟨_, r0, r1, fr0, fr1⟩ := hrb.open2
        obtain rfl : 0 = m1 := by rw [← hO.len, hPl.out, hFl.out]
        go_wp2_with fail
        go_at_call 75
        refine (kR _ hR).mono ?_
        rintro e2 w2 ⟨rfl, hb2⟩
        clear x0 x1 fx0 fx1 r0 r1 fr0 fr1
        replace hF := hF.of hb2
        replace hR := hR.of hb2
        replace hO := hO.of hb2
        replace hxb := hxb.of hb2
        replace hrb := hrb.of hb2
        have hs2 := hb2.size
        replace hB := below_thru hB hb2
        clear hb2
        have ⟨_, x0, x1, fx0, fx1⟩ := hxb.open2
        have ⟨_, r0, r1, fr0, fr1⟩ := hrb.open2
        have kF := fun w2 h2 => tl_frame K 0 gen none D 0 0 k e [] p w2 hK.out (by omega) (by rfl) hpr.out Rd.nil_ h2 hke
        obtain ⟨u, hu⟩ : ∃ u, decide (0 % K = 0) = u := ⟨_, rfl⟩
        rw [hu] at kF
        replace hu := Lib.hid hu
        go_wp2_with fail
        go_at_call 76
        refine (kF _ hR).mono ?_
        rintro e3 w3 ⟨hC, hD, rfl, hrel, hblk, hb3⟩
        clear x0 x1 fx0 fx1 r0 r1 fr0 fr1
        have hF3 := hF.of hb3
        have hxb3 := hxb.of hb3
        have hrb3 := hrb.of hb3
        have hs3 := hb3.size
        have hB3 := below_thru hB hb3
        go_upto_region 13 with (fail)
        obtain ⟨w5, kb, e5, ek, hk5, hB5, hr5, hkb⟩ := fr_alloc 54 (Below.refl w3.heap.size w3) hrel
        rw [← e5, ← ek]
        clear e5 ek
        have hF5 := hF3.of hB5
        have hxb5 := hxb3.of hB5
        have hrb5 := hrb3.of hB5
        have hs5 := hB5.size
        have hB05 : Below w.heap.size w w5 := below_thru hB3 hB5
        have hxl := hxb3.1
        have hkx : kb ≠ xb := by omega
        have ⟨_, x0, x1, fx0, fx1⟩ := hxb5.open2
        have ⟨_, r0, r1, fr0, fr1⟩ := hrb5.open2
        have ⟨_, k0, k1, k2, k3, _, _, _, _⟩ := hk5.open4
        clear hF hF3 hxb hxb3 hrb hrb3 hB hB3 hb3 hrel hblk hB5
        go_wp2_with fail
        go_region_law (first | (refine step_append_gr (K := ekFr) (by rfl) (.tmp 82) (.tmp 84) 32 (by rfl) 54 (.agg #[.int .i64 0, .bool false, .slice none 0 0, .slice none 0 0]) 64 Tryz.underlying32 (by kernel_rfl) rfl _ 0 fs (by rfl) (RdX.drewF (hF5.of ((Below.refl _ _).alloc (Nat.le_refl _) _))) (gen, u, hC, hD) _ (ekFr_drew (ekFr.keep hr5 (World.grownBy_alloc _ _ none) (fun _ _ e => by cases e))) ⟨w5.heap.size, 0, none⟩ 1 (by rfl) (cells_drew w5 (encFr (gen, u, hC, hD)) 54) (by omega) (by omega) ?_; intro A6 c6 w6 hO6 hg6; have hx6 := BxW.grown (BxW.drew (hxb5.of ((Below.refl _ _).alloc (Nat.le_refl _) _))) hg6 (fun e => by cases e); have hr6 := BxW.grown (BxW.drew (hrb5.of ((Below.refl _ _).alloc (Nat.le_refl _) _))) hg6 (fun e => by cases e); have ⟨_, x60, x61, fx60, fx61⟩ := hx6.open2; have ⟨_, r60, r61, fr60, fr61⟩ := hr6.open2) | fail)
        all_goals
          have hB6 : Below w.heap.size w w6 := below_thru (hB05.alloc hB05.size _).drew ((Below.refl _ _).grown hg6 (Nat.le_refl _) (by simp))
          have hfr : bldF K (gnL fs ++ [gen]) (tlP K fs ++ [p]) fs.length = (gen, u, if 0 % K = 0 then p else [], if 0 % K = 0 then [] else ofL [] p) := by rw [hFl.out, bldF_last (b := []) (by rw [gn_len, hFl.out]) (hPl.out.trans hFl.out) (fun h => absurd h (by omega)), hu.out]
          go_wp2_with fail
          refine bodyPost_ret (v := .tuple #[.agg #[.int .i64 (K : Int), .slice A6 (0 + 1) c6], .int .i64 0]) (by simp [results, Tryz.results28, go_sem, *, ↓IntWalk.iteOmega]) rfl ?_
          refine ⟨A6, 0 + 1, c6, ret_tle HE.out.2.2.symm HE.out.1.symm, ?_, hO6.capX, ((hB6.setCell hxg _).setCell hrg _).setCell hrg _⟩
          rw [HE.out.2.1, hfr]
          exact ((hO6.rd.setBox hx6 (by simp) 1 _).set2 (hr6.off 1 _ hxr) _ _)
      obtain ⟨g, fu, C, G, hx⟩ : ∃ g fu C G, fs[n - 1]? = some (g, fu, C, G) := by
        obtain ⟨⟨g, fu, C, G⟩, h⟩ : ∃ f, fs[n - 1]? = some f := ⟨_, List.getElem?_eq_getElem (by rw [hFl.out]; omega)⟩
        exact ⟨g, fu, C, G, h⟩
      have hlg : lastG fs n = g := by
        have := last_step hx
        rwa [show n - 1 + 1 = n by omega] at this
      have hxq := Lib.hid hx
      have hn0 : 0 < n := by omega
      have dn : decide (0 < (n : Int)) = true := decide_eq_true (by omega)
      have dn' : decide (0 < n) = true := decide_eq_true hn0
      have hmw : IntKind.i64.wrap ((n : Int) - 1) = ((n - 1 : Nat) : Int) := by rw [IntWalk.i64_in _ (by omega)]; omega
      have hni : n - 1 < n := by omega
      have hnc : n - 1 < c := by omega
      clear hx
      by_cases q2 : gen ≤ g
      · have HE := Lib.hid (ad_no (q := 9) (show adE K fs gen p = 9 by unfold adE; rw [if_pos hmn.out, hFl.out, if_pos ⟨hn0, by rw [hlg]; exact q2⟩]) (by omega))
        have dg : decide (gen ≤ g) = true := decide_eq_true q2
        clear q2 hlg hmn
        go_enter Tryz.func28, Tryz.ntmps28
        go_wp2_with fail
        obtain ⟨we, hwe, hxb, hrb, hB, hsw⟩ := two_boxesT w (K : Int) A n c 34 34
        rw [← hwe]
        clear hwe
        obtain ⟨xb, hxe⟩ : ∃ xb, xb = w.heap.size := ⟨_, rfl⟩
        obtain ⟨rb, hre⟩ : ∃ rb, rb = w.heap.size + 1 := ⟨_, rfl⟩
        rw [← hxe] at hxb
        rw [← hre] at hrb
        rw [← hre, ← hxe]
        have hrg : w.heap.size ≤ rb := by omega
        have hxg : w.heap.size ≤ xb := by omega
        have hxr : xb ≠ rb := by omega
        have hxB : xb < we.heap.size := by omega
        have hrB : rb < we.heap.size := by omega
        clear hre hxe
        replace hF := hF.of hB
        replace hR := hR.of hB
        have ⟨_, x0, x1, fx0, fx1⟩ := hxb.open2
        go_wp2_with fail
        go_at_call 67
        refine (kP _ hF).mono ?_
        rintro e1 w1 ⟨A1, m1, d1, rfl, hO, hb1⟩
        clear x0 x1 fx0 fx1
        replace hF := hF.of hb1
        replace hR := hR.of hb1
        replace hxb := hxb.of hb1
        replace hrb := hrb.of hb1
        have hs1 := hb1.size
        replace hB := below_thru hB hb1
        clear hb1
        have ⟨_, x0, x1, fx0, fx1⟩ := hxb.open2
        have ⟨_, r0, r1, fr0, fr1⟩ := hrb.open2
        obtain rfl : n = m1 := by rw [← hO.len, hPl.out, hFl.out]
        go_wp2_with fail
        go_at_call 75
        refine (kR _ hR).mono ?_
        rintro e2 w2 ⟨rfl, hb2⟩
        clear x0 x1 fx0 fx1 r0 r1 fr0 fr1
        replace hF := hF.of hb2
        replace hR := hR.of hb2
        replace hO := hO.of hb2
        replace hxb := hxb.of hb2
        replace hrb := hrb.of hb2
        have hs2 := hb2.size
        replace hB := below_thru hB hb2
        clear hb2
        have ⟨_, x0, x1, fx0, fx1⟩ := hxb.open2
        have ⟨_, r0, r1, fr0, fr1⟩ := hrb.open2
        obtain ⟨g2, fu2, C2, G2, CA, cn, cc, DA, dn2, dc, fo, of, hx2, rfl, hfo, g0, _⟩ := hF.frm (i := n - 1) hni
        obtain rfl : g2 = g := by have := hx2.out.symm.trans hxq.out; injection this with this; injection this with this
        obtain ⟨i, hi⟩ : ∃ i, i = n - 1 := ⟨_, rfl⟩
        rw [← hi] at g0 hmw hni hnc
        have hiq := Lib.hid hi
        have hi0 : (0 : Int) ≤ (i : Int) := by omega
        have hi1 : (i : Int) < (n : Int) := by omega
        clear hi hx2
        go_wp2_with fail
        refine bodyPost_ret (v := .tuple #[.agg #[.int .i64 0, .slice none 0 0], .int .i64 9]) (by simp [results, Tryz.results28, go_sem, *, ↓IntWalk.iteOmega]) rfl ?_
        exact ⟨none, 0, 0, ret_tle HE.out.2.2.symm HE.out.1.symm, by rw [HE.out.2.1]; exact RdX.nil_, by omega, (hB.setCell hrg _).setCell hrg _⟩
      have dg : decide (gen ≤ g) = false := decide_eq_false q2
      by_cases q3 : 1000 ≤ n
      · have HE := Lib.hid (ad_no (q := 6) (show adE K fs gen p = 6 by unfold adE; rw [if_pos hmn.out, hFl.out, if_neg (by rw [hlg]; omega), if_pos q3]) (by omega))
        have dm : decide (1000 ≤ (n : Int)) = true := decide_eq_true (by omega)
        have dm' : decide (1000 ≤ n) = true := decide_eq_true (by omega)
        clear q2 q3 hlg hmn
        go_enter Tryz.func28, Tryz.ntmps28
        go_wp2_with fail
        obtain ⟨we, hwe, hxb, hrb, hB, hsw⟩ := two_boxesT w (K : Int) A n c 34 34
        rw [← hwe]
        clear hwe
        obtain ⟨xb, hxe⟩ : ∃ xb, xb = w.heap.size := ⟨_, rfl⟩
        obtain ⟨rb, hre⟩ : ∃ rb, rb = w.heap.size + 1 := ⟨_, rfl⟩
        rw [← hxe] at hxb
        rw [← hre] at hrb
        rw [← hre, ← hxe]
        have hrg : w.heap.size ≤ rb := by omega
        have hxg : w.heap.size ≤ xb := by omega
        have hxr : xb ≠ rb := by omega
        have hxB : xb < we.heap.size := by omega
        have hrB : rb < we.heap.size := by omega
        clear hre hxe
        replace hF := hF.of hB
        replace hR := hR.of hB
        have ⟨_, x0, x1, fx0, fx1⟩ := hxb.open2
        go_wp2_with fail
        go_at_call 67
        refine (kP _ hF).mono ?_
        rintro e1 w1 ⟨A1, m1, d1, rfl, hO, hb1⟩
        clear x0 x1 fx0 fx1
        replace hF := hF.of hb1
        replace hR := hR.of hb1
        replace hxb := hxb.of hb1
        replace hrb := hrb.of hb1
        have hs1 := hb1.size
        replace hB := below_thru hB hb1
        clear hb1
        have ⟨_, x0, x1, fx0, fx1⟩ := hxb.open2
        have ⟨_, r0, r1, fr0, fr1⟩ := hrb.open2
        obtain rfl : n = m1 := by rw [← hO.len, hPl.out, hFl.out]
        go_wp2_with fail
        go_at_call 75
        refine (kR _ hR).mono ?_
        rintro e2 w2 ⟨rfl, hb2⟩
        clear x0 x1 fx0 fx1 r0 r1 fr0 fr1
        replace hF := hF.of hb2
        replace hR := hR.of hb2
        replace hO := hO.of hb2
        replace hxb := hxb.of hb2
        replace hrb := hrb.of hb2
        have hs2 := hb2.size
        replace hB := below_thru hB hb2
        clear hb2
        have ⟨_, x0, x1, fx0, fx1⟩ := hxb.open2
        have ⟨_, r0, r1, fr0, fr1⟩ := hrb.open2
        obtain ⟨g2, fu2, C2, G2, CA, cn, cc, DA, dn2, dc, fo, of, hx2, rfl, hfo, g0, _⟩ := hF.frm (i := n - 1) hni
        obtain rfl : g2 = g := by have := hx2.out.symm.trans hxq.out; injection this with this; injection this with this
        obtain ⟨i, hi⟩ : ∃ i, i = n - 1 := ⟨_, rfl⟩
        rw [← hi] at g0 hmw hni hnc
        have hiq := Lib.hid hi
        have hi0 : (0 : Int) ≤ (i : Int) := by omega
        have hi1 : (i : Int) < (n : Int) := by omega
        clear hi hx2
        go_wp2_with fail
        refine bodyPost_ret (v := .tuple #[.agg #[.int .i64 0, .slice none 0 0], .int .i64 6]) (by simp [results, Tryz.results28, go_sem, *, ↓IntWalk.iteOmega]) rfl ?_
        exact ⟨none, 0, 0, ret_tle HE.out.2.2.symm HE.out.1.symm, by rw [HE.out.2.1]; exact RdX.nil_, by omega, (hB.setCell hrg _).setCell hrg _⟩
      have hn2 : n + 1 ≤ 1000 := by omega
      have dm : decide (1000 ≤ (n : Int)) = false := decide_eq_false (by omega)
      have dm' : decide (1000 ≤ n) = false := decide_eq_false (by omega)
      have HE := Lib.hid (ad_yes (show adE K fs gen p = 0 by unfold adE; rw [if_pos hmn.out, hFl.out, if_neg (by rw [hlg]; omega), if_neg q3]))
      clear q2 q3 hlg hmn
      go_enter Tryz.func28, Tryz.ntmps28
      go_wp2_with fail
      obtain ⟨we, hwe, hxb, hrb, hB, hsw⟩ := two_boxesT w (K : Int) A n c 34 34
      rw [← hwe]
      clear hwe
      obtain ⟨xb, hxe⟩ : ∃ xb, xb = w.heap.size := ⟨_, rfl⟩
      obtain ⟨rb, hre⟩ : ∃ rb, rb = w.heap.size + 1 := ⟨_, rfl⟩
      rw [← hxe] at hxb
      rw [← hre] at hrb
      rw [← hre, ← hxe]
      have hrg : w.heap.size ≤ rb := by omega
      have hxg : w.heap.size ≤ xb := by omega
      have hxr : xb ≠ rb := by omega
      have hxB : xb < we.heap.size := by omega
      have hrB : rb < we.heap.size := by omega
      clear hre hxe
      replace hF := hF.of hB
      replace hR := hR.of hB
      have ⟨_, x0, x1, fx0, fx1⟩ := hxb.open2
      go_wp2_with fail
      go_at_call 67
      refine (kP _ hF).mono ?_
      rintro e1 w1 ⟨A1, m1, d1, rfl, hO, hb1⟩
      clear x0 x1 fx0 fx1
      replace hF := hF.of hb1
      replace hR := hR.of hb1
      replace hxb := hxb.of hb1
      replace hrb := hrb.of hb1
      have hs1 := hb1.size
      replace hB := below_thru hB hb1
      clear hb1
      have ⟨_, x0, x1, fx0, fx1⟩ := hxb.open2
      have ⟨_, r0, r1, fr0, fr1⟩ := hrb.open2
      obtain rfl : n = m1 := by rw [← hO.len, hPl.out, hFl.out]
      go_wp2_with fail
      go_at_call 75
      refine (kR _ hR).mono ?_
      rintro e2 w2 ⟨rfl, hb2⟩
      clear x0 x1 fx0 fx1 r0 r1 fr0 fr1
      replace hF := hF.of hb2
      replace hR := hR.of hb2
      replace hO := hO.of hb2
      replace hxb := hxb.of hb2
      replace hrb := hrb.of hb2
      have hs2 := hb2.size
      replace hB := below_thru hB hb2
      clear hb2
      have ⟨_, x0, x1, fx0, fx1⟩ := hxb.open2
      have ⟨_, r0, r1, fr0, fr1⟩ := hrb.open2
      obtain ⟨BA, bn, bc, b, bo, oo, hbx, rfl, hbo, gb, hBr, hbc⟩ := hO.rd.pat (i := n - 1) (by omega)
      have hbl := Lib.hid (show (tlP K fs).getD (n - 1) [] = b from getD_of hbx.out)
      have kF := fun w3 h1 h2 => tl_frame K n gen BA D bn bc k e b p w3 hK.out (by omega) (hPr.out _ (List.mem_of_getElem? hbx.out)) hpr.out h1 h2 hke
      obtain ⟨g2, fu2, C2, G2, CA, cn, cc, DA, dn2, dc, fo, of, hx2, rfl, hfo, g0, _⟩ := hF.frm (i := n - 1) hni
      obtain rfl : g2 = g := by have := hx2.out.symm.trans hxq.out; injection this with this; injection this with this
      obtain ⟨i, hi⟩ : ∃ i, i = n - 1 := ⟨_, rfl⟩
      rw [← hi] at g0 hmw hni hnc
      have hiq := Lib.hid hi
      have hi0 : (0 : Int) ≤ (i : Int) := by omega
      have hi1 : (i : Int) < (n : Int) := by omega
      clear hi hx2
      rw [← hiq.out] at gb
      obtain ⟨u, hu⟩ : ∃ u, decide (n % K = 0) = u := ⟨_, rfl⟩
      rw [hu] at kF
      replace hu := Lib.hid hu
      go_wp2_with fail
      go_at_call 76
      refine (kF _ hBr hR).mono ?_
      rintro e3 w3 ⟨hC, hD, rfl, hrel, hblk, hb3⟩
      clear x0 x1 fx0 fx1 r0 r1 fr0 fr1 gb
      have hF3 := hF.of hb3
      have hxb3 := hxb.of hb3
      have hrb3 := hrb.of hb3
      have hs3 := hb3.size
      have hB3 := below_thru hB hb3
      go_upto_region 13 with (fail)
      obtain ⟨w5, kb, e5, ek, hk5, hB5, hr5, hkb⟩ := fr_alloc 54 (Below.refl w3.heap.size w3) hrel
      rw [← e5, ← ek]
      clear e5 ek
      have hF5 := hF3.of hB5
      have hxb5 := hxb3.of hB5
      have hrb5 := hrb3.of hB5
      have hs5 := hB5.size
      have hB05 : Below w.heap.size w w5 := below_thru hB3 hB5
      have hxl := hxb3.1
      have hkx : kb ≠ xb := by omega
      have ⟨_, x0, x1, fx0, fx1⟩ := hxb5.open2
      have ⟨_, r0, r1, fr0, fr1⟩ := hrb5.open2
      have ⟨_, k0, k1, k2, k3, _, _, _, _⟩ := hk5.open4
      clear hF hF3 hxb hxb3 hrb hrb3 hB hB3 hb3 hrel hblk hB5
      go_wp2_with fail
      go_region_law (first | (refine step_append_gr (K := ekFr) (by rfl) (.tmp 82) (.tmp 84) 32 (by rfl) 54 (.agg #[.int .i64 0, .bool false, .slice none 0 0, .slice none 0 0]) 64 Tryz.underlying32 (by kernel_rfl) rfl _ n fs (by rfl) (RdX.drewF (hF5.of ((Below.refl _ _).alloc (Nat.le_refl _) _))) (gen, u, hC, hD) _ (ekFr_drew (ekFr.keep hr5 (World.grownBy_alloc _ _ none) (fun _ _ e => by cases e))) ⟨w5.heap.size, 0, none⟩ 1 (by rfl) (cells_drew w5 (encFr (gen, u, hC, hD)) 54) (by omega) (by omega) ?_; intro A6 c6 w6 hO6 hg6; have hx6 := BxW.grown (BxW.drew (hxb5.of ((Below.refl _ _).alloc (Nat.le_refl _) _))) hg6 (fun e => by cases e); have hr6 := BxW.grown (BxW.drew (hrb5.of ((Below.refl _ _).alloc (Nat.le_refl _) _))) hg6 (fun e => by cases e); have ⟨_, x60, x61, fx60, fx61⟩ := hx6.open2; have ⟨_, r60, r61, fr60, fr61⟩ := hr6.open2) | fail)
      all_goals
        have hB6 : Below w.heap.size w w6 := below_thru (hB05.alloc hB05.size _).drew ((Below.refl _ _).grown hg6 (Nat.le_refl _) (by simp))
        have hfr : bldF K (gnL fs ++ [gen]) (tlP K fs ++ [p]) fs.length = (gen, u, if n % K = 0 then p else [], if n % K = 0 then [] else ofL b p) := by rw [hFl.out, bldF_last (b := b) (by rw [gn_len, hFl.out]) (hPl.out.trans hFl.out) (fun _ => hbl.out), hu.out]
        go_wp2_with fail
        refine bodyPost_ret (v := .tuple #[.agg #[.int .i64 (K : Int), .slice A6 (n + 1) c6], .int .i64 0]) (by simp [results, Tryz.results28, go_sem, *, ↓IntWalk.iteOmega]) rfl ?_
        refine ⟨A6, n + 1, c6, ret_tle HE.out.2.2.symm HE.out.1.symm, ?_, hO6.capX, ((hB6.setCell hxg _).setCell hrg _).setCell hrg _⟩
        rw [HE.out.2.1, hfr]
        exact ((hO6.rd.setBox hx6 (by simp) 1 _).set2 (hr6.off 1 _ hxr) _ _)
end Go.Proofs.YtabfefhicfmabaaGreat
end
