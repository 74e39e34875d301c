/- Append, the reference's. By mktim12.py. -/
import Derived.Test.YtabfefhicfmabaaGreatTMT
import Derived.Test.YtabfefhicfmabaaGreatTim11
import Derived.Test.YtabfefhicfmabaaGreatTMF
namespace Go.Proofs.YtabfefhicfmabaaGreat
open Go Go.RowKit
set_option linter.unusedSimpArgs false
set_option linter.unusedVariables false
set_option maxRecDepth 100000
set_option linter.unusedSimpArgs false
set_option linter.unusedVariables false
set_option maxHeartbeats 16000000 in
theorem ref54_Append (key : Int) (A D : Option Addr) (n c k e : Nat) (fs : List TFr) (gen : Int) (p : List Cel) (w : World) (hF : RdX ekFr w A n fs) (hsm : SmT fs) (hc : n ≤ c) (hR : Rd encC 3 w D k p) (hk : k ≤ 1000000) (hke : k ≤ e) :
    Calls Tryz.prog 29 #[.agg #[.int .i64 key, .slice A n c], .int .i64 gen, .slice D k e] w fun e w' => ∃ B' m' d', e = .returned (.tuple #[.agg #[.int .i64 (adK key fs gen p), .slice B' m' d'], .int .i64 (adE key fs gen p)]) ∧ RdX ekFr w' B' m' (adL key fs gen p) ∧ m' ≤ d' ∧ Below w.heap.size w w' := by
  have kP := fun w1 h => ref54_Patterns key A n c fs w1 h hsm
  have kR := fun w1 h => ref05_Right D k e p w1 h (by omega)
  have hFl := Lib.hid hF.len
  have hRl := Lib.hid (show ∀ q ∈ ekC.blk (D, k, e), q < w.heap.size from fun q hq => Rd.blk_lt (h := (D, k, e)) hR q hq)
  cases hv : tlB key fs with
  | false =>
    have HE := Lib.hid (ad_no (q := 2) (show adE key fs gen p = 2 by unfold adE; rw [if_neg (by rw [hv]; simp)]) (by omega))
    rw [hv] at kP
    clear hv kR
    go_enter Tryz.func29, Tryz.ntmps29
    go_wp2_with fail
    obtain ⟨we, hwe, hxb, hrb, hB, hsw⟩ := two_boxesT w key A n c 34 34
    rw [← hwe]
    clear hwe
    obtain ⟨xb, hxe⟩ : ∃ xb, xb = w.heap.size := ⟨_, rfl⟩
    obtain ⟨rb, hre⟩ : ∃ rb, rb = w.heap.size + 1 := ⟨_, rfl⟩
    rw [← hxe] at hxb
    rw [← hre] at hrb
    rw [← hre, ← hxe]
    have hrg : w.heap.size ≤ rb := by omega
    have hxg : w.heap.size ≤ xb := by omega
    have hxr : xb ≠ rb := by omega
    have hxB : xb < we.heap.size := by omega
    have hrB : rb < we.heap.size := by omega
    clear hre hxe
    replace hF := hF.of hB
    replace hR := hR.of hB
    have ⟨_, x0, x1, fx0, fx1⟩ := hxb.open2
    go_wp2_with fail
    go_at_call 74
    refine (kP _ hF).mono ?_
    rintro e1 w1 ⟨A1, m1, d1, rfl, hO, hb1⟩
    clear x0 x1 fx0 fx1
    replace hF := hF.of hb1
    replace hR := hR.of hb1
    replace hxb := hxb.of hb1
    replace hrb := hrb.of hb1
    have hs1 := hb1.size
    replace hB := below_thru hB hb1
    clear hb1
    have ⟨_, x0, x1, fx0, fx1⟩ := hxb.open2
    have ⟨_, r0, r1, fr0, fr1⟩ := hrb.open2
    go_wp2_with fail
    refine bodyPost_ret (v := .tuple #[.agg #[.int .i64 0, .slice none 0 0], .int .i64 2]) (by simp [results, Tryz.results29, go_sem, *, ↓IntWalk.iteOmega]) rfl ?_
    exact ⟨none, 0, 0, ret_tle HE.out.2.2.symm HE.out.1.symm, by rw [HE.out.2.1]; exact RdX.nil_, by omega, (hB.setCell hrg _).setCell hrg _⟩
  | true =>
    obtain ⟨K, rfl, hK1, hK2, hKn, hok⟩ := tlB_ok hv
    have hPl := Lib.hid (tlP_len hv)
    have hPr := Lib.hid (tlP_right hv)
    have hn1 : n ≤ 1000 := by rw [← hFl.out]; exact hKn
    have hkv := Lib.hid hv
    rw [hv] at kP
    clear hv hok
    cases hp : rightC p with
    | false =>
      have HE := Lib.hid (ad_no (q := 2) (show adE K fs gen p = 2 by unfold adE; rw [if_neg (by rw [hp]; simp)]) (by omega))
      rw [hp] at kR
      clear hp
      go_enter Tryz.func29, Tryz.ntmps29
      go_wp2_with fail
      obtain ⟨we, hwe, hxb, hrb, hB, hsw⟩ := two_boxesT w (K : Int) A n c 34 34
      rw [← hwe]
      clear hwe
      obtain ⟨xb, hxe⟩ : ∃ xb, xb = w.heap.size := ⟨_, rfl⟩
      obtain ⟨rb, hre⟩ : ∃ rb, rb = w.heap.size + 1 := ⟨_, rfl⟩
      rw [← hxe] at hxb
      rw [← hre] at hrb
      rw [← hre, ← hxe]
      have hrg : w.heap.size ≤ rb := by omega
      have hxg : w.heap.size ≤ xb := by omega
      have hxr : xb ≠ rb := by omega
      have hxB : xb < we.heap.size := by omega
      have hrB : rb < we.heap.size := by omega
      clear hre hxe
      replace hF := hF.of hB
      replace hR := hR.of hB
      have ⟨_, x0, x1, fx0, fx1⟩ := hxb.open2
      go_wp2_with fail
      go_at_call 74
      refine (kP _ hF).mono ?_
      rintro e1 w1 ⟨A1, m1, d1, rfl, hO, hb1⟩
      clear x0 x1 fx0 fx1
      replace hF := hF.of hb1
      replace hR := hR.of hb1
      replace hxb := hxb.of hb1
      replace hrb := hrb.of hb1
      have hs1 := hb1.size
      replace hB := below_thru hB hb1
      clear hb1
      have ⟨_, x0, x1, fx0, fx1⟩ := hxb.open2
      have ⟨_, r0, r1, fr0, fr1⟩ := hrb.open2
      obtain rfl : n = m1 := by rw [← hO.len, hPl.out, hFl.out]
      go_wp2_with fail
      go_at_call 77
      refine (kR _ hR).mono ?_
      rintro e2 w2 ⟨rfl, hb2⟩
      clear x0 x1 fx0 fx1 r0 r1 fr0 fr1
      replace hF := hF.of hb2
      replace hR := hR.of hb2
      replace hO := hO.of hb2
      replace hxb := hxb.of hb2
      replace hrb := hrb.of hb2
      have hs2 := hb2.size
      replace hB := below_thru hB hb2
      clear hb2
      have ⟨_, x0, x1, fx0, fx1⟩ := hxb.open2
      have ⟨_, r0, r1, fr0, fr1⟩ := hrb.open2
      go_wp2_with fail
      refine bodyPost_ret (v := .tuple #[.agg #[.int .i64 0, .slice none 0 0], .int .i64 2]) (by simp [results, Tryz.results29, go_sem, *, ↓IntWalk.iteOmega]) rfl ?_
      exact ⟨none, 0, 0, ret_tle HE.out.2.2.symm HE.out.1.symm, by rw [HE.out.2.1]; exact RdX.nil_, by omega, (hB.setCell hrg _).setCell hrg _⟩
    | true =>
      have hpr := Lib.hid hp
      rw [hp] at kR
      clear hp
      by_cases q0 : gen < 0
      · have HE := Lib.hid (ad_no (q := 2) (show adE K fs gen p = 2 by unfold adE; rw [if_neg (by omega)]) (by omega))
        have da : decide (gen < 0) = true := decide_eq_true q0
        clear q0
        go_enter Tryz.func29, Tryz.ntmps29
        go_wp2_with fail
        obtain ⟨we, hwe, hxb, hrb, hB, hsw⟩ := two_boxesT w (K : Int) A n c 34 34
        rw [← hwe]
        clear hwe
        obtain ⟨xb, hxe⟩ : ∃ xb, xb = w.heap.size := ⟨_, rfl⟩
        obtain ⟨rb, hre⟩ : ∃ rb, rb = w.heap.size + 1 := ⟨_, rfl⟩
        rw [← hxe] at hxb
        rw [← hre] at hrb
        rw [← hre, ← hxe]
        have hrg : w.heap.size ≤ rb := by omega
        have hxg : w.heap.size ≤ xb := by omega
        have hxr : xb ≠ rb := by omega
        have hxB : xb < we.heap.size := by omega
        have hrB : rb < we.heap.size := by omega
        clear hre hxe
        replace hF := hF.of hB
        replace hR := hR.of hB
        have ⟨_, x0, x1, fx0, fx1⟩ := hxb.open2
        go_wp2_with fail
        go_at_call 74
        refine (kP _ hF).mono ?_
        rintro e1 w1 ⟨A1, m1, d1, rfl, hO, hb1⟩
        clear x0 x1 fx0 fx1
        replace hF := hF.of hb1
        replace hR := hR.of hb1
        replace hxb := hxb.of hb1
        replace hrb := hrb.of hb1
        have hs1 := hb1.size
        replace hB := below_thru hB hb1
        clear hb1
        have ⟨_, x0, x1, fx0, fx1⟩ := hxb.open2
        have ⟨_, r0, r1, fr0, fr1⟩ := hrb.open2
        obtain rfl : n = m1 := by rw [← hO.len, hPl.out, hFl.out]
        go_wp2_with fail
        go_at_call 77
        refine (kR _ hR).mono ?_
        rintro e2 w2 ⟨rfl, hb2⟩
        clear x0 x1 fx0 fx1 r0 r1 fr0 fr1
        replace hF := hF.of hb2
        replace hR := hR.of hb2
        replace hO := hO.of hb2
        replace hxb := hxb.of hb2
        replace hrb := hrb.of hb2
        have hs2 := hb2.size
        replace hB := below_thru hB hb2
        clear hb2
        have ⟨_, x0, x1, fx0, fx1⟩ := hxb.open2
        have ⟨_, r0, r1, fr0, fr1⟩ := hrb.open2
        go_wp2_with fail
        refine bodyPost_ret (v := .tuple #[.agg #[.int .i64 0, .slice none 0 0], .int .i64 2]) (by simp [results, Tryz.results29, go_sem, *, ↓IntWalk.iteOmega]) rfl ?_
        exact ⟨none, 0, 0, ret_tle HE.out.2.2.symm HE.out.1.symm, by rw [HE.out.2.1]; exact RdX.nil_, by omega, (hB.setCell hrg _).setCell hrg _⟩
      have da : decide (gen < 0) = false := decide_eq_false q0
      by_cases q1 : 2147483647 < gen
      · have HE := Lib.hid (ad_no (q := 2) (show adE K fs gen p = 2 by unfold adE; rw [if_neg (by omega)]) (by omega))
        have db : decide (2147483647 < gen) = true := decide_eq_true q1
        clear q0 q1
        go_enter Tryz.func29, Tryz.ntmps29
        go_wp2_with fail
        obtain ⟨we, hwe, hxb, hrb, hB, hsw⟩ := two_boxesT w (K : Int) A n c 34 34
        rw [← hwe]
        clear hwe
        obtain ⟨xb, hxe⟩ : ∃ xb, xb = w.heap.size := ⟨_, rfl⟩
        obtain ⟨rb, hre⟩ : ∃ rb, rb = w.heap.size + 1 := ⟨_, rfl⟩
        rw [← hxe] at hxb
        rw [← hre] at hrb
        rw [← hre, ← hxe]
        have hrg : w.heap.size ≤ rb := by omega
        have hxg : w.heap.size ≤ xb := by omega
        have hxr : xb ≠ rb := by omega
        have hxB : xb < we.heap.size := by omega
        have hrB : rb < we.heap.size := by omega
        clear hre hxe
        replace hF := hF.of hB
        replace hR := hR.of hB
        have ⟨_, x0, x1, fx0, fx1⟩ := hxb.open2
        go_wp2_with fail
        go_at_call 74
        refine (kP _ hF).mono ?_
        rintro e1 w1 ⟨A1, m1, d1, rfl, hO, hb1⟩
        clear x0 x1 fx0 fx1
        replace hF := hF.of hb1
        replace hR := hR.of hb1
        replace hxb := hxb.of hb1
        replace hrb := hrb.of hb1
        have hs1 := hb1.size
        replace hB := below_thru hB hb1
        clear hb1
        have ⟨_, x0, x1, fx0, fx1⟩ := hxb.open2
        have ⟨_, r0, r1, fr0, fr1⟩ := hrb.open2
        obtain rfl : n = m1 := by rw [← hO.len, hPl.out, hFl.out]
        go_wp2_with fail
        go_at_call 77
        refine (kR _ hR).mono ?_
        rintro e2 w2 ⟨rfl, hb2⟩
        clear x0 x1 fx0 fx1 r0 r1 fr0 fr1
        replace hF := hF.of hb2
        replace hR := hR.of hb2
        replace hO := hO.of hb2
        replace hxb := hxb.of hb2
        replace hrb := hrb.of hb2
        have hs2 := hb2.size
        replace hB := below_thru hB hb2
        clear hb2
        have ⟨_, x0, x1, fx0, fx1⟩ := hxb.open2
        have ⟨_, r0, r1, fr0, fr1⟩ := hrb.open2
        go_wp2_with fail
        refine bodyPost_ret (v := .tuple #[.agg #[.int .i64 0, .slice none 0 0], .int .i64 2]) (by simp [results, Tryz.results29, go_sem, *, ↓IntWalk.iteOmega]) rfl ?_
        exact ⟨none, 0, 0, ret_tle HE.out.2.2.symm HE.out.1.symm, by rw [HE.out.2.1]; exact RdX.nil_, by omega, (hB.setCell hrg _).setCell hrg _⟩
      have db : decide (2147483647 < gen) = false := decide_eq_false q1
      have hmn := Lib.hid (show tlB K fs = true ∧ rightC p = true ∧ 0 ≤ gen ∧ gen ≤ 2147483647 from ⟨hkv.out, hpr.out, by omega, by omega⟩)
      clear q0 q1
      have hK := Lib.hid (And.intro hK1 hK2)
      by_cases hz : n = 0
      · subst hz
        have dn : decide (0 < (0 : Int)) = false := rfl
        have HE := Lib.hid (ad_yesR (show adE K fs gen p = 0 by unfold adE; rw [if_pos hmn.out, hFl.out, if_neg (by omega), if_neg (by omega)]))
        clear hmn
        go_enter Tryz.func29, Tryz.ntmps29
        go_wp2_with fail
        obtain ⟨we, hwe, hxb, hrb, hB, hsw⟩ := two_boxesT w (K : Int) A 0 c 34 34
        rw [← hwe]
        clear hwe
        obtain ⟨xb, hxe⟩ : ∃ xb, xb = w.heap.size := ⟨_, rfl⟩
        obtain ⟨rb, hre⟩ : ∃ rb, rb = w.heap.size + 1 := ⟨_, rfl⟩
        rw [← hxe] at hxb
        rw [← hre] at hrb
        rw [← hre, ← hxe]
        have hrg : w.heap.size ≤ rb := by omega
        have hxg : w.heap.size ≤ xb := by omega
        have hxr : xb ≠ rb := by omega
        have hxB : xb < we.heap.size := by omega
        have hrB : rb < we.heap.size := by omega
        clear hre hxe
        replace hF := hF.of hB
        replace hR := hR.of hB
        have ⟨_, x0, x1, fx0, fx1⟩ := hxb.open2
        go_wp2_with fail
        go_at_call 74
        refine (kP _ hF).mono ?_
        rintro e1 w1 ⟨A1, m1, d1, rfl, hO, hb1⟩
        clear x0 x1 fx0 fx1
        replace hF := hF.of hb1
        replace hR := hR.of hb1
        replace hxb := hxb.of hb1
        replace hrb := hrb.of hb1
        have hs1 := hb1.size
        replace hB := below_thru hB hb1
        clear hb1
        have ⟨_, x0, x1, fx0, fx1⟩ := hxb.open2
        have ⟨_, r0, r1, fr0, fr1⟩ := hrb.open2
        obtain rfl : 0 = m1 := by rw [← hO.len, hPl.out, hFl.out]
        go_wp2_with fail
        go_at_call 77
        refine (kR _ hR).mono ?_
        rintro e2 w2 ⟨rfl, hb2⟩
        clear x0 x1 fx0 fx1 r0 r1 fr0 fr1
        replace hF := hF.of hb2
        replace hR := hR.of hb2
        replace hO := hO.of hb2
        replace hxb := hxb.of hb2
        replace hrb := hrb.of hb2
        have hs2 := hb2.size
        replace hB := below_thru hB hb2
        clear hb2
        have ⟨_, x0, x1, fx0, fx1⟩ := hxb.open2
        have ⟨_, r0, r1, fr0, fr1⟩ := hrb.open2
        have hx0 := hxb.1
        have hr0 := hrb.1
        have hkq := Lib.hid hK.out
        have kG := fun w1 h => ref54_gens 0 c A fs w1 h (by omega)
        have hrl := Lib.hid (show ∀ q ∈ tlP K fs ++ [p], rightC q = true from fun q hq => (List.mem_append.1 hq).elim (hPr.out q) (fun h => by rw [List.mem_singleton.1 h]; exact hpr.out))
        have hoff : ∀ q ∈ ekC.blk (D, k, e), some q ≠ (Value.slice A1 0 d1).ownBlock := fun q hq e1 => by have h1 := hRl.out q hq; have h2 := OwnX.ge hO q e1.symm; omega
        clear r0 r1 fr0 fr1
        go_wp2_with fail
        go_region_held3 (fun w' => BxW w' xb [.int .i64 (K : Int), .slice A 0 c] ∧ w'.cell? ⟨xb, 0, none⟩ = some (.int .i64 (K : Int)) ∧ w'.cell? ⟨xb, 1, none⟩ = some (.slice A 0 c))
          (((try go_split_ands); refine BxW.two ?_; first | ((repeat (first | assumption | (with_reducible refine BxW.drew ?_) | (with_reducible refine BxW.al ?_ _) | (with_reducible refine BxW.of ?_ hb8) | (with_reducible refine box_over ?_ hO (by omega) hg6) | (with_reducible refine BxW.grown ?_ hg5 (fun e => by have h1 := (hown3.row.lt _ e.symm).1; omega)) | (with_reducible refine BxW.of ?_ hb7))); done) | (refine BxW.off (BxW.off ?_ 0 _ (fun e => hxr e.symm)) 1 _ (fun e => hxr e.symm); (repeat (first | assumption | (with_reducible refine BxW.drew ?_) | (with_reducible refine BxW.al ?_ _) | (with_reducible refine BxW.of ?_ hb8) | (with_reducible refine box_over ?_ hO (by omega) hg6) | (with_reducible refine BxW.grown ?_ hg5 (fun e => by have h1 := (hown3.row.lt _ e.symm).1; omega)) | (with_reducible refine BxW.of ?_ hb7))); done) | fail))
          ((first | (go_at_call 78; (try go_split_ands); refine (kG _ (by repeat (first | assumption | (with_reducible refine RdX.drewX ?_) | (with_reducible refine RdX.al ?_ _)))).mono ?_; rintro e3 w3 ⟨G3, g3, rfl, hown3, hb7⟩; have hq3 : Below w2.heap.size w2 w3 := belowR (by (repeat' (first | assumption | (with_reducible exact Below.refl _ _) | (with_reducible refine Below.drew ?_) | (with_reducible refine Below.alloc ?_ ?_ _) | (simp only [World.size_alloc, World.size_drew]; omega) | omega))) (by ((try simp only [World.size_alloc, World.size_drew]); omega)) hb7; have hown3x := hown3; replace hown3 := hown3.more (show w2.heap.size ≤ _ by ((try simp only [World.size_alloc, World.size_drew]); omega)); have hz3 := hq3.size) | (refine step_append_el (by rfl) (.tmp 55) (.tmp 57) 84 (by rfl) encI 1 3 (.int .i64 0) 8 Tryz.underlying84 (by kernel_rfl) rfl (by decide) encI_len encI_one w2.heap.size G3 _ g3 (gnL fs) (by rfl) (by repeat (first | assumption | (with_reducible refine Own.drewO ?_) | (with_reducible refine Own.al ?_ _))) gen _ 1 (by rfl) (news_of (vs := [.int .i64 gen]) (by (repeat (first | assumption | (with_reducible exact BxW.new _ _ _) | (with_reducible exact BxW.newAt _ _ _ (by first | rfl | (simp only [World.size_alloc, World.size_drew]))) | (with_reducible refine BxW.drew ?_) | (with_reducible refine BxW.al ?_ _) | (with_reducible refine BxW.grown ?_ hg5 (fun e => by have h1 := hown3x.row.lt _ e.symm; (try simp only [World.size_alloc, World.size_drew] at h1); omega)) | (with_reducible refine BxW.of ?_ hb7))))) (by omega) (by omega) (by ((try simp only [World.size_alloc, World.size_drew]); omega)) ?_; intro A5 c5 w5 hown5 hg5 hb5; have hq5 : Below w2.heap.size w2 w5 := Below.trans (by (repeat' (first | assumption | (with_reducible exact Below.refl _ _) | (with_reducible refine Below.drew ?_) | (with_reducible refine Below.alloc ?_ ?_ _) | (simp only [World.size_alloc, World.size_drew]; omega) | omega))) hb5; have hz5 := hq5.size) | (refine step_append_x (K := ekC) (by rfl) (.tmp 59) (.tmp 61) 91 (by rfl) 27 (.slice none 0 0) 24 Tryz.underlying91 (by kernel_rfl) rfl we.heap.size A1 _ d1 (tlP K fs) (by rfl) (OwnX.of hO (by (repeat' (first | assumption | (with_reducible exact Below.refl _ _) | (with_reducible refine Below.drew ?_) | (with_reducible refine Below.alloc ?_ ?_ _) | (simp only [World.size_alloc, World.size_drew]; omega) | omega)))) (D, k, e) p ⟨hR.of (by (repeat' (first | assumption | (with_reducible exact Below.refl _ _) | (with_reducible refine Below.drew ?_) | (with_reducible refine Below.alloc ?_ ?_ _) | (simp only [World.size_alloc, World.size_drew]; omega) | omega))), hke⟩ hoff _ 1 (by rfl) (news_of (vs := [.slice D k e]) (by (repeat (first | assumption | (with_reducible exact BxW.new _ _ _) | (with_reducible exact BxW.newAt _ _ _ (by first | rfl | (simp only [World.size_alloc, World.size_drew]))) | (with_reducible refine BxW.drew ?_) | (with_reducible refine BxW.al ?_ _) | (with_reducible refine BxW.grown ?_ hg5 (fun e => by have h1 := hown3x.row.lt _ e.symm; (try simp only [World.size_alloc, World.size_drew] at h1); omega)) | (with_reducible refine BxW.of ?_ hb7))))) (by omega) (by omega) (by ((try simp only [World.size_alloc, World.size_drew]); omega)) ?_; intro A6 c6 w6 hO6 hg6 hb6; have hG6 := gens_over hown5 (by (repeat' (first | (with_reducible exact Below.refl _ _) | (with_reducible refine Below.drew ?_) | (with_reducible refine Below.alloc ?_ ?_ _) | (simp only [World.size_alloc, World.size_drew]; omega) | omega))) hO hg6; have hz6 := hg6.size) | (go_at_call 66; (try go_split_ands); refine (ref54_build K (0 + 1) _ _ _ A5 A6 (gnL fs ++ [gen]) (tlP K fs ++ [p]) _ hkq.out (by repeat (first | exact hG6 | (with_reducible refine Rd.drewR ?_) | (with_reducible refine Rd.al ?_ _))) (by repeat (first | exact hO6.rd | (with_reducible refine RdX.drewX ?_) | (with_reducible refine RdX.al ?_ _))) hrl.out (by omega) (by omega)).mono ?_; rintro e7 w8 ⟨B8, m8, d8, rfl, hO8, hb8⟩; have hrb8 : BxW w8 rb [.int .i64 0, .slice none 0 0] := BxW.of (by (repeat (first | assumption | (with_reducible refine BxW.drew ?_) | (with_reducible refine BxW.al ?_ _) | (with_reducible refine BxW.of ?_ hb8) | (with_reducible refine box_over ?_ hO (by omega) hg6) | (with_reducible refine BxW.grown ?_ hg5 (fun e => by have h1 := (hown3.row.lt _ e.symm).1; omega)) | (with_reducible refine BxW.of ?_ hb7)))) hb8; have ⟨_, r80, r81, f80, f81⟩ := hrb8.open2) | fail))
        all_goals
          have hq5w : Below we.heap.size w2 w5 := hq5.mono (by omega)
          have hs6 := hb6.size
          have hB8 : Below w.heap.size w w8 := by
            refine hB.trans (Below.mono (B := we.heap.size) ?_ (by omega))
            refine Below.trans (Below.trans ?_ hb6) (hb8.mono (by (try simp only [World.size_alloc, World.size_drew] at hs6); omega))
            (repeat' (first | exact hq5w | (with_reducible refine Below.drew ?_) | (with_reducible refine Below.alloc ?_ ?_ _) | (simp only [World.size_alloc, World.size_drew]; omega) | omega))
          go_wp2_with fail
          refine bodyPost_ret (v := .tuple #[.agg #[.int .i64 (K : Int), .slice B8 m8 d8], .int .i64 0]) (by simp [results, Tryz.results29, go_sem, *, ↓IntWalk.iteOmega]) rfl ?_
          refine ⟨B8, m8, d8, ret_tle HE.out.2.2.symm HE.out.1.symm, ?_, hO8.capX, (hB8.setCell hrg _).setCell hrg _⟩
          rw [HE.out.2.1, hFl.out]
          exact hO8.rd.set2 hrb8 _ _
      obtain ⟨g, fu, C, G, hx⟩ : ∃ g fu C G, fs[n - 1]? = some (g, fu, C, G) := by
        obtain ⟨⟨g, fu, C, G⟩, h⟩ : ∃ f, fs[n - 1]? = some f := ⟨_, List.getElem?_eq_getElem (by rw [hFl.out]; omega)⟩
        exact ⟨g, fu, C, G, h⟩
      have hlg : lastG fs n = g := by
        have := last_step hx
        rwa [show n - 1 + 1 = n by omega] at this
      have hxq := Lib.hid hx
      have hn0 : 0 < n := by omega
      have dn : decide (0 < (n : Int)) = true := decide_eq_true (by omega)
      have dn' : decide (0 < n) = true := decide_eq_true hn0
      have hmw : IntKind.i64.wrap ((n : Int) - 1) = ((n - 1 : Nat) : Int) := by rw [IntWalk.i64_in _ (by omega)]; omega
      have hni : n - 1 < n := by omega
      have hnc : n - 1 < c := by omega
      clear hx
      by_cases q2 : gen ≤ g
      · have HE := Lib.hid (ad_no (q := 9) (show adE K fs gen p = 9 by unfold adE; rw [if_pos hmn.out, hFl.out, if_pos ⟨hn0, by rw [hlg]; exact q2⟩]) (by omega))
        have dg : decide (gen ≤ g) = true := decide_eq_true q2
        clear q2 hlg hmn
        go_enter Tryz.func29, Tryz.ntmps29
        go_wp2_with fail
        obtain ⟨we, hwe, hxb, hrb, hB, hsw⟩ := two_boxesT w (K : Int) A n c 34 34
        rw [← hwe]
        clear hwe
        obtain ⟨xb, hxe⟩ : ∃ xb, xb = w.heap.size := ⟨_, rfl⟩
        obtain ⟨rb, hre⟩ : ∃ rb, rb = w.heap.size + 1 := ⟨_, rfl⟩
        rw [← hxe] at hxb
        rw [← hre] at hrb
        rw [← hre, ← hxe]
        have hrg : w.heap.size ≤ rb := by omega
        have hxg : w.heap.size ≤ xb := by omega
        have hxr : xb ≠ rb := by omega
        have hxB : xb < we.heap.size := by omega
        have hrB : rb < we.heap.size := by omega
        clear hre hxe
        replace hF := hF.of hB
        replace hR := hR.of hB
        have ⟨_, x0, x1, fx0, fx1⟩ := hxb.open2
        go_wp2_with fail
        go_at_call 74
        refine (kP _ hF).mono ?_
        rintro e1 w1 ⟨A1, m1, d1, rfl, hO, hb1⟩
        clear x0 x1 fx0 fx1
        replace hF := hF.of hb1
        replace hR := hR.of hb1
        replace hxb := hxb.of hb1
        replace hrb := hrb.of hb1
        have hs1 := hb1.size
        replace hB := below_thru hB hb1
        clear hb1
        have ⟨_, x0, x1, fx0, fx1⟩ := hxb.open2
        have ⟨_, r0, r1, fr0, fr1⟩ := hrb.open2
        obtain rfl : n = m1 := by rw [← hO.len, hPl.out, hFl.out]
        go_wp2_with fail
        go_at_call 77
        refine (kR _ hR).mono ?_
        rintro e2 w2 ⟨rfl, hb2⟩
        clear x0 x1 fx0 fx1 r0 r1 fr0 fr1
        replace hF := hF.of hb2
        replace hR := hR.of hb2
        replace hO := hO.of hb2
        replace hxb := hxb.of hb2
        replace hrb := hrb.of hb2
        have hs2 := hb2.size
        replace hB := below_thru hB hb2
        clear hb2
        have ⟨_, x0, x1, fx0, fx1⟩ := hxb.open2
        have ⟨_, r0, r1, fr0, fr1⟩ := hrb.open2
        obtain ⟨g2, fu2, C2, G2, CA, cn, cc, DA, dn2, dc, fo, of, hx2, rfl, hfo, g0, _⟩ := hF.frm (i := n - 1) hni
        obtain rfl : g2 = g := by have := hx2.out.symm.trans hxq.out; injection this with this; injection this with this
        obtain ⟨i, hi⟩ : ∃ i, i = n - 1 := ⟨_, rfl⟩
        rw [← hi] at g0 hmw hni hnc
        have hiq := Lib.hid hi
        have hi0 : (0 : Int) ≤ (i : Int) := by omega
        have hi1 : (i : Int) < (n : Int) := by omega
        clear hi hx2
        go_wp2_with fail
        refine bodyPost_ret (v := .tuple #[.agg #[.int .i64 0, .slice none 0 0], .int .i64 9]) (by simp [results, Tryz.results29, go_sem, *, ↓IntWalk.iteOmega]) rfl ?_
        exact ⟨none, 0, 0, ret_tle HE.out.2.2.symm HE.out.1.symm, by rw [HE.out.2.1]; exact RdX.nil_, by omega, (hB.setCell hrg _).setCell hrg _⟩
      have dg : decide (gen ≤ g) = false := decide_eq_false q2
      by_cases q3 : 1000 ≤ n
      · have HE := Lib.hid (ad_no (q := 6) (show adE K fs gen p = 6 by unfold adE; rw [if_pos hmn.out, hFl.out, if_neg (by rw [hlg]; omega), if_pos q3]) (by omega))
        have dm : decide (1000 ≤ (n : Int)) = true := decide_eq_true (by omega)
        have dm' : decide (1000 ≤ n) = true := decide_eq_true (by omega)
        clear q2 q3 hlg hmn
        go_enter Tryz.func29, Tryz.ntmps29
        go_wp2_with fail
        obtain ⟨we, hwe, hxb, hrb, hB, hsw⟩ := two_boxesT w (K : Int) A n c 34 34
        rw [← hwe]
        clear hwe
        obtain ⟨xb, hxe⟩ : ∃ xb, xb = w.heap.size := ⟨_, rfl⟩
        obtain ⟨rb, hre⟩ : ∃ rb, rb = w.heap.size + 1 := ⟨_, rfl⟩
        rw [← hxe] at hxb
        rw [← hre] at hrb
        rw [← hre, ← hxe]
        have hrg : w.heap.size ≤ rb := by omega
        have hxg : w.heap.size ≤ xb := by omega
        have hxr : xb ≠ rb := by omega
        have hxB : xb < we.heap.size := by omega
        have hrB : rb < we.heap.size := by omega
        clear hre hxe
        replace hF := hF.of hB
        replace hR := hR.of hB
        have ⟨_, x0, x1, fx0, fx1⟩ := hxb.open2
        go_wp2_with fail
        go_at_call 74
        refine (kP _ hF).mono ?_
        rintro e1 w1 ⟨A1, m1, d1, rfl, hO, hb1⟩
        clear x0 x1 fx0 fx1
        replace hF := hF.of hb1
        replace hR := hR.of hb1
        replace hxb := hxb.of hb1
        replace hrb := hrb.of hb1
        have hs1 := hb1.size
        replace hB := below_thru hB hb1
        clear hb1
        have ⟨_, x0, x1, fx0, fx1⟩ := hxb.open2
        have ⟨_, r0, r1, fr0, fr1⟩ := hrb.open2
        obtain rfl : n = m1 := by rw [← hO.len, hPl.out, hFl.out]
        go_wp2_with fail
        go_at_call 77
        refine (kR _ hR).mono ?_
        rintro e2 w2 ⟨rfl, hb2⟩
        clear x0 x1 fx0 fx1 r0 r1 fr0 fr1
        replace hF := hF.of hb2
        replace hR := hR.of hb2
        replace hO := hO.of hb2
        replace hxb := hxb.of hb2
        replace hrb := hrb.of hb2
        have hs2 := hb2.size
        replace hB := below_thru hB hb2
        clear hb2
        have ⟨_, x0, x1, fx0, fx1⟩ := hxb.open2
        have ⟨_, r0, r1, fr0, fr1⟩ := hrb.open2
        obtain ⟨g2, fu2, C2, G2, CA, cn, cc, DA, dn2, dc, fo, of, hx2, rfl, hfo, g0, _⟩ := hF.frm (i := n - 1) hni
        obtain rfl : g2 = g := by have := hx2.out.symm.trans hxq.out; injection this with this; injection this with this
        obtain ⟨i, hi⟩ : ∃ i, i = n - 1 := ⟨_, rfl⟩
        rw [← hi] at g0 hmw hni hnc
        have hiq := Lib.hid hi
        have hi0 : (0 : Int) ≤ (i : Int) := by omega
        have hi1 : (i : Int) < (n : Int) := by omega
        clear hi hx2
        go_wp2_with fail
        refine bodyPost_ret (v := .tuple #[.agg #[.int .i64 0, .slice none 0 0], .int .i64 6]) (by simp [results, Tryz.results29, go_sem, *, ↓IntWalk.iteOmega]) rfl ?_
        exact ⟨none, 0, 0, ret_tle HE.out.2.2.symm HE.out.1.symm, by rw [HE.out.2.1]; exact RdX.nil_, by omega, (hB.setCell hrg _).setCell hrg _⟩
      have hn2 : n + 1 ≤ 1000 := by omega
      have dm : decide (1000 ≤ (n : Int)) = false := decide_eq_false (by omega)
      have dm' : decide (1000 ≤ n) = false := decide_eq_false (by omega)
      have HE := Lib.hid (ad_yesR (show adE K fs gen p = 0 by unfold adE; rw [if_pos hmn.out, hFl.out, if_neg (by rw [hlg]; omega), if_neg q3]))
      clear q2 q3 hlg hmn
      go_enter Tryz.func29, Tryz.ntmps29
      go_wp2_with fail
      obtain ⟨we, hwe, hxb, hrb, hB, hsw⟩ := two_boxesT w (K : Int) A n c 34 34
      rw [← hwe]
      clear hwe
      obtain ⟨xb, hxe⟩ : ∃ xb, xb = w.heap.size := ⟨_, rfl⟩
      obtain ⟨rb, hre⟩ : ∃ rb, rb = w.heap.size + 1 := ⟨_, rfl⟩
      rw [← hxe] at hxb
      rw [← hre] at hrb
      rw [← hre, ← hxe]
      have hrg : w.heap.size ≤ rb := by omega
      have hxg : w.heap.size ≤ xb := by omega
      have hxr : xb ≠ rb := by omega
      have hxB : xb < we.heap.size := by omega
      have hrB : rb < we.heap.size := by omega
      clear hre hxe
      replace hF := hF.of hB
      replace hR := hR.of hB
      have ⟨_, x0, x1, fx0, fx1⟩ := hxb.open2
      go_wp2_with fail
      go_at_call 74
      refine (kP _ hF).mono ?_
      rintro e1 w1 ⟨A1, m1, d1, rfl, hO, hb1⟩
      clear x0 x1 fx0 fx1
      replace hF := hF.of hb1
      replace hR := hR.of hb1
      replace hxb := hxb.of hb1
      replace hrb := hrb.of hb1
      have hs1 := hb1.size
      replace hB := below_thru hB hb1
      clear hb1
      have ⟨_, x0, x1, fx0, fx1⟩ := hxb.open2
      have ⟨_, r0, r1, fr0, fr1⟩ := hrb.open2
      obtain rfl : n = m1 := by rw [← hO.len, hPl.out, hFl.out]
      go_wp2_with fail
      go_at_call 77
      refine (kR _ hR).mono ?_
      rintro e2 w2 ⟨rfl, hb2⟩
      clear x0 x1 fx0 fx1 r0 r1 fr0 fr1
      replace hF := hF.of hb2
      replace hR := hR.of hb2
      replace hO := hO.of hb2
      replace hxb := hxb.of hb2
      replace hrb := hrb.of hb2
      have hs2 := hb2.size
      replace hB := below_thru hB hb2
      clear hb2
      have ⟨_, x0, x1, fx0, fx1⟩ := hxb.open2
      have ⟨_, r0, r1, fr0, fr1⟩ := hrb.open2
      obtain ⟨g2, fu2, C2, G2, CA, cn, cc, DA, dn2, dc, fo, of, hx2, rfl, hfo, g0, _⟩ := hF.frm (i := n - 1) hni
      obtain rfl : g2 = g := by have := hx2.out.symm.trans hxq.out; injection this with this; injection this with this
      obtain ⟨i, hi⟩ : ∃ i, i = n - 1 := ⟨_, rfl⟩
      rw [← hi] at g0 hmw hni hnc
      have hiq := Lib.hid hi
      have hi0 : (0 : Int) ≤ (i : Int) := by omega
      have hi1 : (i : Int) < (n : Int) := by omega
      clear hi hx2
      have hx0 := hxb.1
      have hr0 := hrb.1
      have hkq := Lib.hid hK.out
      have kG := fun w1 h => ref54_gens n c (some ⟨fo, of, none⟩) fs w1 h (by omega)
      have hrl := Lib.hid (show ∀ q ∈ tlP K fs ++ [p], rightC q = true from fun q hq => (List.mem_append.1 hq).elim (hPr.out q) (fun h => by rw [List.mem_singleton.1 h]; exact hpr.out))
      have hoff : ∀ q ∈ ekC.blk (D, k, e), some q ≠ (Value.slice A1 n d1).ownBlock := fun q hq e1 => by have h1 := hRl.out q hq; have h2 := OwnX.ge hO q e1.symm; omega
      clear r0 r1 fr0 fr1
      go_wp2_with fail
      go_region_held3 (fun w' => BxW w' xb [.int .i64 (K : Int), .slice (some ⟨fo, of, none⟩) n c] ∧ w'.cell? ⟨xb, 0, none⟩ = some (.int .i64 (K : Int)) ∧ w'.cell? ⟨xb, 1, none⟩ = some (.slice (some ⟨fo, of, none⟩) n c))
        (((try go_split_ands); refine BxW.two ?_; first | ((repeat (first | assumption | (with_reducible refine BxW.drew ?_) | (with_reducible refine BxW.al ?_ _) | (with_reducible refine BxW.of ?_ hb8) | (with_reducible refine box_over ?_ hO (by omega) hg6) | (with_reducible refine BxW.grown ?_ hg5 (fun e => by have h1 := (hown3.row.lt _ e.symm).1; omega)) | (with_reducible refine BxW.of ?_ hb7))); done) | (refine BxW.off (BxW.off ?_ 0 _ (fun e => hxr e.symm)) 1 _ (fun e => hxr e.symm); (repeat (first | assumption | (with_reducible refine BxW.drew ?_) | (with_reducible refine BxW.al ?_ _) | (with_reducible refine BxW.of ?_ hb8) | (with_reducible refine box_over ?_ hO (by omega) hg6) | (with_reducible refine BxW.grown ?_ hg5 (fun e => by have h1 := (hown3.row.lt _ e.symm).1; omega)) | (with_reducible refine BxW.of ?_ hb7))); done) | fail))
        ((first | (go_at_call 78; (try go_split_ands); refine (kG _ (by repeat (first | assumption | (with_reducible refine RdX.drewX ?_) | (with_reducible refine RdX.al ?_ _)))).mono ?_; rintro e3 w3 ⟨G3, g3, rfl, hown3, hb7⟩; have hq3 : Below w2.heap.size w2 w3 := belowR (by (repeat' (first | assumption | (with_reducible exact Below.refl _ _) | (with_reducible refine Below.drew ?_) | (with_reducible refine Below.alloc ?_ ?_ _) | (simp only [World.size_alloc, World.size_drew]; omega) | omega))) (by ((try simp only [World.size_alloc, World.size_drew]); omega)) hb7; have hown3x := hown3; replace hown3 := hown3.more (show w2.heap.size ≤ _ by ((try simp only [World.size_alloc, World.size_drew]); omega)); have hz3 := hq3.size) | (refine step_append_el (by rfl) (.tmp 55) (.tmp 57) 84 (by rfl) encI 1 3 (.int .i64 0) 8 Tryz.underlying84 (by kernel_rfl) rfl (by decide) encI_len encI_one w2.heap.size G3 _ g3 (gnL fs) (by rfl) (by repeat (first | assumption | (with_reducible refine Own.drewO ?_) | (with_reducible refine Own.al ?_ _))) gen _ 1 (by rfl) (news_of (vs := [.int .i64 gen]) (by (repeat (first | assumption | (with_reducible exact BxW.new _ _ _) | (with_reducible exact BxW.newAt _ _ _ (by first | rfl | (simp only [World.size_alloc, World.size_drew]))) | (with_reducible refine BxW.drew ?_) | (with_reducible refine BxW.al ?_ _) | (with_reducible refine BxW.grown ?_ hg5 (fun e => by have h1 := hown3x.row.lt _ e.symm; (try simp only [World.size_alloc, World.size_drew] at h1); omega)) | (with_reducible refine BxW.of ?_ hb7))))) (by omega) (by omega) (by ((try simp only [World.size_alloc, World.size_drew]); omega)) ?_; intro A5 c5 w5 hown5 hg5 hb5; have hq5 : Below w2.heap.size w2 w5 := Below.trans (by (repeat' (first | assumption | (with_reducible exact Below.refl _ _) | (with_reducible refine Below.drew ?_) | (with_reducible refine Below.alloc ?_ ?_ _) | (simp only [World.size_alloc, World.size_drew]; omega) | omega))) hb5; have hz5 := hq5.size) | (refine step_append_x (K := ekC) (by rfl) (.tmp 59) (.tmp 61) 91 (by rfl) 27 (.slice none 0 0) 24 Tryz.underlying91 (by kernel_rfl) rfl we.heap.size A1 _ d1 (tlP K fs) (by rfl) (OwnX.of hO (by (repeat' (first | assumption | (with_reducible exact Below.refl _ _) | (with_reducible refine Below.drew ?_) | (with_reducible refine Below.alloc ?_ ?_ _) | (simp only [World.size_alloc, World.size_drew]; omega) | omega)))) (D, k, e) p ⟨hR.of (by (repeat' (first | assumption | (with_reducible exact Below.refl _ _) | (with_reducible refine Below.drew ?_) | (with_reducible refine Below.alloc ?_ ?_ _) | (simp only [World.size_alloc, World.size_drew]; omega) | omega))), hke⟩ hoff _ 1 (by rfl) (news_of (vs := [.slice D k e]) (by (repeat (first | assumption | (with_reducible exact BxW.new _ _ _) | (with_reducible exact BxW.newAt _ _ _ (by first | rfl | (simp only [World.size_alloc, World.size_drew]))) | (with_reducible refine BxW.drew ?_) | (with_reducible refine BxW.al ?_ _) | (with_reducible refine BxW.grown ?_ hg5 (fun e => by have h1 := hown3x.row.lt _ e.symm; (try simp only [World.size_alloc, World.size_drew] at h1); omega)) | (with_reducible refine BxW.of ?_ hb7))))) (by omega) (by omega) (by ((try simp only [World.size_alloc, World.size_drew]); omega)) ?_; intro A6 c6 w6 hO6 hg6 hb6; have hG6 := gens_over hown5 (by (repeat' (first | (with_reducible exact Below.refl _ _) | (with_reducible refine Below.drew ?_) | (with_reducible refine Below.alloc ?_ ?_ _) | (simp only [World.size_alloc, World.size_drew]; omega) | omega))) hO hg6; have hz6 := hg6.size) | (go_at_call 66; (try go_split_ands); refine (ref54_build K (n + 1) _ _ _ A5 A6 (gnL fs ++ [gen]) (tlP K fs ++ [p]) _ hkq.out (by repeat (first | exact hG6 | (with_reducible refine Rd.drewR ?_) | (with_reducible refine Rd.al ?_ _))) (by repeat (first | exact hO6.rd | (with_reducible refine RdX.drewX ?_) | (with_reducible refine RdX.al ?_ _))) hrl.out (by omega) (by omega)).mono ?_; rintro e7 w8 ⟨B8, m8, d8, rfl, hO8, hb8⟩; have hrb8 : BxW w8 rb [.int .i64 0, .slice none 0 0] := BxW.of (by (repeat (first | assumption | (with_reducible refine BxW.drew ?_) | (with_reducible refine BxW.al ?_ _) | (with_reducible refine BxW.of ?_ hb8) | (with_reducible refine box_over ?_ hO (by omega) hg6) | (with_reducible refine BxW.grown ?_ hg5 (fun e => by have h1 := (hown3.row.lt _ e.symm).1; omega)) | (with_reducible refine BxW.of ?_ hb7)))) hb8; have ⟨_, r80, r81, f80, f81⟩ := hrb8.open2) | fail))
      all_goals
        have hq5w : Below we.heap.size w2 w5 := hq5.mono (by omega)
        have hs6 := hb6.size
        have hB8 : Below w.heap.size w w8 := by
          refine hB.trans (Below.mono (B := we.heap.size) ?_ (by omega))
          refine Below.trans (Below.trans ?_ hb6) (hb8.mono (by (try simp only [World.size_alloc, World.size_drew] at hs6); omega))
          (repeat' (first | exact hq5w | (with_reducible refine Below.drew ?_) | (with_reducible refine Below.alloc ?_ ?_ _) | (simp only [World.size_alloc, World.size_drew]; omega) | omega))
        go_wp2_with fail
        refine bodyPost_ret (v := .tuple #[.agg #[.int .i64 (K : Int), .slice B8 m8 d8], .int .i64 0]) (by simp [results, Tryz.results29, go_sem, *, ↓IntWalk.iteOmega]) rfl ?_
        refine ⟨B8, m8, d8, ret_tle HE.out.2.2.symm HE.out.1.symm, ?_, hO8.capX, (hB8.setCell hrg _).setCell hrg _⟩
        rw [HE.out.2.1, hFl.out]
        exact hO8.rd.set2 hrb8 _ _
end Go.Proofs.YtabfefhicfmabaaGreat
