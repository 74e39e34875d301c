/- Diff, the reference's. By mktim18.py. -/
import Derived.Test.YtabfefhicfmabaaGreatTMD
import Derived.Test.YtabfefhicfmabaaGreatTim2
import Derived.Test.YtabfefhicfmabaaGreatDLS
namespace Go.Proofs.YtabfefhicfmabaaGreat
open Go Go.RowKit
set_option linter.unusedSimpArgs false
set_option linter.unusedVariables false
set_option maxRecDepth 100000
set_option linter.unusedSimpArgs false
set_option linter.unusedVariables false
set_option maxHeartbeats 16000000 in
theorem ref54_Diff (ka kb : Int) (A B : Option Addr) (n c m d : Nat) (fa fb : List TFr) (w : World) (hF : RdX ekFr w A n fa) (hG : RdX ekFr w B m fb) (hsa : SmT fa) (hsb : SmT fb) :
    Calls Tryz.prog 33 #[.agg #[.int .i64 ka, .slice A n c], .agg #[.int .i64 kb, .slice B m d]] w fun e w' => ∃ B' m' d', e = .returned (.tuple #[.int .i64 (dfL ka fa kb fb).1, .slice B' m' d', .bool (dfL ka fa kb fb).2.2, .int .i64 (dfE ka fa kb fb)]) ∧ Rd encG 4 w' B' m' (dfL ka fa kb fb).2.1 ∧ m' ≤ d' ∧ m' ≤ 10000 ∧ Below w.heap.size w w' := by
  have kA := fun w1 h => ref54_Patterns ka A n c fa w1 h hsa
  have kB := fun w1 h => ref54_Patterns kb B m d fb w1 h hsb
  have hFl := Lib.hid hF.len
  have hGl := Lib.hid hG.len
  cases hva : tlB ka fa with
  | false =>
    have HE := Lib.hid (df_two (kb := kb) (fb := fb) (.inl hva))
    rw [hva] at kA
    generalize tlB kb fb = v at kB
    clear hva
    go_enter Tryz.func33, Tryz.ntmps33
    go_wp2_with fail
    obtain ⟨we, hwe, hxb, hyb, hB, hsw⟩ := two_boxesS w ka kb A B n c m d 34
    rw [← hwe]
    clear hwe
    obtain ⟨xb, hxe⟩ : ∃ xb, xb = w.heap.size := ⟨_, rfl⟩
    obtain ⟨yb, hye⟩ : ∃ yb, yb = w.heap.size + 1 := ⟨_, rfl⟩
    rw [← hxe] at hxb
    rw [← hye] at hyb
    rw [← hye, ← hxe]
    clear hxe hye
    replace hF := hF.of hB
    replace hG := hG.of hB
    have ⟨_, x0, x1, _, _⟩ := hxb.open2
    have ⟨_, y0, y1, _, _⟩ := hyb.open2
    go_wp2_with fail
    go_at_call 74
    refine (kA _ hF).mono ?_
    rintro e1 w1 ⟨A1, m1, d1, rfl, hO1, hb1⟩
    clear x0 x1 y0 y1
    replace hF := hF.of hb1
    replace hG := hG.of hb1
    replace hxb := hxb.of hb1
    replace hyb := hyb.of hb1
    replace hB := below_thru hB hb1
    clear hb1
    have ⟨_, x0, x1, _, _⟩ := hxb.open2
    have ⟨_, y0, y1, _, _⟩ := hyb.open2
    go_wp2_with fail
    go_at_call 74
    refine (kB _ hG).mono ?_
    rintro e2 w2 ⟨A2, m2, d2, rfl, hO2, hb2⟩
    clear x0 x1 y0 y1
    replace hO1 := hO1.of hb2
    replace hF := hF.of hb2
    replace hG := hG.of hb2
    replace hxb := hxb.of hb2
    replace hyb := hyb.of hb2
    replace hB := below_thru hB hb2
    clear hb2
    have ⟨_, x0, x1, _, _⟩ := hxb.open2
    have ⟨_, y0, y1, _, _⟩ := hyb.open2
    go_wp2_with fail
    refine bodyPost_ret (v := .tuple #[.int .i64 0, .slice none 0 0, .bool false, .int .i64 2]) (by simp [results, Tryz.results33, go_sem, *, ↓IntWalk.iteOmega]) rfl ?_
    exact ⟨_, _, _, ret_df (by rw [HE.out.2]) (by rw [HE.out.2]) HE.out.1.symm, by rw [HE.out.2]; exact Rd.nil_, by omega, by omega, hB⟩
  | true =>
    cases hvb : tlB kb fb with
    | false =>
      have HE := Lib.hid (df_two (ka := ka) (fa := fa) (.inr hvb))
      rw [hva] at kA
      rw [hvb] at kB
      clear hva hvb
      go_enter Tryz.func33, Tryz.ntmps33
      go_wp2_with fail
      obtain ⟨we, hwe, hxb, hyb, hB, hsw⟩ := two_boxesS w ka kb A B n c m d 34
      rw [← hwe]
      clear hwe
      obtain ⟨xb, hxe⟩ : ∃ xb, xb = w.heap.size := ⟨_, rfl⟩
      obtain ⟨yb, hye⟩ : ∃ yb, yb = w.heap.size + 1 := ⟨_, rfl⟩
      rw [← hxe] at hxb
      rw [← hye] at hyb
      rw [← hye, ← hxe]
      clear hxe hye
      replace hF := hF.of hB
      replace hG := hG.of hB
      have ⟨_, x0, x1, _, _⟩ := hxb.open2
      have ⟨_, y0, y1, _, _⟩ := hyb.open2
      go_wp2_with fail
      go_at_call 74
      refine (kA _ hF).mono ?_
      rintro e1 w1 ⟨A1, m1, d1, rfl, hO1, hb1⟩
      clear x0 x1 y0 y1
      replace hF := hF.of hb1
      replace hG := hG.of hb1
      replace hxb := hxb.of hb1
      replace hyb := hyb.of hb1
      replace hB := below_thru hB hb1
      clear hb1
      have ⟨_, x0, x1, _, _⟩ := hxb.open2
      have ⟨_, y0, y1, _, _⟩ := hyb.open2
      go_wp2_with fail
      go_at_call 74
      refine (kB _ hG).mono ?_
      rintro e2 w2 ⟨A2, m2, d2, rfl, hO2, hb2⟩
      clear x0 x1 y0 y1
      replace hO1 := hO1.of hb2
      replace hF := hF.of hb2
      replace hG := hG.of hb2
      replace hxb := hxb.of hb2
      replace hyb := hyb.of hb2
      replace hB := below_thru hB hb2
      clear hb2
      have ⟨_, x0, x1, _, _⟩ := hxb.open2
      have ⟨_, y0, y1, _, _⟩ := hyb.open2
      go_wp2_with fail
      refine bodyPost_ret (v := .tuple #[.int .i64 0, .slice none 0 0, .bool false, .int .i64 2]) (by simp [results, Tryz.results33, go_sem, *, ↓IntWalk.iteOmega]) rfl ?_
      exact ⟨_, _, _, ret_df (by rw [HE.out.2]) (by rw [HE.out.2]) HE.out.1.symm, by rw [HE.out.2]; exact Rd.nil_, by omega, by omega, hB⟩
    | true =>
      have HD := df_good hva hvb
      have hPa := Lib.hid (tlP_len hva)
      have hPb := Lib.hid (tlP_len hvb)
      have hRa := Lib.hid (tlP_right hva)
      have hRb := Lib.hid (tlP_right hvb)
      have hn1 : n ≤ 1000 := by rw [← hFl.out]; exact (tlB_iff.1 hva).2.1
      have hm1 : m ≤ 1000 := by rw [← hGl.out]; exact (tlB_iff.1 hvb).2.1
      rw [hva] at kA
      rw [hvb] at kB
      clear hva hvb
      go_enter Tryz.func33, Tryz.ntmps33
      go_wp2_with fail
      obtain ⟨we, hwe, hxb, hyb, hB, hsw⟩ := two_boxesS w ka kb A B n c m d 34
      rw [← hwe]
      clear hwe
      obtain ⟨xb, hxe⟩ : ∃ xb, xb = w.heap.size := ⟨_, rfl⟩
      obtain ⟨yb, hye⟩ : ∃ yb, yb = w.heap.size + 1 := ⟨_, rfl⟩
      rw [← hxe] at hxb
      rw [← hye] at hyb
      rw [← hye, ← hxe]
      clear hxe hye
      replace hF := hF.of hB
      replace hG := hG.of hB
      have ⟨_, x0, x1, _, _⟩ := hxb.open2
      have ⟨_, y0, y1, _, _⟩ := hyb.open2
      go_wp2_with fail
      go_at_call 74
      refine (kA _ hF).mono ?_
      rintro e1 w1 ⟨A1, m1, d1, rfl, hO1, hb1⟩
      clear x0 x1 y0 y1
      replace hF := hF.of hb1
      replace hG := hG.of hb1
      replace hxb := hxb.of hb1
      replace hyb := hyb.of hb1
      replace hB := below_thru hB hb1
      clear hb1
      have ⟨_, x0, x1, _, _⟩ := hxb.open2
      have ⟨_, y0, y1, _, _⟩ := hyb.open2
      go_wp2_with fail
      go_at_call 74
      refine (kB _ hG).mono ?_
      rintro e2 w2 ⟨A2, m2, d2, rfl, hO2, hb2⟩
      clear x0 x1 y0 y1
      replace hO1 := hO1.of hb2
      replace hF := hF.of hb2
      replace hG := hG.of hb2
      replace hxb := hxb.of hb2
      replace hyb := hyb.of hb2
      replace hB := below_thru hB hb2
      clear hb2
      have ⟨_, x0, x1, _, _⟩ := hxb.open2
      have ⟨_, y0, y1, _, _⟩ := hyb.open2
      obtain rfl : n = m1 := by rw [← hO1.len, hPa.out, hFl.out]
      obtain rfl : m = m2 := by rw [← hO2.len, hPb.out, hGl.out]
      have HDq := Lib.hid HD
      clear HD
      have hR1 := hO1.rd
      have hR2 := hO2.rd
      clear hO1 hO2
      have hla := Lib.hid (hPa.out.trans hFl.out)
      have hlb := Lib.hid (hPb.out.trans hGl.out)
      clear x0 x1 y0 y1
      obtain ⟨M, hM⟩ : ∃ M, M = max n m := ⟨_, rfl⟩
      obtain ⟨mn, hmn⟩ : ∃ mn, mn = min n m := ⟨_, rfl⟩
      have eM : max (n : Int) (m : Int) = (M : Int) := by omega
      have emn : min (n : Int) (m : Int) = (mn : Int) := by omega
      have hMq := Lib.hid hM
      have hmq := Lib.hid hmn
      clear hM hmn
      go_wp2_with fail
      go_loopw [12] (fun t wr => ∃ j : Nat, t = .int .i64 j ∧ j ≤ M ∧ Hid (∀ i, i < j → dfB (gnL fa) (gnL fb) (tlP ka fa) (tlP kb fb) i = false) ∧ Below w2.heap.size w2 wr) (fun t _ => M - (intOf t).toNat)
      case atStart => exact ⟨0, rfl, by omega, Lib.hid (fun i h => absurd h (by omega)), Below.refl _ _⟩
      case round =>
        obtain ⟨j, rfl, hj, hall, hb⟩ := hrel
        have hsz := hb.size
        have hB1 : Below w.heap.size w wr := below_thru hB hb
        have ⟨_, x0, x1, _, _⟩ := (hxb.of hb).open2
        have ⟨_, y0, y1, _, _⟩ := (hyb.of hb).open2
        by_cases hlt : j < M
        · have dj : decide ((j : Int) < M) = true := decide_eq_true (by omega)
          have dj' : decide (j < M) = true := decide_eq_true hlt
          by_cases hmj : mn ≤ j
          · skip
            have HE := Lib.hid (And.intro HDq.out.1 (HDq.out.2.trans (df_out hla.out hlb.out (by rw [← hMq.out]; exact hlt) hall.out (by have := hmq.out; omega))))
            have hmm := hmq.out
            have hMM := hMq.out
            by_cases qn : n ≤ j
            · have hjm : j < m := by omega
              have d0 : decide ((j : Int) < n) = false := decide_eq_false (by omega)
              have d0' : decide (j < n) = false := decide_eq_false (by omega)
              have d1 : decide ((j : Int) < m) = true := decide_eq_true (by omega)
              have d1' : decide (j < m) = true := decide_eq_true (by omega)
              have d2 : decide ((n : Int) ≤ j) = true := decide_eq_true (by omega)
              have d2' : decide (n ≤ j) = true := decide_eq_true (by omega)
              clear hmm hMM
              go_wp2_with fail
              refine bodyPost_ret (v := .tuple #[.int .i64 (j : Int), .slice none 0 0, .bool true, .int .i64 0]) (by simp [results, Tryz.results33, go_sem, *, ↓IntWalk.iteOmega]) rfl ?_
              exact ⟨_, _, _, ret_df (by rw [HE.out.2]) (by rw [HE.out.2]) HE.out.1.symm, by rw [HE.out.2]; exact Rd.nil_, by omega, by omega, hB1⟩
            · have hjm : m ≤ j := by omega
              have d0 : decide ((j : Int) < n) = true := decide_eq_true (by omega)
              have d0' : decide (j < n) = true := decide_eq_true (by omega)
              have d1 : decide ((n : Int) ≤ j) = false := decide_eq_false (by omega)
              have d1' : decide (n ≤ j) = false := decide_eq_false (by omega)
              have d2 : decide ((m : Int) ≤ j) = true := decide_eq_true (by omega)
              have d2' : decide (m ≤ j) = true := decide_eq_true (by omega)
              clear hmm hMM
              go_wp2_with fail
              refine bodyPost_ret (v := .tuple #[.int .i64 (j : Int), .slice none 0 0, .bool true, .int .i64 0]) (by simp [results, Tryz.results33, go_sem, *, ↓IntWalk.iteOmega]) rfl ?_
              exact ⟨_, _, _, ret_df (by rw [HE.out.2]) (by rw [HE.out.2]) HE.out.1.symm, by rw [HE.out.2]; exact Rd.nil_, by omega, by omega, hB1⟩
          · have hjn : j < n := by have := hmq.out; omega
            have hjm : j < m := by have := hmq.out; omega
            have d0 : decide ((j : Int) < n) = true := decide_eq_true (by omega)
            have d0' : decide (j < n) = true := decide_eq_true (by omega)
            have d1 : decide ((n : Int) ≤ j) = false := decide_eq_false (by omega)
            have d1' : decide (n ≤ j) = false := decide_eq_false (by omega)
            have d2 : decide ((m : Int) ≤ j) = false := decide_eq_false (by omega)
            have d2' : decide (m ≤ j) = false := decide_eq_false (by omega)
            obtain ⟨g, fu, C, D, CA, cn, cc, DA, dn, dc, bo, o, hx, rfl, hbo, g0, _⟩ := (hF.of hb).frm hjn
            obtain ⟨g', fu', C', D', CA', cn', cc', DA', dn', dc', bo', o', hx', rfl, hbo', g0', _⟩ := (hG.of hb).frm hjm
            obtain ⟨PA, pn, pc, P, bp, op, hp, rfl, hbp, p0, hP, hpc⟩ := (hR1.of hb).pat hjn
            obtain ⟨QA, qn, qc, Q, bq, oq, hq, rfl, hbq, q0, hQ, hqc⟩ := (hR2.of hb).pat hjm
            have rP := hRa.out _ (List.mem_of_getElem? hp.out)
            have rQ := hRb.out _ (List.mem_of_getElem? hq.out)
            have hpn : pn ≤ 5000 := by rw [← hP.len]; exact (rightC_ok rP).1
            have hqn : qn ≤ 5000 := by rw [← hQ.len]; exact (rightC_ok rQ).1
            have hdf := dfB_at hla.out hlb.out hjn hjm hp.out hq.out (gn_frm hx.out) (gn_frm hx'.out)
            have kS := fun w1 h1 h2 => ref05_Same PA QA pn qn pc qc P Q w1 h1 h2 (by omega) (by omega)
            have kO := fun w1 h1 h2 => ref53_Of PA QA pn pc qn qc P Q w1 h1 h2 (by omega) (by omega)
            rw [show ofE P Q = 0 by unfold ofE; rw [if_pos ⟨rP, rQ⟩]] at kO
            clear rP rQ
            by_cases q1 : g = g'
            · subst q1
              skip
              cases hs : sameL P Q with
              | true =>
                have hno : dfB (gnL fa) (gnL fb) (tlP ka fa) (tlP kb fb) j = false := by rw [hdf, hs]; simp
                have hst := Lib.hid (all_below hall.out hno)
                rw [hs] at kS
                clear hs hdf hno
                go_wp2_with fail
                (refine wp_region_ext_lit (by kernel_rfl) (by kernel_rfl) ?_; (repeat (go_big_quiet_step ((go_at_call 22; exact calls_ext (kS _ (hP.of (Ext.below _)) (hQ.of (Ext.below _))))))); refine wpQuiet_nil ?_; intro _ hw'; obtain ⟨z1, hw''⟩ := hw'; subst hw''; have hs1 := z1.size; obtain ⟨hc1, hf1⟩ := bcell z1.below; (try simp only [World.size_alloc, World.size_setCell, World.size_drew] at hc1 hf1); (try simp at hs1))
                have hBz : Below w2.heap.size w2 z1.world := below_thru hb z1.below
                go_wp2_with fail
                go_roundw
                case rel => exact ⟨j + 1, by go_num, by omega, hst, hBz⟩
                case measure => simp [intOf]; omega
              | false =>
                have HE := Lib.hid (And.intro HDq.out.1 (HDq.out.2.trans (df_in hla.out hlb.out hjn hjm hall.out hp.out hq.out (by rw [hdf, hs]; simp))))
                rw [hs] at kS
                clear hs hdf
                go_wp2_with fail
                (refine wp_region_ext_lit (by kernel_rfl) (by kernel_rfl) ?_; (repeat (go_big_quiet_step ((go_at_call 22; exact calls_ext (kS _ (hP.of (Ext.below _)) (hQ.of (Ext.below _))))))); refine wpQuiet_nil ?_; intro _ hw'; obtain ⟨z1, hw''⟩ := hw'; subst hw''; have hs1 := z1.size; obtain ⟨hc1, hf1⟩ := bcell z1.below; (try simp only [World.size_alloc, World.size_setCell, World.size_drew] at hc1 hf1); (try simp at hs1))
                obtain ⟨w3, hw3⟩ : ∃ w3, w3 = z1.world := ⟨_, rfl⟩
                have hb3 : Below wr.heap.size wr w3 := by rw [hw3]; exact z1.below
                have hs3 := hb3.size
                go_wp2_with fail
                rw [← hw3]
                clear hw3
                have hB3 : Below w.heap.size w w3 := below_thru hB1 hb3
                have p3 := (hb3.cell (p := ⟨_, _, none⟩) hbp).trans p0
                have q3 := (hb3.cell (p := ⟨_, _, none⟩) hbq).trans q0
                have hbp3 : bp < w3.heap.size := by omega
                have hbq3 : bq < w3.heap.size := by omega
                have hP3 := hP.of hb3
                have hQ3 := hQ.of hb3
                go_region_held3 (fun w' => FrW w3 w' ∧ w'.cell? ⟨bp, op + j, none⟩ = some (.slice PA pn pc) ∧ w'.cell? ⟨bq, oq + j, none⟩ = some (.slice QA qn qc))
                  (((try go_split_ands); refine FrW.two ?_ hbp3 p3 hbq3 q3; with_reducible (first | assumption | exact FrW.drew (FrW.here _) | exact FrW.drew ‹_› | exact FrW.of ‹_› hb8 | fail)))
                  ((first | (go_at_call 81; (try go_split_ands); refine (kO _ (hP3.of (FrW.below ‹_›)) (hQ3.of (FrW.below ‹_›))).mono ?_; rintro e4 w4 ⟨DD, dd, de, rfl, hN, hdd, hb8⟩) | fail))
                (try go_split_ands)
                have hf4 : Below w3.heap.size w3 w4 := (by first | exact FrW.below (FrW.of ‹_› hb8) | exact FrW.below ‹_›)
                have hB4 : Below w.heap.size w w4 := below_thru hB3 hf4
                have hNc := hN.cap
                go_wp2_with fail
                refine bodyPost_ret (v := .tuple #[.int .i64 (j : Int), .slice DD dd de, .bool true, .int .i64 0]) (by simp [results, Tryz.results33, go_sem, *, ↓IntWalk.iteOmega]) rfl ?_
                exact ⟨_, _, _, ret_df (by rw [HE.out.2]) (by rw [HE.out.2]) HE.out.1.symm, by rw [HE.out.2]; exact hN.rd, by omega, by omega, hB4⟩
            · skip
              have HE := Lib.hid (And.intro HDq.out.1 (HDq.out.2.trans (df_in hla.out hlb.out hjn hjm hall.out hp.out hq.out (by rw [hdf, decide_eq_true q1]; rfl))))
              have dg : (g != g') = true := by simpa using q1
              clear hdf q1
              go_wp2_with fail
              (refine wp_region_ext_lit (by kernel_rfl) (by kernel_rfl) ?_; (repeat (go_big_quiet_step (fail))); refine wpQuiet_nil ?_; intro _ hw'; obtain ⟨z1, hw''⟩ := hw'; subst hw''; have hs1 := z1.size; obtain ⟨hc1, hf1⟩ := bcell z1.below; (try simp only [World.size_alloc, World.size_setCell, World.size_drew] at hc1 hf1); (try simp at hs1))
              obtain ⟨w3, hw3⟩ : ∃ w3, w3 = z1.world := ⟨_, rfl⟩
              have hb3 : Below wr.heap.size wr w3 := by rw [hw3]; exact z1.below
              have hs3 := hb3.size
              go_wp2_with fail
              rw [← hw3]
              clear hw3
              have hB3 : Below w.heap.size w w3 := below_thru hB1 hb3
              have p3 := (hb3.cell (p := ⟨_, _, none⟩) hbp).trans p0
              have q3 := (hb3.cell (p := ⟨_, _, none⟩) hbq).trans q0
              have hbp3 : bp < w3.heap.size := by omega
              have hbq3 : bq < w3.heap.size := by omega
              have hP3 := hP.of hb3
              have hQ3 := hQ.of hb3
              go_region_held3 (fun w' => FrW w3 w' ∧ w'.cell? ⟨bp, op + j, none⟩ = some (.slice PA pn pc) ∧ w'.cell? ⟨bq, oq + j, none⟩ = some (.slice QA qn qc))
                (((try go_split_ands); refine FrW.two ?_ hbp3 p3 hbq3 q3; with_reducible (first | assumption | exact FrW.drew (FrW.here _) | exact FrW.drew ‹_› | exact FrW.of ‹_› hb8 | fail)))
                ((first | (go_at_call 81; (try go_split_ands); refine (kO _ (hP3.of (FrW.below ‹_›)) (hQ3.of (FrW.below ‹_›))).mono ?_; rintro e4 w4 ⟨DD, dd, de, rfl, hN, hdd, hb8⟩) | fail))
              (try go_split_ands)
              have hf4 : Below w3.heap.size w3 w4 := (by first | exact FrW.below (FrW.of ‹_› hb8) | exact FrW.below ‹_›)
              have hB4 : Below w.heap.size w w4 := below_thru hB3 hf4
              have hNc := hN.cap
              go_wp2_with fail
              refine bodyPost_ret (v := .tuple #[.int .i64 (j : Int), .slice DD dd de, .bool true, .int .i64 0]) (by simp [results, Tryz.results33, go_sem, *, ↓IntWalk.iteOmega]) rfl ?_
              exact ⟨_, _, _, ret_df (by rw [HE.out.2]) (by rw [HE.out.2]) HE.out.1.symm, by rw [HE.out.2]; exact hN.rd, by omega, by omega, hB4⟩
        · obtain rfl : j = M := by omega
          have dj : decide ((j : Int) < j) = false := decide_eq_false (by omega)
          have dj' : decide (j < j) = false := decide_eq_false (by omega)
          have HE := Lib.hid (And.intro HDq.out.1 (HDq.out.2.trans (df_end hla.out hlb.out (by rw [← hMq.out]; exact hall.out))))
          have hMM := hMq.out
          have d0 : decide ((j : Int) < n) = false := decide_eq_false (by omega)
          have d0' : decide (j < n) = false := decide_eq_false (by omega)
          have d1 : decide ((j : Int) < m) = false := decide_eq_false (by omega)
          have d1' : decide (j < m) = false := decide_eq_false (by omega)
          clear hMM
          go_wp2_with fail
          refine bodyPost_ret (v := .tuple #[.int .i64 0, .slice none 0 0, .bool false, .int .i64 0]) (by simp [results, Tryz.results33, go_sem, *, ↓IntWalk.iteOmega]) rfl ?_
          exact ⟨_, _, _, ret_df (by rw [HE.out.2]) (by rw [HE.out.2]) HE.out.1.symm, by rw [HE.out.2]; exact Rd.nil_, by omega, by omega, hB1⟩
end Go.Proofs.YtabfefhicfmabaaGreat
