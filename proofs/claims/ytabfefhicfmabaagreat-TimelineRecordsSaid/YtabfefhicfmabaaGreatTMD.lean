/- Diff, the program's. By mktim18.py. slices.ContainsFunc at timeline.Follows's test. Follows, the program's. By mktim21.py. -/
import Derived.Test.YtabfefhicfmabaaGreatTMS
import Derived.Test.YtabfefhicfmabaaGreatTim1
import Derived.Test.YtabfefhicfmabaaGreatDLF
import Derived.Test.YtabfefhicfmabaaGreatTim8
import Derived.Test.YtabfefhicfmabaaGreatTRE
set_option linter.unusedSimpArgs false
set_option linter.unusedVariables false
section
namespace Go.Proofs.YtabfefhicfmabaaGreat
open Go Go.RowKit
set_option maxRecDepth 100000
theorem df_two {ka kb : Int} {fa fb : List TFr} (h : tlB ka fa = false ∨ tlB kb fb = false) : dfE ka fa kb fb = 2 ∧ dfL ka fa kb fb = (0, [], false) := by
  have hE : dfE ka fa kb fb = 2 := by unfold dfE; rw [if_neg (by rcases h with h | h <;> rw [h] <;> simp)]
  exact ⟨hE, by unfold dfL; rw [if_neg (by rw [hE]; omega)]⟩
theorem df_good {ka kb : Int} {fa fb : List TFr} (ha : tlB ka fa = true) (hb : tlB kb fb = true) : dfE ka fa kb fb = 0 ∧ dfL ka fa kb fb = dfR (gnL fa) (gnL fb) (tlP ka fa) (tlP kb fb) := by
  have hE : dfE ka fa kb fb = 0 := by unfold dfE; rw [if_pos ⟨ha, hb⟩]
  exact ⟨hE, by unfold dfL; rw [if_pos hE]⟩
theorem df_end {ga gb : List Int} {la lb : List (List Cel)} {n m : Nat} (ha : la.length = n) (hb : lb.length = m) (h : ∀ i, i < max n m → dfB ga gb la lb i = false) : dfR ga gb la lb = (0, [], false) := by
  unfold dfR dfO
  rw [ha, hb, find_no h]
theorem df_out {ga gb : List Int} {la lb : List (List Cel)} {n m j : Nat} (ha : la.length = n) (hb : lb.length = m) (hj : j < max n m) (h : ∀ i, i < j → dfB ga gb la lb i = false) (ho : n ≤ j ∨ m ≤ j) : dfR ga gb la lb = ((j : Int), [], true) := by
  unfold dfR dfO
  rw [ha, hb, find_at hj h (by unfold dfB; rw [decide_eq_true (by rw [ha, hb]; exact ho)]; rfl)]
  simp only
  rw [if_pos ho]
theorem df_in {ga gb : List Int} {la lb : List (List Cel)} {n m j : Nat} {p q : List Cel} (ha : la.length = n) (hb : lb.length = m) (hj : j < n) (hj2 : j < m) (h : ∀ i, i < j → dfB ga gb la lb i = false) (hp : la[j]? = some p) (hq : lb[j]? = some q) (ho : dfB ga gb la lb j = true) : dfR ga gb la lb = ((j : Int), ofL p q, true) := by
  unfold dfR dfO
  rw [ha, hb, find_at (by omega) h ho]
  simp only
  rw [if_neg (by omega), getD_of hp, getD_of hq]
theorem dfB_at {ga gb : List Int} {la lb : List (List Cel)} {n m j : Nat} {p q : List Cel} {g g' : Int} (ha : la.length = n) (hb : lb.length = m) (hj : j < n) (hj2 : j < m) (hp : la[j]? = some p) (hq : lb[j]? = some q) (hg : ga.getD j 0 = g) (hg' : gb.getD j 0 = g') : dfB ga gb la lb j = (decide (g ≠ g') || !sameL p q) := by
  unfold dfB
  rw [decide_eq_false (p := la.length ≤ j ∨ lb.length ≤ j) (by rw [ha, hb]; omega), getD_of hp, getD_of hq, hg, hg', Bool.false_or]
theorem gn_frm {fs : List TFr} {j : Nat} {g : Int} {fu : Bool} {C : List Cel} {D : List Chg} (h : fs[j]? = some (g, fu, C, D)) : (gnL fs).getD j 0 = g := getD_of (by unfold gnL; rw [List.getElem?_map, h]; rfl)
theorem ret_df {i e i' e' : Int} {b b' : Bool} {B : Option Addr} {m d : Nat} (h1 : i = i') (h2 : b = b') (h3 : e = e') : Ending.returned (.tuple #[.int .i64 i, .slice B m d, .bool b, .int .i64 e]) = .returned (.tuple #[.int .i64 i', .slice B m d, .bool b', .int .i64 e']) := by rw [h1, h2, h3]
theorem all_below {p : Nat → Bool} {j : Nat} (h : ∀ i, i < j → p i = false) (hj : p j = false) : ∀ i, i < j + 1 → p i = false := fun i hi => by
  by_cases e : i = j
  · rw [e]; exact hj
  · exact h i (by omega)
set_option maxHeartbeats 16000000 in
theorem tl_Diff (ka kb : Int) (A B : Option Addr) (n c m d : Nat) (fa fb : List TFr) (w : World) (hF : RdX ekFr w A n fa) (hG : RdX ekFr w B m fb) (hsa : SmT fa) (hsb : SmT fb) :
    Calls Tryz.prog 32 #[.agg #[.int .i64 ka, .slice A n c], .agg #[.int .i64 kb, .slice B m d]] w fun e w' => ∃ B' m' d', e = .returned (.tuple #[.int .i64 (dfL ka fa kb fb).1, .slice B' m' d', .bool (dfL ka fa kb fb).2.2, .int .i64 (dfE ka fa kb fb)]) ∧ Rd encG 4 w' B' m' (dfL ka fa kb fb).2.1 ∧ m' ≤ d' ∧ m' ≤ 10000 ∧ Below w.heap.size w w' := by
  have kA := fun w1 h => tl_patterns ka A n c fa w1 h hsa
  have kB := fun w1 h => tl_patterns kb B m d fb w1 h hsb
  have hFl := Lib.hid hF.len
  have hGl := Lib.hid hG.len
  cases hva : tlB ka fa with
  | false =>
    have HE := Lib.hid (df_two (kb := kb) (fb := fb) (.inl hva))
    rw [hva] at kA
    generalize tlB kb fb = v at kB
    clear hva
    go_enter Tryz.func32, Tryz.ntmps32
    go_wp2_with fail
    obtain ⟨we, hwe, hxb, hyb, hB, hsw⟩ := two_boxesS w ka kb A B n c m d 34
    rw [← hwe]
    clear hwe
    obtain ⟨xb, hxe⟩ : ∃ xb, xb = w.heap.size := ⟨_, rfl⟩
    obtain ⟨yb, hye⟩ : ∃ yb, yb = w.heap.size + 1 := ⟨_, rfl⟩
    rw [← hxe] at hxb
    rw [← hye] at hyb
    rw [← hye, ← hxe]
    clear hxe hye
    replace hF := hF.of hB
    replace hG := hG.of hB
    have ⟨_, x0, x1, _, _⟩ := hxb.open2
    have ⟨_, y0, y1, _, _⟩ := hyb.open2
    go_wp2_with fail
    go_at_call 67
    refine (kA _ hF).mono ?_
    rintro e1 w1 ⟨A1, m1, d1, rfl, hO1, hb1⟩
    clear x0 x1 y0 y1
    replace hF := hF.of hb1
    replace hG := hG.of hb1
    replace hxb := hxb.of hb1
    replace hyb := hyb.of hb1
    replace hB := below_thru hB hb1
    clear hb1
    have ⟨_, x0, x1, _, _⟩ := hxb.open2
    have ⟨_, y0, y1, _, _⟩ := hyb.open2
    go_wp2_with fail
    go_at_call 67
    refine (kB _ hG).mono ?_
    rintro e2 w2 ⟨A2, m2, d2, rfl, hO2, hb2⟩
    clear x0 x1 y0 y1
    replace hO1 := hO1.of hb2
    replace hF := hF.of hb2
    replace hG := hG.of hb2
    replace hxb := hxb.of hb2
    replace hyb := hyb.of hb2
    replace hB := below_thru hB hb2
    clear hb2
    have ⟨_, x0, x1, _, _⟩ := hxb.open2
    have ⟨_, y0, y1, _, _⟩ := hyb.open2
    go_wp2_with fail
    refine bodyPost_ret (v := .tuple #[.int .i64 0, .slice none 0 0, .bool false, .int .i64 2]) (by simp [results, Tryz.results32, go_sem, *, ↓IntWalk.iteOmega]) rfl ?_
    exact ⟨_, _, _, ret_df (by rw [HE.out.2]) (by rw [HE.out.2]) HE.out.1.symm, by rw [HE.out.2]; exact Rd.nil_, by omega, by omega, hB⟩
  | true =>
    cases hvb : tlB kb fb with
    | false =>
      have HE := Lib.hid (df_two (ka := ka) (fa := fa) (.inr hvb))
      rw [hva] at kA
      rw [hvb] at kB
      clear hva hvb
      go_enter Tryz.func32, Tryz.ntmps32
      go_wp2_with fail
      obtain ⟨we, hwe, hxb, hyb, hB, hsw⟩ := two_boxesS w ka kb A B n c m d 34
      rw [← hwe]
      clear hwe
      obtain ⟨xb, hxe⟩ : ∃ xb, xb = w.heap.size := ⟨_, rfl⟩
      obtain ⟨yb, hye⟩ : ∃ yb, yb = w.heap.size + 1 := ⟨_, rfl⟩
      rw [← hxe] at hxb
      rw [← hye] at hyb
      rw [← hye, ← hxe]
      clear hxe hye
      replace hF := hF.of hB
      replace hG := hG.of hB
      have ⟨_, x0, x1, _, _⟩ := hxb.open2
      have ⟨_, y0, y1, _, _⟩ := hyb.open2
      go_wp2_with fail
      go_at_call 67
      refine (kA _ hF).mono ?_
      rintro e1 w1 ⟨A1, m1, d1, rfl, hO1, hb1⟩
      clear x0 x1 y0 y1
      replace hF := hF.of hb1
      replace hG := hG.of hb1
      replace hxb := hxb.of hb1
      replace hyb := hyb.of hb1
      replace hB := below_thru hB hb1
      clear hb1
      have ⟨_, x0, x1, _, _⟩ := hxb.open2
      have ⟨_, y0, y1, _, _⟩ := hyb.open2
      go_wp2_with fail
      go_at_call 67
      refine (kB _ hG).mono ?_
      rintro e2 w2 ⟨A2, m2, d2, rfl, hO2, hb2⟩
      clear x0 x1 y0 y1
      replace hO1 := hO1.of hb2
      replace hF := hF.of hb2
      replace hG := hG.of hb2
      replace hxb := hxb.of hb2
      replace hyb := hyb.of hb2
      replace hB := below_thru hB hb2
      clear hb2
      have ⟨_, x0, x1, _, _⟩ := hxb.open2
      have ⟨_, y0, y1, _, _⟩ := hyb.open2
      go_wp2_with fail
      refine bodyPost_ret (v := .tuple #[.int .i64 0, .slice none 0 0, .bool false, .int .i64 2]) (by simp [results, Tryz.results32, go_sem, *, ↓IntWalk.iteOmega]) rfl ?_
      exact ⟨_, _, _, ret_df (by rw [HE.out.2]) (by rw [HE.out.2]) HE.out.1.symm, by rw [HE.out.2]; exact Rd.nil_, by omega, by omega, hB⟩
    | true =>
      have HD := df_good hva hvb
      have hPa := Lib.hid (tlP_len hva)
      have hPb := Lib.hid (tlP_len hvb)
      have hRa := Lib.hid (tlP_right hva)
      have hRb := Lib.hid (tlP_right hvb)
      have hn1 : n ≤ 1000 := by rw [← hFl.out]; exact (tlB_iff.1 hva).2.1
      have hm1 : m ≤ 1000 := by rw [← hGl.out]; exact (tlB_iff.1 hvb).2.1
      rw [hva] at kA
      rw [hvb] at kB
      clear hva hvb
      go_enter Tryz.func32, Tryz.ntmps32
      go_wp2_with fail
      obtain ⟨we, hwe, hxb, hyb, hB, hsw⟩ := two_boxesS w ka kb A B n c m d 34
      rw [← hwe]
      clear hwe
      obtain ⟨xb, hxe⟩ : ∃ xb, xb = w.heap.size := ⟨_, rfl⟩
      obtain ⟨yb, hye⟩ : ∃ yb, yb = w.heap.size + 1 := ⟨_, rfl⟩
      rw [← hxe] at hxb
      rw [← hye] at hyb
      rw [← hye, ← hxe]
      clear hxe hye
      replace hF := hF.of hB
      replace hG := hG.of hB
      have ⟨_, x0, x1, _, _⟩ := hxb.open2
      have ⟨_, y0, y1, _, _⟩ := hyb.open2
      go_wp2_with fail
      go_at_call 67
      refine (kA _ hF).mono ?_
      rintro e1 w1 ⟨A1, m1, d1, rfl, hO1, hb1⟩
      clear x0 x1 y0 y1
      replace hF := hF.of hb1
      replace hG := hG.of hb1
      replace hxb := hxb.of hb1
      replace hyb := hyb.of hb1
      replace hB := below_thru hB hb1
      clear hb1
      have ⟨_, x0, x1, _, _⟩ := hxb.open2
      have ⟨_, y0, y1, _, _⟩ := hyb.open2
      go_wp2_with fail
      go_at_call 67
      refine (kB _ hG).mono ?_
      rintro e2 w2 ⟨A2, m2, d2, rfl, hO2, hb2⟩
      clear x0 x1 y0 y1
      replace hO1 := hO1.of hb2
      replace hF := hF.of hb2
      replace hG := hG.of hb2
      replace hxb := hxb.of hb2
      replace hyb := hyb.of hb2
      replace hB := below_thru hB hb2
      clear hb2
      have ⟨_, x0, x1, _, _⟩ := hxb.open2
      have ⟨_, y0, y1, _, _⟩ := hyb.open2
      obtain rfl : n = m1 := by rw [← hO1.len, hPa.out, hFl.out]
      obtain rfl : m = m2 := by rw [← hO2.len, hPb.out, hGl.out]
      have HDq := Lib.hid HD
      clear HD
      have hR1 := hO1.rd
      have hR2 := hO2.rd
      clear hO1 hO2
      have hla := Lib.hid (hPa.out.trans hFl.out)
      have hlb := Lib.hid (hPb.out.trans hGl.out)
      clear x0 x1 y0 y1
      obtain ⟨M, hM⟩ : ∃ M, M = max n m := ⟨_, rfl⟩
      obtain ⟨mn, hmn⟩ : ∃ mn, mn = min n m := ⟨_, rfl⟩
      have eM : max (n : Int) (m : Int) = (M : Int) := by omega
      have emn : min (n : Int) (m : Int) = (mn : Int) := by omega
      have hMq := Lib.hid hM
      have hmq := Lib.hid hmn
      clear hM hmn
      go_wp2_with fail
      go_loopw [36] (fun t wr => ∃ j : Nat, t = .int .i64 j ∧ j ≤ M ∧ Hid (∀ i, i < j → dfB (gnL fa) (gnL fb) (tlP ka fa) (tlP kb fb) i = false) ∧ Below w2.heap.size w2 wr) (fun t _ => M - (intOf t).toNat)
      case atStart => exact ⟨0, rfl, by omega, Lib.hid (fun i h => absurd h (by omega)), Below.refl _ _⟩
      case round =>
        obtain ⟨j, rfl, hj, hall, hb⟩ := hrel
        have hsz := hb.size
        have hB1 : Below w.heap.size w wr := below_thru hB hb
        have ⟨_, x0, x1, _, _⟩ := (hxb.of hb).open2
        have ⟨_, y0, y1, _, _⟩ := (hyb.of hb).open2
        by_cases hlt : j < M
        · have dj : decide ((j : Int) < M) = true := decide_eq_true (by omega)
          have dj' : decide (j < M) = true := decide_eq_true hlt
          by_cases hmj : mn ≤ j
          · skip
            have HE := Lib.hid (And.intro HDq.out.1 (HDq.out.2.trans (df_out hla.out hlb.out (by rw [← hMq.out]; exact hlt) hall.out (by have := hmq.out; omega))))
            have dm : decide ((mn : Int) ≤ j) = true := decide_eq_true (by omega)
            have dm' : decide (mn ≤ j) = true := decide_eq_true hmj
            go_wp2_with fail
            refine bodyPost_ret (v := .tuple #[.int .i64 (j : Int), .slice none 0 0, .bool true, .int .i64 0]) (by simp [results, Tryz.results32, go_sem, *, ↓IntWalk.iteOmega]) rfl ?_
            exact ⟨_, _, _, ret_df (by rw [HE.out.2]) (by rw [HE.out.2]) HE.out.1.symm, by rw [HE.out.2]; exact Rd.nil_, by omega, by omega, hB1⟩
          · have hjn : j < n := by have := hmq.out; omega
            have hjm : j < m := by have := hmq.out; omega
            have dm : decide ((mn : Int) ≤ j) = false := decide_eq_false (by omega)
            have dm' : decide (mn ≤ j) = false := decide_eq_false hmj
            obtain ⟨g, fu, C, D, CA, cn, cc, DA, dn, dc, bo, o, hx, rfl, hbo, g0, _⟩ := (hF.of hb).frm hjn
            obtain ⟨g', fu', C', D', CA', cn', cc', DA', dn', dc', bo', o', hx', rfl, hbo', g0', _⟩ := (hG.of hb).frm hjm
            obtain ⟨PA, pn, pc, P, bp, op, hp, rfl, hbp, p0, hP, hpc⟩ := (hR1.of hb).pat hjn
            obtain ⟨QA, qn, qc, Q, bq, oq, hq, rfl, hbq, q0, hQ, hqc⟩ := (hR2.of hb).pat hjm
            have rP := hRa.out _ (List.mem_of_getElem? hp.out)
            have rQ := hRb.out _ (List.mem_of_getElem? hq.out)
            have hpn : pn ≤ 5000 := by rw [← hP.len]; exact (rightC_ok rP).1
            have hqn : qn ≤ 5000 := by rw [← hQ.len]; exact (rightC_ok rQ).1
            have hdf := dfB_at hla.out hlb.out hjn hjm hp.out hq.out (gn_frm hx.out) (gn_frm hx'.out)
            have kS := fun w1 h1 h2 => pat_Same PA QA pn qn pc qc P Q w1 h1 h2 (by omega)
            have kO := fun w1 h1 h2 => del_Of PA QA pn pc qn qc P Q w1 h1 h2 (by omega) (by omega)
            rw [show ofE P Q = 0 by unfold ofE; rw [if_pos ⟨rP, rQ⟩]] at kO
            clear rP rQ
            by_cases q1 : g = g'
            · subst q1
              skip
              cases hs : sameL P Q with
              | true =>
                have hno : dfB (gnL fa) (gnL fb) (tlP ka fa) (tlP kb fb) j = false := by rw [hdf, hs]; simp
                have hst := Lib.hid (all_below hall.out hno)
                rw [hs] at kS
                clear hs hdf hno
                go_wp2_with fail
                (refine wp_region_ext_lit (by kernel_rfl) (by kernel_rfl) ?_; (repeat (go_big_quiet_step ((go_at_call 73; exact calls_ext (kS _ (hP.of (Ext.below _)) (hQ.of (Ext.below _))))))); refine wpQuiet_nil ?_; intro _ hw'; obtain ⟨z1, hw''⟩ := hw'; subst hw''; have hs1 := z1.size; obtain ⟨hc1, hf1⟩ := bcell z1.below; (try simp only [World.size_alloc, World.size_setCell, World.size_drew] at hc1 hf1); (try simp at hs1))
                have hBz : Below w2.heap.size w2 z1.world := below_thru hb z1.below
                go_wp2_with fail
                go_roundw
                case rel => exact ⟨j + 1, by go_num, by omega, hst, hBz⟩
                case measure => simp [intOf]; omega
              | false =>
                have HE := Lib.hid (And.intro HDq.out.1 (HDq.out.2.trans (df_in hla.out hlb.out hjn hjm hall.out hp.out hq.out (by rw [hdf, hs]; simp))))
                rw [hs] at kS
                clear hs hdf
                go_wp2_with fail
                (refine wp_region_ext_lit (by kernel_rfl) (by kernel_rfl) ?_; (repeat (go_big_quiet_step ((go_at_call 73; exact calls_ext (kS _ (hP.of (Ext.below _)) (hQ.of (Ext.below _))))))); refine wpQuiet_nil ?_; intro _ hw'; obtain ⟨z1, hw''⟩ := hw'; subst hw''; have hs1 := z1.size; obtain ⟨hc1, hf1⟩ := bcell z1.below; (try simp only [World.size_alloc, World.size_setCell, World.size_drew] at hc1 hf1); (try simp at hs1))
                obtain ⟨w3, hw3⟩ : ∃ w3, w3 = z1.world := ⟨_, rfl⟩
                have hb3 : Below wr.heap.size wr w3 := by rw [hw3]; exact z1.below
                have hs3 := hb3.size
                go_wp2_with fail
                rw [← hw3]
                clear hw3
                have hB3 : Below w.heap.size w w3 := below_thru hB1 hb3
                have p3 := (hb3.cell (p := ⟨_, _, none⟩) hbp).trans p0
                have q3 := (hb3.cell (p := ⟨_, _, none⟩) hbq).trans q0
                have hbp3 : bp < w3.heap.size := by omega
                have hbq3 : bq < w3.heap.size := by omega
                have hP3 := hP.of hb3
                have hQ3 := hQ.of hb3
                go_region_held3 (fun w' => FrW w3 w' ∧ w'.cell? ⟨bp, op + j, none⟩ = some (.slice PA pn pc) ∧ w'.cell? ⟨bq, oq + j, none⟩ = some (.slice QA qn qc))
                  (((try go_split_ands); refine FrW.two ?_ hbp3 p3 hbq3 q3; with_reducible (first | assumption | exact FrW.drew (FrW.here _) | exact FrW.drew ‹_› | exact FrW.of ‹_› hb8 | fail)))
                  ((first | (go_at_call 80; (try go_split_ands); refine (kO _ (hP3.of (FrW.below ‹_›)) (hQ3.of (FrW.below ‹_›))).mono ?_; rintro e4 w4 ⟨DD, dd, de, rfl, hN, hdd, hb8⟩) | fail))
                (try go_split_ands)
                have hf4 : Below w3.heap.size w3 w4 := (by first | exact FrW.below (FrW.of ‹_› hb8) | exact FrW.below ‹_›)
                have hB4 : Below w.heap.size w w4 := below_thru hB3 hf4
                have hNc := hN.cap
                go_wp2_with fail
                refine bodyPost_ret (v := .tuple #[.int .i64 (j : Int), .slice DD dd de, .bool true, .int .i64 0]) (by simp [results, Tryz.results32, go_sem, *, ↓IntWalk.iteOmega]) rfl ?_
                exact ⟨_, _, _, ret_df (by rw [HE.out.2]) (by rw [HE.out.2]) HE.out.1.symm, by rw [HE.out.2]; exact hN.rd, by omega, by omega, hB4⟩
            · skip
              have HE := Lib.hid (And.intro HDq.out.1 (HDq.out.2.trans (df_in hla.out hlb.out hjn hjm hall.out hp.out hq.out (by rw [hdf, decide_eq_true q1]; rfl))))
              have dg : (g != g') = true := by simpa using q1
              clear hdf q1
              go_wp2_with fail
              (refine wp_region_ext_lit (by kernel_rfl) (by kernel_rfl) ?_; (repeat (go_big_quiet_step (fail))); refine wpQuiet_nil ?_; intro _ hw'; obtain ⟨z1, hw''⟩ := hw'; subst hw''; have hs1 := z1.size; obtain ⟨hc1, hf1⟩ := bcell z1.below; (try simp only [World.size_alloc, World.size_setCell, World.size_drew] at hc1 hf1); (try simp at hs1))
              obtain ⟨w3, hw3⟩ : ∃ w3, w3 = z1.world := ⟨_, rfl⟩
              have hb3 : Below wr.heap.size wr w3 := by rw [hw3]; exact z1.below
              have hs3 := hb3.size
              go_wp2_with fail
              rw [← hw3]
              clear hw3
              have hB3 : Below w.heap.size w w3 := below_thru hB1 hb3
              have p3 := (hb3.cell (p := ⟨_, _, none⟩) hbp).trans p0
              have q3 := (hb3.cell (p := ⟨_, _, none⟩) hbq).trans q0
              have hbp3 : bp < w3.heap.size := by omega
              have hbq3 : bq < w3.heap.size := by omega
              have hP3 := hP.of hb3
              have hQ3 := hQ.of hb3
              go_region_held3 (fun w' => FrW w3 w' ∧ w'.cell? ⟨bp, op + j, none⟩ = some (.slice PA pn pc) ∧ w'.cell? ⟨bq, oq + j, none⟩ = some (.slice QA qn qc))
                (((try go_split_ands); refine FrW.two ?_ hbp3 p3 hbq3 q3; with_reducible (first | assumption | exact FrW.drew (FrW.here _) | exact FrW.drew ‹_› | exact FrW.of ‹_› hb8 | fail)))
                ((first | (go_at_call 80; (try go_split_ands); refine (kO _ (hP3.of (FrW.below ‹_›)) (hQ3.of (FrW.below ‹_›))).mono ?_; rintro e4 w4 ⟨DD, dd, de, rfl, hN, hdd, hb8⟩) | fail))
              (try go_split_ands)
              have hf4 : Below w3.heap.size w3 w4 := (by first | exact FrW.below (FrW.of ‹_› hb8) | exact FrW.below ‹_›)
              have hB4 : Below w.heap.size w w4 := below_thru hB3 hf4
              have hNc := hN.cap
              go_wp2_with fail
              refine bodyPost_ret (v := .tuple #[.int .i64 (j : Int), .slice DD dd de, .bool true, .int .i64 0]) (by simp [results, Tryz.results32, go_sem, *, ↓IntWalk.iteOmega]) rfl ?_
              exact ⟨_, _, _, ret_df (by rw [HE.out.2]) (by rw [HE.out.2]) HE.out.1.symm, by rw [HE.out.2]; exact hN.rd, by omega, by omega, hB4⟩
        · obtain rfl : j = M := by omega
          have dj : decide ((j : Int) < j) = false := decide_eq_false (by omega)
          have dj' : decide (j < j) = false := decide_eq_false (by omega)
          have HE := Lib.hid (And.intro HDq.out.1 (HDq.out.2.trans (df_end hla.out hlb.out (by rw [← hMq.out]; exact hall.out))))
          go_wp2_with fail
          refine bodyPost_ret (v := .tuple #[.int .i64 0, .slice none 0 0, .bool false, .int .i64 0]) (by simp [results, Tryz.results32, go_sem, *, ↓IntWalk.iteOmega]) rfl ?_
          exact ⟨_, _, _, ret_df (by rw [HE.out.2]) (by rw [HE.out.2]) HE.out.1.symm, by rw [HE.out.2]; exact Rd.nil_, by omega, by omega, hB1⟩
end Go.Proofs.YtabfefhicfmabaaGreat
end
section
namespace Go.Proofs.YtabfefhicfmabaaGreat
open Go Go.RowKit
set_option maxRecDepth 100000
/-- Is one of these states too great? -/
def topS (st : Int) (p : List Cel) : Bool := decide (st ≤ topC p)
theorem foT_eq {st : Int} {l : List (List Cel)} : foT st l = l.any (topS st) := rfl
theorem topS_yes {st : Int} {l : List (List Cel)} {j : Nat} {p : List Cel} (h : l[j]? = some p) (e : topS st p = true) : foT st l = true := by
  rw [foT_eq, List.any_eq_true]; exact ⟨p, List.mem_of_getElem? h, e⟩
theorem topS_no {st : Int} {l : List (List Cel)} {n : Nat} (hl : l.length = n) (h : ∀ i x, i < n → l[i]? = some x → topS st x = false) : foT st l = false := by
  rw [foT_eq, List.any_eq_false]
  intro x hx
  obtain ⟨i, hi⟩ := List.getElem?_of_mem hx
  have := (List.getElem?_eq_some_iff.1 hi).1
  rw [h i x (by omega) hi]; simp
theorem topS_step {st : Int} {l : List (List Cel)} {j : Nat} {p : List Cel} (hno : ∀ i x, i < j → l[i]? = some x → topS st x = false) (h : l[j]? = some p) (e : topS st p = false) : ∀ i x, i < j + 1 → l[i]? = some x → topS st x = false := fun i x hi hx => by
  by_cases k : i = j
  · subst k; rw [h] at hx; cases hx; exact e
  · exact hno i x (by omega) hx
set_option maxHeartbeats 4000000 in
theorem fo_test (E : Option Addr) (m c bt : Nat) (st : Int) (p : List Cel) (w : World) (hR : Rd encC 3 w E m p) (hm : m ≤ 1000000) (hcell : w.cell? ⟨bt, 0, none⟩ = some (.int .i64 st)) (hbt : bt < w.heap.size) :
    Calls Tryz.prog 71 #[.slice E m c, .pointer (some ⟨bt, 0, none⟩)] w fun e w' => e = .returned (.bool (topS st p)) ∧ Below w.heap.size w w' := by
  have kT := fun w1 h => pat_Top E m c p w1 h hm
  unfold topS
  generalize topC p = t at kT ⊢
  go_enter Tryz.func71, Tryz.ntmps71
  go_wp2_with fail
  (refine wp_region_ext_lit (by kernel_rfl) (by kernel_rfl) ?_; (repeat (go_big_quiet_step ((go_at_call 72; exact calls_ext (kT _ (hR.of (Ext.below _))))))); refine wpQuiet_nil ?_; intro _ hw'; obtain ⟨z1, hw''⟩ := hw'; subst hw''; have hs1 := z1.size; obtain ⟨hc1, hf1⟩ := bcell z1.below; (try simp only [World.size_alloc, World.size_setCell, World.size_drew] at hc1 hf1); (try simp at hs1))
  have hB1 : Below w.heap.size w z1.world := z1.below
  go_wp2_with fail
  go_ret
  exact ⟨rfl, hB1⟩
section
variable (A : Option Addr) (q cq bt : Nat) (st : Int) (L : List (List Cel)) (w : World)
set_option maxHeartbeats 4000000 in
theorem indexFunc_fo (hL : RdX ekC w A q L) (hlen : ∀ l ∈ L, rightC l = true) (hq : q ≤ 1000000) (hcell : w.cell? ⟨bt, 0, none⟩ = some (.int .i64 st)) (hbt : bt < w.heap.size) :
    Calls Tryz.prog 135 #[.slice A q cq, .func (.func 71) #[] #[.pointer (some ⟨bt, 0, none⟩)]] w fun e w' => ∃ r : Int, e = .returned (.int .i64 r) ∧ Hid (foT st L = decide (0 ≤ r)) ∧ Below w.heap.size w w' := by
  replace hlen := Lib.hid hlen
  have hLl := Lib.hid hL.len
  go_enter Tryz.func135, Tryz.ntmps135
  go_wp2_with fail
  go_loopw [8] (fun i wr => ∃ j : Nat, j ≤ q ∧ i = .int .i64 j ∧ Below w.heap.size w wr ∧ Hid (∀ i x, i < j → L[i]? = some x → topS st x = false)) (fun i _ => q - (intOf i).toNat)
  case atStart => exact ⟨0, by omega, rfl, Below.refl _ _, fun r x hr => absurd hr (by omega)⟩
  case round =>
    obtain ⟨j, hj, rfl, hb0, hno⟩ := hrel
    have hsz := hb0.size
    by_cases hlt : j < q
    · have dj : decide ((j : Int) < q) = true := decide_eq_true (by omega)
      have dj' : decide (j < q) = true := decide_eq_true hlt
      obtain ⟨E, m, c, l, b, o, hx, rfl, hbl, g1, hRl, hmc⟩ := (hL.of hb0).pat hlt
      have hm5 : m ≤ 5000 := by rw [← hRl.len]; exact (rightC_ok (hlen.out _ (List.mem_of_getElem? hx.out))).1
      have hsy := fo_test E m c bt st l wr hRl (by omega) ((hb0.cell (p := ⟨bt, 0, none⟩) hbt).trans hcell) (by omega)
      cases hv : topS st l with
      | true =>
        rw [hv] at hsy
        go_wp2_with fail; go_at_call 71; refine (hsy).mono ?_; rintro e w1 ⟨rfl, hb1⟩; have hs1 := hb1.size; (try simp only [World.size_alloc, World.size_drew, World.size_setCell] at hs1)
        go_wp2_with fail
        go_ret
        exact ⟨_, rfl, by show _ = _; rw [topS_yes hx.out hv]; simp, by (repeat' (first | exact Below.refl _ _ | assumption | (refine Below.alloc ?_ ?_ _) | (refine Below.setCell ?_ ?_ _) | (refine Below.drew ?_) | (refine below_drewN ?_ _) | (refine below_after (Ext.below _) ?_ ?_) | (refine below_after (by assumption) ?_ ?_) | (simp; done) | omega | (simp; omega)))⟩
      | false =>
        rw [hv] at hsy
        go_wp2_with fail; go_at_call 71; refine (hsy).mono ?_; rintro e w1 ⟨rfl, hb1⟩; have hs1 := hb1.size; (try simp only [World.size_alloc, World.size_drew, World.size_setCell] at hs1)
        go_wp2_with fail
        go_roundw
        case rel => exact ⟨j + 1, by omega, by go_num, (by (repeat' (first | exact Below.refl _ _ | assumption | (refine Below.alloc ?_ ?_ _) | (refine Below.setCell ?_ ?_ _) | (refine Below.drew ?_) | (refine below_drewN ?_ _) | (refine below_after (Ext.below _) ?_ ?_) | (refine below_after (by assumption) ?_ ?_) | (simp; done) | omega | (simp; omega)))), topS_step hno.out hx.out hv⟩
        case measure => simp [intOf]; omega
    · obtain rfl : j = q := by omega
      have dj : decide ((j : Int) < j) = false := decide_eq_false (by omega)
      have dj' : decide (j < j) = false := decide_eq_false (by omega)
      go_wp2_with fail
      go_ret
      exact ⟨_, rfl, by show _ = _; rw [topS_no hLl.out hno.out]; simp, hb0⟩
theorem containsFunc_fo (hL : RdX ekC w A q L) (hlen : ∀ l ∈ L, rightC l = true) (hq : q ≤ 1000000) (hcell : w.cell? ⟨bt, 0, none⟩ = some (.int .i64 st)) (hbt : bt < w.heap.size) :
    Calls Tryz.prog 70 #[.slice A q cq, .func (.func 71) #[] #[.pointer (some ⟨bt, 0, none⟩)]] w fun e w' => e = .returned (.bool (foT st L)) ∧ Below w.heap.size w w' := by
  go_enter Tryz.func70, Tryz.ntmps70
  go_wp2_with (first | (go_at_call 135; refine (indexFunc_fo A q cq bt st L w hL hlen hq hcell hbt).mono ?_; rintro e w' ⟨r, rfl, hr, hbr⟩))
  go_ret
  exact ⟨ret_bool hr.out.symm, hbr⟩
end
end Go.Proofs.YtabfefhicfmabaaGreat
end
section
namespace Go.Proofs.YtabfefhicfmabaaGreat
open Go Go.RowKit
set_option maxRecDepth 100000
section
variable {st key : Int} {H : List (Int × Int)} {N : List (Int × List Int)} {fs : List TFr} {gs : List Int} {l : List (List Cel)} {n j : Nat} {q r p : List Cel}
theorem runL_right {nn : Int} (h : runE st H N p nn = 0) : rightC (runL st H N p nn) = true := by
  have hf : fitE st H N p = 0 := by
    unfold runE at h
    split at h
    · assumption
    · exact h
  unfold runL
  rw [if_pos h]
  exact (it_fits (fit_iff.1 hf) _).pat
theorem fo_rule (h : trQ st H N = false) : foL st H N key fs = (0, 11) := by unfold foL; rw [if_neg (by rw [h]; simp)]
theorem fo_arg (h : trQ st H N = true) (h2 : tlB key fs = false) : foL st H N key fs = (0, 2) := by unfold foL; rw [if_pos h, if_neg (by rw [h2]; simp)]
theorem fo_state (h : trQ st H N = true) (h2 : tlB key fs = true) (h3 : foT st (tlP key fs) = true) : foL st H N key fs = (0, 10) := by unfold foL; rw [if_pos h, if_pos h2, if_pos h3]
theorem fo_good (h : trQ st H N = true) (h2 : tlB key fs = true) (h3 : foT st (tlP key fs) = false) : foL st H N key fs = foR st H N (gnL fs) (tlP key fs) := by unfold foL; rw [if_pos h, if_pos h2, if_neg (by rw [h3]; simp)]
theorem fo_end (hl : l.length = n) (h : ∀ i, i < n → foS st H N gs l i = none) : foR st H N gs l = (-1, 0) := by
  unfold foR; rw [hl, fsome_no h]; rfl
theorem fo_at {v : Int × Int} (hl : l.length = n) (hj : j < n) (h : ∀ i, i < j → foS st H N gs l i = none) (he : foS st H N gs l j = some v) : foR st H N gs l = v := by
  unfold foR; rw [hl, fsome_at hj h he]; rfl
theorem foS_zero : foS st H N gs l 0 = none := by unfold foS; rw [if_pos rfl]
theorem foS_at {g g0 : Int} (hj : 0 < j) (hg : gs.getD j 0 = g) (hg0 : gs.getD (j - 1) 0 = g0) (hq : l[j - 1]? = some q) (hr : l[j]? = some r) :
    foS st H N gs l j = if 10000 < g - g0 then some (0, 14) else if runE st H N q (g - g0) = 0 then (if sameL (runL st H N q (g - g0)) r = true then none else some ((j : Int), 0)) else some (0, runE st H N q (g - g0)) := by
  unfold foS
  rw [if_neg (by omega), hg, hg0, getD_of hq, getD_of hr]
theorem none_below {f : Nat → Option (Int × Int)} (h : ∀ i, i < j → f i = none) (hj : f j = none) : ∀ i, i < j + 1 → f i = none := fun i hi => by
  by_cases e : i = j
  · rw [e]; exact hj
  · exact h i (by omega)
theorem ret_fo {a b : Int} {v : Int × Int} (h : v = (a, b)) : Ending.returned (.tuple #[.int .i64 a, .int .i64 b]) = .returned (.tuple #[.int .i64 v.1, .int .i64 v.2]) := by rw [h]
end
/-- A tree's box and a timeline's. -/
theorem two_boxesTF (w : World) (x y z : Value) (key : Int) (A : Option Addr) (n c : Nat) (t t' : TypeId) : ∃ we, we = (w.alloc (.cells #[x, y, z] t)).alloc (.cells #[.int .i64 key, .slice A n c] t') ∧
    TrAt we w.heap.size x y z ∧ BxW we (w.heap.size + 1) [.int .i64 key, .slice A n c] ∧ Below w.heap.size w we ∧ we.heap.size = w.heap.size + 2 := by
  have h := BxW.new (w.alloc (.cells #[x, y, z] t)) [.int .i64 key, .slice A n c] t'
  rw [World.size_alloc] at h
  exact ⟨_, rfl, (TrAt.new w x y z t).of ((Below.refl _ _).alloc (Nat.le_refl _) _), h, ((Below.refl _ _).alloc (Nat.le_refl _) _).alloc (by simp) _, by simp⟩
set_option maxHeartbeats 16000000 in
theorem tl_Follows (st : Int) (A B X : Option Addr) (n c m d k e : Nat) (H : List (Int × Int)) (N : List (Int × List Int)) (key : Int) (fs : List TFr) (w : World) (hH : Rd encP 2 w A n H) (hN : RdX ekN w B m N) (hF : RdX ekFr w X k fs) (hsm : SmT fs) :
    Calls Tryz.prog 23 #[.agg #[.int .i64 st, .slice A n c, .slice B m d], .agg #[.int .i64 key, .slice X k e]] w fun e w' => e = .returned (.tuple #[.int .i64 (foL st H N key fs).1, .int .i64 (foL st H N key fs).2]) ∧ Below w.heap.size w w' := by
  have kQ := fun w1 h1 h2 => tree_Quiet st A B n c m d H N w1 h1 h2
  have kP := fun w1 h => tl_patterns key X k e fs w1 h hsm
  have hFl := Lib.hid hF.len
  cases hq : trQ st H N with
  | false =>
    have HE := Lib.hid (fo_rule (key := key) (fs := fs) hq)
    rw [hq] at kQ
    clear hq
    go_enter Tryz.func23, Tryz.ntmps23
    go_wp2_with fail
    obtain ⟨we, hwe, hbt, hxb, hB, hsw⟩ := two_boxesTF w (.int .i64 st) (.slice A n c) (.slice B m d) key X k e 25 34
    rw [← hwe]
    clear hwe
    obtain ⟨tb, hte⟩ : ∃ tb, tb = w.heap.size := ⟨_, rfl⟩
    obtain ⟨xb, hxe⟩ : ∃ xb, xb = w.heap.size + 1 := ⟨_, rfl⟩
    rw [← hte] at hbt
    rw [← hxe] at hxb
    rw [← hxe, ← hte]
    clear hxe hte
    replace hH := hH.of hB
    replace hN := hN.of hB
    replace hF := hF.of hB
    have ⟨_, t0, t1, t2⟩ := hbt
    have ⟨_, x0, x1, _, _⟩ := hxb.open2
    go_wp2_with fail
    go_at_call 69
    refine (kQ _ hH hN).mono ?_
    rintro e1 w1 ⟨rfl, hb1⟩
    clear t0 t1 t2 x0 x1
    replace hH := hH.of hb1
    replace hN := hN.of hb1
    replace hF := hF.of hb1
    replace hbt := hbt.of hb1
    replace hxb := hxb.of hb1
    replace hB := below_thru hB hb1
    have ⟨_, t0, t1, t2⟩ := hbt
    have ⟨_, x0, x1, _, _⟩ := hxb.open2
    clear hb1
    go_wp2_with fail
    go_ret2
    exact ⟨ret_fo HE.out, hB⟩
  | true =>
    rw [hq] at kQ
    cases hv : tlB key fs with
    | false =>
      have HE := Lib.hid (fo_arg hq hv)
      rw [hv] at kP
      clear hq hv
      go_enter Tryz.func23, Tryz.ntmps23
      go_wp2_with fail
      obtain ⟨we, hwe, hbt, hxb, hB, hsw⟩ := two_boxesTF w (.int .i64 st) (.slice A n c) (.slice B m d) key X k e 25 34
      rw [← hwe]
      clear hwe
      obtain ⟨tb, hte⟩ : ∃ tb, tb = w.heap.size := ⟨_, rfl⟩
      obtain ⟨xb, hxe⟩ : ∃ xb, xb = w.heap.size + 1 := ⟨_, rfl⟩
      rw [← hte] at hbt
      rw [← hxe] at hxb
      rw [← hxe, ← hte]
      clear hxe hte
      replace hH := hH.of hB
      replace hN := hN.of hB
      replace hF := hF.of hB
      have ⟨_, t0, t1, t2⟩ := hbt
      have ⟨_, x0, x1, _, _⟩ := hxb.open2
      go_wp2_with fail
      go_at_call 69
      refine (kQ _ hH hN).mono ?_
      rintro e1 w1 ⟨rfl, hb1⟩
      clear t0 t1 t2 x0 x1
      replace hH := hH.of hb1
      replace hN := hN.of hb1
      replace hF := hF.of hb1
      replace hbt := hbt.of hb1
      replace hxb := hxb.of hb1
      replace hB := below_thru hB hb1
      have ⟨_, t0, t1, t2⟩ := hbt
      have ⟨_, x0, x1, _, _⟩ := hxb.open2
      clear hb1
      go_wp2_with fail
      go_at_call 67
      refine (kP _ hF).mono ?_
      rintro e2 w2 ⟨A2, m2, d2, rfl, hO, hb2⟩
      clear t0 t1 t2 x0 x1
      replace hH := hH.of hb2
      replace hN := hN.of hb2
      replace hF := hF.of hb2
      replace hbt := hbt.of hb2
      replace hxb := hxb.of hb2
      replace hB := below_thru hB hb2
      have ⟨_, t0, t1, t2⟩ := hbt
      have ⟨_, x0, x1, _, _⟩ := hxb.open2
      clear hb2
      go_wp2_with fail
      go_ret2
      exact ⟨ret_fo HE.out, hB⟩
    | true =>
      have hPl := Lib.hid (tlP_len hv)
      have hPr := Lib.hid (tlP_right hv)
      have hok := tlB_ok hv
      have hk1 : k ≤ 1000 := by rw [← hFl.out]; exact (tlB_iff.1 hv).2.1
      have hge := Lib.hid (fun (i : Nat) (hi : i < fs.length) => (tl_gens (K := hok.choose) hok.choose_spec.2.2.2.2 hi))
      clear hok
      rw [hv] at kP
      cases hf : foT st (tlP key fs) with
      | true =>
        have HE := Lib.hid (fo_state hq hv hf)
        clear hq hv
        go_enter Tryz.func23, Tryz.ntmps23
        go_wp2_with fail
        obtain ⟨we, hwe, hbt, hxb, hB, hsw⟩ := two_boxesTF w (.int .i64 st) (.slice A n c) (.slice B m d) key X k e 25 34
        rw [← hwe]
        clear hwe
        obtain ⟨tb, hte⟩ : ∃ tb, tb = w.heap.size := ⟨_, rfl⟩
        obtain ⟨xb, hxe⟩ : ∃ xb, xb = w.heap.size + 1 := ⟨_, rfl⟩
        rw [← hte] at hbt
        rw [← hxe] at hxb
        rw [← hxe, ← hte]
        clear hxe hte
        replace hH := hH.of hB
        replace hN := hN.of hB
        replace hF := hF.of hB
        have ⟨_, t0, t1, t2⟩ := hbt
        have ⟨_, x0, x1, _, _⟩ := hxb.open2
        go_wp2_with fail
        go_at_call 69
        refine (kQ _ hH hN).mono ?_
        rintro e1 w1 ⟨rfl, hb1⟩
        clear t0 t1 t2 x0 x1
        replace hH := hH.of hb1
        replace hN := hN.of hb1
        replace hF := hF.of hb1
        replace hbt := hbt.of hb1
        replace hxb := hxb.of hb1
        replace hB := below_thru hB hb1
        have ⟨_, t0, t1, t2⟩ := hbt
        have ⟨_, x0, x1, _, _⟩ := hxb.open2
        clear hb1
        go_wp2_with fail
        go_at_call 67
        refine (kP _ hF).mono ?_
        rintro e2 w2 ⟨A2, m2, d2, rfl, hO, hb2⟩
        clear t0 t1 t2 x0 x1
        replace hH := hH.of hb2
        replace hN := hN.of hb2
        replace hF := hF.of hb2
        replace hbt := hbt.of hb2
        replace hxb := hxb.of hb2
        replace hB := below_thru hB hb2
        have ⟨_, t0, t1, t2⟩ := hbt
        have ⟨_, x0, x1, _, _⟩ := hxb.open2
        clear hb2
        obtain rfl : k = m2 := by rw [← hO.len, hPl.out, hFl.out]
        have hR := hO.rd
        clear hO
        have kC := containsFunc_fo A2 k d2 tb st (tlP key fs) w2 hR hPr.out (by omega) t0 hbt.1
        rw [hf] at kC
        go_wp2_with fail
        go_at_call 70
        refine kC.mono ?_
        rintro e3 w3 ⟨rfl, hb3⟩
        clear t0 t1 t2 x0 x1
        replace hH := hH.of hb3
        replace hN := hN.of hb3
        replace hF := hF.of hb3
        replace hbt := hbt.of hb3
        replace hxb := hxb.of hb3
        replace hR := hR.of hb3
        replace hB := below_thru hB hb3
        clear hb3
        have ⟨_, t0, t1, t2⟩ := hbt
        have ⟨_, x0, x1, _, _⟩ := hxb.open2
        go_wp2_with fail
        go_ret2
        exact ⟨ret_fo HE.out, hB⟩
      | false =>
        have HD := Lib.hid (fo_good hq hv hf)
        clear hq hv
        go_enter Tryz.func23, Tryz.ntmps23
        go_wp2_with fail
        obtain ⟨we, hwe, hbt, hxb, hB, hsw⟩ := two_boxesTF w (.int .i64 st) (.slice A n c) (.slice B m d) key X k e 25 34
        rw [← hwe]
        clear hwe
        obtain ⟨tb, hte⟩ : ∃ tb, tb = w.heap.size := ⟨_, rfl⟩
        obtain ⟨xb, hxe⟩ : ∃ xb, xb = w.heap.size + 1 := ⟨_, rfl⟩
        rw [← hte] at hbt
        rw [← hxe] at hxb
        rw [← hxe, ← hte]
        clear hxe hte
        replace hH := hH.of hB
        replace hN := hN.of hB
        replace hF := hF.of hB
        have ⟨_, t0, t1, t2⟩ := hbt
        have ⟨_, x0, x1, _, _⟩ := hxb.open2
        go_wp2_with fail
        go_at_call 69
        refine (kQ _ hH hN).mono ?_
        rintro e1 w1 ⟨rfl, hb1⟩
        clear t0 t1 t2 x0 x1
        replace hH := hH.of hb1
        replace hN := hN.of hb1
        replace hF := hF.of hb1
        replace hbt := hbt.of hb1
        replace hxb := hxb.of hb1
        replace hB := below_thru hB hb1
        have ⟨_, t0, t1, t2⟩ := hbt
        have ⟨_, x0, x1, _, _⟩ := hxb.open2
        clear hb1
        go_wp2_with fail
        go_at_call 67
        refine (kP _ hF).mono ?_
        rintro e2 w2 ⟨A2, m2, d2, rfl, hO, hb2⟩
        clear t0 t1 t2 x0 x1
        replace hH := hH.of hb2
        replace hN := hN.of hb2
        replace hF := hF.of hb2
        replace hbt := hbt.of hb2
        replace hxb := hxb.of hb2
        replace hB := below_thru hB hb2
        have ⟨_, t0, t1, t2⟩ := hbt
        have ⟨_, x0, x1, _, _⟩ := hxb.open2
        clear hb2
        obtain rfl : k = m2 := by rw [← hO.len, hPl.out, hFl.out]
        have hR := hO.rd
        clear hO
        have kC := containsFunc_fo A2 k d2 tb st (tlP key fs) w2 hR hPr.out (by omega) t0 hbt.1
        rw [hf] at kC
        go_wp2_with fail
        go_at_call 70
        refine kC.mono ?_
        rintro e3 w3 ⟨rfl, hb3⟩
        clear t0 t1 t2 x0 x1
        replace hH := hH.of hb3
        replace hN := hN.of hb3
        replace hF := hF.of hb3
        replace hbt := hbt.of hb3
        replace hxb := hxb.of hb3
        replace hR := hR.of hb3
        replace hB := below_thru hB hb3
        clear hb3
        have ⟨_, t0, t1, t2⟩ := hbt
        have ⟨_, x0, x1, _, _⟩ := hxb.open2
        clear t0 t1 t2 x0 x1
        go_wp2_with fail
        go_loopw [8] (fun t wr => ∃ j : Nat, t = .int .i64 j ∧ 1 ≤ j ∧ (j ≤ k ∨ j = 1) ∧ Hid (∀ i, i < j → foS st H N (gnL fs) (tlP key fs) i = none) ∧ Below w3.heap.size w3 wr) (fun t _ => k - (intOf t).toNat)
        case atStart => exact ⟨1, rfl, by omega, .inr rfl, Lib.hid (fun i h => by rw [show i = 0 by omega]; exact foS_zero), Below.refl _ _⟩
        case round =>
          obtain ⟨j, rfl, hj1, hj, hall, hb⟩ := hrel
          have hsz := hb.size
          have hB1 : Below w.heap.size w wr := below_thru hB hb
          have hbt1 := hbt.of hb
          have hxb1 := hxb.of hb
          have ⟨_, t0, t1, t2⟩ := hbt1
          have ⟨_, x0, x1, _, _⟩ := hxb1.open2
          have hla := Lib.hid (hPl.out.trans hFl.out)
          by_cases hlt : j < k
          · have dj : decide ((j : Int) < k) = true := decide_eq_true (by omega)
            have dj' : decide (j < k) = true := decide_eq_true hlt
            obtain ⟨i, hi⟩ : ∃ i, i = j - 1 := ⟨_, rfl⟩
            obtain ⟨g, fu, C, D, CA, cn, cc, DA, dn, dc, bo, o, hx, rfl, hbo, g0, _⟩ := (hF.of hb).frm hlt
            obtain ⟨g', fu', C', D', CA', cn', cc', DA', dn', dc', bo', o', hx', he', _, g0', _⟩ := (hF.of hb).frm (i := i) (by omega)
            injection he' with he'
            injection he' with e1 e2
            subst e1 e2
            obtain ⟨PA, pn, pc, P, bp, op, hp, rfl, hbp, p0, hP, hpc⟩ := (hR.of hb).pat hlt
            obtain ⟨QA, qn, qc, Q, bp', op', hq, he2, _, q0, hQ, hqc⟩ := (hR.of hb).pat (i := i) (by omega)
            injection he2 with he2
            injection he2 with e1 e2
            subst e1 e2
            have hpn : pn ≤ 5000 := by rw [← hP.len]; exact (rightC_ok (hPr.out _ (List.mem_of_getElem? hp.out))).1
            have hqn : qn ≤ 5000 := by rw [← hQ.len]; exact (rightC_ok (hPr.out _ (List.mem_of_getElem? hq.out))).1
            have hgj := hge.out j (by rw [hFl.out]; exact hlt)
            have hgi := hge.out i (by rw [hFl.out]; omega)
            rw [gn_frm hx.out] at hgj
            rw [gn_frm hx'.out] at hgi
            have hfs := foS_at (st := st) (H := H) (N := N) (g := g) (g0 := g') (q := Q) (r := P) (by omega : 0 < j) (gn_frm hx.out) (by rw [← hi]; exact gn_frm hx'.out) (by rw [← hi]; exact hq.out) hp.out
            obtain ⟨dd, hdd⟩ : ∃ dd, dd = g - g' := ⟨_, rfl⟩
            have ew : IntKind.i64.wrap (g - g') = dd := by rw [hdd]; exact IntWalk.i64_in _ (by omega)
            rw [← hdd] at hfs
            have hmw : IntKind.i64.wrap ((j : Int) - 1) = (i : Int) := by rw [IntWalk.i64_in _ (by omega)]; omega
            have hi0 : (0 : Int) ≤ (i : Int) := by omega
            have hi1 : (i : Int) < (k : Int) := by omega
            have hi2 : i < k := by omega
            clear hgj hgi hdd hi
            have kR := fun w1 h1 h2 h3 => direct_Run st A B QA n c m d qn qc H N Q w1 dd h1 h2 h3 (by omega) hqc
            by_cases qd : 10000 < dd
            · have dg : decide (10000 < dd) = true := decide_eq_true qd
              have HE := Lib.hid (HD.out.trans (fo_at hla.out hlt hall.out (hfs.trans (if_pos qd))))
              clear hfs qd
              go_wp2_with fail
              (refine wp_region_ext_lit (by kernel_rfl) (by kernel_rfl) ?_; (repeat (go_big_quiet_step (fail))); refine wpQuiet_nil ?_; intro _ hw'; obtain ⟨z1, hw''⟩ := hw'; subst hw''; have hs1 := z1.size; obtain ⟨hc1, hf1⟩ := bcell z1.below; (try simp only [World.size_alloc, World.size_setCell, World.size_drew] at hc1 hf1); (try simp at hs1))
              have hb4 : Below wr.heap.size wr z1.world := z1.below
              obtain ⟨w4, hw4⟩ : ∃ w4, w4 = z1.world := ⟨_, rfl⟩
              rw [← hw4] at hb4
              have hs4 := hb4.size
              have hB4 : Below w.heap.size w w4 := below_thru hB1 hb4
              go_wp2_with fail
              rw [← hw4]
              clear hw4
              go_wp2_with fail
              go_ret2
              exact ⟨ret_fo HE.out, hB4⟩
            have dg : decide (10000 < dd) = false := decide_eq_false qd
            rw [if_neg qd] at hfs
            by_cases hr : runE st H N Q dd = 0
            · rw [if_pos hr] at hfs
              have hr5 := Lib.hid (runL_right hr)
              rw [hr] at kR
              clear qd hr
              cases hs : sameL (runL st H N Q dd) P with
              | true =>
                rw [if_pos hs] at hfs
                replace hs := Lib.hid hs
                have hst := Lib.hid (none_below hall.out hfs)
                clear hfs
                go_wp2_with fail
                (refine wp_region_ext_lit (by kernel_rfl) (by kernel_rfl) ?_; (repeat (go_big_quiet_step (fail))); refine wpQuiet_nil ?_; intro _ hw'; obtain ⟨z1, hw''⟩ := hw'; subst hw''; have hs1 := z1.size; obtain ⟨hc1, hf1⟩ := bcell z1.below; (try simp only [World.size_alloc, World.size_setCell, World.size_drew] at hc1 hf1); (try simp at hs1))
                have hb4 : Below wr.heap.size wr z1.world := z1.below
                obtain ⟨w4, hw4⟩ : ∃ w4, w4 = z1.world := ⟨_, rfl⟩
                rw [← hw4] at hb4
                have hs4 := hb4.size
                have hB4 : Below w.heap.size w w4 := below_thru hB1 hb4
                go_wp2_with fail
                rw [← hw4]
                clear hw4
                have hbt4 := hbt1.of hb4
                have q4 := (hb4.cell (p := ⟨_, _, none⟩) hbp).trans q0
                have hbp4 : bp < w4.heap.size := by omega
                have hHr := ((hH.of hb).of hb4)
                have hNr := ((hN.of hb).of hb4)
                have hQr := hQ.of hb4
                go_region_held3 (fun w' => FrW w4 w' ∧ w'.cell? ⟨tb, 0, none⟩ = some (.int .i64 st) ∧ w'.cell? ⟨tb, 1, none⟩ = some (.slice A n c) ∧ w'.cell? ⟨tb, 2, none⟩ = some (.slice B m d) ∧ w'.cell? ⟨bp, op + i, none⟩ = some (.slice QA qn qc))
                  (((try go_split_ands); refine FrW.trc ?_ hbt4 hbp4 q4; with_reducible (first | assumption | exact FrW.drew (FrW.here _) | exact FrW.drew ‹_› | exact FrW.of ‹_› hb8 | fail)))
                  ((first | (go_at_call 61; (try go_split_ands); refine (kR _ (hHr.of (FrW.below ‹_›)) (hNr.of (FrW.below ‹_›)) (hQr.of (FrW.below ‹_›))).mono ?_; rintro e5 w5 ⟨A5, n5, c5, rfl, hR5, hc5, hb8⟩) | fail))
                (try go_split_ands)
                have hf5 : Below w4.heap.size w4 w5 := (by first | exact FrW.below (FrW.of ‹_› hb8) | exact FrW.below ‹_›)
                have hB5 : Below w.heap.size w w5 := below_thru hB4 hf5
                have hb5 : Below w3.heap.size w3 w5 := below_thru (below_thru hb hb4) hf5
                have hP5 := (hP.of hb4).of hf5
                have hn5 : n5 ≤ 5000 := by rw [← hR5.len]; exact (rightC_ok hr5.out).1
                have p5 := (hf5.cell (p := ⟨_, _, none⟩) hbp4).trans ((hb4.cell (p := ⟨_, _, none⟩) hbp).trans p0)
                have kS := fun w1 h1 h2 => pat_Same A5 PA n5 pn c5 pc (runL st H N Q dd) P w1 h1 h2 (by omega)
                rw [hs.out] at kS
                go_wp2_with fail
                go_at_call 73
                refine (kS _ hR5 hP5).mono ?_
                rintro e6 w6 ⟨rfl, hb6⟩
                have hB6 : Below w.heap.size w w6 := below_thru hB5 hb6
                have hb36 : Below w3.heap.size w3 w6 := below_thru hb5 hb6
                go_wp2_with fail
                go_roundw
                case rel => exact ⟨j + 1, by go_num, by omega, .inl (by omega), hst, hb36⟩
                case measure => simp [intOf]; omega
              | false =>
                rw [if_neg (by rw [hs]; simp)] at hfs
                replace hs := Lib.hid hs
                have HE := Lib.hid (HD.out.trans (fo_at hla.out hlt hall.out (hfs)))
                clear hfs
                go_wp2_with fail
                (refine wp_region_ext_lit (by kernel_rfl) (by kernel_rfl) ?_; (repeat (go_big_quiet_step (fail))); refine wpQuiet_nil ?_; intro _ hw'; obtain ⟨z1, hw''⟩ := hw'; subst hw''; have hs1 := z1.size; obtain ⟨hc1, hf1⟩ := bcell z1.below; (try simp only [World.size_alloc, World.size_setCell, World.size_drew] at hc1 hf1); (try simp at hs1))
                have hb4 : Below wr.heap.size wr z1.world := z1.below
                obtain ⟨w4, hw4⟩ : ∃ w4, w4 = z1.world := ⟨_, rfl⟩
                rw [← hw4] at hb4
                have hs4 := hb4.size
                have hB4 : Below w.heap.size w w4 := below_thru hB1 hb4
                go_wp2_with fail
                rw [← hw4]
                clear hw4
                have hbt4 := hbt1.of hb4
                have q4 := (hb4.cell (p := ⟨_, _, none⟩) hbp).trans q0
                have hbp4 : bp < w4.heap.size := by omega
                have hHr := ((hH.of hb).of hb4)
                have hNr := ((hN.of hb).of hb4)
                have hQr := hQ.of hb4
                go_region_held3 (fun w' => FrW w4 w' ∧ w'.cell? ⟨tb, 0, none⟩ = some (.int .i64 st) ∧ w'.cell? ⟨tb, 1, none⟩ = some (.slice A n c) ∧ w'.cell? ⟨tb, 2, none⟩ = some (.slice B m d) ∧ w'.cell? ⟨bp, op + i, none⟩ = some (.slice QA qn qc))
                  (((try go_split_ands); refine FrW.trc ?_ hbt4 hbp4 q4; with_reducible (first | assumption | exact FrW.drew (FrW.here _) | exact FrW.drew ‹_› | exact FrW.of ‹_› hb8 | fail)))
                  ((first | (go_at_call 61; (try go_split_ands); refine (kR _ (hHr.of (FrW.below ‹_›)) (hNr.of (FrW.below ‹_›)) (hQr.of (FrW.below ‹_›))).mono ?_; rintro e5 w5 ⟨A5, n5, c5, rfl, hR5, hc5, hb8⟩) | fail))
                (try go_split_ands)
                have hf5 : Below w4.heap.size w4 w5 := (by first | exact FrW.below (FrW.of ‹_› hb8) | exact FrW.below ‹_›)
                have hB5 : Below w.heap.size w w5 := below_thru hB4 hf5
                have hb5 : Below w3.heap.size w3 w5 := below_thru (below_thru hb hb4) hf5
                have hP5 := (hP.of hb4).of hf5
                have hn5 : n5 ≤ 5000 := by rw [← hR5.len]; exact (rightC_ok hr5.out).1
                have p5 := (hf5.cell (p := ⟨_, _, none⟩) hbp4).trans ((hb4.cell (p := ⟨_, _, none⟩) hbp).trans p0)
                have kS := fun w1 h1 h2 => pat_Same A5 PA n5 pn c5 pc (runL st H N Q dd) P w1 h1 h2 (by omega)
                rw [hs.out] at kS
                go_wp2_with fail
                go_at_call 73
                refine (kS _ hR5 hP5).mono ?_
                rintro e6 w6 ⟨rfl, hb6⟩
                have hB6 : Below w.heap.size w w6 := below_thru hB5 hb6
                have hb36 : Below w3.heap.size w3 w6 := below_thru hb5 hb6
                go_wp2_with fail
                go_ret2
                exact ⟨ret_fo HE.out, hB6⟩
            · rw [if_neg hr] at hfs
              have HE := Lib.hid (HD.out.trans (fo_at hla.out hlt hall.out (hfs)))
              generalize runE st H N Q dd = er at kR hr HE
              have der : (er != 0) = true := by simpa using hr
              clear hfs qd hr
              go_wp2_with fail
              (refine wp_region_ext_lit (by kernel_rfl) (by kernel_rfl) ?_; (repeat (go_big_quiet_step (fail))); refine wpQuiet_nil ?_; intro _ hw'; obtain ⟨z1, hw''⟩ := hw'; subst hw''; have hs1 := z1.size; obtain ⟨hc1, hf1⟩ := bcell z1.below; (try simp only [World.size_alloc, World.size_setCell, World.size_drew] at hc1 hf1); (try simp at hs1))
              have hb4 : Below wr.heap.size wr z1.world := z1.below
              obtain ⟨w4, hw4⟩ : ∃ w4, w4 = z1.world := ⟨_, rfl⟩
              rw [← hw4] at hb4
              have hs4 := hb4.size
              have hB4 : Below w.heap.size w w4 := below_thru hB1 hb4
              go_wp2_with fail
              rw [← hw4]
              clear hw4
              have hbt4 := hbt1.of hb4
              have q4 := (hb4.cell (p := ⟨_, _, none⟩) hbp).trans q0
              have hbp4 : bp < w4.heap.size := by omega
              have hHr := ((hH.of hb).of hb4)
              have hNr := ((hN.of hb).of hb4)
              have hQr := hQ.of hb4
              go_region_held3 (fun w' => FrW w4 w' ∧ w'.cell? ⟨tb, 0, none⟩ = some (.int .i64 st) ∧ w'.cell? ⟨tb, 1, none⟩ = some (.slice A n c) ∧ w'.cell? ⟨tb, 2, none⟩ = some (.slice B m d) ∧ w'.cell? ⟨bp, op + i, none⟩ = some (.slice QA qn qc))
                (((try go_split_ands); refine FrW.trc ?_ hbt4 hbp4 q4; with_reducible (first | assumption | exact FrW.drew (FrW.here _) | exact FrW.drew ‹_› | exact FrW.of ‹_› hb8 | fail)))
                ((first | (go_at_call 61; (try go_split_ands); refine (kR _ (hHr.of (FrW.below ‹_›)) (hNr.of (FrW.below ‹_›)) (hQr.of (FrW.below ‹_›))).mono ?_; rintro e5 w5 ⟨A5, n5, c5, rfl, hR5, hc5, hb8⟩) | fail))
              (try go_split_ands)
              have hf5 : Below w4.heap.size w4 w5 := (by first | exact FrW.below (FrW.of ‹_› hb8) | exact FrW.below ‹_›)
              have hB5 : Below w.heap.size w w5 := below_thru hB4 hf5
              have hb5 : Below w3.heap.size w3 w5 := below_thru (below_thru hb hb4) hf5
              have hP5 := (hP.of hb4).of hf5
              go_wp2_with fail
              go_ret2
              exact ⟨ret_fo HE.out, hB5⟩
          · have dj : decide ((j : Int) < k) = false := decide_eq_false (by omega)
            have dj' : decide (j < k) = false := decide_eq_false hlt
            have HE := Lib.hid (HD.out.trans (fo_end hla.out (fun i h => hall.out i (by omega))))
            go_wp2_with fail
            go_ret2
            exact ⟨ret_fo HE.out, hB1⟩
end Go.Proofs.YtabfefhicfmabaaGreat
end
