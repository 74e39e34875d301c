/- Follows, the reference's. By mktim21.py. -/
import Derived.Test.YtfdihjjnlmhibaaGreatTMD
import Derived.Test.YtfdihjjnlmhibaaGreatTim8
import Derived.Test.YtfdihjjnlmhibaaGreatTMC
import Derived.Test.YtfdihjjnlmhibaaGreatDIR
import Derived.Test.YtfdihjjnlmhibaaGreatFLD
import Derived.Test.YtfdihjjnlmhibaaGreatTim2
import Derived.Test.YtfdihjjnlmhibaaGreatDLS
import Derived.Test.YtfdihjjnlmhibaaGreatTRE
namespace Go.Proofs.YtfdihjjnlmhibaaGreat
open Go Go.RowKit
set_option linter.unusedSimpArgs false
set_option linter.unusedVariables false
set_option maxRecDepth 100000
set_option linter.unusedSimpArgs false
set_option linter.unusedVariables false
set_option maxHeartbeats 16000000 in
theorem ref54_Follows (st : Int) (A B X : Option Addr) (n c m d k e : Nat) (H : List (Int × Int)) (N : List (Int × List Int)) (key : Int) (fs : List TFr) (w : World) (hH : Rd encP 2 w A n H) (hN : RdX ekN w B m N) (hF : RdX ekFr w X k fs) (hsm : SmT fs) :
    Calls Tryz.prog 8 #[.agg #[.int .i64 st, .slice A n c, .slice B m d], .agg #[.int .i64 key, .slice X k e]] w fun e w' => e = .returned (.tuple #[.int .i64 (foL st H N key fs).1, .int .i64 (foL st H N key fs).2]) ∧ Below w.heap.size w w' := by
  have kQ := fun w1 h1 h2 => ref12_Quiet st A B n c m d H N w1 h1 h2
  have kP := fun w1 h => ref54_Patterns key X k e fs w1 h hsm
  have hFl := Lib.hid hF.len
  cases hq : trQ st H N with
  | false =>
    have HE := Lib.hid (fo_rule (key := key) (fs := fs) hq)
    rw [hq] at kQ
    clear hq
    go_enter Tryz.func8, Tryz.ntmps8
    go_wp2_with fail
    obtain ⟨we, hwe, hbt, hxb, hB, hsw⟩ := two_boxesTF w (.int .i64 st) (.slice A n c) (.slice B m d) key X k e 25 28
    rw [← hwe]
    clear hwe
    obtain ⟨tb, hte⟩ : ∃ tb, tb = w.heap.size := ⟨_, rfl⟩
    obtain ⟨xb, hxe⟩ : ∃ xb, xb = w.heap.size + 1 := ⟨_, rfl⟩
    rw [← hte] at hbt
    rw [← hxe] at hxb
    rw [← hxe, ← hte]
    clear hxe hte
    replace hH := hH.of hB
    replace hN := hN.of hB
    replace hF := hF.of hB
    have ⟨_, t0, t1, t2⟩ := hbt
    have ⟨_, x0, x1, _, _⟩ := hxb.open2
    go_wp2_with fail
    go_at_call 27
    refine (kQ _ hH hN).mono ?_
    rintro e1 w1 ⟨rfl, hb1⟩
    clear t0 t1 t2 x0 x1
    replace hH := hH.of hb1
    replace hN := hN.of hb1
    replace hF := hF.of hb1
    replace hbt := hbt.of hb1
    replace hxb := hxb.of hb1
    replace hB := below_thru hB hb1
    have ⟨_, t0, t1, t2⟩ := hbt
    have ⟨_, x0, x1, _, _⟩ := hxb.open2
    clear hb1
    go_wp2_with fail
    go_ret2
    exact ⟨ret_fo HE.out, hB⟩
  | true =>
    rw [hq] at kQ
    cases hv : tlB key fs with
    | false =>
      have HE := Lib.hid (fo_arg hq hv)
      rw [hv] at kP
      clear hq hv
      go_enter Tryz.func8, Tryz.ntmps8
      go_wp2_with fail
      obtain ⟨we, hwe, hbt, hxb, hB, hsw⟩ := two_boxesTF w (.int .i64 st) (.slice A n c) (.slice B m d) key X k e 25 28
      rw [← hwe]
      clear hwe
      obtain ⟨tb, hte⟩ : ∃ tb, tb = w.heap.size := ⟨_, rfl⟩
      obtain ⟨xb, hxe⟩ : ∃ xb, xb = w.heap.size + 1 := ⟨_, rfl⟩
      rw [← hte] at hbt
      rw [← hxe] at hxb
      rw [← hxe, ← hte]
      clear hxe hte
      replace hH := hH.of hB
      replace hN := hN.of hB
      replace hF := hF.of hB
      have ⟨_, t0, t1, t2⟩ := hbt
      have ⟨_, x0, x1, _, _⟩ := hxb.open2
      go_wp2_with fail
      go_at_call 27
      refine (kQ _ hH hN).mono ?_
      rintro e1 w1 ⟨rfl, hb1⟩
      clear t0 t1 t2 x0 x1
      replace hH := hH.of hb1
      replace hN := hN.of hb1
      replace hF := hF.of hb1
      replace hbt := hbt.of hb1
      replace hxb := hxb.of hb1
      replace hB := below_thru hB hb1
      have ⟨_, t0, t1, t2⟩ := hbt
      have ⟨_, x0, x1, _, _⟩ := hxb.open2
      clear hb1
      go_wp2_with fail
      go_at_call 28
      refine (kP _ hF).mono ?_
      rintro e2 w2 ⟨A2, m2, d2, rfl, hO, hb2⟩
      clear t0 t1 t2 x0 x1
      replace hH := hH.of hb2
      replace hN := hN.of hb2
      replace hF := hF.of hb2
      replace hbt := hbt.of hb2
      replace hxb := hxb.of hb2
      replace hB := below_thru hB hb2
      have ⟨_, t0, t1, t2⟩ := hbt
      have ⟨_, x0, x1, _, _⟩ := hxb.open2
      clear hb2
      go_wp2_with fail
      go_ret2
      exact ⟨ret_fo HE.out, hB⟩
    | true =>
      have hPl := Lib.hid (tlP_len hv)
      have hPr := Lib.hid (tlP_right hv)
      have hok := tlB_ok hv
      have hk1 : k ≤ 1000 := by rw [← hFl.out]; exact (tlB_iff.1 hv).2.1
      have hge := Lib.hid (fun (i : Nat) (hi : i < fs.length) => (tl_gens (K := hok.choose) hok.choose_spec.2.2.2.2 hi))
      clear hok
      rw [hv] at kP
      cases hf : foT st (tlP key fs) with
      | true =>
        have HE := Lib.hid (fo_state hq hv hf)
        clear hq hv
        go_enter Tryz.func8, Tryz.ntmps8
        go_wp2_with fail
        obtain ⟨we, hwe, hbt, hxb, hB, hsw⟩ := two_boxesTF w (.int .i64 st) (.slice A n c) (.slice B m d) key X k e 25 28
        rw [← hwe]
        clear hwe
        obtain ⟨tb, hte⟩ : ∃ tb, tb = w.heap.size := ⟨_, rfl⟩
        obtain ⟨xb, hxe⟩ : ∃ xb, xb = w.heap.size + 1 := ⟨_, rfl⟩
        rw [← hte] at hbt
        rw [← hxe] at hxb
        rw [← hxe, ← hte]
        clear hxe hte
        replace hH := hH.of hB
        replace hN := hN.of hB
        replace hF := hF.of hB
        have ⟨_, t0, t1, t2⟩ := hbt
        have ⟨_, x0, x1, _, _⟩ := hxb.open2
        go_wp2_with fail
        go_at_call 27
        refine (kQ _ hH hN).mono ?_
        rintro e1 w1 ⟨rfl, hb1⟩
        clear t0 t1 t2 x0 x1
        replace hH := hH.of hb1
        replace hN := hN.of hb1
        replace hF := hF.of hb1
        replace hbt := hbt.of hb1
        replace hxb := hxb.of hb1
        replace hB := below_thru hB hb1
        have ⟨_, t0, t1, t2⟩ := hbt
        have ⟨_, x0, x1, _, _⟩ := hxb.open2
        clear hb1
        go_wp2_with fail
        go_at_call 28
        refine (kP _ hF).mono ?_
        rintro e2 w2 ⟨A2, m2, d2, rfl, hO, hb2⟩
        clear t0 t1 t2 x0 x1
        replace hH := hH.of hb2
        replace hN := hN.of hb2
        replace hF := hF.of hb2
        replace hbt := hbt.of hb2
        replace hxb := hxb.of hb2
        replace hB := below_thru hB hb2
        have ⟨_, t0, t1, t2⟩ := hbt
        have ⟨_, x0, x1, _, _⟩ := hxb.open2
        clear hb2
        obtain rfl : k = m2 := by rw [← hO.len, hPl.out, hFl.out]
        have hR := hO.rd
        clear hO
        clear t0 t1 t2 x0 x1
        go_wp2_with fail
        go_loopw [8] (fun t wr => ∃ j : Nat, t = .int .i64 j ∧ j ≤ k ∧ Hid (∀ i x, i < j → (tlP key fs)[i]? = some x → topS st x = false) ∧ Below w2.heap.size w2 wr) (fun t _ => k - (intOf t).toNat)
        case atStart => exact ⟨0, rfl, by omega, Lib.hid (fun i x h => absurd h (by omega)), Below.refl _ _⟩
        case round =>
          obtain ⟨j, rfl, hj, hno, hb⟩ := hrel
          have hsz := hb.size
          have ⟨_, t0, t1, t2⟩ := hbt.of hb
          by_cases hlt : j < k
          · have dj : decide ((j : Int) < k) = true := decide_eq_true (by omega)
            have dj' : decide (j < k) = true := decide_eq_true hlt
            obtain ⟨PA, pn, pc, P, bp, op, hp, rfl, hbp, p0, hP, hpc⟩ := (hR.of hb).pat hlt
            have hpn : pn ≤ 5000 := by rw [← hP.len]; exact (rightC_ok (hPr.out _ (List.mem_of_getElem? hp.out))).1
            have kT := fun w1 h => ref05_Top PA pn pc P w1 h (by omega)
            cases ht : topS st P with
            | true =>
              have dt : decide (st ≤ topC P) = true := ht
              generalize topC P = tp at kT dt
              clear ht hno
              go_wp2_with fail
              (refine wp_region_ext_lit (by kernel_rfl) (by kernel_rfl) ?_; (repeat (go_big_quiet_step ((go_at_call 29; exact calls_ext (kT _ (hP.of (Ext.below _))))))); refine wpQuiet_nil ?_; intro _ hw'; obtain ⟨z1, hw''⟩ := hw'; subst hw''; have hs1 := z1.size; obtain ⟨hc1, hf1⟩ := bcell z1.below; (try simp only [World.size_alloc, World.size_setCell, World.size_drew] at hc1 hf1); (try simp at hs1))
              have hbz : Below w2.heap.size w2 z1.world := below_thru hb z1.below
              have hBz : Below w.heap.size w z1.world := below_thru hB hbz
              go_wp2_with fail
              go_ret2
              exact ⟨ret_fo HE.out, hBz⟩
            | false =>
              have dt : decide (st ≤ topC P) = false := ht
              have hst := Lib.hid (topS_step hno.out hp.out ht)
              generalize topC P = tp at kT dt
              clear ht hno
              go_wp2_with fail
              (refine wp_region_ext_lit (by kernel_rfl) (by kernel_rfl) ?_; (repeat (go_big_quiet_step ((go_at_call 29; exact calls_ext (kT _ (hP.of (Ext.below _))))))); refine wpQuiet_nil ?_; intro _ hw'; obtain ⟨z1, hw''⟩ := hw'; subst hw''; have hs1 := z1.size; obtain ⟨hc1, hf1⟩ := bcell z1.below; (try simp only [World.size_alloc, World.size_setCell, World.size_drew] at hc1 hf1); (try simp at hs1))
              have hbz : Below w2.heap.size w2 z1.world := below_thru hb z1.below
              have hBz : Below w.heap.size w z1.world := below_thru hB hbz
              go_wp2_with fail
              go_roundw
              case rel => exact ⟨j + 1, by go_num, by omega, hst, hbz⟩
              case measure => simp [intOf]; omega
          · have := topS_no (hPl.out.trans hFl.out) (fun i x h => hno.out i x (by omega))
            rw [hf] at this
            cases this
      | false =>
        have HD := Lib.hid (fo_good hq hv hf)
        clear hq hv
        go_enter Tryz.func8, Tryz.ntmps8
        go_wp2_with fail
        obtain ⟨we, hwe, hbt, hxb, hB, hsw⟩ := two_boxesTF w (.int .i64 st) (.slice A n c) (.slice B m d) key X k e 25 28
        rw [← hwe]
        clear hwe
        obtain ⟨tb, hte⟩ : ∃ tb, tb = w.heap.size := ⟨_, rfl⟩
        obtain ⟨xb, hxe⟩ : ∃ xb, xb = w.heap.size + 1 := ⟨_, rfl⟩
        rw [← hte] at hbt
        rw [← hxe] at hxb
        rw [← hxe, ← hte]
        clear hxe hte
        replace hH := hH.of hB
        replace hN := hN.of hB
        replace hF := hF.of hB
        have ⟨_, t0, t1, t2⟩ := hbt
        have ⟨_, x0, x1, _, _⟩ := hxb.open2
        go_wp2_with fail
        go_at_call 27
        refine (kQ _ hH hN).mono ?_
        rintro e1 w1 ⟨rfl, hb1⟩
        clear t0 t1 t2 x0 x1
        replace hH := hH.of hb1
        replace hN := hN.of hb1
        replace hF := hF.of hb1
        replace hbt := hbt.of hb1
        replace hxb := hxb.of hb1
        replace hB := below_thru hB hb1
        have ⟨_, t0, t1, t2⟩ := hbt
        have ⟨_, x0, x1, _, _⟩ := hxb.open2
        clear hb1
        go_wp2_with fail
        go_at_call 28
        refine (kP _ hF).mono ?_
        rintro e2 w2 ⟨A2, m2, d2, rfl, hO, hb2⟩
        clear t0 t1 t2 x0 x1
        replace hH := hH.of hb2
        replace hN := hN.of hb2
        replace hF := hF.of hb2
        replace hbt := hbt.of hb2
        replace hxb := hxb.of hb2
        replace hB := below_thru hB hb2
        have ⟨_, t0, t1, t2⟩ := hbt
        have ⟨_, x0, x1, _, _⟩ := hxb.open2
        clear hb2
        obtain rfl : k = m2 := by rw [← hO.len, hPl.out, hFl.out]
        have hR := hO.rd
        clear hO
        clear t0 t1 t2 x0 x1
        go_wp2_with fail
        go_loopw [8] (fun t wr => ∃ j : Nat, t = .int .i64 j ∧ j ≤ k ∧ Below w2.heap.size w2 wr) (fun t _ => k - (intOf t).toNat)
        case atStart => exact ⟨0, rfl, by omega, Below.refl _ _⟩
        case round =>
          obtain ⟨j, rfl, hj, hb⟩ := hrel
          have hsz := hb.size
          have ⟨_, t0, t1, t2⟩ := hbt.of hb
          by_cases hlt : j < k
          · have dj : decide ((j : Int) < k) = true := decide_eq_true (by omega)
            have dj' : decide (j < k) = true := decide_eq_true hlt
            obtain ⟨PA, pn, pc, P, bp, op, hp, rfl, hbp, p0, hP, hpc⟩ := (hR.of hb).pat hlt
            have hpn : pn ≤ 5000 := by rw [← hP.len]; exact (rightC_ok (hPr.out _ (List.mem_of_getElem? hp.out))).1
            have kT := fun w1 h => ref05_Top PA pn pc P w1 h (by omega)
            have dt : decide (st ≤ topC P) = false := by
              refine Decidable.byContradiction fun h => ?_
              have := topS_yes hp.out (show topS st P = true by unfold topS; simpa using h)
              rw [hf] at this
              cases this
            generalize topC P = tp at kT dt
            go_wp2_with fail
            (refine wp_region_ext_lit (by kernel_rfl) (by kernel_rfl) ?_; (repeat (go_big_quiet_step ((go_at_call 29; exact calls_ext (kT _ (hP.of (Ext.below _))))))); refine wpQuiet_nil ?_; intro _ hw'; obtain ⟨z1, hw''⟩ := hw'; subst hw''; have hs1 := z1.size; obtain ⟨hc1, hf1⟩ := bcell z1.below; (try simp only [World.size_alloc, World.size_setCell, World.size_drew] at hc1 hf1); (try simp at hs1))
            have hbz : Below w2.heap.size w2 z1.world := below_thru hb z1.below
            have hBz : Below w.heap.size w z1.world := below_thru hB hbz
            go_wp2_with fail
            go_roundw
            case rel => exact ⟨j + 1, by go_num, by omega, hbz⟩
            case measure => simp [intOf]; omega
          · have dj : decide ((j : Int) < k) = false := decide_eq_false (by omega)
            have dj' : decide (j < k) = false := decide_eq_false hlt
            clear t0 t1 t2
            obtain ⟨w3, hw3⟩ : ∃ w3, w3 = wr := ⟨_, rfl⟩
            rw [← hw3] at hb hsz ⊢
            clear hw3 hj hlt
            replace hH := hH.of hb
            replace hN := hN.of hb
            replace hF := hF.of hb
            replace hbt := hbt.of hb
            replace hxb := hxb.of hb
            replace hR := hR.of hb
            replace hB := below_thru hB hb
            clear hb
            have ⟨_, t0, t1, t2⟩ := hbt
            have ⟨_, x0, x1, _, _⟩ := hxb.open2
            clear t0 t1 t2 x0 x1
            go_wp2_with fail
            go_loopw [9] (fun t wr => ∃ j : Nat, t = .int .i64 j ∧ 1 ≤ j ∧ (j ≤ k ∨ j = 1) ∧ Hid (∀ i, i < j → foS st H N (gnL fs) (tlP key fs) i = none) ∧ Below w3.heap.size w3 wr) (fun t _ => k - (intOf t).toNat)
            case atStart => exact ⟨1, rfl, by omega, .inr rfl, Lib.hid (fun i h => by rw [show i = 0 by omega]; exact foS_zero), Below.refl _ _⟩
            case round =>
              obtain ⟨j, rfl, hj1, hj, hall, hb⟩ := hrel
              have hsz := hb.size
              have hB1 : Below w.heap.size w wr := below_thru hB hb
              have hbt1 := hbt.of hb
              have hxb1 := hxb.of hb
              have ⟨_, t0, t1, t2⟩ := hbt1
              have ⟨_, x0, x1, _, _⟩ := hxb1.open2
              have hla := Lib.hid (hPl.out.trans hFl.out)
              by_cases hlt : j < k
              · have dj : decide ((j : Int) < k) = true := decide_eq_true (by omega)
                have dj' : decide (j < k) = true := decide_eq_true hlt
                obtain ⟨i, hi⟩ : ∃ i, i = j - 1 := ⟨_, rfl⟩
                obtain ⟨g, fu, C, D, CA, cn, cc, DA, dn, dc, bo, o, hx, rfl, hbo, g0, _⟩ := (hF.of hb).frm hlt
                obtain ⟨g', fu', C', D', CA', cn', cc', DA', dn', dc', bo', o', hx', he', _, g0', _⟩ := (hF.of hb).frm (i := i) (by omega)
                injection he' with he'
                injection he' with e1 e2
                subst e1 e2
                obtain ⟨PA, pn, pc, P, bp, op, hp, rfl, hbp, p0, hP, hpc⟩ := (hR.of hb).pat hlt
                obtain ⟨QA, qn, qc, Q, bp', op', hq, he2, _, q0, hQ, hqc⟩ := (hR.of hb).pat (i := i) (by omega)
                injection he2 with he2
                injection he2 with e1 e2
                subst e1 e2
                have hpn : pn ≤ 5000 := by rw [← hP.len]; exact (rightC_ok (hPr.out _ (List.mem_of_getElem? hp.out))).1
                have hqn : qn ≤ 5000 := by rw [← hQ.len]; exact (rightC_ok (hPr.out _ (List.mem_of_getElem? hq.out))).1
                have hgj := hge.out j (by rw [hFl.out]; exact hlt)
                have hgi := hge.out i (by rw [hFl.out]; omega)
                rw [gn_frm hx.out] at hgj
                rw [gn_frm hx'.out] at hgi
                have hfs := foS_at (st := st) (H := H) (N := N) (g := g) (g0 := g') (q := Q) (r := P) (by omega : 0 < j) (gn_frm hx.out) (by rw [← hi]; exact gn_frm hx'.out) (by rw [← hi]; exact hq.out) hp.out
                obtain ⟨dd, hdd⟩ : ∃ dd, dd = g - g' := ⟨_, rfl⟩
                have ew : IntKind.i64.wrap (g - g') = dd := by rw [hdd]; exact IntWalk.i64_in _ (by omega)
                rw [← hdd] at hfs
                have hmw : IntKind.i64.wrap ((j : Int) - 1) = (i : Int) := by rw [IntWalk.i64_in _ (by omega)]; omega
                have hi0 : (0 : Int) ≤ (i : Int) := by omega
                have hi1 : (i : Int) < (k : Int) := by omega
                have hi2 : i < k := by omega
                clear hgj hgi hdd hi
                have kR := fun w1 h1 h2 h3 => ref20_Run st A B QA n c m d qn qc H N Q w1 dd h1 h2 h3 (by omega) hqc
                by_cases qd : 10000 < dd
                · have dg : decide (10000 < dd) = true := decide_eq_true qd
                  have HE := Lib.hid (HD.out.trans (fo_at hla.out hlt hall.out (hfs.trans (if_pos qd))))
                  clear hfs qd
                  go_wp2_with fail
                  (refine wp_region_ext_lit (by kernel_rfl) (by kernel_rfl) ?_; (repeat (go_big_quiet_step (fail))); refine wpQuiet_nil ?_; intro _ hw'; obtain ⟨z1, hw''⟩ := hw'; subst hw''; have hs1 := z1.size; obtain ⟨hc1, hf1⟩ := bcell z1.below; (try simp only [World.size_alloc, World.size_setCell, World.size_drew] at hc1 hf1); (try simp at hs1))
                  have hb4 : Below wr.heap.size wr z1.world := z1.below
                  obtain ⟨w4, hw4⟩ : ∃ w4, w4 = z1.world := ⟨_, rfl⟩
                  rw [← hw4] at hb4
                  have hs4 := hb4.size
                  have hB4 : Below w.heap.size w w4 := below_thru hB1 hb4
                  go_wp2_with fail
                  rw [← hw4]
                  clear hw4
                  go_wp2_with fail
                  go_ret2
                  exact ⟨ret_fo HE.out, hB4⟩
                have dg : decide (10000 < dd) = false := decide_eq_false qd
                rw [if_neg qd] at hfs
                by_cases hr : runE st H N Q dd = 0
                · rw [if_pos hr] at hfs
                  have hr5 := Lib.hid (runL_right hr)
                  rw [hr] at kR
                  clear qd hr
                  cases hs : sameL (runL st H N Q dd) P with
                  | true =>
                    rw [if_pos hs] at hfs
                    replace hs := Lib.hid hs
                    have hst := Lib.hid (none_below hall.out hfs)
                    clear hfs
                    go_wp2_with fail
                    (refine wp_region_ext_lit (by kernel_rfl) (by kernel_rfl) ?_; (repeat (go_big_quiet_step (fail))); refine wpQuiet_nil ?_; intro _ hw'; obtain ⟨z1, hw''⟩ := hw'; subst hw''; have hs1 := z1.size; obtain ⟨hc1, hf1⟩ := bcell z1.below; (try simp only [World.size_alloc, World.size_setCell, World.size_drew] at hc1 hf1); (try simp at hs1))
                    have hb4 : Below wr.heap.size wr z1.world := z1.below
                    obtain ⟨w4, hw4⟩ : ∃ w4, w4 = z1.world := ⟨_, rfl⟩
                    rw [← hw4] at hb4
                    have hs4 := hb4.size
                    have hB4 : Below w.heap.size w w4 := below_thru hB1 hb4
                    go_wp2_with fail
                    rw [← hw4]
                    clear hw4
                    have hbt4 := hbt1.of hb4
                    have q4 := (hb4.cell (p := ⟨_, _, none⟩) hbp).trans q0
                    have hbp4 : bp < w4.heap.size := by omega
                    have hHr := ((hH.of hb).of hb4)
                    have hNr := ((hN.of hb).of hb4)
                    have hQr := hQ.of hb4
                    go_region_held3 (fun w' => FrW w4 w' ∧ w'.cell? ⟨tb, 0, none⟩ = some (.int .i64 st) ∧ w'.cell? ⟨tb, 1, none⟩ = some (.slice A n c) ∧ w'.cell? ⟨tb, 2, none⟩ = some (.slice B m d) ∧ w'.cell? ⟨bp, op + i, none⟩ = some (.slice QA qn qc))
                      (((try go_split_ands); refine FrW.trc ?_ hbt4 hbp4 q4; with_reducible (first | assumption | exact FrW.drew (FrW.here _) | exact FrW.drew ‹_› | exact FrW.of ‹_› hb8 | fail)))
                      ((first | (go_at_call 30; (try go_split_ands); refine (kR _ (hHr.of (FrW.below ‹_›)) (hNr.of (FrW.below ‹_›)) (hQr.of (FrW.below ‹_›))).mono ?_; rintro e5 w5 ⟨A5, n5, c5, rfl, hR5, hc5, hb8⟩) | fail))
                    (try go_split_ands)
                    have hf5 : Below w4.heap.size w4 w5 := (by first | exact FrW.below (FrW.of ‹_› hb8) | exact FrW.below ‹_›)
                    have hB5 : Below w.heap.size w w5 := below_thru hB4 hf5
                    have hb5 : Below w3.heap.size w3 w5 := below_thru (below_thru hb hb4) hf5
                    have hP5 := (hP.of hb4).of hf5
                    have hn5 : n5 ≤ 5000 := by rw [← hR5.len]; exact (rightC_ok hr5.out).1
                    have p5 := (hf5.cell (p := ⟨_, _, none⟩) hbp4).trans ((hb4.cell (p := ⟨_, _, none⟩) hbp).trans p0)
                    have kS := fun w1 h1 h2 => ref05_Same A5 PA n5 pn c5 pc (runL st H N Q dd) P w1 h1 h2 (by omega) (by omega)
                    rw [hs.out] at kS
                    go_wp2_with fail
                    go_at_call 17
                    refine (kS _ hR5 hP5).mono ?_
                    rintro e6 w6 ⟨rfl, hb6⟩
                    have hB6 : Below w.heap.size w w6 := below_thru hB5 hb6
                    have hb36 : Below w3.heap.size w3 w6 := below_thru hb5 hb6
                    go_wp2_with fail
                    go_roundw
                    case rel => exact ⟨j + 1, by go_num, by omega, .inl (by omega), hst, hb36⟩
                    case measure => simp [intOf]; omega
                  | false =>
                    rw [if_neg (by rw [hs]; simp)] at hfs
                    replace hs := Lib.hid hs
                    have HE := Lib.hid (HD.out.trans (fo_at hla.out hlt hall.out (hfs)))
                    clear hfs
                    go_wp2_with fail
                    (refine wp_region_ext_lit (by kernel_rfl) (by kernel_rfl) ?_; (repeat (go_big_quiet_step (fail))); refine wpQuiet_nil ?_; intro _ hw'; obtain ⟨z1, hw''⟩ := hw'; subst hw''; have hs1 := z1.size; obtain ⟨hc1, hf1⟩ := bcell z1.below; (try simp only [World.size_alloc, World.size_setCell, World.size_drew] at hc1 hf1); (try simp at hs1))
                    have hb4 : Below wr.heap.size wr z1.world := z1.below
                    obtain ⟨w4, hw4⟩ : ∃ w4, w4 = z1.world := ⟨_, rfl⟩
                    rw [← hw4] at hb4
                    have hs4 := hb4.size
                    have hB4 : Below w.heap.size w w4 := below_thru hB1 hb4
                    go_wp2_with fail
                    rw [← hw4]
                    clear hw4
                    have hbt4 := hbt1.of hb4
                    have q4 := (hb4.cell (p := ⟨_, _, none⟩) hbp).trans q0
                    have hbp4 : bp < w4.heap.size := by omega
                    have hHr := ((hH.of hb).of hb4)
                    have hNr := ((hN.of hb).of hb4)
                    have hQr := hQ.of hb4
                    go_region_held3 (fun w' => FrW w4 w' ∧ w'.cell? ⟨tb, 0, none⟩ = some (.int .i64 st) ∧ w'.cell? ⟨tb, 1, none⟩ = some (.slice A n c) ∧ w'.cell? ⟨tb, 2, none⟩ = some (.slice B m d) ∧ w'.cell? ⟨bp, op + i, none⟩ = some (.slice QA qn qc))
                      (((try go_split_ands); refine FrW.trc ?_ hbt4 hbp4 q4; with_reducible (first | assumption | exact FrW.drew (FrW.here _) | exact FrW.drew ‹_› | exact FrW.of ‹_› hb8 | fail)))
                      ((first | (go_at_call 30; (try go_split_ands); refine (kR _ (hHr.of (FrW.below ‹_›)) (hNr.of (FrW.below ‹_›)) (hQr.of (FrW.below ‹_›))).mono ?_; rintro e5 w5 ⟨A5, n5, c5, rfl, hR5, hc5, hb8⟩) | fail))
                    (try go_split_ands)
                    have hf5 : Below w4.heap.size w4 w5 := (by first | exact FrW.below (FrW.of ‹_› hb8) | exact FrW.below ‹_›)
                    have hB5 : Below w.heap.size w w5 := below_thru hB4 hf5
                    have hb5 : Below w3.heap.size w3 w5 := below_thru (below_thru hb hb4) hf5
                    have hP5 := (hP.of hb4).of hf5
                    have hn5 : n5 ≤ 5000 := by rw [← hR5.len]; exact (rightC_ok hr5.out).1
                    have p5 := (hf5.cell (p := ⟨_, _, none⟩) hbp4).trans ((hb4.cell (p := ⟨_, _, none⟩) hbp).trans p0)
                    have kS := fun w1 h1 h2 => ref05_Same A5 PA n5 pn c5 pc (runL st H N Q dd) P w1 h1 h2 (by omega) (by omega)
                    rw [hs.out] at kS
                    go_wp2_with fail
                    go_at_call 17
                    refine (kS _ hR5 hP5).mono ?_
                    rintro e6 w6 ⟨rfl, hb6⟩
                    have hB6 : Below w.heap.size w w6 := below_thru hB5 hb6
                    have hb36 : Below w3.heap.size w3 w6 := below_thru hb5 hb6
                    go_wp2_with fail
                    go_ret2
                    exact ⟨ret_fo HE.out, hB6⟩
                · rw [if_neg hr] at hfs
                  have HE := Lib.hid (HD.out.trans (fo_at hla.out hlt hall.out (hfs)))
                  generalize runE st H N Q dd = er at kR hr HE
                  have der : (er != 0) = true := by simpa using hr
                  clear hfs qd hr
                  go_wp2_with fail
                  (refine wp_region_ext_lit (by kernel_rfl) (by kernel_rfl) ?_; (repeat (go_big_quiet_step (fail))); refine wpQuiet_nil ?_; intro _ hw'; obtain ⟨z1, hw''⟩ := hw'; subst hw''; have hs1 := z1.size; obtain ⟨hc1, hf1⟩ := bcell z1.below; (try simp only [World.size_alloc, World.size_setCell, World.size_drew] at hc1 hf1); (try simp at hs1))
                  have hb4 : Below wr.heap.size wr z1.world := z1.below
                  obtain ⟨w4, hw4⟩ : ∃ w4, w4 = z1.world := ⟨_, rfl⟩
                  rw [← hw4] at hb4
                  have hs4 := hb4.size
                  have hB4 : Below w.heap.size w w4 := below_thru hB1 hb4
                  go_wp2_with fail
                  rw [← hw4]
                  clear hw4
                  have hbt4 := hbt1.of hb4
                  have q4 := (hb4.cell (p := ⟨_, _, none⟩) hbp).trans q0
                  have hbp4 : bp < w4.heap.size := by omega
                  have hHr := ((hH.of hb).of hb4)
                  have hNr := ((hN.of hb).of hb4)
                  have hQr := hQ.of hb4
                  go_region_held3 (fun w' => FrW w4 w' ∧ w'.cell? ⟨tb, 0, none⟩ = some (.int .i64 st) ∧ w'.cell? ⟨tb, 1, none⟩ = some (.slice A n c) ∧ w'.cell? ⟨tb, 2, none⟩ = some (.slice B m d) ∧ w'.cell? ⟨bp, op + i, none⟩ = some (.slice QA qn qc))
                    (((try go_split_ands); refine FrW.trc ?_ hbt4 hbp4 q4; with_reducible (first | assumption | exact FrW.drew (FrW.here _) | exact FrW.drew ‹_› | exact FrW.of ‹_› hb8 | fail)))
                    ((first | (go_at_call 30; (try go_split_ands); refine (kR _ (hHr.of (FrW.below ‹_›)) (hNr.of (FrW.below ‹_›)) (hQr.of (FrW.below ‹_›))).mono ?_; rintro e5 w5 ⟨A5, n5, c5, rfl, hR5, hc5, hb8⟩) | fail))
                  (try go_split_ands)
                  have hf5 : Below w4.heap.size w4 w5 := (by first | exact FrW.below (FrW.of ‹_› hb8) | exact FrW.below ‹_›)
                  have hB5 : Below w.heap.size w w5 := below_thru hB4 hf5
                  have hb5 : Below w3.heap.size w3 w5 := below_thru (below_thru hb hb4) hf5
                  have hP5 := (hP.of hb4).of hf5
                  go_wp2_with fail
                  go_ret2
                  exact ⟨ret_fo HE.out, hB5⟩
              · have dj : decide ((j : Int) < k) = false := decide_eq_false (by omega)
                have dj' : decide (j < k) = false := decide_eq_false hlt
                have HE := Lib.hid (HD.out.trans (fo_end hla.out (fun i h => hall.out i (by omega))))
                go_wp2_with fail
                go_ret2
                exact ⟨ret_fo HE.out, hB1⟩
end Go.Proofs.YtfdihjjnlmhibaaGreat
