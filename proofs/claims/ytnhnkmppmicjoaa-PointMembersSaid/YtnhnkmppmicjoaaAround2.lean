/- The contract of Around of the reference. -/
import Derived.Test.YtnhnkmppmicjoaaAround
namespace Go.Proofs.Ytnhnkmppmicjoaa
open Go Go.RowKit
set_option linter.unusedSimpArgs false
set_option linter.unusedVariables false
set_option maxRecDepth 100000
set_option maxHeartbeats 2000000 in
theorem ref_Around (A : Option Addr) (n c : Nat) (l : List (Int × Int)) (w : World) (hR : Rd encP 2 w A n l) (hn : n ≤ 1000000) :
    Calls Try.prog 28 #[.slice A n c] w fun e w' => e = .returned (arVal l) ∧ Below w.heap.size w w' := by
  by_cases hz : n = 0
  · subst hz
    have HV := Lib.hid (arVal_no (l := l) (by obtain rfl : l = [] := List.length_eq_zero_iff.1 hR.len; rfl))
    go_enter Try.func28, Try.ntmps28
    go_wp2
    refine bodyPost_ret (v := .tuple #[.agg #[.int .i64 0, .int .i64 0, .int .i64 0, .int .i64 0], .bool false]) (by simp [results, Try.results28, go_sem, *, ↓IntWalk.iteOmega]) rfl ?_
    exact ⟨HV.out, by (repeat' (first | exact Below.refl _ _ | assumption | (refine Below.alloc ?_ ?_ _) | (refine Below.setCell ?_ ?_ _) | (refine Below.drew ?_) | (refine below_drewN ?_ _) | (refine below_after (Ext.below _) ?_ ?_) | (refine below_after (by assumption) ?_ ?_) | (simp; done) | omega | (simp; omega)))⟩
  · obtain ⟨fx, fy, b0, o0, hx0, rfl, hbl0, hcell0, hcell0'⟩ := hR.pt (i := 0) (by omega)
    rw [Nat.zero_mul, Nat.add_zero] at hcell0 hcell0'
    have hdz : ((n : Int) == 0) = false := by simp; omega
    have hz' : 0 < n := by omega
    clear hz
    go_enter Try.func28, Try.ntmps28
    go_wp2
    (refine wp_region_ext_lit (by kernel_rfl) (by kernel_rfl) ?_; (repeat (go_big_quiet_step (fail))); refine wpQuiet_nil ?_; intro _ hw'; obtain ⟨z1, hw''⟩ := hw'; subst hw''; have hs1 := z1.size; obtain ⟨hc1, hf1⟩ := bcell z1.below; (try simp only [World.size_alloc, World.size_setCell, World.size_drew] at hc1 hf1); (try simp at hs1))
    go_wp2
    go_loopw [4, 5, 6, 7, 8] (fun a1 a2 a3 a4 i wr => ∃ j : Nat, a1 = .int .i64 (loX (l.take j) fx) ∧ a2 = .int .i64 (loY (l.take j) fy) ∧ a3 = .int .i64 (hiX (l.take j) fx) ∧ a4 = .int .i64 (hiY (l.take j) fy) ∧ i = .int .i64 j ∧ j ≤ n ∧ Hid (okTo l j) ∧ Below (w.heap.size + 1) (w.alloc (.cells #[.int .i64 0, .int .i64 0, .int .i64 0, .int .i64 0] 31)) wr) (fun _ _ _ _ i _ => n - (intOf i).toNat)
    case atStart => exact ⟨0, rfl, rfl, rfl, rfl, rfl, by omega, (fun i x y hi => absurd hi (by omega)), by (repeat' (first | exact Below.refl _ _ | assumption | (refine Below.alloc ?_ ?_ _) | (refine Below.setCell ?_ ?_ _) | (refine Below.drew ?_) | (refine below_drewN ?_ _) | (refine below_after (Ext.below _) ?_ ?_) | (refine below_after (by assumption) ?_ ?_) | (simp; done) | omega | (simp; omega)))⟩
    case round =>
      obtain ⟨j, rfl, rfl, rfl, rfl, rfl, hj, hok, hb⟩ := hrel
      obtain ⟨hc, hf⟩ := bcell hb
      have hs := hb.size
      (try simp only [World.size_alloc] at hs)
      by_cases hlt : j < n
      · obtain ⟨px, py, bo, o, hx, he, hbl, hcell, hcell'⟩ := hR.pt hlt
        obtain ⟨rfl, rfl⟩ : b0 = bo ∧ o0 = o := by injection he with he; injection he with e1 e2; exact ⟨e1, e2⟩
        clear he
        have st1 := Lib.hid (loX_step (d := fx) hx.out)
        have st2 := Lib.hid (loY_step (d := fy) hx.out)
        have st3 := Lib.hid (hiX_step (d := fx) hx.out)
        have st4 := Lib.hid (hiY_step (d := fy) hx.out)
        generalize loX (l.take j) fx = m1 at st1 ⊢
        generalize loY (l.take j) fy = m2 at st2 ⊢
        generalize hiX (l.take j) fx = m3 at st3 ⊢
        generalize hiY (l.take j) fy = m4 at st4 ⊢
        cases hq : validB px py with
        | false =>
          have HV := Lib.hid (arVal_no (arOk_bad hx.out hq))
          have k1 := fun w1 => ref_ValidV hq w1
          clear hq
          go_wp2_with fail
          (go_at_call 61; refine (k1 _).mono ?_; rintro e w2 ⟨rfl, hb2⟩; obtain ⟨hc2, hf2⟩ := bcell hb2; have hs2 := hb2.size; (try simp only [World.size_alloc, World.size_setCell, World.size_drew] at hc2 hf2); (try simp at hs2))
          go_wp2_with fail
          refine bodyPost_ret (v := .tuple #[.agg #[.int .i64 0, .int .i64 0, .int .i64 0, .int .i64 0], .bool false]) (by simp [results, Try.results28, go_sem, *, ↓IntWalk.iteOmega]) rfl ?_
          exact ⟨HV.out, by (repeat' (first | exact Below.refl _ _ | assumption | (refine Below.alloc ?_ ?_ _) | (refine Below.setCell ?_ ?_ _) | (refine Below.drew ?_) | (refine below_drewN ?_ _) | (refine below_after (Ext.below _) ?_ ?_) | (refine below_after (by assumption) ?_ ?_) | (simp; done) | omega | (simp; omega)))⟩
        | true =>
          have hv := Lib.hid hq
          have k1 := fun w1 => ref_ValidV hq w1
          clear hq
          go_wp2_with fail
          (go_at_call 61; refine (k1 _).mono ?_; rintro e w2 ⟨rfl, hb2⟩; obtain ⟨hc2, hf2⟩ := bcell hb2; have hs2 := hb2.size; (try simp only [World.size_alloc, World.size_setCell, World.size_drew] at hc2 hf2); (try simp at hs2))
          go_wp2_with fail
          (refine wp_region_ext_lit (by kernel_rfl) (by kernel_rfl) ?_; (repeat (go_big_quiet_step (fail))); refine wpQuiet_nil ?_; intro _ hw'; obtain ⟨z3, hw''⟩ := hw'; subst hw''; have hs3 := z3.size; obtain ⟨hc3, hf3⟩ := bcell z3.below; (try simp only [World.size_alloc, World.size_setCell, World.size_drew] at hc3 hf3); (try simp at hs3))
          go_wp2_with fail
          go_roundw
          case rel => exact ⟨j + 1, by rw [st1.out], by rw [st2.out], by rw [st3.out], by rw [st4.out], by go_num, by omega, okTo_step hok.out hx.out hv.out, by (repeat' (first | exact Below.refl _ _ | assumption | (refine Below.alloc ?_ ?_ _) | (refine Below.setCell ?_ ?_ _) | (refine Below.drew ?_) | (refine below_drewN ?_ _) | (refine below_after (Ext.below _) ?_ ?_) | (refine below_after (by assumption) ?_ ?_) | (simp; done) | omega | (simp; omega)))⟩
          case measure => simp [intOf]; omega
      · obtain rfl : j = n := by omega
        have hbd := okTo_bound hR.len hx0.out hz' hok.out
        have hfst := fst_of hx0.out
        have htake : l.take j = l := List.take_of_length_le (by rw [hR.len]; omega)
        have har := Lib.hid (arOk_all hR.len hz' hok.out)
        rw [htake]
        have HV := Lib.hid (fun x y z u => arVal_yes (l := l) (x := x) (y := y) (z := z) (u := u) har.out hfst.1 hfst.2)
        clear hfst htake
        obtain ⟨c1, c2, c3, c4⟩ := hbd
        generalize loX l fx = m1 at *
        generalize loY l fy = m2 at *
        generalize hiX l fx = m3 at *
        generalize hiY l fy = m4 at *
        unfold Sm at c1 c2 c3 c4
        go_wp2_with fail
        refine bodyPost_ret (v := .tuple #[.agg #[.int .i64 m1, .int .i64 m2, .int .i64 (m3 - m1 + 1), .int .i64 (m4 - m2 + 1)], .bool true]) (by simp [results, Try.results28, go_sem, *, ↓IntWalk.iteOmega]) rfl ?_
        exact ⟨HV.out _ _ _ _ ⟨rfl, rfl, rfl, rfl⟩, by (repeat' (first | exact Below.refl _ _ | assumption | (refine Below.alloc ?_ ?_ _) | (refine Below.setCell ?_ ?_ _) | (refine Below.drew ?_) | (refine below_drewN ?_ _) | (refine below_after (Ext.below _) ?_ ?_) | (refine below_after (by assumption) ?_ ?_) | (simp; done) | omega | (simp; omega)))⟩
end Go.Proofs.Ytnhnkmppmicjoaa
