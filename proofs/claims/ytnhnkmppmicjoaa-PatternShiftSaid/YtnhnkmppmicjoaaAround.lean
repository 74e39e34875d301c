/- The contracts of Around, of point and of its reference. -/
import Derived.Test.YtnhnkmppmicjoaaBox
import Derived.Test.YtnhnkmppmicjoaaRd
namespace Go.Proofs.Ytnhnkmppmicjoaa
open Go Go.RowKit
set_option linter.unusedSimpArgs false
set_option linter.unusedVariables false
set_option maxRecDepth 100000
/-- What Around returns. -/
noncomputable def arVal (l : List (Int × Int)) : Value := .tuple #[.agg #[.int .i64 (arX l), .int .i64 (arY l), .int .i64 (arW l), .int .i64 (arH l)], .bool (arOk l)]
theorem arVal_no {l : List (Int × Int)} (h : arOk l = false) : Ending.returned (.tuple #[.agg #[.int .i64 0, .int .i64 0, .int .i64 0, .int .i64 0], .bool false]) = .returned (arVal l) := by
  unfold arVal arX arY arW arH; rw [h]; rfl
theorem arVal_yes {l : List (Int × Int)} {fx fy x y z u : Int} (h : arOk l = true) (h1 : fstX l = fx) (h2 : fstY l = fy) (e : x = loX l fx ∧ y = loY l fy ∧ z = hiX l fx - loX l fx + 1 ∧ u = hiY l fy - loY l fy + 1) : Ending.returned (.tuple #[.agg #[.int .i64 x, .int .i64 y, .int .i64 z, .int .i64 u], .bool true]) = .returned (arVal l) := by
  obtain ⟨rfl, rfl, rfl, rfl⟩ := e
  subst h1 h2
  unfold arVal arX arY arW arH ifB; rw [h]; rfl
theorem point_inV {n : Int} {q : Bool} (h : inB n = q) (w : World) : Calls Try.prog 60 #[.int .i64 n] w fun e w' => e = .returned (.bool q) ∧ w = w' := by
  rw [← h]; exact point_in n w
theorem ref_ValidV {x y : Int} {q : Bool} (h : validB x y = q) (w : World) : Calls Try.prog 61 #[.agg #[.int .i64 x, .int .i64 y]] w fun e w' => e = .returned (.bool q) ∧ Below w.heap.size w w' := by
  rw [← h]; exact ref_Valid x y w
theorem validB_in (x y : Int) : validB x y = (inB x && inB y) := by
  unfold validB inB; rw [Bool.eq_iff_iff]; simp only [decide_eq_true_eq, Bool.and_eq_true]; omega
/-- All elements ahead of j are valid. -/
def okTo (l : List (Int × Int)) (j : Nat) : Prop := ∀ i x y, i < j → l[i]? = some (x, y) → validB x y = true
theorem okTo_step {l : List (Int × Int)} {j : Nat} {a b : Int} (h : okTo l j) (hx : l[j]? = some (a, b)) (hv : validB a b = true) : okTo l (j + 1) := by
  intro i x y hi hy
  by_cases e : i = j
  · rw [e, hx] at hy; cases hy; exact hv
  · exact h i x y (by omega) hy
theorem okTo_bound {l : List (Int × Int)} {n : Nat} {fx fy : Int} (hl : l.length = n) (h0 : l[0]? = some (fx, fy)) (hn : 0 < n) (h : okTo l n) : (Sm (loX l fx) ∧ Sm (loY l fy) ∧ Sm (hiX l fx) ∧ Sm (hiY l fy)) := by
  have hall : ∀ p, p ∈ l → Pt p.1 p.2 := fun p hp => by
    obtain ⟨i, hi, e⟩ := List.getElem_of_mem hp
    exact validB_iff.1 (h i p.1 p.2 (by omega) (by rw [List.getElem?_eq_getElem hi, e]))
  have hf := validB_iff.1 (h 0 fx fy hn h0)
  unfold Pt at hf
  have b1 := lo_bound l fx hall (by omega)
  have b2 := lo_bound l fy hall (by omega)
  unfold Sm
  refine ⟨?_, ?_, ?_, ?_⟩ <;> omega
set_option maxHeartbeats 2000000 in
theorem point_Around (A : Option Addr) (n c : Nat) (l : List (Int × Int)) (w : World) (hR : Rd encP 2 w A n l) (hn : n ≤ 1000000) :
    Calls Try.prog 27 #[.slice A n c] w fun e w' => e = .returned (arVal l) ∧ Below w.heap.size w w' := by
  by_cases hz : n = 0
  · subst hz
    have HV := Lib.hid (arVal_no (l := l) (by obtain rfl : l = [] := List.length_eq_zero_iff.1 hR.len; rfl))
    go_enter Try.func27, Try.ntmps27
    go_wp2
    refine bodyPost_ret (v := .tuple #[.agg #[.int .i64 0, .int .i64 0, .int .i64 0, .int .i64 0], .bool false]) (by simp [results, Try.results27, go_sem, *, ↓IntWalk.iteOmega]) rfl ?_
    exact ⟨HV.out, by (repeat' (first | exact Below.refl _ _ | assumption | (refine Below.alloc ?_ ?_ _) | (refine Below.setCell ?_ ?_ _) | (refine Below.drew ?_) | (refine below_drewN ?_ _) | (refine below_after (Ext.below _) ?_ ?_) | (refine below_after (by assumption) ?_ ?_) | (simp; done) | omega | (simp; omega)))⟩
  · obtain ⟨fx, fy, b0, o0, hx0, rfl, hbl0, hcell0, hcell0'⟩ := hR.pt (i := 0) (by omega)
    rw [Nat.zero_mul, Nat.add_zero] at hcell0 hcell0'
    have hdz : ((n : Int) == 0) = false := by simp; omega
    have hz' : 0 < n := by omega
    clear hz
    go_enter Try.func27, Try.ntmps27
    go_wp2
    (refine wp_region_ext_lit (by kernel_rfl) (by kernel_rfl) ?_; (repeat (go_big_quiet_step (fail))); refine wpQuiet_nil ?_; intro _ hw'; obtain ⟨z1, hw''⟩ := hw'; subst hw''; have hs1 := z1.size; obtain ⟨hc1, hf1⟩ := bcell z1.below; (try simp only [World.size_alloc, World.size_setCell, World.size_drew] at hc1 hf1); (try simp at hs1))
    go_wp2
    go_loopw [4, 5, 6, 7, 32] (fun a1 a2 a3 a4 i wr => ∃ j : Nat, a1 = .int .i64 (loX (l.take j) fx) ∧ a2 = .int .i64 (loY (l.take j) fy) ∧ a3 = .int .i64 (hiX (l.take j) fx) ∧ a4 = .int .i64 (hiY (l.take j) fy) ∧ i = .int .i64 j ∧ j ≤ n ∧ Hid (okTo l j) ∧ Below (w.heap.size + 1) (w.alloc (.cells #[.int .i64 0, .int .i64 0, .int .i64 0, .int .i64 0] 31)) wr) (fun _ _ _ _ i _ => n - (intOf i).toNat)
    case atStart => exact ⟨0, rfl, rfl, rfl, rfl, rfl, by omega, (fun i x y hi => absurd hi (by omega)), by (repeat' (first | exact Below.refl _ _ | assumption | (refine Below.alloc ?_ ?_ _) | (refine Below.setCell ?_ ?_ _) | (refine Below.drew ?_) | (refine below_drewN ?_ _) | (refine below_after (Ext.below _) ?_ ?_) | (refine below_after (by assumption) ?_ ?_) | (simp; done) | omega | (simp; omega)))⟩
    case round =>
      obtain ⟨j, rfl, rfl, rfl, rfl, rfl, hj, hok, hb⟩ := hrel
      obtain ⟨hc, hf⟩ := bcell hb
      have hs := hb.size
      (try simp only [World.size_alloc] at hs)
      by_cases hlt : j < n
      · obtain ⟨px, py, bo, o, hx, he, hbl, hcell, hcell'⟩ := hR.pt hlt
        obtain ⟨rfl, rfl⟩ : b0 = bo ∧ o0 = o := by injection he with he; injection he with e1 e2; exact ⟨e1, e2⟩
        clear he
        have st1 := Lib.hid (loX_step (d := fx) hx.out)
        have st2 := Lib.hid (loY_step (d := fy) hx.out)
        have st3 := Lib.hid (hiX_step (d := fx) hx.out)
        have st4 := Lib.hid (hiY_step (d := fy) hx.out)
        generalize loX (l.take j) fx = m1 at st1 ⊢
        generalize loY (l.take j) fy = m2 at st2 ⊢
        generalize hiX (l.take j) fx = m3 at st3 ⊢
        generalize hiY (l.take j) fy = m4 at st4 ⊢
        have hvi := validB_in px py
        cases hq1 : inB px with
        | false =>
          have HV := Lib.hid (arVal_no (arOk_bad hx.out (by rw [hvi, hq1]; rfl)))
          have k1 := fun w1 => point_inV hq1 w1
          clear hvi hq1
          go_wp2_with fail
          (go_at_call 60; refine (k1 _).mono ?_; rintro e w' ⟨rfl, rfl⟩)
          go_wp2_with fail
          refine bodyPost_ret (v := .tuple #[.agg #[.int .i64 0, .int .i64 0, .int .i64 0, .int .i64 0], .bool false]) (by simp [results, Try.results27, go_sem, *, ↓IntWalk.iteOmega]) rfl ?_
          exact ⟨HV.out, by (repeat' (first | exact Below.refl _ _ | assumption | (refine Below.alloc ?_ ?_ _) | (refine Below.setCell ?_ ?_ _) | (refine Below.drew ?_) | (refine below_drewN ?_ _) | (refine below_after (Ext.below _) ?_ ?_) | (refine below_after (by assumption) ?_ ?_) | (simp; done) | omega | (simp; omega)))⟩
        | true =>
          have k1 := fun w1 => point_inV hq1 w1
          cases hq2 : inB py with
          | false =>
            have HV := Lib.hid (arVal_no (arOk_bad hx.out (by rw [hvi, hq1, hq2]; rfl)))
            have k2 := fun w1 => point_inV hq2 w1
            clear hvi hq1 hq2
            go_wp2_with fail
            (go_at_call 60; refine (k1 _).mono ?_; rintro e w' ⟨rfl, rfl⟩)
            go_wp2_with fail
            (go_at_call 60; refine (k2 _).mono ?_; rintro e w' ⟨rfl, rfl⟩)
            go_wp2_with fail
            refine bodyPost_ret (v := .tuple #[.agg #[.int .i64 0, .int .i64 0, .int .i64 0, .int .i64 0], .bool false]) (by simp [results, Try.results27, go_sem, *, ↓IntWalk.iteOmega]) rfl ?_
            exact ⟨HV.out, by (repeat' (first | exact Below.refl _ _ | assumption | (refine Below.alloc ?_ ?_ _) | (refine Below.setCell ?_ ?_ _) | (refine Below.drew ?_) | (refine below_drewN ?_ _) | (refine below_after (Ext.below _) ?_ ?_) | (refine below_after (by assumption) ?_ ?_) | (simp; done) | omega | (simp; omega)))⟩
          | true =>
            have hv := Lib.hid (show validB px py = true by rw [hvi, hq1, hq2]; rfl)
            have k2 := fun w1 => point_inV hq2 w1
            clear hvi hq1 hq2
            go_wp2_with fail
            (go_at_call 60; refine (k1 _).mono ?_; rintro e w' ⟨rfl, rfl⟩)
            go_wp2_with fail
            (go_at_call 60; refine (k2 _).mono ?_; rintro e w' ⟨rfl, rfl⟩)
            go_wp2_with fail
            (refine wp_region_ext_lit (by kernel_rfl) (by kernel_rfl) ?_; (repeat (go_big_quiet_step (fail))); refine wpQuiet_nil ?_; intro _ hw'; obtain ⟨z3, hw''⟩ := hw'; subst hw''; have hs3 := z3.size; obtain ⟨hc3, hf3⟩ := bcell z3.below; (try simp only [World.size_alloc, World.size_setCell, World.size_drew] at hc3 hf3); (try simp at hs3))
            go_wp2_with fail
            go_roundw
            case rel => exact ⟨j + 1, by rw [st1.out], by rw [st2.out], by rw [st3.out], by rw [st4.out], by go_num, by omega, okTo_step hok.out hx.out hv.out, by (repeat' (first | exact Below.refl _ _ | assumption | (refine Below.alloc ?_ ?_ _) | (refine Below.setCell ?_ ?_ _) | (refine Below.drew ?_) | (refine below_drewN ?_ _) | (refine below_after (Ext.below _) ?_ ?_) | (refine below_after (by assumption) ?_ ?_) | (simp; done) | omega | (simp; omega)))⟩
            case measure => simp [intOf]; omega
      · obtain rfl : j = n := by omega
        have hbd := okTo_bound hR.len hx0.out hz' hok.out
        have hfst := fst_of hx0.out
        have htake : l.take j = l := List.take_of_length_le (by rw [hR.len]; omega)
        have har := Lib.hid (arOk_all hR.len hz' hok.out)
        rw [htake]
        have HV := Lib.hid (fun x y z u => arVal_yes (l := l) (x := x) (y := y) (z := z) (u := u) har.out hfst.1 hfst.2)
        clear hfst htake
        obtain ⟨c1, c2, c3, c4⟩ := hbd
        generalize loX l fx = m1 at *
        generalize loY l fy = m2 at *
        generalize hiX l fx = m3 at *
        generalize hiY l fy = m4 at *
        have kB := fun w1 => point_between m1 m2 m3 m4 w1 c1 c2 c3 c4
        go_wp2_with fail
        (go_at_call 62; refine (kB _).mono ?_; rintro e w4 ⟨rfl, hb4⟩; obtain ⟨hc4, hf4⟩ := bcell hb4; have hs4 := hb4.size; (try simp only [World.size_alloc, World.size_setCell, World.size_drew] at hc4 hf4); (try simp at hs4))
        go_wp2_with fail
        refine bodyPost_ret (v := .tuple #[.agg #[.int .i64 m1, .int .i64 m2, .int .i64 (m3 - m1 + 1), .int .i64 (m4 - m2 + 1)], .bool true]) (by simp [results, Try.results27, go_sem, *, ↓IntWalk.iteOmega]) rfl ?_
        exact ⟨HV.out _ _ _ _ ⟨rfl, rfl, rfl, rfl⟩, by (repeat' (first | exact Below.refl _ _ | assumption | (refine Below.alloc ?_ ?_ _) | (refine Below.setCell ?_ ?_ _) | (refine Below.drew ?_) | (refine below_drewN ?_ _) | (refine below_after (Ext.below _) ?_ ?_) | (refine below_after (by assumption) ?_ ?_) | (simp; done) | omega | (simp; omega)))⟩
end Go.Proofs.Ytnhnkmppmicjoaa
