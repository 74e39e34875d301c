/- The contracts of Box, of pattern and of its reference. -/
import Derived.Test.YtnhapgbjaeaamaaDoorCell3
import Derived.Test.YtnhapgbjaeaamaaDoorAround
import Derived.Test.YtnhapgbjaeaamaaDoorPLN
namespace Go.Proofs.YtnhapgbjaeaamaaDoor
open Go Go.RowKit
set_option linter.unusedSimpArgs false
set_option linter.unusedVariables false
set_option maxRecDepth 100000
attribute [local go_sem ↓ high] eq_cl neq_cl eq_pt neq_pt
/-- The positions of a pattern. -/
def posC (l : List (Int × Int × Int)) : List (Int × Int) := l.map fun c => (c.1, c.2.1)
theorem posC_get {l : List (Int × Int × Int)} {j : Nat} {x y s : Int} (h : l[j]? = some (x, y, s)) : (posC l)[j]? = some (x, y) := by unfold posC; rw [List.getElem?_map, h]; rfl
theorem posC_len (l : List (Int × Int × Int)) : (posC l).length = l.length := by unfold posC; simp
/-- What Box returns. -/
def bxPos (l : List (Int × Int × Int)) : List (Int × Int) := if rightC l = true then posC l else []
noncomputable def bxVal (l : List (Int × Int × Int)) : Value := arVal (bxPos l)
theorem bxVal_no {l : List (Int × Int × Int)} (h : l.length = 0 ∨ rightC l = false) : Ending.returned (.tuple #[.agg #[.int .i64 0, .int .i64 0, .int .i64 0, .int .i64 0], .bool false]) = .returned (bxVal l) := by
  refine arVal_no ?_
  unfold bxPos
  split
  · rcases h with h | h
    · obtain rfl : l = [] := List.length_eq_zero_iff.1 h
      rfl
    · rename_i h2; rw [h] at h2; cases h2
  · rfl
theorem arOk_right {l : List (Int × Int × Int)} (h : rightC l = true) (h0 : 0 < l.length) : arOk (posC l) = true := by
  refine arOk_all (posC_len l) h0 fun j x y hj hx => ?_
  unfold posC at hx
  rw [List.getElem?_map] at hx
  cases hq : l[j]? with
  | none => rw [hq] at hx; cases hx
  | some c =>
    rw [hq] at hx
    obtain ⟨a, b, s⟩ := c
    simp only [Option.map_some, Option.some.injEq, Prod.mk.injEq] at hx
    obtain ⟨rfl, rfl⟩ := hx
    exact validB_iff.2 (rightC_elem h hq).1
theorem bxVal_yes {l : List (Int × Int × Int)} {fx fy s x y z u : Int} (h : rightC l = true) (h0 : l[0]? = some (fx, fy, s)) (e : x = loX (posC l) fx ∧ y = loY (posC l) fy ∧ z = hiX (posC l) fx - loX (posC l) fx + 1 ∧ u = hiY (posC l) fy - loY (posC l) fy + 1) :
    Ending.returned (.tuple #[.agg #[.int .i64 x, .int .i64 y, .int .i64 z, .int .i64 u], .bool true]) = .returned (bxVal l) := by
  have hl := (List.getElem?_eq_some_iff.1 h0).1
  have hf := fst_of (posC_get h0)
  unfold bxVal bxPos
  rw [if_pos h]
  exact arVal_yes (arOk_right h hl) hf.1 hf.2 e
theorem bound_right {l : List (Int × Int × Int)} {fx fy s : Int} (h : rightC l = true) (h0 : l[0]? = some (fx, fy, s)) : Sm (loX (posC l) fx) ∧ Sm (loY (posC l) fy) ∧ Sm (hiX (posC l) fx) ∧ Sm (hiY (posC l) fy) := by
  have hl := (List.getElem?_eq_some_iff.1 h0).1
  refine okTo_bound (posC_len l) (posC_get h0) hl fun j x y hj hx => ?_
  unfold posC at hx
  rw [List.getElem?_map] at hx
  cases hq : l[j]? with
  | none => rw [hq] at hx; cases hx
  | some c =>
    rw [hq] at hx
    obtain ⟨a, b, s⟩ := c
    simp only [Option.map_some, Option.some.injEq, Prod.mk.injEq] at hx
    obtain ⟨rfl, rfl⟩ := hx
    exact validB_iff.2 (rightC_elem h hq).1
/-- In a valid pattern the first cell is the highest one, the last the lowest. -/
theorem right_lo {l : List (Int × Int × Int)} {fx fy s : Int} (h : rightC l = true) (h0 : l[0]? = some (fx, fy, s)) : loY (posC l) fy = fy := by
  have hs := rightC_sorted h
  have h1 := (loY_low (posC l) fy).1
  have h2 := loY_le (posC l) fy fy (fun p hp => by
    obtain ⟨c, hc, rfl⟩ := List.mem_map.1 hp
    cases l with
    | nil => simp at hc
    | cons d l =>
      have e : d = (fx, fy, s) := by simpa using h0
      rcases List.mem_cons.1 hc with rfl | hm
      · rw [e]; exact Int.le_refl _
      · have := (List.pairwise_cons.1 hs).1 c hm
        rw [e] at this
        unfold cBef befP at this
        simp only [decide_eq_true_eq] at this
        show fy ≤ c.2.1
        omega) (Int.le_refl _)
  omega
theorem right_hi {l : List (Int × Int × Int)} {fx fy s gx gy t : Int} (h : rightC l = true) (h0 : l[0]? = some (fx, fy, s)) (hn : l[l.length - 1]? = some (gx, gy, t)) : hiY (posC l) fy = gy := by
  have hs := rightC_sorted h
  have key : ∀ c, c ∈ l → c.2.1 ≤ gy := fun c hc => by
    obtain ⟨i, hi, e⟩ := List.getElem_of_mem hc
    have hlen := (List.getElem?_eq_some_iff.1 hn).1
    rcases Nat.lt_or_ge i (l.length - 1) with h3 | h3
    · have := (List.pairwise_iff_getElem.1 hs) i (l.length - 1) hi hlen h3
      rw [e, (List.getElem?_eq_some_iff.1 hn).2] at this
      unfold cBef befP at this
      simp only [decide_eq_true_eq] at this
      omega
    · have : i = l.length - 1 := by omega
      subst this
      rw [(List.getElem?_eq_some_iff.1 hn).2] at e
      rw [← e]; exact Int.le_refl _
  have h1 := (hiY_high (posC l) fy).2 (gx, gy) (List.mem_map.2 ⟨(gx, gy, t), List.mem_of_getElem? hn, rfl⟩)
  have h2 := hiY_le (posC l) fy gy (fun p hp => by
    obtain ⟨c, hc, rfl⟩ := List.mem_map.1 hp
    exact key c hc) (key _ (List.mem_of_getElem? h0))
  simp only at h1
  omega
theorem posC_take (l : List (Int × Int × Int)) (j : Nat) : (posC l).take j = posC (l.take j) := by unfold posC; rw [List.map_take]
theorem pat_RightV {A : Option Addr} {n c : Nat} {l : List (Int × Int × Int)} {q : Bool} (h : rightC l = q) (w : World) (hR : Rd encC 3 w A n l) (hn : n ≤ 9223372036854775807) : Calls Tryd.prog 33 #[.slice A n c] w fun e w' => e = .returned (.bool q) ∧ Below w.heap.size w w' := by
  rw [← h]; exact pat_Right A n c l w hR hn
set_option maxHeartbeats 2000000 in
theorem pat_Box (A : Option Addr) (n c : Nat) (l : List (Int × Int × Int)) (w : World) (hR : Rd encC 3 w A n l) (hn : n ≤ 1000000) :
    Calls Tryd.prog 32 #[.slice A n c] w fun e w' => e = .returned (bxVal l) ∧ Below w.heap.size w w' := by
  by_cases hz : n = 0
  · have HV := Lib.hid (bxVal_no (l := l) (.inl (by rw [hR.len]; exact hz)))
    have hdz : ((n : Int) == 0) = true := by simp [hz]
    clear hz
    go_enter Tryd.func32, Tryd.ntmps32
    go_wp2
    refine bodyPost_ret (v := .tuple #[.agg #[.int .i64 0, .int .i64 0, .int .i64 0, .int .i64 0], .bool false]) (by simp [results, Tryd.results32, go_sem, *, ↓IntWalk.iteOmega]) rfl ?_
    exact ⟨HV.out, by (repeat' (first | exact Below.refl _ _ | assumption | (refine Below.alloc ?_ ?_ _) | (refine Below.setCell ?_ ?_ _) | (refine Below.drew ?_) | (refine below_drewN ?_ _) | (refine below_after (Ext.below _) ?_ ?_) | (refine below_after (by assumption) ?_ ?_) | (simp; done) | omega | (simp; omega)))⟩
  · have hdz : ((n : Int) == 0) = false := by simp; omega
    have hz' : 0 < n := by omega
    clear hz
    cases hr : rightC l with
    | false =>
      have HV := Lib.hid (bxVal_no (.inr hr))
      have kR := fun w1 a => pat_RightV (A := A) (n := n) (c := c) hr w1 a (by omega)
      clear hr
      go_enter Tryd.func32, Tryd.ntmps32
      go_wp2_with fail
      (go_at_call 33; refine (kR _ (hR.of (by (repeat' (first | exact Below.refl _ _ | assumption | (refine Below.alloc ?_ ?_ _) | (refine Below.setCell ?_ ?_ _) | (refine Below.drew ?_) | (refine below_drewN ?_ _) | (refine below_after (Ext.below _) ?_ ?_) | (refine below_after (by assumption) ?_ ?_) | (simp; done) | omega | (simp; omega)))))).mono ?_; rintro e w1 ⟨rfl, hb1⟩; obtain ⟨hc1, hf1⟩ := bcell hb1; have hs1 := hb1.size; (try simp only [World.size_alloc, World.size_setCell, World.size_drew] at hc1 hf1); (try simp at hs1))
      go_wp2_with fail
      refine bodyPost_ret (v := .tuple #[.agg #[.int .i64 0, .int .i64 0, .int .i64 0, .int .i64 0], .bool false]) (by simp [results, Tryd.results32, go_sem, *, ↓IntWalk.iteOmega]) rfl ?_
      exact ⟨HV.out, by (repeat' (first | exact Below.refl _ _ | assumption | (refine Below.alloc ?_ ?_ _) | (refine Below.setCell ?_ ?_ _) | (refine Below.drew ?_) | (refine below_drewN ?_ _) | (refine below_after (Ext.below _) ?_ ?_) | (refine below_after (by assumption) ?_ ?_) | (simp; done) | omega | (simp; omega)))⟩
    | true =>
      have HR := Lib.hid hr
      have kR := fun w1 a => pat_RightV (A := A) (n := n) (c := c) hr w1 a (by omega)
      obtain ⟨fx, fy, fs, b0, o0, hx0, rfl, hbl0, hcell0, hcell0', hcell0''⟩ := hR.cell (i := 0) (by omega)
      rw [Nat.zero_mul, Nat.add_zero] at hcell0 hcell0' hcell0''
      clear hr
      go_enter Tryd.func32, Tryd.ntmps32
      go_wp2_with fail
      (go_at_call 33; refine (kR _ (hR.of (by (repeat' (first | exact Below.refl _ _ | assumption | (refine Below.alloc ?_ ?_ _) | (refine Below.setCell ?_ ?_ _) | (refine Below.drew ?_) | (refine below_drewN ?_ _) | (refine below_after (Ext.below _) ?_ ?_) | (refine below_after (by assumption) ?_ ?_) | (simp; done) | omega | (simp; omega)))))).mono ?_; rintro e w1 ⟨rfl, hb1⟩; obtain ⟨hc1, hf1⟩ := bcell hb1; have hs1 := hb1.size; (try simp only [World.size_alloc, World.size_setCell, World.size_drew] at hc1 hf1); (try simp at hs1))
      clear kR
      go_wp2
      (refine wp_region_ext_lit (by kernel_rfl) (by kernel_rfl) ?_; (repeat (go_big_quiet_step (fail))); refine wpQuiet_nil ?_; intro _ hw'; obtain ⟨z2, hw''⟩ := hw'; subst hw''; have hs2 := z2.size; obtain ⟨hc2, hf2⟩ := bcell z2.below; (try simp only [World.size_alloc, World.size_setCell, World.size_drew] at hc2 hf2); (try simp at hs2))
      go_wp2
      go_loopw [4, 5, 28] (fun a1 a3 i wr => ∃ j : Nat, a1 = .int .i64 (loX ((posC l).take j) fx) ∧ a3 = .int .i64 (hiX ((posC l).take j) fx) ∧ i = .int .i64 j ∧ j ≤ n ∧ Below (w.heap.size + 1) (w.alloc (.cells #[.int .i64 0, .int .i64 0, .int .i64 0, .int .i64 0] 73)) wr) (fun _ _ i _ => n - (intOf i).toNat)
      case atStart => exact ⟨0, rfl, rfl, rfl, by omega, by (repeat' (first | exact Below.refl _ _ | assumption | (refine Below.alloc ?_ ?_ _) | (refine Below.setCell ?_ ?_ _) | (refine Below.drew ?_) | (refine below_drewN ?_ _) | (refine below_after (Ext.below _) ?_ ?_) | (refine below_after (by assumption) ?_ ?_) | (simp; done) | omega | (simp; omega)))⟩
      case round =>
        obtain ⟨j, rfl, rfl, rfl, hj, hb⟩ := hrel
        obtain ⟨hc, hf⟩ := bcell hb
        have hs := hb.size
        (try simp only [World.size_alloc] at hs)
        by_cases hlt : j < n
        · obtain ⟨px, py, ps, bo, o, hx, he, hbl, hcell, hcell', hcell''⟩ := hR.cell hlt
          obtain ⟨rfl, rfl⟩ : b0 = bo ∧ o0 = o := by injection he with he; injection he with e1 e2; exact ⟨e1, e2⟩
          clear he
          have st1 := Lib.hid (loX_step (d := fx) (posC_get hx.out))
          have st2 := Lib.hid (loY_step (d := fy) (posC_get hx.out))
          have st3 := Lib.hid (hiX_step (d := fx) (posC_get hx.out))
          have st4 := Lib.hid (hiY_step (d := fy) (posC_get hx.out))
          generalize loX ((posC l).take j) fx = m1 at st1 ⊢
          generalize hiX ((posC l).take j) fx = m3 at st3 ⊢
          go_wp2_with fail
          (refine wp_region_ext_lit (by kernel_rfl) (by kernel_rfl) ?_; (repeat (go_big_quiet_step (fail))); refine wpQuiet_nil ?_; intro _ hw'; obtain ⟨z3, hw''⟩ := hw'; subst hw''; have hs3 := z3.size; obtain ⟨hc3, hf3⟩ := bcell z3.below; (try simp only [World.size_alloc, World.size_setCell, World.size_drew] at hc3 hf3); (try simp at hs3))
          go_wp2_with fail
          go_roundw
          case rel => exact ⟨j + 1, by rw [st1.out], by rw [st3.out], by go_num, by omega, by (repeat' (first | exact Below.refl _ _ | assumption | (refine Below.alloc ?_ ?_ _) | (refine Below.setCell ?_ ?_ _) | (refine Below.drew ?_) | (refine below_drewN ?_ _) | (refine below_after (Ext.below _) ?_ ?_) | (refine below_after (by assumption) ?_ ?_) | (simp; done) | omega | (simp; omega)))⟩
          case measure => simp [intOf]; omega
        · obtain rfl : j = n := by omega
          have hbd := bound_right HR.out hx0.out
          have htake : (posC l).take j = posC l := List.take_of_length_le (by rw [posC_len, hR.len]; omega)
          rw [htake]
          have HV := Lib.hid (fun x y z u => bxVal_yes (x := x) (y := y) (z := z) (u := u) HR.out hx0.out)
          clear htake
          obtain ⟨c1, c2, c3, c4⟩ := hbd
          obtain ⟨gx, gy, gs, b9, o9, hx9, he9, hbl9, k1, k2, k3⟩ := hR.cell (i := j - 1) (by omega)
          obtain ⟨rfl, rfl⟩ : b0 = b9 ∧ o0 = o9 := by injection he9 with he9; injection he9 with e1 e2; exact ⟨e1, e2⟩
          clear he9
          have hlo := right_lo HR.out hx0.out
          have hhi := right_hi HR.out hx0.out (gx := gx) (gy := gy) (t := gs) (by rw [hR.len]; exact hx9.out)
          rw [hlo] at c2
          rw [hhi] at c4
          have HLO := Lib.hid hlo
          have HHI := Lib.hid hhi
          clear hlo hhi
          generalize loX (posC l) fx = m1 at *
          generalize hiX (posC l) fx = m3 at *
          unfold Sm at c1 c2 c3 c4
          have hkm : ((j : Int) - 1).toNat = j - 1 := by omega
          have hk0 : (0 : Int) ≤ (j : Int) - 1 := by omega
          have wk : IntKind.i64.wrap ((j : Int) - 1) = (j : Int) - 1 := IntWalk.i64_in _ (by omega)
          go_wp2_with fail
          refine bodyPost_ret (v := .tuple #[.agg #[.int .i64 m1, .int .i64 fy, .int .i64 (m3 - m1 + 1), .int .i64 (gy - fy + 1)], .bool true]) (by simp [results, Tryd.results32, go_sem, *, ↓IntWalk.iteOmega]) rfl ?_
          exact ⟨HV.out _ _ _ _ ⟨rfl, HLO.out.symm, rfl, by rw [HLO.out, HHI.out]⟩, by (repeat' (first | exact Below.refl _ _ | assumption | (refine Below.alloc ?_ ?_ _) | (refine Below.setCell ?_ ?_ _) | (refine Below.drew ?_) | (refine below_drewN ?_ _) | (refine below_after (Ext.below _) ?_ ?_) | (refine below_after (by assumption) ?_ ?_) | (simp; done) | omega | (simp; omega)))⟩
end Go.Proofs.YtnhapgbjaeaamaaDoor
