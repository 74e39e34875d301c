/- The contracts of Points, of point and of its reference. -/
import Derived.Test.YtnhnkmppmicjoaaBox
import Derived.Test.YtnhnkmppmicjoaaOwn
import Derived.Deep.RegionHeld3
namespace Go.Proofs.Ytnhnkmppmicjoaa
open Go Go.RowKit
set_option linter.unusedSimpArgs false
set_option linter.unusedVariables false
set_option maxRecDepth 100000
theorem ptsL_no {x y wd h : Int} (hq : ptsOk x y wd h = false) : ptsL x y wd h = [] := by unfold ptsL; rw [if_neg (by rw [hq]; simp)]
theorem mul_bound {a b : Int} (h1 : 1 ≤ a) (h2 : a ≤ 2097153) (h3 : 1 ≤ b) (h4 : b ≤ 2097153) : 1 ≤ a * b ∧ a * b ≤ 4398050705409 := by
  have e1 : 1 * 1 ≤ a * b := Int.mul_le_mul h1 h3 (by omega) (by omega)
  have e2 : a * b ≤ 2097153 * 2097153 := Int.mul_le_mul h2 h4 (by omega) (by omega)
  omega
set_option maxHeartbeats 2000000 in
theorem point_Points (x y wd h : Int) (w : World) : Calls Try.prog 25 #[.agg #[.int .i64 x, .int .i64 y, .int .i64 wd, .int .i64 h]] w fun e w' => ∃ A n c, e = .returned (.slice A n c) ∧ Rd encP 2 w' A n (ptsL x y wd h) ∧ n ≤ 5000 ∧ Below w.heap.size w w' := by
  cases hA : rightB x y wd h with
  | false =>
    have HV := Lib.hid (ptsL_no (x := x) (y := y) (wd := wd) (h := h) (by unfold ptsOk; rw [hA]; rfl))
    have kA := fun w1 => point_RightV hA w1
    clear hA
    go_enter Try.func25, Try.ntmps25
    go_wp2_with fail
    (go_at_call 21; refine (kA _).mono ?_; rintro e w1 ⟨rfl, hb1⟩; obtain ⟨hc1, hf1⟩ := bcell hb1; have hs1 := hb1.size; (try simp only [World.size_alloc, World.size_setCell, World.size_drew] at hc1 hf1); (try simp at hs1))
    go_wp2_with fail
    go_ret
    exact ⟨_, _, _, rfl, by rw [HV.out]; exact Rd.nil_, by omega, by (repeat' (first | exact Below.refl _ _ | assumption | (refine Below.alloc ?_ ?_ _) | (refine Below.setCell ?_ ?_ _) | (refine Below.drew ?_) | (refine below_drewN ?_ _) | (refine below_after (Ext.below _) ?_ ?_) | (refine below_after (by assumption) ?_ ?_) | (simp; done) | omega | (simp; omega)))⟩
  | true =>
    have kA := fun w1 => point_RightV hA w1
    have hok := show ptsOk x y wd h = decide (wd * h ≤ 5000) by unfold ptsOk; rw [hA]; rfl
    obtain ⟨a1, a2, a3, a4, a5, a6, a7, a8, a9, a10⟩ := rightB_iff.1 hA
    obtain ⟨m1, m2⟩ := mul_bound a1 a2 a3 a4
    clear hA
    rcases Int.lt_or_le 5000 (wd * h) with g | g
    · have HV := Lib.hid (ptsL_no (hok.trans (decide_eq_false (by omega))))
      clear hok
      have d1 : decide (5000 < wd * h) = true := decide_eq_true g
      go_enter Try.func25, Try.ntmps25
      go_wp2_with fail
      (go_at_call 21; refine (kA _).mono ?_; rintro e w1 ⟨rfl, hb1⟩; obtain ⟨hc1, hf1⟩ := bcell hb1; have hs1 := hb1.size; (try simp only [World.size_alloc, World.size_setCell, World.size_drew] at hc1 hf1); (try simp at hs1))
      go_wp2_with fail
      go_ret
      exact ⟨_, _, _, rfl, by rw [HV.out]; exact Rd.nil_, by omega, by (repeat' (first | exact Below.refl _ _ | assumption | (refine Below.alloc ?_ ?_ _) | (refine Below.setCell ?_ ?_ _) | (refine Below.drew ?_) | (refine below_drewN ?_ _) | (refine below_after (Ext.below _) ?_ ?_) | (refine below_after (by assumption) ?_ ?_) | (simp; done) | omega | (simp; omega)))⟩
    · have HV := Lib.hid (show ptsL x y wd h = ptsAt x y wd (wd * h).toNat by unfold ptsL; rw [if_pos (hok.trans (decide_eq_true g))])
      clear hok
      have d1 : decide (5000 < wd * h) = false := decide_eq_false (by omega)
      obtain ⟨n, hn⟩ : ∃ n : Nat, wd * h = (n : Int) := ⟨(wd * h).toNat, by omega⟩
      have HN := Lib.hid (show (wd * h).toNat = n by omega)
      have HE := Lib.hid hn
      have hn5 : n ≤ 5000 := by omega
      have hnn : (n : Int) ≤ wd * h ∧ wd * h ≤ n := by omega
      obtain ⟨n1, n2⟩ := hnn
      clear hn
      go_enter Try.func25, Try.ntmps25
      go_wp2_with fail
      (go_at_call 21; refine (kA _).mono ?_; rintro e w1 ⟨rfl, hb1⟩; obtain ⟨hc1, hf1⟩ := bcell hb1; have hs1 := hb1.size; (try simp only [World.size_alloc, World.size_setCell, World.size_drew] at hc1 hf1); (try simp at hs1))
      go_wp2_with (at_make; refine wpList_make_el rfl (.const (.int .i64 0)) (.tmp 20) 24 rfl encP 2 23 (.agg #[.int .i64 0, .int .i64 0]) 16 Try.underlying24 (by kernel_rfl) (w.heap.size + 1) _ (n) rfl rfl (HE.out) (by omega) (by omega) (by first | omega | (simp; done) | (simp; omega)) ?_; intro w2 hown2 hb2; obtain ⟨hc2, hf2⟩ := bcell hb2; have hs2 := hb2.size; (try simp only [World.size_alloc, World.size_setCell, World.size_drew] at hc2 hf2); (try simp at hs2))
      go_loopw [3, 27] (fun v i wr => ∃ (A : Option Addr) (c k : Nat), v = .slice A k c ∧ i = .int .i64 k ∧ k ≤ n ∧ Own encP 2 23 (w.heap.size + 1) wr A k c (ptsAt x y wd k) ∧ Below (w.heap.size + 1) (w.alloc (.cells #[.int .i64 x, .int .i64 y, .int .i64 wd, .int .i64 h] 31)) wr) (fun _ i _ => n - (intOf i).toNat)
      case atStart => exact ⟨_, _, 0, rfl, rfl, by omega, hown2, by (repeat' (first | exact Below.refl _ _ | assumption | (refine Below.alloc ?_ ?_ _) | (refine Below.setCell ?_ ?_ _) | (refine Below.drew ?_) | (refine below_drewN ?_ _) | (refine below_after (Ext.below _) ?_ ?_) | (refine below_after (by assumption) ?_ ?_) | (simp; done) | omega | (simp; omega)))⟩
      case round =>
        obtain ⟨A, c, k, rfl, rfl, hk, hown, hb⟩ := hrel
        obtain ⟨hc, hf⟩ := bcell hb
        have hs := hb.size
        (try simp only [World.size_alloc] at hs)
        by_cases hlt : k < n
        · have dk : decide ((k : Int) < wd * h) = true := decide_eq_true (by omega)
          have hsn := Lib.hid (ptsAt_succ x y wd k)
          have r1 := Int.emod_nonneg (k : Int) (show wd ≠ 0 by omega)
          have r2 := Int.emod_lt_of_pos (k : Int) (show 0 < wd by omega)
          have q1 := Int.ediv_nonneg (show (0 : Int) ≤ k by omega) (show (0 : Int) ≤ wd by omega)
          have q2 : (k : Int) / wd ≤ k := Int.ediv_le_self _ (by omega)
          have t1 : (k : Int).tmod wd = (k : Int) % wd := Int.tmod_eq_emod_of_nonneg (by omega)
          have t2 : (k : Int).tdiv wd = (k : Int) / wd := Int.tdiv_eq_ediv_of_nonneg (by omega)
          have e0 : IntKind.i64.wrap ((k : Int) / wd) = (k : Int) / wd := IntWalk.i64_in _ (by omega)
          have e1 : IntKind.i64.wrap (x + (k : Int) % wd) = x + (k : Int) % wd := IntWalk.i64_in _ (by omega)
          have e2 : IntKind.i64.wrap (y + (k : Int) / wd) = y + (k : Int) / wd := IntWalk.i64_in _ (by omega)
          have hw0 : (wd == 0) = false := by simp; omega
          have hw1 : wd ≠ 0 := by omega
          clear r1 r2 q1 q2
          have q1 : wr.cell? ⟨w.heap.size, 0, none⟩ = some (.int .i64 x) := by rw [hb.cell (p := ⟨w.heap.size, 0, none⟩) (by show w.heap.size < _; omega)]; simp [cell_alloc_if, cellOf]
          have q2 : wr.cell? ⟨w.heap.size, 1, none⟩ = some (.int .i64 y) := by rw [hb.cell (p := ⟨w.heap.size, 1, none⟩) (by show w.heap.size < _; omega)]; simp [cell_alloc_if, cellOf]
          have q3 : wr.cell? ⟨w.heap.size, 2, none⟩ = some (.int .i64 wd) := by rw [hb.cell (p := ⟨w.heap.size, 2, none⟩) (by show w.heap.size < _; omega)]; simp [cell_alloc_if, cellOf]
          go_wp2_with fail
          (go_region_held3 (fun w' => w'.cell? ⟨w.heap.size, 0, none⟩ = some (.int .i64 x) ∧ w'.cell? ⟨w.heap.size, 1, none⟩ = some (.int .i64 y) ∧ w'.cell? ⟨w.heap.size, 2, none⟩ = some (.int .i64 wd)) (first | go_keep | (go_split_ands; refine ⟨?_, ?_, ?_⟩ <;> first | go_keep | (rw [hb3.cell (p := ⟨_, _, none⟩) (by first | omega | (simp; done) | (simp; omega))]; go_keep))) ((refine step_append_el (by rfl) (.tmp 30) (.tmp 46) 24 (by rfl) encP 2 23 (.agg #[.int .i64 0, .int .i64 0]) 16 Try.underlying24 (by kernel_rfl) rfl (by decide) encP_len encP_one (w.heap.size + 1) _ _ _ _ (by rfl) (hown.drew.alloc _) (x + (k : Int) % wd, y + (k : Int) / wd) ⟨(wr.drew).heap.size, 0, none⟩ 1 (by rfl) (cells_new (wr.drew) _ _) (by omega) (by omega) (by first | omega | (simp; done) | (simp; omega)) ?_; intro A3 c3 w3 hown3 hg3 hb3)))
          go_wp2
          go_roundw
          case rel => exact ⟨A3, c3, k + 1, rfl, by go_num, by omega, by rw [hsn.out]; exact hown3, by (repeat' (first | exact Below.refl _ _ | assumption | (refine Below.alloc ?_ ?_ _) | (refine Below.setCell ?_ ?_ _) | (refine Below.drew ?_) | (refine below_drewN ?_ _) | (refine below_after (Ext.below _) ?_ ?_) | (refine below_after (by assumption) ?_ ?_) | (simp; done) | omega | (simp; omega)))⟩
          case measure => simp [intOf]; omega
        · obtain rfl : k = n := by omega
          have dk : decide ((k : Int) < wd * h) = false := decide_eq_false (by omega)
          go_wp2
          go_ret
          exact ⟨_, _, _, rfl, by rw [HV.out, HN.out]; exact hown.rd encP_len, hn5, by (repeat' (first | exact Below.refl _ _ | assumption | (refine Below.alloc ?_ ?_ _) | (refine Below.setCell ?_ ?_ _) | (refine Below.drew ?_) | (refine below_drewN ?_ _) | (refine below_after (Ext.below _) ?_ ?_) | (refine below_after (by assumption) ?_ ?_) | (simp; done) | omega | (simp; omega)))⟩
end Go.Proofs.Ytnhnkmppmicjoaa
