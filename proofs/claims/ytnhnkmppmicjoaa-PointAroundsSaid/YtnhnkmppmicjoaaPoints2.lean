/- The contract of Points of the reference. -/
import Derived.Test.YtnhnkmppmicjoaaPoints
namespace Go.Proofs.Ytnhnkmppmicjoaa
open Go Go.RowKit
set_option linter.unusedSimpArgs false
set_option linter.unusedVariables false
set_option maxRecDepth 100000
set_option maxHeartbeats 2000000 in
theorem ref_Points (x y wd h : Int) (w : World) : Calls Try.prog 26 #[.agg #[.int .i64 x, .int .i64 y, .int .i64 wd, .int .i64 h]] w fun e w' => ∃ A n c, e = .returned (.slice A n c) ∧ Rd encP 2 w' A n (ptsL x y wd h) ∧ n ≤ 5000 ∧ Below w.heap.size w w' := by
  cases hA : rightB x y wd h with
  | false =>
    have HV := Lib.hid (ptsL_no (x := x) (y := y) (wd := wd) (h := h) (by unfold ptsOk; rw [hA]; rfl))
    have kA := fun w1 => ref_RightV hA w1
    clear hA
    go_enter Try.func26, Try.ntmps26
    go_wp2_with fail
    (go_at_call 22; refine (kA _).mono ?_; rintro e w1 ⟨rfl, hb1⟩; obtain ⟨hc1, hf1⟩ := bcell hb1; have hs1 := hb1.size; (try simp only [World.size_alloc, World.size_setCell, World.size_drew] at hc1 hf1); (try simp at hs1))
    go_wp2_with fail
    go_ret
    exact ⟨_, _, _, rfl, by rw [HV.out]; exact Rd.nil_, by omega, by (repeat' (first | exact Below.refl _ _ | assumption | (refine Below.alloc ?_ ?_ _) | (refine Below.setCell ?_ ?_ _) | (refine Below.drew ?_) | (refine below_drewN ?_ _) | (refine below_after (Ext.below _) ?_ ?_) | (refine below_after (by assumption) ?_ ?_) | (simp; done) | omega | (simp; omega)))⟩
  | true =>
    have kA := fun w1 => ref_RightV hA w1
    have hok := show ptsOk x y wd h = decide (wd * h ≤ 5000) by unfold ptsOk; rw [hA]; rfl
    obtain ⟨a1, a2, a3, a4, a5, a6, a7, a8, a9, a10⟩ := rightB_iff.1 hA
    obtain ⟨m1, m2⟩ := mul_bound a1 a2 a3 a4
    clear hA
    rcases Int.lt_or_le 5000 (wd * h) with g | g
    · have HV := Lib.hid (ptsL_no (hok.trans (decide_eq_false (by omega))))
      clear hok
      have d1 : decide (5000 < wd * h) = true := decide_eq_true g
      go_enter Try.func26, Try.ntmps26
      go_wp2_with fail
      (go_at_call 22; refine (kA _).mono ?_; rintro e w1 ⟨rfl, hb1⟩; obtain ⟨hc1, hf1⟩ := bcell hb1; have hs1 := hb1.size; (try simp only [World.size_alloc, World.size_setCell, World.size_drew] at hc1 hf1); (try simp at hs1))
      go_wp2_with fail
      go_ret
      exact ⟨_, _, _, rfl, by rw [HV.out]; exact Rd.nil_, by omega, by (repeat' (first | exact Below.refl _ _ | assumption | (refine Below.alloc ?_ ?_ _) | (refine Below.setCell ?_ ?_ _) | (refine Below.drew ?_) | (refine below_drewN ?_ _) | (refine below_after (Ext.below _) ?_ ?_) | (refine below_after (by assumption) ?_ ?_) | (simp; done) | omega | (simp; omega)))⟩
    · have HV := Lib.hid (show ptsL x y wd h = ptsAt x y wd (wd * h).toNat by unfold ptsL; rw [if_pos (hok.trans (decide_eq_true g))])
      clear hok
      have d1 : decide (5000 < wd * h) = false := decide_eq_false (by omega)
      obtain ⟨n, hn⟩ : ∃ n : Nat, wd * h = (n : Int) := ⟨(wd * h).toNat, by omega⟩
      obtain ⟨wn, hwn⟩ : ∃ wn : Nat, wd = (wn : Int) := ⟨wd.toNat, by omega⟩
      obtain ⟨hh, hhn⟩ : ∃ hh : Nat, h = (hh : Int) := ⟨h.toNat, by omega⟩
      subst hwn hhn
      have hprod : hh * wn = n := by
        have e : ((hh * wn : Nat) : Int) = (n : Int) := by rw [Int.natCast_mul, Int.mul_comm]; exact hn
        omega
      have HP := Lib.hid hprod
      have HN := Lib.hid (show ((wn : Int) * (hh : Int)).toNat = n by omega)
      have hn5 : n ≤ 5000 := by omega
      clear hn
      clear hprod
      go_enter Try.func26, Try.ntmps26
      go_wp2_with fail
      (go_at_call 22; refine (kA _).mono ?_; rintro e w1 ⟨rfl, hb1⟩; obtain ⟨hc1, hf1⟩ := bcell hb1; have hs1 := hb1.size; (try simp only [World.size_alloc, World.size_setCell, World.size_drew] at hc1 hf1); (try simp at hs1))
      go_wp2_with fail
      go_loopw [3, 4] (fun v i wr => ∃ (A : Option Addr) (m c k : Nat), v = .slice A m c ∧ i = .int .i64 (y + (k : Int)) ∧ k ≤ hh ∧ Hid (m = k * wn) ∧ Own encP 2 23 (w.heap.size + 1) wr A m c (ptsAt x y wn m) ∧ Below (w.heap.size + 1) (w.alloc (.cells #[.int .i64 x, .int .i64 y, .int .i64 wn, .int .i64 hh] 31)) wr) (fun _ i _ => hh - (intOf i - y).toNat)
      case atStart => exact ⟨_, 0, _, 0, rfl, by go_num, by omega, (Nat.zero_mul _).symm, Own.nil_, by (repeat' (first | exact Below.refl _ _ | assumption | (refine Below.alloc ?_ ?_ _) | (refine Below.setCell ?_ ?_ _) | (refine Below.drew ?_) | (refine below_drewN ?_ _) | (refine below_after (Ext.below _) ?_ ?_) | (refine below_after (by assumption) ?_ ?_) | (simp; done) | omega | (simp; omega)))⟩
      case round =>
        obtain ⟨A, m, c, k, rfl, rfl, hk, hm, hown, hb⟩ := hrel
        obtain ⟨hc, hf⟩ := bcell hb
        have hs := hb.size
        (try simp only [World.size_alloc] at hs)
        by_cases hlt : k < hh
        · have dk : decide (y + (k : Int) < y + hh) = true := decide_eq_true (by omega)
          have hkb := Nat.mul_le_mul_right wn (show k + 1 ≤ hh by omega)
          rw [HP.out, Nat.add_mul, Nat.one_mul, ← hm.out] at hkb
          go_wp2
          go_loopw [3, 5] (fun v i wr => ∃ (A : Option Addr) (q c k' : Nat), v = .slice A q c ∧ i = .int .i64 (x + (k' : Int)) ∧ k' ≤ wn ∧ Hid (q = m + k') ∧ Own encP 2 23 (w.heap.size + 1) wr A q c (ptsAt x y wn q) ∧ Below (w.heap.size + 1) (w.alloc (.cells #[.int .i64 x, .int .i64 y, .int .i64 wn, .int .i64 hh] 31)) wr) (fun _ i _ => wn - (intOf i - x).toNat)
          case atStart => exact ⟨A, m, c, 0, rfl, by go_num, by omega, rfl, hown, hb⟩
          case round =>
            clear hown hb hs hc hf
            obtain ⟨A, q, c, k', rfl, rfl, hk', hq, hown, hb⟩ := hrel
            obtain ⟨hc, hf⟩ := bcell hb
            have hs := hb.size
            (try simp only [World.size_alloc] at hs)
            by_cases hlt' : k' < wn
            · have dk' : decide (x + (k' : Int) < x + wn) = true := decide_eq_true (by omega)
              have hsn := Lib.hid (show ptsAt x y wn (q + 1) = ptsAt x y wn q ++ [(x + (k' : Int), y + (k : Int))] by rw [ptsAt_succ, hq.out, hm.out, ptAt_row hlt'])
              have hq5 : q < 5000 := by have := hq.out; omega
              go_wp2_with (first | (at_builtin; refine wpList_append_el rfl (.tmp 39) (.tmp 43) 24 rfl encP 2 23 (.agg #[.int .i64 0, .int .i64 0]) 16 Try.underlying24 (by kernel_rfl) rfl (by decide) encP_len encP_one (w.heap.size + 1) _ _ _ _ rfl (hown.alloc _) (x + (k' : Int), y + (k : Int)) ⟨(wr).heap.size, 0, none⟩ 1 rfl (cells_new (wr) _ _) (by omega) (by omega) (by first | omega | (simp; done) | (simp; omega)) ?_; intro A3 c3 w3 hown3 hg3 hb3; obtain ⟨hc3, hf3⟩ := bcell hb3; have hs3 := hb3.size; (try simp only [World.size_alloc, World.size_setCell, World.size_drew] at hc3 hf3); (try simp at hs3)))
              go_roundw
              case rel => exact ⟨A3, q + 1, c3, k' + 1, rfl, by go_num, by omega, (by show _ = _; have := hq.out; omega), by rw [hsn.out]; exact hown3, by (repeat' (first | exact Below.refl _ _ | assumption | (refine Below.alloc ?_ ?_ _) | (refine Below.setCell ?_ ?_ _) | (refine Below.drew ?_) | (refine below_drewN ?_ _) | (refine below_after (Ext.below _) ?_ ?_) | (refine below_after (by assumption) ?_ ?_) | (simp; done) | omega | (simp; omega)))⟩
              case measure => simp [intOf]; omega
            · obtain rfl : k' = wn := by omega
              have dk' : decide (x + (k' : Int) < x + k') = false := decide_eq_false (by omega)
              go_wp2
              go_roundw
              case rel => exact ⟨A, q, c, k + 1, rfl, by go_num, by omega, (by show _ = _; rw [hq.out, hm.out, Nat.add_mul, Nat.one_mul]), hown, hb⟩
              case measure => simp [intOf]; omega
        · obtain rfl : k = hh := by omega
          have dk : decide (y + (k : Int) < y + k) = false := decide_eq_false (by omega)
          go_wp2
          go_ret
          exact ⟨_, _, _, rfl, by rw [HV.out, HN.out, ← HP.out, ← hm.out]; exact hown.rd encP_len, by have h1 := HP.out; have h2 := hm.out; omega, by (repeat' (first | exact Below.refl _ _ | assumption | (refine Below.alloc ?_ ?_ _) | (refine Below.setCell ?_ ?_ _) | (refine Below.drew ?_) | (refine below_drewN ?_ _) | (refine below_after (Ext.below _) ?_ ?_) | (refine below_after (by assumption) ?_ ?_) | (simp; done) | omega | (simp; omega)))⟩
end Go.Proofs.Ytnhnkmppmicjoaa
