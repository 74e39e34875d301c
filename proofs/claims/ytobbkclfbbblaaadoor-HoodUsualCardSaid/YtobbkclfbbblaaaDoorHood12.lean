/- The contracts of the reference's Moore, Neumann and Hex. -/
import Derived.Test.YtobbkclfbbblaaaDoorHood8
namespace Go.Proofs.YtobbkclfbbblaaaDoor
open Go Go.RowKit
set_option linter.unusedSimpArgs false
set_option linter.unusedVariables false
set_option maxRecDepth 100000
set_option maxHeartbeats 1000000 in
theorem ref_Moore (r : Nat) (hr : r ≤ 2) (w : World) :
    Calls Tryd.prog 35 #[.int .i64 (r : Int)] w fun e w' => ∃ A n c, e = .returned (.slice A n c) ∧ Rd encP 2 w' A n (sqL (fun _ _ => true) r) ∧ n ≤ 25 ∧ Below w.heap.size w w' := by
  have e1 : decide ((r : Int) < 0) = false := decide_eq_false (by omega)
  have e2 : decide ((2 : Int) < r) = false := decide_eq_false (by omega)
  go_enter Tryd.func35, Tryd.ntmps35
  go_wp2
  go_loopw [3, 4] (fun v i wr => ∃ (A : Option Addr) (n c k : Nat), v = .slice A n c ∧ i = .int .i64 ((k : Int) - r) ∧ k ≤ 2 * r + 1 ∧ n ≤ k * (2 * r + 1) ∧ Own encP 2 23 w.heap.size wr A n c (sqAt (fun _ _ => true) r (k * (2 * r + 1))) ∧ Below w.heap.size w wr) (fun _ i _ => 2 * r + 1 - (intOf i + r).toNat)
  case atStart => exact ⟨none, 0, 0, 0, rfl, by go_num, by omega, by omega, by rw [Nat.zero_mul]; exact Own.nil_, Below.refl _ _⟩
  case round =>
    obtain ⟨A, n, c, k, rfl, rfl, hk, hnk, hown, hb⟩ := hrel
    have hs := hb.size
    by_cases hlt : k < 2 * r + 1
    · have d1 : decide ((k : Int) - r ≤ r) = true := decide_eq_true (by omega)
      go_wp2
      go_loopw [3, 5] (fun v i wr => ∃ (A : Option Addr) (n c i' : Nat), v = .slice A n c ∧ i = .int .i64 ((i' : Int) - r) ∧ i' ≤ 2 * r + 1 ∧ n ≤ k * (2 * r + 1) + i' ∧ Own encP 2 23 w.heap.size wr A n c (sqAt (fun _ _ => true) r (k * (2 * r + 1) + i')) ∧ Below w.heap.size w wr) (fun _ i _ => 2 * r + 1 - (intOf i + r).toNat)
      case atStart => exact ⟨A, n, c, 0, rfl, by go_num, by omega, hnk, hown, hb⟩
      case round =>
        clear hown hb hs hnk
        obtain ⟨A, n, c, i, rfl, rfl, hi, hnk, hown, hb⟩ := hrel
        have hs := hb.size
        obtain ⟨hc, hf⟩ := bcell hb
        have hkb : k * (2 * r + 1) + (2 * r + 1) ≤ (2 * r + 1) * (2 * r + 1) := by
          have h : (k + 1) * (2 * r + 1) ≤ (2 * r + 1) * (2 * r + 1) := Nat.mul_le_mul_right (2 * r + 1) hlt
          have h2 : (k + 1) * (2 * r + 1) = k * (2 * r + 1) + (2 * r + 1) := by rw [Nat.add_mul, Nat.one_mul]
          rw [h2] at h
          exact h
        have hsq : (2 * r + 1) * (2 * r + 1) ≤ 25 := Nat.mul_le_mul (show 2 * r + 1 ≤ 5 by omega) (show 2 * r + 1 ≤ 5 by omega)
        by_cases hlti : i < 2 * r + 1
        · have d2 : decide ((i : Int) - r ≤ r) = true := decide_eq_true (by omega)
          have hn25 : n < 25 := by omega
          have hsn := Lib.hid (show sqAt (fun _ _ => true) r (k * (2 * r + 1) + (i + 1)) = sqAt (fun _ _ => true) r (k * (2 * r + 1) + i) ++ [((i : Int) - r, (k : Int) - r)] by rw [← Nat.add_assoc, sqAt_succ, sqPt_at hlti]; rfl)
          have hnk' := Lib.hid hnk
          clear hkb hsq hnk
          go_wp2_with (first | (at_builtin; refine wpList_append_el rfl (.tmp 26) (.tmp 30) 47 rfl encP 2 23 (.agg #[.int .i64 0, .int .i64 0]) 16 Tryd.underlying47 (by kernel_rfl) rfl (by decide) encP_len encP_one (w.heap.size) _ _ _ _ rfl (hown.alloc _) ((i : Int) - r, (k : Int) - r) ⟨(wr).heap.size, 0, none⟩ 1 rfl (cells_new (wr) _ _) (by omega) (by omega) (by simp; omega) ?_; intro A1 c1 w1 hown1 hg1 hb1; obtain ⟨hc1, hf1⟩ := bcell hb1; have hs1 := hb1.size; (try simp only [World.size_alloc, World.size_setCell, World.size_drew] at hc1 hf1); (try simp at hs1)))
          go_roundw
          case rel => exact ⟨A1, n + 1, c1, i + 1, rfl, by go_num, by omega, by have := hnk'.out; omega, by rw [hsn.out]; exact hown1, by (repeat' (first | exact Below.refl _ _ | assumption | (refine Below.alloc ?_ ?_ _) | (refine Below.setCell ?_ ?_ _) | (refine Below.drew ?_) | (refine below_drewN ?_ _) | (refine below_after (Ext.below _) ?_ ?_) | (refine below_after (by assumption) ?_ ?_) | (simp; done) | omega | (simp; omega)))⟩
          case measure => simp [intOf]; omega
        · obtain rfl : i = 2 * r + 1 := by omega
          have d2 : decide (((2 * r + 1 : Nat) : Int) - r ≤ r) = false := decide_eq_false (by omega)
          have he := Lib.hid (show (k + 1) * (2 * r + 1) = k * (2 * r + 1) + (2 * r + 1) by rw [Nat.add_mul, Nat.one_mul])
          have hnk' := Lib.hid hnk
          clear hkb hsq hnk
          go_wp2
          go_roundw
          case rel => exact ⟨A, n, c, k + 1, rfl, by go_num, by omega, by rw [he.out]; exact hnk'.out, by rw [he.out]; exact hown, hb⟩
          case measure => simp [intOf]; omega
    · obtain rfl : k = 2 * r + 1 := by omega
      have d1 : decide (((2 * r + 1 : Nat) : Int) - r ≤ r) = false := decide_eq_false (by omega)
      have hsq := Lib.hid (Nat.mul_le_mul (show 2 * r + 1 ≤ 5 by omega) (show 2 * r + 1 ≤ 5 by omega))
      have hnk' := Lib.hid hnk
      clear hnk
      go_wp2
      go_ret
      exact ⟨A, n, c, rfl, hown.rd encP_len, by have := hnk'.out; have := hsq.out; omega, hb⟩
theorem ref_Moore_no (r : Int) (h : r < 0 ∨ 2 < r) (w : World) : Calls Tryd.prog 35 #[.int .i64 r] w fun e w' => e = .returned (.slice none 0 0) ∧ w = w' := by
  go_enter Tryd.func35, Tryd.ntmps35
  go_wp2
  all_goals first | (exfalso; omega) | (go_ret; exact ⟨rfl, rfl⟩)
theorem ref_Hex (w : World) : Calls Tryd.prog 38 #[] w fun e w' => ∃ A n c, e = .returned (.slice A n c) ∧ Rd encP 2 w' A n (sqL hexB 1) ∧ n ≤ 25 ∧ Below w.heap.size w w' := by
  have he : sqL hexB 1 = [(-1, -1), (0, -1), (-1, 0), (0, 0), (1, 0), (0, 1), (1, 1)] := by decide +kernel
  have H := Lib.hid he
  clear he
  go_enter Tryd.func38, Tryd.ntmps38
  go_wp2
  go_ret
  exact ⟨_, 7, _, rfl, by rw [H.out]; exact (Own.lit encP_len w 23 0 (by omega) _ 7 rfl (by omega) _ rfl).rd encP_len, by omega, by (repeat' (first | exact Below.refl _ _ | assumption | (refine Below.alloc ?_ ?_ _) | (refine Below.setCell ?_ ?_ _) | (refine Below.drew ?_) | (refine below_drewN ?_ _) | (refine below_after (Ext.below _) ?_ ?_) | (refine below_after (by assumption) ?_ ?_) | (simp; done) | omega | (simp; omega)))⟩
theorem neu_filter (r : Nat) : (sqL (fun _ _ => true) r).filter (fun u => neuB r u.1 u.2) = sqL (neuB r) r := by
  unfold sqL sqAt
  rw [List.filter_filter]
  simp
theorem sq_bound {r : Nat} (hr : r ≤ 2) {i : Nat} {x y : Int} (h : (sqL (fun _ _ => true) r)[i]? = some (x, y)) : -2 ≤ x ∧ x ≤ 2 ∧ -2 ≤ y ∧ y ≤ 2 := by
  have hm := List.mem_of_getElem? h
  have hc : r = 0 ∨ r = 1 ∨ r = 2 := by omega
  have key : ∀ p, p ∈ sqL (fun _ _ => true) r → -2 ≤ p.1 ∧ p.1 ≤ 2 ∧ -2 ≤ p.2 ∧ p.2 ≤ 2 := by
    rcases hc with rfl | rfl | rfl <;> decide +kernel
  exact key _ hm
theorem filter_step {α : Type} {p : α → Bool} {l : List α} {j : Nat} {x : α} (h : l[j]? = some x) : (l.take (j + 1)).filter p = (l.take j).filter p ++ (if p x then [x] else []) := by
  rw [List.take_add_one, List.filter_append, h]
  simp [List.filter_cons]
set_option maxHeartbeats 1000000 in
theorem ref_Neumann (r : Nat) (hr : r ≤ 2) (w : World) :
    Calls Tryd.prog 36 #[.int .i64 (r : Int)] w fun e w' => ∃ A n c, e = .returned (.slice A n c) ∧ Rd encP 2 w' A n (sqL (neuB r) r) ∧ n ≤ 25 ∧ Below w.heap.size w w' := by
  go_enter Tryd.func36, Tryd.ntmps36
  go_wp2_with fail
  go_at_call 35
  refine (ref_Moore r hr _).mono ?_
  rintro e w1 ⟨A, n, c, rfl, hR, hn, hb1⟩
  have hs1 := hb1.size
  go_wp2
  go_loopw [4, 5] (fun v i wr => ∃ (B : Option Addr) (m d j : Nat), v = .slice B m d ∧ i = .int .i64 j ∧ j ≤ n ∧ m ≤ j ∧ Own encP 2 23 w1.heap.size wr B m d (((sqL (fun _ _ => true) r).take j).filter (fun u => neuB r u.1 u.2)) ∧ Below w1.heap.size w1 wr) (fun _ i _ => n - (intOf i).toNat)
  case atStart => exact ⟨none, 0, 0, 0, rfl, rfl, by omega, by omega, by rw [List.take_zero]; exact Own.nil_, Below.refl _ _⟩
  case round =>
    obtain ⟨B, m, d, j, rfl, rfl, hj, hmj, hown, hb⟩ := hrel
    obtain ⟨hc, hf⟩ := bcell hb
    have hs := hb.size
    by_cases hlt : j < n
    · obtain ⟨x, y, bo, o, hx, rfl, hbl, hcell, hcell2⟩ := hR.pt hlt
      have hst := filter_step (p := fun u : Int × Int => neuB r u.1 u.2) hx.out
      simp only at hst
      cases hq : neuB r x y with
      | true =>
        have hd : decide (wrap64 (absI x + absI y) ≤ (r : Int)) = true := hq
        rw [hq, if_pos rfl] at hst
        have HS := Lib.hid hst
        clear hst hq
        go_wp2
        (refine wp_region_ext_lit (by kernel_rfl) (by kernel_rfl) ?_; (repeat (go_big_quiet_step ((go_at_call 61; exact calls_ext (ref_Abs _ _))))); refine wpQuiet_nil ?_; intro _ hw'; obtain ⟨z2, hw''⟩ := hw'; subst hw''; have hs2 := z2.size; obtain ⟨hc2, hf2⟩ := bcell z2.below; (try simp only [World.size_alloc, World.size_setCell, World.size_drew] at hc2 hf2); (try simp at hs2))
        go_wp2_with (first | (at_builtin; refine wpList_append_el rfl (.tmp 29) (.tmp 34) 47 rfl encP 2 23 (.agg #[.int .i64 0, .int .i64 0]) 16 Tryd.underlying47 (by kernel_rfl) rfl (by decide) encP_len encP_one (w1.heap.size) _ _ _ _ rfl ((hown.of z2.below).alloc _) (x, y) ⟨(z2.world).heap.size, 0, none⟩ 1 rfl (cells_new (z2.world) _ _) (by omega) (by omega) (by simp; omega) ?_; intro A3 c3 w3 hown3 hg3 hb3; obtain ⟨hc3, hf3⟩ := bcell hb3; have hs3 := hb3.size; (try simp only [World.size_alloc, World.size_setCell, World.size_drew] at hc3 hf3); (try simp at hs3)))
        go_roundw
        case rel => exact ⟨A3, m + 1, c3, j + 1, rfl, by go_num, by omega, by omega, by rw [HS.out]; exact hown3, by (repeat' (first | exact Below.refl _ _ | assumption | (refine Below.alloc ?_ ?_ _) | (refine Below.setCell ?_ ?_ _) | (refine Below.drew ?_) | (refine below_drewN ?_ _) | (refine below_after (Ext.below _) ?_ ?_) | (refine below_after (by assumption) ?_ ?_) | (simp; done) | omega | (simp; omega)))⟩
        case measure => simp [intOf]; omega
      | false =>
        have hd : decide (wrap64 (absI x + absI y) ≤ (r : Int)) = false := hq
        rw [hq, if_neg (by simp), List.append_nil] at hst
        have HS := Lib.hid hst
        clear hst hq
        go_wp2
        (refine wp_region_ext_lit (by kernel_rfl) (by kernel_rfl) ?_; (repeat (go_big_quiet_step ((go_at_call 61; exact calls_ext (ref_Abs _ _))))); refine wpQuiet_nil ?_; intro _ hw'; obtain ⟨z2, hw''⟩ := hw'; subst hw''; have hs2 := z2.size; obtain ⟨hc2, hf2⟩ := bcell z2.below; (try simp only [World.size_alloc, World.size_setCell, World.size_drew] at hc2 hf2); (try simp at hs2))
        go_wp2
        go_roundw
        case rel => exact ⟨B, m, d, j + 1, rfl, by go_num, by omega, by omega, by rw [HS.out]; exact hown.of z2.below, by (repeat' (first | exact Below.refl _ _ | assumption | (refine Below.alloc ?_ ?_ _) | (refine Below.setCell ?_ ?_ _) | (refine Below.drew ?_) | (refine below_drewN ?_ _) | (refine below_after (Ext.below _) ?_ ?_) | (refine below_after (by assumption) ?_ ?_) | (simp; done) | omega | (simp; omega)))⟩
        case measure => simp [intOf]; omega
    · obtain rfl : j = n := by omega
      go_wp2
      go_ret
      have he : (((sqL (fun _ _ => true) r).take j).filter (fun u => neuB r u.1 u.2)) = sqL (neuB r) r := by rw [List.take_of_length_le (by rw [hR.len]; omega)]; exact neu_filter r
      exact ⟨B, m, d, rfl, by rw [← he]; exact hown.rd encP_len, by omega, by (repeat' (first | exact Below.refl _ _ | assumption | (refine Below.alloc ?_ ?_ _) | (refine Below.setCell ?_ ?_ _) | (refine Below.drew ?_) | (refine below_drewN ?_ _) | (refine below_after (Ext.below _) ?_ ?_) | (refine below_after (by assumption) ?_ ?_) | (simp; done) | omega | (simp; omega)))⟩
end Go.Proofs.YtobbkclfbbblaaaDoor
