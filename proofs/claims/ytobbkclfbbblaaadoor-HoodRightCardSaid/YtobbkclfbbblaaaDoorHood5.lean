/- The contracts of hood.collect at its three predicates, and of Moore, Neumann and Hex of hood. -/
import Derived.Test.YtobbkclfbbblaaaDoorHood4
import Derived.Test.YtobbkclfbbblaaaDoorFresh
namespace Go.Proofs.YtobbkclfbbblaaaDoor
open Go Go.RowKit
set_option linter.unusedSimpArgs false
set_option linter.unusedVariables false
set_option maxRecDepth 100000
/-- The place number q of the square of the radius r, row by row. -/
def sqPt (r q : Nat) : Int × Int := (((q % (2 * r + 1) : Nat) : Int) - r, ((q / (2 * r + 1) : Nat) : Int) - r)
def sqAt (p : Int → Int → Bool) (r q : Nat) : List (Int × Int) := ((List.range q).map (sqPt r)).filter fun u => p u.1 u.2
def sqL (p : Int → Int → Bool) (r : Nat) : List (Int × Int) := sqAt p r ((2 * r + 1) * (2 * r + 1))
theorem sqAt_succ (p : Int → Int → Bool) (r q : Nat) : sqAt p r (q + 1) = sqAt p r q ++ (if p (sqPt r q).1 (sqPt r q).2 then [sqPt r q] else []) := by
  unfold sqAt
  rw [List.range_succ, List.map_append, List.filter_append]
  congr 1
  simp [List.filter_cons]
theorem sqPt_at {r k i : Nat} (hi : i < 2 * r + 1) : sqPt r (k * (2 * r + 1) + i) = ((i : Int) - r, (k : Int) - r) := by
  unfold sqPt
  have e1 : (k * (2 * r + 1) + i) % (2 * r + 1) = i := by rw [Nat.mul_comm, Nat.mul_add_mod]; exact Nat.mod_eq_of_lt hi
  have e2 : (k * (2 * r + 1) + i) / (2 * r + 1) = k := by rw [Nat.mul_comm, Nat.mul_add_div (by omega), Nat.div_eq_of_lt hi, Nat.add_zero]
  rw [e1, e2]
theorem moore1 (x y : Int) (w : World) : Calls Tryd.prog 59 #[.int .i64 x, .int .i64 y] w fun e w' => e = .returned (.bool true) ∧ w = w' := by
  go_enter Tryd.func59, Tryd.ntmps59
  go_wp2
  go_ret
  exact ⟨rfl, rfl⟩
set_option maxHeartbeats 1000000 in
theorem collect_Moore (r : Nat) (hr : r ≤ 2) (w : World) :
    Calls Tryd.prog 58 #[.int .i64 (r : Int), .func (.func 59) #[] #[]] w fun e w' => ∃ A n c, e = .returned (.slice A n c) ∧ Rd encP 2 w' A n (sqL (fun _ _ => true) r) ∧ n ≤ 25 ∧ Below w.heap.size w w' := by
  go_enter Tryd.func58, Tryd.ntmps58
  go_wp2
  go_loopw [5, 6] (fun v i wr => ∃ (A : Option Addr) (n c k : Nat), v = .slice A n c ∧ i = .int .i64 ((k : Int) - r) ∧ k ≤ 2 * r + 1 ∧ n ≤ k * (2 * r + 1) ∧ Own encP 2 23 w.heap.size wr A n c (sqAt (fun _ _ => true) r (k * (2 * r + 1))) ∧ Below w.heap.size w wr) (fun _ i _ => 2 * r + 1 - (intOf i + r).toNat)
  case atStart => exact ⟨none, 0, 0, 0, rfl, by go_num, by omega, by omega, by rw [Nat.zero_mul]; exact Own.nil_, Below.refl _ _⟩
  case round =>
    obtain ⟨A, n, c, k, rfl, rfl, hk, hnk, hown, hb⟩ := hrel
    have hs := hb.size
    by_cases hlt : k < 2 * r + 1
    · have d1 : decide ((k : Int) - r ≤ r) = true := decide_eq_true (by omega)
      go_wp2
      go_loopw [5, 7] (fun v i wr => ∃ (A : Option Addr) (n c i' : Nat), v = .slice A n c ∧ i = .int .i64 ((i' : Int) - r) ∧ i' ≤ 2 * r + 1 ∧ n ≤ k * (2 * r + 1) + i' ∧ Own encP 2 23 w.heap.size wr A n c (sqAt (fun _ _ => true) r (k * (2 * r + 1) + i')) ∧ Below w.heap.size w wr) (fun _ i _ => 2 * r + 1 - (intOf i + r).toNat)
      case atStart => exact ⟨A, n, c, 0, rfl, by go_num, by omega, hnk, hown, hb⟩
      case round =>
        clear hown hb hs hnk
        obtain ⟨A, n, c, i, rfl, rfl, hi, hnk, hown, hb⟩ := hrel
        have hs := hb.size
        obtain ⟨hc, hf⟩ := bcell hb
        have hkb : k * (2 * r + 1) + (2 * r + 1) ≤ (2 * r + 1) * (2 * r + 1) := by
          have h : (k + 1) * (2 * r + 1) ≤ (2 * r + 1) * (2 * r + 1) := Nat.mul_le_mul_right (2 * r + 1) hlt
          have h2 : (k + 1) * (2 * r + 1) = k * (2 * r + 1) + (2 * r + 1) := by rw [Nat.add_mul, Nat.one_mul]
          rw [h2] at h
          exact h
        have hsq : (2 * r + 1) * (2 * r + 1) ≤ 25 := Nat.mul_le_mul (show 2 * r + 1 ≤ 5 by omega) (show 2 * r + 1 ≤ 5 by omega)
        by_cases hlti : i < 2 * r + 1
        · have d2 : decide ((i : Int) - r ≤ r) = true := decide_eq_true (by omega)
          have hn25 : n < 25 := by omega
          have hsn := Lib.hid (show sqAt (fun _ _ => true) r (k * (2 * r + 1) + (i + 1)) = sqAt (fun _ _ => true) r (k * (2 * r + 1) + i) ++ [((i : Int) - r, (k : Int) - r)] by rw [← Nat.add_assoc, sqAt_succ, sqPt_at hlti]; rfl)
          have hnk' := Lib.hid hnk
          clear hkb hsq hnk
          go_wp2_with (first | (go_at_call 59; refine (moore1 _ _ _).mono ?_; rintro e w' ⟨rfl, rfl⟩) | (at_builtin; refine wpList_append_el rfl (.tmp 26) (.tmp 30) 47 rfl encP 2 23 (.agg #[.int .i64 0, .int .i64 0]) 16 Tryd.underlying47 (by kernel_rfl) rfl (by decide) encP_len encP_one (w.heap.size) _ _ _ _ rfl (hown.alloc _) ((i : Int) - r, (k : Int) - r) ⟨(wr).heap.size, 0, none⟩ 1 rfl (cells_new (wr) _ _) (by omega) (by omega) (by simp; omega) ?_; intro A1 c1 w1 hown1 hg1 hb1; obtain ⟨hc1, hf1⟩ := bcell hb1; have hs1 := hb1.size; (try simp only [World.size_alloc, World.size_setCell, World.size_drew] at hc1 hf1); (try simp at hs1)))
          go_roundw
          case rel => exact ⟨A1, n + 1, c1, i + 1, rfl, by go_num, by omega, by have := hnk'.out; omega, by rw [hsn.out]; exact hown1, by (repeat' (first | exact Below.refl _ _ | assumption | (refine Below.alloc ?_ ?_ _) | (refine Below.setCell ?_ ?_ _) | (refine Below.drew ?_) | (refine below_drewN ?_ _) | (refine below_after (Ext.below _) ?_ ?_) | (refine below_after (by assumption) ?_ ?_) | (simp; done) | omega | (simp; omega)))⟩
          case measure => simp [intOf]; omega
        · obtain rfl : i = 2 * r + 1 := by omega
          have d2 : decide (((2 * r + 1 : Nat) : Int) - r ≤ r) = false := decide_eq_false (by omega)
          have he := Lib.hid (show (k + 1) * (2 * r + 1) = k * (2 * r + 1) + (2 * r + 1) by rw [Nat.add_mul, Nat.one_mul])
          have hnk' := Lib.hid hnk
          clear hkb hsq hnk
          go_wp2
          go_roundw
          case rel => exact ⟨A, n, c, k + 1, rfl, by go_num, by omega, by rw [he.out]; exact hnk'.out, by rw [he.out]; exact hown, hb⟩
          case measure => simp [intOf]; omega
    · obtain rfl : k = 2 * r + 1 := by omega
      have d1 : decide (((2 * r + 1 : Nat) : Int) - r ≤ r) = false := decide_eq_false (by omega)
      have hsq := Lib.hid (Nat.mul_le_mul (show 2 * r + 1 ≤ 5 by omega) (show 2 * r + 1 ≤ 5 by omega))
      have hnk' := Lib.hid hnk
      clear hnk
      go_wp2
      go_ret
      exact ⟨A, n, c, rfl, hown.rd encP_len, by have := hnk'.out; have := hsq.out; omega, hb⟩
end Go.Proofs.YtobbkclfbbblaaaDoor
