/- The contract of chapter 04's alive. -/
import Derived.Test.YtobbkclfbbblaaaDoorOrbS
import Derived.Test.YtobbkclfbbblaaaDoorOrbR
import Derived.Test.YtobbkclfbbblaaaDoorAlive04P
import Derived.Test.YtobbkclfbbblaaaDoorInts
namespace Go.Proofs.YtobbkclfbbblaaaDoor
open Go Go.RowKit
set_option linter.unusedSimpArgs false
set_option linter.unusedVariables false
set_option maxRecDepth 100000
attribute [local go_sem ↓ high] eq_pt neq_pt eq_box neq_box
theorem app1V (w : World) (hM : Mx w) : Calls Tryd.prog 12 #[.int .i64 1, .agg #[.int .i64 1, .int .i64 0]] w fun e w' => e = .returned (.agg #[.int .i64 0, .int .i64 1]) ∧ Below w.heap.size w w' := by
  have h := sym_Apply 1 1 0 w hM; rw [ex_app1] at h; exact h
theorem app5V (w : World) (hM : Mx w) : Calls Tryd.prog 12 #[.int .i64 5, .agg #[.int .i64 1, .int .i64 0]] w fun e w' => e = .returned (.agg #[.int .i64 0, .int .i64 (-1)]) ∧ Below w.heap.size w w' := by
  have h := sym_Apply 5 1 0 w hM; rw [ex_app5] at h; exact h
theorem comp1V (w : World) (hM : Mx w) : Calls Tryd.prog 17 #[.int .i64 1, .int .i64 4] w fun e w' => e = .returned (.int .i64 7) ∧ Below w.heap.size w w' := by
  have h := sym_Compose 1 4 w hM; rw [ex_comp1] at h; exact h
theorem comp2V (w : World) (hM : Mx w) : Calls Tryd.prog 17 #[.int .i64 4, .int .i64 1] w fun e w' => e = .returned (.int .i64 5) ∧ Below w.heap.size w w' := by
  have h := sym_Compose 4 1 w hM; rw [ex_comp2] at h; exact h
theorem invV (w : World) (hM : Mx w) : Calls Tryd.prog 14 #[.int .i64 1] w fun e w' => e = .returned (.int .i64 3) ∧ Below w.heap.size w w' := by
  have h := sym_Inverse 1 w hM; rw [ex_inv] at h; exact h
theorem turnV (w : World) (hM : Mx w) : Calls Tryd.prog 19 #[.int .i64 1, .agg #[.int .i64 0, .int .i64 0, .int .i64 3, .int .i64 2]] w fun e w' => e = .returned (.agg #[.int .i64 (-1), .int .i64 0, .int .i64 2, .int .i64 3]) ∧ Below w.heap.size w w' := by
  have h := sym_Turn_yes 1 0 0 3 2 w hM ex_right; rw [ex_turn] at h; exact h
theorem withinV (w : World) (hM : Mx w) : Calls Tryd.prog 20 #[.int .i64 1, .agg #[.int .i64 0, .int .i64 0, .int .i64 3, .int .i64 2], .agg #[.int .i64 2, .int .i64 1]] w fun e w' => e = .returned (.agg #[.int .i64 0, .int .i64 2]) ∧ Below w.heap.size w w' := by
  have h := sym_Within 1 0 0 3 2 2 1 w hM; rw [ex_within] at h; exact h
theorem orbit1V (w : World) (hM : Mx w) (A : Option Addr) (c : Nat) (hR : Rd encI 1 w A 1 [2]) : Calls Tryd.prog 30 #[.slice A 1 c, .int .i64 3, .int .i64 1] w fun e w' => ∃ A c, e = .returned (.tuple #[.slice A 3 c, .int .i64 0]) ∧ Rd encI 1 w' A 3 [0, 1, 0] ∧ Below w.heap.size w w' := by
  have h := sym_Orbits_yes A 1 c [2] 3 1 w hM hR (by omega) (by omega) (by omega) (by omega) (.inr ⟨by decide, even_2⟩)
  have e : orb (wF ((3 : Nat) : Int) ((1 : Nat) : Int)) (grp [2]) 3 (1 * 3) = [0, 1, 0] := orb_2
  rw [e] at h
  exact h
theorem orbit2V (w : World) (hM : Mx w) (A : Option Addr) (c : Nat) (hR : Rd encI 1 w A 1 [1]) : Calls Tryd.prog 30 #[.slice A 1 c, .int .i64 3, .int .i64 1] w fun e w' => e = .returned (.tuple #[.slice none 0 0, .int .i64 2]) ∧ Below w.heap.size w w' :=
  sym_Orbits_no3 A 1 c [1] 3 1 w hM hR (by omega) (by omega) (by omega) (by omega) (by omega) grp_1_odd
theorem groupV (w : World) (hM : Mx w) (A : Option Addr) (c : Nat) (hR : Rd encI 1 w A 2 [1, 4]) : Calls Tryd.prog 26 #[.slice A 2 c] w fun e w' => ∃ A c, e = .returned (.slice A 8 c) ∧ Below w.heap.size w w' := by
  refine (sym_Group A 2 c [1, 4] w hM hR (by omega)).mono ?_
  rintro e w1 ⟨A, n, c, rfl, hR, hn, hb⟩
  obtain rfl : n = 8 := by rw [← hR.len, grp_14_len]
  exact ⟨A, c, rfl, hb⟩
theorem below_thru {w w1 w2 : World} (h : Below w.heap.size w w1) (h2 : Below w1.heap.size w1 w2) : Below w.heap.size w w2 :=
  below_after h2 h h.size
theorem below_thruA {w w1 w2 : World} {o : Obj} (h : Below w.heap.size w w1) (h2 : Below (w1.alloc o).heap.size (w1.alloc o) w2) : Below w.heap.size w w2 :=
  below_after h2 (h.alloc h.size o) (by have := h.size; rw [World.size_alloc]; omega)
def LitRd (w : World) (l : List Int) (n : Nat) (A : Option Addr) : Prop := Rd encI 1 w A n l
theorem rd_lit (w : World) (l : List Int) (cs : Array Value) (n : Nat) (hn : l.length = n) (hm : n ≤ 4611686018427387904) (hcs : cs.toList = l.flatMap encI) : Rd encI 1 (w.alloc (.cells cs 3)) (some ⟨w.heap.size, 0, none⟩) n l := by
  have h := (Own.lit encI_len w 3 w.heap.size (Nat.le_refl _) l n hn hm cs.toList hcs).rd encI_len
  simpa using h
set_option maxHeartbeats 2000000 in
theorem alive_04 (w : World) (hM : Mx w) :
    Calls Tryd.prog 16 #[] w fun e w' => e = .returned (.bool true) ∧ Below w.heap.size w w' := by
  have hz := hM.1
  go_enter Tryd.func16, Tryd.ntmps16
  have hl0 := rd_lit w [2] #[.int .i64 2] 1 rfl (by omega) rfl
  have hM0 := hM.of ((Below.refl w.heap.size w).alloc (Nat.le_refl _) (.cells #[.int .i64 2] 3))
  go_wp2_with fail
  go_at_call 30
  refine (orbit1V _ hM0 _ _ hl0).mono ?_
  rintro e w1 ⟨A1, c1, rfl, hR1, hb1⟩
  have hB1 := below_thruA (Below.refl _ w) hb1
  have hM1 := hM.of hB1
  clear hb1 hl0 hM0
  have hl1 := rd_lit w1 [1] #[.int .i64 1] 1 rfl (by omega) rfl
  have hM0 := hM1.of ((Below.refl w1.heap.size w1).alloc (Nat.le_refl _) (.cells #[.int .i64 1] 3))
  go_wp2_with fail
  go_at_call 30
  refine (orbit2V _ hM0 _ _ hl1).mono ?_
  rintro e w2 ⟨rfl, hb2⟩
  have hB2 := below_thruA hB1 hb2
  have hR2 := hR1.of (below_thruA (Below.refl _ w1) hb2)
  have hM2 := hM.of hB2
  clear hb2 hl1 hM0 hB1 hR1 hM1
  go_wp2_with fail
  (go_at_call 12; refine (app1V _ hM2).mono ?_; rintro e w3 ⟨rfl, hb3⟩; have hB3 := below_thru hB2 hb3; have hM3 := hM2.of hb3; have hq3 := hb3; clear hb3)
  go_wp2_with fail
  (go_at_call 12; refine (app5V _ hM3).mono ?_; rintro e w4 ⟨rfl, hb4⟩; have hB4 := below_thru hB3 hb4; have hM4 := hM3.of hb4; have hq4 := hb4; clear hb4)
  go_wp2_with fail
  (go_at_call 17; refine (comp1V _ hM4).mono ?_; rintro e w5 ⟨rfl, hb5⟩; have hB5 := below_thru hB4 hb5; have hM5 := hM4.of hb5; have hq5 := hb5; clear hb5)
  go_wp2_with fail
  (go_at_call 17; refine (comp2V _ hM5).mono ?_; rintro e w6 ⟨rfl, hb6⟩; have hB6 := below_thru hB5 hb6; have hM6 := hM5.of hb6; have hq6 := hb6; clear hb6)
  go_wp2_with fail
  (go_at_call 14; refine (invV _ hM6).mono ?_; rintro e w7 ⟨rfl, hb7⟩; have hB7 := below_thru hB6 hb7; have hM7 := hM6.of hb7; have hq7 := hb7; clear hb7)
  go_wp2_with fail
  (go_at_call 19; refine (turnV _ hM7).mono ?_; rintro e w8 ⟨rfl, hb8⟩; have hB8 := below_thru hB7 hb8; have hM8 := hM7.of hb8; have hq8 := hb8; clear hb8)
  have hR8 : Rd encI 1 w8 A1 3 [0, 1, 0] := hR2.of (below_thru hq3 (below_thru hq4 (below_thru hq5 (below_thru hq6 (below_thru hq7 hq8)))))
  clear hq3 hq4 hq5 hq6 hq7 hq8 hB2 hB3 hB4 hB5 hB6 hB7 hM2 hM3 hM4 hM5 hM6 hM7 hR2
  have hl8 := rd_lit w8 [1, 4] #[.int .i64 1, .int .i64 4] 2 rfl (by omega) rfl
  have hM0 := hM8.of ((Below.refl w8.heap.size w8).alloc (Nat.le_refl _) (.cells #[.int .i64 1, .int .i64 4] 3))
  go_wp2_with fail
  go_at_call 26
  refine (groupV _ hM0 _ _ hl8).mono ?_
  rintro e w9 ⟨A9, c9, rfl, hb9⟩
  have hB9 := below_thruA hB8 hb9
  have hR9 := hR8.of (below_thruA (Below.refl _ w8) hb9)
  have hM9 := hM.of hB9
  clear hb9 hM0 hl8 hB8 hM8 hR8
  go_wp2_with fail
  (go_at_call 20; refine (withinV _ hM9).mono ?_; rintro e w10 ⟨rfl, hb10⟩; have hB10 := below_thru hB9 hb10; have hM10 := hM9.of hb10; have hq10 := hb10; clear hb10)
  have hR10 := hR9.of hq10
  go_wp2_with fail
  have hl10 := rd_lit w10 [0, 1, 0] #[.int .i64 0, .int .i64 1, .int .i64 0] 3 rfl (by omega) rfl
  have hR11 := hR10.of ((Below.refl w10.heap.size w10).alloc (Nat.le_refl _) (.cells #[.int .i64 0, .int .i64 1, .int .i64 0] 3))
  have hsame := ref_SameI _ _ 3 3 c1 3 _ _ _ hR11 hl10 (by omega)
  rw [show sameL [(0 : Int), 1, 0] [0, 1, 0] = true from rfl] at hsame
  go_at_call 27
  refine hsame.mono ?_
  rintro e w11 ⟨rfl, hb11⟩
  have hB11 := below_thruA hB10 hb11
  go_wp2_with fail
  go_ret
  exact ⟨rfl, hB11⟩
end Go.Proofs.YtobbkclfbbblaaaDoor
