/- The contract of chapter 07's alive. -/
import Derived.Test.YtobbkclfbbblaaaDoorHoodL
import Derived.Test.YtobbkclfbbblaaaDoorAlive04
namespace Go.Proofs.YtobbkclfbbblaaaDoor
open Go Go.RowKit
set_option linter.unusedSimpArgs false
set_option linter.unusedVariables false
set_option maxRecDepth 100000
attribute [local go_sem ↓ high] eq_pt neq_pt
def neuOne : List (Int × Int) := [(0, -1), (-1, 0), (0, 0), (1, 0), (0, 1)]
theorem neuOne_eq : sqL (neuB ((1 : Nat) : Int)) 1 = neuOne := by decide +kernel
theorem neu1V (w : World) : Calls Tryd.prog 33 #[.int .i64 1] w fun e w' => ∃ A c, e = .returned (.slice A 5 c) ∧ Rd encP 2 w' A 5 neuOne ∧ Below w.heap.size w w' := by
  refine (hood_Neumann 1 (by omega) w).mono ?_
  rintro e w1 ⟨A, n, c, rfl, hR, hn, hb⟩
  rw [neuOne_eq] at hR
  obtain rfl : n = 5 := by rw [← hR.len]; rfl
  exact ⟨A, c, rfl, hR, hb⟩
theorem neu2V (w : World) : Calls Tryd.prog 33 #[.int .i64 2] w fun e w' => ∃ A c, e = .returned (.slice A 13 c) ∧ Below w.heap.size w w' := by
  refine (hood_Neumann 2 (by omega) w).mono ?_
  rintro e w1 ⟨A, n, c, rfl, hR, hn, hb⟩
  obtain rfl : n = 13 := by rw [← hR.len]; decide +kernel
  exact ⟨A, c, rfl, hb⟩
theorem moore1V (w : World) : Calls Tryd.prog 32 #[.int .i64 1] w fun e w' => ∃ A c, e = .returned (.slice A 9 c) ∧ Rd encP 2 w' A 9 (sqL (fun _ _ => true) 1) ∧ Below w.heap.size w w' := by
  refine (hood_Moore 1 (by omega) w).mono ?_
  rintro e w1 ⟨A, n, c, rfl, hR, hn, hb⟩
  obtain rfl : n = 9 := by rw [← hR.len]; decide +kernel
  exact ⟨A, c, rfl, hR, hb⟩
theorem moore2V (w : World) : Calls Tryd.prog 32 #[.int .i64 2] w fun e w' => ∃ A c, e = .returned (.slice A 25 c) ∧ Rd encP 2 w' A 25 (sqL (fun _ _ => true) 2) ∧ Below w.heap.size w w' := by
  refine (hood_Moore 2 (by omega) w).mono ?_
  rintro e w1 ⟨A, n, c, rfl, hR, hn, hb⟩
  obtain rfl : n = 25 := by rw [← hR.len]; decide +kernel
  exact ⟨A, c, rfl, hR, hb⟩
theorem hexV (w : World) : Calls Tryd.prog 37 #[] w fun e w' => ∃ A c, e = .returned (.slice A 7 c) ∧ Rd encP 2 w' A 7 (sqL hexB 1) ∧ Below w.heap.size w w' := by
  refine (hood_Hex w).mono ?_
  rintro e w1 ⟨A, n, c, rfl, hR, hn, hb⟩
  obtain rfl : n = 7 := by rw [← hR.len]; decide +kernel
  exact ⟨A, c, rfl, hR, hb⟩
theorem rd_litP (w : World) (l : List (Int × Int)) (cs : Array Value) (n : Nat) (hn : l.length = n) (hm : n ≤ 4611686018427387904) (hcs : cs.toList = l.flatMap encP) : Rd encP 2 (w.alloc (.cells cs 23)) (some ⟨w.heap.size, 0, none⟩) n l := by
  have h := (Own.lit encP_len w 23 w.heap.size (Nat.le_refl _) l n hn hm cs.toList hcs).rd encP_len
  simpa using h
theorem centV (A : Option Addr) (c : Nat) (w : World) (hR : Rd encP 2 w A 9 (sqL (fun _ _ => true) 1)) :
    Calls Tryd.prog 44 #[.slice A 9 c] w fun e w' => e = .returned (.int .i64 4) ∧ Below w.heap.size w w' := by
  have h := hood_Centre A 9 c _ w hR (by omega)
  rw [show centL (sqL (fun _ _ => true) 1) = 4 by decide +kernel] at h; exact h
theorem radV (A : Option Addr) (c : Nat) (w : World) (hR : Rd encP 2 w A 25 (sqL (fun _ _ => true) 2)) :
    Calls Tryd.prog 42 #[.slice A 25 c] w fun e w' => e = .returned (.int .i64 2) ∧ Below w.heap.size w w' := by
  have h := hood_Radius A 25 c _ w hR (by omega)
  rw [show radL (sqL (fun _ _ => true) 2) = 2 by decide +kernel] at h; exact h
theorem rightV (A : Option Addr) (c : Nat) (w : World) (hR : Rd encP 2 w A 5 neuOne) :
    Calls Tryd.prog 41 #[.slice A 5 c] w fun e w' => e = .returned (.bool true) ∧ Below w.heap.size w w' := by
  have h := hood_Right A 5 c _ w hR
  rw [show rightL neuOne = true by decide +kernel] at h; exact h
theorem rightN (w : World) : Calls Tryd.prog 41 #[.slice none 0 0] w fun e w' => e = .returned (.bool false) ∧ Below w.heap.size w w' := by
  have h := hood_Right none 0 0 [] w Rd.nil_
  rw [show rightL [] = false by decide +kernel] at h; exact h
theorem symsH (A : Option Addr) (c : Nat) (w : World) (hM : Mx w) (hR : Rd encP 2 w A 7 (sqL hexB 1)) :
    Calls Tryd.prog 43 #[.slice A 7 c] w fun e w' => ∃ A c, e = .returned (.slice A 4 c) ∧ Rd encI 1 w' A 4 [0, 2, 5, 7] ∧ Below w.heap.size w w' := by
  refine (hood_Syms A 7 c _ w hM hR (by omega)).mono ?_
  rintro e w1 ⟨A, n, c, rfl, hR, hn, hb⟩
  rw [show symsL (sqL hexB 1) = [0, 2, 5, 7] by decide +kernel] at hR
  obtain rfl : n = 4 := by rw [← hR.len]; rfl
  exact ⟨A, c, rfl, hR, hb⟩
theorem symsO (A : Option Addr) (c : Nat) (w : World) (hM : Mx w) (hR : Rd encP 2 w A 1 [(1, 0)]) :
    Calls Tryd.prog 43 #[.slice A 1 c] w fun e w' => ∃ A c, e = .returned (.slice A 2 c) ∧ Rd encI 1 w' A 2 [0, 6] ∧ Below w.heap.size w w' := by
  refine (hood_Syms A 1 c _ w hM hR (by omega)).mono ?_
  rintro e w1 ⟨A, n, c, rfl, hR, hn, hb⟩
  rw [show symsL [(1, 0)] = [0, 6] by decide +kernel] at hR
  obtain rfl : n = 2 := by rw [← hR.len]; rfl
  exact ⟨A, c, rfl, hR, hb⟩
set_option maxHeartbeats 2000000 in
theorem alive_07 (w : World) (hM : Mx w) :
    Calls Tryd.prog 39 #[] w fun e w' => e = .returned (.bool true) ∧ Below w.heap.size w w' := by
  have hz := hM.1
  go_enter Tryd.func39, Tryd.ntmps39
  go_wp2_with fail
  go_at_call 33
  refine (neu1V _).mono ?_
  rintro e w1 ⟨A1, c1, rfl, hR1, hB1⟩
  obtain ⟨x, y, b, o, hx, rfl, hbl, hcell, hcell2⟩ := hR1.pt (i := 1) (by omega)
  obtain ⟨rfl, rfl⟩ : (-1 : Int) = x ∧ (0 : Int) = y := by have := hx.out; simp [neuOne] at this; exact this
  clear hx
  go_wp2_with fail
  go_at_call 32
  refine (moore2V _).mono ?_
  rintro e w2 ⟨A2, c2, rfl, hR2, hb2⟩
  have hB2 := below_thru hB1 hb2
  have hR1 := hR1.of hb2
  clear hB1 hb2 hcell hcell2 hR2 hbl
  go_wp2_with fail
  go_at_call 33
  refine (neu2V _).mono ?_
  rintro e w3 ⟨A3, c3, rfl, hb3⟩
  have hB3 := below_thru hB2 hb3
  have hR1 := hR1.of hb3
  clear hB2 hb3
  go_wp2_with fail
  go_at_call 37
  refine (hexV _).mono ?_
  rintro e w4 ⟨A4, c4, rfl, hR4, hb4⟩
  have hB4 := below_thru hB3 hb4
  have hR1 := hR1.of hb4
  clear hB3 hb4 hR4
  go_wp2_with fail
  go_at_call 32
  refine (moore1V _).mono ?_
  rintro e w5 ⟨A5, c5, rfl, hR5, hb5⟩
  have hB5 := below_thru hB4 hb5
  have hR1 := hR1.of hb5
  clear hB4 hb5
  go_wp2_with fail
  go_at_call 44
  refine (centV _ _ _ hR5).mono ?_
  rintro e w6 ⟨rfl, hb6⟩
  have hB6 := below_thru hB5 hb6
  have hR1 := hR1.of hb6
  clear hB5 hb6 hR5
  go_wp2_with fail
  go_at_call 32
  refine (moore2V _).mono ?_
  rintro e w7 ⟨A7, c7, rfl, hR7, hb7⟩
  have hB7 := below_thru hB6 hb7
  have hR1 := hR1.of hb7
  clear hB6 hb7
  go_wp2_with fail
  go_at_call 42
  refine (radV _ _ _ hR7).mono ?_
  rintro e w8 ⟨rfl, hb8⟩
  have hB8 := below_thru hB7 hb8
  have hR1 := hR1.of hb8
  clear hB7 hb8 hR7
  go_wp2_with fail
  go_at_call 41
  refine (rightV _ _ _ hR1).mono ?_
  rintro e w9 ⟨rfl, hb9⟩
  have hB9 := below_thru hB8 hb9
  have hR1 := hR1.of hb9
  clear hB8 hb9
  go_wp2_with fail
  go_at_call 41
  refine (rightN _).mono ?_
  rintro e w10 ⟨rfl, hb10⟩
  have hB10 := below_thru hB9 hb10
  have hR1 := hR1.of hb10
  clear hB9 hb10
  go_wp2_with fail
  go_at_call 37
  refine (hexV _).mono ?_
  rintro e w11 ⟨A11, c11, rfl, hR11, hb11⟩
  have hB11 := below_thru hB10 hb11
  have hR1 := hR1.of hb11
  clear hB10 hb11
  go_wp2_with fail
  go_at_call 43
  refine (symsH _ _ _ (hM.of hB11) hR11).mono ?_
  rintro e w12 ⟨A12, c12, rfl, hR12, hb12⟩
  have hB12 := below_thru hB11 hb12
  have hR1 := hR1.of hb12
  clear hB11 hb12 hR11
  go_wp2_with fail
  have hl := rd_lit w12 [0, 2, 5, 7] #[.int .i64 0, .int .i64 2, .int .i64 5, .int .i64 7] 4 rfl (by omega) rfl
  have hsame := ref_SameI _ _ 4 4 c12 4 _ _ _ (hR12.of ((Below.refl w12.heap.size w12).alloc (Nat.le_refl _) _)) hl (by omega)
  rw [show sameL [(0 : Int), 2, 5, 7] [0, 2, 5, 7] = true from rfl] at hsame
  go_at_call 27
  refine hsame.mono ?_
  rintro e w13 ⟨rfl, hb13⟩
  have hB13 := below_thruA hB12 hb13
  have hR1 := hR1.of (below_thruA (Below.refl _ _) hb13)
  clear hB12 hb13 hR12 hl
  have hl := rd_litP w13 [(1, 0)] #[.int .i64 1, .int .i64 0] 1 rfl (by omega) rfl
  have hM0 := (hM.of hB13).of ((Below.refl w13.heap.size w13).alloc (Nat.le_refl _) (.cells #[.int .i64 1, .int .i64 0] 23))
  go_wp2_with fail
  go_at_call 43
  refine (symsO _ _ _ hM0 hl).mono ?_
  rintro e w14 ⟨A14, c14, rfl, hR14, hb14⟩
  have hB14 := below_thruA hB13 hb14
  have hR1 := hR1.of (below_thruA (Below.refl _ _) hb14)
  clear hB13 hb14 hl hM0
  go_wp2_with fail
  have hl := rd_lit w14 [0, 6] #[.int .i64 0, .int .i64 6] 2 rfl (by omega) rfl
  have hsame := ref_SameI _ _ 2 2 c14 2 _ _ _ (hR14.of ((Below.refl w14.heap.size w14).alloc (Nat.le_refl _) _)) hl (by omega)
  rw [show sameL [(0 : Int), 6] [0, 6] = true from rfl] at hsame
  go_at_call 27
  refine hsame.mono ?_
  rintro e w15 ⟨rfl, hb15⟩
  have hB15 := below_thruA hB14 hb15
  have hR1 := hR1.of (below_thruA (Below.refl _ _) hb15)
  clear hB14 hb15 hR14 hl
  go_wp2_with fail
  go_at_call 33
  refine (neu1V _).mono ?_
  rintro e w16 ⟨A16, c16, rfl, hR16, hb16⟩
  have hB16 := below_thru hB15 hb16
  have hR1 := hR1.of hb16
  clear hB15 hb16
  go_wp2_with fail
  have hsame := hood_Same _ _ 5 5 c1 c16 _ _ _ hR1 hR16 (by omega)
  rw [show sameL neuOne neuOne = true from rfl] at hsame
  go_at_call 48
  refine hsame.mono ?_
  rintro e w17 ⟨rfl, hb17⟩
  have hB17 := below_thru hB16 hb17
  have hR1 := hR1.of hb17
  clear hB16 hb17 hR16
  go_wp2_with fail
  go_at_call 37
  refine (hexV _).mono ?_
  rintro e w18 ⟨A18, c18, rfl, hR18, hb18⟩
  have hB18 := below_thru hB17 hb18
  have hR1 := hR1.of hb18
  clear hB17 hb18
  go_wp2_with fail
  have hsame := hood_Same _ _ 5 7 c1 c18 _ _ _ hR1 hR18 (by omega)
  rw [show sameL neuOne (sqL hexB 1) = false by decide +kernel] at hsame
  go_at_call 48
  refine hsame.mono ?_
  rintro e w19 ⟨rfl, hb19⟩
  have hB19 := below_thru hB18 hb19
  go_wp2_with fail
  go_ret
  exact ⟨rfl, hB19⟩
end Go.Proofs.YtobbkclfbbblaaaDoor
