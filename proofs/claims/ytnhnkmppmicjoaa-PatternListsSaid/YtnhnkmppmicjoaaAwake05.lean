/- The contract of chapter 05's awake. -/
import Derived.Test.YtnhnkmppmicjoaaCellS
namespace Go.Proofs.Ytnhnkmppmicjoaa
open Go Go.RowKit
set_option linter.unusedSimpArgs false
set_option linter.unusedVariables false
set_option maxRecDepth 100000
attribute [local go_sem ↓ high] eq_cl neq_cl eq_pt neq_pt eq_box neq_box
def wantE : List (Int × Int × Int) := [(0, 0, 2), (1, 1, 1)]
def wantF : List (Int × Int × Int) := [(1, 1, 1)]
theorem boxV05 (A : Option Addr) (c : Nat) (w : World) (hR : Rd encC 3 w A 2 wantE) : Calls Try.prog 37 #[.slice A 2 c] w fun e w' => e = .returned (.tuple #[.agg #[.int .i64 0, .int .i64 0, .int .i64 2, .int .i64 2], .bool true]) ∧ Below w.heap.size w w' := by
  have h := pat_Box A 2 c wantE w hR (by omega)
  unfold bxVal arVal at h
  rw [show arX (bxPos wantE) = 0 by decide +kernel, show arY (bxPos wantE) = 0 by decide +kernel, show arW (bxPos wantE) = 2 by decide +kernel, show arH (bxPos wantE) = 2 by decide +kernel, show arOk (bxPos wantE) = true by decide +kernel] at h
  exact h
theorem topV05 (A : Option Addr) (c : Nat) (w : World) (hR : Rd encC 3 w A 2 wantE) : Calls Try.prog 47 #[.slice A 2 c] w fun e w' => e = .returned (.int .i64 2) ∧ Below w.heap.size w w' := by
  have h := pat_Top A 2 c wantE w hR (by omega)
  rwa [show topC wantE = 2 by decide +kernel] at h
theorem cmpV05 (A B : Option Addr) (c d : Nat) (w : World) (hR : Rd encC 3 w A 1 (wantE.take 1)) (hS : Rd encC 3 w B 2 wantE) : Calls Try.prog 45 #[.slice A 1 c, .slice B 2 d] w fun e w' => e = .returned (.int .i64 (-1)) ∧ Below w.heap.size w w' := by
  have h := pat_Compare A B 1 2 c d _ _ w hR hS (by omega) (by omega)
  rwa [show cmpL (wantE.take 1) wantE = -1 by decide +kernel] at h
theorem getV05 (A : Option Addr) (c : Nat) (w : World) (hR : Rd encC 3 w A 2 wantE) : Calls Try.prog 41 #[.slice A 2 c, .int .i64 1, .int .i64 1] w fun e w' => e = .returned (.int .i64 1) ∧ Below w.heap.size w w' := by
  have h := pat_Get A 2 c wantE 1 1 w hR (by omega)
  rwa [show getC wantE 1 1 = 1 by decide +kernel] at h
theorem pat_SameV {l r : List (Int × Int × Int)} {q : Bool} (hq : sameL l r = q) (A B : Option Addr) (n m c d : Nat) (w : World) (hR : Rd encC 3 w A n l) (hS : Rd encC 3 w B m r) (hn : n ≤ 1000000) :
    Calls Try.prog 43 #[.slice A n c, .slice B m d] w fun e w' => e = .returned (.bool q) ∧ Below w.heap.size w w' := by
  rw [← hq]; exact pat_Same A B n m c d l r w hR hS hn
set_option maxHeartbeats 8000000 in
theorem awake_05 (w : World) : Calls Try.prog 36 #[] w fun e w' => e = .returned (.bool true) ∧ Below w.heap.size w w' := by
  go_enter Try.func36, Try.ntmps36
  go_wp2_with fail; go_at_call 49; refine (pat_FromV (l := [(1, 1, 1), (0, 0, 2)]) (r := wantE) (q := 0) (m := 2) (by decide +kernel) (by decide +kernel) rfl _ _ _ _ (rd_litC w [(1, 1, 1), (0, 0, 2)] #[.int .i64 1, .int .i64 1, .int .i64 1, .int .i64 0, .int .i64 0, .int .i64 2] 2 rfl (by omega) rfl) (by omega)).mono ?_; rintro e w1 ⟨A1, c1, rfl, hR1, hb1⟩; have hs1 := hb1.size; (try simp only [World.size_alloc, World.size_drew, World.size_setCell] at hs1)
  go_wp2_with fail; go_at_call 49; refine (pat_FromV (l := [(0, 0, 1), (0, 0, 2)]) (r := []) (q := 8) (m := 0) (by decide +kernel) (by decide +kernel) rfl _ _ _ _ (rd_litC w1 [(0, 0, 1), (0, 0, 2)] #[.int .i64 0, .int .i64 0, .int .i64 1, .int .i64 0, .int .i64 0, .int .i64 2] 2 rfl (by omega) rfl) (by omega)).mono ?_; rintro e w2 ⟨A2, c2, rfl, hR2, hb2⟩; have hs2 := hb2.size; (try simp only [World.size_alloc, World.size_drew, World.size_setCell] at hs2)
  clear hR2
  go_wp2_with fail; go_at_call 49; refine (pat_FromV (l := [(0, 0, 8)]) (r := []) (q := 10) (m := 0) (by decide +kernel) (by decide +kernel) rfl _ _ _ _ (rd_litC w2 [(0, 0, 8)] #[.int .i64 0, .int .i64 0, .int .i64 8] 1 rfl (by omega) rfl) (by omega)).mono ?_; rintro e w3 ⟨A3, c3, rfl, hR3, hb3⟩; have hs3 := hb3.size; (try simp only [World.size_alloc, World.size_drew, World.size_setCell] at hs3)
  clear hR3
  go_wp2_with fail; go_at_call 53; refine (pat_ShiftV (l := [(1048576, 0, 1)]) (r := []) (q := 5) (m := 0) (by decide +kernel) (by decide +kernel) rfl _ _ _ _ (rd_litC w3 [(1048576, 0, 1)] #[.int .i64 1048576, .int .i64 0, .int .i64 1] 1 rfl (by omega) rfl) (by omega)).mono ?_; rintro e w4 ⟨A4, c4, rfl, hR4, hb4⟩; have hs4 := hb4.size; (try simp only [World.size_alloc, World.size_drew, World.size_setCell] at hs4)
  clear hR4
  have hR1 : Rd encC 3 w4 A1 2 wantE := hR1.of (by (repeat' (first | exact Below.refl _ _ | assumption | (refine Below.alloc ?_ ?_ _) | (refine Below.setCell ?_ ?_ _) | (refine Below.drew ?_) | (refine below_drewN ?_ _) | (refine below_after (Ext.below _) ?_ ?_) | (refine below_after (by assumption) ?_ ?_) | (simp; done) | omega | (simp; omega))))
  go_wp2_with fail; go_at_call 51; refine (pat_SetV (l := wantE) (r := wantF) (q := 0) (m := 1) (by decide +kernel) (by decide +kernel) rfl _ _ _ _ hR1 (by omega)).mono ?_; rintro e w5 ⟨A5, c5, rfl, hR5, hb5⟩; have hs5 := hb5.size; (try simp only [World.size_alloc, World.size_drew, World.size_setCell] at hs5)
  have hR1 := hR1.of hb5
  go_wp2_with fail; go_at_call 37; refine (boxV05 _ _ _ hR1).mono ?_; rintro e w6 ⟨rfl, hb6⟩; have hs6 := hb6.size; (try simp only [World.size_alloc, World.size_drew, World.size_setCell] at hs6)
  have xb := BoxAt.new w6 0 0 2 2 31
  have hR1 : Rd encC 3 ((w6.alloc (.cells #[.int .i64 0, .int .i64 0, .int .i64 2, .int .i64 2] 31)).alloc (.cells #[.int .i64 0, .int .i64 0, .int .i64 2, .int .i64 1, .int .i64 1, .int .i64 1] 50)) A1 2 wantE := (hR1.of hb6).of (by (repeat' (first | exact Below.refl _ _ | assumption | (refine Below.alloc ?_ ?_ _) | (refine Below.setCell ?_ ?_ _) | (refine Below.drew ?_) | (refine below_drewN ?_ _) | (refine below_after (Ext.below _) ?_ ?_) | (refine below_after (by assumption) ?_ ?_) | (simp; done) | omega | (simp; omega))))
  have hR5 : Rd encC 3 ((w6.alloc (.cells #[.int .i64 0, .int .i64 0, .int .i64 2, .int .i64 2] 31)).alloc (.cells #[.int .i64 0, .int .i64 0, .int .i64 2, .int .i64 1, .int .i64 1, .int .i64 1] 50)) A5 1 wantF := (hR5.of hb6).of (by (repeat' (first | exact Below.refl _ _ | assumption | (refine Below.alloc ?_ ?_ _) | (refine Below.setCell ?_ ?_ _) | (refine Below.drew ?_) | (refine below_drewN ?_ _) | (refine below_after (Ext.below _) ?_ ?_) | (refine below_after (by assumption) ?_ ?_) | (simp; done) | omega | (simp; omega))))
  have hL := rd_litC (w6.alloc (.cells #[.int .i64 0, .int .i64 0, .int .i64 2, .int .i64 2] 31)) wantE #[.int .i64 0, .int .i64 0, .int .i64 2, .int .i64 1, .int .i64 1, .int .i64 1] 2 rfl (by omega) rfl
  rw [World.size_alloc] at hL
  have hB6 : Below w.heap.size w w6 := by (repeat' (first | exact Below.refl _ _ | assumption | (refine Below.alloc ?_ ?_ _) | (refine Below.setCell ?_ ?_ _) | (refine Below.drew ?_) | (refine below_drewN ?_ _) | (refine below_after (Ext.below _) ?_ ?_) | (refine below_after (by assumption) ?_ ?_) | (simp; done) | omega | (simp; omega)))
  clear hb1 hb2 hb3 hb4 hb5 hb6 hs1 hs2 hs3 hs4 hs5 hs6
  have hs0 := hB6.size
  go_wp2_with fail; go_at_call 44; refine (ref05_SameV (sameL_self wantE) _ _ _ _ _ _ _ hR1 hL (by omega) (by omega)).mono ?_; rintro e w7 ⟨rfl, hb7⟩; have hs7 := hb7.size; (try simp only [World.size_alloc, World.size_drew, World.size_setCell] at hs7); obtain ⟨hc7, hf7⟩ := bcell hb7; (try simp only [World.size_alloc, World.size_setCell, World.size_drew] at hc7 hf7)
  have hL7 := hL.of hb7
  have hR5 := hR5.of hb7
  have hT := hL7.drop (i := 1) (by omega)
  go_wp2_with fail; go_at_call 44; refine (ref05_SameV (sameL_self wantF) _ _ _ _ _ _ _ hR5 hT (by omega) (by omega)).mono ?_; rintro e w8 ⟨rfl, hb8⟩; have hs8 := hb8.size; (try simp only [World.size_alloc, World.size_drew, World.size_setCell] at hs8); obtain ⟨hc8, hf8⟩ := bcell hb8; (try simp only [World.size_alloc, World.size_setCell, World.size_drew] at hc8 hf8)
  have hL8 := hL7.of hb8
  go_wp2_with fail; go_at_call 47; refine (topV05 _ _ _ hL8).mono ?_; rintro e w9 ⟨rfl, hb9⟩; have hs9 := hb9.size; (try simp only [World.size_alloc, World.size_drew, World.size_setCell] at hs9); obtain ⟨hc9, hf9⟩ := bcell hb9; (try simp only [World.size_alloc, World.size_setCell, World.size_drew] at hc9 hf9)
  have hL9 := hL8.of hb9
  go_wp2_with fail; go_at_call 45; refine (cmpV05 _ _ _ _ _ (hL9.take (i := 1) (by omega)) hL9).mono ?_; rintro e w10 ⟨rfl, hb10⟩; have hs10 := hb10.size; (try simp only [World.size_alloc, World.size_drew, World.size_setCell] at hs10); obtain ⟨hc10, hf10⟩ := bcell hb10; (try simp only [World.size_alloc, World.size_setCell, World.size_drew] at hc10 hf10)
  have hL10 := hL9.of hb10
  go_wp2_with fail; go_at_call 41; refine (getV05 _ _ _ hL10).mono ?_; rintro e w11 ⟨rfl, hb11⟩; have hs11 := hb11.size; (try simp only [World.size_alloc, World.size_drew, World.size_setCell] at hs11); obtain ⟨hc11, hf11⟩ := bcell hb11; (try simp only [World.size_alloc, World.size_setCell, World.size_drew] at hc11 hf11)
  have hL11 := hL10.of hb11
  go_wp2_with fail; go_at_call 39; refine (pat_RightV (show rightC wantE = true by decide +kernel) _ hL11 (by omega)).mono ?_; rintro e w12 ⟨rfl, hb12⟩; have hs12 := hb12.size; (try simp only [World.size_alloc, World.size_drew, World.size_setCell] at hs12); obtain ⟨hc12, hf12⟩ := bcell hb12; (try simp only [World.size_alloc, World.size_setCell, World.size_drew] at hc12 hf12)
  have hL12 : Rd encC 3 (w12.alloc (.cells #[.int .i64 0, .int .i64 0, .int .i64 0] 50)) _ _ _ := (hL11.of hb12).of (by (repeat' (first | exact Below.refl _ _ | assumption | (refine Below.alloc ?_ ?_ _) | (refine Below.setCell ?_ ?_ _) | (refine Below.drew ?_) | (refine below_drewN ?_ _) | (refine below_after (Ext.below _) ?_ ?_) | (refine below_after (by assumption) ?_ ?_) | (simp; done) | omega | (simp; omega))))
  go_wp2_with fail; go_at_call 39; refine (pat_RightV (show rightC [(0, 0, 0)] = false by decide +kernel) _ (rd_litC w12 [(0, 0, 0)] #[.int .i64 0, .int .i64 0, .int .i64 0] 1 rfl (by omega) rfl) (by omega)).mono ?_; rintro e w13 ⟨rfl, hb13⟩; have hs13 := hb13.size; (try simp only [World.size_alloc, World.size_drew, World.size_setCell] at hs13); obtain ⟨hc13, hf13⟩ := bcell hb13; (try simp only [World.size_alloc, World.size_setCell, World.size_drew] at hc13 hf13)
  have hL13 := hL12.of hb13
  go_wp2_with fail; go_at_call 43; refine (pat_SameV (sameL_self wantE) _ _ _ _ _ _ _ hL13 hL13 (by omega)).mono ?_; rintro e w14 ⟨rfl, hb14⟩; have hs14 := hb14.size; (try simp only [World.size_alloc, World.size_drew, World.size_setCell] at hs14); obtain ⟨hc14, hf14⟩ := bcell hb14; (try simp only [World.size_alloc, World.size_setCell, World.size_drew] at hc14 hf14)
  go_wp2_with fail
  go_ret
  exact ⟨rfl, by (repeat' (first | exact Below.refl _ _ | assumption | (refine Below.alloc ?_ ?_ _) | (refine Below.setCell ?_ ?_ _) | (refine Below.drew ?_) | (refine below_drewN ?_ _) | (refine below_after (Ext.below _) ?_ ?_) | (refine below_after (by assumption) ?_ ?_) | (simp; done) | omega | (simp; omega)))⟩
end Go.Proofs.Ytnhnkmppmicjoaa
