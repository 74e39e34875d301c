/- The reference's grids at a torus of 32 by 32: Size, Right, Pattern; the laws' near. -/
import Derived.Test.YtellglbmbocgkaaGreatDoorTorA
import Derived.Test.YtellglbmbocgkaaGreatDoorTorP
import Derived.Test.YtellglbmbocgkaaGreatDoorCEL
import Derived.Test.YtellglbmbocgkaaGreatDoorMEM
namespace Go.Proofs.YtellglbmbocgkaaGreatDoor
open Go Go.RowKit
set_option linter.unusedSimpArgs false
set_option linter.unusedVariables false
set_option maxRecDepth 100000
set_option linter.unusedSimpArgs false
set_option linter.unusedVariables false
theorem r21_Size (w : World) : Calls Tryz.prog 45 #[.int .i64 32, .int .i64 32, .int .i64 1] w fun e w' => e = .returned (.bool true) ∧ Below w.heap.size w w' := by
  go_enter Tryz.func45, Tryz.ntmps45
  go_wp2_with fail
  go_ret
  exact ⟨rfl, by (repeat' (first | exact Below.refl _ _ | assumption | (refine Below.alloc ?_ ?_ _) | (refine Below.setCell ?_ ?_ _) | (refine Below.drew ?_) | (refine below_drewN ?_ _) | (refine below_after (Ext.below _) ?_ ?_) | (refine below_after (by assumption) ?_ ?_) | (simp; done) | omega | (simp; omega)))⟩
section
variable (A : Option Addr) (c : Nat) (g : List Int) (w : World)
set_option maxHeartbeats 4000000 in
theorem r21_Right (hR : Rd encI 1 w A 1024 g) (hg : OkG 8 g) :
    Calls Tryz.prog 48 #[.agg #[.int .i64 32, .int .i64 32, .int .i64 1, .slice A 1024 c]] w fun e w' => e = .returned (.bool true) ∧ Below w.heap.size w w' := by
  have hall := Lib.hid hg.st
  go_enter Tryz.func48, Tryz.ntmps48
  go_wp2_with fail
  have hbx := BxW.new w [.int .i64 32, .int .i64 32, .int .i64 1, .slice A 1024 c] 56
  rw [arr4T] at hbx
  have hbe : Below w.heap.size w (w.alloc (.cells #[.int .i64 32, .int .i64 32, .int .i64 1, .slice A 1024 c] 56)) := (Below.refl _ _).alloc (Nat.le_refl _) _
  obtain ⟨we, hwe⟩ : ∃ we, we = w.alloc (.cells #[.int .i64 32, .int .i64 32, .int .i64 1, .slice A 1024 c] 56) := ⟨_, rfl⟩
  rw [← hwe] at hbx hbe ⊢
  clear hwe
  obtain ⟨hbl, g0, g1, g2, g3, _⟩ := hbx.open4
  go_wp2_with fail; go_at_call 45; refine (r21_Size _).mono ?_; rintro e w1 ⟨rfl, hb1⟩; have hs1 := hb1.size; (try simp only [World.size_alloc, World.size_drew, World.size_setCell] at hs1)
  have hbx1 := hbx.of hb1
  have hB1 := hbe.trans (hb1.mono hbe.size)
  have hR1 := hR.of hB1
  obtain ⟨hbl1, f0, f1, f2, f3, _⟩ := hbx1.open4
  go_wp2_with fail
  go_loopw [3] (fun t wr => ∃ j : Nat, j ≤ 1024 ∧ t = .int .i64 j ∧ Below w1.heap.size w1 wr) (fun t _ => 1024 - (intOf t).toNat)
  case atStart => exact ⟨0, by omega, rfl, Below.refl _ _⟩
  case round =>
    obtain ⟨j, hj, rfl, hb0⟩ := hrel
    have hsz := hb0.size
    obtain ⟨_, x0, x1, x2, x3, _⟩ := (hbx1.of hb0).open4
    by_cases hlt : j < 1024
    · have dj : decide ((j : Int) < 1024) = true := decide_eq_true (by omega)
      have dj' : decide (j < 1024) = true := decide_eq_true hlt
      obtain ⟨x, b, o, hx, rfl, hblk, gv⟩ := (hR1.of hb0).int hlt
      have hxx := hall.out x (List.mem_of_getElem? hx.out)
      have e1 : decide (x < 0) = false := decide_eq_false (by omega)
      have e2 : decide (8 ≤ x) = false := decide_eq_false (by omega)
      have e3 : decide (x ≥ 8) = false := decide_eq_false (by omega)
      clear hxx
      go_wp2_with fail
      go_roundw
      case rel => exact ⟨j + 1, by omega, by go_num, by (repeat' (first | exact Below.refl _ _ | assumption | (refine Below.alloc ?_ ?_ _) | (refine Below.setCell ?_ ?_ _) | (refine Below.drew ?_) | (refine below_drewN ?_ _) | (refine below_after (Ext.below _) ?_ ?_) | (refine below_after (by assumption) ?_ ?_) | (simp; done) | omega | (simp; omega)))⟩
      case measure => simp [intOf]; omega
    · have dj : decide ((j : Int) < 1024) = false := decide_eq_false (by omega)
      have dj' : decide (j < 1024) = false := decide_eq_false hlt
      go_wp2_with fail
      go_ret
      exact ⟨rfl, hB1.trans (hb0.mono hB1.size)⟩
end
/-- All cells are within 4 of the origin. -/
def nearB (p : List (Int × Int × Int)) : Bool := p.all fun c => decide ((-4 ≤ c.1 ∧ c.1 ≤ 4) ∧ -4 ≤ c.2.1 ∧ c.2.1 ≤ 4)
theorem nearB_no {p : List (Int × Int × Int)} {i : Nat} {c : Int × Int × Int} (hc : p[i]? = some c) (h : ¬ ((-4 ≤ c.1 ∧ c.1 ≤ 4) ∧ -4 ≤ c.2.1 ∧ c.2.1 ≤ 4)) : nearB p = false := by
  cases e : nearB p with
  | false => rfl
  | true => exact absurd (of_decide_eq_true (List.all_eq_true.1 e c (List.mem_of_getElem? hc))) h
theorem nearB_yes {p : List (Int × Int × Int)} {n : Nat} (hl : p.length = n) (h : ∀ (i : Nat) c, i < n → p[i]? = some c → (-4 ≤ c.1 ∧ c.1 ≤ 4) ∧ -4 ≤ c.2.1 ∧ c.2.1 ≤ 4) : nearB p = true := by
  unfold nearB
  rw [List.all_eq_true]
  intro c hc
  obtain ⟨i, hi, rfl⟩ := List.getElem_of_mem hc
  exact decide_eq_true (h i _ (by omega) (List.getElem?_eq_getElem hi))
theorem near_of {p : List (Int × Int × Int)} (h : nearB p = true) : nearL 4 p := fun c hc => of_decide_eq_true (List.all_eq_true.1 h c hc)
set_option maxHeartbeats 4000000 in
theorem top_near (P : Option Addr) (k e : Nat) (p : List (Int × Int × Int)) (w : World) (hR : Rd encC 3 w P k p) (hk : k ≤ 1000000) :
    Calls Tryz.prog 15 #[.slice P k e, .int .i64 4] w fun e' w' => e' = .returned (.bool (nearB p)) ∧ Below w.heap.size w w' := by
  have hRl := Lib.hid hR.len
  go_enter Tryz.func15, Tryz.ntmps15
  go_wp2_with fail
  go_loopw [8] (fun t wr => ∃ j : Nat, j ≤ k ∧ t = .int .i64 j ∧ Hid (∀ (i : Nat) c, i < j → p[i]? = some c → (-4 ≤ c.1 ∧ c.1 ≤ 4) ∧ -4 ≤ c.2.1 ∧ c.2.1 ≤ 4) ∧ Below w.heap.size w wr) (fun t _ => k - (intOf t).toNat)
  case atStart => exact ⟨0, by omega, rfl, Lib.hid (fun i c hi => by omega), Below.refl _ _⟩
  case round =>
    obtain ⟨j, hj, rfl, hok, hb0⟩ := hrel
    have hsz := hb0.size
    by_cases hlt : j < k
    · have dj : decide ((j : Int) < k) = true := decide_eq_true (by omega)
      have dj' : decide (j < k) = true := decide_eq_true hlt
      obtain ⟨x, y, s, b, o, hx, rfl, hblk, g1, g2, g3⟩ := (hR.of hb0).cell hlt
      have hnext := Lib.hid (fun (h : (-4 ≤ x ∧ x ≤ 4) ∧ -4 ≤ y ∧ y ≤ 4) => show ∀ (i : Nat) c, i < j + 1 → p[i]? = some c → (-4 ≤ c.1 ∧ c.1 ≤ 4) ∧ -4 ≤ c.2.1 ∧ c.2.1 ≤ 4 from fun i c hi hc => by
        by_cases ei : i = j
        · rw [ei, hx.out] at hc; injection hc with hc; subst hc; exact h
        · exact hok.out i c (by omega) hc)
      have hno := Lib.hid (fun (h : ¬ ((-4 ≤ x ∧ x ≤ 4) ∧ -4 ≤ y ∧ y ≤ 4)) => nearB_no (c := (x, y, s)) hx.out h)
      have hways : (decide (x < -4) = true ∧ ¬ ((-4 ≤ x ∧ x ≤ 4) ∧ -4 ≤ y ∧ y ≤ 4)) ∨ (decide (x < -4) = false ∧ decide (4 < x) = true ∧ ¬ ((-4 ≤ x ∧ x ≤ 4) ∧ -4 ≤ y ∧ y ≤ 4)) ∨ (decide (x < -4) = false ∧ decide (4 < x) = false ∧ decide (y < -4) = true ∧ ¬ ((-4 ≤ x ∧ x ≤ 4) ∧ -4 ≤ y ∧ y ≤ 4)) ∨ (decide (x < -4) = false ∧ decide (4 < x) = false ∧ decide (y < -4) = false ∧ decide (4 < y) = true ∧ ¬ ((-4 ≤ x ∧ x ≤ 4) ∧ -4 ≤ y ∧ y ≤ 4)) ∨ (decide (x < -4) = false ∧ decide (4 < x) = false ∧ decide (y < -4) = false ∧ decide (4 < y) = false ∧ ((-4 ≤ x ∧ x ≤ 4) ∧ -4 ≤ y ∧ y ≤ 4)) := by
        simp only [decide_eq_true_eq, decide_eq_false_iff_not]; omega
      clear hx
      rcases hways with ⟨d1, hq⟩ | ⟨d1, d2, hq⟩ | ⟨d1, d2, d3, hq⟩ | ⟨d1, d2, d3, d4, hq⟩ | ⟨d1, d2, d3, d4, hq⟩
      · have hE := Lib.hid (hno.out hq)
        clear hq
        go_wp2_with fail
        go_ret
        exact ⟨ret_bool hE.out.symm, by (repeat' (first | exact Below.refl _ _ | assumption | (refine Below.alloc ?_ ?_ _) | (refine Below.setCell ?_ ?_ _) | (refine Below.drew ?_) | (refine below_drewN ?_ _) | (refine below_after (Ext.below _) ?_ ?_) | (refine below_after (by assumption) ?_ ?_) | (simp; done) | omega | (simp; omega)))⟩
      · have hE := Lib.hid (hno.out hq)
        clear hq
        go_wp2_with fail
        go_ret
        exact ⟨ret_bool hE.out.symm, by (repeat' (first | exact Below.refl _ _ | assumption | (refine Below.alloc ?_ ?_ _) | (refine Below.setCell ?_ ?_ _) | (refine Below.drew ?_) | (refine below_drewN ?_ _) | (refine below_after (Ext.below _) ?_ ?_) | (refine below_after (by assumption) ?_ ?_) | (simp; done) | omega | (simp; omega)))⟩
      · have hE := Lib.hid (hno.out hq)
        clear hq
        go_wp2_with fail
        go_ret
        exact ⟨ret_bool hE.out.symm, by (repeat' (first | exact Below.refl _ _ | assumption | (refine Below.alloc ?_ ?_ _) | (refine Below.setCell ?_ ?_ _) | (refine Below.drew ?_) | (refine below_drewN ?_ _) | (refine below_after (Ext.below _) ?_ ?_) | (refine below_after (by assumption) ?_ ?_) | (simp; done) | omega | (simp; omega)))⟩
      · have hE := Lib.hid (hno.out hq)
        clear hq
        go_wp2_with fail
        go_ret
        exact ⟨ret_bool hE.out.symm, by (repeat' (first | exact Below.refl _ _ | assumption | (refine Below.alloc ?_ ?_ _) | (refine Below.setCell ?_ ?_ _) | (refine Below.drew ?_) | (refine below_drewN ?_ _) | (refine below_after (Ext.below _) ?_ ?_) | (refine below_after (by assumption) ?_ ?_) | (simp; done) | omega | (simp; omega)))⟩
      · have hE := Lib.hid (hnext.out hq)
        clear hq
        go_wp2_with fail
        go_roundw
        case rel => exact ⟨j + 1, by omega, by go_num, hE, by (repeat' (first | exact Below.refl _ _ | assumption | (refine Below.alloc ?_ ?_ _) | (refine Below.setCell ?_ ?_ _) | (refine Below.drew ?_) | (refine below_drewN ?_ _) | (refine below_after (Ext.below _) ?_ ?_) | (refine below_after (by assumption) ?_ ?_) | (simp; done) | omega | (simp; omega)))⟩
        case measure => simp [intOf]; omega
    · obtain rfl : j = k := by omega
      have dj : decide ((j : Int) < j) = false := decide_eq_false (by omega)
      have dj' : decide (j < j) = false := decide_eq_false hlt
      have hE := Lib.hid (nearB_yes hRl.out hok.out)
      go_wp2_with fail
      go_ret
      exact ⟨ret_bool hE.out.symm, by (repeat' (first | exact Below.refl _ _ | assumption | (refine Below.alloc ?_ ?_ _) | (refine Below.setCell ?_ ?_ _) | (refine Below.drew ?_) | (refine below_drewN ?_ _) | (refine below_after (Ext.below _) ?_ ?_) | (refine below_after (by assumption) ?_ ?_) | (simp; done) | omega | (simp; omega)))⟩
end Go.Proofs.YtellglbmbocgkaaGreatDoor
