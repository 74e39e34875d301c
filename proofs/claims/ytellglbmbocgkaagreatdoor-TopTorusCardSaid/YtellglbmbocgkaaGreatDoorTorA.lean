/- The program's grids at a torus of 32 by 32: Right, the rule's test, Get. By mktorg.py. -/
import Derived.Test.YtellglbmbocgkaaGreatDoorTorN
import Derived.Test.YtellglbmbocgkaaGreatDoorBxP
import Derived.Test.YtellglbmbocgkaaGreatDoorMEM
import Derived.Test.YtellglbmbocgkaaGreatDoorTRE
namespace Go.Proofs.YtellglbmbocgkaaGreatDoor
open Go Go.RowKit
set_option linter.unusedSimpArgs false
set_option linter.unusedVariables false
set_option maxRecDepth 100000
set_option linter.unusedSimpArgs false
set_option linter.unusedVariables false
theorem grid_test (s : Int) (h : 0 ≤ s ∧ s < 8) (w : World) : Calls Tryz.prog 145 #[.int .i64 s] w fun e w' => e = .returned (.bool false) ∧ Below w.heap.size w w' := by
  have d1 : decide (s < 0) = false := decide_eq_false (by omega)
  have d2 : decide (8 ≤ s) = false := decide_eq_false (by omega)
  have d3 : decide (s ≥ 8) = false := decide_eq_false (by omega)
  go_enter Tryz.func145, Tryz.ntmps145
  go_wp2_with fail
  go_ret
  exact ⟨rfl, by (repeat' (first | exact Below.refl _ _ | assumption | (refine Below.alloc ?_ ?_ _) | (refine Below.setCell ?_ ?_ _) | (refine Below.drew ?_) | (refine below_drewN ?_ _) | (refine below_after (Ext.below _) ?_ ?_) | (refine below_after (by assumption) ?_ ?_) | (simp; done) | omega | (simp; omega)))⟩
theorem rule_test (s st : Int) (bt : Nat) (h : s < st) (w : World) (hc : w.cell? ⟨bt, 0, none⟩ = some (.int .i64 st)) (hbt : bt < w.heap.size) : Calls Tryz.prog 88 #[.int .i64 s, .pointer (some ⟨bt, 0, none⟩)] w fun e w' => e = .returned (.bool false) ∧ Below w.heap.size w w' := by
  have d2 : decide (st ≤ s) = false := decide_eq_false (by omega)
  have d3 : decide (s ≥ st) = false := decide_eq_false (by omega)
  go_enter Tryz.func88, Tryz.ntmps88
  go_wp2_with fail
  go_ret
  exact ⟨rfl, by (repeat' (first | exact Below.refl _ _ | assumption | (refine Below.alloc ?_ ?_ _) | (refine Below.setCell ?_ ?_ _) | (refine Below.drew ?_) | (refine below_drewN ?_ _) | (refine below_after (Ext.below _) ?_ ?_) | (refine below_after (by assumption) ?_ ?_) | (simp; done) | omega | (simp; omega)))⟩
set_option maxHeartbeats 4000000 in
theorem indexFunc_gr (A : Option Addr) (n c : Nat) (l : List Int)  (w : World) (hR : Rd encI 1 w A n l) (hn : n ≤ 1000000) (hall : ∀ x ∈ l, 0 ≤ x ∧ x < 8) :
    Calls Tryz.prog 146 #[.slice A n c, .func (.func 145) #[] #[]] w fun e w' => e = .returned (.int .i64 (-1)) ∧ Below w.heap.size w w' := by
  have hall := Lib.hid hall
  go_enter Tryz.func146, Tryz.ntmps146
  go_wp2_with fail
  go_loopw [8] (fun i wr => ∃ j : Nat, j ≤ n ∧ i = .int .i64 j ∧ Below w.heap.size w wr) (fun i _ => n - (intOf i).toNat)
  case atStart => exact ⟨0, by omega, rfl, Below.refl _ _⟩
  case round =>
    obtain ⟨j, hj, rfl, hb0⟩ := hrel
    have hsz := hb0.size
    by_cases hlt : j < n
    · have dj : decide ((j : Int) < n) = true := decide_eq_true (by omega)
      have dj' : decide (j < n) = true := decide_eq_true hlt
      obtain ⟨x, b, o, hx, rfl, hbl, g1⟩ := (hR.of hb0).int hlt
      have hxx := hall.out x (List.mem_of_getElem? hx.out)
      go_wp2_with fail; go_at_call 145; refine (grid_test x hxx _).mono ?_; rintro e w1 ⟨rfl, hb1⟩; have hs1 := hb1.size; (try simp only [World.size_alloc, World.size_drew, World.size_setCell] at hs1)
      go_wp2_with fail
      go_roundw
      case rel => exact ⟨j + 1, by omega, by go_num, by (repeat' (first | exact Below.refl _ _ | assumption | (refine Below.alloc ?_ ?_ _) | (refine Below.setCell ?_ ?_ _) | (refine Below.drew ?_) | (refine below_drewN ?_ _) | (refine below_after (Ext.below _) ?_ ?_) | (refine below_after (by assumption) ?_ ?_) | (simp; done) | omega | (simp; omega)))⟩
      case measure => simp [intOf]; omega
    · have dj : decide ((j : Int) < n) = false := decide_eq_false (by omega)
      have dj' : decide (j < n) = false := decide_eq_false hlt
      go_wp2_with fail
      go_ret
      exact ⟨rfl, by (repeat' (first | exact Below.refl _ _ | assumption | (refine Below.alloc ?_ ?_ _) | (refine Below.setCell ?_ ?_ _) | (refine Below.drew ?_) | (refine below_drewN ?_ _) | (refine below_after (Ext.below _) ?_ ?_) | (refine below_after (by assumption) ?_ ?_) | (simp; done) | omega | (simp; omega)))⟩
theorem containsFunc_gr (A : Option Addr) (n c : Nat) (l : List Int)  (w : World) (hR : Rd encI 1 w A n l) (hn : n ≤ 1000000) (hall : ∀ x ∈ l, 0 ≤ x ∧ x < 8) :
    Calls Tryz.prog 87 #[.slice A n c, .func (.func 145) #[] #[]] w fun e w' => e = .returned (.bool false) ∧ Below w.heap.size w w' := by
  have kI := fun w1 h  => indexFunc_gr A n c l  w1 h hn hall
  go_enter Tryz.func87, Tryz.ntmps87
  go_wp2_with fail; go_at_call 146; refine (kI _ hR ).mono ?_; rintro e w1 ⟨rfl, hb1⟩; have hs1 := hb1.size; (try simp only [World.size_alloc, World.size_drew, World.size_setCell] at hs1)
  go_wp2_with fail
  go_ret
  exact ⟨rfl, by (repeat' (first | exact Below.refl _ _ | assumption | (refine Below.alloc ?_ ?_ _) | (refine Below.setCell ?_ ?_ _) | (refine Below.drew ?_) | (refine below_drewN ?_ _) | (refine below_after (Ext.below _) ?_ ?_) | (refine below_after (by assumption) ?_ ?_) | (simp; done) | omega | (simp; omega)))⟩
set_option maxHeartbeats 4000000 in
theorem indexFunc_gf (A : Option Addr) (n c : Nat) (l : List Int) (st : Int) (bt : Nat) (w : World) (hR : Rd encI 1 w A n l) (hn : n ≤ 1000000) (hall : ∀ x ∈ l, x < st) (hc : w.cell? ⟨bt, 0, none⟩ = some (.int .i64 st)) (hbt : bt < w.heap.size) :
    Calls Tryz.prog 146 #[.slice A n c, .func (.func 88) #[] #[.pointer (some ⟨bt, 0, none⟩)]] w fun e w' => e = .returned (.int .i64 (-1)) ∧ Below w.heap.size w w' := by
  have hall := Lib.hid hall
  go_enter Tryz.func146, Tryz.ntmps146
  go_wp2_with fail
  go_loopw [8] (fun i wr => ∃ j : Nat, j ≤ n ∧ i = .int .i64 j ∧ Below w.heap.size w wr) (fun i _ => n - (intOf i).toNat)
  case atStart => exact ⟨0, by omega, rfl, Below.refl _ _⟩
  case round =>
    obtain ⟨j, hj, rfl, hb0⟩ := hrel
    have hsz := hb0.size
    by_cases hlt : j < n
    · have dj : decide ((j : Int) < n) = true := decide_eq_true (by omega)
      have dj' : decide (j < n) = true := decide_eq_true hlt
      obtain ⟨x, b, o, hx, rfl, hbl, g1⟩ := (hR.of hb0).int hlt
      have hxx := hall.out x (List.mem_of_getElem? hx.out)
      go_wp2_with fail; go_at_call 88; refine (rule_test x st bt hxx _ ((hb0.cell (p := ⟨bt, 0, none⟩) hbt).trans hc) (by omega)).mono ?_; rintro e w1 ⟨rfl, hb1⟩; have hs1 := hb1.size; (try simp only [World.size_alloc, World.size_drew, World.size_setCell] at hs1)
      go_wp2_with fail
      go_roundw
      case rel => exact ⟨j + 1, by omega, by go_num, by (repeat' (first | exact Below.refl _ _ | assumption | (refine Below.alloc ?_ ?_ _) | (refine Below.setCell ?_ ?_ _) | (refine Below.drew ?_) | (refine below_drewN ?_ _) | (refine below_after (Ext.below _) ?_ ?_) | (refine below_after (by assumption) ?_ ?_) | (simp; done) | omega | (simp; omega)))⟩
      case measure => simp [intOf]; omega
    · have dj : decide ((j : Int) < n) = false := decide_eq_false (by omega)
      have dj' : decide (j < n) = false := decide_eq_false hlt
      go_wp2_with fail
      go_ret
      exact ⟨rfl, by (repeat' (first | exact Below.refl _ _ | assumption | (refine Below.alloc ?_ ?_ _) | (refine Below.setCell ?_ ?_ _) | (refine Below.drew ?_) | (refine below_drewN ?_ _) | (refine below_after (Ext.below _) ?_ ?_) | (refine below_after (by assumption) ?_ ?_) | (simp; done) | omega | (simp; omega)))⟩
theorem containsFunc_gf (A : Option Addr) (n c : Nat) (l : List Int) (st : Int) (bt : Nat) (w : World) (hR : Rd encI 1 w A n l) (hn : n ≤ 1000000) (hall : ∀ x ∈ l, x < st) (hc : w.cell? ⟨bt, 0, none⟩ = some (.int .i64 st)) (hbt : bt < w.heap.size) :
    Calls Tryz.prog 87 #[.slice A n c, .func (.func 88) #[] #[.pointer (some ⟨bt, 0, none⟩)]] w fun e w' => e = .returned (.bool false) ∧ Below w.heap.size w w' := by
  have kI := fun w1 h h2 h3 => indexFunc_gf A n c l st bt w1 h hn hall h2 h3
  go_enter Tryz.func87, Tryz.ntmps87
  go_wp2_with fail; go_at_call 146; refine (kI _ hR hc hbt).mono ?_; rintro e w1 ⟨rfl, hb1⟩; have hs1 := hb1.size; (try simp only [World.size_alloc, World.size_drew, World.size_setCell] at hs1)
  go_wp2_with fail
  go_ret
  exact ⟨rfl, by (repeat' (first | exact Below.refl _ _ | assumption | (refine Below.alloc ?_ ?_ _) | (refine Below.setCell ?_ ?_ _) | (refine Below.drew ?_) | (refine below_drewN ?_ _) | (refine below_after (Ext.below _) ?_ ?_) | (refine below_after (by assumption) ?_ ?_) | (simp; done) | omega | (simp; omega)))⟩
theorem grid_sized (w : World) : Calls Tryz.prog 144 #[.int .i64 32, .int .i64 32, .int .i64 1] w fun e w' => e = .returned (.bool true) ∧ Below w.heap.size w w' := by
  go_enter Tryz.func144, Tryz.ntmps144
  go_wp2_with fail
  go_ret
  exact ⟨rfl, by (repeat' (first | exact Below.refl _ _ | assumption | (refine Below.alloc ?_ ?_ _) | (refine Below.setCell ?_ ?_ _) | (refine Below.drew ?_) | (refine below_drewN ?_ _) | (refine below_after (Ext.below _) ?_ ?_) | (refine below_after (by assumption) ?_ ?_) | (simp; done) | omega | (simp; omega)))⟩
theorem arr4T (a b c d : Value) : [a, b, c, d].toArray = #[a, b, c, d] := rfl
section
variable (A : Option Addr) (c : Nat) (g : List Int) (w : World)
set_option maxHeartbeats 4000000 in
theorem grid_Right (hR : Rd encI 1 w A 1024 g) (hg : OkG 8 g) :
    Calls Tryz.prog 86 #[.agg #[.int .i64 32, .int .i64 32, .int .i64 1, .slice A 1024 c]] w fun e w' => e = .returned (.bool true) ∧ Below w.heap.size w w' := by
  have kC := fun w1 h => containsFunc_gr A 1024 c g w1 h (by omega) hg.st
  go_enter Tryz.func86, Tryz.ntmps86
  go_wp2_with fail
  have hbx := BxW.new w [.int .i64 32, .int .i64 32, .int .i64 1, .slice A 1024 c] 56
  rw [arr4T] at hbx
  have hbe : Below w.heap.size w (w.alloc (.cells #[.int .i64 32, .int .i64 32, .int .i64 1, .slice A 1024 c] 56)) := (Below.refl _ _).alloc (Nat.le_refl _) _
  obtain ⟨we, hwe⟩ : ∃ we, we = w.alloc (.cells #[.int .i64 32, .int .i64 32, .int .i64 1, .slice A 1024 c] 56) := ⟨_, rfl⟩
  rw [← hwe] at hbx hbe ⊢
  clear hwe
  have hRe := hR.of hbe
  obtain ⟨hbl, g0, g1, g2, g3, _⟩ := hbx.open4
  go_wp2_with fail; go_at_call 144; refine (grid_sized _).mono ?_; rintro e w1 ⟨rfl, hb1⟩; have hs1 := hb1.size; (try simp only [World.size_alloc, World.size_drew, World.size_setCell] at hs1); obtain ⟨hc1, hf1⟩ := bcell hb1; (try simp only [World.size_alloc, World.size_setCell, World.size_drew] at hc1 hf1)
  have hR1 := hRe.of hb1
  go_wp2_with fail; go_at_call 87; refine (kC _ hR1).mono ?_; rintro e w2 ⟨rfl, hb2⟩; have hs2 := hb2.size; (try simp only [World.size_alloc, World.size_drew, World.size_setCell] at hs2)
  go_wp2_with fail
  go_ret
  exact ⟨rfl, by (repeat' (first | exact Below.refl _ _ | assumption | (refine Below.alloc ?_ ?_ _) | (refine Below.setCell ?_ ?_ _) | (refine Below.drew ?_) | (refine below_drewN ?_ _) | (refine below_after (Ext.below _) ?_ ?_) | (refine below_after (by assumption) ?_ ?_) | (simp; done) | omega | (simp; omega)))⟩
end
theorem grid_modulo (x : Int) (h : -100 ≤ x ∧ x ≤ 100) (w : World) : Calls Tryz.prog 243 #[.int .i64 x, .int .i64 32] w fun e w' => e = .returned (.int .i64 (mdT x : Int)) ∧ Below w.heap.size w w' := by
  have hm := md_eq x h
  obtain ⟨m, hmm⟩ : ∃ m : Int, m = (mdT x : Int) := ⟨_, rfl⟩
  rw [← hmm] at hm ⊢
  clear hmm
  go_enter Tryz.func243, Tryz.ntmps243
  go_wp2_with fail
  go_ret
  exact ⟨rfl, by (repeat' (first | exact Below.refl _ _ | assumption | (refine Below.alloc ?_ ?_ _) | (refine Below.setCell ?_ ?_ _) | (refine Below.drew ?_) | (refine below_drewN ?_ _) | (refine below_after (Ext.below _) ?_ ?_) | (refine below_after (by assumption) ?_ ?_) | (simp; done) | omega | (simp; omega)))⟩
theorem grid_inside (x : Int) (h : -100 ≤ x ∧ x ≤ 100) (w : World) : Calls Tryz.prog 200 #[.int .i64 x, .int .i64 32, .int .i64 1] w fun e w' => e = .returned (.tuple #[.int .i64 (mdT x : Int), .bool true]) ∧ Below w.heap.size w w' := by
  have kM := fun w1 => grid_modulo x h w1
  have hlt := mdT_lt x
  generalize mdT x = m at kM hlt ⊢
  have d0 : decide ((m : Int) < 32) = true := decide_eq_true (by omega)
  have d1 : decide (m < 32) = true := decide_eq_true hlt
  have d2 : decide (0 ≤ (m : Int)) = true := decide_eq_true (by omega)
  have d3 : decide ((m : Int) ≥ 0) = true := decide_eq_true (by omega)
  go_enter Tryz.func200, Tryz.ntmps200
  go_wp2_with fail; go_at_call 243; refine (kM _).mono ?_; rintro e w1 ⟨rfl, hb1⟩; have hs1 := hb1.size; (try simp only [World.size_alloc, World.size_drew, World.size_setCell] at hs1)
  go_wp2_with fail
  refine bodyPost_ret (v := .tuple #[.int .i64 (m : Int), .bool true]) (by simp [results, Tryz.results200, go_sem, *, ↓IntWalk.iteOmega]) rfl ?_
  exact ⟨rfl, by (repeat' (first | exact Below.refl _ _ | assumption | (refine Below.alloc ?_ ?_ _) | (refine Below.setCell ?_ ?_ _) | (refine Below.drew ?_) | (refine below_drewN ?_ _) | (refine below_after (Ext.below _) ?_ ?_) | (refine below_after (by assumption) ?_ ?_) | (simp; done) | omega | (simp; omega)))⟩
section
variable (A : Option Addr) (c : Nat) (g : List Int) (w : World)
set_option maxHeartbeats 4000000 in
theorem grid_Get (x y : Int) (hx : -100 ≤ x ∧ x ≤ 100) (hy : -100 ≤ y ∧ y ≤ 100) (hR : Rd encI 1 w A 1024 g) (hg : OkG 8 g) :
    Calls Tryz.prog 147 #[.agg #[.int .i64 32, .int .i64 32, .int .i64 1, .slice A 1024 c], .int .i64 x, .int .i64 y] w fun e w' => e = .returned (.int .i64 (g.getD (mdT y * 32 + mdT x) 0)) ∧ Below w.heap.size w w' := by
  have kR := fun w1 h => grid_Right A c g w1 h hg
  have kX := fun w1 => grid_inside x hx w1
  have kY := fun w1 => grid_inside y hy w1
  have hltx := mdT_lt x
  have hlty := mdT_lt y
  have hlen := Lib.hid hg.len
  generalize mdT x = m at kX hltx ⊢
  generalize mdT y = k at kY hlty ⊢
  obtain ⟨i, hi⟩ : ∃ i : Nat, i = k * 32 + m := ⟨_, rfl⟩
  have ei : (k : Int) * 32 + (m : Int) = (i : Int) := by omega
  have hi2 : i < 1024 := by omega
  rw [← hi]
  clear hg hi
  go_enter Tryz.func147, Tryz.ntmps147
  go_wp2_with fail
  have hbx := BxW.new w [.int .i64 32, .int .i64 32, .int .i64 1, .slice A 1024 c] 56
  rw [arr4T] at hbx
  have hbe : Below w.heap.size w (w.alloc (.cells #[.int .i64 32, .int .i64 32, .int .i64 1, .slice A 1024 c] 56)) := (Below.refl _ _).alloc (Nat.le_refl _) _
  obtain ⟨we, hwe⟩ : ∃ we, we = w.alloc (.cells #[.int .i64 32, .int .i64 32, .int .i64 1, .slice A 1024 c] 56) := ⟨_, rfl⟩
  rw [← hwe] at hbx hbe ⊢
  clear hwe
  have hRe := hR.of hbe
  have hb := hbx.open4
  obtain ⟨hbl, g0, g1, g2, g3, _⟩ := hb
  go_wp2_with fail; go_at_call 86; refine (kR _ hRe).mono ?_; rintro e w1 ⟨rfl, hb1⟩; have hs1 := hb1.size; (try simp only [World.size_alloc, World.size_drew, World.size_setCell] at hs1)
  obtain ⟨hbl1, f0, f1, f2, f3, _⟩ := (hbx.of hb1).open4
  go_wp2_with fail; go_at_call 200; refine (kX _).mono ?_; rintro e w2 ⟨rfl, hb2⟩; have hs2 := hb2.size; (try simp only [World.size_alloc, World.size_drew, World.size_setCell] at hs2)
  have hbx2 := (hbx.of hb1).of hb2
  obtain ⟨hbl2, p0, p1, p2, p3, _⟩ := hbx2.open4
  go_wp2_with fail; go_at_call 200; refine (kY _).mono ?_; rintro e w3 ⟨rfl, hb3⟩; have hs3 := hb3.size; (try simp only [World.size_alloc, World.size_drew, World.size_setCell] at hs3)
  have hbx3 := hbx2.of hb3
  obtain ⟨hbl3, q0, q1, q2, q3, _⟩ := hbx3.open4
  have hR3 := ((hRe.of hb1).of hb2).of hb3
  obtain ⟨v, b, o, hv, rfl, hbl4, gv⟩ := hR3.int hi2
  have hgv : g.getD i 0 = v := by rw [List.getD_eq_getElem?_getD, hv.out]; rfl
  go_wp2_with fail
  go_ret
  exact ⟨ret_int hgv.symm, by (repeat' (first | exact Below.refl _ _ | assumption | (refine Below.alloc ?_ ?_ _) | (refine Below.setCell ?_ ?_ _) | (refine Below.drew ?_) | (refine below_drewN ?_ _) | (refine below_after (Ext.below _) ?_ ?_) | (refine below_after (by assumption) ?_ ?_) | (simp; done) | omega | (simp; omega)))⟩
end
end Go.Proofs.YtellglbmbocgkaaGreatDoor
