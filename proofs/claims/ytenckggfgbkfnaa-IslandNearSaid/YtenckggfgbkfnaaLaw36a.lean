/- The walks of IslandParts, IslandNear and IslandMerge. -/
import Derived.Test.YtenckggfgbkfnaaAwake36
namespace Go.Proofs.Ytenckggfgbkfnaa
open Go Go.RowKit
set_option linter.unusedSimpArgs false
set_option linter.unusedVariables false
set_option maxRecDepth 100000
attribute [local go_sem ↓ high] eq_cl neq_cl eq_pt neq_pt
theorem prts_memP {l q : List (Int × Int × Int)} {d : Int} (h : q ∈ prtsL l d) : rightC l = true ∧ 1 ≤ d ∧ d ≤ 8 ∧ ∃ i, i < l.length ∧ gpI l d i = i ∧ q = prt l d i := by
  unfold prtsL at h
  by_cases hg : rightC l = true ∧ 1 ≤ d ∧ d ≤ 8
  · rw [if_pos hg] at h
    unfold prtsN at h
    obtain ⟨i, hi, hq⟩ := List.mem_flatMap.1 h
    have hi' : i < l.length := by simpa using hi
    by_cases he : gpI l d i = i
    · rw [if_pos he] at hq
      exact ⟨hg.1, hg.2.1, hg.2.2, i, hi', he, by simpa using hq⟩
    · rw [if_neg he] at hq
      cases hq
  · rw [if_neg hg] at h
    cases h
theorem prt_sub {l : List (Int × Int × Int)} {d : Int} {i : Nat} : (prt l d i).Sublist l := by
  have h := selN_sub (l := l) (p := fun k => gpI l d k == i) (Nat.le_refl l.length)
  rw [List.take_length] at h
  exact h
theorem prts_short {l : List (Int × Int × Int)} {d : Int} {B : Nat} (h : l.length ≤ B) : ∀ q ∈ prtsL l d, q.length ≤ B := by
  intro q hq
  obtain ⟨_, _, _, i, _, _, rfl⟩ := prts_memP hq
  exact Nat.le_trans prt_sub.length_le h
set_option maxHeartbeats 8000000 in
theorem law_iparts (A : Option Addr) (n c : Nat) (l : List (Int × Int × Int)) (d : Int) (w : World) (hR : Rd encC 3 w A n l) :
    Calls Try.prog 3 #[.slice A n c, .int .i64 d] w fun e w' => e = .returned (.bool true) ∧ Below w.heap.size w w' := by
  by_cases hf : n ≤ 120
  · have df : decide (120 < (n : Int)) = false := decide_eq_false (by omega)
    have hlen := hR.len
    have kP := fun w1 h1 => isl_Parts A n c l d w1 h1 (by omega)
    have kQ := fun w1 h1 => ref36_Parts A n c l d w1 h1 (by omega)
    have kC := fun w1 h1 => isl_Count A n c l d w1 h1 (by omega)
    have hsh := prts_short (d := d) (show l.length ≤ 1000000 by omega)
    generalize prtsE l d = q0 at kP kQ kC
    generalize prtsL l d = s0 at kP kQ kC hsh
    go_enter Try.func3, Try.ntmps3
    go_wp2_with fail; go_at_call 9; refine (kP _ hR).mono ?_; rintro e w1 ⟨A1, n1, c1, rfl, h1, hn1, hb1⟩; have hs1 := hb1.size; (try simp only [World.size_alloc, World.size_drew, World.size_setCell] at hs1)
    have hR1 := hR.of hb1
    go_wp2_with fail; go_at_call 10; refine (kQ _ hR1).mono ?_; rintro e w2 ⟨A2, n2, c2, rfl, h2, hn2, hb2⟩; have hs2 := hb2.size; (try simp only [World.size_alloc, World.size_drew, World.size_setCell] at hs2)
    have hR2 := hR1.of hb2
    obtain rfl : n2 = n1 := by rw [← h1.len, ← h2.len]
    go_wp2_with fail; go_at_call 11; refine (kC _ hR2).mono ?_; rintro e w3 ⟨rfl, hb3⟩; have hs3 := hb3.size; (try simp only [World.size_alloc, World.size_drew, World.size_setCell] at hs3)
    have hl1 := h1.len
    rw [hl1]
    have e1 : ((n2 : Int) == (n2 : Int)) = true := beq_self_eq_true _
    have e2 : (q0 == q0) = true := beq_self_eq_true _
    go_wp2_with fail; go_at_call 12; refine (law36_sameV (L := s0) _ _ n2 _ _ _ (h1.of (by (repeat' (first | exact Below.refl _ _ | assumption | (refine Below.alloc ?_ ?_ _) | (refine Below.setCell ?_ ?_ _) | (refine Below.drew ?_) | (refine below_drewN ?_ _) | (refine below_after (Ext.below _) ?_ ?_) | (refine below_after (by assumption) ?_ ?_) | (simp; done) | omega | (simp; omega))))) (h2.of (by (repeat' (first | exact Below.refl _ _ | assumption | (refine Below.alloc ?_ ?_ _) | (refine Below.setCell ?_ ?_ _) | (refine Below.drew ?_) | (refine below_drewN ?_ _) | (refine below_after (Ext.below _) ?_ ?_) | (refine below_after (by assumption) ?_ ?_) | (simp; done) | omega | (simp; omega))))) (by omega) hsh).mono ?_; rintro e w4 ⟨rfl, hb4⟩; have hs4 := hb4.size; (try simp only [World.size_alloc, World.size_drew, World.size_setCell] at hs4)
    go_wp2_with fail; go_at_call 8; refine (awake_36 _).mono ?_; rintro e w5 ⟨rfl, hb5⟩; have hs5 := hb5.size; (try simp only [World.size_alloc, World.size_drew, World.size_setCell] at hs5)
    go_wp2_with fail
    go_ret
    exact ⟨rfl, by (repeat' (first | exact Below.refl _ _ | assumption | (refine Below.alloc ?_ ?_ _) | (refine Below.setCell ?_ ?_ _) | (refine Below.drew ?_) | (refine below_drewN ?_ _) | (refine below_after (Ext.below _) ?_ ?_) | (refine below_after (by assumption) ?_ ?_) | (simp; done) | omega | (simp; omega)))⟩
  · have df : decide (120 < (n : Int)) = true := decide_eq_true (by omega)
    go_enter Try.func3, Try.ntmps3
    go_wp2_with (first | (go_at_call 8; refine (awake_36 _).mono ?_; rintro e w5 ⟨rfl, hb5⟩; obtain ⟨hc5, hf5⟩ := bcell hb5; have hs5 := hb5.size; (try simp only [World.size_alloc, World.size_setCell, World.size_drew] at hc5 hf5); (try simp at hs5)))
    go_ret
    exact ⟨rfl, by (repeat' (first | exact Below.refl _ _ | assumption | (refine Below.alloc ?_ ?_ _) | (refine Below.setCell ?_ ?_ _) | (refine Below.drew ?_) | (refine below_drewN ?_ _) | (refine below_after (Ext.below _) ?_ ?_) | (refine below_after (by assumption) ?_ ?_) | (simp; done) | omega | (simp; omega)))⟩
theorem nearA_iff36 {d : Int} {l r : List (Int × Int × Int)} : nearL d l r = nearL d r l := by
  have h : ∀ l r : List (Int × Int × Int), nearL d l r = true → nearL d r l = true := by
    intro l r h
    unfold nearL at h ⊢
    rw [Bool.and_eq_true, Bool.and_eq_true] at h
    obtain ⟨⟨h1, h2⟩, h3⟩ := h
    rw [h1, h2]
    obtain ⟨a, ha, h4⟩ := List.any_eq_true.1 h3
    obtain ⟨b, hb, h5⟩ := List.any_eq_true.1 h4
    refine List.any_eq_true.2 ⟨b, hb, List.any_eq_true.2 ⟨a, ha, ?_⟩⟩
    rw [nrD_comm]; exact h5
  rw [Bool.eq_iff_iff]
  exact ⟨h l r, h r l⟩
set_option maxHeartbeats 8000000 in
theorem law_inear (A B : Option Addr) (n m c c' : Nat) (l r : List (Int × Int × Int)) (d : Int) (w : World) (hR : Rd encC 3 w A n l) (hS : Rd encC 3 w B m r) :
    Calls Try.prog 4 #[.slice A n c, .slice B m c', .int .i64 d] w fun e w' => e = .returned (.bool true) ∧ Below w.heap.size w w' := by
  by_cases hf : n ≤ 200
  · have df : decide (200 < (n : Int)) = false := decide_eq_false (by omega)
    by_cases hg : m ≤ 200
    · have dg : decide (200 < (m : Int)) = false := decide_eq_false (by omega)
      have kP := fun w1 h1 h2 => isl_Near A B n m c c' l r d w1 h1 h2 (by omega) (by omega)
      have kQ := fun w1 h1 h2 => ref36_Near A B n m c c' l r d w1 h1 h2 (by omega) (by omega)
      have kR := fun w1 h1 h2 => isl_Near B A m n c' c r l d w1 h1 h2 (by omega) (by omega)
      rw [nearA_iff36] at kR
      generalize nearL d l r = q0 at kP kQ kR
      have e2 : (q0 == q0) = true := beq_self_eq_true _
      go_enter Try.func4, Try.ntmps4
      go_wp2_with fail; go_at_call 13; refine (kP _ hR hS).mono ?_; rintro e w1 ⟨rfl, hb1⟩; have hs1 := hb1.size; (try simp only [World.size_alloc, World.size_drew, World.size_setCell] at hs1)
      have hR1 := hR.of hb1
      have hS1 := hS.of hb1
      go_wp2_with fail; go_at_call 14; refine (kQ _ hR1 hS1).mono ?_; rintro e w2 ⟨rfl, hb2⟩; have hs2 := hb2.size; (try simp only [World.size_alloc, World.size_drew, World.size_setCell] at hs2)
      have hR2 := hR1.of hb2
      have hS2 := hS1.of hb2
      go_wp2_with fail; go_at_call 13; refine (kR _ hS2 hR2).mono ?_; rintro e w3 ⟨rfl, hb3⟩; have hs3 := hb3.size; (try simp only [World.size_alloc, World.size_drew, World.size_setCell] at hs3)
      have hR3 := hR2.of hb3
      have hS3 := hS2.of hb3
      go_wp2_with fail; go_at_call 13; refine (kP _ hR3 hS3).mono ?_; rintro e w4 ⟨rfl, hb4⟩; have hs4 := hb4.size; (try simp only [World.size_alloc, World.size_drew, World.size_setCell] at hs4)
      go_wp2_with fail; go_at_call 8; refine (awake_36 _).mono ?_; rintro e w5 ⟨rfl, hb5⟩; have hs5 := hb5.size; (try simp only [World.size_alloc, World.size_drew, World.size_setCell] at hs5)
      go_wp2_with fail
      go_ret
      exact ⟨rfl, by (repeat' (first | exact Below.refl _ _ | assumption | (refine Below.alloc ?_ ?_ _) | (refine Below.setCell ?_ ?_ _) | (refine Below.drew ?_) | (refine below_drewN ?_ _) | (refine below_after (Ext.below _) ?_ ?_) | (refine below_after (by assumption) ?_ ?_) | (simp; done) | omega | (simp; omega)))⟩
    · have dg : decide (200 < (m : Int)) = true := decide_eq_true (by omega)
      go_enter Try.func4, Try.ntmps4
      go_wp2_with (first | (go_at_call 8; refine (awake_36 _).mono ?_; rintro e w5 ⟨rfl, hb5⟩; obtain ⟨hc5, hf5⟩ := bcell hb5; have hs5 := hb5.size; (try simp only [World.size_alloc, World.size_setCell, World.size_drew] at hc5 hf5); (try simp at hs5)))
      go_ret
      exact ⟨rfl, by (repeat' (first | exact Below.refl _ _ | assumption | (refine Below.alloc ?_ ?_ _) | (refine Below.setCell ?_ ?_ _) | (refine Below.drew ?_) | (refine below_drewN ?_ _) | (refine below_after (Ext.below _) ?_ ?_) | (refine below_after (by assumption) ?_ ?_) | (simp; done) | omega | (simp; omega)))⟩
  · have df : decide (200 < (n : Int)) = true := decide_eq_true (by omega)
    go_enter Try.func4, Try.ntmps4
    go_wp2_with (first | (go_at_call 8; refine (awake_36 _).mono ?_; rintro e w5 ⟨rfl, hb5⟩; obtain ⟨hc5, hf5⟩ := bcell hb5; have hs5 := hb5.size; (try simp only [World.size_alloc, World.size_setCell, World.size_drew] at hc5 hf5); (try simp at hs5)))
    go_ret
    exact ⟨rfl, by (repeat' (first | exact Below.refl _ _ | assumption | (refine Below.alloc ?_ ?_ _) | (refine Below.setCell ?_ ?_ _) | (refine Below.drew ?_) | (refine below_drewN ?_ _) | (refine below_after (Ext.below _) ?_ ?_) | (refine below_after (by assumption) ?_ ?_) | (simp; done) | omega | (simp; omega)))⟩
end Go.Proofs.Ytenckggfgbkfnaa
