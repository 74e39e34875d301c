/- The walks of PatternShift, PatternOrder and PatternCells. -/
import Derived.Test.YtnhnkmppmicjoaaAwake05
import Derived.Test.YtnhnkmppmicjoaaCellQ
namespace Go.Proofs.Ytnhnkmppmicjoaa
open Go Go.RowKit
set_option linter.unusedSimpArgs false
set_option linter.unusedVariables false
set_option maxRecDepth 100000
attribute [local go_sem ↓ high] eq_cl neq_cl eq_pt neq_pt eq_box neq_box
theorem few05 {A : Option Addr} {n c : Nat} {q : Bool} (h : decide (n ≤ 800) = q) (w : World) : Calls Try.prog 35 #[.slice A n c] w fun e w' => e = .returned (.bool q) ∧ w = w' := by
  rw [← h]
  clear h
  go_enter Try.func35, Try.ntmps35
  go_wp2
  go_ret
  exact ⟨ret_bool (by rw [Bool.eq_iff_iff]; simp; omega), rfl⟩
theorem few05y {A : Option Addr} {n c : Nat} (h : n ≤ 800) (w : World) : Calls Try.prog 35 #[.slice A n c] w fun e w' => e = .returned (.bool true) ∧ w = w' := few05 (A := A) (c := c) (decide_eq_true h) w
theorem few05n {A : Option Addr} {n c : Nat} (h : 800 < n) (w : World) : Calls Try.prog 35 #[.slice A n c] w fun e w' => e = .returned (.bool false) ∧ w = w' := few05 (A := A) (c := c) (decide_eq_false (by omega : ¬ n ≤ 800)) w
theorem mv_mv5 (dx dy : Int) : mv dx dy = mv5 dx dy := rfl
theorem shE_zero {l : List (Int × Int × Int)} {dx dy : Int} (h : shE l dx dy = 0) : rightC l = true ∧ farB dx dy = true ∧ (l.map (mv dx dy)).all plC = true := by
  unfold shE at h
  split at h
  · split at h
    · split at h
      · exact ⟨‹_›, ‹_›, ‹_›⟩
      · cases h
    · cases h
  · cases h
theorem far_bd {dx dy : Int} (h : farB dx dy = true) : -2097152 ≤ dx ∧ dx ≤ 2097152 ∧ -2097152 ≤ dy ∧ dy ≤ 2097152 := by
  unfold farB at h; simpa using h
theorem sh_back {l : List (Int × Int × Int)} {dx dy : Int} (h : shE l dx dy = 0) : shE (shL l dx dy) (-dx) (-dy) = 0 ∧ shL (shL l dx dy) (-dx) (-dy) = l := by
  obtain ⟨h1, h2, h3⟩ := shE_zero h
  rw [shL_ok h]
  have hb := far_bd h2
  have hr : rightC (l.map (mv5 dx dy)) = true := rightC_mv h1 fun c hc => by
    have := List.all_eq_true.1 h3 _ (List.mem_map.2 ⟨c, hc, rfl⟩)
    unfold plC at this
    exact validB_iff.1 this
  have hz : shE (l.map (mv5 dx dy)) (-dx) (-dy) = 0 := by
    refine shE_ok hr (by unfold farB; exact decide_eq_true (by omega)) ?_
    rw [mv_mv5, mv_back, List.all_eq_true]
    intro c hc
    obtain ⟨i, hi⟩ := List.getElem?_of_mem hc
    obtain ⟨a, b, s⟩ := c
    exact validB_iff.2 (rightC_elem h1 hi).1
  refine ⟨hz, ?_⟩
  rw [mv_mv5]
  rw [shL_ok hz, mv_mv5, mv_back]
set_option maxHeartbeats 4000000 in
theorem law_pshift (A : Option Addr) (n c : Nat) (l : List (Int × Int × Int)) (dx dy : Int) (w : World) (hR : Rd encC 3 w A n l) :
    Calls Try.prog 12 #[.slice A n c, .int .i64 dx, .int .i64 dy] w fun e w' => e = .returned (.bool true) ∧ Below w.heap.size w w' := by
  rcases Nat.lt_or_ge 800 n with h1 | h1
  · have kF := fun w1 => few05n (A := A) (c := c) h1 w1
    go_enter Try.func12, Try.ntmps12
    go_wp2_with (first | (go_at_call 35; refine (kF _).mono ?_; rintro e w' ⟨rfl, rfl⟩) | (go_at_call 36; refine (awake_05 _).mono ?_; rintro e w5 ⟨rfl, hb5⟩; obtain ⟨hc5, hf5⟩ := bcell hb5; have hs5 := hb5.size; (try simp only [World.size_alloc, World.size_setCell, World.size_drew] at hc5 hf5); (try simp at hs5)))
    go_ret
    exact ⟨rfl, by (repeat' (first | exact Below.refl _ _ | assumption | (refine Below.alloc ?_ ?_ _) | (refine Below.setCell ?_ ?_ _) | (refine Below.drew ?_) | (refine below_drewN ?_ _) | (refine below_after (Ext.below _) ?_ ?_) | (refine below_after (by assumption) ?_ ?_) | (simp; done) | omega | (simp; omega)))⟩
  have kF := fun w1 => few05y (A := A) (c := c) h1 w1
  by_cases h0 : shE l dx dy = 0
  · have hf := far_bd (shE_zero h0).2.1
    have Hb := Lib.hid (sh_back h0)
    have kS := fun w1 (hw : Rd encC 3 w1 A n l) => pat_Shift A n c l dx dy w1 hw (by omega)
    have kT := fun w1 (hw : Rd encC 3 w1 A n l) => ref05_Shift A n c l dx dy w1 hw (by omega)
    rw [h0] at kS kT
    have wx : IntKind.i64.wrap (-dx) = -dx := IntWalk.i64_in _ (by omega)
    have wy : IntKind.i64.wrap (-dy) = -dy := IntWalk.i64_in _ (by omega)
    clear h0
    go_enter Try.func12, Try.ntmps12
    go_wp2_with fail
    (go_at_call 35; refine (kF _).mono ?_; rintro e w' ⟨rfl, rfl⟩)
    go_wp2_with fail; go_at_call 53; refine (kS _ hR).mono ?_; rintro e w1 ⟨A1, n1, c1, rfl, hR1, hn1, hb1⟩; have hs1 := hb1.size; (try simp only [World.size_alloc, World.size_drew, World.size_setCell] at hs1)
    go_wp2_with fail; go_at_call 54; refine (kT _ (hR.of hb1)).mono ?_; rintro e w2 ⟨A2, n2, c2, rfl, hR2, hn2, hb2⟩; have hs2 := hb2.size; (try simp only [World.size_alloc, World.size_drew, World.size_setCell] at hs2)
    go_wp2_with fail; go_at_call 44; refine (ref05_SameV (sameL_self (shL l dx dy)) _ _ _ _ _ _ _ (hR1.of hb2) hR2 (by omega) (by omega)).mono ?_; rintro e w3 ⟨rfl, hb3⟩; have hs3 := hb3.size; (try simp only [World.size_alloc, World.size_drew, World.size_setCell] at hs3)
    have hR1 : Rd encC 3 w3 A1 n1 (shL l dx dy) := (hR1.of hb2).of hb3
    have kU := fun w1 (hw : Rd encC 3 w1 A1 n1 (shL l dx dy)) => pat_Shift A1 n1 c1 (shL l dx dy) (-dx) (-dy) w1 hw (by omega)
    rw [Hb.out.1, Hb.out.2] at kU
    go_wp2_with fail; go_at_call 53; refine (kU _ hR1).mono ?_; rintro e w4 ⟨A4, n4, c4, rfl, hR4, hn4, hb4⟩; have hs4 := hb4.size; (try simp only [World.size_alloc, World.size_drew, World.size_setCell] at hs4)
    go_wp2_with fail; go_at_call 44; refine (ref05_SameV (sameL_self l) _ _ _ _ _ _ _ hR4 (hR.of (by (repeat' (first | exact Below.refl _ _ | assumption | (refine Below.alloc ?_ ?_ _) | (refine Below.setCell ?_ ?_ _) | (refine Below.drew ?_) | (refine below_drewN ?_ _) | (refine below_after (Ext.below _) ?_ ?_) | (refine below_after (by assumption) ?_ ?_) | (simp; done) | omega | (simp; omega))))) (by omega) (by omega)).mono ?_; rintro e w5 ⟨rfl, hb5⟩; have hs5 := hb5.size; (try simp only [World.size_alloc, World.size_drew, World.size_setCell] at hs5)
    go_wp2_with fail; go_at_call 36; refine (awake_05 _).mono ?_; rintro e w6 ⟨rfl, hb6⟩; have hs6 := hb6.size; (try simp only [World.size_alloc, World.size_drew, World.size_setCell] at hs6)
    go_wp2_with fail
    go_ret
    exact ⟨rfl, by (repeat' (first | exact Below.refl _ _ | assumption | (refine Below.alloc ?_ ?_ _) | (refine Below.setCell ?_ ?_ _) | (refine Below.drew ?_) | (refine below_drewN ?_ _) | (refine below_after (Ext.below _) ?_ ?_) | (refine below_after (by assumption) ?_ ?_) | (simp; done) | omega | (simp; omega)))⟩
  · have e0 : (shE l dx dy == 0) = false := by simpa using h0
    clear h0
    go_enter Try.func12, Try.ntmps12
    go_wp2_with fail
    (go_at_call 35; refine (kF _).mono ?_; rintro e w' ⟨rfl, rfl⟩)
    go_wp2_with fail; go_at_call 53; refine (pat_Shift _ _ _ _ _ _ _ hR (by omega)).mono ?_; rintro e w1 ⟨A1, n1, c1, rfl, hR1, hn1, hb1⟩; have hs1 := hb1.size; (try simp only [World.size_alloc, World.size_drew, World.size_setCell] at hs1)
    go_wp2_with fail; go_at_call 54; refine (ref05_Shift _ _ _ _ _ _ _ (hR.of hb1) (by omega)).mono ?_; rintro e w2 ⟨A2, n2, c2, rfl, hR2, hn2, hb2⟩; have hs2 := hb2.size; (try simp only [World.size_alloc, World.size_drew, World.size_setCell] at hs2)
    go_wp2_with fail; go_at_call 44; refine (ref05_SameV (sameL_self (shL l dx dy)) _ _ _ _ _ _ _ (hR1.of hb2) hR2 (by omega) (by omega)).mono ?_; rintro e w3 ⟨rfl, hb3⟩; have hs3 := hb3.size; (try simp only [World.size_alloc, World.size_drew, World.size_setCell] at hs3)
    go_wp2_with fail; go_at_call 36; refine (awake_05 _).mono ?_; rintro e w6 ⟨rfl, hb6⟩; have hs6 := hb6.size; (try simp only [World.size_alloc, World.size_drew, World.size_setCell] at hs6)
    go_wp2_with fail
    go_ret
    exact ⟨rfl, by (repeat' (first | exact Below.refl _ _ | assumption | (refine Below.alloc ?_ ?_ _) | (refine Below.setCell ?_ ?_ _) | (refine Below.drew ?_) | (refine below_drewN ?_ _) | (refine below_after (Ext.below _) ?_ ?_) | (refine below_after (by assumption) ?_ ?_) | (simp; done) | omega | (simp; omega)))⟩
end Go.Proofs.Ytnhnkmppmicjoaa
