/- The contracts of chapter 44's helpers: few, Ints, shift; what the fixed examples answer. -/
import Derived.Test.YtnhapgbjaeaamaaDoorPRZ
import Derived.Test.YtnhapgbjaeaamaaDoorCellS
namespace Go.Proofs.YtnhapgbjaeaamaaDoor
open Go Go.RowKit
set_option linter.unusedSimpArgs false
set_option linter.unusedVariables false
set_option maxRecDepth 100000
set_option linter.unusedSimpArgs false
set_option linter.unusedVariables false
theorem law_few (W H G DX DY : Int) (P : Option Addr) (ns cs : Nat) (q : Bool) (hq : decide (ns ≤ 20) = q) (w : World) :
    Calls Tryd.prog 5 #[.agg #[.int .i64 W, .int .i64 H, .int .i64 G, .int .i64 DX, .int .i64 DY, .slice P ns cs]] w fun e w' => e = .returned (.bool q) ∧ Below w.heap.size w w' := by
  have h1 : decide ((ns : Int) ≤ 20) = q := by rw [← hq, decide_eq_decide]; omega
  go_enter Tryd.func5, Tryd.ntmps5
  go_wp2
  go_ret
  exact ⟨ret_bool (by first | rw [← h1] | (rw [h1]) | exact h1 | exact hq | simp [h1, hq]), by (repeat' (first | exact Below.refl _ _ | assumption | (refine Below.alloc ?_ ?_ _) | (refine Below.setCell ?_ ?_ _) | (refine Below.drew ?_) | (refine below_drewN ?_ _) | (refine below_after (Ext.below _) ?_ ?_) | (refine below_after (by assumption) ?_ ?_) | (simp; done) | omega | (simp; omega)))⟩
set_option maxHeartbeats 4000000 in
theorem law_Ints (A B : Option Addr) (n m c d : Nat) (l r : List Int) (w : World) (hR : Rd encI 1 w A n l) (hS : Rd encI 1 w B m r) (hn : n ≤ 1000000) (hm : m ≤ 1000000) :
    Calls Tryd.prog 13 #[.slice A n c, .slice B m d] w fun e w' => e = .returned (.bool (sameL l r)) ∧ Below w.heap.size w w' := by
  have hl := hR.len
  have hr := hS.len
  have s0 := Lib.hid (show l ≠ r → sameL l r = false from fun h => by unfold sameL; exact decide_eq_false h)
  have s1 := Lib.hid (show l = r → sameL l r = true from fun h => by unfold sameL; exact decide_eq_true h)
  generalize sameL l r = q at s0 s1 ⊢
  by_cases hnm : n = m
  · subst hnm
    have t0 : ((n : Int) != (n : Int)) = false := by simp
    replace hl := Lib.hid hl
    replace hr := Lib.hid hr
    go_enter Tryd.func13, Tryd.ntmps13
    go_wp2_with fail
    go_loopw [13] (fun t wr => ∃ j : Nat, t = .int .i64 j ∧ j ≤ n ∧ Hid (∀ i, i < j → l[i]? = r[i]?) ∧ Below w.heap.size w wr) (fun t _ => n - (intOf t).toNat)
    case atStart => exact ⟨0, rfl, by omega, Lib.hid (fun i hi => absurd hi (by omega)), Below.refl _ _⟩
    case round =>
      obtain ⟨j, rfl, hj, hal, hb⟩ := hrel
      have hsz := hb.size
      by_cases hlj : j < n
      · have dj : decide ((j : Int) < n) = true := decide_eq_true (by omega)
        have dj' : decide (j < n) = true := decide_eq_true hlj
        obtain ⟨x, b1, o1, hx, rfl, hb1, g1⟩ := (hR.of hb).int hlj
        obtain ⟨y, b2, o2, hy, rfl, hb2, g2⟩ := (hS.of hb).int hlj
        have i0 : (0 : Int) ≤ (j : Int) := by omega
        have i1 : (j : Int) < (n : Int) := by omega
        by_cases hxy : x = y
        · have t1 : (x != y) = false := by simpa using hxy
          have hst := Lib.hid (show ∀ i, i < j + 1 → l[i]? = r[i]? from fun i hi => by
            by_cases e : i = j
            · subst e; rw [hx.out, hy.out, hxy]
            · exact hal.out i (by omega))
          clear hxy
          go_wp2_with fail
          (refine wp_region_ext_lit (by kernel_rfl) (by kernel_rfl) ?_; (repeat (go_big_quiet_step (fail))); refine wpQuiet_nil ?_; intro _ hw'; obtain ⟨z3, hw''⟩ := hw'; subst hw''; have hs3 := z3.size; obtain ⟨hc3, hf3⟩ := bcell z3.below; (try simp only [World.size_alloc, World.size_setCell, World.size_drew] at hc3 hf3); (try simp at hs3))
          go_wp2_with fail
          go_roundw
          case rel => exact ⟨j + 1, by go_num, by omega, hst, by (repeat' (first | exact Below.refl _ _ | assumption | (refine Below.alloc ?_ ?_ _) | (refine Below.setCell ?_ ?_ _) | (refine Below.drew ?_) | (refine below_drewN ?_ _) | (refine below_after (Ext.below _) ?_ ?_) | (refine below_after (by assumption) ?_ ?_) | (simp; done) | omega | (simp; omega)))⟩
          case measure => simp [intOf]; omega
        · have t1 : (x != y) = true := by simpa using hxy
          have hE := Lib.hid (s0.out (fun e => hxy (by have := hx.out; rw [e, hy.out] at this; injection this with this; exact this.symm)))
          clear hxy
          go_wp2_with fail
          (refine wp_region_ext_lit (by kernel_rfl) (by kernel_rfl) ?_; (repeat (go_big_quiet_step (fail))); refine wpQuiet_nil ?_; intro _ hw'; obtain ⟨z3, hw''⟩ := hw'; subst hw''; have hs3 := z3.size; obtain ⟨hc3, hf3⟩ := bcell z3.below; (try simp only [World.size_alloc, World.size_setCell, World.size_drew] at hc3 hf3); (try simp at hs3))
          go_wp2_with fail
          go_ret
          exact ⟨ret_bool hE.out.symm, by (repeat' (first | exact Below.refl _ _ | assumption | (refine Below.alloc ?_ ?_ _) | (refine Below.setCell ?_ ?_ _) | (refine Below.drew ?_) | (refine below_drewN ?_ _) | (refine below_after (Ext.below _) ?_ ?_) | (refine below_after (by assumption) ?_ ?_) | (simp; done) | omega | (simp; omega)))⟩
      · obtain rfl : j = n := by omega
        have dj : decide ((j : Int) < j) = false := decide_eq_false (by omega)
        have dj' : decide (j < j) = false := decide_eq_false (by omega)
        have hE := Lib.hid (s1.out (List.ext_getElem? fun i => by
          by_cases h : i < j
          · exact hal.out i h
          · rw [List.getElem?_eq_none (by rw [hl.out]; omega), List.getElem?_eq_none (by rw [hr.out]; omega)]))
        go_wp2_with fail
        go_ret
        exact ⟨ret_bool hE.out.symm, by (repeat' (first | exact Below.refl _ _ | assumption | (refine Below.alloc ?_ ?_ _) | (refine Below.setCell ?_ ?_ _) | (refine Below.drew ?_) | (refine below_drewN ?_ _) | (refine below_after (Ext.below _) ?_ ?_) | (refine below_after (by assumption) ?_ ?_) | (simp; done) | omega | (simp; omega)))⟩
  · have t0 : ((n : Int) != (m : Int)) = true := by simp; omega
    have hE := Lib.hid (s0.out (fun e => hnm (by rw [← hl, ← hr, e])))
    go_enter Tryd.func13, Tryd.ntmps13
    go_wp2_with fail
    go_ret
    exact ⟨ret_bool hE.out.symm, by (repeat' (first | exact Below.refl _ _ | assumption | (refine Below.alloc ?_ ?_ _) | (refine Below.setCell ?_ ?_ _) | (refine Below.drew ?_) | (refine below_drewN ?_ _) | (refine below_after (Ext.below _) ?_ ?_) | (refine below_after (by assumption) ?_ ?_) | (simp; done) | omega | (simp; omega)))⟩
def hood44 : List (Int × Int) := [(-1, 0)]
def node44 : List (Int × List Int) := [(1, [0, 1])]
def pat44 : List (Int × Int × Int) := [(0, 0, 1), (1, 1, 1)]
theorem rdX_lit44 {α β : Type} (K : EK α β) (W : World) (t : TypeId) (hs : List α) (ls : List β) (cs : Array Value) (n : Nat) (hn : hs.length = n) (hm : n ≤ 1000000) (hcs : cs.toList = hs.flatMap K.enc) (h : K.All W hs ls) : RdX K (W.alloc (.cells cs t)) (some ⟨W.heap.size, 0, none⟩) n ls := by
  have ho := (Own.lit K.len W t W.heap.size (Nat.le_refl _) hs n hn (by omega) cs.toList hcs).rd K.len
  rw [Array.toArray_toList] at ho
  exact ⟨hs, ho, h.of ((Below.refl _ _).alloc (Nat.le_refl _) _)⟩
theorem lit44 (W : World) : Rd encP 2 (((W.alloc (.cells #[.int .i64 (-1), .int .i64 0] 56)).alloc (.cells #[.int .i64 0, .int .i64 1] 3)).alloc (.cells #[.int .i64 1, .slice (some ⟨W.heap.size + 1, 0, none⟩) 2 2] 54)) (some ⟨W.heap.size, 0, none⟩) 1 hood44 ∧
    RdX ekN (((W.alloc (.cells #[.int .i64 (-1), .int .i64 0] 56)).alloc (.cells #[.int .i64 0, .int .i64 1] 3)).alloc (.cells #[.int .i64 1, .slice (some ⟨W.heap.size + 1, 0, none⟩) 2 2] 54)) (some ⟨W.heap.size + 1 + 1, 0, none⟩) 1 node44 ∧
    Below W.heap.size W (((W.alloc (.cells #[.int .i64 (-1), .int .i64 0] 56)).alloc (.cells #[.int .i64 0, .int .i64 1] 3)).alloc (.cells #[.int .i64 1, .slice (some ⟨W.heap.size + 1, 0, none⟩) 2 2] 54)) := by
  have k0 := rd_litP W hood44 #[.int .i64 (-1), .int .i64 0] 1 rfl (by omega) rfl
  have k1 := rd_litI (W.alloc (.cells #[.int .i64 (-1), .int .i64 0] 56)) [0, 1] #[.int .i64 0, .int .i64 1] 2 rfl (by omega) rfl
  simp only [World.size_alloc] at k1
  have h := rdX_lit44 ekN ((W.alloc (.cells #[.int .i64 (-1), .int .i64 0] 56)).alloc (.cells #[.int .i64 0, .int .i64 1] 3)) 54 [(1, some ⟨W.heap.size + 1, 0, none⟩, 2, 2)] node44 #[.int .i64 1, .slice (some ⟨W.heap.size + 1, 0, none⟩) 2 2] 1 rfl (by omega) rfl
    (EK.All.nil_.snoc ⟨rfl, k1, by simp⟩)
  simp only [World.size_alloc] at h
  exact ⟨k0.of (by (repeat' (first | exact Below.refl _ _ | assumption | (refine Below.alloc ?_ ?_ _) | (refine Below.setCell ?_ ?_ _) | (refine Below.drew ?_) | (refine below_drewN ?_ _) | (refine below_after (Ext.below _) ?_ ?_) | (refine below_after (by assumption) ?_ ?_) | (simp; done) | omega | (simp; omega)))), h, by (repeat' (first | exact Below.refl _ _ | assumption | (refine Below.alloc ?_ ?_ _) | (refine Below.setCell ?_ ?_ _) | (refine Below.drew ?_) | (refine below_drewN ?_ _) | (refine below_after (Ext.below _) ?_ ?_) | (refine below_after (by assumption) ?_ ?_) | (simp; done) | omega | (simp; omega)))⟩
theorem law_shift (w : World) : Calls Tryd.prog 9 #[] w fun e w' => ∃ A B, e = .returned (.agg #[.int .i64 2, .slice A 1 1, .slice B 1 1]) ∧ Rd encP 2 w' A 1 hood44 ∧ RdX ekN w' B 1 node44 ∧ Below w.heap.size w w' := by
  go_enter Tryd.func9, Tryd.ntmps9
  go_wp2_with fail
  obtain ⟨h1, h2, h3⟩ := lit44 (w.alloc (.cells #[.int .i64 2, .slice (some ⟨w.heap.size + 1, 0, none⟩) 1 1, .slice (some ⟨w.heap.size + 1 + 1 + 1, 0, none⟩) 1 1] 25))
  have h4 := below_thru ((Below.refl w.heap.size w).alloc (Nat.le_refl _) (.cells #[.int .i64 2, .slice (some ⟨w.heap.size + 1, 0, none⟩) 1 1, .slice (some ⟨w.heap.size + 1 + 1 + 1, 0, none⟩) 1 1] 25)) h3
  refine bodyPost_ret (v := .agg #[.int .i64 2, .slice (some ⟨w.heap.size + 1, 0, none⟩) 1 1, .slice (some ⟨w.heap.size + 1 + 1 + 1, 0, none⟩) 1 1]) (by simp [results, Tryd.results9, go_sem, *, ↓IntWalk.iteOmega]) rfl ?_
  simp only [World.size_alloc] at h1 h2 h4
  exact ⟨_, _, rfl, h1, h2, h4⟩
end Go.Proofs.YtnhapgbjaeaamaaDoor
