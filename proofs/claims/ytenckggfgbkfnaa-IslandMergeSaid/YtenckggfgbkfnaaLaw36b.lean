/- The walk of IslandMerge. -/
import Derived.Test.YtenckggfgbkfnaaAwake36
namespace Go.Proofs.Ytenckggfgbkfnaa
open Go Go.RowKit
set_option linter.unusedSimpArgs false
set_option linter.unusedVariables false
set_option maxRecDepth 100000
attribute [local go_sem ↓ high] eq_cl neq_cl eq_pt neq_pt
theorem mg_any {ls : List (List (Int × Int × Int))} {pl : List (Int × Int)} {L L' : List (List (Int × Int × Int))} (h : mgOut ls pl L) (h' : mgOut ls pl L') : L = L' := by
  by_cases he : mgE ls pl = 0
  · exact mg_unique (h.2 he) (h'.2 he)
  · rw [h.1 he, h'.1 he]
theorem mg_short {ls : List (List (Int × Int × Int))} {pl : List (Int × Int)} {L : List (List (Int × Int × Int))} (h : mgOut ls pl L) : ∀ q ∈ L, q.length ≤ 1000000 := by
  intro q hq
  by_cases he : mgE ls pl = 0
  · obtain ⟨i, hi, rfl⟩ := ((h.2 he).2 q).1 hq
    obtain ⟨_, _, _, h4⟩ := mgE_zero he
    unfold clsP
    rw [(srtC_perm _).length_eq]
    have h1 := (catN_sub (ls := ls) (p := lnkB ls.length pl i) (Nat.le_refl ls.length)).length_le
    rw [List.take_length] at h1
    omega
  · rw [h.1 he] at hq
    cases hq
set_option maxHeartbeats 8000000 in
theorem law_imerge (A B : Option Addr) (n c m c' : Nat) (ls : List (List (Int × Int × Int))) (pl : List (Int × Int)) (w : World) (hL : RdX ekC w A n ls) (hP : Rd encP 2 w B m pl) :
    Calls Try.prog 5 #[.slice A n c, .slice B m c'] w fun e w' => e = .returned (.bool true) ∧ Below w.heap.size w w' := by
  by_cases hf : n ≤ 20
  · have df : decide (20 < (n : Int)) = false := decide_eq_false (by omega)
    by_cases hg : m ≤ 60
    · have dg : decide (60 < (m : Int)) = false := decide_eq_false (by omega)
      have hlen := Lib.hid hL.len
      go_enter Try.func5, Try.ntmps5
      go_wp2_with fail
      go_loopw [21] (fun t wr => wr = w ∧ ∃ k : Nat, t = .int .i64 k ∧ k ≤ n ∧ Hid (∀ (i : Nat) l, i < k → ls[i]? = some l → l.length ≤ 40)) (fun t _ => n - (intOf t).toNat)
      case atStart => exact ⟨by first | trivial | rfl, 0, rfl, by omega, Lib.hid fun i l hi => absurd hi (by omega)⟩
      case round =>
        obtain ⟨rfl, k, rfl, hk, he⟩ := hrel
        by_cases hlk : k < n
        · have dk : decide ((k : Int) < n) = true := decide_eq_true (by omega)
          obtain ⟨F, m2, c2, l, bo, o, hx, rfl, hbl, g1, hRl, _⟩ := hL.pat hlk
          have hl2 := Lib.hid hRl.len
          by_cases hm2 : m2 ≤ 40
          · have d2 : decide (40 < (m2 : Int)) = false := decide_eq_false (by omega)
            go_wp2_with fail
            go_roundw
            case rel =>
              refine ⟨by first | trivial | rfl, k + 1, by go_num, by omega, Lib.hid fun i l' hi hl' => ?_⟩
              rcases Nat.lt_or_ge i k with h | h
              · exact he.out i l' h hl'
              · obtain rfl : i = k := by omega
                rw [hx.out] at hl'
                injection hl' with hl'
                rw [← hl', hl2.out]; exact hm2
            case measure => simp [intOf]; omega
          · have d2 : decide (40 < (m2 : Int)) = true := decide_eq_true (by omega)
            go_wp2_with (first | (go_at_call 8; refine (awake_36 _).mono ?_; rintro e w5 ⟨rfl, hb5⟩; obtain ⟨hc5, hf5⟩ := bcell hb5; have hs5 := hb5.size; (try simp only [World.size_alloc, World.size_setCell, World.size_drew] at hc5 hf5); (try simp at hs5)))
            go_ret
            exact ⟨rfl, by (repeat' (first | exact Below.refl _ _ | assumption | (refine Below.alloc ?_ ?_ _) | (refine Below.setCell ?_ ?_ _) | (refine Below.drew ?_) | (refine below_drewN ?_ _) | (refine below_after (Ext.below _) ?_ ?_) | (refine below_after (by assumption) ?_ ?_) | (simp; done) | omega | (simp; omega)))⟩
        · obtain rfl : k = n := by omega
          have dk : decide ((k : Int) < k) = false := decide_eq_false (by omega)
          have hbd : ∀ l ∈ ls, l.length ≤ 100000 := by
            intro l hl
            obtain ⟨i, hi, rfl⟩ := List.getElem_of_mem hl
            exact Nat.le_trans (he.out i _ (by rw [← hlen.out]; exact hi) (List.getElem?_eq_getElem hi)) (by omega)
          have kP := fun w1 h1 h2 => isl_Merge A B k c m c' ls pl w1 h1 h2 (by omega) (by omega) hbd
          have kQ := fun w1 h1 h2 => ref36_Merge A B k c m c' ls pl w1 h1 h2 (by omega) (by omega) hbd
          clear he hbd
          generalize mgE ls pl = q0 at kP kQ
          have e2 : (q0 == q0) = true := beq_self_eq_true _
          go_wp2_with fail; go_at_call 15; refine (kP _ hL hP).mono ?_; rintro e w1 ⟨A1, n1, c1, L1, rfl, h1, hn1, hO1, hb1⟩; have hs1 := hb1.size; (try simp only [World.size_alloc, World.size_drew, World.size_setCell] at hs1)
          have hL1 := hL.of hb1
          have hP1 := hP.of hb1
          go_wp2_with fail; go_at_call 16; refine (kQ _ hL1 hP1).mono ?_; rintro e w2 ⟨A2, n2, c2, L2, rfl, h2, hn2, hO2, hb2⟩; have hs2 := hb2.size; (try simp only [World.size_alloc, World.size_drew, World.size_setCell] at hs2)
          obtain rfl := mg_any hO1.out hO2.out
          have hsh := mg_short hO1.out
          clear hO1 hO2
          obtain rfl : n2 = n1 := by rw [← h1.len, ← h2.len]
          go_wp2_with fail; go_at_call 12; refine (law36_sameV (L := L1) _ _ n2 _ _ _ (h1.of (by (repeat' (first | exact Below.refl _ _ | assumption | (refine Below.alloc ?_ ?_ _) | (refine Below.setCell ?_ ?_ _) | (refine Below.drew ?_) | (refine below_drewN ?_ _) | (refine below_after (Ext.below _) ?_ ?_) | (refine below_after (by assumption) ?_ ?_) | (simp; done) | omega | (simp; omega))))) (h2.of (by (repeat' (first | exact Below.refl _ _ | assumption | (refine Below.alloc ?_ ?_ _) | (refine Below.setCell ?_ ?_ _) | (refine Below.drew ?_) | (refine below_drewN ?_ _) | (refine below_after (Ext.below _) ?_ ?_) | (refine below_after (by assumption) ?_ ?_) | (simp; done) | omega | (simp; omega))))) (by omega) hsh).mono ?_; rintro e w4 ⟨rfl, hb4⟩; have hs4 := hb4.size; (try simp only [World.size_alloc, World.size_drew, World.size_setCell] at hs4)
          go_wp2_with fail; go_at_call 8; refine (awake_36 _).mono ?_; rintro e w5 ⟨rfl, hb5⟩; have hs5 := hb5.size; (try simp only [World.size_alloc, World.size_drew, World.size_setCell] at hs5)
          go_wp2_with fail
          go_ret
          exact ⟨rfl, by (repeat' (first | exact Below.refl _ _ | assumption | (refine Below.alloc ?_ ?_ _) | (refine Below.setCell ?_ ?_ _) | (refine Below.drew ?_) | (refine below_drewN ?_ _) | (refine below_after (Ext.below _) ?_ ?_) | (refine below_after (by assumption) ?_ ?_) | (simp; done) | omega | (simp; omega)))⟩
    · have dg : decide (60 < (m : Int)) = true := decide_eq_true (by omega)
      go_enter Try.func5, Try.ntmps5
      go_wp2_with (first | (go_at_call 8; refine (awake_36 _).mono ?_; rintro e w5 ⟨rfl, hb5⟩; obtain ⟨hc5, hf5⟩ := bcell hb5; have hs5 := hb5.size; (try simp only [World.size_alloc, World.size_setCell, World.size_drew] at hc5 hf5); (try simp at hs5)))
      go_ret
      exact ⟨rfl, by (repeat' (first | exact Below.refl _ _ | assumption | (refine Below.alloc ?_ ?_ _) | (refine Below.setCell ?_ ?_ _) | (refine Below.drew ?_) | (refine below_drewN ?_ _) | (refine below_after (Ext.below _) ?_ ?_) | (refine below_after (by assumption) ?_ ?_) | (simp; done) | omega | (simp; omega)))⟩
  · have df : decide (20 < (n : Int)) = true := decide_eq_true (by omega)
    go_enter Try.func5, Try.ntmps5
    go_wp2_with (first | (go_at_call 8; refine (awake_36 _).mono ?_; rintro e w5 ⟨rfl, hb5⟩; obtain ⟨hc5, hf5⟩ := bcell hb5; have hs5 := hb5.size; (try simp only [World.size_alloc, World.size_setCell, World.size_drew] at hc5 hf5); (try simp at hs5)))
    go_ret
    exact ⟨rfl, by (repeat' (first | exact Below.refl _ _ | assumption | (refine Below.alloc ?_ ?_ _) | (refine Below.setCell ?_ ?_ _) | (refine Below.drew ?_) | (refine below_drewN ?_ _) | (refine below_after (Ext.below _) ?_ ?_) | (refine below_after (by assumption) ?_ ?_) | (simp; done) | omega | (simp; omega)))⟩
end Go.Proofs.Ytenckggfgbkfnaa
