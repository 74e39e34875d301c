/- The contracts of the laws' helpers: Few, Small, far, Life, parity. The contract of chapter 54's small. -/
import Derived.Test.YtabfefhicfmabaaGreatFLD
import Derived.Test.YtabfefhicfmabaaGreatSRT
import Derived.Test.YtabfefhicfmabaaGreatALV
set_option linter.unusedSimpArgs false
set_option linter.unusedVariables false
section
namespace Go.Proofs.YtabfefhicfmabaaGreat
open Go Go.RowKit
set_option maxRecDepth 100000
def fewT (H : List (Int × Int)) (N : List (Int × List Int)) : Bool := decide (H.length ≤ 40) && decide (N.length ≤ 400) && N.all fun x => decide (x.2.length ≤ 20)
section
variable (st : Int) (A B D : Option Addr) (n c m d k e : Nat) (H : List (Int × Int)) (N : List (Int × List Int)) (p : List (Int × Int × Int)) (w : World)
set_option maxHeartbeats 4000000 in
theorem law_Few (hH : Rd encP 2 w A n H) (hN : RdX ekN w B m N) :
    Calls Tryz.prog 36 #[.agg #[.int .i64 st, .slice A n c, .slice B m d]] w fun e w' => e = .returned (.bool (fewT H N)) ∧ Below w.heap.size w w' := by
  have hHl := hH.len
  have hNl := hN.len
  by_cases hbad : 40 < n ∨ 400 < m
  · have HE := Lib.hid (show fewT H N = false by
      unfold fewT; rw [hHl, hNl]
      rcases hbad with h | h
      · rw [decide_eq_false (show ¬ n ≤ 40 by omega)]; rfl
      · rw [decide_eq_false (show ¬ m ≤ 400 by omega)]; simp)
    have hways : decide (40 < (n : Int)) = true ∨ (decide (40 < (n : Int)) = false ∧ decide (400 < (m : Int)) = true) := by
      simp only [decide_eq_true_eq, decide_eq_false_iff_not]; omega
    clear hbad hHl hNl
    rcases hways with d1 | ⟨d1, d2⟩
    all_goals
      go_enter Tryz.func36, Tryz.ntmps36
      go_wp2_with fail
      go_ret
      exact ⟨ret_bool HE.out.symm, by (repeat' (first | exact Below.refl _ _ | assumption | (refine Below.alloc ?_ ?_ _) | (refine Below.setCell ?_ ?_ _) | (refine Below.drew ?_) | (refine below_drewN ?_ _) | (refine below_after (Ext.below _) ?_ ?_) | (refine below_after (by assumption) ?_ ?_) | (simp; done) | omega | (simp; omega)))⟩
  · have d1 : decide (40 < (n : Int)) = false := decide_eq_false (by omega)
    have d2 : decide (400 < (m : Int)) = false := decide_eq_false (by omega)
    have hm : m ≤ 400 := by omega
    have HE := Lib.hid (show fewT H N = N.all fun x => decide (x.2.length ≤ 20) by
      unfold fewT; rw [hHl, hNl, decide_eq_true (show n ≤ 40 by omega), decide_eq_true hm]; rfl)
    have hNl := Lib.hid hNl
    clear hbad hHl
    go_enter Tryz.func36, Tryz.ntmps36
    go_wp2_with fail
    have hbx := TrAt.new w (.int .i64 st) (.slice A n c) (.slice B m d) 25
    have hbe : Below w.heap.size w (w.alloc (.cells #[.int .i64 st, .slice A n c, .slice B m d] 25)) := (Below.refl _ _).alloc (Nat.le_refl _) _
    obtain ⟨we, hwe⟩ : ∃ we, we = w.alloc (.cells #[.int .i64 st, .slice A n c, .slice B m d] 25) := ⟨_, rfl⟩
    rw [← hwe] at hbx hbe ⊢
    replace hN := hN.of hbe
    obtain ⟨_, t0, t1, t2⟩ := hbx
    clear hwe d1 d2
    go_loop [17] (fun t => ∃ j : Nat, t = .int .i64 j ∧ j ≤ m ∧ Hid (∀ (i : Nat) x, i < j → N[i]? = some x → x.2.length ≤ 20)) (fun t => m - (intOf t).toNat)
    case atStart => exact ⟨0, rfl, by omega, Lib.hid fun i x hi => absurd hi (by omega)⟩
    case round =>
      obtain ⟨j, rfl, hj, hok⟩ := hrel
      by_cases hlj : j < m
      · have dj : decide ((j : Int) < m) = true := decide_eq_true (by omega)
        obtain ⟨lv, nx, E, me, ce, b, o, hx, rfl, hbl, g1, g2, hE, _⟩ := hN.node hlj
        have hEl := hE.len
        by_cases h20 : 20 < me
        · have HE' := Lib.hid (show fewT H N = false by
            rw [HE.out, List.all_eq_false]
            exact ⟨_, List.mem_of_getElem? hx.out, by simp only [decide_eq_true_eq]; omega⟩)
          have d20 : decide (20 < (me : Int)) = true := decide_eq_true (by omega)
          clear hx hEl hE h20
          go_wp2_with fail
          go_ret
          exact ⟨ret_bool HE'.out.symm, hbe⟩
        · have d20 : decide (20 < (me : Int)) = false := decide_eq_false (by omega)
          have hst := Lib.hid (show ∀ (i : Nat) x, i < j + 1 → N[i]? = some x → x.2.length ≤ 20 from fun i x hi hx' => by
            rcases Nat.lt_or_ge i j with h | h
            · exact hok.out i x h hx'
            · obtain rfl : i = j := by omega
              rw [hx.out] at hx'; injection hx' with hx'; rw [← hx']; simp only; omega)
          clear hx hEl hE h20
          go_wp2_with fail
          go_round
          case rel => exact ⟨j + 1, by go_num, by omega, hst⟩
          case measure => simp [intOf]; omega
      · obtain rfl : j = m := by omega
        have dj : decide ((j : Int) < j) = false := decide_eq_false (by omega)
        have HE' := Lib.hid (show fewT H N = true by
          rw [HE.out, List.all_eq_true]
          intro x hx
          obtain ⟨i, hi, rfl⟩ := List.getElem_of_mem hx
          exact decide_eq_true (hok.out i _ (by rw [← hNl.out]; exact hi) (List.getElem?_eq_getElem hi)))
        go_wp2_with fail
        go_ret
        exact ⟨ret_bool HE'.out.symm, hbe⟩
end
end Go.Proofs.YtabfefhicfmabaaGreat
end
section
namespace Go.Proofs.YtabfefhicfmabaaGreat
open Go Go.RowKit
set_option maxRecDepth 100000
theorem law_small54 (st : Int) (A B D : Option Addr) (n c m d k e : Nat) (H : List (Int × Int)) (N : List (Int × List Int)) (w : World) {v : Bool} (hv : (fewT H N && decide (k ≤ 60)) = v) (hH : Rd encP 2 w A n H) (hN : RdX ekN w B m N) :
    Calls Tryz.prog 15 #[.agg #[.int .i64 st, .slice A n c, .slice B m d], .slice D k e] w fun e w' => e = .returned (.bool v) ∧ Below w.heap.size w w' := by
  have kF := fun w1 h1 h2 => law_Few st A B n c m d H N w1 h1 h2
  obtain ⟨q, hq⟩ : ∃ q, fewT H N = q := ⟨_, rfl⟩
  rw [hq] at kF hv
  clear hq
  cases q with
  | false =>
    obtain rfl : v = false := by simpa using hv.symm
    clear hv
    go_enter Tryz.func15, Tryz.ntmps15
    go_wp2_with fail; go_at_call 36; refine (kF _ (hH.of (by (repeat' (first | exact Below.refl _ _ | assumption | (refine Below.alloc ?_ ?_ _) | (refine Below.setCell ?_ ?_ _) | (refine Below.drew ?_) | (refine below_drewN ?_ _) | (refine below_after (Ext.below _) ?_ ?_) | (refine below_after (by assumption) ?_ ?_) | (simp; done) | omega | (simp; omega))))) (hN.of (by (repeat' (first | exact Below.refl _ _ | assumption | (refine Below.alloc ?_ ?_ _) | (refine Below.setCell ?_ ?_ _) | (refine Below.drew ?_) | (refine below_drewN ?_ _) | (refine below_after (Ext.below _) ?_ ?_) | (refine below_after (by assumption) ?_ ?_) | (simp; done) | omega | (simp; omega)))))).mono ?_; rintro e w1 ⟨rfl, hb1⟩; have hs1 := hb1.size; (try simp only [World.size_alloc, World.size_drew, World.size_setCell] at hs1)
    go_wp2_with fail
    go_ret
    exact ⟨rfl, by (repeat' (first | exact Below.refl _ _ | assumption | (refine Below.alloc ?_ ?_ _) | (refine Below.setCell ?_ ?_ _) | (refine Below.drew ?_) | (refine below_drewN ?_ _) | (refine below_after (Ext.below _) ?_ ?_) | (refine below_after (by assumption) ?_ ?_) | (simp; done) | omega | (simp; omega)))⟩
  | true =>
    have HV := Lib.hid (show decide ((k : Int) ≤ 60) = v by rw [← hv, Bool.true_and, Bool.eq_iff_iff, decide_eq_true_eq, decide_eq_true_eq]; omega)
    clear hv
    go_enter Tryz.func15, Tryz.ntmps15
    go_wp2_with fail; go_at_call 36; refine (kF _ (hH.of (by (repeat' (first | exact Below.refl _ _ | assumption | (refine Below.alloc ?_ ?_ _) | (refine Below.setCell ?_ ?_ _) | (refine Below.drew ?_) | (refine below_drewN ?_ _) | (refine below_after (Ext.below _) ?_ ?_) | (refine below_after (by assumption) ?_ ?_) | (simp; done) | omega | (simp; omega))))) (hN.of (by (repeat' (first | exact Below.refl _ _ | assumption | (refine Below.alloc ?_ ?_ _) | (refine Below.setCell ?_ ?_ _) | (refine Below.drew ?_) | (refine below_drewN ?_ _) | (refine below_after (Ext.below _) ?_ ?_) | (refine below_after (by assumption) ?_ ?_) | (simp; done) | omega | (simp; omega)))))).mono ?_; rintro e w1 ⟨rfl, hb1⟩; have hs1 := hb1.size; (try simp only [World.size_alloc, World.size_drew, World.size_setCell] at hs1)
    go_wp2_with fail
    go_ret
    exact ⟨ret_bool HV.out, by (repeat' (first | exact Below.refl _ _ | assumption | (refine Below.alloc ?_ ?_ _) | (refine Below.setCell ?_ ?_ _) | (refine Below.drew ?_) | (refine below_drewN ?_ _) | (refine below_after (Ext.below _) ?_ ?_) | (refine below_after (by assumption) ?_ ?_) | (simp; done) | omega | (simp; omega)))⟩
end Go.Proofs.YtabfefhicfmabaaGreat
end
