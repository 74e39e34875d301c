/- The contract of chapter 52's Few: recipes of few ships and shots. -/
import Derived.Test.YtellglbmbocgkaaGreatDoorColM
namespace Go.Proofs.YtellglbmbocgkaaGreatDoor
open Go Go.RowKit
set_option linter.unusedSimpArgs false
set_option linter.unusedVariables false
set_option maxRecDepth 100000
set_option linter.unusedSimpArgs false
set_option linter.unusedVariables false
/-- What Few answers. -/
def FewQ (n m : Nat) (SL : List ShpT) (w : World) (e : Ending) (w' : World) : Prop := ∃ b, e = .returned (.bool b) ∧ (b = true → n ≤ 4 ∧ m ≤ 5 ∧ ∀ x ∈ SL, x.1.length ≤ 20) ∧ Below w.heap.size w w'
theorem few_no {n m : Nat} {SL : List ShpT} {w : World} {w' : World} (h : Below w.heap.size w w') : FewQ n m SL w (.returned (.bool false)) w' := ⟨false, rfl, (fun h => by cases h), h⟩
theorem few_yes {n m : Nat} {SL : List ShpT} {w : World} {w' : World} (h1 : n ≤ 4) (h2 : m ≤ 5) (h3 : ∀ x ∈ SL, x.1.length ≤ 20) (h : Below w.heap.size w w') : FewQ n m SL w (.returned (.bool true)) w' := ⟨true, rfl, fun _ => ⟨h1, h2, h3⟩, h⟩
section
variable (A B D : Option Addr) (n c m d k e : Nat) (G : Int) (SL : List ShpT) (L : List ShtT) (w : World)
set_option maxHeartbeats 16000000 in
theorem law52_Few (hS : RdX ekSh w A n SL) (hL : Rd encSt 5 w B m L) :
    Calls Tryz.prog 23 #[.agg #[.slice A n c, .slice B m d, .int .i64 G, .slice D k e]] w (FewQ n m SL w) := by
  have hSl := Lib.hid hS.len
  have ways : (decide (4 < (n : Int)) = true) ∨ (decide (4 < (n : Int)) = false ∧ decide (5 < (m : Int)) = true) ∨ (decide (4 < (n : Int)) = false ∧ decide (5 < (m : Int)) = false ∧ decide (30 < G) = true ∧ decide (G ≤ 10000) = true) ∨
      ((decide (4 < (n : Int)) = false ∧ decide (5 < (m : Int)) = false ∧ n ≤ 4 ∧ m ≤ 5) ∧ ((decide (30 < G) = true ∧ decide (G ≤ 10000) = false) ∨ decide (30 < G) = false)) := by
    simp only [decide_eq_true_eq, decide_eq_false_iff_not]; omega
  rcases ways with d1 | ⟨d1, d2⟩ | ⟨d1, d2, d3, d4⟩ | ⟨⟨d1, d2, hn4, hm5⟩, d34⟩
  · go_enter Tryz.func23, Tryz.ntmps23
    go_wp2_with fail
    go_ret
    exact few_no (by (repeat' (first | exact Below.refl _ _ | assumption | (refine Below.alloc ?_ ?_ _) | (refine Below.setCell ?_ ?_ _) | (refine Below.drew ?_) | (refine below_drewN ?_ _) | (refine below_after (Ext.below _) ?_ ?_) | (refine below_after (by assumption) ?_ ?_) | (simp; done) | omega | (simp; omega))))
  · go_enter Tryz.func23, Tryz.ntmps23
    go_wp2_with fail
    go_ret
    exact few_no (by (repeat' (first | exact Below.refl _ _ | assumption | (refine Below.alloc ?_ ?_ _) | (refine Below.setCell ?_ ?_ _) | (refine Below.drew ?_) | (refine below_drewN ?_ _) | (refine below_after (Ext.below _) ?_ ?_) | (refine below_after (by assumption) ?_ ?_) | (simp; done) | omega | (simp; omega))))
  · go_enter Tryz.func23, Tryz.ntmps23
    go_wp2_with fail
    go_ret
    exact few_no (by (repeat' (first | exact Below.refl _ _ | assumption | (refine Below.alloc ?_ ?_ _) | (refine Below.setCell ?_ ?_ _) | (refine Below.drew ?_) | (refine below_drewN ?_ _) | (refine below_after (Ext.below _) ?_ ?_) | (refine below_after (by assumption) ?_ ?_) | (simp; done) | omega | (simp; omega))))
  · by_cases h60 : 60 < (k : Int)
    · have d5 : decide (60 < (k : Int)) = true := decide_eq_true h60
      clear h60
      rcases d34 with ⟨d3, d4⟩ | d3
      all_goals
        go_enter Tryz.func23, Tryz.ntmps23
        go_wp2_with fail
        go_ret
        exact few_no (by (repeat' (first | exact Below.refl _ _ | assumption | (refine Below.alloc ?_ ?_ _) | (refine Below.setCell ?_ ?_ _) | (refine Below.drew ?_) | (refine below_drewN ?_ _) | (refine below_after (Ext.below _) ?_ ?_) | (refine below_after (by assumption) ?_ ?_) | (simp; done) | omega | (simp; omega))))
    have d5 : decide (60 < (k : Int)) = false := decide_eq_false h60
    clear h60
    rcases d34 with ⟨d3, d4⟩ | d3
    all_goals
      go_enter Tryz.func23, Tryz.ntmps23
      go_wp2_with fail
      have hbr := BxW.new w [.slice A n c, .slice B m d, .int .i64 G, .slice D k e] 65
      rw [show ∀ a b c d : Value, [a, b, c, d].toArray = #[a, b, c, d] from fun _ _ _ _ => rfl] at hbr
      have hB : Below w.heap.size w (w.alloc (.cells #[.slice A n c, .slice B m d, .int .i64 G, .slice D k e] 65)) := (Below.refl _ _).alloc (Nat.le_refl _) _
      obtain ⟨we, hwe⟩ : ∃ we, we = w.alloc (.cells #[.slice A n c, .slice B m d, .int .i64 G, .slice D k e] 65) := ⟨_, rfl⟩
      rw [← hwe] at hbr hB ⊢
      clear hwe
      have hS1 := hS.of hB
      have hL1 := hL.of hB
      obtain ⟨_, r0, r1, r2, r3, -, -, -, -⟩ := hbr.open4
      clear hbr
      (try clear d1 d2 d3 d5)
      go_loop [34] (fun t => ∃ j : Nat, t = .int .i64 (j : Int) ∧ j ≤ n ∧ Hid (∀ (i : Nat) x, i < j → SL[i]? = some x → x.1.length ≤ 20)) (fun t => n - (intOf t).toNat)
      case atStart => exact ⟨0, rfl, by omega, Lib.hid fun i x hi => absurd hi (by omega)⟩
      case round =>
        obtain ⟨j, rfl, hj, hok⟩ := hrel
        by_cases hlj : j < n
        · have dj : decide ((j : Int) < n) = true := decide_eq_true (by omega)
          have dj' : decide (j < n) = true := decide_eq_true hlj
          obtain ⟨l, P, X, Y, E, q, g, b, o, hx, hAe, hbl, g0, g1, g2, g3, hR, hqg⟩ := hS1.shp hlj
          have hql := hR.len
          subst hAe
          have i0 : (0 : Int) ≤ (j : Int) := by omega
          have i1 : (j : Int) < (n : Int) := by omega
          by_cases h20 : 20 < q
          · have d20 : decide (20 < (q : Int)) = true := decide_eq_true (by omega)
            clear hx hR hql h20
            go_wp2_with fail
            go_ret
            exact few_no hB
          · have d20 : decide (20 < (q : Int)) = false := decide_eq_false (by omega)
            have hst := Lib.hid (show ∀ (i : Nat) x, i < j + 1 → SL[i]? = some x → x.1.length ≤ 20 from fun i x hi hx' => by
              by_cases ei : i = j
              · subst ei; rw [hx.out] at hx'; injection hx' with hx'; rw [← hx']; show l.length ≤ 20; omega
              · exact hok.out i x (by omega) hx')
            clear hx hR hql h20
            have ways2 : (decide (16 < P) = true ∧ decide (P ≤ 10000) = true) ∨ (decide (16 < P) = true ∧ decide (P ≤ 10000) = false) ∨ decide (16 < P) = false := by
              simp only [decide_eq_true_eq, decide_eq_false_iff_not]; omega
            rcases ways2 with ⟨e1, e2⟩ | ⟨e1, e2⟩ | e1
            · go_wp2_with fail
              go_ret
              exact few_no hB
            · go_wp2_with fail
              go_round
              case rel => exact ⟨j + 1, by go_num, by omega, hst⟩
              case measure => simp [intOf]; omega
            · go_wp2_with fail
              go_round
              case rel => exact ⟨j + 1, by go_num, by omega, hst⟩
              case measure => simp [intOf]; omega
        · obtain rfl : j = n := by omega
          have dj : decide ((j : Int) < j) = false := decide_eq_false (by omega)
          have dj' : decide (j < j) = false := decide_eq_false hlj
          have hall := Lib.hid (show ∀ x ∈ SL, x.1.length ≤ 20 from fun x hx => by
            obtain ⟨i, hi, rfl⟩ := List.getElem_of_mem hx
            exact hok.out i _ (by rw [hSl.out] at hi; exact hi) (List.getElem?_eq_getElem hi))
          go_wp2_with fail
          go_loop [69] (fun t => ∃ i : Nat, t = .int .i64 (i : Int) ∧ i ≤ m) (fun t => m - (intOf t).toNat)
          case atStart => exact ⟨0, rfl, by omega⟩
          case round =>
            obtain ⟨i, rfl, hi⟩ := hrel
            by_cases hli : i < m
            · have di : decide ((i : Int) < m) = true := decide_eq_true (by omega)
              have di' : decide (i < m) = true := decide_eq_true hli
              obtain ⟨a, f, s, X, Y, b, o, hx, hBe, hbl, g0, g1, g2, g3, g4⟩ := hL1.sht hli
              subst hBe
              have i0 : (0 : Int) ≤ (i : Int) := by omega
              have i1 : (i : Int) < (m : Int) := by omega
              clear hx
              have ways2 : (decide (40 < f) = true ∧ decide (f ≤ 10000) = true) ∨ (decide (40 < f) = true ∧ decide (f ≤ 10000) = false) ∨ decide (40 < f) = false := by
                simp only [decide_eq_true_eq, decide_eq_false_iff_not]; omega
              rcases ways2 with ⟨e1, e2⟩ | ⟨e1, e2⟩ | e1
              · go_wp2_with fail
                go_ret
                exact few_no hB
              · go_wp2_with fail
                go_round
                case rel => exact ⟨i + 1, by go_num, by omega⟩
                case measure => simp [intOf]; omega
              · go_wp2_with fail
                go_round
                case rel => exact ⟨i + 1, by go_num, by omega⟩
                case measure => simp [intOf]; omega
            · obtain rfl : i = m := by omega
              have di : decide ((i : Int) < i) = false := decide_eq_false (by omega)
              have di' : decide (i < i) = false := decide_eq_false hli
              go_wp2_with fail
              go_ret
              exact few_yes hn4 hm5 hall.out hB
end
end Go.Proofs.YtellglbmbocgkaaGreatDoor
