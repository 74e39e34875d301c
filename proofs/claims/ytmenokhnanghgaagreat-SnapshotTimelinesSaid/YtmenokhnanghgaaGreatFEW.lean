/- The contract of chapter 55's few. -/
import Derived.Test.YtmenokhnanghgaaGreatTMT
set_option linter.unusedSimpArgs false
set_option linter.unusedVariables false
section
namespace Go.Proofs.YtmenokhnanghgaaGreat
open Go Go.RowKit
set_option maxRecDepth 100000
/-- A timeline of at most 30 frames of at most 200 cells and changes. -/
def fewS (fs : List TFr) : Bool := decide (fs.length ≤ 30) && fs.all fun f => decide (f.2.2.1.length ≤ 200) && decide (f.2.2.2.length ≤ 200)
theorem few_smS {fs : List TFr} (h : fewS fs = true) : SmT fs ∧ fs.length ≤ 30 := by
  unfold fewS at h
  rw [Bool.and_eq_true, decide_eq_true_eq] at h
  refine ⟨fun f hf => ?_, h.1⟩
  have := List.all_eq_true.1 h.2 f hf
  rw [Bool.and_eq_true, decide_eq_true_eq, decide_eq_true_eq] at this
  omega
theorem few_noS {fs : List TFr} {f : TFr} {j : Nat} (hf : fs[j]? = some f) (h : 200 < f.2.2.1.length ∨ 200 < f.2.2.2.length) : fewS fs = false := by
  unfold fewS
  rw [Bool.and_eq_false_iff]
  right
  rw [List.all_eq_false]
  refine ⟨f, List.mem_of_getElem? hf, ?_⟩
  rw [Bool.and_eq_true, decide_eq_true_eq, decide_eq_true_eq]
  omega
theorem few_allS {fs : List TFr} {n : Nat} (hl : fs.length = n) (h : ∀ (i : Nat) f, i < n → fs[i]? = some f → f.2.2.1.length ≤ 200 ∧ f.2.2.2.length ≤ 200) : fewS fs = decide ((n : Int) ≤ 30) := by
  unfold fewS
  rw [show (fs.all fun f => decide (f.2.2.1.length ≤ 200) && decide (f.2.2.2.length ≤ 200)) = true from ?_, Bool.and_true, hl, decide_eq_decide]
  · omega
  · rw [List.all_eq_true]
    intro f hf
    obtain ⟨i, hi, rfl⟩ := List.getElem_of_mem hf
    have := h i _ (by omega) (List.getElem?_eq_getElem hi)
    rw [Bool.and_eq_true, decide_eq_true_eq, decide_eq_true_eq]
    exact this
set_option maxHeartbeats 4000000 in
theorem law_few55 (key : Int) (A : Option Addr) (n c : Nat) (fs : List TFr) (w : World) (hF : RdX ekFr w A n fs) (hn : n ≤ 9223372036854775807) :
    Calls Tryz.prog 27 #[.agg #[.int .i64 key, .slice A n c]] w fun e w' => e = .returned (.bool (fewS fs)) ∧ Below w.heap.size w w' := by
  have hFl := Lib.hid hF.len
  go_enter Tryz.func27, Tryz.ntmps27
  go_wp2_with fail
  have hbx := BxW.new w [.int .i64 key, .slice A n c] 54
  rw [show ∀ a b : Value, [a, b].toArray = #[a, b] from fun _ _ => rfl] at hbx
  have hB : Below w.heap.size w (w.alloc (.cells #[.int .i64 key, .slice A n c] 54)) := (Below.refl _ _).alloc (Nat.le_refl _) _
  obtain ⟨we, hwe⟩ : ∃ we, we = w.alloc (.cells #[.int .i64 key, .slice A n c] 54) := ⟨_, rfl⟩
  rw [← hwe] at hbx hB ⊢
  clear hwe
  replace hF := hF.of hB
  obtain ⟨xl, x0, x1, -, -⟩ := hbx.open2
  go_wp2_with fail
  go_loop [7] (fun t => ∃ j : Nat, t = .int .i64 j ∧ j ≤ n ∧ Hid (∀ (i : Nat) f, i < j → fs[i]? = some f → f.2.2.1.length ≤ 200 ∧ f.2.2.2.length ≤ 200)) (fun t => n - (intOf t).toNat)
  case atStart => exact ⟨0, rfl, by omega, Lib.hid fun i x hi => absurd hi (by omega)⟩
  case round =>
    obtain ⟨j, rfl, hj, hok⟩ := hrel
    by_cases hlj : j < n
    · have dj : decide ((j : Int) < n) = true := decide_eq_true (by omega)
      have dj' : decide (j < n) = true := decide_eq_true hlj
      obtain ⟨g, fu, C, D, CA, cn, cc, DA, dn, dc, b, o, hx, rfl, hbl, g0, g1, g2, g3, hC, _, hD, _⟩ := hF.frm hlj
      have hCl := hC.len
      have hDl := hD.len
      have i0 : (0 : Int) ≤ (j : Int) := by omega
      have i1 : (j : Int) < (n : Int) := by omega
      by_cases h1 : 200 < cn
      · have HE := Lib.hid (few_noS hx.out (.inl (by show 200 < C.length; omega)))
        have d1 : decide (200 < (cn : Int)) = true := decide_eq_true (by omega)
        have d1' : decide (200 < cn) = true := decide_eq_true (by omega)
        clear hx hCl hDl hC hD h1
        go_wp2_with fail
        go_ret
        exact ⟨ret_bool HE.out.symm, hB⟩
      · have d1 : decide (200 < (cn : Int)) = false := decide_eq_false (by omega)
        have d1' : decide (200 < cn) = false := decide_eq_false (by omega)
        by_cases h2 : 200 < dn
        · have HE := Lib.hid (few_noS hx.out (.inr (by show 200 < D.length; omega)))
          have d2 : decide (200 < (dn : Int)) = true := decide_eq_true (by omega)
          have d2' : decide (200 < dn) = true := decide_eq_true (by omega)
          clear hx hCl hDl hC hD h1 h2
          go_wp2_with fail
          go_ret
          exact ⟨ret_bool HE.out.symm, hB⟩
        · have d2 : decide (200 < (dn : Int)) = false := decide_eq_false (by omega)
          have d2' : decide (200 < dn) = false := decide_eq_false (by omega)
          have hst := Lib.hid (show ∀ (i : Nat) f, i < j + 1 → fs[i]? = some f → f.2.2.1.length ≤ 200 ∧ f.2.2.2.length ≤ 200 from fun i f hi hf => by
            rcases Nat.lt_or_ge i j with h | h
            · exact hok.out i f h hf
            · obtain rfl : i = j := by omega
              rw [hx.out] at hf; injection hf with hf; rw [← hf]; simp only; omega)
          clear hx hCl hDl hC hD h1 h2
          go_wp2_with fail
          go_round
          case rel => exact ⟨j + 1, by go_num, by omega, hst⟩
          case measure => simp [intOf]; omega
    · obtain rfl : j = n := by omega
      have dj : decide ((j : Int) < j) = false := decide_eq_false (by omega)
      have dj' : decide (j < j) = false := decide_eq_false (by omega)
      have HE := Lib.hid (few_allS hFl.out hok.out)
      go_wp2_with fail
      go_ret
      exact ⟨ret_bool HE.out.symm, hB⟩
end Go.Proofs.YtmenokhnanghgaaGreat
end
