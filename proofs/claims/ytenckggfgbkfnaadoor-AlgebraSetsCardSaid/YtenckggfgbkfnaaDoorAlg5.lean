/- The contracts of the references of Over, Xor, And, Without, Disjoint and Cut. -/
import Derived.Test.YtenckggfgbkfnaaDoorPLN
import Derived.Test.YtenckggfgbkfnaaDoorMEM
import Derived.Test.YtenckggfgbkfnaaDoorFromS
import Derived.Test.YtenckggfgbkfnaaDoorCell8
import Derived.Test.YtenckggfgbkfnaaDoorBox3
namespace Go.Proofs.YtenckggfgbkfnaaDoor
open Go Go.RowKit
set_option linter.unusedSimpArgs false
set_option linter.unusedVariables false
set_option maxRecDepth 100000
attribute [local go_sem ↓ high] eq_cl neq_cl eq_pt neq_pt
theorem ref06_has (A : Option Addr) (n c : Nat) (l : List (Int × Int × Int)) (x y s : Int) (w : World) (hR : Rd encC 3 w A n l) (hn : n ≤ 1000000) :
    Calls Tryd.prog 60 #[.slice A n c, .agg #[.int .i64 x, .int .i64 y, .int .i64 s]] w fun e w' => e = .returned (.bool (getC l x y != 0)) ∧ Below w.heap.size w w' := by
  have hR := hR.of (show Below w.heap.size w (w.alloc (.cells #[.int .i64 x, .int .i64 y, .int .i64 s] 54)) from (Below.refl _ _).alloc (Nat.le_refl _) _)
  go_enter Tryd.func60, Tryd.ntmps60
  go_wp2_with fail; go_at_call 72; refine (ref05_Get _ _ _ _ _ _ _ hR hn).mono ?_; rintro e w1 ⟨rfl, hb1⟩; have hs1 := hb1.size; (try simp only [World.size_alloc, World.size_drew, World.size_setCell] at hs1)
  go_wp2_with fail
  go_ret
  exact ⟨rfl, by (repeat' (first | exact Below.refl _ _ | assumption | (refine Below.alloc ?_ ?_ _) | (refine Below.setCell ?_ ?_ _) | (refine Below.drew ?_) | (refine below_drewN ?_ _) | (refine below_after (Ext.below _) ?_ ?_) | (refine below_after (by assumption) ?_ ?_) | (simp; done) | omega | (simp; omega)))⟩
set_option maxHeartbeats 4000000 in
theorem ref06_pick (A A' : Option Addr) (n m c d : Nat) (l r : List (Int × Int × Int)) (q : Bool) (w : World) (hR : Rd encC 3 w A n l) (hS : Rd encC 3 w A' m r) (hn : n ≤ 1000000) (hm : m ≤ 1000000) :
    Calls Tryd.prog 40 #[.slice A n c, .slice A' m d, .bool q] w fun e w' => ∃ A2 n2 c2, e = .returned (.slice A2 n2 c2) ∧ Rd encC 3 w' A2 n2 (pickR l r q) ∧ n2 ≤ n ∧ Below w.heap.size w w' := by
  go_enter Tryd.func40, Tryd.ntmps40
  go_wp2
  go_loopw [7, 8] (fun v i wr => ∃ (E : Option Addr) (p s j : Nat), v = .slice E p s ∧ i = .int .i64 j ∧ j ≤ n ∧ p ≤ j ∧ Own encC 3 54 w.heap.size wr E p s (pickR (l.take j) r q) ∧ Below w.heap.size w wr) (fun _ i _ => n - (intOf i).toNat)
  case atStart => exact ⟨none, 0, 0, 0, rfl, rfl, by omega, by omega, Own.nil_, Below.refl _ _⟩
  case round =>
    obtain ⟨E, p, s, j, rfl, rfl, hj, hp, hown, hb⟩ := hrel
    obtain ⟨hc, hf⟩ := bcell hb
    have hs := hb.size
    by_cases hlt : j < n
    · have dj : decide ((j : Int) < n) = true := decide_eq_true (by omega)
      obtain ⟨x', y', s', bo, o, hx, rfl, hbl, g1, g2, g3⟩ := hR.cell hlt
      have hst : pickR (l.take (j + 1)) r q = pickR (l.take j) r q ++ (if ((getC r x' y' != 0) == q) = true then [(x', y', s')] else []) := filter_step _ hx.out
      have kH := fun w9 (h : Rd encC 3 w9 A' m r) => ref06_has A' m d r x' y' s' w9 h hm
      have hSr := hS.of hb
      generalize (getC r x' y' != 0) = v at hst kH
      by_cases hv : (v == q) = true
      · have HT := Lib.hid (show pickR (l.take (j + 1)) r q = pickR (l.take j) r q ++ [(x', y', s')] by rw [hst, if_pos hv])
        clear hst
        go_wp2_with fail; go_at_call 60; refine (kH _ (hSr.of (by (repeat' (first | exact Below.refl _ _ | assumption | (refine Below.alloc ?_ ?_ _) | (refine Below.setCell ?_ ?_ _) | (refine Below.drew ?_) | (refine below_drewN ?_ _) | (refine below_after (Ext.below _) ?_ ?_) | (refine below_after (by assumption) ?_ ?_) | (simp; done) | omega | (simp; omega)))))).mono ?_; rintro e w5 ⟨rfl, hb5⟩; have hs5 := hb5.size; (try simp only [World.size_alloc, World.size_drew, World.size_setCell] at hs5); obtain ⟨hc5, hf5⟩ := bcell hb5; (try simp only [World.size_alloc, World.size_setCell, World.size_drew] at hc5 hf5)
        have hownq := hown.of hb5
        go_wp2_with (first | (at_builtin; refine wpList_append_el rfl (.tmp 23) (.tmp 28) 23 rfl encC 3 54 (.agg #[.int .i64 0, .int .i64 0, .int .i64 0]) 24 Tryd.underlying23 (by kernel_rfl) rfl (by decide) encC_len encC_one (w.heap.size) _ _ _ _ rfl (hownq.alloc _) (x', y', s') ⟨(w5).heap.size, 0, none⟩ 1 rfl (cells_new (w5) _ _) (by omega) (by omega) (by first | omega | (simp; done) | (simp; omega)) ?_; intro A6 c6 w6 hown6 hg6 hb6; obtain ⟨hc6, hf6⟩ := bcell hb6; have hs6 := hb6.size; (try simp only [World.size_alloc, World.size_setCell, World.size_drew] at hc6 hf6); (try simp at hs6)))
        go_roundw
        case rel => exact ⟨A6, p + 1, c6, j + 1, rfl, by go_num, by omega, by omega, by rw [HT.out]; exact hown6, by (repeat' (first | exact Below.refl _ _ | assumption | (refine Below.alloc ?_ ?_ _) | (refine Below.setCell ?_ ?_ _) | (refine Below.drew ?_) | (refine below_drewN ?_ _) | (refine below_after (Ext.below _) ?_ ?_) | (refine below_after (by assumption) ?_ ?_) | (simp; done) | omega | (simp; omega)))⟩
        case measure => simp [intOf]; omega
      · have hv0 : (v == q) = false := by simpa using hv
        have HT := Lib.hid (show pickR (l.take (j + 1)) r q = pickR (l.take j) r q by rw [hst, if_neg hv, List.append_nil])
        clear hst hv
        go_wp2_with fail; go_at_call 60; refine (kH _ (hSr.of (by (repeat' (first | exact Below.refl _ _ | assumption | (refine Below.alloc ?_ ?_ _) | (refine Below.setCell ?_ ?_ _) | (refine Below.drew ?_) | (refine below_drewN ?_ _) | (refine below_after (Ext.below _) ?_ ?_) | (refine below_after (by assumption) ?_ ?_) | (simp; done) | omega | (simp; omega)))))).mono ?_; rintro e w5 ⟨rfl, hb5⟩; have hs5 := hb5.size; (try simp only [World.size_alloc, World.size_drew, World.size_setCell] at hs5); obtain ⟨hc5, hf5⟩ := bcell hb5; (try simp only [World.size_alloc, World.size_setCell, World.size_drew] at hc5 hf5)
        go_wp2_with fail
        go_roundw
        case rel => exact ⟨E, p, s, j + 1, rfl, by go_num, by omega, by omega, by rw [HT.out]; exact hown.of hb5, by (repeat' (first | exact Below.refl _ _ | assumption | (refine Below.alloc ?_ ?_ _) | (refine Below.setCell ?_ ?_ _) | (refine Below.drew ?_) | (refine below_drewN ?_ _) | (refine below_after (Ext.below _) ?_ ?_) | (refine below_after (by assumption) ?_ ?_) | (simp; done) | omega | (simp; omega)))⟩
        case measure => simp [intOf]; omega
    · obtain rfl : j = n := by omega
      have dj : decide ((j : Int) < j) = false := decide_eq_false (by omega)
      rw [List.take_of_length_le (by rw [hR.len]; omega)] at hown
      go_wp2_with fail
      go_ret
      exact ⟨E, p, s, rfl, hown.rd encC_len, hp, hb⟩
theorem ref06_sorted (A : Option Addr) (n c : Nat) (l : List (Int × Int × Int)) (w : World) (hR : Rd encC 3 w A n l) (hn : n ≤ 1000000) :
    Calls Tryd.prog 41 #[.slice A n c] w fun e w' => ∃ A2 n2 c2, e = .returned (.tuple #[.slice A2 n2 c2, .int .i64 (soE l)]) ∧ Rd encC 3 w' A2 n2 (soL l) ∧ n2 ≤ n ∧ Below w.heap.size w w' := by
  have hl := hR.len
  by_cases h : 5000 < n
  · have HE := Lib.hid (show soE l = 6 ∧ soL l = [] by unfold soE soL; rw [if_pos (by omega), if_pos (by omega)]; exact ⟨rfl, rfl⟩)
    have d : decide ((5000 : Int) < (n : Int)) = true := decide_eq_true (by omega)
    clear hl
    go_enter Tryd.func41, Tryd.ntmps41
    go_wp2
    go_ret2
    exact ⟨none, 0, 0, ret_pe HE.out.1.symm, by rw [HE.out.2]; exact Rd.nil_, by omega, Below.refl _ _⟩
  · have HE := Lib.hid (show soE l = 0 ∧ soL l = frL l by unfold soE soL; rw [if_neg (by omega), if_neg (by omega)]; exact ⟨rfl, rfl⟩)
    have d : decide ((5000 : Int) < (n : Int)) = false := decide_eq_false (by omega)
    clear hl
    go_enter Tryd.func41, Tryd.ntmps41
    go_wp2_with fail; go_at_call 61; refine (ref05_From _ _ _ _ _ hR hn).mono ?_; rintro e w1 ⟨A1, n1, c1, rfl, hR1, hn1, hb1⟩; have hs1 := hb1.size; (try simp only [World.size_alloc, World.size_drew, World.size_setCell] at hs1)
    go_wp2_with fail
    go_ret2
    exact ⟨A1, n1, c1, ret_pe HE.out.1.symm, by rw [HE.out.2]; exact hR1, hn1, hb1⟩
theorem both_ways5 (a b : List (Int × Int × Int)) : (rightC a = false) ∨ (rightC a = true ∧ rightC b = false) ∨ (rightC a = true ∧ rightC b = true) := by
  cases rightC a <;> cases rightC b <;> simp
set_option maxHeartbeats 4000000 in
theorem ref06_Over (A A' : Option Addr) (n m c d : Nat) (l r : List (Int × Int × Int)) (w : World) (hR : Rd encC 3 w A n l) (hS : Rd encC 3 w A' m r) (hnm : n + m ≤ 1000000) :
    Calls Tryd.prog 13 #[.slice A n c, .slice A' m d] w fun e w' => ∃ A2 n2 c2, e = .returned (.tuple #[.slice A2 n2 c2, .int .i64 (alE 0 l r)]) ∧ Rd encC 3 w' A2 n2 (alL 0 l r) ∧ n2 ≤ n + m ∧ Below w.heap.size w w' := by
  rcases both_ways5 l r with h1 | ⟨h1, h2⟩ | ⟨h1, h2⟩
  · have HE := Lib.hid (alE_bad 0 (a := l) (b := r) (.inl h1))
    have kR := fun w1 (h : Rd encC 3 w1 A n l) => ref05_RightV (A := A) (n := n) (c := c) h1 w1 h (by omega)
    clear h1
    go_enter Tryd.func13, Tryd.ntmps13
    go_wp2_with fail; go_at_call 23; refine (kR _ hR).mono ?_; rintro e w1 ⟨rfl, hb1⟩; have hs1 := hb1.size; (try simp only [World.size_alloc, World.size_drew, World.size_setCell] at hs1)
    go_wp2_with fail
    go_ret2
    exact ⟨none, 0, 0, ret_pe HE.out.symm, by rw [alL_no HE.out (by omega)]; exact Rd.nil_, by omega, by (repeat' (first | exact Below.refl _ _ | assumption | (refine Below.alloc ?_ ?_ _) | (refine Below.setCell ?_ ?_ _) | (refine Below.drew ?_) | (refine below_drewN ?_ _) | (refine below_after (Ext.below _) ?_ ?_) | (refine below_after (by assumption) ?_ ?_) | (simp; done) | omega | (simp; omega)))⟩
  · have HE := Lib.hid (alE_bad 0 (a := l) (b := r) (.inr h2))
    have kR := fun w1 (h : Rd encC 3 w1 A n l) => ref05_RightV (A := A) (n := n) (c := c) h1 w1 h (by omega)
    have kS := fun w1 (h : Rd encC 3 w1 A' m r) => ref05_RightV (A := A') (n := m) (c := d) h2 w1 h (by omega)
    clear h1 h2
    go_enter Tryd.func13, Tryd.ntmps13
    go_wp2_with fail; go_at_call 23; refine (kR _ hR).mono ?_; rintro e w1 ⟨rfl, hb1⟩; have hs1 := hb1.size; (try simp only [World.size_alloc, World.size_drew, World.size_setCell] at hs1)
    go_wp2_with fail; go_at_call 23; refine (kS _ (hS.of hb1)).mono ?_; rintro e w2 ⟨rfl, hb2⟩; have hs2 := hb2.size; (try simp only [World.size_alloc, World.size_drew, World.size_setCell] at hs2)
    go_wp2_with fail
    go_ret2
    exact ⟨none, 0, 0, ret_pe HE.out.symm, by rw [alL_no HE.out (by omega)]; exact Rd.nil_, by omega, by (repeat' (first | exact Below.refl _ _ | assumption | (refine Below.alloc ?_ ?_ _) | (refine Below.setCell ?_ ?_ _) | (refine Below.drew ?_) | (refine below_drewN ?_ _) | (refine below_after (Ext.below _) ?_ ?_) | (refine below_after (by assumption) ?_ ?_) | (simp; done) | omega | (simp; omega)))⟩
  · have HQ := Lib.hid (ov_ref h1 h2)
    have kR := fun w1 (h : Rd encC 3 w1 A n l) => ref05_RightV (A := A) (n := n) (c := c) h1 w1 h (by omega)
    have kS := fun w1 (h : Rd encC 3 w1 A' m r) => ref05_RightV (A := A') (n := m) (c := d) h2 w1 h (by omega)
    clear h1 h2
    go_enter Tryd.func13, Tryd.ntmps13
    go_wp2_with fail; go_at_call 23; refine (kR _ hR).mono ?_; rintro e w1 ⟨rfl, hb1⟩; have hs1 := hb1.size; (try simp only [World.size_alloc, World.size_drew, World.size_setCell] at hs1)
    go_wp2_with fail; go_at_call 23; refine (kS _ (hS.of hb1)).mono ?_; rintro e w2 ⟨rfl, hb2⟩; have hs2 := hb2.size; (try simp only [World.size_alloc, World.size_drew, World.size_setCell] at hs2)
    have hB2 : Below w.heap.size w w2 := by (repeat' (first | exact Below.refl _ _ | assumption | (refine Below.alloc ?_ ?_ _) | (refine Below.setCell ?_ ?_ _) | (refine Below.drew ?_) | (refine below_drewN ?_ _) | (refine below_after (Ext.below _) ?_ ?_) | (refine below_after (by assumption) ?_ ?_) | (simp; done) | omega | (simp; omega)))
    have hR2 := (hR.of hB2)
    have hS2 := (hS.of hB2)
    have hs0 := hB2.size
    clear hb1 hb2 hs1 hs2 kR kS
    go_wp2_with (first | (at_builtin; refine wpList_append_els rfl (.tmp 15) (.tmp 16) 22 23 rfl encC 3 54 (.agg #[.int .i64 0, .int .i64 0, .int .i64 0]) 24 Tryd.underlying22 Tryd.underlying23 (by kernel_rfl) rfl (by decide) encC_len encC_one (w2.heap.size) _ _ _ _ rfl ((Own.nil_ : Own encC 3 54 w2.heap.size w2 none 0 0 [])) _ _ _ _ rfl (hR2) (by omega) (by omega) (by first | omega | (simp; done) | (simp; omega)) ?_; intro A3 c3 w3 hown3 hg3 hb3; obtain ⟨hc3, hf3⟩ := bcell hb3; have hs3 := hb3.size; (try simp only [World.size_alloc, World.size_setCell, World.size_drew] at hc3 hf3); (try simp at hs3); (try simp only [Nat.zero_add, List.nil_append] at hown3)))
    go_at_call 40
    refine (ref06_pick _ _ _ _ _ _ _ _ _ _ (hS2.of (hb3.mono (Nat.le_refl _))) (hR2.of (hb3.mono (Nat.le_refl _))) (by omega) (by omega)).mono ?_
    rintro e w4 ⟨A4, n4, c4, rfl, hR4, hn4, hb4⟩
    have hs4 := hb4.size
    have hown4 := hown3.of hb4
    go_wp2_with (first | (at_builtin; refine wpList_append_els rfl (.tmp 18) (.tmp 21) 22 23 rfl encC 3 54 (.agg #[.int .i64 0, .int .i64 0, .int .i64 0]) 24 Tryd.underlying22 Tryd.underlying23 (by kernel_rfl) rfl (by decide) encC_len encC_one (w2.heap.size) _ _ _ _ rfl (hown4) _ _ _ _ rfl (hR4) (by omega) (by omega) (by first | omega | (simp; done) | (simp; omega)) ?_; intro A5 c5 w5 hown5 hg5 hb5; obtain ⟨hc5, hf5⟩ := bcell hb5; have hs5 := hb5.size; (try simp only [World.size_alloc, World.size_setCell, World.size_drew] at hc5 hf5); (try simp at hs5); (try simp only [Nat.zero_add, List.nil_append] at hown5)))
    go_wp2_with fail; go_at_call 41; refine (ref06_sorted _ _ _ _ _ (hown5.rd encC_len) (by omega)).mono ?_; rintro e w9 ⟨A9, n9, c9, rfl, hR9, hn9, hb9⟩; have hs9 := hb9.size; (try simp only [World.size_alloc, World.size_drew, World.size_setCell] at hs9)
    have hQ1 := HQ.out.1
    have hQ2 := HQ.out.2
    unfold ovR at hQ1 hQ2
    rw [hQ2] at hR9
    have HQ1 := Lib.hid hQ1
    clear hQ1 hQ2
    go_wp2_with fail
    go_ret2
    exact ⟨A9, n9, c9, ret_pe HQ1.out, hR9, by omega, by (repeat' (first | exact Below.refl _ _ | assumption | (refine Below.alloc ?_ ?_ _) | (refine Below.setCell ?_ ?_ _) | (refine Below.drew ?_) | (refine below_drewN ?_ _) | (refine below_after (Ext.below _) ?_ ?_) | (refine below_after (by assumption) ?_ ?_) | (simp; done) | omega | (simp; omega)))⟩
set_option maxHeartbeats 4000000 in
theorem ref06_Xor (A A' : Option Addr) (n m c d : Nat) (l r : List (Int × Int × Int)) (w : World) (hR : Rd encC 3 w A n l) (hS : Rd encC 3 w A' m r) (hnm : n + m ≤ 1000000) :
    Calls Tryd.prog 15 #[.slice A n c, .slice A' m d] w fun e w' => ∃ A2 n2 c2, e = .returned (.tuple #[.slice A2 n2 c2, .int .i64 (alE 3 l r)]) ∧ Rd encC 3 w' A2 n2 (alL 3 l r) ∧ n2 ≤ n + m ∧ Below w.heap.size w w' := by
  rcases both_ways5 l r with h1 | ⟨h1, h2⟩ | ⟨h1, h2⟩
  · have HE := Lib.hid (alE_bad 3 (a := l) (b := r) (.inl h1))
    have kR := fun w1 (h : Rd encC 3 w1 A n l) => ref05_RightV (A := A) (n := n) (c := c) h1 w1 h (by omega)
    clear h1
    go_enter Tryd.func15, Tryd.ntmps15
    go_wp2_with fail; go_at_call 23; refine (kR _ hR).mono ?_; rintro e w1 ⟨rfl, hb1⟩; have hs1 := hb1.size; (try simp only [World.size_alloc, World.size_drew, World.size_setCell] at hs1)
    go_wp2_with fail
    go_ret2
    exact ⟨none, 0, 0, ret_pe HE.out.symm, by rw [alL_no HE.out (by omega)]; exact Rd.nil_, by omega, by (repeat' (first | exact Below.refl _ _ | assumption | (refine Below.alloc ?_ ?_ _) | (refine Below.setCell ?_ ?_ _) | (refine Below.drew ?_) | (refine below_drewN ?_ _) | (refine below_after (Ext.below _) ?_ ?_) | (refine below_after (by assumption) ?_ ?_) | (simp; done) | omega | (simp; omega)))⟩
  · have HE := Lib.hid (alE_bad 3 (a := l) (b := r) (.inr h2))
    have kR := fun w1 (h : Rd encC 3 w1 A n l) => ref05_RightV (A := A) (n := n) (c := c) h1 w1 h (by omega)
    have kS := fun w1 (h : Rd encC 3 w1 A' m r) => ref05_RightV (A := A') (n := m) (c := d) h2 w1 h (by omega)
    clear h1 h2
    go_enter Tryd.func15, Tryd.ntmps15
    go_wp2_with fail; go_at_call 23; refine (kR _ hR).mono ?_; rintro e w1 ⟨rfl, hb1⟩; have hs1 := hb1.size; (try simp only [World.size_alloc, World.size_drew, World.size_setCell] at hs1)
    go_wp2_with fail; go_at_call 23; refine (kS _ (hS.of hb1)).mono ?_; rintro e w2 ⟨rfl, hb2⟩; have hs2 := hb2.size; (try simp only [World.size_alloc, World.size_drew, World.size_setCell] at hs2)
    go_wp2_with fail
    go_ret2
    exact ⟨none, 0, 0, ret_pe HE.out.symm, by rw [alL_no HE.out (by omega)]; exact Rd.nil_, by omega, by (repeat' (first | exact Below.refl _ _ | assumption | (refine Below.alloc ?_ ?_ _) | (refine Below.setCell ?_ ?_ _) | (refine Below.drew ?_) | (refine below_drewN ?_ _) | (refine below_after (Ext.below _) ?_ ?_) | (refine below_after (by assumption) ?_ ?_) | (simp; done) | omega | (simp; omega)))⟩
  · have HQ := Lib.hid (xo_ref h1 h2)
    have kR := fun w1 (h : Rd encC 3 w1 A n l) => ref05_RightV (A := A) (n := n) (c := c) h1 w1 h (by omega)
    have kS := fun w1 (h : Rd encC 3 w1 A' m r) => ref05_RightV (A := A') (n := m) (c := d) h2 w1 h (by omega)
    clear h1 h2
    go_enter Tryd.func15, Tryd.ntmps15
    go_wp2_with fail; go_at_call 23; refine (kR _ hR).mono ?_; rintro e w1 ⟨rfl, hb1⟩; have hs1 := hb1.size; (try simp only [World.size_alloc, World.size_drew, World.size_setCell] at hs1)
    go_wp2_with fail; go_at_call 23; refine (kS _ (hS.of hb1)).mono ?_; rintro e w2 ⟨rfl, hb2⟩; have hs2 := hb2.size; (try simp only [World.size_alloc, World.size_drew, World.size_setCell] at hs2)
    have hB2 : Below w.heap.size w w2 := by (repeat' (first | exact Below.refl _ _ | assumption | (refine Below.alloc ?_ ?_ _) | (refine Below.setCell ?_ ?_ _) | (refine Below.drew ?_) | (refine below_drewN ?_ _) | (refine below_after (Ext.below _) ?_ ?_) | (refine below_after (by assumption) ?_ ?_) | (simp; done) | omega | (simp; omega)))
    have hR2 := (hR.of hB2)
    have hS2 := (hS.of hB2)
    have hs0 := hB2.size
    clear hb1 hb2 hs1 hs2 kR kS
    go_wp2_with fail
    go_at_call 40
    refine (ref06_pick _ _ _ _ _ _ _ _ _ _ hR2 hS2 (by omega) (by omega)).mono ?_
    rintro e w3 ⟨A3, n3, c3, rfl, hR3, hn3, hb3⟩
    have hs3 := hb3.size
    go_wp2_with (first | (at_builtin; refine wpList_append_els rfl (.tmp 15) (.tmp 18) 22 23 rfl encC 3 54 (.agg #[.int .i64 0, .int .i64 0, .int .i64 0]) 24 Tryd.underlying22 Tryd.underlying23 (by kernel_rfl) rfl (by decide) encC_len encC_one (w3.heap.size) _ _ _ _ rfl ((Own.nil_ : Own encC 3 54 w3.heap.size w3 none 0 0 [])) _ _ _ _ rfl (hR3) (by omega) (by omega) (by first | omega | (simp; done) | (simp; omega)) ?_; intro A4 c4 w4 hown4 hg4 hb4; obtain ⟨hc4, hf4⟩ := bcell hb4; have hs4 := hb4.size; (try simp only [World.size_alloc, World.size_setCell, World.size_drew] at hc4 hf4); (try simp at hs4); (try simp only [Nat.zero_add, List.nil_append] at hown4)))
    go_at_call 40
    refine (ref06_pick _ _ _ _ _ _ _ _ _ _ (hS2.of (by (repeat' (first | exact Below.refl _ _ | assumption | (refine Below.alloc ?_ ?_ _) | (refine Below.setCell ?_ ?_ _) | (refine Below.drew ?_) | (refine below_drewN ?_ _) | (refine below_after (Ext.below _) ?_ ?_) | (refine below_after (by assumption) ?_ ?_) | (simp; done) | omega | (simp; omega))))) (hR2.of (by (repeat' (first | exact Below.refl _ _ | assumption | (refine Below.alloc ?_ ?_ _) | (refine Below.setCell ?_ ?_ _) | (refine Below.drew ?_) | (refine below_drewN ?_ _) | (refine below_after (Ext.below _) ?_ ?_) | (refine below_after (by assumption) ?_ ?_) | (simp; done) | omega | (simp; omega))))) (by omega) (by omega)).mono ?_
    rintro e w5 ⟨A5, n5, c5, rfl, hR5, hn5, hb5⟩
    have hs5 := hb5.size
    have hown6 := hown4.of hb5
    go_wp2_with (first | (at_builtin; refine wpList_append_els rfl (.tmp 20) (.tmp 23) 22 23 rfl encC 3 54 (.agg #[.int .i64 0, .int .i64 0, .int .i64 0]) 24 Tryd.underlying22 Tryd.underlying23 (by kernel_rfl) rfl (by decide) encC_len encC_one (w3.heap.size) _ _ _ _ rfl (hown6) _ _ _ _ rfl (hR5) (by omega) (by omega) (by first | omega | (simp; done) | (simp; omega)) ?_; intro A7 c7 w7 hown7 hg7 hb7; obtain ⟨hc7, hf7⟩ := bcell hb7; have hs7 := hb7.size; (try simp only [World.size_alloc, World.size_setCell, World.size_drew] at hc7 hf7); (try simp at hs7); (try simp only [Nat.zero_add, List.nil_append] at hown7)))
    go_wp2_with fail; go_at_call 41; refine (ref06_sorted _ _ _ _ _ (hown7.rd encC_len) (by omega)).mono ?_; rintro e w9 ⟨A9, n9, c9, rfl, hR9, hn9, hb9⟩; have hs9 := hb9.size; (try simp only [World.size_alloc, World.size_drew, World.size_setCell] at hs9)
    have hQ1 := HQ.out.1
    have hQ2 := HQ.out.2
    unfold xoR at hQ1 hQ2
    rw [hQ2] at hR9
    have HQ1 := Lib.hid hQ1
    clear hQ1 hQ2
    go_wp2_with fail
    go_ret2
    exact ⟨A9, n9, c9, ret_pe HQ1.out, hR9, by omega, by (repeat' (first | exact Below.refl _ _ | assumption | (refine Below.alloc ?_ ?_ _) | (refine Below.setCell ?_ ?_ _) | (refine Below.drew ?_) | (refine below_drewN ?_ _) | (refine below_after (Ext.below _) ?_ ?_) | (refine below_after (by assumption) ?_ ?_) | (simp; done) | omega | (simp; omega)))⟩
set_option maxHeartbeats 4000000 in
theorem ref06_And (A A' : Option Addr) (n m c d : Nat) (l r : List (Int × Int × Int)) (w : World) (hR : Rd encC 3 w A n l) (hS : Rd encC 3 w A' m r) (hnm : n + m ≤ 1000000) :
    Calls Tryd.prog 29 #[.slice A n c, .slice A' m d] w fun e w' => ∃ A2 n2 c2, e = .returned (.slice A2 n2 c2) ∧ Rd encC 3 w' A2 n2 (pkL 1 l r) ∧ n2 ≤ n ∧ Below w.heap.size w w' := by
  rcases both_ways5 l r with h1 | ⟨h1, h2⟩ | ⟨h1, h2⟩
  · have HE := Lib.hid (pkL_no 1 (a := l) (b := r) (.inl h1))
    have kR := fun w1 (h : Rd encC 3 w1 A n l) => ref05_RightV (A := A) (n := n) (c := c) h1 w1 h (by omega)
    clear h1
    go_enter Tryd.func29, Tryd.ntmps29
    go_wp2_with fail; go_at_call 23; refine (kR _ hR).mono ?_; rintro e w1 ⟨rfl, hb1⟩; have hs1 := hb1.size; (try simp only [World.size_alloc, World.size_drew, World.size_setCell] at hs1)
    go_wp2_with fail
    go_ret
    exact ⟨none, 0, 0, rfl, by rw [HE.out]; exact Rd.nil_, by omega, by (repeat' (first | exact Below.refl _ _ | assumption | (refine Below.alloc ?_ ?_ _) | (refine Below.setCell ?_ ?_ _) | (refine Below.drew ?_) | (refine below_drewN ?_ _) | (refine below_after (Ext.below _) ?_ ?_) | (refine below_after (by assumption) ?_ ?_) | (simp; done) | omega | (simp; omega)))⟩
  · have HE := Lib.hid (pkL_no 1 (a := l) (b := r) (.inr h2))
    have kR := fun w1 (h : Rd encC 3 w1 A n l) => ref05_RightV (A := A) (n := n) (c := c) h1 w1 h (by omega)
    have kS := fun w1 (h : Rd encC 3 w1 A' m r) => ref05_RightV (A := A') (n := m) (c := d) h2 w1 h (by omega)
    clear h1 h2
    go_enter Tryd.func29, Tryd.ntmps29
    go_wp2_with fail; go_at_call 23; refine (kR _ hR).mono ?_; rintro e w1 ⟨rfl, hb1⟩; have hs1 := hb1.size; (try simp only [World.size_alloc, World.size_drew, World.size_setCell] at hs1)
    go_wp2_with fail; go_at_call 23; refine (kS _ (hS.of hb1)).mono ?_; rintro e w2 ⟨rfl, hb2⟩; have hs2 := hb2.size; (try simp only [World.size_alloc, World.size_drew, World.size_setCell] at hs2)
    go_wp2_with fail
    go_ret
    exact ⟨none, 0, 0, rfl, by rw [HE.out]; exact Rd.nil_, by omega, by (repeat' (first | exact Below.refl _ _ | assumption | (refine Below.alloc ?_ ?_ _) | (refine Below.setCell ?_ ?_ _) | (refine Below.drew ?_) | (refine below_drewN ?_ _) | (refine below_after (Ext.below _) ?_ ?_) | (refine below_after (by assumption) ?_ ?_) | (simp; done) | omega | (simp; omega)))⟩
  · have HE := Lib.hid (show pickR l r true = pkL 1 l r by rw [pkL_yes 1 h1 h2]; exact (pick_res h1 h2).1)
    have kR := fun w1 (h : Rd encC 3 w1 A n l) => ref05_RightV (A := A) (n := n) (c := c) h1 w1 h (by omega)
    have kS := fun w1 (h : Rd encC 3 w1 A' m r) => ref05_RightV (A := A') (n := m) (c := d) h2 w1 h (by omega)
    clear h1 h2
    go_enter Tryd.func29, Tryd.ntmps29
    go_wp2_with fail; go_at_call 23; refine (kR _ hR).mono ?_; rintro e w1 ⟨rfl, hb1⟩; have hs1 := hb1.size; (try simp only [World.size_alloc, World.size_drew, World.size_setCell] at hs1)
    go_wp2_with fail; go_at_call 23; refine (kS _ (hS.of hb1)).mono ?_; rintro e w2 ⟨rfl, hb2⟩; have hs2 := hb2.size; (try simp only [World.size_alloc, World.size_drew, World.size_setCell] at hs2)
    go_wp2_with fail; go_at_call 40; refine (ref06_pick _ _ _ _ _ _ _ _ _ _ (hR.of (by (repeat' (first | exact Below.refl _ _ | assumption | (refine Below.alloc ?_ ?_ _) | (refine Below.setCell ?_ ?_ _) | (refine Below.drew ?_) | (refine below_drewN ?_ _) | (refine below_after (Ext.below _) ?_ ?_) | (refine below_after (by assumption) ?_ ?_) | (simp; done) | omega | (simp; omega))))) (hS.of (by (repeat' (first | exact Below.refl _ _ | assumption | (refine Below.alloc ?_ ?_ _) | (refine Below.setCell ?_ ?_ _) | (refine Below.drew ?_) | (refine below_drewN ?_ _) | (refine below_after (Ext.below _) ?_ ?_) | (refine below_after (by assumption) ?_ ?_) | (simp; done) | omega | (simp; omega))))) (by omega) (by omega)).mono ?_; rintro e w3 ⟨A3, n3, c3, rfl, hR3, hn3, hb3⟩; have hs3 := hb3.size; (try simp only [World.size_alloc, World.size_drew, World.size_setCell] at hs3)
    go_wp2_with fail
    go_ret
    exact ⟨A3, n3, c3, rfl, by rw [← HE.out]; exact hR3, hn3, by (repeat' (first | exact Below.refl _ _ | assumption | (refine Below.alloc ?_ ?_ _) | (refine Below.setCell ?_ ?_ _) | (refine Below.drew ?_) | (refine below_drewN ?_ _) | (refine below_after (Ext.below _) ?_ ?_) | (refine below_after (by assumption) ?_ ?_) | (simp; done) | omega | (simp; omega)))⟩
set_option maxHeartbeats 4000000 in
theorem ref06_Without (A A' : Option Addr) (n m c d : Nat) (l r : List (Int × Int × Int)) (w : World) (hR : Rd encC 3 w A n l) (hS : Rd encC 3 w A' m r) (hnm : n + m ≤ 1000000) :
    Calls Tryd.prog 30 #[.slice A n c, .slice A' m d] w fun e w' => ∃ A2 n2 c2, e = .returned (.slice A2 n2 c2) ∧ Rd encC 3 w' A2 n2 (pkL 2 l r) ∧ n2 ≤ n ∧ Below w.heap.size w w' := by
  rcases both_ways5 l r with h1 | ⟨h1, h2⟩ | ⟨h1, h2⟩
  · have HE := Lib.hid (pkL_no 2 (a := l) (b := r) (.inl h1))
    have kR := fun w1 (h : Rd encC 3 w1 A n l) => ref05_RightV (A := A) (n := n) (c := c) h1 w1 h (by omega)
    clear h1
    go_enter Tryd.func30, Tryd.ntmps30
    go_wp2_with fail; go_at_call 23; refine (kR _ hR).mono ?_; rintro e w1 ⟨rfl, hb1⟩; have hs1 := hb1.size; (try simp only [World.size_alloc, World.size_drew, World.size_setCell] at hs1)
    go_wp2_with fail
    go_ret
    exact ⟨none, 0, 0, rfl, by rw [HE.out]; exact Rd.nil_, by omega, by (repeat' (first | exact Below.refl _ _ | assumption | (refine Below.alloc ?_ ?_ _) | (refine Below.setCell ?_ ?_ _) | (refine Below.drew ?_) | (refine below_drewN ?_ _) | (refine below_after (Ext.below _) ?_ ?_) | (refine below_after (by assumption) ?_ ?_) | (simp; done) | omega | (simp; omega)))⟩
  · have HE := Lib.hid (pkL_no 2 (a := l) (b := r) (.inr h2))
    have kR := fun w1 (h : Rd encC 3 w1 A n l) => ref05_RightV (A := A) (n := n) (c := c) h1 w1 h (by omega)
    have kS := fun w1 (h : Rd encC 3 w1 A' m r) => ref05_RightV (A := A') (n := m) (c := d) h2 w1 h (by omega)
    clear h1 h2
    go_enter Tryd.func30, Tryd.ntmps30
    go_wp2_with fail; go_at_call 23; refine (kR _ hR).mono ?_; rintro e w1 ⟨rfl, hb1⟩; have hs1 := hb1.size; (try simp only [World.size_alloc, World.size_drew, World.size_setCell] at hs1)
    go_wp2_with fail; go_at_call 23; refine (kS _ (hS.of hb1)).mono ?_; rintro e w2 ⟨rfl, hb2⟩; have hs2 := hb2.size; (try simp only [World.size_alloc, World.size_drew, World.size_setCell] at hs2)
    go_wp2_with fail
    go_ret
    exact ⟨none, 0, 0, rfl, by rw [HE.out]; exact Rd.nil_, by omega, by (repeat' (first | exact Below.refl _ _ | assumption | (refine Below.alloc ?_ ?_ _) | (refine Below.setCell ?_ ?_ _) | (refine Below.drew ?_) | (refine below_drewN ?_ _) | (refine below_after (Ext.below _) ?_ ?_) | (refine below_after (by assumption) ?_ ?_) | (simp; done) | omega | (simp; omega)))⟩
  · have HE := Lib.hid (show pickR l r false = pkL 2 l r by rw [pkL_yes 2 h1 h2]; exact (pick_res h1 h2).2)
    have kR := fun w1 (h : Rd encC 3 w1 A n l) => ref05_RightV (A := A) (n := n) (c := c) h1 w1 h (by omega)
    have kS := fun w1 (h : Rd encC 3 w1 A' m r) => ref05_RightV (A := A') (n := m) (c := d) h2 w1 h (by omega)
    clear h1 h2
    go_enter Tryd.func30, Tryd.ntmps30
    go_wp2_with fail; go_at_call 23; refine (kR _ hR).mono ?_; rintro e w1 ⟨rfl, hb1⟩; have hs1 := hb1.size; (try simp only [World.size_alloc, World.size_drew, World.size_setCell] at hs1)
    go_wp2_with fail; go_at_call 23; refine (kS _ (hS.of hb1)).mono ?_; rintro e w2 ⟨rfl, hb2⟩; have hs2 := hb2.size; (try simp only [World.size_alloc, World.size_drew, World.size_setCell] at hs2)
    go_wp2_with fail; go_at_call 40; refine (ref06_pick _ _ _ _ _ _ _ _ _ _ (hR.of (by (repeat' (first | exact Below.refl _ _ | assumption | (refine Below.alloc ?_ ?_ _) | (refine Below.setCell ?_ ?_ _) | (refine Below.drew ?_) | (refine below_drewN ?_ _) | (refine below_after (Ext.below _) ?_ ?_) | (refine below_after (by assumption) ?_ ?_) | (simp; done) | omega | (simp; omega))))) (hS.of (by (repeat' (first | exact Below.refl _ _ | assumption | (refine Below.alloc ?_ ?_ _) | (refine Below.setCell ?_ ?_ _) | (refine Below.drew ?_) | (refine below_drewN ?_ _) | (refine below_after (Ext.below _) ?_ ?_) | (refine below_after (by assumption) ?_ ?_) | (simp; done) | omega | (simp; omega))))) (by omega) (by omega)).mono ?_; rintro e w3 ⟨A3, n3, c3, rfl, hR3, hn3, hb3⟩; have hs3 := hb3.size; (try simp only [World.size_alloc, World.size_drew, World.size_setCell] at hs3)
    go_wp2_with fail
    go_ret
    exact ⟨A3, n3, c3, rfl, by rw [← HE.out]; exact hR3, hn3, by (repeat' (first | exact Below.refl _ _ | assumption | (refine Below.alloc ?_ ?_ _) | (refine Below.setCell ?_ ?_ _) | (refine Below.drew ?_) | (refine below_drewN ?_ _) | (refine below_after (Ext.below _) ?_ ?_) | (refine below_after (by assumption) ?_ ?_) | (simp; done) | omega | (simp; omega)))⟩
set_option maxHeartbeats 4000000 in
theorem ref06_Disjoint (A A' : Option Addr) (n m c d : Nat) (l r : List (Int × Int × Int)) (w : World) (hR : Rd encC 3 w A n l) (hS : Rd encC 3 w A' m r) (hnm : n + m ≤ 1000000) :
    Calls Tryd.prog 31 #[.slice A n c, .slice A' m d] w fun e w' => e = .returned (.bool (djB l r)) ∧ Below w.heap.size w w' := by
  rcases both_ways5 l r with h1 | ⟨h1, h2⟩ | ⟨h1, h2⟩
  · have HE := Lib.hid (djB_no (a := l) (b := r) (.inl h1))
    have kR := fun w1 (h : Rd encC 3 w1 A n l) => ref05_RightV (A := A) (n := n) (c := c) h1 w1 h (by omega)
    clear h1
    go_enter Tryd.func31, Tryd.ntmps31
    go_wp2_with fail; go_at_call 23; refine (kR _ hR).mono ?_; rintro e w1 ⟨rfl, hb1⟩; have hs1 := hb1.size; (try simp only [World.size_alloc, World.size_drew, World.size_setCell] at hs1)
    go_wp2_with fail
    go_ret
    exact ⟨ret_bool HE.out.symm, by (repeat' (first | exact Below.refl _ _ | assumption | (refine Below.alloc ?_ ?_ _) | (refine Below.setCell ?_ ?_ _) | (refine Below.drew ?_) | (refine below_drewN ?_ _) | (refine below_after (Ext.below _) ?_ ?_) | (refine below_after (by assumption) ?_ ?_) | (simp; done) | omega | (simp; omega)))⟩
  · have HE := Lib.hid (djB_no (a := l) (b := r) (.inr h2))
    have kR := fun w1 (h : Rd encC 3 w1 A n l) => ref05_RightV (A := A) (n := n) (c := c) h1 w1 h (by omega)
    have kS := fun w1 (h : Rd encC 3 w1 A' m r) => ref05_RightV (A := A') (n := m) (c := d) h2 w1 h (by omega)
    clear h1 h2
    go_enter Tryd.func31, Tryd.ntmps31
    go_wp2_with fail; go_at_call 23; refine (kR _ hR).mono ?_; rintro e w1 ⟨rfl, hb1⟩; have hs1 := hb1.size; (try simp only [World.size_alloc, World.size_drew, World.size_setCell] at hs1)
    go_wp2_with fail; go_at_call 23; refine (kS _ (hS.of hb1)).mono ?_; rintro e w2 ⟨rfl, hb2⟩; have hs2 := hb2.size; (try simp only [World.size_alloc, World.size_drew, World.size_setCell] at hs2)
    go_wp2_with fail
    go_ret
    exact ⟨ret_bool HE.out.symm, by (repeat' (first | exact Below.refl _ _ | assumption | (refine Below.alloc ?_ ?_ _) | (refine Below.setCell ?_ ?_ _) | (refine Below.drew ?_) | (refine below_drewN ?_ _) | (refine below_after (Ext.below _) ?_ ?_) | (refine below_after (by assumption) ?_ ?_) | (simp; done) | omega | (simp; omega)))⟩
  · have HE := Lib.hid (show djB l r = (pickR l r true).isEmpty by unfold djB; rw [h1, h2, (pick_res h1 h2).1]; rfl)
    have kR := fun w1 (h : Rd encC 3 w1 A n l) => ref05_RightV (A := A) (n := n) (c := c) h1 w1 h (by omega)
    have kS := fun w1 (h : Rd encC 3 w1 A' m r) => ref05_RightV (A := A') (n := m) (c := d) h2 w1 h (by omega)
    clear h1 h2
    go_enter Tryd.func31, Tryd.ntmps31
    go_wp2_with fail; go_at_call 23; refine (kR _ hR).mono ?_; rintro e w1 ⟨rfl, hb1⟩; have hs1 := hb1.size; (try simp only [World.size_alloc, World.size_drew, World.size_setCell] at hs1)
    go_wp2_with fail; go_at_call 23; refine (kS _ (hS.of hb1)).mono ?_; rintro e w2 ⟨rfl, hb2⟩; have hs2 := hb2.size; (try simp only [World.size_alloc, World.size_drew, World.size_setCell] at hs2)
    go_wp2_with fail; go_at_call 40; refine (ref06_pick _ _ _ _ _ _ _ _ _ _ (hR.of (by (repeat' (first | exact Below.refl _ _ | assumption | (refine Below.alloc ?_ ?_ _) | (refine Below.setCell ?_ ?_ _) | (refine Below.drew ?_) | (refine below_drewN ?_ _) | (refine below_after (Ext.below _) ?_ ?_) | (refine below_after (by assumption) ?_ ?_) | (simp; done) | omega | (simp; omega))))) (hS.of (by (repeat' (first | exact Below.refl _ _ | assumption | (refine Below.alloc ?_ ?_ _) | (refine Below.setCell ?_ ?_ _) | (refine Below.drew ?_) | (refine below_drewN ?_ _) | (refine below_after (Ext.below _) ?_ ?_) | (refine below_after (by assumption) ?_ ?_) | (simp; done) | omega | (simp; omega))))) (by omega) (by omega)).mono ?_; rintro e w3 ⟨A3, n3, c3, rfl, hR3, hn3, hb3⟩; have hs3 := hb3.size; (try simp only [World.size_alloc, World.size_drew, World.size_setCell] at hs3)
    have hlen := hR3.len
    have e3 : ((n3 : Int) == 0) = (pickR l r true).isEmpty := by
      rw [← hlen]
      cases pickR l r true with
      | nil => rfl
      | cons x q => simp; omega
    clear hlen
    go_wp2_with fail
    go_ret
    exact ⟨ret_bool HE.out.symm, by (repeat' (first | exact Below.refl _ _ | assumption | (refine Below.alloc ?_ ?_ _) | (refine Below.setCell ?_ ?_ _) | (refine Below.drew ?_) | (refine below_drewN ?_ _) | (refine below_after (Ext.below _) ?_ ?_) | (refine below_after (by assumption) ?_ ?_) | (simp; done) | omega | (simp; omega)))⟩
set_option maxHeartbeats 4000000 in
theorem ref06_Cut (A : Option Addr) (n c : Nat) (l : List (Int × Int × Int)) (x y wd h : Int) (w : World) (hR : Rd encC 3 w A n l) (hn : n ≤ 1000000) :
    Calls Tryd.prog 33 #[.slice A n c, .agg #[.int .i64 x, .int .i64 y, .int .i64 wd, .int .i64 h]] w fun e w' => ∃ A2 n2 c2, e = .returned (.slice A2 n2 c2) ∧ Rd encC 3 w' A2 n2 (ctL l x y wd h) ∧ n2 ≤ n ∧ Below w.heap.size w w' := by
  have hR := hR.of (show Below w.heap.size w (w.alloc (.cells #[.int .i64 x, .int .i64 y, .int .i64 wd, .int .i64 h] 43)) from (Below.refl _ _).alloc (Nat.le_refl _) _)
  have xb := BoxAt.new w x y wd h 43
  cases hr : rightC l with
  | false =>
    have HE := Lib.hid (ctL_no (x := x) (y := y) (w := wd) (h := h) (.inl hr))
    have kR := fun w1 (h : Rd encC 3 w1 A n l) => ref05_RightV (A := A) (n := n) (c := c) hr w1 h (by omega)
    clear hr
    go_enter Tryd.func33, Tryd.ntmps33
    go_wp2_with fail; go_at_call 23; refine (kR _ hR).mono ?_; rintro e w1 ⟨rfl, hb1⟩; have hs1 := hb1.size; (try simp only [World.size_alloc, World.size_drew, World.size_setCell] at hs1)
    go_wp2_with fail
    go_ret
    exact ⟨none, 0, 0, rfl, by rw [HE.out]; exact Rd.nil_, by omega, by (repeat' (first | exact Below.refl _ _ | assumption | (refine Below.alloc ?_ ?_ _) | (refine Below.setCell ?_ ?_ _) | (refine Below.drew ?_) | (refine below_drewN ?_ _) | (refine below_after (Ext.below _) ?_ ?_) | (refine below_after (by assumption) ?_ ?_) | (simp; done) | omega | (simp; omega)))⟩
  | true =>
    have HE := Lib.hid (show ctL l x y wd h = l.filter (fun c => boxInB x y wd h c.1 c.2.1) by unfold ctL; rw [if_pos hr])
    have kR := fun w1 (h : Rd encC 3 w1 A n l) => ref05_RightV (A := A) (n := n) (c := c) hr w1 h (by omega)
    clear hr
    go_enter Tryd.func33, Tryd.ntmps33
    go_wp2_with fail; go_at_call 23; refine (kR _ hR).mono ?_; rintro e w1 ⟨rfl, hb1⟩; have hs1 := hb1.size; (try simp only [World.size_alloc, World.size_drew, World.size_setCell] at hs1)
    have hB1 : Below w.heap.size w w1 := by (repeat' (first | exact Below.refl _ _ | assumption | (refine Below.alloc ?_ ?_ _) | (refine Below.setCell ?_ ?_ _) | (refine Below.drew ?_) | (refine below_drewN ?_ _) | (refine below_after (Ext.below _) ?_ ?_) | (refine below_after (by assumption) ?_ ?_) | (simp; done) | omega | (simp; omega)))
    have hR1 := hR.of hb1
    obtain ⟨q0, q1, q2, q3, q4⟩ := xb.of hb1
    have hs0 := hB1.size
    clear hb1 hs1 kR hR xb
    go_wp2_with fail
    go_loopw [5, 6] (fun v i wr => ∃ (E : Option Addr) (m d j : Nat), v = .slice E m d ∧ i = .int .i64 j ∧ j ≤ n ∧ m ≤ j ∧ Own encC 3 54 w1.heap.size wr E m d ((l.take j).filter (fun c => boxInB x y wd h c.1 c.2.1)) ∧ Below w1.heap.size w1 wr) (fun _ i _ => n - (intOf i).toNat)
    case atStart => exact ⟨none, 0, 0, 0, rfl, rfl, by omega, by omega, Own.nil_, Below.refl _ _⟩
    case round =>
      obtain ⟨E, m, d, j, rfl, rfl, hj, hm, hown, hb⟩ := hrel
      obtain ⟨hc, hf⟩ := bcell hb
      have hs := hb.size
      by_cases hlt : j < n
      · have dj : decide ((j : Int) < n) = true := decide_eq_true (by omega)
        obtain ⟨x', y', s', bo, o, hx, rfl, hbl, g1, g2, g3⟩ := hR1.cell hlt
        have hst : (l.take (j + 1)).filter (fun c => boxInB x y wd h c.1 c.2.1) = (l.take j).filter (fun c => boxInB x y wd h c.1 c.2.1) ++ (if boxInB x y wd h x' y' = true then [(x', y', s')] else []) := filter_step _ hx.out
        have kI := fun w9 => ref_In3 x y wd h x' y' w9
        cases hq : boxInB x y wd h x' y' with
        | false =>
          rw [hq] at kI
          have HT := Lib.hid (show (l.take (j + 1)).filter (fun c => boxInB x y wd h c.1 c.2.1) = (l.take j).filter (fun c => boxInB x y wd h c.1 c.2.1) by rw [hst, hq]; simp)
          clear hst hq
          go_wp2_with fail
          (refine wp_region_ext_lit (by kernel_rfl) (by kernel_rfl) ?_; (repeat (go_big_quiet_step ((go_at_call 57; exact calls_ext (kI _))))); refine wpQuiet_nil ?_; intro _ hw'; obtain ⟨z3, hw''⟩ := hw'; subst hw''; have hs3 := z3.size; obtain ⟨hc3, hf3⟩ := bcell z3.below; (try simp only [World.size_alloc, World.size_setCell, World.size_drew] at hc3 hf3); (try simp at hs3))
          go_wp2_with fail
          go_roundw
          case rel => exact ⟨E, m, d, j + 1, rfl, by go_num, by omega, by omega, by rw [HT.out]; exact hown.of z3.below, by (repeat' (first | exact Below.refl _ _ | assumption | (refine Below.alloc ?_ ?_ _) | (refine Below.setCell ?_ ?_ _) | (refine Below.drew ?_) | (refine below_drewN ?_ _) | (refine below_after (Ext.below _) ?_ ?_) | (refine below_after (by assumption) ?_ ?_) | (simp; done) | omega | (simp; omega)))⟩
          case measure => simp [intOf]; omega
        | true =>
          rw [hq] at kI
          have HT := Lib.hid (show (l.take (j + 1)).filter (fun c => boxInB x y wd h c.1 c.2.1) = (l.take j).filter (fun c => boxInB x y wd h c.1 c.2.1) ++ [(x', y', s')] by rw [hst, hq]; simp)
          clear hst hq
          go_wp2_with fail
          (refine wp_region_ext_lit (by kernel_rfl) (by kernel_rfl) ?_; (repeat (go_big_quiet_step ((go_at_call 57; exact calls_ext (kI _))))); refine wpQuiet_nil ?_; intro _ hw'; obtain ⟨z3, hw''⟩ := hw'; subst hw''; have hs3 := z3.size; obtain ⟨hc3, hf3⟩ := bcell z3.below; (try simp only [World.size_alloc, World.size_setCell, World.size_drew] at hc3 hf3); (try simp at hs3))
          have hownz := hown.of z3.below
          go_wp2_with (first | (at_builtin; refine wpList_append_el rfl (.tmp 29) (.tmp 34) 23 rfl encC 3 54 (.agg #[.int .i64 0, .int .i64 0, .int .i64 0]) 24 Tryd.underlying23 (by kernel_rfl) rfl (by decide) encC_len encC_one (w1.heap.size) _ _ _ _ rfl (hownz.alloc _) (x', y', s') ⟨(z3.world).heap.size, 0, none⟩ 1 rfl (cells_new (z3.world) _ _) (by omega) (by omega) (by first | omega | (simp; done) | (simp; omega)) ?_; intro A5 c5 w5 hown5 hg5 hb5; obtain ⟨hc5, hf5⟩ := bcell hb5; have hs5 := hb5.size; (try simp only [World.size_alloc, World.size_setCell, World.size_drew] at hc5 hf5); (try simp at hs5)))
          go_roundw
          case rel => exact ⟨A5, m + 1, c5, j + 1, rfl, by go_num, by omega, by omega, by rw [HT.out]; exact hown5, by (repeat' (first | exact Below.refl _ _ | assumption | (refine Below.alloc ?_ ?_ _) | (refine Below.setCell ?_ ?_ _) | (refine Below.drew ?_) | (refine below_drewN ?_ _) | (refine below_after (Ext.below _) ?_ ?_) | (refine below_after (by assumption) ?_ ?_) | (simp; done) | omega | (simp; omega)))⟩
          case measure => simp [intOf]; omega
      · obtain rfl : j = n := by omega
        have dj : decide ((j : Int) < j) = false := decide_eq_false (by omega)
        rw [List.take_of_length_le (by rw [hR1.len]; omega)] at hown
        go_wp2_with fail
        go_ret
        exact ⟨E, m, d, rfl, by rw [HE.out]; exact hown.rd encC_len, hm, below_after hb hB1 (by omega)⟩
end Go.Proofs.YtenckggfgbkfnaaDoor
