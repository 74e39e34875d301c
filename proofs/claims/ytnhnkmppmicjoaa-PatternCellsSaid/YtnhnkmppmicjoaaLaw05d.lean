/- The walk of PatternCells. -/
import Derived.Test.YtnhnkmppmicjoaaAwake05
import Derived.Test.YtnhnkmppmicjoaaCellQ
namespace Go.Proofs.Ytnhnkmppmicjoaa
open Go Go.RowKit
set_option linter.unusedSimpArgs false
set_option linter.unusedVariables false
set_option maxRecDepth 100000
attribute [local go_sem ↓ high] eq_cl neq_cl eq_pt neq_pt eq_box neq_box
theorem few05 {A : Option Addr} {n c : Nat} {q : Bool} (h : decide (n ≤ 800) = q) (w : World) : Calls Try.prog 35 #[.slice A n c] w fun e w' => e = .returned (.bool q) ∧ w = w' := by
  rw [← h]
  clear h
  go_enter Try.func35, Try.ntmps35
  go_wp2
  go_ret
  exact ⟨ret_bool (by rw [Bool.eq_iff_iff]; simp; omega), rfl⟩
theorem few05y {A : Option Addr} {n c : Nat} (h : n ≤ 800) (w : World) : Calls Try.prog 35 #[.slice A n c] w fun e w' => e = .returned (.bool true) ∧ w = w' := few05 (A := A) (c := c) (decide_eq_true h) w
theorem few05n {A : Option Addr} {n c : Nat} (h : 800 < n) (w : World) : Calls Try.prog 35 #[.slice A n c] w fun e w' => e = .returned (.bool false) ∧ w = w' := few05 (A := A) (c := c) (decide_eq_false (by omega : ¬ n ≤ 800)) w
theorem mv_mv5 (dx dy : Int) : mv dx dy = mv5 dx dy := rfl
set_option maxHeartbeats 16000000 in
theorem law_pcells (A C : Option Addr) (n k c g : Nat) (l q : List (Int × Int × Int)) (x y s : Int) (w : World) (hR : Rd encC 3 w A n l) (hT : Rd encC 3 w C k q) :
    Calls Try.prog 13 #[.slice A n c, .agg #[.int .i64 x, .int .i64 y, .int .i64 s], .slice C k g] w fun e w' => e = .returned (.bool true) ∧ Below w.heap.size w w' := by
  rcases Nat.lt_or_ge 800 n with h1 | h1
  · have kF := fun w1 => few05n (A := A) (c := c) h1 w1
    go_enter Try.func13, Try.ntmps13
    go_wp2_with (first | (go_at_call 35; refine (kF _).mono ?_; rintro e w' ⟨rfl, rfl⟩) | (go_at_call 36; refine (awake_05 _).mono ?_; rintro e w5 ⟨rfl, hb5⟩; obtain ⟨hc5, hf5⟩ := bcell hb5; have hs5 := hb5.size; (try simp only [World.size_alloc, World.size_setCell, World.size_drew] at hc5 hf5); (try simp at hs5)))
    go_ret
    exact ⟨rfl, by (repeat' (first | exact Below.refl _ _ | assumption | (refine Below.alloc ?_ ?_ _) | (refine Below.setCell ?_ ?_ _) | (refine Below.drew ?_) | (refine below_drewN ?_ _) | (refine below_after (Ext.below _) ?_ ?_) | (refine below_after (by assumption) ?_ ?_) | (simp; done) | omega | (simp; omega)))⟩
  have kF := fun w1 => few05y (A := A) (c := c) h1 w1
  rcases Nat.lt_or_ge 800 k with h2 | h2
  · have kG := fun w1 => few05n (A := C) (c := g) h2 w1
    go_enter Try.func13, Try.ntmps13
    go_wp2_with fail
    (go_at_call 35; refine (kF _).mono ?_; rintro e w' ⟨rfl, rfl⟩)
    go_wp2_with fail
    (go_at_call 35; refine (kG _).mono ?_; rintro e w' ⟨rfl, rfl⟩)
    go_wp2_with (first | (go_at_call 36; refine (awake_05 _).mono ?_; rintro e w5 ⟨rfl, hb5⟩; obtain ⟨hc5, hf5⟩ := bcell hb5; have hs5 := hb5.size; (try simp only [World.size_alloc, World.size_setCell, World.size_drew] at hc5 hf5); (try simp at hs5)))
    go_ret
    exact ⟨rfl, by (repeat' (first | exact Below.refl _ _ | assumption | (refine Below.alloc ?_ ?_ _) | (refine Below.setCell ?_ ?_ _) | (refine Below.drew ?_) | (refine below_drewN ?_ _) | (refine below_after (Ext.below _) ?_ ?_) | (refine below_after (by assumption) ?_ ?_) | (simp; done) | omega | (simp; omega)))⟩
  have kG := fun w1 => few05y (A := C) (c := g) h2 w1
  by_cases h0 : setE l x y s = 0
  · have H0 := Lib.hid h0
    have kSt := fun w1 (a : Rd encC 3 w1 A n l) => pat_Set A n c l x y s w1 a (by omega)
    rw [h0] at kSt
    clear h0
    go_enter Try.func13, Try.ntmps13
    go_wp2_with fail
    (go_at_call 35; refine (kF _).mono ?_; rintro e w' ⟨rfl, rfl⟩)
    go_wp2_with fail
    (go_at_call 35; refine (kG _).mono ?_; rintro e w' ⟨rfl, rfl⟩)
    go_wp2_with fail; go_at_call 51; refine (kSt _ (hR.of (by (repeat' (first | exact Below.refl _ _ | assumption | (refine Below.alloc ?_ ?_ _) | (refine Below.setCell ?_ ?_ _) | (refine Below.drew ?_) | (refine below_drewN ?_ _) | (refine below_after (Ext.below _) ?_ ?_) | (refine below_after (by assumption) ?_ ?_) | (simp; done) | omega | (simp; omega)))))).mono ?_; rintro e w1 ⟨A1, n1, c1, rfl, hR1, hn1, hb1⟩; have hs1 := hb1.size; (try simp only [World.size_alloc, World.size_drew, World.size_setCell] at hs1); obtain ⟨hc1, hf1⟩ := bcell hb1; (try simp only [World.size_alloc, World.size_setCell, World.size_drew] at hc1 hf1)
    have kGt := fun w1 (a : Rd encC 3 w1 A1 n1 (setL l x y s)) => pat_Get A1 n1 c1 (setL l x y s) x y w1 a (by omega)
    rw [setL_get H0.out] at kGt
    have hc0 : w1.cell? ⟨w.heap.size, 0, none⟩ = some (.int .i64 x) ∧ w1.cell? ⟨w.heap.size, 1, none⟩ = some (.int .i64 y) := by
      refine ⟨?_, ?_⟩ <;> simp [*, ↓IntWalk.iteOmega]
    go_wp2_with fail
    (refine wp_region_ext_lit (by kernel_rfl) (by kernel_rfl) ?_; (repeat (go_big_quiet_step (first | (go_at_call 41; exact calls_ext (kGt _ (hR1.of (by (repeat' (first | exact Below.refl _ _ | assumption | (refine Below.alloc ?_ ?_ _) | (refine Below.setCell ?_ ?_ _) | (refine Below.drew ?_) | (refine below_drewN ?_ _) | (refine below_after (Ext.below _) ?_ ?_) | (refine below_after (by assumption) ?_ ?_) | (simp; done) | omega | (simp; omega))))))) | (go_at_call 39; exact calls_ext (pat_RightV (setL_right H0.out) _ (hR1.of (by (repeat' (first | exact Below.refl _ _ | assumption | (refine Below.alloc ?_ ?_ _) | (refine Below.setCell ?_ ?_ _) | (refine Below.drew ?_) | (refine below_drewN ?_ _) | (refine below_after (Ext.below _) ?_ ?_) | (refine below_after (by assumption) ?_ ?_) | (simp; done) | omega | (simp; omega))))) (by omega)))))); refine wpQuiet_nil ?_; intro _ hw'; obtain ⟨z3, hw''⟩ := hw'; subst hw''; have hs3 := z3.size; obtain ⟨hc3, hf3⟩ := bcell z3.below; (try simp only [World.size_alloc, World.size_setCell, World.size_drew] at hc3 hf3); (try simp at hs3))
    have hb3 := z3.below
    have hB3 : Below w.heap.size w z3.world := by (repeat' (first | exact Below.refl _ _ | assumption | (refine Below.alloc ?_ ?_ _) | (refine Below.setCell ?_ ?_ _) | (refine Below.drew ?_) | (refine below_drewN ?_ _) | (refine below_after (Ext.below _) ?_ ?_) | (refine below_after (by assumption) ?_ ?_) | (simp; done) | omega | (simp; omega)))
    have hR3 : Rd encC 3 z3.world A n l := hR.of hB3
    have hT3 : Rd encC 3 z3.world C k q := hT.of hB3
    have hS3 : Rd encC 3 z3.world A1 n1 (setL l x y s) := hR1.of hb3
    have q0 : z3.world.cell? ⟨w.heap.size, 0, none⟩ = some (.int .i64 x) := (hb3.cell (p := ⟨_, _, none⟩) (by show w.heap.size < _; omega)).trans hc0.1
    have q1 : z3.world.cell? ⟨w.heap.size, 1, none⟩ = some (.int .i64 y) := (hb3.cell (p := ⟨_, _, none⟩) (by show w.heap.size < _; omega)).trans hc0.2
    have hs0 : w.heap.size < z3.world.heap.size := by have := hb3.size; omega
    clear hc0 hc1 hf1 hc3 hf3 hb1 hb3 hs1 hs3 hR1 kGt kSt hT hR
    generalize z3.world = V at *
    go_wp2_with fail
    go_loopw [52] (fun i wr => ∃ j : Nat, j ≤ n ∧ i = .int .i64 j ∧ Below V.heap.size V wr) (fun i _ => n - (intOf i).toNat)
    case atStart => exact ⟨0, by omega, rfl, Below.refl _ _⟩
    case round =>
      obtain ⟨j, hj, rfl, hb⟩ := hrel
      obtain ⟨hc, hf⟩ := bcell hb
      have hs := hb.size
      by_cases hlt : j < n
      · have dj : decide ((j : Int) < n) = true := decide_eq_true (by omega)
        obtain ⟨x', y', s', bo, o, hx, rfl, hbl, g1, g2, g3⟩ := hR3.cell hlt
        have hcase : ((x' != x) = true ∧ ¬(x' = x ∧ y' = y)) ∨ ((x' != x) = false ∧ (y' != y) = true ∧ ¬(x' = x ∧ y' = y)) ∨ ((x' != x) = false ∧ (y' != y) = false) := by
          by_cases h1 : x' = x <;> by_cases h2 : y' = y <;> simp [h1, h2]
        have hSw := hS3.of hb
        rcases hcase with ⟨e1, hne⟩ | ⟨e1, e2, hne⟩ | ⟨e1, e2⟩
        · have kGg := fun w1 (a : Rd encC 3 w1 A1 n1 (setL l x y s)) => pat_Get A1 n1 c1 (setL l x y s) x' y' w1 a (by omega)
          rw [setL_other H0.out (List.mem_of_getElem? hx.out) hne] at kGg
          clear hne
          go_wp2_with fail
          (refine wp_region_ext_lit (by kernel_rfl) (by kernel_rfl) ?_; (repeat (go_big_quiet_step ((go_at_call 41; exact calls_ext (kGg _ (hSw.of (by (repeat' (first | exact Below.refl _ _ | assumption | (refine Below.alloc ?_ ?_ _) | (refine Below.setCell ?_ ?_ _) | (refine Below.drew ?_) | (refine below_drewN ?_ _) | (refine below_after (Ext.below _) ?_ ?_) | (refine below_after (by assumption) ?_ ?_) | (simp; done) | omega | (simp; omega)))))))))); refine wpQuiet_nil ?_; intro _ hw'; obtain ⟨z4, hw''⟩ := hw'; subst hw''; have hs4 := z4.size; obtain ⟨hc4, hf4⟩ := bcell z4.below; (try simp only [World.size_alloc, World.size_setCell, World.size_drew] at hc4 hf4); (try simp at hs4))
          go_wp2
          go_roundw
          case rel => exact ⟨j + 1, by omega, by go_num, by (repeat' (first | exact Below.refl _ _ | assumption | (refine Below.alloc ?_ ?_ _) | (refine Below.setCell ?_ ?_ _) | (refine Below.drew ?_) | (refine below_drewN ?_ _) | (refine below_after (Ext.below _) ?_ ?_) | (refine below_after (by assumption) ?_ ?_) | (simp; done) | omega | (simp; omega)))⟩
          case measure => simp [intOf]; omega
        · have kGg := fun w1 (a : Rd encC 3 w1 A1 n1 (setL l x y s)) => pat_Get A1 n1 c1 (setL l x y s) x' y' w1 a (by omega)
          rw [setL_other H0.out (List.mem_of_getElem? hx.out) hne] at kGg
          clear hne
          go_wp2_with fail
          (refine wp_region_ext_lit (by kernel_rfl) (by kernel_rfl) ?_; (repeat (go_big_quiet_step ((go_at_call 41; exact calls_ext (kGg _ (hSw.of (by (repeat' (first | exact Below.refl _ _ | assumption | (refine Below.alloc ?_ ?_ _) | (refine Below.setCell ?_ ?_ _) | (refine Below.drew ?_) | (refine below_drewN ?_ _) | (refine below_after (Ext.below _) ?_ ?_) | (refine below_after (by assumption) ?_ ?_) | (simp; done) | omega | (simp; omega)))))))))); refine wpQuiet_nil ?_; intro _ hw'; obtain ⟨z4, hw''⟩ := hw'; subst hw''; have hs4 := z4.size; obtain ⟨hc4, hf4⟩ := bcell z4.below; (try simp only [World.size_alloc, World.size_setCell, World.size_drew] at hc4 hf4); (try simp at hs4))
          go_wp2
          go_roundw
          case rel => exact ⟨j + 1, by omega, by go_num, by (repeat' (first | exact Below.refl _ _ | assumption | (refine Below.alloc ?_ ?_ _) | (refine Below.setCell ?_ ?_ _) | (refine Below.drew ?_) | (refine below_drewN ?_ _) | (refine below_after (Ext.below _) ?_ ?_) | (refine below_after (by assumption) ?_ ?_) | (simp; done) | omega | (simp; omega)))⟩
          case measure => simp [intOf]; omega
        · go_wp2_with fail
          (refine wp_region_ext_lit (by kernel_rfl) (by kernel_rfl) ?_; (repeat (go_big_quiet_step (fail))); refine wpQuiet_nil ?_; intro _ hw'; obtain ⟨z4, hw''⟩ := hw'; subst hw''; have hs4 := z4.size; obtain ⟨hc4, hf4⟩ := bcell z4.below; (try simp only [World.size_alloc, World.size_setCell, World.size_drew] at hc4 hf4); (try simp at hs4))
          go_wp2
          go_roundw
          case rel => exact ⟨j + 1, by omega, by go_num, by (repeat' (first | exact Below.refl _ _ | assumption | (refine Below.alloc ?_ ?_ _) | (refine Below.setCell ?_ ?_ _) | (refine Below.drew ?_) | (refine below_drewN ?_ _) | (refine below_after (Ext.below _) ?_ ?_) | (refine below_after (by assumption) ?_ ?_) | (simp; done) | omega | (simp; omega)))⟩
          case measure => simp [intOf]; omega
      · obtain rfl : j = n := by omega
        have dj : decide ((j : Int) < j) = false := decide_eq_false (by omega)
        have hB : Below w.heap.size w wr := below_after hb hB3 (by omega)
        have hT : Rd encC 3 wr C k q := hT3.of hb
        have hsz := hB.size
        clear hc hf hb hR3 hT3 hS3 q0 q1 hB3 hs hs0
        by_cases hz : frE q = 0
        · have HZ := Lib.hid hz
          have kFr := fun w1 (a : Rd encC 3 w1 C k q) => pat_From C k g q w1 a (by omega)
          rw [hz] at kFr
          clear hz
          go_wp2_with fail; go_at_call 49; refine (kFr _ (hT.of (by (repeat' (first | exact Below.refl _ _ | assumption | (refine Below.alloc ?_ ?_ _) | (refine Below.setCell ?_ ?_ _) | (refine Below.drew ?_) | (refine below_drewN ?_ _) | (refine below_after (Ext.below _) ?_ ?_) | (refine below_after (by assumption) ?_ ?_) | (simp; done) | omega | (simp; omega)))))).mono ?_; rintro e w9 ⟨A9, n9, c9, rfl, hR9, hn9, hb9⟩; have hs9 := hb9.size; (try simp only [World.size_alloc, World.size_drew, World.size_setCell] at hs9)
          have hT9 : Rd encC 3 w9 C k q := hT.of (by (repeat' (first | exact Below.refl _ _ | assumption | (refine Below.alloc ?_ ?_ _) | (refine Below.setCell ?_ ?_ _) | (refine Below.drew ?_) | (refine below_drewN ?_ _) | (refine below_after (Ext.below _) ?_ ?_) | (refine below_after (by assumption) ?_ ?_) | (simp; done) | omega | (simp; omega))))
          have hB9 : Below w.heap.size w w9 := by (repeat' (first | exact Below.refl _ _ | assumption | (refine Below.alloc ?_ ?_ _) | (refine Below.setCell ?_ ?_ _) | (refine Below.drew ?_) | (refine below_drewN ?_ _) | (refine below_after (Ext.below _) ?_ ?_) | (refine below_after (by assumption) ?_ ?_) | (simp; done) | omega | (simp; omega)))
          have hlen9 : (n9 : Int) = (nzN q : Int) := by rw [← hR9.len]; exact congrArg Nat.cast (nzN_frL HZ.out)
          obtain ⟨W, hW⟩ : ∃ W, W = w9 := ⟨_, rfl⟩
          subst hW
          have hsW := hB9.size
          clear hb9 hs9
          go_wp2_with fail
          go_loopw [12, 103] (fun v i wr => ∃ j : Nat, j ≤ k ∧ v = .int .i64 ((nzN (q.take j) : Nat) : Int) ∧ i = .int .i64 j ∧ Below W.heap.size W wr) (fun _ i _ => k - (intOf i).toNat)
          case atStart => exact ⟨0, by omega, rfl, rfl, Below.refl _ _⟩
          case round =>
            obtain ⟨j, hj, rfl, rfl, hb⟩ := hrel
            obtain ⟨hc, hf⟩ := bcell hb
            have hs := hb.size
            by_cases hlt : j < k
            · have dj : decide ((j : Int) < k) = true := decide_eq_true (by omega)
              obtain ⟨x', y', s', bo, o, hx, rfl, hbl, g1, g2, g3⟩ := hT9.cell hlt
              have hst := nzN_step hx.out
              have hle := nzN_le (q.take j)
              rw [List.length_take] at hle
              generalize hzz : nzN (q.take j) = z at *
              by_cases h0 : s' = 0
              · have e0 : (s' != 0) = false := by rw [h0]; rfl
                rw [if_pos h0] at hst
                have HST := Lib.hid hst
                clear hst h0 hzz
                go_wp2_with fail
                go_roundw
                case rel => exact ⟨j + 1, by omega, by rw [HST.out, show z + 0 = z from rfl], by go_num, hb⟩
                case measure => simp [intOf]; omega
              · have e0 : (s' != 0) = true := by simpa using h0
                rw [if_neg h0] at hst
                have HST := Lib.hid hst
                have kG := fun w1 (a : Rd encC 3 w1 A9 n9 (frL q)) => pat_Get A9 n9 c9 (frL q) x' y' w1 a (by omega)
                rw [frL_get HZ.out (List.mem_of_getElem? hx.out) h0] at kG
                have hR9w := hR9.of hb
                clear hst h0 hzz
                go_wp2_with fail
                (refine wp_region_ext_lit (by kernel_rfl) (by kernel_rfl) ?_; (repeat (go_big_quiet_step ((go_at_call 41; exact calls_ext (kG _ (hR9w.of (by (repeat' (first | exact Below.refl _ _ | assumption | (refine Below.alloc ?_ ?_ _) | (refine Below.setCell ?_ ?_ _) | (refine Below.drew ?_) | (refine below_drewN ?_ _) | (refine below_after (Ext.below _) ?_ ?_) | (refine below_after (by assumption) ?_ ?_) | (simp; done) | omega | (simp; omega)))))))))); refine wpQuiet_nil ?_; intro _ hw'; obtain ⟨z3, hw''⟩ := hw'; subst hw''; have hs3 := z3.size; obtain ⟨hc3, hf3⟩ := bcell z3.below; (try simp only [World.size_alloc, World.size_setCell, World.size_drew] at hc3 hf3); (try simp at hs3))
                go_wp2
                go_roundw
                case rel => exact ⟨j + 1, by omega, by rw [HST.out]; go_num, by go_num, by (repeat' (first | exact Below.refl _ _ | assumption | (refine Below.alloc ?_ ?_ _) | (refine Below.setCell ?_ ?_ _) | (refine Below.drew ?_) | (refine below_drewN ?_ _) | (refine below_after (Ext.below _) ?_ ?_) | (refine below_after (by assumption) ?_ ?_) | (simp; done) | omega | (simp; omega)))⟩
                case measure => simp [intOf]; omega
            · obtain rfl : j = k := by omega
              have dj : decide ((j : Int) < j) = false := decide_eq_false (by omega)
              rw [List.take_of_length_le (by rw [hT9.len]; omega), ← hlen9]
              have hR9w := hR9.of hb
              clear hlen9
              go_wp2_with fail; go_at_call 39; refine (pat_RightV (frL_right HZ.out) _ (hR9w.of (Below.refl _ _)) (by omega)).mono ?_; rintro e w10 ⟨rfl, hb10⟩; have hs10 := hb10.size; (try simp only [World.size_alloc, World.size_drew, World.size_setCell] at hs10)
              go_wp2_with fail; go_at_call 36; refine (awake_05 _).mono ?_; rintro e w11 ⟨rfl, hb11⟩; have hs11 := hb11.size; (try simp only [World.size_alloc, World.size_drew, World.size_setCell] at hs11)
              go_wp2_with fail
              go_ret
              exact ⟨rfl, by (repeat' (first | exact Below.refl _ _ | assumption | (refine Below.alloc ?_ ?_ _) | (refine Below.setCell ?_ ?_ _) | (refine Below.drew ?_) | (refine below_drewN ?_ _) | (refine below_after (Ext.below _) ?_ ?_) | (refine below_after (by assumption) ?_ ?_) | (simp; done) | omega | (simp; omega)))⟩
        · have HZ := Lib.hid hz
          have e9 : (frE q == 0) = false := by simpa using hz
          clear hz
          go_wp2_with fail; go_at_call 49; refine (pat_From _ _ _ _ _ (hT.of (by (repeat' (first | exact Below.refl _ _ | assumption | (refine Below.alloc ?_ ?_ _) | (refine Below.setCell ?_ ?_ _) | (refine Below.drew ?_) | (refine below_drewN ?_ _) | (refine below_after (Ext.below _) ?_ ?_) | (refine below_after (by assumption) ?_ ?_) | (simp; done) | omega | (simp; omega))))) (by omega)).mono ?_; rintro e w9 ⟨A9, n9, c9, rfl, hR9, hn9, hb9⟩; have hs9 := hb9.size; (try simp only [World.size_alloc, World.size_drew, World.size_setCell] at hs9)
          obtain rfl : n9 = 0 := by rw [← hR9.len, frL_no rfl HZ.out]; rfl
          go_wp2_with fail; go_at_call 36; refine (awake_05 _).mono ?_; rintro e w11 ⟨rfl, hb11⟩; have hs11 := hb11.size; (try simp only [World.size_alloc, World.size_drew, World.size_setCell] at hs11)
          go_wp2_with fail
          go_ret
          exact ⟨rfl, by (repeat' (first | exact Below.refl _ _ | assumption | (refine Below.alloc ?_ ?_ _) | (refine Below.setCell ?_ ?_ _) | (refine Below.drew ?_) | (refine below_drewN ?_ _) | (refine below_after (Ext.below _) ?_ ?_) | (refine below_after (by assumption) ?_ ?_) | (simp; done) | omega | (simp; omega)))⟩
  · have e0 : (setE l x y s == 0) = false := by simpa using h0
    clear h0
    go_enter Try.func13, Try.ntmps13
    go_wp2_with fail
    (go_at_call 35; refine (kF _).mono ?_; rintro e w' ⟨rfl, rfl⟩)
    go_wp2_with fail
    (go_at_call 35; refine (kG _).mono ?_; rintro e w' ⟨rfl, rfl⟩)
    go_wp2_with fail; go_at_call 51; refine (pat_Set _ _ _ _ _ _ _ _ (hR.of (by (repeat' (first | exact Below.refl _ _ | assumption | (refine Below.alloc ?_ ?_ _) | (refine Below.setCell ?_ ?_ _) | (refine Below.drew ?_) | (refine below_drewN ?_ _) | (refine below_after (Ext.below _) ?_ ?_) | (refine below_after (by assumption) ?_ ?_) | (simp; done) | omega | (simp; omega))))) (by omega)).mono ?_; rintro e w1 ⟨A1, n1, c1, rfl, hR1, hn1, hb1⟩; have hs1 := hb1.size; (try simp only [World.size_alloc, World.size_drew, World.size_setCell] at hs1); obtain ⟨hc1, hf1⟩ := bcell hb1; (try simp only [World.size_alloc, World.size_setCell, World.size_drew] at hc1 hf1)
    by_cases hz : frE q = 0
    · have HZ := Lib.hid hz
      have kFr := fun w1 (a : Rd encC 3 w1 C k q) => pat_From C k g q w1 a (by omega)
      rw [hz] at kFr
      clear hz
      go_wp2_with fail; go_at_call 49; refine (kFr _ (hT.of (by (repeat' (first | exact Below.refl _ _ | assumption | (refine Below.alloc ?_ ?_ _) | (refine Below.setCell ?_ ?_ _) | (refine Below.drew ?_) | (refine below_drewN ?_ _) | (refine below_after (Ext.below _) ?_ ?_) | (refine below_after (by assumption) ?_ ?_) | (simp; done) | omega | (simp; omega)))))).mono ?_; rintro e w9 ⟨A9, n9, c9, rfl, hR9, hn9, hb9⟩; have hs9 := hb9.size; (try simp only [World.size_alloc, World.size_drew, World.size_setCell] at hs9)
      have hT9 : Rd encC 3 w9 C k q := hT.of (by (repeat' (first | exact Below.refl _ _ | assumption | (refine Below.alloc ?_ ?_ _) | (refine Below.setCell ?_ ?_ _) | (refine Below.drew ?_) | (refine below_drewN ?_ _) | (refine below_after (Ext.below _) ?_ ?_) | (refine below_after (by assumption) ?_ ?_) | (simp; done) | omega | (simp; omega))))
      have hB9 : Below w.heap.size w w9 := by (repeat' (first | exact Below.refl _ _ | assumption | (refine Below.alloc ?_ ?_ _) | (refine Below.setCell ?_ ?_ _) | (refine Below.drew ?_) | (refine below_drewN ?_ _) | (refine below_after (Ext.below _) ?_ ?_) | (refine below_after (by assumption) ?_ ?_) | (simp; done) | omega | (simp; omega)))
      have hlen9 : (n9 : Int) = (nzN q : Int) := by rw [← hR9.len]; exact congrArg Nat.cast (nzN_frL HZ.out)
      obtain ⟨W, hW⟩ : ∃ W, W = w9 := ⟨_, rfl⟩
      subst hW
      have hsW := hB9.size
      clear hb9 hs9 hb1 hs1 hc1 hf1
      go_wp2_with fail
      go_loopw [12, 103] (fun v i wr => ∃ j : Nat, j ≤ k ∧ v = .int .i64 ((nzN (q.take j) : Nat) : Int) ∧ i = .int .i64 j ∧ Below W.heap.size W wr) (fun _ i _ => k - (intOf i).toNat)
      case atStart => exact ⟨0, by omega, rfl, rfl, Below.refl _ _⟩
      case round =>
        obtain ⟨j, hj, rfl, rfl, hb⟩ := hrel
        obtain ⟨hc, hf⟩ := bcell hb
        have hs := hb.size
        by_cases hlt : j < k
        · have dj : decide ((j : Int) < k) = true := decide_eq_true (by omega)
          obtain ⟨x', y', s', bo, o, hx, rfl, hbl, g1, g2, g3⟩ := hT9.cell hlt
          have hst := nzN_step hx.out
          have hle := nzN_le (q.take j)
          rw [List.length_take] at hle
          generalize hzz : nzN (q.take j) = z at *
          by_cases h0 : s' = 0
          · have e0 : (s' != 0) = false := by rw [h0]; rfl
            rw [if_pos h0] at hst
            have HST := Lib.hid hst
            clear hst h0 hzz
            go_wp2_with fail
            go_roundw
            case rel => exact ⟨j + 1, by omega, by rw [HST.out, show z + 0 = z from rfl], by go_num, hb⟩
            case measure => simp [intOf]; omega
          · have e0 : (s' != 0) = true := by simpa using h0
            rw [if_neg h0] at hst
            have HST := Lib.hid hst
            have kG := fun w1 (a : Rd encC 3 w1 A9 n9 (frL q)) => pat_Get A9 n9 c9 (frL q) x' y' w1 a (by omega)
            rw [frL_get HZ.out (List.mem_of_getElem? hx.out) h0] at kG
            have hR9w := hR9.of hb
            clear hst h0 hzz
            go_wp2_with fail
            (refine wp_region_ext_lit (by kernel_rfl) (by kernel_rfl) ?_; (repeat (go_big_quiet_step ((go_at_call 41; exact calls_ext (kG _ (hR9w.of (by (repeat' (first | exact Below.refl _ _ | assumption | (refine Below.alloc ?_ ?_ _) | (refine Below.setCell ?_ ?_ _) | (refine Below.drew ?_) | (refine below_drewN ?_ _) | (refine below_after (Ext.below _) ?_ ?_) | (refine below_after (by assumption) ?_ ?_) | (simp; done) | omega | (simp; omega)))))))))); refine wpQuiet_nil ?_; intro _ hw'; obtain ⟨z3, hw''⟩ := hw'; subst hw''; have hs3 := z3.size; obtain ⟨hc3, hf3⟩ := bcell z3.below; (try simp only [World.size_alloc, World.size_setCell, World.size_drew] at hc3 hf3); (try simp at hs3))
            go_wp2
            go_roundw
            case rel => exact ⟨j + 1, by omega, by rw [HST.out]; go_num, by go_num, by (repeat' (first | exact Below.refl _ _ | assumption | (refine Below.alloc ?_ ?_ _) | (refine Below.setCell ?_ ?_ _) | (refine Below.drew ?_) | (refine below_drewN ?_ _) | (refine below_after (Ext.below _) ?_ ?_) | (refine below_after (by assumption) ?_ ?_) | (simp; done) | omega | (simp; omega)))⟩
            case measure => simp [intOf]; omega
        · obtain rfl : j = k := by omega
          have dj : decide ((j : Int) < j) = false := decide_eq_false (by omega)
          rw [List.take_of_length_le (by rw [hT9.len]; omega), ← hlen9]
          have hR9w := hR9.of hb
          clear hlen9
          go_wp2_with fail; go_at_call 39; refine (pat_RightV (frL_right HZ.out) _ (hR9w.of (Below.refl _ _)) (by omega)).mono ?_; rintro e w10 ⟨rfl, hb10⟩; have hs10 := hb10.size; (try simp only [World.size_alloc, World.size_drew, World.size_setCell] at hs10)
          go_wp2_with fail; go_at_call 36; refine (awake_05 _).mono ?_; rintro e w11 ⟨rfl, hb11⟩; have hs11 := hb11.size; (try simp only [World.size_alloc, World.size_drew, World.size_setCell] at hs11)
          go_wp2_with fail
          go_ret
          exact ⟨rfl, by (repeat' (first | exact Below.refl _ _ | assumption | (refine Below.alloc ?_ ?_ _) | (refine Below.setCell ?_ ?_ _) | (refine Below.drew ?_) | (refine below_drewN ?_ _) | (refine below_after (Ext.below _) ?_ ?_) | (refine below_after (by assumption) ?_ ?_) | (simp; done) | omega | (simp; omega)))⟩
    · have HZ := Lib.hid hz
      have e9 : (frE q == 0) = false := by simpa using hz
      clear hz
      go_wp2_with fail; go_at_call 49; refine (pat_From _ _ _ _ _ (hT.of (by (repeat' (first | exact Below.refl _ _ | assumption | (refine Below.alloc ?_ ?_ _) | (refine Below.setCell ?_ ?_ _) | (refine Below.drew ?_) | (refine below_drewN ?_ _) | (refine below_after (Ext.below _) ?_ ?_) | (refine below_after (by assumption) ?_ ?_) | (simp; done) | omega | (simp; omega))))) (by omega)).mono ?_; rintro e w9 ⟨A9, n9, c9, rfl, hR9, hn9, hb9⟩; have hs9 := hb9.size; (try simp only [World.size_alloc, World.size_drew, World.size_setCell] at hs9)
      obtain rfl : n9 = 0 := by rw [← hR9.len, frL_no rfl HZ.out]; rfl
      go_wp2_with fail; go_at_call 36; refine (awake_05 _).mono ?_; rintro e w11 ⟨rfl, hb11⟩; have hs11 := hb11.size; (try simp only [World.size_alloc, World.size_drew, World.size_setCell] at hs11)
      go_wp2_with fail
      go_ret
      exact ⟨rfl, by (repeat' (first | exact Below.refl _ _ | assumption | (refine Below.alloc ?_ ?_ _) | (refine Below.setCell ?_ ?_ _) | (refine Below.drew ?_) | (refine below_drewN ?_ _) | (refine below_after (Ext.below _) ?_ ?_) | (refine below_after (by assumption) ?_ ?_) | (simp; done) | omega | (simp; omega)))⟩
end Go.Proofs.Ytnhnkmppmicjoaa
