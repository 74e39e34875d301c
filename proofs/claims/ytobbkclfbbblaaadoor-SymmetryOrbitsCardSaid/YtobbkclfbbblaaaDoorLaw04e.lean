/- The walk of SymmetryOrbits. -/
import Derived.Test.YtobbkclfbbblaaaDoorLaw04d
import Derived.Test.YtobbkclfbbblaaaDoorTurnP
import Derived.Test.YtobbkclfbbblaaaDoorOrbL
namespace Go.Proofs.YtobbkclfbbblaaaDoor
open Go Go.RowKit
set_option linter.unusedSimpArgs false
set_option linter.unusedVariables false
set_option maxRecDepth 100000
theorem fits_wF (a b : Nat) (ha : 1 ≤ a ∧ a ≤ 256) (hb : 1 ≤ b ∧ b ≤ 256) : Fits (wF a b) a b := by
  intro x y k hx hy ho
  have hr : rightB 0 0 (a : Int) (b : Int) = true := by rw [rightB_iff]; omega
  have hp : validB (x : Int) (y : Int) = true := by unfold validB; rw [decide_eq_true_eq]; omega
  unfold wF withinF
  rw [hr, hp, turn_turn8 _ _ _ _ _ hr, app_app8 _ _ _ (by unfold I64; omega) (by unfold I64; omega), app8_valid _ _ _ hp, r8_nat ho.1]
  have hk := ho.1
  have hc : k = 0 ∨ k = 1 ∨ k = 2 ∨ k = 3 ∨ k = 4 ∨ k = 5 ∨ k = 6 ∨ k = 7 := by omega
  rcases hc with rfl | rfl | rfl | rfl | rfl | rfl | rfl | rfl <;> simp [turn8F, app8V, plc, wrap64] <;> omega
set_option maxHeartbeats 1000000 in
theorem law_orbits_long (A0 : Option Addr) (nl cl : Nat) (a b : Int) (w : World) (hM : Mx w) (hl : 100 < nl) :
    Calls Tryd.prog 7 #[.slice A0 nl cl, .int .i64 a, .int .i64 b] w fun e w' => e = .returned (.bool true) ∧ Below w.heap.size w w' := by
  have hz := hM.1
  go_enter Tryd.func7, Tryd.ntmps7
  go_wp2_with (first | (go_at_call 16; refine (alive_04 _ (hM.of (by (repeat' (first | exact Below.refl _ _ | assumption | (refine Below.alloc ?_ ?_ _) | (refine Below.setCell ?_ ?_ _) | (refine Below.drew ?_) | (refine below_drewN ?_ _) | (refine below_after (Ext.below _) ?_ ?_) | (refine below_after (by assumption) ?_ ?_) | (simp; done) | omega | (simp; omega)))))).mono ?_; rintro e w5 ⟨rfl, hb5⟩; obtain ⟨hc5, hf5⟩ := bcell hb5; have hs5 := hb5.size; (try simp only [World.size_alloc, World.size_setCell, World.size_drew] at hc5 hf5); (try simp at hs5)))
  go_ret
  exact ⟨rfl, by (repeat' (first | exact Below.refl _ _ | assumption | (refine Below.alloc ?_ ?_ _) | (refine Below.setCell ?_ ?_ _) | (refine Below.drew ?_) | (refine below_drewN ?_ _) | (refine below_after (Ext.below _) ?_ ?_) | (refine below_after (by assumption) ?_ ?_) | (simp; done) | omega | (simp; omega)))⟩
set_option maxHeartbeats 2000000 in
/-- Where both give an error. -/
theorem law_orbits_bad (A0 : Option Addr) (nl cl : Nat) (l : List Int) (a b : Int) (w : World) (hM : Mx w) (hR : Rd encI 1 w A0 nl l) (hl : nl ≤ 100)
    (h1 : ∀ w, Mx w → Rd encI 1 w A0 nl l → Calls Tryd.prog 30 #[.slice A0 nl cl, .int .i64 a, .int .i64 b] w fun e w' => e = .returned (.tuple #[.slice none 0 0, .int .i64 2]) ∧ Below w.heap.size w w')
    (h2 : ∀ w, Rd encI 1 w A0 nl l → Calls Tryd.prog 31 #[.slice A0 nl cl, .int .i64 a, .int .i64 b] w fun e w' => e = .returned (.tuple #[.slice none 0 0, .int .i64 2]) ∧ Below w.heap.size w w') :
    Calls Tryd.prog 7 #[.slice A0 nl cl, .int .i64 a, .int .i64 b] w fun e w' => e = .returned (.bool true) ∧ Below w.heap.size w w' := by
  have hz := hM.1
  go_enter Tryd.func7, Tryd.ntmps7
  go_wp2_with fail
  go_at_call 30
  refine (h1 _ hM hR).mono ?_
  rintro e w1 ⟨rfl, hB1⟩
  have hM1 := hM.of hB1
  have hR1 := hR.of hB1
  go_wp2_with fail
  go_at_call 31
  refine (h2 _ hR1).mono ?_
  rintro e w2 ⟨rfl, hb2⟩
  have hM2 := hM1.of hb2
  have hB2 := below_thru hB1 hb2
  clear hB1 hM1 hR1 hb2
  go_wp2_with fail
  go_at_call 27
  refine (ref_SameV _ _ 0 0 0 0 ([] : List Int) _ Rd.nil_ Rd.nil_ (by omega)).mono ?_
  rintro e w3 ⟨rfl, hb3⟩
  have hM3 := hM2.of hb3
  have hB3 := below_thru hB2 hb3
  clear hM2 hB2 hb3
  have hz3 := hM3.1
  go_wp2_with fail
  go_loopw [41] (fun i wr => i = .int .i64 0 ∧ w3 = wr) (fun i _ => 0)
  case atStart => exact ⟨rfl, rfl⟩
  case round =>
    obtain ⟨rfl, rfl⟩ := hrel
    go_wp2_with (first | (go_at_call 16; refine (alive_04 _ hM3).mono ?_; rintro e w8 ⟨rfl, hb8⟩; obtain ⟨hc8, hf8⟩ := bcell hb8; have hs8 := hb8.size; (try simp only [World.size_alloc, World.size_setCell, World.size_drew] at hc8 hf8); (try simp at hs8)))
    go_ret
    exact ⟨rfl, below_thru hB3 hb8⟩
set_option maxHeartbeats 2000000 in
theorem law_orbits_yes (A0 : Option Addr) (nl cl : Nat) (l : List Int) (a b : Nat) (w : World) (hM : Mx w) (hR : Rd encI 1 w A0 nl l) (hl : nl ≤ 100) (ha : 1 ≤ a ∧ a ≤ 256) (hb : 1 ≤ b ∧ b ≤ 256) (hs : (a : Int) * b ≤ 4096) (hab : a = b ∨ anyOdd (grp l) = false) :
    Calls Tryd.prog 7 #[.slice A0 nl cl, .int .i64 (a : Int), .int .i64 (b : Int)] w fun e w' => e = .returned (.bool true) ∧ Below w.heap.size w w' := by
  have hz := hM.1
  have hs' : b * a ≤ 4096 := by
    have e : ((a * b : Nat) : Int) = (a : Int) * b := by simp
    rw [Nat.mul_comm]; omega
  have hfix := Lib.hid (fun i (hi : i < b * a) => orb_fix (l := l) (fits_wF a b ha hb) hab hs' hi)
  have hab1 : ((a : Int) != b) = false ∨ ((a : Int) != b) = true ∧ anyOdd (grp l) = false := by
    by_cases e : a = b
    · left; subst e; simp
    · right; exact ⟨by rw [bne_iff_ne]; omega, hab.resolve_left e⟩
  have hab2 : (a : Int) = b ∨ anyOdd (grp l) = false := hab.imp (fun h => by rw [h]) id
  have h1 := sym_Orbits_yes A0 nl cl l a b w hM hR (by omega) ha hb hs hab1
  have h2 := fun w hR => ref_Orbits_yes A0 nl cl l a b w hR (by omega) ha hb hs hab2
  clear hab hab1 hab2
  generalize orb (wF a b) (grp l) a (b * a) = L at h1 h2 hfix
  have hN := Lib.hid hs'
  clear hs hs' ha hb
  generalize b * a = N at h1 h2 hfix hN
  have hN' := hN.out
  clear hN
  go_enter Tryd.func7, Tryd.ntmps7
  go_wp2_with fail
  go_at_call 30
  refine h1.mono ?_
  rintro e w1 ⟨A1, c1, rfl, hR1, hB1⟩
  have hM1 := hM.of hB1
  have hq1 := hR.of hB1
  clear h1
  go_wp2_with fail
  go_at_call 31
  refine (h2 _ hq1).mono ?_
  rintro e w2 ⟨A2, c2, rfl, hR2, hb2⟩
  have hM2 := hM1.of hb2
  have hB2 := below_thru hB1 hb2
  have hq2 := hR1.of hb2
  clear hB1 hM1 hq1 hR1 hb2 h2
  go_wp2_with fail
  go_at_call 27
  refine (ref_SameV _ _ _ _ _ _ _ _ hq2 hR2 (by omega)).mono ?_
  rintro e w3 ⟨rfl, hb3⟩
  have hM3 := hM2.of hb3
  have hB3 := below_thru hB2 hb3
  have hR3 := hq2.of hb3
  clear hM2 hB2 hq2 hR2 hb3
  have hz3 := hM3.1
  go_wp2_with fail
  go_loopw [41] (fun i wr => ∃ j : Nat, i = .int .i64 j ∧ j ≤ N ∧ Below w3.heap.size w3 wr) (fun i _ => N - (intOf i).toNat)
  case atStart => exact ⟨0, rfl, by omega, Below.refl _ _⟩
  case round =>
    obtain ⟨j, rfl, hj, hbr⟩ := hrel
    obtain ⟨hcr, hfr⟩ := bcell hbr
    have hsr := hbr.size
    by_cases hlt : j < N
    · obtain ⟨n, hnj, hg1, hg2⟩ := hfix.out j hlt
      obtain ⟨x, bo, o, hx, rfl, hbl, hcell⟩ := hR3.int hlt
      obtain ⟨x', bo', o', hx', he, hbl', hcell'⟩ := hR3.int (i := n) (by omega)
      obtain ⟨rfl, rfl⟩ : bo = bo' ∧ o = o' := by injection he with he; injection he with e1 e2; exact ⟨e1, e2⟩
      obtain rfl : x = (n : Int) := Option.some.inj (hx.out.symm.trans hg1)
      obtain rfl : x' = (n : Int) := Option.some.inj (hx'.out.symm.trans hg2)
      clear he hg1 hg2 hx hx'
      have d1 : decide ((n : Int) < 0) = false := decide_eq_false (by omega)
      have d2 : decide ((j : Int) < n) = false := decide_eq_false (by omega)
      have d3 : decide (j < n) = false := decide_eq_false (by omega)
      go_wp2
      (refine wp_region_ext_lit (by kernel_rfl) (by kernel_rfl) ?_; (repeat (go_big_quiet_step (fail))); refine wpQuiet_nil ?_; intro _ hw'; obtain ⟨z7, hw''⟩ := hw'; subst hw''; have hs7 := z7.size; obtain ⟨hc7, hf7⟩ := bcell z7.below; (try simp only [World.size_alloc, World.size_setCell, World.size_drew] at hc7 hf7); (try simp at hs7))
      go_wp2
      go_roundw
      case rel => exact ⟨j + 1, by go_num, by omega, by (repeat' (first | exact Below.refl _ _ | assumption | (refine Below.alloc ?_ ?_ _) | (refine Below.setCell ?_ ?_ _) | (refine Below.drew ?_) | (refine below_drewN ?_ _) | (refine below_after (Ext.below _) ?_ ?_) | (refine below_after (by assumption) ?_ ?_) | (simp; done) | omega | (simp; omega)))⟩
      case measure => simp [intOf]; omega
    · obtain rfl : j = N := by omega
      go_wp2_with fail
      go_at_call 16
      refine (alive_04 _ (hM3.of hbr)).mono ?_
      rintro e w8 ⟨rfl, hb8⟩
      go_wp2_with fail
      go_ret
      exact ⟨rfl, below_thru (below_thru hB3 hbr) hb8⟩
theorem law_orbits (A0 : Option Addr) (nl cl : Nat) (l : List Int) (a b : Int) (w : World) (hM : Mx w) (hR : Rd encI 1 w A0 nl l) :
    Calls Tryd.prog 7 #[.slice A0 nl cl, .int .i64 a, .int .i64 b] w fun e w' => e = .returned (.bool true) ∧ Below w.heap.size w w' := by
  rcases Nat.lt_or_ge 100 nl with h | hl
  · exact law_orbits_long A0 nl cl a b w hM h
  by_cases h1 : 1 ≤ a ∧ a ≤ 256 ∧ 1 ≤ b ∧ b ≤ 256
  · obtain ⟨ha1, ha2, hb1, hb2⟩ := h1
    rcases Int.lt_or_le 4096 (a * b) with h2 | h2
    · exact law_orbits_bad A0 nl cl l a b w hM hR hl (fun w _ _ => sym_Orbits_no2 A0 nl cl a b w ⟨ha1, ha2⟩ ⟨hb1, hb2⟩ h2) (fun w _ => ref_Orbits_no2 A0 nl cl a b w ⟨ha1, ha2⟩ ⟨hb1, hb2⟩ h2)
    by_cases h3 : a = b ∨ anyOdd (grp l) = false
    · obtain ⟨m, rfl⟩ := Int.eq_ofNat_of_zero_le (show 0 ≤ a by omega)
      obtain ⟨n, rfl⟩ := Int.eq_ofNat_of_zero_le (show 0 ≤ b by omega)
      exact law_orbits_yes A0 nl cl l m n w hM hR hl (by omega) (by omega) h2 (h3.imp (fun h => by omega) id)
    · have hne : a ≠ b := fun e => h3 (.inl e)
      have ho : anyOdd (grp l) = true := by
        cases h : anyOdd (grp l) with
        | true => rfl
        | false => exact absurd (.inr h) h3
      exact law_orbits_bad A0 nl cl l a b w hM hR hl (fun w hM hR => sym_Orbits_no3 A0 nl cl l a b w hM hR (by omega) ⟨ha1, ha2⟩ ⟨hb1, hb2⟩ h2 hne ho) (fun w hR => ref_Orbits_no3 A0 nl cl l a b w hR (by omega) ⟨ha1, ha2⟩ ⟨hb1, hb2⟩ h2 hne ho)
  · exact law_orbits_bad A0 nl cl l a b w hM hR hl (fun w _ _ => sym_Orbits_no1 A0 nl cl a b w h1) (fun w _ => ref_Orbits_no1 A0 nl cl a b w h1)
end Go.Proofs.YtobbkclfbbblaaaDoor
