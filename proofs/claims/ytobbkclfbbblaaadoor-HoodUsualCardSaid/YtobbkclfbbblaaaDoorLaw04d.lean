/- The walk of SymmetryGroups. -/
import Derived.Test.YtobbkclfbbblaaaDoorLaw04a
import Derived.Test.YtobbkclfbbblaaaDoorGrpL
namespace Go.Proofs.YtobbkclfbbblaaaDoor
open Go Go.RowKit
set_option linter.unusedSimpArgs false
set_option linter.unusedVariables false
set_option maxRecDepth 100000
theorem sameL_refl {α : Type} [DecidableEq α] (l : List α) : sameL l l = true := by unfold sameL; simp
theorem ref_SameV (A B : Option Addr) (n m c d : Nat) (l : List Int) (w : World) (hR : Rd encI 1 w A n l) (hS : Rd encI 1 w B m l) (hn : n ≤ 4611686018427387904) :
    Calls Tryd.prog 27 #[.slice A n c, .slice B m d] w fun e w' => e = .returned (.bool true) ∧ Below w.heap.size w w' := by
  have h := ref_SameI A B n m c d l l w hR hS hn
  rw [sameL_refl] at h; exact h
theorem ref_HasInv (A : Option Addr) (n c : Nat) (l : List Int) (m : Int) (w : World) (hR : Rd encI 1 w A n (grp l)) (hn : n ≤ 8) (hm : Hid (m ∈ grp l)) :
    Calls Tryd.prog 29 #[.slice A n c, .int .i64 (inv m)] w fun e w' => e = .returned (.bool true) ∧ w = w' := by
  have h := ref_Has A n c (grp l) (inv m) w hR (by omega)
  rw [has_inv hm.out] at h; exact h
theorem ref_HasComp (A : Option Addr) (n c : Nat) (l : List Int) (m m' : Int) (w : World) (hR : Rd encI 1 w A n (grp l)) (hn : n ≤ 8) (hm : Hid (m ∈ grp l)) (hm' : Hid (m' ∈ grp l)) :
    Calls Tryd.prog 29 #[.slice A n c, .int .i64 (comp m m')] w fun e w' => e = .returned (.bool true) ∧ w = w' := by
  have h := ref_Has A n c (grp l) (comp m m') w hR (by omega)
  rw [has_comp hm.out hm'.out] at h; exact h
set_option maxHeartbeats 1000000 in
theorem law_groups_long (A0 : Option Addr) (nl cl : Nat) (w : World) (hM : Mx w) (hl : 100 < nl) :
    Calls Tryd.prog 6 #[.slice A0 nl cl] w fun e w' => e = .returned (.bool true) ∧ Below w.heap.size w w' := by
  have hz := hM.1
  go_enter Tryd.func6, Tryd.ntmps6
  go_wp2_with (first | (go_at_call 16; refine (alive_04 _ (hM.of (by (repeat' (first | exact Below.refl _ _ | assumption | (refine Below.alloc ?_ ?_ _) | (refine Below.setCell ?_ ?_ _) | (refine Below.drew ?_) | (refine below_drewN ?_ _) | (refine below_after (Ext.below _) ?_ ?_) | (refine below_after (by assumption) ?_ ?_) | (simp; done) | omega | (simp; omega)))))).mono ?_; rintro e w5 ⟨rfl, hb5⟩; obtain ⟨hc5, hf5⟩ := bcell hb5; have hs5 := hb5.size; (try simp only [World.size_alloc, World.size_setCell, World.size_drew] at hc5 hf5); (try simp at hs5)))
  go_ret
  exact ⟨rfl, by (repeat' (first | exact Below.refl _ _ | assumption | (refine Below.alloc ?_ ?_ _) | (refine Below.setCell ?_ ?_ _) | (refine Below.drew ?_) | (refine below_drewN ?_ _) | (refine below_after (Ext.below _) ?_ ?_) | (refine below_after (by assumption) ?_ ?_) | (simp; done) | omega | (simp; omega)))⟩
set_option maxHeartbeats 2000000 in
theorem law_groups_short (A0 : Option Addr) (nl cl : Nat) (l : List Int) (w : World) (hM : Mx w) (hR : Rd encI 1 w A0 nl l) (hl : nl ≤ 100) :
    Calls Tryd.prog 6 #[.slice A0 nl cl] w fun e w' => e = .returned (.bool true) ∧ Below w.heap.size w w' := by
  have hz := hM.1
  go_enter Tryd.func6, Tryd.ntmps6
  go_wp2_with fail
  go_at_call 26
  refine (sym_Group _ _ _ _ _ hM hR (by omega)).mono ?_
  rintro e w1 ⟨A, n, c, rfl, hR1, hn, hB1⟩
  have hM1 := hM.of hB1
  have hq1 := hR.of hB1
  go_wp2_with fail
  go_at_call 28
  refine (ref_Group _ _ _ _ _ hq1 (by omega)).mono ?_
  rintro e w2 ⟨A2, n2, c2, rfl, hR2, hn2, hb2⟩
  have hM2 := hM1.of hb2
  have hB2 := below_thru hB1 hb2
  have hq2 := hR1.of hb2
  clear hB1 hM1 hq1 hR1
  go_wp2_with fail
  go_at_call 27
  refine (ref_SameV _ _ _ _ _ _ _ _ hq2 hR2 (by omega)).mono ?_
  rintro e w3 ⟨rfl, hb3⟩
  have hM3 := hM2.of hb3
  have hB3 := below_thru hB2 hb3
  have hR3 := hq2.of hb3
  clear hB2 hM2 hq2 hR2 hb2 hb3
  go_wp2_with fail
  go_at_call 26
  refine (sym_Group _ _ _ _ _ hM3 hR3 (by omega)).mono ?_
  rintro e w4 ⟨A4, n4, c4, rfl, hR4, hn4, hb4⟩
  rw [grp_grp] at hR4
  have hM4 := hM3.of hb4
  have hB4 := below_thru hB3 hb4
  have hq4 := hR3.of hb4
  clear hB3 hM3 hR3 hb4
  go_wp2_with fail
  go_at_call 27
  refine (ref_SameV _ _ _ _ _ _ _ _ hR4 hq4 (by omega)).mono ?_
  rintro e w5 ⟨rfl, hb5⟩
  have hM5 := hM4.of hb5
  have hB5 := below_thru hB4 hb5
  have hR5 := hq4.of hb5
  clear hB4 hM4 hq4 hR4 hb5
  have hlen := grp_len l
  rw [hR5.len] at hlen
  have hz5 := hM5.1
  go_wp2_with fail
  go_loopw [26] (fun i wr => ∃ j : Nat, i = .int .i64 j ∧ j ≤ n ∧ Below w5.heap.size w5 wr) (fun i _ => n - (intOf i).toNat)
  case atStart => exact ⟨0, rfl, by omega, Below.refl _ _⟩
  case round =>
    obtain ⟨j, rfl, hj, hbr⟩ := hrel
    obtain ⟨hcr, hfr⟩ := bcell hbr
    have hsr := hbr.size
    by_cases hlt : j < n
    · obtain ⟨m, b, o, hm, rfl, hbl, hcell⟩ := hR5.int hlt
      have hmm := Lib.hid (List.mem_of_getElem? hm.out)
      go_wp2_with (first | (go_at_call 14; refine (sym_Inverse _ _ (hM5.of (by (repeat' (first | exact Below.refl _ _ | assumption | (refine Below.alloc ?_ ?_ _) | (refine Below.setCell ?_ ?_ _) | (refine Below.drew ?_) | (refine below_drewN ?_ _) | (refine below_after (Ext.below _) ?_ ?_) | (refine below_after (by assumption) ?_ ?_) | (simp; done) | omega | (simp; omega)))))).mono ?_; rintro e w6 ⟨rfl, hb6⟩; obtain ⟨hc6, hf6⟩ := bcell hb6; have hs6 := hb6.size; (try simp only [World.size_alloc, World.size_setCell, World.size_drew] at hc6 hf6); (try simp at hs6)) | (go_at_call 29; refine (ref_HasInv _ _ _ _ _ _ (hR5.of (by (repeat' (first | exact Below.refl _ _ | assumption | (refine Below.alloc ?_ ?_ _) | (refine Below.setCell ?_ ?_ _) | (refine Below.drew ?_) | (refine below_drewN ?_ _) | (refine below_after (Ext.below _) ?_ ?_) | (refine below_after (by assumption) ?_ ?_) | (simp; done) | omega | (simp; omega))))) hn hmm).mono ?_; rintro e w' ⟨rfl, rfl⟩))
      go_loopw [39] (fun i wr => ∃ j : Nat, i = .int .i64 j ∧ j ≤ n ∧ Below w5.heap.size w5 wr) (fun i _ => n - (intOf i).toNat)
      case atStart => exact ⟨0, rfl, by omega, by (repeat' (first | exact Below.refl _ _ | assumption | (refine Below.alloc ?_ ?_ _) | (refine Below.setCell ?_ ?_ _) | (refine Below.drew ?_) | (refine below_drewN ?_ _) | (refine below_after (Ext.below _) ?_ ?_) | (refine below_after (by assumption) ?_ ?_) | (simp; done) | omega | (simp; omega)))⟩
      case round =>
        obtain ⟨j', rfl, hj', hbq⟩ := hrel
        obtain ⟨hcq, hfq⟩ := bcell hbq
        have hsq := hbq.size
        by_cases hlt' : j' < n
        · obtain ⟨m', b', o', hm', he, hbl', hcell'⟩ := hR5.int hlt'
          obtain ⟨rfl, rfl⟩ : b = b' ∧ o = o' := by injection he with he; injection he with e1 e2; exact ⟨e1, e2⟩
          have hmm' := Lib.hid (List.mem_of_getElem? hm'.out)
          clear he
          go_wp2
          (refine wp_region_ext_lit (by kernel_rfl) (by kernel_rfl) ?_; (repeat (go_big_quiet_step (first | (go_at_call 17; exact calls_ext (sym_Compose _ _ _ (hM5.of (by (repeat' (first | exact Below.refl _ _ | assumption | (refine Below.alloc ?_ ?_ _) | (refine Below.setCell ?_ ?_ _) | (refine Below.drew ?_) | (refine below_drewN ?_ _) | (refine below_after (Ext.below _) ?_ ?_) | (refine below_after (by assumption) ?_ ?_) | (simp; done) | omega | (simp; omega))))))) | (go_at_call 29; exact calls_ext_same (ref_HasComp _ _ _ _ _ _ _ (hR5.of (by (repeat' (first | exact Below.refl _ _ | assumption | (refine Below.alloc ?_ ?_ _) | (refine Below.setCell ?_ ?_ _) | (refine Below.drew ?_) | (refine below_drewN ?_ _) | (refine below_after (Ext.below _) ?_ ?_) | (refine below_after (by assumption) ?_ ?_) | (simp; done) | omega | (simp; omega))))) hn hmm hmm'))))); refine wpQuiet_nil ?_; intro _ hw'; obtain ⟨z7, hw''⟩ := hw'; subst hw''; have hs7 := z7.size; obtain ⟨hc7, hf7⟩ := bcell z7.below; (try simp only [World.size_alloc, World.size_setCell, World.size_drew] at hc7 hf7); (try simp at hs7))
          go_wp2
          go_roundw
          case rel => exact ⟨j' + 1, by go_num, by omega, by (repeat' (first | exact Below.refl _ _ | assumption | (refine Below.alloc ?_ ?_ _) | (refine Below.setCell ?_ ?_ _) | (refine Below.drew ?_) | (refine below_drewN ?_ _) | (refine below_after (Ext.below _) ?_ ?_) | (refine below_after (by assumption) ?_ ?_) | (simp; done) | omega | (simp; omega)))⟩
          case measure => simp [intOf]; omega
        · obtain rfl : j' = n := by omega
          go_wp2
          go_roundw
          case rel => exact ⟨j + 1, by go_num, by omega, by (repeat' (first | exact Below.refl _ _ | assumption | (refine Below.alloc ?_ ?_ _) | (refine Below.setCell ?_ ?_ _) | (refine Below.drew ?_) | (refine below_drewN ?_ _) | (refine below_after (Ext.below _) ?_ ?_) | (refine below_after (by assumption) ?_ ?_) | (simp; done) | omega | (simp; omega)))⟩
          case measure => simp [intOf]; omega
    · obtain rfl : j = n := by omega
      rcases hlen with rfl | rfl | rfl | rfl
      all_goals
        go_wp2_with fail
        go_at_call 16
        refine (alive_04 _ (hM5.of hbr)).mono ?_
        rintro e w8 ⟨rfl, hb8⟩
        go_wp2_with fail
        go_ret
        exact ⟨rfl, below_thru (below_thru hB5 hbr) hb8⟩
theorem law_groups (A0 : Option Addr) (nl cl : Nat) (l : List Int) (w : World) (hM : Mx w) (hR : Rd encI 1 w A0 nl l) :
    Calls Tryd.prog 6 #[.slice A0 nl cl] w fun e w' => e = .returned (.bool true) ∧ Below w.heap.size w w' := by
  rcases Nat.lt_or_ge 100 nl with h | h
  · exact law_groups_long A0 nl cl w hM h
  · exact law_groups_short A0 nl cl l w hM hR h
end Go.Proofs.YtobbkclfbbblaaaDoor
