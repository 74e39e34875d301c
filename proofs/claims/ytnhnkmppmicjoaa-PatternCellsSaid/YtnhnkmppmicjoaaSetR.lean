/- The contract of the reference's Set. -/
import Derived.Test.YtnhnkmppmicjoaaFromS
import Derived.Test.YtnhnkmppmicjoaaSetP
namespace Go.Proofs.Ytnhnkmppmicjoaa
open Go Go.RowKit
set_option linter.unusedSimpArgs false
set_option linter.unusedVariables false
set_option maxRecDepth 100000
attribute [local go_sem ↓ high] eq_cl neq_cl eq_pt neq_pt
set_option maxHeartbeats 4000000 in
theorem ref05_Set (A : Option Addr) (n c : Nat) (l : List (Int × Int × Int)) (x y s : Int) (w : World) (hR : Rd encC 3 w A n l) (hn : n ≤ 1000000) :
    Calls Try.prog 52 #[.slice A n c, .int .i64 x, .int .i64 y, .int .i64 s] w fun e w' => ∃ A' n' c', e = .returned (.tuple #[.slice A' n' c', .int .i64 (setE l x y s)]) ∧ Rd encC 3 w' A' n' (setL l x y s) ∧ n' ≤ n + 1 ∧ Below w.heap.size w w' := by
  cases hr : rightC l with
  | false =>
    have HE := Lib.hid (setE_list x y s hr)
    have kR := fun w1 (h1 : Rd encC 3 w1 A n l) => ref05_RightV (A := A) (n := n) (c := c) hr w1 h1 (by omega)
    clear hr
    go_enter Try.func52, Try.ntmps52
    go_wp2_with (first | (go_at_call 40; refine (kR _ hR).mono ?_; rintro e w1 ⟨rfl, hb1⟩; obtain ⟨hc1, hf1⟩ := bcell hb1; have hs1 := hb1.size; (try simp only [World.size_alloc, World.size_setCell, World.size_drew] at hc1 hf1); (try simp at hs1)))
    go_ret2
    exact ⟨none, 0, 0, ret_pe HE.out.symm, by rw [setL_no HE.out (by omega)]; exact Rd.nil_, by omega, by (repeat' (first | exact Below.refl _ _ | assumption | (refine Below.alloc ?_ ?_ _) | (refine Below.setCell ?_ ?_ _) | (refine Below.drew ?_) | (refine below_drewN ?_ _) | (refine below_after (Ext.below _) ?_ ?_) | (refine below_after (by assumption) ?_ ?_) | (simp; done) | omega | (simp; omega)))⟩
  | true =>
    have kR := fun w1 (h1 : Rd encC 3 w1 A n l) => ref05_RightV (A := A) (n := n) (c := c) hr w1 h1 (by omega)
    cases hv : validB x y with
    | false =>
      have HE := Lib.hid (setE_place s hr hv)
      have kP := fun w1 => ref05_PlaceV hv w1
      clear hr hv
      go_enter Try.func52, Try.ntmps52
      go_wp2_with (first | (go_at_call 40; refine (kR _ hR).mono ?_; rintro e w1 ⟨rfl, hb1⟩; obtain ⟨hc1, hf1⟩ := bcell hb1; have hs1 := hb1.size; (try simp only [World.size_alloc, World.size_setCell, World.size_drew] at hc1 hf1); (try simp at hs1)) | (go_at_call 66; refine (kP _).mono ?_; rintro e w' ⟨rfl, rfl⟩))
      go_ret2
      exact ⟨none, 0, 0, ret_pe HE.out.symm, by rw [setL_no HE.out (by omega)]; exact Rd.nil_, by omega, by (repeat' (first | exact Below.refl _ _ | assumption | (refine Below.alloc ?_ ?_ _) | (refine Below.setCell ?_ ?_ _) | (refine Below.drew ?_) | (refine below_drewN ?_ _) | (refine below_after (Ext.below _) ?_ ?_) | (refine below_after (by assumption) ?_ ?_) | (simp; done) | omega | (simp; omega)))⟩
    | true =>
      have kP := fun w1 => ref05_PlaceV hv w1
      have hways : (decide (s < 0) = true ∧ (s < 0 ∨ 8 ≤ s)) ∨ (decide (s < 0) = false ∧ decide (8 ≤ s) = true ∧ (s < 0 ∨ 8 ≤ s)) ∨ (decide (s < 0) = false ∧ decide (8 ≤ s) = false ∧ 0 ≤ s ∧ s ≤ 7) := by
        simp only [decide_eq_true_eq, decide_eq_false_iff_not]; omega
      rcases hways with ⟨d1, hbad⟩ | ⟨d1, d2, hbad⟩ | ⟨d1, d2, h1, h2⟩
      · have HE := Lib.hid (setE_state hr hv hbad)
        clear hr hv hbad
        go_enter Try.func52, Try.ntmps52
        go_wp2_with (first | (go_at_call 40; refine (kR _ hR).mono ?_; rintro e w1 ⟨rfl, hb1⟩; obtain ⟨hc1, hf1⟩ := bcell hb1; have hs1 := hb1.size; (try simp only [World.size_alloc, World.size_setCell, World.size_drew] at hc1 hf1); (try simp at hs1)) | (go_at_call 66; refine (kP _).mono ?_; rintro e w' ⟨rfl, rfl⟩))
        go_ret2
        exact ⟨none, 0, 0, ret_pe HE.out.symm, by rw [setL_no HE.out (by omega)]; exact Rd.nil_, by omega, by (repeat' (first | exact Below.refl _ _ | assumption | (refine Below.alloc ?_ ?_ _) | (refine Below.setCell ?_ ?_ _) | (refine Below.drew ?_) | (refine below_drewN ?_ _) | (refine below_after (Ext.below _) ?_ ?_) | (refine below_after (by assumption) ?_ ?_) | (simp; done) | omega | (simp; omega)))⟩
      · have HE := Lib.hid (setE_state hr hv hbad)
        clear hr hv hbad
        go_enter Try.func52, Try.ntmps52
        go_wp2_with (first | (go_at_call 40; refine (kR _ hR).mono ?_; rintro e w1 ⟨rfl, hb1⟩; obtain ⟨hc1, hf1⟩ := bcell hb1; have hs1 := hb1.size; (try simp only [World.size_alloc, World.size_setCell, World.size_drew] at hc1 hf1); (try simp at hs1)) | (go_at_call 66; refine (kP _).mono ?_; rintro e w' ⟨rfl, rfl⟩))
        go_ret2
        exact ⟨none, 0, 0, ret_pe HE.out.symm, by rw [setL_no HE.out (by omega)]; exact Rd.nil_, by omega, by (repeat' (first | exact Below.refl _ _ | assumption | (refine Below.alloc ?_ ?_ _) | (refine Below.setCell ?_ ?_ _) | (refine Below.drew ?_) | (refine below_drewN ?_ _) | (refine below_after (Ext.below _) ?_ ?_) | (refine below_after (by assumption) ?_ ?_) | (simp; done) | omega | (simp; omega)))⟩
      · have HS := Lib.hid (fun h5 => setE_size hr hv h1 h2 h5)
        have HK := Lib.hid (fun h5 => setE_ok hr hv h1 h2 h5)
        clear hr hv
        go_enter Try.func52, Try.ntmps52
        go_wp2_with (first | (go_at_call 40; refine (kR _ hR).mono ?_; rintro e w1 ⟨rfl, hb1⟩; obtain ⟨hc1, hf1⟩ := bcell hb1; have hs1 := hb1.size; (try simp only [World.size_alloc, World.size_setCell, World.size_drew] at hc1 hf1); (try simp at hs1)) | (go_at_call 66; refine (kP _).mono ?_; rintro e w' ⟨rfl, rfl⟩))
        have hR1 := hR.of hb1
        obtain ⟨W1, hW1⟩ : ∃ W1, W1 = w1 := ⟨_, rfl⟩
        subst hW1
        clear hc1 hf1 kR kP
        go_loopw [10, 11] (fun v i wr => ∃ (B : Option Addr) (m d j : Nat), v = .slice B m d ∧ i = .int .i64 j ∧ j ≤ n ∧ m ≤ j ∧ Own encC 3 50 W1.heap.size wr B m d (offL (l.take j) x y) ∧ Below W1.heap.size W1 wr) (fun _ i _ => n - (intOf i).toNat)
        case atStart => exact ⟨none, 0, 0, 0, rfl, rfl, by omega, by omega, Own.nil_, Below.refl _ _⟩
        case round =>
          obtain ⟨B, m, d, j, rfl, rfl, hj, hm, hown, hb⟩ := hrel
          obtain ⟨hc, hf⟩ := bcell hb
          have hs := hb.size
          by_cases hlt : j < n
          · have dj : decide ((j : Int) < n) = true := decide_eq_true (by omega)
            obtain ⟨x', y', s', bo, o, hx, rfl, hbl, g1, g2, g3⟩ := hR1.cell hlt
            have hst := offL_step x y hx.out
            have hcase : ((x' != x) = true ∧ atC x y (x', y', s') = false) ∨ ((x' != x) = false ∧ (y' != y) = true ∧ atC x y (x', y', s') = false) ∨ ((x' != x) = false ∧ (y' != y) = false ∧ atC x y (x', y', s') = true) := by
              unfold atC
              by_cases h1 : x' = x <;> by_cases h2 : y' = y <;> simp [h1, h2]
            rcases hcase with ⟨e1, hq⟩ | ⟨e1, e2, hq⟩ | ⟨e1, e2, hq⟩
            · have HT := Lib.hid (show offL (l.take (j + 1)) x y = offL (l.take j) x y ++ [(x', y', s')] by rw [hst, hq]; rfl)
              clear hst hq
              go_wp2_with (first | (at_builtin; refine wpList_append_el rfl (.tmp 47) (.tmp 52) 47 rfl encC 3 50 (.agg #[.int .i64 0, .int .i64 0, .int .i64 0]) 24 Try.underlying47 (by kernel_rfl) rfl (by decide) encC_len encC_one (W1.heap.size) _ _ _ _ rfl (hown.alloc _) (x', y', s') ⟨(wr).heap.size, 0, none⟩ 1 rfl (cells_new (wr) _ _) (by omega) (by omega) (by first | omega | (simp; done) | (simp; omega)) ?_; intro A5 c5 w5 hown5 hg5 hb5; obtain ⟨hc5, hf5⟩ := bcell hb5; have hs5 := hb5.size; (try simp only [World.size_alloc, World.size_setCell, World.size_drew] at hc5 hf5); (try simp at hs5)))
              go_roundw
              case rel => exact ⟨A5, m + 1, c5, j + 1, rfl, by go_num, by omega, by omega, by rw [HT.out]; exact hown5, by (repeat' (first | exact Below.refl _ _ | assumption | (refine Below.alloc ?_ ?_ _) | (refine Below.setCell ?_ ?_ _) | (refine Below.drew ?_) | (refine below_drewN ?_ _) | (refine below_after (Ext.below _) ?_ ?_) | (refine below_after (by assumption) ?_ ?_) | (simp; done) | omega | (simp; omega)))⟩
              case measure => simp [intOf]; omega
            · have HT := Lib.hid (show offL (l.take (j + 1)) x y = offL (l.take j) x y ++ [(x', y', s')] by rw [hst, hq]; rfl)
              clear hst hq
              go_wp2_with (first | (at_builtin; refine wpList_append_el rfl (.tmp 47) (.tmp 52) 47 rfl encC 3 50 (.agg #[.int .i64 0, .int .i64 0, .int .i64 0]) 24 Try.underlying47 (by kernel_rfl) rfl (by decide) encC_len encC_one (W1.heap.size) _ _ _ _ rfl (hown.alloc _) (x', y', s') ⟨(wr).heap.size, 0, none⟩ 1 rfl (cells_new (wr) _ _) (by omega) (by omega) (by first | omega | (simp; done) | (simp; omega)) ?_; intro A5 c5 w5 hown5 hg5 hb5; obtain ⟨hc5, hf5⟩ := bcell hb5; have hs5 := hb5.size; (try simp only [World.size_alloc, World.size_setCell, World.size_drew] at hc5 hf5); (try simp at hs5)))
              go_roundw
              case rel => exact ⟨A5, m + 1, c5, j + 1, rfl, by go_num, by omega, by omega, by rw [HT.out]; exact hown5, by (repeat' (first | exact Below.refl _ _ | assumption | (refine Below.alloc ?_ ?_ _) | (refine Below.setCell ?_ ?_ _) | (refine Below.drew ?_) | (refine below_drewN ?_ _) | (refine below_after (Ext.below _) ?_ ?_) | (refine below_after (by assumption) ?_ ?_) | (simp; done) | omega | (simp; omega)))⟩
              case measure => simp [intOf]; omega
            · have HT := Lib.hid (show offL (l.take (j + 1)) x y = offL (l.take j) x y by rw [hst, hq]; simp)
              clear hst hq
              go_wp2_with fail
              go_roundw
              case rel => exact ⟨B, m, d, j + 1, rfl, by go_num, by omega, by omega, by rw [HT.out]; exact hown, hb⟩
              case measure => simp [intOf]; omega
          · obtain rfl : j = n := by omega
            have dj : decide ((j : Int) < j) = false := decide_eq_false (by omega)
            have ht : l.take j = l := List.take_of_length_le (by rw [hR1.len]; omega)
            rw [ht] at hown
            have hO := hown.rd encC_len
            have hlen := hown.len
            have HQ : Hid (Below w.heap.size w wr) := below_after hb hb1 (by have := hb1.size; omega)
            clear ht hown
            by_cases h0 : 0 < s
            · have d3 : decide (0 < s) = true := decide_eq_true h0
              have hL : (setR l x y s).length = m + 1 := by unfold setR; rw [if_pos h0, (insC_perm _ _).length_eq]; simp [hlen]
              have HL := Lib.hid (show setR l x y s = insC (offL l x y) (x, y, s) by unfold setR; rw [if_pos h0])
              by_cases h5 : m + 1 ≤ 5000
              · have d5 : decide ((5000 : Int) < (m : Int) + 1) = false := decide_eq_false (by omega)
                have d6 : decide ((5000 : Int) < ((m + 1 : Nat) : Int)) = false := decide_eq_false (by omega)
                have HE := Lib.hid (HK.out (by rw [hL]; exact h5))
                clear hL hlen
                go_wp2_with fail
                go_at_call 73
                refine (ref05_insert _ _ _ _ _ _ _ _ hO (by omega)).mono ?_
                rintro e w5 ⟨A5, c5, rfl, hR5, hb5⟩
                go_wp2_with fail
                go_ret2
                exact ⟨A5, m + 1, c5, ret_pe HE.out.symm, by rw [setL_ok HE.out, HL.out]; exact hR5, by omega, below_after hb5 HQ.out (by have := HQ.out.size; omega)⟩
              · have d5 : decide ((5000 : Int) < (m : Int) + 1) = true := decide_eq_true (by omega)
                have d6 : decide ((5000 : Int) < ((m + 1 : Nat) : Int)) = true := decide_eq_true (by omega)
                have HE := Lib.hid (HS.out (by rw [hL]; omega))
                clear hL hlen
                go_wp2_with fail
                go_at_call 73
                refine (ref05_insert _ _ _ _ _ _ _ _ hO (by omega)).mono ?_
                rintro e w5 ⟨A5, c5, rfl, hR5, hb5⟩
                go_wp2_with fail
                go_ret2
                exact ⟨none, 0, 0, ret_pe HE.out.symm, by rw [setL_no HE.out (by omega)]; exact Rd.nil_, by omega, below_after hb5 HQ.out (by have := HQ.out.size; omega)⟩
            · have d3 : decide (0 < s) = false := decide_eq_false h0
              have HL := Lib.hid (show setR l x y s = offL l x y by unfold setR; rw [if_neg h0])
              by_cases h5 : m ≤ 5000
              · have d5 : decide ((5000 : Int) < (m : Int)) = false := decide_eq_false (by omega)
                have HE := Lib.hid (HK.out (by rw [HL.out, hlen]; exact h5))
                clear hlen
                go_wp2_with fail
                go_ret2
                first | exact ⟨B, m, d, ret_pe HE.out.symm, by rw [setL_ok HE.out, HL.out]; exact hO, by omega, HQ.out⟩ | exact ⟨B, m, ⟨d, ret_pe HE.out.symm⟩, by rw [setL_ok HE.out, HL.out]; exact hO, by omega, HQ.out⟩
              · have d5 : decide ((5000 : Int) < (m : Int)) = true := decide_eq_true (by omega)
                have HE := Lib.hid (HS.out (by rw [HL.out, hlen]; omega))
                clear hlen
                go_wp2_with fail
                go_ret2
                first | exact ⟨none, 0, 0, ret_pe HE.out.symm, by rw [setL_no HE.out (by omega)]; exact Rd.nil_, by omega, HQ.out⟩ | exact ⟨none, 0, ⟨0, ret_pe HE.out.symm⟩, by rw [setL_no HE.out (by omega)]; exact Rd.nil_, by omega, HQ.out⟩
end Go.Proofs.Ytnhnkmppmicjoaa
