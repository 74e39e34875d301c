/- The contract of the reference's From. -/
import Derived.Test.YtnhapgbjaeaamaaGreatDoorFromR
namespace Go.Proofs.YtnhapgbjaeaamaaGreatDoor
open Go Go.RowKit
set_option linter.unusedSimpArgs false
set_option linter.unusedVariables false
set_option maxRecDepth 100000
attribute [local go_sem ↓ high] eq_cl neq_cl eq_pt neq_pt
theorem srtC_snoc (l : List (Int × Int × Int)) (c : Int × Int × Int) : srtC (l ++ [c]) = insC (srtC l) c := by unfold srtC; rw [List.foldl_append]; rfl
theorem gd_state {l : List (Int × Int × Int)} {n j : Nat} {x y s : Int} (h : gdTo l n) (hj : j < n) (hx : l[j]? = some (x, y, s)) : 0 ≤ s ∧ s ≤ 7 := by
  have := h j _ hj hx
  unfold frBad at this
  split at this
  · split at this
    · rename_i h2; exact h2
    · omega
  · omega
/-- Each cell ahead of k is ahead of the next one. -/
def asTo (l : List (Int × Int × Int)) (k : Nat) : Prop := ∀ j a b, j + 1 < k → l[j]? = some a → l[j + 1]? = some b → cBef a b = true
theorem asTo_step {l : List (Int × Int × Int)} {k : Nat} {a b : Int × Int × Int} (h : asTo l k) (hk : 1 ≤ k) (ha : l[k - 1]? = some a) (hb : l[k]? = some b) (hne : cBef a b = true) : asTo l (k + 1) := by
  intro j p q hj hp hq
  by_cases e : j + 1 = k
  · subst e
    rw [Nat.add_sub_cancel, hp] at ha
    rw [hq] at hb
    cases ha; cases hb; exact hne
  · exact h j p q (by omega) hp hq
theorem ssB_of {l : List (Int × Int × Int)} {n : Nat} (hl : l.length = n) (h : asTo l n) : ssB l = true :=
  ssB_iff.2 (pairwise_of_next (r := fun a b => cBef a b = true) (fun a b c h1 h2 => cBef_tr h1 h2) l fun j a b ha hb => h j a b (by rw [← hl]; exact (List.getElem?_eq_some_iff.1 hb).1) ha hb)
theorem ssB_not {l : List (Int × Int × Int)} {k : Nat} {a b : Int × Int × Int} (hk : 1 ≤ k) (ha : l[k - 1]? = some a) (hb : l[k]? = some b) (hne : cBef a b = false) : ssB l = false := by
  rw [Bool.eq_false_iff]
  intro h
  have h1 := List.getElem?_eq_some_iff.1 ha
  have h2 := List.getElem?_eq_some_iff.1 hb
  have := (List.pairwise_iff_getElem.1 (ssB_iff.1 h)) (k - 1) k h1.1 h2.1 (by omega)
  rw [h1.2, h2.2, hne] at this; cases this
set_option maxHeartbeats 4000000 in
theorem ref05_FromN (A : Option Addr) (n c : Nat) (l : List (Int × Int × Int)) (w : World) (hR : Rd encC 3 w A n l) (hn : n ≤ 1000000) :
    Calls Tryz.prog 66 #[.slice A n c] w fun e w' => ∃ A' n' c', e = .returned (.tuple #[.slice A' n' c', .int .i64 (frE l)]) ∧ NewP w.heap.size w' A' n' c' (frL l) ∧ n' ≤ n ∧ Below w.heap.size w w' := by
  go_enter Tryz.func66, Tryz.ntmps66
  go_wp2
  go_loopw [5] (fun i wr => ∃ j : Nat, i = .int .i64 j ∧ j ≤ n ∧ Hid (gdTo l j) ∧ Below w.heap.size w wr) (fun i _ => n - (intOf i).toNat)
  case atStart => exact ⟨0, rfl, by omega, (fun i d hi => absurd hi (by omega)), Below.refl _ _⟩
  case round =>
    obtain ⟨j, rfl, hj, hgd, hb⟩ := hrel
    obtain ⟨hc, hf⟩ := bcell hb
    have hs := hb.size
    by_cases hlt : j < n
    · obtain ⟨x, y, s, bo, o, hx, rfl, hbl, g1, g2, g3⟩ := hR.cell hlt
      cases hv : validB x y with
      | false =>
        have HE := Lib.hid (frE_first (frFirst_bad hgd.out hx.out (frBad_place hv) (by omega)) (by omega))
        have kP := fun w1 => ref05_PlaceV hv w1
        clear hv
        go_wp2
        (refine wp_region_ext_lit (by kernel_rfl) (by kernel_rfl) ?_; (repeat (go_big_quiet_step ((go_at_call 67; exact calls_ext_same (kP _))))); refine wpQuiet_nil ?_; intro _ hw'; obtain ⟨z3, hw''⟩ := hw'; subst hw''; have hs3 := z3.size; obtain ⟨hc3, hf3⟩ := bcell z3.below; (try simp only [World.size_alloc, World.size_setCell, World.size_drew] at hc3 hf3); (try simp at hs3))
        go_wp2
        go_ret2
        exact ⟨none, 0, 0, ret_pe HE.out.symm, by rw [frL_no HE.out (by omega)]; exact NewP.nil_, by omega, by (repeat' (first | exact Below.refl _ _ | assumption | (refine Below.alloc ?_ ?_ _) | (refine Below.setCell ?_ ?_ _) | (refine Below.drew ?_) | (refine below_drewN ?_ _) | (refine below_after (Ext.below _) ?_ ?_) | (refine below_after (by assumption) ?_ ?_) | (simp; done) | omega | (simp; omega)))⟩
      | true =>
        have kP := fun w1 => ref05_PlaceV hv w1
        have hways : (decide (s < 0) = true ∧ (s < 0 ∨ 8 ≤ s)) ∨ (decide (s < 0) = false ∧ decide (8 ≤ s) = true ∧ (s < 0 ∨ 8 ≤ s)) ∨ (decide (s < 0) = false ∧ decide (8 ≤ s) = false ∧ 0 ≤ s ∧ s ≤ 7) := by
          simp only [decide_eq_true_eq, decide_eq_false_iff_not]; omega
        rcases hways with ⟨d1, hbad⟩ | ⟨d1, d2, hbad⟩ | ⟨d1, d2, h1, h2⟩
        · have HE := Lib.hid (frE_first (frFirst_bad hgd.out hx.out (frBad_state hv hbad) (by omega)) (by omega))
          clear hv hbad
          go_wp2
          (refine wp_region_ext_lit (by kernel_rfl) (by kernel_rfl) ?_; (repeat (go_big_quiet_step ((go_at_call 67; exact calls_ext_same (kP _))))); refine wpQuiet_nil ?_; intro _ hw'; obtain ⟨z3, hw''⟩ := hw'; subst hw''; have hs3 := z3.size; obtain ⟨hc3, hf3⟩ := bcell z3.below; (try simp only [World.size_alloc, World.size_setCell, World.size_drew] at hc3 hf3); (try simp at hs3))
          go_wp2
          go_ret2
          exact ⟨none, 0, 0, ret_pe HE.out.symm, by rw [frL_no HE.out (by omega)]; exact NewP.nil_, by omega, by (repeat' (first | exact Below.refl _ _ | assumption | (refine Below.alloc ?_ ?_ _) | (refine Below.setCell ?_ ?_ _) | (refine Below.drew ?_) | (refine below_drewN ?_ _) | (refine below_after (Ext.below _) ?_ ?_) | (refine below_after (by assumption) ?_ ?_) | (simp; done) | omega | (simp; omega)))⟩
        · have HE := Lib.hid (frE_first (frFirst_bad hgd.out hx.out (frBad_state hv hbad) (by omega)) (by omega))
          clear hv hbad
          go_wp2
          (refine wp_region_ext_lit (by kernel_rfl) (by kernel_rfl) ?_; (repeat (go_big_quiet_step ((go_at_call 67; exact calls_ext_same (kP _))))); refine wpQuiet_nil ?_; intro _ hw'; obtain ⟨z3, hw''⟩ := hw'; subst hw''; have hs3 := z3.size; obtain ⟨hc3, hf3⟩ := bcell z3.below; (try simp only [World.size_alloc, World.size_setCell, World.size_drew] at hc3 hf3); (try simp at hs3))
          go_wp2
          go_ret2
          exact ⟨none, 0, 0, ret_pe HE.out.symm, by rw [frL_no HE.out (by omega)]; exact NewP.nil_, by omega, by (repeat' (first | exact Below.refl _ _ | assumption | (refine Below.alloc ?_ ?_ _) | (refine Below.setCell ?_ ?_ _) | (refine Below.drew ?_) | (refine below_drewN ?_ _) | (refine below_after (Ext.below _) ?_ ?_) | (refine below_after (by assumption) ?_ ?_) | (simp; done) | omega | (simp; omega)))⟩
        · have hg2 := Lib.hid (gdTo_step hgd.out hx.out (frBad_ok hv h1 h2))
          clear hv h1 h2
          go_wp2
          (refine wp_region_ext_lit (by kernel_rfl) (by kernel_rfl) ?_; (repeat (go_big_quiet_step ((go_at_call 67; exact calls_ext_same (kP _))))); refine wpQuiet_nil ?_; intro _ hw'; obtain ⟨z3, hw''⟩ := hw'; subst hw''; have hs3 := z3.size; obtain ⟨hc3, hf3⟩ := bcell z3.below; (try simp only [World.size_alloc, World.size_setCell, World.size_drew] at hc3 hf3); (try simp at hs3))
          go_wp2
          go_roundw
          case rel => exact ⟨j + 1, by go_num, by omega, hg2, by (repeat' (first | exact Below.refl _ _ | assumption | (refine Below.alloc ?_ ?_ _) | (refine Below.setCell ?_ ?_ _) | (refine Below.drew ?_) | (refine below_drewN ?_ _) | (refine below_after (Ext.below _) ?_ ?_) | (refine below_after (by assumption) ?_ ?_) | (simp; done) | omega | (simp; omega)))⟩
          case measure => simp [intOf]; omega
    · obtain rfl : j = n := by omega
      have hF := Lib.hid (gdTo_all hR.len hgd.out)
      have hR1 := hR.of hb
      have HB1 := Lib.hid hb
      obtain ⟨W1, hW1⟩ : ∃ W1, W1 = wr := ⟨_, rfl⟩
      subst hW1
      clear hc hf
      go_wp2
      go_loopw [4, 6] (fun v i wr => ∃ (B : Option Addr) (m d k : Nat), v = .slice B m d ∧ i = .int .i64 k ∧ k ≤ j ∧ m ≤ k ∧ NewP w.heap.size wr B m d (srtC (nz (l.take k))) ∧ Below W1.heap.size W1 wr) (fun _ i _ => j - (intOf i).toNat)
      case atStart => exact ⟨none, 0, 0, 0, rfl, rfl, by omega, by omega, NewP.nil_, Below.refl _ _⟩
      case round =>
        obtain ⟨B, m, d, k, rfl, rfl, hk, hm, hO, hq⟩ := hrel
        obtain ⟨hcq, hfq⟩ := bcell hq
        have hsq := hq.size
        by_cases hlt : k < j
        · obtain ⟨x, y, s, bo, o, hx, rfl, hbl, g1, g2, g3⟩ := hR1.cell hlt
          obtain ⟨s1, s2⟩ := gd_state hgd.out hlt hx.out
          by_cases h0 : s = 0
          · have hst := Lib.hid (nz_no hx.out (by omega))
            have dz : (s != 0) = false := by simp [h0]
            clear h0
            go_wp2
            go_roundw
            case rel => exact ⟨B, m, d, k + 1, rfl, by go_num, by omega, by omega, by rw [hst.out]; exact hO, hq⟩
            case measure => simp [intOf]; omega
          · have hst := Lib.hid (show srtC (nz (l.take (k + 1))) = insC (srtC (nz (l.take k))) (x, y, s) by rw [nz_yes hx.out (by omega), srtC_snoc])
            have dz : (s != 0) = true := by simpa using h0
            clear h0
            go_wp2_with fail
            go_at_call 101
            refine (ref05_insertN _ _ _ _ _ _ _ _ hO.rd (by omega)).mono ?_
            rintro e w5 ⟨A5, c5, rfl, hR5, hb5⟩
            go_wp2_with fail
            go_roundw
            case rel => exact ⟨A5, m + 1, c5, k + 1, rfl, by go_num, by omega, by omega, by rw [hst.out]; exact hR5.more (by have := HB1.out.size; omega), below_after hb5 hq (by omega)⟩
            case measure => simp [intOf]; omega
        · obtain rfl : k = j := by omega
          have ht : l.take k = l := List.take_of_length_le (by rw [hR1.len]; omega)
          rw [ht] at hO
          have hlen := Lib.hid hO.rd.len
          have HQ : Hid (Below w.heap.size w wr) := below_after hq HB1.out (by have := HB1.out.size; omega)
          obtain ⟨W2, hW2⟩ : ∃ W2, W2 = wr := ⟨_, rfl⟩
          subst hW2
          clear ht hcq hfq
          go_wp2
          go_loopw [7] (fun i wr => ∃ u : Nat, i = .int .i64 u ∧ 1 ≤ u ∧ (u ≤ m ∨ u = 1) ∧ Hid (asTo (srtC (nz l)) u) ∧ Below W2.heap.size W2 wr) (fun i _ => m - (intOf i).toNat)
          case atStart => exact ⟨1, rfl, by omega, by omega, (fun j a b hj => absurd hj (by omega)), Below.refl _ _⟩
          case round =>
            obtain ⟨u, rfl, hu1, hum, has, hz⟩ := hrel
            obtain ⟨hcz, hfz⟩ := bcell hz
            have hsz := hz.size
            by_cases hlt2 : u < m
            · obtain ⟨qx, qy, qs, bo, o, hq', rfl, hbl, q1, q2, q3⟩ := hO.rd.cell hlt2
              obtain ⟨px, py, ps, bo', o', hp', he, hbl', p1, p2, p3⟩ := hO.rd.cell (i := u - 1) (by omega)
              obtain ⟨rfl, rfl⟩ : bo = bo' ∧ o = o' := by injection he with he; injection he with e1 e2; exact ⟨e1, e2⟩
              clear he
              have hkm : ((u : Int) - 1).toNat = u - 1 := by omega
              have hk0 : (0 : Int) ≤ (u : Int) - 1 := by omega
              have wk : IntKind.i64.wrap ((u : Int) - 1) = (u : Int) - 1 := IntWalk.i64_in _ (by omega)
              cases hbf : cBef (px, py, ps) (qx, qy, qs) with
              | false =>
                have HE := Lib.hid (frE_twice hF.out (ssB_not hu1 hp'.out hq'.out hbf))
                have kB := fun w1 => ref05_beforeV (show befP px py qx qy = false from hbf) ps qs w1
                clear hbf
                go_wp2_with fail
                (refine wp_region_ext_lit (by kernel_rfl) (by kernel_rfl) ?_; (repeat (go_big_quiet_step ((go_at_call 72; exact calls_ext (kB _))))); refine wpQuiet_nil ?_; intro _ hw'; obtain ⟨z1, hw''⟩ := hw'; subst hw''; have hs1 := z1.size; obtain ⟨hc1, hf1⟩ := bcell z1.below; (try simp only [World.size_alloc, World.size_setCell, World.size_drew] at hc1 hf1); (try simp at hs1))
                go_wp2
                go_ret2
                exact ⟨none, 0, 0, ret_pe HE.out.symm, by rw [frL_no HE.out (by omega)]; exact NewP.nil_, by omega, below_after z1.below (below_after hz HQ.out (by have := HQ.out.size; omega)) (by have := HQ.out.size; omega)⟩
              | true =>
                have HD := Lib.hid (asTo_step has.out hu1 hp'.out hq'.out hbf)
                have kB := fun w1 => ref05_beforeV (show befP px py qx qy = true from hbf) ps qs w1
                clear hbf
                go_wp2_with fail
                (refine wp_region_ext_lit (by kernel_rfl) (by kernel_rfl) ?_; (repeat (go_big_quiet_step ((go_at_call 72; exact calls_ext (kB _))))); refine wpQuiet_nil ?_; intro _ hw'; obtain ⟨z1, hw''⟩ := hw'; subst hw''; have hs1 := z1.size; obtain ⟨hc1, hf1⟩ := bcell z1.below; (try simp only [World.size_alloc, World.size_setCell, World.size_drew] at hc1 hf1); (try simp at hs1))
                go_wp2
                go_roundw
                case rel => exact ⟨u + 1, by go_num, by omega, by omega, HD, by (repeat' (first | exact Below.refl _ _ | assumption | (refine Below.alloc ?_ ?_ _) | (refine Below.setCell ?_ ?_ _) | (refine Below.drew ?_) | (refine below_drewN ?_ _) | (refine below_after (Ext.below _) ?_ ?_) | (refine below_after (by assumption) ?_ ?_) | (simp; done) | omega | (simp; omega)))⟩
                case measure => simp [intOf]; omega
            · have hfin := ssB_of (n := m) hlen.out (fun j a b hj ha hb => has.out j a b (by omega) ha hb)
              have hnl : (nz l).length = m := by rw [← (srtC_perm (nz l)).length_eq]; exact hlen.out
              have HB := Lib.hid (below_after hz HQ.out (by have := HQ.out.size; omega))
              by_cases h5 : m ≤ 5000
              · have d5 : decide ((5000 : Int) < m) = false := decide_eq_false (by omega)
                have HE := Lib.hid (frE_ok hF.out hfin (by rw [hnl]; exact h5))
                clear hfin hnl
                go_wp2
                go_ret2
                exact ⟨B, m, d, ret_pe HE.out.symm, by rw [frL_ok HE.out]; exact hO.of hz, hm, HB.out⟩
              · have d5 : decide ((5000 : Int) < m) = true := decide_eq_true (by omega)
                have HE := Lib.hid (frE_size hF.out hfin (by rw [hnl]; omega))
                clear hfin hnl
                go_wp2
                go_ret2
                exact ⟨none, 0, 0, ret_pe HE.out.symm, by rw [frL_no HE.out (by omega)]; exact NewP.nil_, by omega, HB.out⟩
theorem ref05_FromC (A : Option Addr) (n c : Nat) (l : List (Int × Int × Int)) (w : World) (hR : Rd encC 3 w A n l) (hn : n ≤ 1000000) :
    Calls Tryz.prog 66 #[.slice A n c] w fun e w' => ∃ A' n' c', e = .returned (.tuple #[.slice A' n' c', .int .i64 (frE l)]) ∧ Rd encC 3 w' A' n' (frL l) ∧ n' ≤ n ∧ n' ≤ c' ∧ Below w.heap.size w w' :=
  (ref05_FromN A n c l w hR hn).mono fun _ _ ⟨A', n', c', h1, h2, h3, h4⟩ => ⟨A', n', c', h1, h2.rd, h3, h2.cap, h4⟩
theorem ref05_From (A : Option Addr) (n c : Nat) (l : List (Int × Int × Int)) (w : World) (hR : Rd encC 3 w A n l) (hn : n ≤ 1000000) :
    Calls Tryz.prog 66 #[.slice A n c] w fun e w' => ∃ A' n' c', e = .returned (.tuple #[.slice A' n' c', .int .i64 (frE l)]) ∧ Rd encC 3 w' A' n' (frL l) ∧ n' ≤ n ∧ Below w.heap.size w w' :=
  (ref05_FromC A n c l w hR hn).mono fun _ _ ⟨A', n', c', h1, h2, h3, _, h4⟩ => ⟨A', n', c', h1, h2, h3, h4⟩
end Go.Proofs.YtnhapgbjaeaamaaGreatDoor
