/- The contract of slices.BinarySearchFunc at cells. -/
import Derived.Test.YtnhnkmppmicjoaaFrom
import Derived.Test.YtnhnkmppmicjoaaSetP
namespace Go.Proofs.Ytnhnkmppmicjoaa
open Go Go.RowKit
set_option linter.unusedSimpArgs false
set_option linter.unusedVariables false
set_option maxRecDepth 100000
attribute [local go_sem ↓ high] eq_cl neq_cl eq_pt neq_pt
/-- All cells ahead of k are ahead of c, and none from k on. -/
def loTo (l : List (Int × Int × Int)) (c : Int × Int × Int) (k : Nat) : Prop := ∀ r d, r < k → l[r]? = some d → cBef d c = true
def hiTo (l : List (Int × Int × Int)) (c : Int × Int × Int) (k : Nat) : Prop := ∀ r d, k ≤ r → l[r]? = some d → cBef d c = false
/-- q: whether a cell at the position stands at k. -/
def fdAt (l : List (Int × Int × Int)) (x y : Int) (k : Nat) (q : Bool) : Prop := q = true ↔ ∃ t, l[k]? = some (x, y, t)
theorem ssc_at {l : List (Int × Int × Int)} (h : SSC l) {i j : Nat} {a b : Int × Int × Int} (ha : l[i]? = some a) (hb : l[j]? = some b) (hij : i < j) : cBef a b = true := by
  have h1 := List.getElem?_eq_some_iff.1 ha
  have h2 := List.getElem?_eq_some_iff.1 hb
  have := (List.pairwise_iff_getElem.1 h) i j h1.1 h2.1 hij
  rw [h1.2, h2.2] at this; exact this
theorem loTo_mid {l : List (Int × Int × Int)} (h : SSC l) {c a : Int × Int × Int} {k : Nat} (hk : l[k]? = some a) (hb : cBef a c = true) : loTo l c (k + 1) := by
  intro r d hr hd
  by_cases e : r = k
  · subst e; rw [hk] at hd; cases hd; exact hb
  · exact cBef_tr (ssc_at h hd hk (by omega)) hb
theorem hiTo_mid {l : List (Int × Int × Int)} (h : SSC l) {c a : Int × Int × Int} {k : Nat} (hk : l[k]? = some a) (hb : cBef a c = false) : hiTo l c k := by
  intro r d hr hd
  by_cases e : r = k
  · subst e; rw [hk] at hd; cases hd; exact hb
  · rw [Bool.eq_false_iff]; intro hq
    rw [cBef_tr (ssc_at h hk hd (by omega)) hq] at hb; cases hb
theorem cmpP_neg (a b x y : Int) : decide (cmpP a b x y < 0) = befP a b x y := by
  unfold cmpP befP orI cmpI; (repeat' split) <;> simp <;> omega
theorem cmpP_nil (a b x y : Int) : (cmpP a b x y == 0) = decide (a = x ∧ b = y) := by
  unfold cmpP orI cmpI; (repeat' split) <;> simp <;> omega
set_option maxHeartbeats 4000000 in
theorem search_order (A : Option Addr) (n c : Nat) (l : List (Int × Int × Int)) (x y s : Int) (w : World) (hR : Rd encC 3 w A n l) (hn : n ≤ 1000000) (hS : SSC l) :
    Calls Try.prog 74 #[.slice A n c, .agg #[.int .i64 x, .int .i64 y, .int .i64 s], .func (.func 65) #[] #[]] w fun e w' => ∃ (k : Nat) (q : Bool), e = .returned (.tuple #[.int .i64 k, .bool q]) ∧ k ≤ n ∧ loTo l (x, y, s) k ∧ hiTo l (x, y, s) k ∧ fdAt l x y k q ∧ Below w.heap.size w w' := by
  have HSS := Lib.hid hS
  clear hS
  go_enter Try.func74, Try.ntmps74
  go_wp2
  go_loopw [9, 10] (fun i j wr => ∃ lo hi : Nat, i = .int .i64 lo ∧ j = .int .i64 hi ∧ lo ≤ hi ∧ hi ≤ n ∧ Hid (loTo l (x, y, s) lo) ∧ Hid (hiTo l (x, y, s) hi) ∧ Below (w.heap.size + 1) (w.alloc (.cells #[.int .i64 x, .int .i64 y, .int .i64 s] 50)) wr) (fun i j _ => (intOf j).toNat - (intOf i).toNat)
  case atStart => exact ⟨0, n, rfl, rfl, by omega, by omega, (fun r d hr => absurd hr (by omega)), (fun r d hr hd => absurd (List.getElem?_eq_some_iff.1 hd).1 (by rw [hR.len]; omega)), by (repeat' (first | exact Below.refl _ _ | assumption | (refine Below.alloc ?_ ?_ _) | (refine Below.setCell ?_ ?_ _) | (refine Below.drew ?_) | (refine below_drewN ?_ _) | (refine below_after (Ext.below _) ?_ ?_) | (refine below_after (by assumption) ?_ ?_) | (simp; done) | omega | (simp; omega)))⟩
  case round =>
    obtain ⟨lo, hi, rfl, rfl, hlh, hhn, hL, hH, hb⟩ := hrel
    obtain ⟨hc, hf⟩ := bcell hb
    have hs := hb.size
    (try simp only [World.size_alloc] at hs)
    by_cases hlt : lo < hi
    · have dl : decide ((lo : Int) < hi) = true := decide_eq_true (by omega)
      obtain ⟨h, hh⟩ : ∃ h, (lo + hi) / 2 = h := ⟨_, rfl⟩
      have hmid : ((lo : Int) + (hi : Int)) / 2 = (h : Int) := by omega
      obtain ⟨x', y', s', bo, o, hx, rfl, hbl, g1, g2, g3⟩ := hR.cell (i := h) (by omega)
      have kW := fun w1 => pat_order x' y' s' x y s w1
      have dn := cmpP_neg x' y' x y
      cases hbf : cBef (x', y', s') (x, y, s) with
      | true =>
        rw [show befP x' y' x y = true from hbf] at dn
        have HL := Lib.hid (loTo_mid HSS.out hx.out hbf)
        clear hbf
        generalize cmpP x' y' x y = v at kW dn
        go_wp2_with fail
        (refine wp_region_ext_lit (by kernel_rfl) (by kernel_rfl) ?_; (repeat (go_big_quiet_step ((go_at_call 65; exact calls_ext (kW _))))); refine wpQuiet_nil ?_; intro _ hw'; obtain ⟨z1, hw''⟩ := hw'; subst hw''; have hs1 := z1.size; obtain ⟨hc1, hf1⟩ := bcell z1.below; (try simp only [World.size_alloc, World.size_setCell, World.size_drew] at hc1 hf1); (try simp at hs1))
        go_wp2
        go_roundw
        case rel => exact ⟨h + 1, hi, by go_num, rfl, by omega, hhn, HL, hH, by (repeat' (first | exact Below.refl _ _ | assumption | (refine Below.alloc ?_ ?_ _) | (refine Below.setCell ?_ ?_ _) | (refine Below.drew ?_) | (refine below_drewN ?_ _) | (refine below_after (Ext.below _) ?_ ?_) | (refine below_after (by assumption) ?_ ?_) | (simp; done) | omega | (simp; omega)))⟩
        case measure => simp [intOf]; omega
      | false =>
        rw [show befP x' y' x y = false from hbf] at dn
        have HL := Lib.hid (hiTo_mid HSS.out hx.out hbf)
        clear hbf
        generalize cmpP x' y' x y = v at kW dn
        go_wp2_with fail
        (refine wp_region_ext_lit (by kernel_rfl) (by kernel_rfl) ?_; (repeat (go_big_quiet_step ((go_at_call 65; exact calls_ext (kW _))))); refine wpQuiet_nil ?_; intro _ hw'; obtain ⟨z1, hw''⟩ := hw'; subst hw''; have hs1 := z1.size; obtain ⟨hc1, hf1⟩ := bcell z1.below; (try simp only [World.size_alloc, World.size_setCell, World.size_drew] at hc1 hf1); (try simp at hs1))
        go_wp2
        go_roundw
        case rel => exact ⟨lo, h, rfl, by go_num, by omega, by omega, hL, HL, by (repeat' (first | exact Below.refl _ _ | assumption | (refine Below.alloc ?_ ?_ _) | (refine Below.setCell ?_ ?_ _) | (refine Below.drew ?_) | (refine below_drewN ?_ _) | (refine below_after (Ext.below _) ?_ ?_) | (refine below_after (by assumption) ?_ ?_) | (simp; done) | omega | (simp; omega)))⟩
        case measure => simp [intOf]; omega
    · obtain rfl : lo = hi := by omega
      have dl : decide ((lo : Int) < lo) = false := decide_eq_false (by omega)
      by_cases hln : lo < n
      · have dn : decide ((lo : Int) < n) = true := decide_eq_true (by omega)
        obtain ⟨x', y', s', bo, o, hx, rfl, hbl, g1, g2, g3⟩ := hR.cell hln
        have kW := fun w1 => pat_order x' y' s' x y s w1
        have dz := cmpP_nil x' y' x y
        by_cases hq : x' = x ∧ y' = y
        · obtain ⟨rfl, rfl⟩ := hq
          have HI := Lib.hid (show fdAt l x' y' lo true from ⟨fun _ => ⟨_, hx.out⟩, fun _ => rfl⟩)
          rw [decide_eq_true ⟨rfl, rfl⟩] at dz
          generalize cmpP x' y' x' y' = v at kW dz
          go_wp2_with fail
          (refine wp_region_ext_lit (by kernel_rfl) (by kernel_rfl) ?_; (repeat (go_big_quiet_step ((go_at_call 65; exact calls_ext (kW _))))); refine wpQuiet_nil ?_; intro _ hw'; obtain ⟨z1, hw''⟩ := hw'; subst hw''; have hs1 := z1.size; obtain ⟨hc1, hf1⟩ := bcell z1.below; (try simp only [World.size_alloc, World.size_setCell, World.size_drew] at hc1 hf1); (try simp at hs1))
          go_wp2
          go_ret2
          exact ⟨lo, true, rfl, hhn, hL.out, hH.out, HI.out, by (repeat' (first | exact Below.refl _ _ | assumption | (refine Below.alloc ?_ ?_ _) | (refine Below.setCell ?_ ?_ _) | (refine Below.drew ?_) | (refine below_drewN ?_ _) | (refine below_after (Ext.below _) ?_ ?_) | (refine below_after (by assumption) ?_ ?_) | (simp; done) | omega | (simp; omega)))⟩
        · have HI := Lib.hid (show fdAt l x y lo false from ⟨fun e => (by cases e), fun ⟨t, ht⟩ => by rw [hx.out] at ht; injection ht with ht; injection ht with h1 h2; injection h2 with h2 h3; exact absurd ⟨h1, h2⟩ hq⟩)
          rw [decide_eq_false hq] at dz
          clear hq
          generalize cmpP x' y' x y = v at kW dz
          go_wp2_with fail
          (refine wp_region_ext_lit (by kernel_rfl) (by kernel_rfl) ?_; (repeat (go_big_quiet_step ((go_at_call 65; exact calls_ext (kW _))))); refine wpQuiet_nil ?_; intro _ hw'; obtain ⟨z1, hw''⟩ := hw'; subst hw''; have hs1 := z1.size; obtain ⟨hc1, hf1⟩ := bcell z1.below; (try simp only [World.size_alloc, World.size_setCell, World.size_drew] at hc1 hf1); (try simp at hs1))
          go_wp2
          go_ret2
          exact ⟨lo, false, rfl, hhn, hL.out, hH.out, HI.out, by (repeat' (first | exact Below.refl _ _ | assumption | (refine Below.alloc ?_ ?_ _) | (refine Below.setCell ?_ ?_ _) | (refine Below.drew ?_) | (refine below_drewN ?_ _) | (refine below_after (Ext.below _) ?_ ?_) | (refine below_after (by assumption) ?_ ?_) | (simp; done) | omega | (simp; omega)))⟩
      · have dn : decide ((lo : Int) < n) = false := decide_eq_false (by omega)
        have HI := Lib.hid (show fdAt l x y lo false from ⟨fun e => (by cases e), fun ⟨t, ht⟩ => absurd (List.getElem?_eq_some_iff.1 ht).1 (by rw [hR.len]; omega)⟩)
        go_wp2_with fail
        (refine wp_region_ext_lit (by kernel_rfl) (by kernel_rfl) ?_; (repeat (go_big_quiet_step (fail))); refine wpQuiet_nil ?_; intro _ hw'; obtain ⟨z1, hw''⟩ := hw'; subst hw''; have hs1 := z1.size; obtain ⟨hc1, hf1⟩ := bcell z1.below; (try simp only [World.size_alloc, World.size_setCell, World.size_drew] at hc1 hf1); (try simp at hs1))
        go_wp2
        go_ret2
        exact ⟨lo, false, rfl, hhn, hL.out, hH.out, HI.out, by (repeat' (first | exact Below.refl _ _ | assumption | (refine Below.alloc ?_ ?_ _) | (refine Below.setCell ?_ ?_ _) | (refine Below.drew ?_) | (refine below_drewN ?_ _) | (refine below_after (Ext.below _) ?_ ?_) | (refine below_after (by assumption) ?_ ?_) | (simp; done) | omega | (simp; omega)))⟩
end Go.Proofs.Ytnhnkmppmicjoaa
