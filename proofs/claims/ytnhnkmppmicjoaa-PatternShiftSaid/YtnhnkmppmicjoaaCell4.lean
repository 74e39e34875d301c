/- The contracts of Same and Compare, of pattern and of its reference. -/
import Derived.Test.YtnhnkmppmicjoaaCell3
import Derived.Test.YtnhnkmppmicjoaaBoxAt
import Derived.Deep.RegionHeld3
namespace Go.Proofs.Ytnhnkmppmicjoaa
open Go Go.RowKit
set_option linter.unusedSimpArgs false
set_option linter.unusedVariables false
set_option maxRecDepth 100000
attribute [local go_sem ↓ high] eq_cl neq_cl eq_pt neq_pt
theorem same_ne_cl {l r : List (Int × Int × Int)} {j : Nat} {a b s a' b' s' : Int} (hx : l[j]? = some (a, b, s)) (hy : r[j]? = some (a', b', s')) (h : ¬(a = a' ∧ b = b' ∧ s = s')) : sameL l r = false :=
  sameL_ne hx hy (fun e => h (by injection e with e1 e2; injection e2 with e2 e3; exact ⟨e1, e2, e3⟩))
theorem rd_litI (w : World) (l : List Int) (cs : Array Value) (n : Nat) (hn : l.length = n) (hm : n ≤ 4611686018427387904) (hcs : cs.toList = l.flatMap encI) : Rd encI 1 (w.alloc (.cells cs 3)) (some ⟨w.heap.size, 0, none⟩) n l := by
  have h := (Own.lit encI_len w 3 w.heap.size (Nat.le_refl _) l n hn hm cs.toList hcs).rd encI_len
  simpa using h
set_option maxHeartbeats 400000 in
theorem slices_EqualC (A B : Option Addr) (n m c d : Nat) (l r : List (Int × Int × Int)) (w : World) (hR : Rd encC 3 w A n l) (hS : Rd encC 3 w B m r) (hn : n ≤ 1000000) :
    Calls Try.prog 68 #[.slice A n c, .slice B m d] w fun e w' => e = .returned (.bool (sameL l r)) ∧ Below w.heap.size w w' := by
  by_cases hnm : n = m
  · subst hnm
    go_enter Try.func68, Try.ntmps68
    go_wp2
    go_loopw [13] (fun i wr => ∃ j : Nat, j ≤ n ∧ i = .int .i64 j ∧ Below w.heap.size w wr ∧ Hid (∀ i, i < j → l[i]? = r[i]?)) (fun i _ => n - (intOf i).toNat)
    case atStart => exact ⟨0, by omega, rfl, Below.refl _ _, fun r hr => absurd hr (by omega)⟩
    case round =>
      obtain ⟨j, hj, rfl, hb, hno⟩ := hrel
      obtain ⟨hc, hf⟩ := bcell hb
      have hs := hb.size
      by_cases hlt : j < n
      · obtain ⟨a, b, s, bo, o, hx, rfl, hbl, hcell, hcell2, hcell3⟩ := hR.cell hlt
        obtain ⟨a', b', s', bo', o', hy, rfl, hbl', hcell', hcell2', hcell3'⟩ := hS.cell hlt
        by_cases hq : a = a' ∧ b = b' ∧ s = s'
        · obtain ⟨rfl, rfl, rfl⟩ := hq
          go_wp2
          (refine wp_region_ext_lit (by kernel_rfl) (by kernel_rfl) ?_; (repeat (go_big_quiet_step (fail))); refine wpQuiet_nil ?_; intro _ hw'; obtain ⟨z1, hw''⟩ := hw'; subst hw''; have hs1 := z1.size; obtain ⟨hc1, hf1⟩ := bcell z1.below; (try simp only [World.size_alloc, World.size_setCell, World.size_drew] at hc1 hf1); (try simp at hs1))
          go_wp2
          go_roundw
          case rel => exact ⟨j + 1, by omega, by go_num, (by (repeat' (first | exact Below.refl _ _ | assumption | (refine Below.alloc ?_ ?_ _) | (refine Below.setCell ?_ ?_ _) | (refine Below.drew ?_) | (refine below_drewN ?_ _) | (refine below_after (Ext.below _) ?_ ?_) | (refine below_after (by assumption) ?_ ?_) | (simp; done) | omega | (simp; omega)))), same_step hno.out (hx.out.trans hy.out.symm)⟩
          case measure => simp [intOf]; omega
        · have hq' : decide (a = a' ∧ b = b' ∧ s = s') = false := decide_eq_false hq
          have HQ := Lib.hid hq
          clear hq
          go_wp2
          (refine wp_region_ext_lit (by kernel_rfl) (by kernel_rfl) ?_; (repeat (go_big_quiet_step (fail))); refine wpQuiet_nil ?_; intro _ hw'; obtain ⟨z1, hw''⟩ := hw'; subst hw''; have hs1 := z1.size; obtain ⟨hc1, hf1⟩ := bcell z1.below; (try simp only [World.size_alloc, World.size_setCell, World.size_drew] at hc1 hf1); (try simp at hs1))
          go_wp2
          go_ret
          exact ⟨ret_bool (same_ne_cl hx.out hy.out HQ.out).symm, by (repeat' (first | exact Below.refl _ _ | assumption | (refine Below.alloc ?_ ?_ _) | (refine Below.setCell ?_ ?_ _) | (refine Below.drew ?_) | (refine below_drewN ?_ _) | (refine below_after (Ext.below _) ?_ ?_) | (refine below_after (by assumption) ?_ ?_) | (simp; done) | omega | (simp; omega)))⟩
      · obtain rfl : j = n := by omega
        go_wp2
        go_ret
        exact ⟨ret_bool (sameL_all hR.len hS.len hno.out).symm, by (repeat' (first | exact Below.refl _ _ | assumption | (refine Below.alloc ?_ ?_ _) | (refine Below.setCell ?_ ?_ _) | (refine Below.drew ?_) | (refine below_drewN ?_ _) | (refine below_after (Ext.below _) ?_ ?_) | (refine below_after (by assumption) ?_ ?_) | (simp; done) | omega | (simp; omega)))⟩
  · have hq : ((n : Int) != (m : Int)) = true := by simp; omega
    have hq2 : ((n : Int) == (m : Int)) = false := by simp; omega
    have hlen := Lib.hid (sameL_len hR.len hS.len hnm)
    clear hnm
    go_enter Try.func68, Try.ntmps68
    go_wp2
    go_ret
    exact ⟨ret_bool hlen.out.symm, Below.refl _ _⟩
theorem cmpC_zero' {a b : Int × Int × Int} (h : a = b) : cmpC a b = 0 := by subst h; exact cmpC_self a
theorem pat_Same (A B : Option Addr) (n m c d : Nat) (l r : List (Int × Int × Int)) (w : World) (hR : Rd encC 3 w A n l) (hS : Rd encC 3 w B m r) (hn : n ≤ 1000000) :
    Calls Try.prog 43 #[.slice A n c, .slice B m d] w fun e w' => e = .returned (.bool (sameL l r)) ∧ Below w.heap.size w w' := by
  go_enter Try.func43, Try.ntmps43
  go_wp2_with (first | (go_at_call 68; refine (slices_EqualC _ _ _ _ _ _ _ _ _ hR hS hn).mono ?_; rintro e w1 ⟨rfl, hb1⟩; obtain ⟨hc1, hf1⟩ := bcell hb1; have hs1 := hb1.size; (try simp only [World.size_alloc, World.size_setCell, World.size_drew] at hc1 hf1); (try simp at hs1)))
  go_ret
  exact ⟨rfl, hb1⟩
theorem cmpC_y {x y s x' y' s' : Int} (h : y ≠ y') : cmpC (x, y, s) (x', y', s') = cmpI y y' := by
  unfold cmpC cmpO cmpP orI cmpI; simp only; (repeat' split) <;> omega
theorem cmpC_x {x y s x' y' s' : Int} (h : y = y') (h2 : x ≠ x') : cmpC (x, y, s) (x', y', s') = cmpI x x' := by
  unfold cmpC cmpO cmpP orI cmpI; simp only; (repeat' split) <;> omega
theorem cmpC_s {x y s x' y' s' : Int} (h : y = y') (h2 : x = x') : cmpC (x, y, s) (x', y', s') = cmpI s s' := by
  unfold cmpC cmpO cmpP orI cmpI; simp only; (repeat' split) <;> omega
set_option maxHeartbeats 2000000 in
theorem pat_whole (x y s x' y' s' : Int) (w : World) : Calls Try.prog 70 #[.agg #[.int .i64 x, .int .i64 y, .int .i64 s], .agg #[.int .i64 x', .int .i64 y', .int .i64 s']] w fun e w' => e = .returned (.int .i64 (cmpC (x, y, s) (x', y', s'))) ∧ Below w.heap.size w w' := by
  by_cases hq : x = x' ∧ y = y' ∧ s = s'
  · obtain ⟨rfl, rfl, rfl⟩ := hq
    have HV := Lib.hid (cmpC_self (x, y, s))
    go_enter Try.func70, Try.ntmps70
    go_wp2
    go_ret
    exact ⟨ret_int HV.out.symm, by (repeat' (first | exact Below.refl _ _ | assumption | (refine Below.alloc ?_ ?_ _) | (refine Below.setCell ?_ ?_ _) | (refine Below.drew ?_) | (refine below_drewN ?_ _) | (refine below_after (Ext.below _) ?_ ?_) | (refine below_after (by assumption) ?_ ?_) | (simp; done) | omega | (simp; omega)))⟩
  · have dq : decide (x = x' ∧ y = y' ∧ s = s') = false := decide_eq_false hq
    clear hq
    obtain ⟨W, hW⟩ : ∃ W, W = (w.alloc (.cells #[.int .i64 x, .int .i64 y, .int .i64 s] 50)).alloc (.cells #[.int .i64 x', .int .i64 y', .int .i64 s'] 50) := ⟨_, rfl⟩
    have hB : RowKit.Below w.heap.size w W := by rw [hW]; exact bl_alloc (bl_alloc (Below.refl _ _) _) _
    have hsW : w.heap.size + 1 < W.heap.size := by rw [hW]; simp
    have a0 : W.cell? ⟨w.heap.size, 0, none⟩ = some (.int .i64 x) := by rw [hW]; simp [cell_alloc_if]
    have a1 : W.cell? ⟨w.heap.size, 1, none⟩ = some (.int .i64 y) := by rw [hW]; simp [cell_alloc_if]
    have a2 : W.cell? ⟨w.heap.size, 2, none⟩ = some (.int .i64 s) := by rw [hW]; simp [cell_alloc_if]
    have b0 : W.cell? ⟨w.heap.size + 1, 0, none⟩ = some (.int .i64 x') := by rw [hW]; simp [cell_alloc_if]
    have b1 : W.cell? ⟨w.heap.size + 1, 1, none⟩ = some (.int .i64 y') := by rw [hW]; simp [cell_alloc_if]
    have b2 : W.cell? ⟨w.heap.size + 1, 2, none⟩ = some (.int .i64 s') := by rw [hW]; simp [cell_alloc_if]
    go_enter Try.func70, Try.ntmps70
    go_wp2_with fail
    rw [← hW]
    clear hW
    go_region_held3 (fun w' => w'.cell? ⟨w.heap.size, 0, none⟩ = some (.int .i64 x) ∧ w'.cell? ⟨w.heap.size, 1, none⟩ = some (.int .i64 y) ∧ w'.cell? ⟨w.heap.size, 2, none⟩ = some (.int .i64 s) ∧ w'.cell? ⟨w.heap.size + 1, 0, none⟩ = some (.int .i64 x') ∧ w'.cell? ⟨w.heap.size + 1, 1, none⟩ = some (.int .i64 y') ∧ w'.cell? ⟨w.heap.size + 1, 2, none⟩ = some (.int .i64 s') ∧ RowKit.Below w.heap.size w w')
      (((try go_split_ands); refine ⟨?_, ?_, ?_, ?_, ?_, ?_, ?_⟩ <;> first | go_keep | exact bl_drew ‹_› | exact bl_alloc ‹_› _ | exact bl_drew (bl_alloc ‹_› _) | exact below_thru ‹_› hb | (rw [hb.cell (p := ⟨_, _, none⟩) (by first | omega | (simp; omega))]; go_keep)))
      ((first
      | (go_at_call 65; (try go_split_ands); refine (pat_order _ _ _ _ _ _ _).mono ?_; rintro e w7 ⟨rfl, hb⟩; have hsz := hb.size; (try simp only [World.size_alloc, World.size_drew] at hsz))
      | (go_at_call 59; (try go_split_ands); refine (cmp_Compare _ _ _).mono ?_; rintro e w7 ⟨rfl, rfl⟩)
      | (go_at_call 58; (try go_split_ands); refine (cmp_Or2 _ _ _ _ _ (rd_litI _ [cmpP x y x' y', cmpI s s'] #[.int .i64 (cmpP x y x' y'), .int .i64 (cmpI s s')] 2 rfl (by omega) rfl)).mono ?_; rintro e w7 ⟨rfl, rfl⟩)))
    go_wp2_with fail
    go_ret
    (try go_split_ands)
    exact ⟨rfl, by first | assumption | exact bl_alloc ‹_› _ | exact below_thru ‹_› hb⟩
set_option maxHeartbeats 2000000 in
theorem compareFunc_whole (A B : Option Addr) (n m c d : Nat) (l r : List (Int × Int × Int)) (w : World) (hR : Rd encC 3 w A n l) (hS : Rd encC 3 w B m r) (hn : n ≤ 1000000) (hm : m ≤ 1000000) :
    Calls Try.prog 69 #[.slice A n c, .slice B m d, .func (.func 70) #[] #[]] w fun e w' => e = .returned (.int .i64 (cmpL l r)) ∧ Below w.heap.size w w' := by
  go_enter Try.func69, Try.ntmps69
  go_wp2
  go_loopw [13] (fun i wr => ∃ j : Nat, j ≤ n ∧ j ≤ m ∧ i = .int .i64 j ∧ Below w.heap.size w wr ∧ Hid (∀ i, i < j → l[i]? = r[i]?)) (fun i _ => n - (intOf i).toNat)
  case atStart => exact ⟨0, by omega, by omega, rfl, Below.refl _ _, fun r hr => absurd hr (by omega)⟩
  case round =>
    obtain ⟨j, hj, hjm, rfl, hb, hno⟩ := hrel
    obtain ⟨hc, hf⟩ := bcell hb
    have hs := hb.size
    by_cases hlt : j < n
    · obtain ⟨a, b, s, bo, o, hx, rfl, hbl, g1, g2, g3⟩ := hR.cell hlt
      by_cases hltm : j < m
      · obtain ⟨a', b', s', bo', o', hy, rfl, hbl', k1, k2, k3⟩ := hS.cell hltm
        have dm : decide ((m : Int) ≤ j) = false := decide_eq_false (by omega)
        by_cases hq : (a, b, s) = (a', b', s')
        · have hz := cmpC_zero' hq
          have HS : Hid (∀ i, i < j + 1 → l[i]? = r[i]?) := same_step hno.out (hx.out.trans (hq ▸ hy.out.symm))
          clear hq
          have kW := fun w1 => pat_whole a b s a' b' s' w1
          rw [hz] at kW
          go_wp2_with (first | (go_at_call 70; refine (kW _).mono ?_; rintro e w2 ⟨rfl, hb2⟩; obtain ⟨hc2, hf2⟩ := bcell hb2; have hs2 := hb2.size; (try simp only [World.size_alloc, World.size_setCell, World.size_drew] at hc2 hf2); (try simp at hs2)))
          go_roundw
          case rel => exact ⟨j + 1, by omega, by omega, by go_num, (by (repeat' (first | exact Below.refl _ _ | assumption | (refine Below.alloc ?_ ?_ _) | (refine Below.setCell ?_ ?_ _) | (refine Below.drew ?_) | (refine below_drewN ?_ _) | (refine below_after (Ext.below _) ?_ ?_) | (refine below_after (by assumption) ?_ ?_) | (simp; done) | omega | (simp; omega)))), HS.out⟩
          case measure => simp [intOf]; omega
        · have HV := Lib.hid (cmpL_at hno.out hx.out hy.out hq)
          have dz : (cmpC (a, b, s) (a', b', s') != 0) = true := by simp only [bne_iff_ne, ne_eq]; exact fun h => hq (cmpC_zero h)
          have kW := fun w1 => pat_whole a b s a' b' s' w1
          clear hq
          generalize cmpC (a, b, s) (a', b', s') = v at HV dz kW
          go_wp2_with (first | (go_at_call 70; refine (kW _).mono ?_; rintro e w2 ⟨rfl, hb2⟩; obtain ⟨hc2, hf2⟩ := bcell hb2; have hs2 := hb2.size; (try simp only [World.size_alloc, World.size_setCell, World.size_drew] at hc2 hf2); (try simp at hs2)))
          go_ret
          exact ⟨ret_int HV.out.symm, by (repeat' (first | exact Below.refl _ _ | assumption | (refine Below.alloc ?_ ?_ _) | (refine Below.setCell ?_ ?_ _) | (refine Below.drew ?_) | (refine below_drewN ?_ _) | (refine below_after (Ext.below _) ?_ ?_) | (refine below_after (by assumption) ?_ ?_) | (simp; done) | omega | (simp; omega)))⟩
      · obtain rfl : j = m := by omega
        have dm : decide ((j : Int) ≤ j) = true := decide_eq_true (by omega)
        have HV := Lib.hid (show cmpL l r = 1 by rw [cmpL_end hR.len hS.len hj hjm hno.out (.inr rfl)]; unfold cmpI; rw [if_neg (by omega), if_pos (by omega)])
        go_wp2
        go_ret
        exact ⟨ret_int HV.out.symm, by (repeat' (first | exact Below.refl _ _ | assumption | (refine Below.alloc ?_ ?_ _) | (refine Below.setCell ?_ ?_ _) | (refine Below.drew ?_) | (refine below_drewN ?_ _) | (refine below_after (Ext.below _) ?_ ?_) | (refine below_after (by assumption) ?_ ?_) | (simp; done) | omega | (simp; omega)))⟩
    · obtain rfl : j = n := by omega
      have HV := Lib.hid (cmpL_end hR.len hS.len hj hjm hno.out (.inl rfl))
      by_cases hnm : j < m
      · have d1 : decide ((j : Int) < m) = true := decide_eq_true (by omega)
        have HW : Hid (cmpI j m = -1) := by show _ = _; unfold cmpI; rw [if_pos (by omega)]
        go_wp2
        go_ret
        exact ⟨ret_int (by rw [HV.out, HW.out]), by (repeat' (first | exact Below.refl _ _ | assumption | (refine Below.alloc ?_ ?_ _) | (refine Below.setCell ?_ ?_ _) | (refine Below.drew ?_) | (refine below_drewN ?_ _) | (refine below_after (Ext.below _) ?_ ?_) | (refine below_after (by assumption) ?_ ?_) | (simp; done) | omega | (simp; omega)))⟩
      · have d1 : decide ((j : Int) < m) = false := decide_eq_false (by omega)
        have HW : Hid (cmpI j m = 0) := by show _ = _; unfold cmpI; rw [if_neg (by omega), if_neg (by omega)]
        go_wp2
        go_ret
        exact ⟨ret_int (by rw [HV.out, HW.out]), by (repeat' (first | exact Below.refl _ _ | assumption | (refine Below.alloc ?_ ?_ _) | (refine Below.setCell ?_ ?_ _) | (refine Below.drew ?_) | (refine below_drewN ?_ _) | (refine below_after (Ext.below _) ?_ ?_) | (refine below_after (by assumption) ?_ ?_) | (simp; done) | omega | (simp; omega)))⟩
theorem pat_Compare (A B : Option Addr) (n m c d : Nat) (l r : List (Int × Int × Int)) (w : World) (hR : Rd encC 3 w A n l) (hS : Rd encC 3 w B m r) (hn : n ≤ 1000000) (hm : m ≤ 1000000) :
    Calls Try.prog 45 #[.slice A n c, .slice B m d] w fun e w' => e = .returned (.int .i64 (cmpL l r)) ∧ Below w.heap.size w w' := by
  go_enter Try.func45, Try.ntmps45
  go_wp2_with (first | (go_at_call 69; refine (compareFunc_whole _ _ _ _ _ _ _ _ _ hR hS hn hm).mono ?_; rintro e w1 ⟨rfl, hb1⟩; obtain ⟨hc1, hf1⟩ := bcell hb1; have hs1 := hb1.size; (try simp only [World.size_alloc, World.size_setCell, World.size_drew] at hc1 hf1); (try simp at hs1)))
  go_ret
  exact ⟨rfl, hb1⟩
end Go.Proofs.Ytnhnkmppmicjoaa
