/- algebra.merge with the visitors of Xor and of pick. -/
import Derived.Test.YtenckggfgbkfnaaDoorVis
import Derived.Test.YtenckggfgbkfnaaDoorPLN
import Derived.Test.YtenckggfgbkfnaaDoorSortA
import Derived.Test.YtenckggfgbkfnaaDoorMrg
namespace Go.Proofs.YtenckggfgbkfnaaDoor
open Go Go.RowKit
set_option linter.unusedSimpArgs false
set_option linter.unusedVariables false
set_option maxRecDepth 100000
attribute [local go_sem ↓ high] eq_cl neq_cl eq_pt neq_pt
set_option maxHeartbeats 8000000 in
theorem mrg_xor (B b : Nat) (A A' : Option Addr) (n m c d : Nat) (l r : List (Int × Int × Int)) (w : World) (hR : RdB B w A n l) (hS : RdB B w A' m r) (hnc : n ≤ c) (hmd : m ≤ d) (hnm : n + m ≤ 1000000) (hC : Coll B b w []) :
    Calls Tryd.prog 37 #[.slice A n c, .slice A' m d, .func (.func 42) #[] #[.pointer (some ⟨b, 0, none⟩)]] w fun e w' => e = .returned (.tuple #[]) ∧ Coll B b w' (resL 3 l r) ∧ Below B w w' := by
  have hlr : l.length + r.length = n + m := by rw [hR.1.len, hS.1.len]
  have hrl := evL_len 3 l r
  go_enter Tryd.func37, Tryd.ntmps37
  go_wp2
  go_loopw [0, 1] (fun u v wr => ∃ (E F : Option Addr) (p q s t : Nat) (la lb acc : List (Int × Int × Int)), u = .slice E p s ∧ v = .slice F q t ∧ RdB B wr E p la ∧ RdB B wr F q lb ∧ p ≤ s ∧ q ≤ t ∧ Coll B b wr acc ∧ Hid (acc ++ resL 3 la lb = resL 3 l r) ∧ Below B w wr) (fun u v _ => lenOf u + lenOf v)
  case atStart => exact ⟨A, A', n, m, c, d, l, r, [], rfl, rfl, hR, hS, hnc, hmd, hC, (by show _ = _; rw [List.nil_append]), Below.refl _ _⟩
  case round =>
    obtain ⟨E, F, p, q, s, t, la, lb, acc, rfl, rfl, hE, hF, hps, hqt, hCo, hres, hb⟩ := hrel
    have hacc : acc.length ≤ 1000000 := by have := congrArg List.length hres.out; rw [List.length_append] at this; omega
    have hsz := hb.size
    have hlt := hCo.lt
    cases la with
    | nil =>
      cases lb with
      | nil =>
        obtain rfl : p = 0 := hE.1.len.symm
        obtain rfl : q = 0 := hF.1.len.symm
        go_wp2_with fail
        go_end0
        exact ⟨rfl, by have := hres.out; rw [res_nil, List.append_nil] at this; rw [← this]; exact hCo, hb⟩
      | cons y lb =>
        obtain rfl : p = 0 := hE.1.len.symm
        have hq0 : 0 < q := by have := hF.1.len; rw [List.length_cons] at this; omega
        obtain ⟨x', y', s', bo, o, hx, rfl, hbl, g1, g2, g3⟩ := hF.1.cell hq0
        obtain rfl : y = (x', y', s') := by have := hx.out; simpa using this
        rw [Nat.zero_mul, Nat.add_zero] at g1 g2 g3
        obtain ⟨F2, hF2, hT⟩ := rdB_tail hF hq0 hqt
        have d1 : decide ((0 : Int) < (q : Int)) = true := decide_eq_true (by omega)
        have p1 : ((q : Int) == 0) = false := by simp only [beq_eq_false_iff_ne, ne_eq]; omega
        clear hx
        go_wp2_with fail
        go_at_call 42
        refine (vis_xor B b acc (0, 0, 0) (x', y', s') false true _ hCo hacc).mono ?_
        rintro e w5 ⟨rfl, hC5, hb5⟩
        go_wp2_with fail
        go_roundw
        case rel => exact ⟨E, F2, 0, q - 1, s, t - 1, [], lb, acc ++ visL 3 (none, some (x', y', s')), rfl, rfl, hE.of hb5, hT.of hb5, by omega, by omega, hC5, (by have := hres.out; rw [res_right'] at this; show _ = _; rw [List.append_assoc]; exact this), hb.trans hb5⟩
        case measure => simp [lenOf]; omega
    | cons x la =>
      cases lb with
      | nil =>
        obtain rfl : q = 0 := hF.1.len.symm
        have hp0 : 0 < p := by have := hE.1.len; rw [List.length_cons] at this; omega
        obtain ⟨x', y', s', bo, o, hx, rfl, hbl, g1, g2, g3⟩ := hE.1.cell hp0
        obtain rfl : x = (x', y', s') := by have := hx.out; simpa using this
        rw [Nat.zero_mul, Nat.add_zero] at g1 g2 g3
        obtain ⟨E2, hE2, hT⟩ := rdB_tail hE hp0 hps
        have d1 : decide ((0 : Int) < (p : Int)) = true := decide_eq_true (by omega)
        have p1 : ((p : Int) == 0) = false := by simp only [beq_eq_false_iff_ne, ne_eq]; omega
        clear hx
        go_wp2_with fail
        go_at_call 42
        refine (vis_xor B b acc (x', y', s') (0, 0, 0) true false _ hCo hacc).mono ?_
        rintro e w5 ⟨rfl, hC5, hb5⟩
        go_wp2_with fail
        go_roundw
        case rel => exact ⟨E2, F, p - 1, 0, s - 1, t, la, [], acc ++ visL 3 (some (x', y', s'), none), rfl, rfl, hT.of hb5, hF.of hb5, by omega, by omega, hC5, (by have := hres.out; rw [res_left] at this; show _ = _; rw [List.append_assoc]; exact this), hb.trans hb5⟩
        case measure => simp [lenOf]; omega
      | cons y lb =>
        have hp0 : 0 < p := by have := hE.1.len; rw [List.length_cons] at this; omega
        have hq0 : 0 < q := by have := hF.1.len; rw [List.length_cons] at this; omega
        obtain ⟨x', y', s', bo, o, hx, rfl, hbl, g1, g2, g3⟩ := hE.1.cell hp0
        obtain rfl : x = (x', y', s') := by have := hx.out; simpa using this
        obtain ⟨x2, y2, s2, bo2, o2, hx2, rfl, hbl2, j1, j2, j3⟩ := hF.1.cell hq0
        obtain rfl : y = (x2, y2, s2) := by have := hx2.out; simpa using this
        rw [Nat.zero_mul, Nat.add_zero] at g1 g2 g3 j1 j2 j3
        obtain ⟨E2, hE2, hTE⟩ := rdB_tail hE hp0 hps
        obtain ⟨F2, hF2, hTF⟩ := rdB_tail hF hq0 hqt
        have d1 : decide ((0 : Int) < (p : Int)) = true := decide_eq_true (by omega)
        have p1 : ((p : Int) == 0) = false := by simp only [beq_eq_false_iff_ne, ne_eq]; omega
        have p2 : ((q : Int) == 0) = false := by simp only [beq_eq_false_iff_ne, ne_eq]; omega
        have i1 : (0 : Int) < (p : Int) := by omega
        have i2 : (0 : Int) < (q : Int) := by omega
        clear hx hx2
        have kW := fun w1 => alg_order_cmp x' y' s' x2 y2 s2 w1
        have dn := cmpP_neg x' y' x2 y2
        have dp := cmpP_pos x' y' x2 y2
        rcases cases3 (x', y', s') (x2, y2, s2) with ⟨hc1, hc2⟩ | ⟨hc1, hc2⟩ | ⟨hc1, hc2⟩
        · have HR := Lib.hid (hres.out.symm.trans (by rw [res_lt _ hc1]))
          rw [show befP x' y' x2 y2 = true from hc1] at dn
          rw [show befP x2 y2 x' y' = false from hc2] at dp
          clear hc1 hc2
          generalize cmpP x' y' x2 y2 = v at kW dn dp
          go_wp2_with fail
          (refine wp_region_ext_lit (by kernel_rfl) (by kernel_rfl) ?_; (repeat (go_big_quiet_step ((go_at_call 46; exact calls_ext (kW _))))); refine wpQuiet_nil ?_; intro _ hw'; obtain ⟨z1, hw''⟩ := hw'; subst hw''; have hs1 := z1.size; obtain ⟨hc1, hf1⟩ := bcell z1.below; (try simp only [World.size_alloc, World.size_setCell, World.size_drew] at hc1 hf1); (try simp at hs1))
          have hE1 := hE.of (z1.below.mono (Nat.le_of_lt (Nat.lt_of_le_of_lt hCo.1 hlt)))
          go_wp2_with fail
          go_at_call 42
          refine (vis_xor B b acc (x', y', s') (0, 0, 0) true false _ (hCo.of z1.below) hacc).mono ?_
          rintro e w5 ⟨rfl, hC5, hb5⟩
          have hbt : Below B wr w5 := (z1.below.mono (Nat.le_of_lt (Nat.lt_of_le_of_lt hCo.1 hlt))).trans hb5
          go_wp2_with fail
          go_roundw
          case rel => exact ⟨E2, _, p - 1, q, s - 1, t, la, (x2, y2, s2) :: lb, acc ++ visL 3 (some (x', y', s'), none), rfl, rfl, hTE.of hbt, hF.of hbt, by omega, by omega, hC5, (by have := HR.out; show _ = _; rw [this, List.append_assoc]), hb.trans hbt⟩
          case measure => simp [lenOf]; omega
        · have HR := Lib.hid (hres.out.symm.trans (by rw [res_gt _ hc2]))
          rw [show befP x' y' x2 y2 = false from hc1] at dn
          rw [show befP x2 y2 x' y' = true from hc2] at dp
          clear hc1 hc2
          generalize cmpP x' y' x2 y2 = v at kW dn dp
          go_wp2_with fail
          (refine wp_region_ext_lit (by kernel_rfl) (by kernel_rfl) ?_; (repeat (go_big_quiet_step ((go_at_call 46; exact calls_ext (kW _))))); refine wpQuiet_nil ?_; intro _ hw'; obtain ⟨z1, hw''⟩ := hw'; subst hw''; have hs1 := z1.size; obtain ⟨hc1, hf1⟩ := bcell z1.below; (try simp only [World.size_alloc, World.size_setCell, World.size_drew] at hc1 hf1); (try simp at hs1))
          go_wp2_with fail
          go_at_call 42
          refine (vis_xor B b acc (0, 0, 0) (x2, y2, s2) false true _ (hCo.of z1.below) hacc).mono ?_
          rintro e w5 ⟨rfl, hC5, hb5⟩
          have hbt : Below B wr w5 := (z1.below.mono (Nat.le_of_lt (Nat.lt_of_le_of_lt hCo.1 hlt))).trans hb5
          go_wp2_with fail
          go_roundw
          case rel => exact ⟨_, F2, p, q - 1, s, t - 1, (x', y', s') :: la, lb, acc ++ visL 3 (none, some (x2, y2, s2)), rfl, rfl, hE.of hbt, hTF.of hbt, by omega, by omega, hC5, (by have := HR.out; show _ = _; rw [this, List.append_assoc]), hb.trans hbt⟩
          case measure => simp [lenOf]; omega
        · have HR := Lib.hid (hres.out.symm.trans (by rw [res_eq _ hc1 hc2]))
          rw [show befP x' y' x2 y2 = false from hc1] at dn
          rw [show befP x2 y2 x' y' = false from hc2] at dp
          clear hc1 hc2
          generalize cmpP x' y' x2 y2 = v at kW dn dp
          go_wp2_with fail
          (refine wp_region_ext_lit (by kernel_rfl) (by kernel_rfl) ?_; (repeat (go_big_quiet_step ((go_at_call 46; exact calls_ext (kW _))))); refine wpQuiet_nil ?_; intro _ hw'; obtain ⟨z1, hw''⟩ := hw'; subst hw''; have hs1 := z1.size; obtain ⟨hc1, hf1⟩ := bcell z1.below; (try simp only [World.size_alloc, World.size_setCell, World.size_drew] at hc1 hf1); (try simp at hs1))
          go_wp2_with fail
          refine wp_region_still_tail 7 (by kernel_rfl) (by kernel_rfl) ?_
          simp only [List.take_succ_cons, List.take_zero, List.drop_succ_cons, List.drop_zero]
          change wpStill _ _ (World.drew _) (fun a' => wpList _ _ _ _ a' (World.drew _)) _ _
          repeat still_step
          refine wpStill_nil ?_
          show wpList _ _ _ _ _ _
          go_wp2_with fail
          go_at_call 42
          refine (vis_xor B b acc (x', y', s') (x2, y2, s2) true true _ (hCo.of z1.below.drew) hacc).mono ?_
          rintro e w5 ⟨rfl, hC5, hb5⟩
          have hbt : Below B wr w5 := (z1.below.drew.mono (Nat.le_of_lt (Nat.lt_of_le_of_lt hCo.1 hlt))).trans hb5
          go_wp2_with fail
          (refine wp_region_ext_lit (by kernel_rfl) (by kernel_rfl) ?_; (repeat (go_big_quiet_step (fail))); refine wpQuiet_nil ?_; intro _ hw'; obtain ⟨z2, hw''⟩ := hw'; subst hw''; have hs2 := z2.size; obtain ⟨hc2, hf2⟩ := bcell z2.below; (try simp only [World.size_alloc, World.size_setCell, World.size_drew] at hc2 hf2); (try simp at hs2))
          have hbz : Below B wr z2.world := hbt.trans (z2.below.mono (by have := hb5.size; have := hCo.1; have := z1.below.size; simp only [World.size_drew] at *; omega))
          have hC6 := hC5.of z2.below
          go_wp2_with fail
          go_roundw
          case rel => exact ⟨E2, F2, p - 1, q - 1, s - 1, t - 1, la, lb, acc ++ visL 3 (some (x', y', s'), some (x2, y2, s2)), rfl, rfl, hTE.of hbz, hTF.of hbz, by omega, by omega, hC6, (by have := HR.out; show _ = _; rw [this, List.append_assoc]), hb.trans hbz⟩
          case measure => simp [lenOf]; omega
set_option maxHeartbeats 8000000 in
theorem mrg_pick_true (B b : Nat) (A A' : Option Addr) (n m c d : Nat) (l r : List (Int × Int × Int)) (w : World) (hR : RdB B w A n l) (hS : RdB B w A' m r) (hnc : n ≤ c) (hmd : m ≤ d) (hnm : n + m ≤ 1000000) (hC : Coll B b w []) (bh : Nat) (hbh : bh < B) (hh : Hid (w.heap[bh]? = some (.cells #[.bool true] 4 (0, 0)))) :
    Calls Tryd.prog 37 #[.slice A n c, .slice A' m d, .func (.func 68) #[] #[.pointer (some ⟨bh, 0, none⟩), .pointer (some ⟨b, 0, none⟩)]] w fun e w' => e = .returned (.tuple #[]) ∧ Coll B b w' (resL 1 l r) ∧ Below B w w' := by
  have hlr : l.length + r.length = n + m := by rw [hR.1.len, hS.1.len]
  have hrl := evL_len 1 l r
  go_enter Tryd.func37, Tryd.ntmps37
  go_wp2
  go_loopw [0, 1] (fun u v wr => ∃ (E F : Option Addr) (p q s t : Nat) (la lb acc : List (Int × Int × Int)), u = .slice E p s ∧ v = .slice F q t ∧ RdB B wr E p la ∧ RdB B wr F q lb ∧ p ≤ s ∧ q ≤ t ∧ Coll B b wr acc ∧ Hid (acc ++ resL 1 la lb = resL 1 l r) ∧ Below B w wr) (fun u v _ => lenOf u + lenOf v)
  case atStart => exact ⟨A, A', n, m, c, d, l, r, [], rfl, rfl, hR, hS, hnc, hmd, hC, (by show _ = _; rw [List.nil_append]), Below.refl _ _⟩
  case round =>
    obtain ⟨E, F, p, q, s, t, la, lb, acc, rfl, rfl, hE, hF, hps, hqt, hCo, hres, hb⟩ := hrel
    have hacc : acc.length ≤ 1000000 := by have := congrArg List.length hres.out; rw [List.length_append] at this; omega
    have hsz := hb.size
    have hlt := hCo.lt
    cases la with
    | nil =>
      cases lb with
      | nil =>
        obtain rfl : p = 0 := hE.1.len.symm
        obtain rfl : q = 0 := hF.1.len.symm
        go_wp2_with fail
        go_end0
        exact ⟨rfl, by have := hres.out; rw [res_nil, List.append_nil] at this; rw [← this]; exact hCo, hb⟩
      | cons y lb =>
        obtain rfl : p = 0 := hE.1.len.symm
        have hq0 : 0 < q := by have := hF.1.len; rw [List.length_cons] at this; omega
        obtain ⟨x', y', s', bo, o, hx, rfl, hbl, g1, g2, g3⟩ := hF.1.cell hq0
        obtain rfl : y = (x', y', s') := by have := hx.out; simpa using this
        rw [Nat.zero_mul, Nat.add_zero] at g1 g2 g3
        obtain ⟨F2, hF2, hT⟩ := rdB_tail hF hq0 hqt
        have d1 : decide ((0 : Int) < (q : Int)) = true := decide_eq_true (by omega)
        have p1 : ((q : Int) == 0) = false := by simp only [beq_eq_false_iff_ne, ne_eq]; omega
        clear hx
        go_wp2_with fail
        go_at_call 68
        refine (vis_pick_true B b acc (0, 0, 0) (x', y', s') false true _ hCo hacc bh hbh ((hb.block bh hbh).trans hh.out)).mono ?_
        rintro e w5 ⟨rfl, hC5, hb5⟩
        go_wp2_with fail
        go_roundw
        case rel => exact ⟨E, F2, 0, q - 1, s, t - 1, [], lb, acc ++ visL 1 (none, some (x', y', s')), rfl, rfl, hE.of hb5, hT.of hb5, by omega, by omega, hC5, (by have := hres.out; rw [res_right'] at this; show _ = _; rw [List.append_assoc]; exact this), hb.trans hb5⟩
        case measure => simp [lenOf]; omega
    | cons x la =>
      cases lb with
      | nil =>
        obtain rfl : q = 0 := hF.1.len.symm
        have hp0 : 0 < p := by have := hE.1.len; rw [List.length_cons] at this; omega
        obtain ⟨x', y', s', bo, o, hx, rfl, hbl, g1, g2, g3⟩ := hE.1.cell hp0
        obtain rfl : x = (x', y', s') := by have := hx.out; simpa using this
        rw [Nat.zero_mul, Nat.add_zero] at g1 g2 g3
        obtain ⟨E2, hE2, hT⟩ := rdB_tail hE hp0 hps
        have d1 : decide ((0 : Int) < (p : Int)) = true := decide_eq_true (by omega)
        have p1 : ((p : Int) == 0) = false := by simp only [beq_eq_false_iff_ne, ne_eq]; omega
        clear hx
        go_wp2_with fail
        go_at_call 68
        refine (vis_pick_true B b acc (x', y', s') (0, 0, 0) true false _ hCo hacc bh hbh ((hb.block bh hbh).trans hh.out)).mono ?_
        rintro e w5 ⟨rfl, hC5, hb5⟩
        go_wp2_with fail
        go_roundw
        case rel => exact ⟨E2, F, p - 1, 0, s - 1, t, la, [], acc ++ visL 1 (some (x', y', s'), none), rfl, rfl, hT.of hb5, hF.of hb5, by omega, by omega, hC5, (by have := hres.out; rw [res_left] at this; show _ = _; rw [List.append_assoc]; exact this), hb.trans hb5⟩
        case measure => simp [lenOf]; omega
      | cons y lb =>
        have hp0 : 0 < p := by have := hE.1.len; rw [List.length_cons] at this; omega
        have hq0 : 0 < q := by have := hF.1.len; rw [List.length_cons] at this; omega
        obtain ⟨x', y', s', bo, o, hx, rfl, hbl, g1, g2, g3⟩ := hE.1.cell hp0
        obtain rfl : x = (x', y', s') := by have := hx.out; simpa using this
        obtain ⟨x2, y2, s2, bo2, o2, hx2, rfl, hbl2, j1, j2, j3⟩ := hF.1.cell hq0
        obtain rfl : y = (x2, y2, s2) := by have := hx2.out; simpa using this
        rw [Nat.zero_mul, Nat.add_zero] at g1 g2 g3 j1 j2 j3
        obtain ⟨E2, hE2, hTE⟩ := rdB_tail hE hp0 hps
        obtain ⟨F2, hF2, hTF⟩ := rdB_tail hF hq0 hqt
        have d1 : decide ((0 : Int) < (p : Int)) = true := decide_eq_true (by omega)
        have p1 : ((p : Int) == 0) = false := by simp only [beq_eq_false_iff_ne, ne_eq]; omega
        have p2 : ((q : Int) == 0) = false := by simp only [beq_eq_false_iff_ne, ne_eq]; omega
        have i1 : (0 : Int) < (p : Int) := by omega
        have i2 : (0 : Int) < (q : Int) := by omega
        clear hx hx2
        have kW := fun w1 => alg_order_cmp x' y' s' x2 y2 s2 w1
        have dn := cmpP_neg x' y' x2 y2
        have dp := cmpP_pos x' y' x2 y2
        rcases cases3 (x', y', s') (x2, y2, s2) with ⟨hc1, hc2⟩ | ⟨hc1, hc2⟩ | ⟨hc1, hc2⟩
        · have HR := Lib.hid (hres.out.symm.trans (by rw [res_lt _ hc1]))
          rw [show befP x' y' x2 y2 = true from hc1] at dn
          rw [show befP x2 y2 x' y' = false from hc2] at dp
          clear hc1 hc2
          generalize cmpP x' y' x2 y2 = v at kW dn dp
          go_wp2_with fail
          (refine wp_region_ext_lit (by kernel_rfl) (by kernel_rfl) ?_; (repeat (go_big_quiet_step ((go_at_call 46; exact calls_ext (kW _))))); refine wpQuiet_nil ?_; intro _ hw'; obtain ⟨z1, hw''⟩ := hw'; subst hw''; have hs1 := z1.size; obtain ⟨hc1, hf1⟩ := bcell z1.below; (try simp only [World.size_alloc, World.size_setCell, World.size_drew] at hc1 hf1); (try simp at hs1))
          have hE1 := hE.of (z1.below.mono (Nat.le_of_lt (Nat.lt_of_le_of_lt hCo.1 hlt)))
          go_wp2_with fail
          go_at_call 68
          refine (vis_pick_true B b acc (x', y', s') (0, 0, 0) true false _ (hCo.of z1.below) hacc bh hbh (((hb.trans (z1.below.mono (Nat.le_of_lt (Nat.lt_of_le_of_lt hCo.1 hlt)))).block bh hbh).trans hh.out)).mono ?_
          rintro e w5 ⟨rfl, hC5, hb5⟩
          have hbt : Below B wr w5 := (z1.below.mono (Nat.le_of_lt (Nat.lt_of_le_of_lt hCo.1 hlt))).trans hb5
          go_wp2_with fail
          go_roundw
          case rel => exact ⟨E2, _, p - 1, q, s - 1, t, la, (x2, y2, s2) :: lb, acc ++ visL 1 (some (x', y', s'), none), rfl, rfl, hTE.of hbt, hF.of hbt, by omega, by omega, hC5, (by have := HR.out; show _ = _; rw [this, List.append_assoc]), hb.trans hbt⟩
          case measure => simp [lenOf]; omega
        · have HR := Lib.hid (hres.out.symm.trans (by rw [res_gt _ hc2]))
          rw [show befP x' y' x2 y2 = false from hc1] at dn
          rw [show befP x2 y2 x' y' = true from hc2] at dp
          clear hc1 hc2
          generalize cmpP x' y' x2 y2 = v at kW dn dp
          go_wp2_with fail
          (refine wp_region_ext_lit (by kernel_rfl) (by kernel_rfl) ?_; (repeat (go_big_quiet_step ((go_at_call 46; exact calls_ext (kW _))))); refine wpQuiet_nil ?_; intro _ hw'; obtain ⟨z1, hw''⟩ := hw'; subst hw''; have hs1 := z1.size; obtain ⟨hc1, hf1⟩ := bcell z1.below; (try simp only [World.size_alloc, World.size_setCell, World.size_drew] at hc1 hf1); (try simp at hs1))
          go_wp2_with fail
          go_at_call 68
          refine (vis_pick_true B b acc (0, 0, 0) (x2, y2, s2) false true _ (hCo.of z1.below) hacc bh hbh (((hb.trans (z1.below.mono (Nat.le_of_lt (Nat.lt_of_le_of_lt hCo.1 hlt)))).block bh hbh).trans hh.out)).mono ?_
          rintro e w5 ⟨rfl, hC5, hb5⟩
          have hbt : Below B wr w5 := (z1.below.mono (Nat.le_of_lt (Nat.lt_of_le_of_lt hCo.1 hlt))).trans hb5
          go_wp2_with fail
          go_roundw
          case rel => exact ⟨_, F2, p, q - 1, s, t - 1, (x', y', s') :: la, lb, acc ++ visL 1 (none, some (x2, y2, s2)), rfl, rfl, hE.of hbt, hTF.of hbt, by omega, by omega, hC5, (by have := HR.out; show _ = _; rw [this, List.append_assoc]), hb.trans hbt⟩
          case measure => simp [lenOf]; omega
        · have HR := Lib.hid (hres.out.symm.trans (by rw [res_eq _ hc1 hc2]))
          rw [show befP x' y' x2 y2 = false from hc1] at dn
          rw [show befP x2 y2 x' y' = false from hc2] at dp
          clear hc1 hc2
          generalize cmpP x' y' x2 y2 = v at kW dn dp
          go_wp2_with fail
          (refine wp_region_ext_lit (by kernel_rfl) (by kernel_rfl) ?_; (repeat (go_big_quiet_step ((go_at_call 46; exact calls_ext (kW _))))); refine wpQuiet_nil ?_; intro _ hw'; obtain ⟨z1, hw''⟩ := hw'; subst hw''; have hs1 := z1.size; obtain ⟨hc1, hf1⟩ := bcell z1.below; (try simp only [World.size_alloc, World.size_setCell, World.size_drew] at hc1 hf1); (try simp at hs1))
          go_wp2_with fail
          refine wp_region_still_tail 7 (by kernel_rfl) (by kernel_rfl) ?_
          simp only [List.take_succ_cons, List.take_zero, List.drop_succ_cons, List.drop_zero]
          change wpStill _ _ (World.drew _) (fun a' => wpList _ _ _ _ a' (World.drew _)) _ _
          repeat still_step
          refine wpStill_nil ?_
          show wpList _ _ _ _ _ _
          go_wp2_with fail
          go_at_call 68
          refine (vis_pick_true B b acc (x', y', s') (x2, y2, s2) true true _ (hCo.of z1.below.drew) hacc bh hbh (((hb.trans (z1.below.drew.mono (Nat.le_of_lt (Nat.lt_of_le_of_lt hCo.1 hlt)))).block bh hbh).trans hh.out)).mono ?_
          rintro e w5 ⟨rfl, hC5, hb5⟩
          have hbt : Below B wr w5 := (z1.below.drew.mono (Nat.le_of_lt (Nat.lt_of_le_of_lt hCo.1 hlt))).trans hb5
          go_wp2_with fail
          (refine wp_region_ext_lit (by kernel_rfl) (by kernel_rfl) ?_; (repeat (go_big_quiet_step (fail))); refine wpQuiet_nil ?_; intro _ hw'; obtain ⟨z2, hw''⟩ := hw'; subst hw''; have hs2 := z2.size; obtain ⟨hc2, hf2⟩ := bcell z2.below; (try simp only [World.size_alloc, World.size_setCell, World.size_drew] at hc2 hf2); (try simp at hs2))
          have hbz : Below B wr z2.world := hbt.trans (z2.below.mono (by have := hb5.size; have := hCo.1; have := z1.below.size; simp only [World.size_drew] at *; omega))
          have hC6 := hC5.of z2.below
          go_wp2_with fail
          go_roundw
          case rel => exact ⟨E2, F2, p - 1, q - 1, s - 1, t - 1, la, lb, acc ++ visL 1 (some (x', y', s'), some (x2, y2, s2)), rfl, rfl, hTE.of hbz, hTF.of hbz, by omega, by omega, hC6, (by have := HR.out; show _ = _; rw [this, List.append_assoc]), hb.trans hbz⟩
          case measure => simp [lenOf]; omega
set_option maxHeartbeats 8000000 in
theorem mrg_pick_false (B b : Nat) (A A' : Option Addr) (n m c d : Nat) (l r : List (Int × Int × Int)) (w : World) (hR : RdB B w A n l) (hS : RdB B w A' m r) (hnc : n ≤ c) (hmd : m ≤ d) (hnm : n + m ≤ 1000000) (hC : Coll B b w []) (bh : Nat) (hbh : bh < B) (hh : Hid (w.heap[bh]? = some (.cells #[.bool false] 4 (0, 0)))) :
    Calls Tryd.prog 37 #[.slice A n c, .slice A' m d, .func (.func 68) #[] #[.pointer (some ⟨bh, 0, none⟩), .pointer (some ⟨b, 0, none⟩)]] w fun e w' => e = .returned (.tuple #[]) ∧ Coll B b w' (resL 2 l r) ∧ Below B w w' := by
  have hlr : l.length + r.length = n + m := by rw [hR.1.len, hS.1.len]
  have hrl := evL_len 2 l r
  go_enter Tryd.func37, Tryd.ntmps37
  go_wp2
  go_loopw [0, 1] (fun u v wr => ∃ (E F : Option Addr) (p q s t : Nat) (la lb acc : List (Int × Int × Int)), u = .slice E p s ∧ v = .slice F q t ∧ RdB B wr E p la ∧ RdB B wr F q lb ∧ p ≤ s ∧ q ≤ t ∧ Coll B b wr acc ∧ Hid (acc ++ resL 2 la lb = resL 2 l r) ∧ Below B w wr) (fun u v _ => lenOf u + lenOf v)
  case atStart => exact ⟨A, A', n, m, c, d, l, r, [], rfl, rfl, hR, hS, hnc, hmd, hC, (by show _ = _; rw [List.nil_append]), Below.refl _ _⟩
  case round =>
    obtain ⟨E, F, p, q, s, t, la, lb, acc, rfl, rfl, hE, hF, hps, hqt, hCo, hres, hb⟩ := hrel
    have hacc : acc.length ≤ 1000000 := by have := congrArg List.length hres.out; rw [List.length_append] at this; omega
    have hsz := hb.size
    have hlt := hCo.lt
    cases la with
    | nil =>
      cases lb with
      | nil =>
        obtain rfl : p = 0 := hE.1.len.symm
        obtain rfl : q = 0 := hF.1.len.symm
        go_wp2_with fail
        go_end0
        exact ⟨rfl, by have := hres.out; rw [res_nil, List.append_nil] at this; rw [← this]; exact hCo, hb⟩
      | cons y lb =>
        obtain rfl : p = 0 := hE.1.len.symm
        have hq0 : 0 < q := by have := hF.1.len; rw [List.length_cons] at this; omega
        obtain ⟨x', y', s', bo, o, hx, rfl, hbl, g1, g2, g3⟩ := hF.1.cell hq0
        obtain rfl : y = (x', y', s') := by have := hx.out; simpa using this
        rw [Nat.zero_mul, Nat.add_zero] at g1 g2 g3
        obtain ⟨F2, hF2, hT⟩ := rdB_tail hF hq0 hqt
        have d1 : decide ((0 : Int) < (q : Int)) = true := decide_eq_true (by omega)
        have p1 : ((q : Int) == 0) = false := by simp only [beq_eq_false_iff_ne, ne_eq]; omega
        clear hx
        go_wp2_with fail
        go_at_call 68
        refine (vis_pick_false B b acc (0, 0, 0) (x', y', s') false true _ hCo hacc bh hbh ((hb.block bh hbh).trans hh.out)).mono ?_
        rintro e w5 ⟨rfl, hC5, hb5⟩
        go_wp2_with fail
        go_roundw
        case rel => exact ⟨E, F2, 0, q - 1, s, t - 1, [], lb, acc ++ visL 2 (none, some (x', y', s')), rfl, rfl, hE.of hb5, hT.of hb5, by omega, by omega, hC5, (by have := hres.out; rw [res_right'] at this; show _ = _; rw [List.append_assoc]; exact this), hb.trans hb5⟩
        case measure => simp [lenOf]; omega
    | cons x la =>
      cases lb with
      | nil =>
        obtain rfl : q = 0 := hF.1.len.symm
        have hp0 : 0 < p := by have := hE.1.len; rw [List.length_cons] at this; omega
        obtain ⟨x', y', s', bo, o, hx, rfl, hbl, g1, g2, g3⟩ := hE.1.cell hp0
        obtain rfl : x = (x', y', s') := by have := hx.out; simpa using this
        rw [Nat.zero_mul, Nat.add_zero] at g1 g2 g3
        obtain ⟨E2, hE2, hT⟩ := rdB_tail hE hp0 hps
        have d1 : decide ((0 : Int) < (p : Int)) = true := decide_eq_true (by omega)
        have p1 : ((p : Int) == 0) = false := by simp only [beq_eq_false_iff_ne, ne_eq]; omega
        clear hx
        go_wp2_with fail
        go_at_call 68
        refine (vis_pick_false B b acc (x', y', s') (0, 0, 0) true false _ hCo hacc bh hbh ((hb.block bh hbh).trans hh.out)).mono ?_
        rintro e w5 ⟨rfl, hC5, hb5⟩
        go_wp2_with fail
        go_roundw
        case rel => exact ⟨E2, F, p - 1, 0, s - 1, t, la, [], acc ++ visL 2 (some (x', y', s'), none), rfl, rfl, hT.of hb5, hF.of hb5, by omega, by omega, hC5, (by have := hres.out; rw [res_left] at this; show _ = _; rw [List.append_assoc]; exact this), hb.trans hb5⟩
        case measure => simp [lenOf]; omega
      | cons y lb =>
        have hp0 : 0 < p := by have := hE.1.len; rw [List.length_cons] at this; omega
        have hq0 : 0 < q := by have := hF.1.len; rw [List.length_cons] at this; omega
        obtain ⟨x', y', s', bo, o, hx, rfl, hbl, g1, g2, g3⟩ := hE.1.cell hp0
        obtain rfl : x = (x', y', s') := by have := hx.out; simpa using this
        obtain ⟨x2, y2, s2, bo2, o2, hx2, rfl, hbl2, j1, j2, j3⟩ := hF.1.cell hq0
        obtain rfl : y = (x2, y2, s2) := by have := hx2.out; simpa using this
        rw [Nat.zero_mul, Nat.add_zero] at g1 g2 g3 j1 j2 j3
        obtain ⟨E2, hE2, hTE⟩ := rdB_tail hE hp0 hps
        obtain ⟨F2, hF2, hTF⟩ := rdB_tail hF hq0 hqt
        have d1 : decide ((0 : Int) < (p : Int)) = true := decide_eq_true (by omega)
        have p1 : ((p : Int) == 0) = false := by simp only [beq_eq_false_iff_ne, ne_eq]; omega
        have p2 : ((q : Int) == 0) = false := by simp only [beq_eq_false_iff_ne, ne_eq]; omega
        have i1 : (0 : Int) < (p : Int) := by omega
        have i2 : (0 : Int) < (q : Int) := by omega
        clear hx hx2
        have kW := fun w1 => alg_order_cmp x' y' s' x2 y2 s2 w1
        have dn := cmpP_neg x' y' x2 y2
        have dp := cmpP_pos x' y' x2 y2
        rcases cases3 (x', y', s') (x2, y2, s2) with ⟨hc1, hc2⟩ | ⟨hc1, hc2⟩ | ⟨hc1, hc2⟩
        · have HR := Lib.hid (hres.out.symm.trans (by rw [res_lt _ hc1]))
          rw [show befP x' y' x2 y2 = true from hc1] at dn
          rw [show befP x2 y2 x' y' = false from hc2] at dp
          clear hc1 hc2
          generalize cmpP x' y' x2 y2 = v at kW dn dp
          go_wp2_with fail
          (refine wp_region_ext_lit (by kernel_rfl) (by kernel_rfl) ?_; (repeat (go_big_quiet_step ((go_at_call 46; exact calls_ext (kW _))))); refine wpQuiet_nil ?_; intro _ hw'; obtain ⟨z1, hw''⟩ := hw'; subst hw''; have hs1 := z1.size; obtain ⟨hc1, hf1⟩ := bcell z1.below; (try simp only [World.size_alloc, World.size_setCell, World.size_drew] at hc1 hf1); (try simp at hs1))
          have hE1 := hE.of (z1.below.mono (Nat.le_of_lt (Nat.lt_of_le_of_lt hCo.1 hlt)))
          go_wp2_with fail
          go_at_call 68
          refine (vis_pick_false B b acc (x', y', s') (0, 0, 0) true false _ (hCo.of z1.below) hacc bh hbh (((hb.trans (z1.below.mono (Nat.le_of_lt (Nat.lt_of_le_of_lt hCo.1 hlt)))).block bh hbh).trans hh.out)).mono ?_
          rintro e w5 ⟨rfl, hC5, hb5⟩
          have hbt : Below B wr w5 := (z1.below.mono (Nat.le_of_lt (Nat.lt_of_le_of_lt hCo.1 hlt))).trans hb5
          go_wp2_with fail
          go_roundw
          case rel => exact ⟨E2, _, p - 1, q, s - 1, t, la, (x2, y2, s2) :: lb, acc ++ visL 2 (some (x', y', s'), none), rfl, rfl, hTE.of hbt, hF.of hbt, by omega, by omega, hC5, (by have := HR.out; show _ = _; rw [this, List.append_assoc]), hb.trans hbt⟩
          case measure => simp [lenOf]; omega
        · have HR := Lib.hid (hres.out.symm.trans (by rw [res_gt _ hc2]))
          rw [show befP x' y' x2 y2 = false from hc1] at dn
          rw [show befP x2 y2 x' y' = true from hc2] at dp
          clear hc1 hc2
          generalize cmpP x' y' x2 y2 = v at kW dn dp
          go_wp2_with fail
          (refine wp_region_ext_lit (by kernel_rfl) (by kernel_rfl) ?_; (repeat (go_big_quiet_step ((go_at_call 46; exact calls_ext (kW _))))); refine wpQuiet_nil ?_; intro _ hw'; obtain ⟨z1, hw''⟩ := hw'; subst hw''; have hs1 := z1.size; obtain ⟨hc1, hf1⟩ := bcell z1.below; (try simp only [World.size_alloc, World.size_setCell, World.size_drew] at hc1 hf1); (try simp at hs1))
          go_wp2_with fail
          go_at_call 68
          refine (vis_pick_false B b acc (0, 0, 0) (x2, y2, s2) false true _ (hCo.of z1.below) hacc bh hbh (((hb.trans (z1.below.mono (Nat.le_of_lt (Nat.lt_of_le_of_lt hCo.1 hlt)))).block bh hbh).trans hh.out)).mono ?_
          rintro e w5 ⟨rfl, hC5, hb5⟩
          have hbt : Below B wr w5 := (z1.below.mono (Nat.le_of_lt (Nat.lt_of_le_of_lt hCo.1 hlt))).trans hb5
          go_wp2_with fail
          go_roundw
          case rel => exact ⟨_, F2, p, q - 1, s, t - 1, (x', y', s') :: la, lb, acc ++ visL 2 (none, some (x2, y2, s2)), rfl, rfl, hE.of hbt, hTF.of hbt, by omega, by omega, hC5, (by have := HR.out; show _ = _; rw [this, List.append_assoc]), hb.trans hbt⟩
          case measure => simp [lenOf]; omega
        · have HR := Lib.hid (hres.out.symm.trans (by rw [res_eq _ hc1 hc2]))
          rw [show befP x' y' x2 y2 = false from hc1] at dn
          rw [show befP x2 y2 x' y' = false from hc2] at dp
          clear hc1 hc2
          generalize cmpP x' y' x2 y2 = v at kW dn dp
          go_wp2_with fail
          (refine wp_region_ext_lit (by kernel_rfl) (by kernel_rfl) ?_; (repeat (go_big_quiet_step ((go_at_call 46; exact calls_ext (kW _))))); refine wpQuiet_nil ?_; intro _ hw'; obtain ⟨z1, hw''⟩ := hw'; subst hw''; have hs1 := z1.size; obtain ⟨hc1, hf1⟩ := bcell z1.below; (try simp only [World.size_alloc, World.size_setCell, World.size_drew] at hc1 hf1); (try simp at hs1))
          go_wp2_with fail
          refine wp_region_still_tail 7 (by kernel_rfl) (by kernel_rfl) ?_
          simp only [List.take_succ_cons, List.take_zero, List.drop_succ_cons, List.drop_zero]
          change wpStill _ _ (World.drew _) (fun a' => wpList _ _ _ _ a' (World.drew _)) _ _
          repeat still_step
          refine wpStill_nil ?_
          show wpList _ _ _ _ _ _
          go_wp2_with fail
          go_at_call 68
          refine (vis_pick_false B b acc (x', y', s') (x2, y2, s2) true true _ (hCo.of z1.below.drew) hacc bh hbh (((hb.trans (z1.below.drew.mono (Nat.le_of_lt (Nat.lt_of_le_of_lt hCo.1 hlt)))).block bh hbh).trans hh.out)).mono ?_
          rintro e w5 ⟨rfl, hC5, hb5⟩
          have hbt : Below B wr w5 := (z1.below.drew.mono (Nat.le_of_lt (Nat.lt_of_le_of_lt hCo.1 hlt))).trans hb5
          go_wp2_with fail
          (refine wp_region_ext_lit (by kernel_rfl) (by kernel_rfl) ?_; (repeat (go_big_quiet_step (fail))); refine wpQuiet_nil ?_; intro _ hw'; obtain ⟨z2, hw''⟩ := hw'; subst hw''; have hs2 := z2.size; obtain ⟨hc2, hf2⟩ := bcell z2.below; (try simp only [World.size_alloc, World.size_setCell, World.size_drew] at hc2 hf2); (try simp at hs2))
          have hbz : Below B wr z2.world := hbt.trans (z2.below.mono (by have := hb5.size; have := hCo.1; have := z1.below.size; simp only [World.size_drew] at *; omega))
          have hC6 := hC5.of z2.below
          go_wp2_with fail
          go_roundw
          case rel => exact ⟨E2, F2, p - 1, q - 1, s - 1, t - 1, la, lb, acc ++ visL 2 (some (x', y', s'), some (x2, y2, s2)), rfl, rfl, hTE.of hbz, hTF.of hbz, by omega, by omega, hC6, (by have := HR.out; show _ = _; rw [this, List.append_assoc]), hb.trans hbz⟩
          case measure => simp [lenOf]; omega
end Go.Proofs.YtenckggfgbkfnaaDoor
