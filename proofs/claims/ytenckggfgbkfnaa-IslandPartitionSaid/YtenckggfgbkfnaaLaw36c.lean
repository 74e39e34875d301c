/- The walk of IslandPartition. -/
import Derived.Test.YtenckggfgbkfnaaAwake36
import Derived.Test.YtenckggfgbkfnaaIslU
namespace Go.Proofs.Ytenckggfgbkfnaa
open Go Go.RowKit
set_option linter.unusedSimpArgs false
set_option linter.unusedVariables false
set_option maxRecDepth 100000
attribute [local go_sem ↓ high] eq_cl neq_cl eq_pt neq_pt
theorem nearL_far {x y : List (Int × Int × Int)} {d : Int} (h : ∀ c ∈ x, ∀ e ∈ y, nrD d c e = false) : nearL d x y = false := by
  rw [Bool.eq_false_iff]
  intro hn
  unfold nearL nearA at hn
  rw [Bool.and_eq_true] at hn
  obtain ⟨c, hc, h1⟩ := List.any_eq_true.1 hn.2
  obtain ⟨e, he, h2⟩ := List.any_eq_true.1 h1
  rw [h c hc e he] at h2
  cases h2
/-- How many of the first j lists meet x. -/
def cntN (M : List (List (Int × Int × Int))) (x : List (Int × Int × Int)) (j : Nat) : Nat := (M.take j).countP fun y => nearL 0 x y
theorem cntN_step {M : List (List (Int × Int × Int))} {x y : List (Int × Int × Int)} {j : Nat} (h : M[j]? = some y) : cntN M x (j + 1) = cntN M x j + (if nearL 0 x y = true then 1 else 0) := by
  unfold cntN
  rw [List.take_add_one, h, List.countP_append]
  simp only [Option.toList_some, List.countP_singleton]
theorem cntN_le {M : List (List (Int × Int × Int))} {x : List (Int × Int × Int)} {j : Nat} : cntN M x j ≤ j := by
  unfold cntN
  exact Nat.le_trans List.countP_le_length (by rw [List.length_take]; omega)
theorem part_plain {l : List (Int × Int × Int)} {d : Int} (h : rightC l = true) (h1 : 1 ≤ d) (h8 : d ≤ 7) : ∃ L M : List (List (Int × Int × Int)), prtsE l d = 0 ∧ prtsL l d = L ∧ prtsE l (d + 1) = 0 ∧ prtsL l (d + 1) = M ∧ L.length ≤ l.length ∧ M.length ≤ l.length ∧
    (∀ q ∈ L, q.length ≤ l.length ∧ 0 < q.length ∧ cntN M q M.length = 1 ∧ ∀ x y s, (x, y, s) ∈ q → getC l x y = s) ∧ (∀ q ∈ M, q.length ≤ l.length) ∧ (∀ (i j : Nat) x y, j < i → L[i]? = some x → L[j]? = some y → nearL d x y = false) ∧ L.flatten.length = l.length := by
  have hE := prtsE_ok (l := l) (d := d) ⟨h, h1, by omega⟩
  have hE2 := prtsE_ok (l := l) (d := d + 1) ⟨h, by omega, by omega⟩
  obtain ⟨L, hL⟩ : ∃ L, prtsN l d l.length = L := ⟨_, rfl⟩
  obtain ⟨M, hM⟩ : ∃ M, prtsN l (d + 1) l.length = M := ⟨_, rfl⟩
  obtain ⟨g1, g2, g3, g4, g5⟩ := prts_good h hL
  obtain ⟨k1, k2, k3, k4, k5⟩ := prts_good h hM
  have hS := rightC_sorted h
  have hlen : ∀ M : List (List (Int × Int × Int)), (∀ q ∈ M, q ≠ []) → M.length ≤ M.flatten.length := by
    intro M
    induction M with
    | nil => intro _; simp
    | cons q M ih =>
      intro hq
      have h1 := ih fun x hx => hq x (by simp [hx])
      have h2 := List.length_pos_iff.2 (hq q (by simp))
      simp only [List.length_cons, List.flatten_cons, List.length_append]
      omega
  refine ⟨L, M, hE.1, by rw [hE.2, hL], hE2.1, by rw [hE2.2, hM], by rw [← g4]; exact hlen L fun q hq => (g5 q hq).2, by rw [← k4]; exact hlen M fun q hq => (k5 q hq).2, fun q hq => ⟨by rw [← g4]; exact (List.sublist_flatten_of_mem hq).length_le, List.length_pos_iff.2 (g5 q hq).2, ?_, fun x y s hs => ?_⟩, fun q hq => by rw [← k4]; exact (List.sublist_flatten_of_mem hq).length_le, fun i j x y hji hx hy => ?_, g4⟩
  · unfold cntN
    rw [List.take_length]
    have hc := prts_in (d := d) hS (x := q) (by rw [hL]; exact hq)
    rw [hM] at hc
    rw [← hc]
    refine List.countP_congr fun y hy => ?_
    have hqr : rightC q = true := by
      rw [← hL] at hq
      obtain ⟨i, _, _, rfl⟩ := prtsN_mem.1 hq
      exact prt_right h
    have hyr : rightC y = true := by
      rw [← hM] at hy
      obtain ⟨i, _, _, rfl⟩ := prtsN_mem.1 hy
      exact prt_right h
    unfold nearL nearP nearA
    rw [hqr, hyr]
    simp
  · have hm : (x, y, s) ∈ l := by
      have hf := prts_flat (l := l) (d := d)
      rw [hL] at hf
      exact hf.mem_iff.1 (List.mem_flatten.2 ⟨q, hq, hs⟩)
    exact getC_mem hS hm
  · subst hL
    exact nearL_far (prts_far hx hy hji)
theorem ref05_GetV {A : Option Addr} {n c : Nat} {l : List (Int × Int × Int)} {x y s : Int} (h : getC l x y = s) (w : World) (hR : Rd encC 3 w A n l) (hn : n ≤ 1000000) : Calls Try.prog 17 #[.slice A n c, .int .i64 x, .int .i64 y] w fun e w' => e = .returned (.int .i64 s) ∧ Below w.heap.size w w' := by
  rw [← h]; exact ref05_Get A n c l x y w hR hn
set_option maxHeartbeats 16000000 in
theorem law_ipart (A : Option Addr) (n c : Nat) (l : List (Int × Int × Int)) (x : Int) (hx0 : 0 ≤ x) (hx1 : x ≤ 255) (w : World) (hR : Rd encC 3 w A n l) :
    Calls Try.prog 6 #[.slice A n c, .int .u8 x] w fun e w' => e = .returned (.bool true) ∧ Below w.heap.size w w' := by
  by_cases hf : n ≤ 120
  · have df : decide (120 < (n : Int)) = false := decide_eq_false (by omega)
    have hlen := hR.len
    have b0 : 0 ≤ x.tmod 7 ∧ x.tmod 7 ≤ 6 := by
      have h1 := Int.tmod_lt_of_pos x (show (0 : Int) < 7 by omega)
      have h2 := Int.tmod_nonneg 7 hx0
      omega
    have e0 : IntKind.i64.wrap x = x := IntWalk.i64_in _ (by omega)
    generalize hd0 : x.tmod 7 = r at b0
    have f0 : IntKind.i64.wrap r = r := IntWalk.i64_in _ (by omega)
    have f1 : IntKind.i64.wrap (1 + r) = 1 + r := IntWalk.i64_in _ (by omega)
    have f2 : IntKind.i64.wrap (1 + r + 1) = 1 + r + 1 := IntWalk.i64_in _ (by omega)
    cases hr : rightC l with
    | false =>
      have hE := prtsE_bad (l := l) (d := 1 + r) (fun h => by rw [hr] at h; cases h.1)
      have hE2 := prtsE_bad (l := l) (d := 1 + r + 1) (fun h => by rw [hr] at h; cases h.1)
      have kP := fun w1 h1 => isl_PartsV (p := 0) A n c w1 hE.1 hE.2 rfl h1 (by omega)
      have kQ := fun w1 h1 => isl_PartsV (p := 0) A n c w1 hE2.1 hE2.2 rfl h1 (by omega)
      clear hE hE2 hr
      go_enter Try.func6, Try.ntmps6
      go_wp2_with fail; go_at_call 9; refine (kP _ hR).mono ?_; rintro e w1 ⟨A1, c1, rfl, h1, hb1⟩; have hs1 := hb1.size; (try simp only [World.size_alloc, World.size_drew, World.size_setCell] at hs1)
      have hR1 := hR.of hb1
      go_wp2_with fail; go_at_call 9; refine (kQ _ hR1).mono ?_; rintro e w2 ⟨A2, c2, rfl, h2, hb2⟩; have hs2 := hb2.size; (try simp only [World.size_alloc, World.size_drew, World.size_setCell] at hs2)
      go_wp2_with fail; go_at_call 8; refine (awake_36 _).mono ?_; rintro e w5 ⟨rfl, hb5⟩; have hs5 := hb5.size; (try simp only [World.size_alloc, World.size_drew, World.size_setCell] at hs5)
      go_wp2_with fail
      go_ret
      exact ⟨rfl, by (repeat' (first | exact Below.refl _ _ | assumption | (refine Below.alloc ?_ ?_ _) | (refine Below.setCell ?_ ?_ _) | (refine Below.drew ?_) | (refine below_drewN ?_ _) | (refine below_after (Ext.below _) ?_ ?_) | (refine below_after (by assumption) ?_ ?_) | (simp; done) | omega | (simp; omega)))⟩
    | true =>
      obtain ⟨L, M, hE, hL, hE2, hM, hLn, hMn, hq, hqm, hfar, hsum⟩ := part_plain hr (d := 1 + r) (by omega) (by omega)
      have kP := fun w1 h1 => isl_PartsV A n c w1 hE hL rfl h1 (by omega)
      have kQ := fun w1 h1 => isl_PartsV A n c w1 hE2 hM rfl h1 (by omega)
      obtain ⟨p, hp⟩ : ∃ p, L.length = p := ⟨_, rfl⟩
      obtain ⟨m, hm⟩ : ∃ m, M.length = m := ⟨_, rfl⟩
      rw [hp] at kP hLn
      rw [hm] at kQ hMn
      have hp120 : p ≤ 120 := by omega
      have hm120 : m ≤ 120 := by omega
      have hs0 : sumL L p = n := by rw [sumL_all hp, hsum, hlen]
      have hsl : ∀ i, sumL L i ≤ i * 120 := sumL_le fun q h => Nat.le_trans (hq q h).1 (by omega)
      replace hq := Lib.hid hq
      replace hqm := Lib.hid hqm
      replace hfar := Lib.hid hfar
      replace hs0 := Lib.hid hs0
      replace hsl := Lib.hid hsl
      replace hp := Lib.hid hp
      replace hm := Lib.hid hm
      replace hlen := Lib.hid hlen
      clear hE hL hE2 hM hr hLn hMn hsum
      go_enter Try.func6, Try.ntmps6
      go_wp2_with fail; go_at_call 9; refine (kP _ hR).mono ?_; rintro e w1 ⟨A1, c1, rfl, h1, hb1⟩; have hs1 := hb1.size; (try simp only [World.size_alloc, World.size_drew, World.size_setCell] at hs1)
      have hR1 := hR.of hb1
      go_wp2_with fail; go_at_call 9; refine (kQ _ hR1).mono ?_; rintro e w2 ⟨A2, c2, rfl, h2, hb2⟩; have hs2 := hb2.size; (try simp only [World.size_alloc, World.size_drew, World.size_setCell] at hs2)
      have hR2 := hR1.of hb2
      have h12 := h1.of hb2
      have hB2 : Below w.heap.size w w2 := by (repeat' (first | exact Below.refl _ _ | assumption | (refine Below.alloc ?_ ?_ _) | (refine Below.setCell ?_ ?_ _) | (refine Below.drew ?_) | (refine below_drewN ?_ _) | (refine below_after (Ext.below _) ?_ ?_) | (refine below_after (by assumption) ?_ ?_) | (simp; done) | omega | (simp; omega)))
      have hsb := hB2.size
      clear kP kQ hb1 hb2 hs1 hs2 hR hR1 h1
      go_wp2_with fail
      go_loopw [10, 45] (fun v t wr => ∃ (i S : Nat), v = .int .i64 S ∧ t = .int .i64 i ∧ i ≤ p ∧ Hid (S = sumL L i) ∧ Below w2.heap.size w2 wr) (fun _ t _ => p - (intOf t).toNat)
      case atStart => exact ⟨0, 0, rfl, rfl, by omega, Lib.hid (by unfold sumL; rfl), Below.refl _ _⟩
      case round =>
        obtain ⟨i, S, rfl, rfl, hi, hS, hb⟩ := hrel
        have hsz := hb.size
        have hS5 : S ≤ 14400 := by
          have h1 := hS.out
          have h2 := hsl.out i
          have h3 : i * 120 ≤ 120 * 120 := Nat.mul_le_mul_right 120 (by omega)
          omega
        by_cases hli : i < p
        · have di : decide ((i : Int) < p) = true := decide_eq_true (by omega)
          have h1w := h12.of hb
          obtain ⟨F, q, u, lq, bo, o, hxq, rfl, hbl, g1, hQ, hqu⟩ := h1w.pat hli
          have hmq : lq ∈ L := List.mem_of_getElem? hxq.out
          obtain ⟨a1, a2, a3, a4⟩ := hq.out lq hmq
          have hql := hQ.len
          have hq120 : q ≤ 120 := by have := hlen.out; omega
          have hq0 : 0 < q := by omega
          have hsn := Lib.hid (show S + q = sumL L (i + 1) by rw [sumL_step hxq.out, ← hS.out, hql])
          replace a3 := Lib.hid a3
          replace a4 := Lib.hid a4
          clear a1 a2 hmq
          obtain ⟨wo, rfl⟩ : ∃ wo : World, wo = wr := ⟨_, rfl⟩
          go_wp2_with fail
          go_loopw [12, 57] (fun v t wr => ∃ (j C : Nat), v = .int .i64 C ∧ t = .int .i64 j ∧ j ≤ m ∧ C ≤ j ∧ Hid (C = cntN M lq j) ∧ Below wo.heap.size wo wr) (fun _ t _ => m - (intOf t).toNat)
          case atStart => exact ⟨0, 0, rfl, rfl, by omega, by omega, Lib.hid (by unfold cntN; rfl), Below.refl _ _⟩
          case round =>
            obtain ⟨j, C, rfl, rfl, hj, hCj, hC, hbj⟩ := hrel
            have hszj := hbj.size
            have h1j := h1w.of hbj
            have h2j := (h2.of hb).of hbj
            have hQj := hQ.of hbj
            have gj : wr.cell? ⟨bo, o + i, none⟩ = some (.slice F q u) := by rw [hbj.cell (p := ⟨_, _, none⟩) hbl]; exact g1
            by_cases hlj : j < m
            · have dj : decide ((j : Int) < m) = true := decide_eq_true (by omega)
              obtain ⟨G, q2, u2, lm, bo2, o2, hxm, rfl, hbl2, g2, hQ2, _⟩ := h2j.pat hlj
              have hq2 : q2 ≤ 1000000 := by
                have h1 := hqm.out lm (List.mem_of_getElem? hxm.out)
                have h2 := hQ2.len
                have h3 := hlen.out
                omega
              cases hv : nearL 0 lq lm with
              | true =>
                have hst := Lib.hid (show C + 1 = cntN M lq (j + 1) by rw [cntN_step hxm.out, ← hC.out, if_pos hv])
                have kV := fun w1 h1 h2 => isl_NearV (d := 0) F G q q2 u u2 w1 hv h1 h2 (by omega) hq2
                clear hv
                go_wp2_with fail
                (refine wp_region_ext_lit (by kernel_rfl) (by kernel_rfl) ?_; (repeat (go_big_quiet_step ((go_at_call 13; exact calls_ext (kV _ (hQj.of (by (repeat' (first | exact Below.refl _ _ | assumption | (refine Below.alloc ?_ ?_ _) | (refine Below.setCell ?_ ?_ _) | (refine Below.drew ?_) | (refine below_drewN ?_ _) | (refine below_after (Ext.below _) ?_ ?_) | (refine below_after (by assumption) ?_ ?_) | (simp; done) | omega | (simp; omega))))) (hQ2.of (by (repeat' (first | exact Below.refl _ _ | assumption | (refine Below.alloc ?_ ?_ _) | (refine Below.setCell ?_ ?_ _) | (refine Below.drew ?_) | (refine below_drewN ?_ _) | (refine below_after (Ext.below _) ?_ ?_) | (refine below_after (by assumption) ?_ ?_) | (simp; done) | omega | (simp; omega)))))))))); refine wpQuiet_nil ?_; intro _ hw'; obtain ⟨z3, hw''⟩ := hw'; subst hw''; have hs3 := z3.size; obtain ⟨hc3, hf3⟩ := bcell z3.below; (try simp only [World.size_alloc, World.size_setCell, World.size_drew] at hc3 hf3); (try simp at hs3))
                go_wp2_with fail
                go_roundw
                case rel => exact ⟨j + 1, C + 1, by go_num, by go_num, by omega, by omega, hst, by (repeat' (first | exact Below.refl _ _ | assumption | (refine Below.alloc ?_ ?_ _) | (refine Below.setCell ?_ ?_ _) | (refine Below.drew ?_) | (refine below_drewN ?_ _) | (refine below_after (Ext.below _) ?_ ?_) | (refine below_after (by assumption) ?_ ?_) | (simp; done) | omega | (simp; omega)))⟩
                case measure => simp [intOf]; omega
              | false =>
                have hst := Lib.hid (show C = cntN M lq (j + 1) by rw [cntN_step hxm.out, ← hC.out, if_neg (by rw [hv]; simp)]; rfl)
                have kV := fun w1 h1 h2 => isl_NearV (d := 0) F G q q2 u u2 w1 hv h1 h2 (by omega) hq2
                clear hv
                go_wp2_with fail
                (refine wp_region_ext_lit (by kernel_rfl) (by kernel_rfl) ?_; (repeat (go_big_quiet_step ((go_at_call 13; exact calls_ext (kV _ (hQj.of (by (repeat' (first | exact Below.refl _ _ | assumption | (refine Below.alloc ?_ ?_ _) | (refine Below.setCell ?_ ?_ _) | (refine Below.drew ?_) | (refine below_drewN ?_ _) | (refine below_after (Ext.below _) ?_ ?_) | (refine below_after (by assumption) ?_ ?_) | (simp; done) | omega | (simp; omega))))) (hQ2.of (by (repeat' (first | exact Below.refl _ _ | assumption | (refine Below.alloc ?_ ?_ _) | (refine Below.setCell ?_ ?_ _) | (refine Below.drew ?_) | (refine below_drewN ?_ _) | (refine below_after (Ext.below _) ?_ ?_) | (refine below_after (by assumption) ?_ ?_) | (simp; done) | omega | (simp; omega)))))))))); refine wpQuiet_nil ?_; intro _ hw'; obtain ⟨z3, hw''⟩ := hw'; subst hw''; have hs3 := z3.size; obtain ⟨hc3, hf3⟩ := bcell z3.below; (try simp only [World.size_alloc, World.size_setCell, World.size_drew] at hc3 hf3); (try simp at hs3))
                go_wp2_with fail
                go_roundw
                case rel => exact ⟨j + 1, C, rfl, by go_num, by omega, by omega, hst, by (repeat' (first | exact Below.refl _ _ | assumption | (refine Below.alloc ?_ ?_ _) | (refine Below.setCell ?_ ?_ _) | (refine Below.drew ?_) | (refine below_drewN ?_ _) | (refine below_after (Ext.below _) ?_ ?_) | (refine below_after (by assumption) ?_ ?_) | (simp; done) | omega | (simp; omega)))⟩
                case measure => simp [intOf]; omega
            · obtain rfl : j = m := by omega
              have dj : decide ((j : Int) < j) = false := decide_eq_false (by omega)
              have dC : ((C : Int) != 1) = false := by
                have h1 : C = 1 := by rw [hC.out, ← hm.out]; exact a3.out
                rw [h1]; rfl
              have dq : ((q : Int) == 0) = false := by simp; omega
              clear hC hCj
              obtain ⟨wp, rfl⟩ : ∃ wp : World, wp = wr := ⟨_, rfl⟩
              go_wp2_with fail
              go_loopw [87] (fun t wr => ∃ (k : Nat), t = .int .i64 k ∧ k ≤ q ∧ Below wp.heap.size wp wr) (fun t _ => q - (intOf t).toNat)
              case atStart => exact ⟨0, rfl, by omega, Below.refl _ _⟩
              case round =>
                obtain ⟨k, rfl, hk, hbk⟩ := hrel
                have hszk := hbk.size
                have hQk := hQj.of hbk
                have gk : wr.cell? ⟨bo, o + i, none⟩ = some (.slice F q u) := by rw [hbk.cell (p := ⟨_, _, none⟩) (show bo < wp.heap.size by omega)]; exact gj
                have hRk : Rd encC 3 wr A n l := hR2.of (show Below w2.heap.size w2 wr from by (repeat' (first | exact Below.refl _ _ | assumption | (refine Below.alloc ?_ ?_ _) | (refine Below.setCell ?_ ?_ _) | (refine Below.drew ?_) | (refine below_drewN ?_ _) | (refine below_after (Ext.below _) ?_ ?_) | (refine below_after (by assumption) ?_ ?_) | (simp; done) | omega | (simp; omega))))
                by_cases hlk : k < q
                · have dk : decide ((k : Int) < q) = true := decide_eq_true (by omega)
                  obtain ⟨x', y', s', bc, oc, hxc, rfl, hblc, e1, e2, e3⟩ := hQk.cell hlk
                  have hg := a4.out x' y' s' (List.mem_of_getElem? hxc.out)
                  have kG := fun w1 h1 => ref05_GetV (A := A) (n := n) (c := c) hg w1 h1 (by omega)
                  have dss : ((s' : Int) != s') = false := by simp
                  clear hg
                  go_wp2_with fail
                  (refine wp_region_ext_lit (by kernel_rfl) (by kernel_rfl) ?_; (repeat (go_big_quiet_step ((go_at_call 17; exact calls_ext (kG _ (hRk.of (by (repeat' (first | exact Below.refl _ _ | assumption | (refine Below.alloc ?_ ?_ _) | (refine Below.setCell ?_ ?_ _) | (refine Below.drew ?_) | (refine below_drewN ?_ _) | (refine below_after (Ext.below _) ?_ ?_) | (refine below_after (by assumption) ?_ ?_) | (simp; done) | omega | (simp; omega)))))))))); refine wpQuiet_nil ?_; intro _ hw'; obtain ⟨z4, hw''⟩ := hw'; subst hw''; have hs4 := z4.size; obtain ⟨hc4, hf4⟩ := bcell z4.below; (try simp only [World.size_alloc, World.size_setCell, World.size_drew] at hc4 hf4); (try simp at hs4))
                  go_wp2_with fail
                  go_roundw
                  case rel => exact ⟨k + 1, by go_num, by omega, by (repeat' (first | exact Below.refl _ _ | assumption | (refine Below.alloc ?_ ?_ _) | (refine Below.setCell ?_ ?_ _) | (refine Below.drew ?_) | (refine below_drewN ?_ _) | (refine below_after (Ext.below _) ?_ ?_) | (refine below_after (by assumption) ?_ ?_) | (simp; done) | omega | (simp; omega)))⟩
                  case measure => simp [intOf]; omega
                · obtain rfl : k = q := by omega
                  have dk : decide ((k : Int) < k) = false := decide_eq_false (by omega)
                  obtain ⟨wq, rfl⟩ : ∃ wq : World, wq = wr := ⟨_, rfl⟩
                  go_wp2_with fail
                  go_loopw [120] (fun t wr => ∃ (z : Nat), t = .int .i64 z ∧ z ≤ p ∧ Below wq.heap.size wq wr) (fun t _ => p - (intOf t).toNat)
                  case atStart => exact ⟨0, rfl, by omega, Below.refl _ _⟩
                  case round =>
                    obtain ⟨z, rfl, hz, hbz⟩ := hrel
                    have hszz := hbz.size
                    have hQz := hQk.of hbz
                    have gz : wr.cell? ⟨bo, o + i, none⟩ = some (.slice F k u) := by rw [hbz.cell (p := ⟨_, _, none⟩) (show bo < wq.heap.size by omega)]; exact gk
                    have h1z : RdX ekC wr _ p L := (h1j.of hbk).of hbz
                    by_cases hlz : z < p
                    · have dz : decide ((z : Int) < p) = true := decide_eq_true (by omega)
                      by_cases hzi : z < i
                      · have dzi : decide ((z : Int) < i) = true := decide_eq_true (by omega)
                        obtain ⟨G, q3, u3, lz, bo3, o3, hxz, hbe, hbl3, g3, hQ3, _⟩ := h1z.pat hlz
                        injection hbe with hbe
                        injection hbe with hbe1 hbe2
                        subst hbe1 hbe2
                        have hq3 : q3 ≤ 1000000 := by
                          have h1 := (hq.out lz (List.mem_of_getElem? hxz.out)).1
                          have h2 := hQ3.len
                          have h3 := hlen.out
                          omega
                        have hv := hfar.out i z lq lz hzi hxq.out hxz.out
                        have kV := fun w1 h1 h2 => isl_NearV F G k q3 u u3 w1 hv h1 h2 (by omega) hq3
                        clear hv
                        go_wp2_with fail
                        (refine wp_region_ext_lit (by kernel_rfl) (by kernel_rfl) ?_; (repeat (go_big_quiet_step ((go_at_call 13; exact calls_ext (kV _ (hQz.of (by (repeat' (first | exact Below.refl _ _ | assumption | (refine Below.alloc ?_ ?_ _) | (refine Below.setCell ?_ ?_ _) | (refine Below.drew ?_) | (refine below_drewN ?_ _) | (refine below_after (Ext.below _) ?_ ?_) | (refine below_after (by assumption) ?_ ?_) | (simp; done) | omega | (simp; omega))))) (hQ3.of (by (repeat' (first | exact Below.refl _ _ | assumption | (refine Below.alloc ?_ ?_ _) | (refine Below.setCell ?_ ?_ _) | (refine Below.drew ?_) | (refine below_drewN ?_ _) | (refine below_after (Ext.below _) ?_ ?_) | (refine below_after (by assumption) ?_ ?_) | (simp; done) | omega | (simp; omega)))))))))); refine wpQuiet_nil ?_; intro _ hw'; obtain ⟨z6, hw''⟩ := hw'; subst hw''; have hs6 := z6.size; obtain ⟨hc6, hf6⟩ := bcell z6.below; (try simp only [World.size_alloc, World.size_setCell, World.size_drew] at hc6 hf6); (try simp at hs6))
                        go_wp2_with fail
                        go_roundw
                        case rel => exact ⟨z + 1, by go_num, by omega, by (repeat' (first | exact Below.refl _ _ | assumption | (refine Below.alloc ?_ ?_ _) | (refine Below.setCell ?_ ?_ _) | (refine Below.drew ?_) | (refine below_drewN ?_ _) | (refine below_after (Ext.below _) ?_ ?_) | (refine below_after (by assumption) ?_ ?_) | (simp; done) | omega | (simp; omega)))⟩
                        case measure => simp [intOf]; omega
                      · have dzi : decide ((z : Int) < i) = false := decide_eq_false (by omega)
                        go_wp2_with fail
                        (refine wp_region_ext_lit (by kernel_rfl) (by kernel_rfl) ?_; (repeat (go_big_quiet_step (fail))); refine wpQuiet_nil ?_; intro _ hw'; obtain ⟨z6, hw''⟩ := hw'; subst hw''; have hs6 := z6.size; obtain ⟨hc6, hf6⟩ := bcell z6.below; (try simp only [World.size_alloc, World.size_setCell, World.size_drew] at hc6 hf6); (try simp at hs6))
                        go_wp2_with fail
                        go_roundw
                        case rel => exact ⟨z + 1, by go_num, by omega, by (repeat' (first | exact Below.refl _ _ | assumption | (refine Below.alloc ?_ ?_ _) | (refine Below.setCell ?_ ?_ _) | (refine Below.drew ?_) | (refine below_drewN ?_ _) | (refine below_after (Ext.below _) ?_ ?_) | (refine below_after (by assumption) ?_ ?_) | (simp; done) | omega | (simp; omega)))⟩
                        case measure => simp [intOf]; omega
                    · obtain rfl : z = p := by omega
                      have dz : decide ((z : Int) < z) = false := decide_eq_false (by omega)
                      go_wp2_with fail
                      go_roundw
                      case rel => exact ⟨i + 1, S + k, by go_num, by go_num, by omega, hsn, by (repeat' (first | exact Below.refl _ _ | assumption | (refine Below.alloc ?_ ?_ _) | (refine Below.setCell ?_ ?_ _) | (refine Below.drew ?_) | (refine below_drewN ?_ _) | (refine below_after (Ext.below _) ?_ ?_) | (refine below_after (by assumption) ?_ ?_) | (simp; done) | omega | (simp; omega)))⟩
                      case measure => simp [intOf]; omega
        · obtain rfl : i = p := by omega
          have di : decide ((i : Int) < i) = false := decide_eq_false (by omega)
          obtain rfl : S = n := by rw [hS.out]; exact hs0.out
          have dS : ((S : Int) == S) = true := beq_self_eq_true _
          go_wp2_with fail; go_at_call 8; refine (awake_36 _).mono ?_; rintro e w5 ⟨rfl, hb5⟩; have hs5 := hb5.size; (try simp only [World.size_alloc, World.size_drew, World.size_setCell] at hs5)
          go_wp2_with fail
          go_ret
          exact ⟨rfl, by (repeat' (first | exact Below.refl _ _ | assumption | (refine Below.alloc ?_ ?_ _) | (refine Below.setCell ?_ ?_ _) | (refine Below.drew ?_) | (refine below_drewN ?_ _) | (refine below_after (Ext.below _) ?_ ?_) | (refine below_after (by assumption) ?_ ?_) | (simp; done) | omega | (simp; omega)))⟩
  · have df : decide (120 < (n : Int)) = true := decide_eq_true (by omega)
    go_enter Try.func6, Try.ntmps6
    go_wp2_with (first | (go_at_call 8; refine (awake_36 _).mono ?_; rintro e w5 ⟨rfl, hb5⟩; obtain ⟨hc5, hf5⟩ := bcell hb5; have hs5 := hb5.size; (try simp only [World.size_alloc, World.size_setCell, World.size_drew] at hc5 hf5); (try simp at hs5)))
    go_ret
    exact ⟨rfl, by (repeat' (first | exact Below.refl _ _ | assumption | (refine Below.alloc ?_ ?_ _) | (refine Below.setCell ?_ ?_ _) | (refine Below.drew ?_) | (refine below_drewN ?_ _) | (refine below_after (Ext.below _) ?_ ?_) | (refine below_after (by assumption) ?_ ?_) | (simp; done) | omega | (simp; omega)))⟩
end Go.Proofs.Ytenckggfgbkfnaa
