/- The contract of the reference's Parts. -/
import Derived.Test.YtenckggfgbkfnaaIsl1
import Derived.Test.YtenckggfgbkfnaaPLN
import Derived.Test.YtenckggfgbkfnaaMEM
import Derived.Test.YtenckggfgbkfnaaLstX
import Derived.Test.YtenckggfgbkfnaaCell7
namespace Go.Proofs.Ytenckggfgbkfnaa
open Go Go.RowKit
set_option linter.unusedSimpArgs false
set_option linter.unusedVariables false
set_option maxRecDepth 100000
attribute [local go_sem ↓ high] eq_cl neq_cl eq_pt neq_pt
theorem prts_ways {l : List (Int × Int × Int)} {d : Int} (h : ¬ (rightC l = true ∧ 1 ≤ d ∧ d ≤ 8)) : rightC l = false ∨ (rightC l = true ∧ decide (d < 1) = true) ∨ (rightC l = true ∧ decide (d < 1) = false ∧ decide (8 < d) = true) := by
  cases hr : rightC l with
  | false => exact Or.inl rfl
  | true =>
    right
    simp only [hr, true_and, decide_eq_true_eq, decide_eq_false_iff_not] at *
    omega
/-- The scan's last state, or the first one. -/
def scanEnd (l : List (Int × Int × Int)) (d : Int) (gl : List Int) (b : Bool) : Prop := grpOk l d gl ∧ (b = false → ∀ (i : Nat) (x : Int), gl[i]? = some x → x = (gpI l d i : Nat))
theorem scan_end {l : List (Int × Int × Int)} {d : Int} {gl0 gl : List Int} {b : Bool} {n : Nat} (hn : l.length = n) (h : Scan l d gl0 gl b n 0) : scanEnd l d gl b := by
  refine ⟨h.1, fun hb => ?_⟩
  subst hb hn
  exact h.done
theorem flag_less {gl0 gl : List Int} {l : List (Int × Int × Int)} {d : Int} {b : Bool} {i k : Nat} (h : Scan l d gl0 gl b i k) : flagOf (.bool b) * (sumN gl + 1) < flagOf (.bool true) * (sumN gl0 + 1) := by
  cases b with
  | true => have := h.2.1 rfl; simp [flagOf]; omega
  | false => simp [flagOf]
theorem num_step {gl : List Int} {j : Nat} {x : Int} (hno : ∀ (i : Nat) (x : Int), i < j → gl[i]? = some x → x = i) (hx : gl[j]? = some x) : ∀ (i : Nat) (y : Int), i < j + 1 → (gl.set j (j : Int))[i]? = some y → y = i := by
  intro i y hi hy
  rw [List.getElem?_set] at hy
  by_cases e : j = i
  · subst e; rw [if_pos rfl, if_pos (lt_of_some hx)] at hy; injection hy with hy; exact hy.symm
  · rw [if_neg e] at hy; exact hno i y (by omega) hy
theorem sel_if {l : List (Int × Int × Int)} {d v : Int} {i k n : Nat} {a : Int × Int × Int} (hv : v = (gpI l d k : Nat)) (ha : l[k]? = some a) : selN l (fun k => gpI l d k == i) (k + 1) = selN l (fun k => gpI l d k == i) k ++ (if (v == (i : Int)) = true then [a] else []) := by
  rw [selN_step ha]
  congr 1
  have : (v == (i : Int)) = (gpI l d k == i) := by
    subst hv
    rw [Bool.eq_iff_iff]; simp only [beq_iff_eq]; omega
  rw [this]
theorem prts_next {l : List (Int × Int × Int)} {d : Int} {j q : Nat} (hj : j < l.length) (hq : (prt l d j).length = q) : prtsN l d (j + 1) = prtsN l d j ++ (if 0 < q then [prt l d j] else []) := by
  rw [prtsN_step]
  congr 1
  by_cases hg : gpI l d j = j
  · have := List.length_pos_iff.2 (prt_some hj hg)
    rw [if_pos hg, if_pos (by omega)]
  · rw [if_neg hg, if_neg (by rw [← hq, prt_none hj hg]; simp)]
set_option maxHeartbeats 8000000 in
theorem ref36_Parts (A : Option Addr) (n c : Nat) (l : List (Int × Int × Int)) (d : Int) (w : World) (hR : Rd encC 3 w A n l) (hn : n ≤ 1000000) :
    Calls Try.prog 10 #[.slice A n c, .int .i64 d] w fun e w' => ∃ A2 n2 c2, e = .returned (.tuple #[.slice A2 n2 c2, .int .i64 (prtsE l d)]) ∧ RdX ekC w' A2 n2 (prtsL l d) ∧ n2 ≤ n ∧ Below w.heap.size w w' := by
  by_cases hgood : rightC l = true ∧ 1 ≤ d ∧ d ≤ 8
  case neg =>
    have HE := Lib.hid (prtsE_bad hgood)
    have hways := prts_ways hgood
    clear hgood
    rcases hways with hr | ⟨hr, d1⟩ | ⟨hr, d1, d2⟩
    all_goals
      have kR := fun w1 (h : Rd encC 3 w1 A n l) => ref05_RightV (A := A) (n := n) (c := c) hr w1 h (by omega)
      clear hr
      go_enter Try.func10, Try.ntmps10
      go_wp2_with fail; go_at_call 22; refine (kR _ hR).mono ?_; rintro e w1 ⟨rfl, hb1⟩; have hs1 := hb1.size; (try simp only [World.size_alloc, World.size_drew, World.size_setCell] at hs1)
      go_wp2_with fail
      go_ret2
      exact ⟨none, 0, 0, ret_pe HE.out.1.symm, by rw [HE.out.2]; exact RdX.nil_, by omega, by (repeat' (first | exact Below.refl _ _ | assumption | (refine Below.alloc ?_ ?_ _) | (refine Below.setCell ?_ ?_ _) | (refine Below.drew ?_) | (refine below_drewN ?_ _) | (refine below_after (Ext.below _) ?_ ?_) | (refine below_after (by assumption) ?_ ?_) | (simp; done) | omega | (simp; omega)))⟩
  case pos =>
    have HE := Lib.hid (prtsE_ok hgood)
    have hlen := Lib.hid hR.len
    have hel := Lib.hid (fun (i : Nat) x y s (h : l[i]? = some (x, y, s)) => (rightC_elem hgood.1 h).1)
    have kR := fun w1 (h : Rd encC 3 w1 A n l) => ref05_RightV (A := A) (n := n) (c := c) hgood.1 w1 h (by omega)
    have d1 : decide (d < 1) = false := decide_eq_false (by omega)
    have d2 : decide (8 < d) = false := decide_eq_false (by omega)
    have hmk := fun w => run_make_ints Try.underlying50 n hn w
    clear hgood
    go_enter Try.func10, Try.ntmps10
    go_wp2_with fail; go_at_call 22; refine (kR _ hR).mono ?_; rintro e w1 ⟨rfl, hb1⟩; have hs1 := hb1.size; (try simp only [World.size_alloc, World.size_drew, World.size_setCell] at hs1)
    clear kR
    go_wp2_with fail
    clear d1 d2 hmk
    have hb1' := hb1
    have hO := own_made w1 3 w1.heap.size (Nat.le_refl _) n (by omega)
    have hB0 : Below w.heap.size w (w1.alloc (.cells (madeCells #[.int .i64 0] n) 3)) := by (repeat' (first | exact Below.refl _ _ | assumption | (refine Below.alloc ?_ ?_ _) | (refine Below.setCell ?_ ?_ _) | (refine Below.drew ?_) | (refine below_drewN ?_ _) | (refine below_after (Ext.below _) ?_ ?_) | (refine below_after (by assumption) ?_ ?_) | (simp; done) | omega | (simp; omega)))
    clear hb1
    go_loopw [7] (fun i wr => ∃ (j : Nat) (gl : List Int), i = .int .i64 j ∧ j ≤ n ∧ Own encI 1 3 w1.heap.size wr (some ⟨w1.heap.size, 0, none⟩) n n gl ∧ Hid (∀ (i' : Nat) (x : Int), i' < j → gl[i']? = some x → x = i') ∧ Below w.heap.size w wr) (fun i _ => n - (intOf i).toNat)
    case atStart => exact ⟨0, _, rfl, by omega, hO, Lib.hid (fun i' x hi => absurd hi (by omega)), hB0⟩
    case round =>
      clear hO hB0
      obtain ⟨j, gl, rfl, hj, hO, hno, hb⟩ := hrel
      by_cases hlt : j < n
      · have dj : decide ((j : Int) < n) = true := decide_eq_true (by omega)
        obtain ⟨x, hx, g0, g1, g2, _, _⟩ := hO.intCell hlt
        go_wp2_with fail
        go_roundw
        case rel => exact ⟨j + 1, _, by go_num, by omega, own_setI hO hlt j, Lib.hid (num_step hno.out hx.out), by (repeat' (first | exact Below.refl _ _ | assumption | (refine Below.alloc ?_ ?_ _) | (refine Below.setCell ?_ ?_ _) | (refine Below.drew ?_) | (refine below_drewN ?_ _) | (refine below_after (Ext.below _) ?_ ?_) | (refine below_after (by assumption) ?_ ?_) | (simp; done) | omega | (simp; omega)))⟩
        case measure => simp [intOf]; omega
      · obtain rfl : j = n := by omega
        have dj : decide ((j : Int) < j) = false := decide_eq_false (by omega)
        have hG := Lib.hid (show grpOk l d gl from grpOk_start gl (by rw [hO.len, hlen.out]) (fun i x hx => hno.out i x (by have := lt_of_some hx; rw [hO.len] at this; exact this) hx))
        clear hno hlt hj
        go_wp2_with fail
        go_loopw [8] (fun v wr => ∃ (b : Bool) (gl : List Int), v = .bool b ∧ Own encI 1 3 w1.heap.size wr (some ⟨w1.heap.size, 0, none⟩) j j gl ∧ Hid (scanEnd l d gl b) ∧ Below w.heap.size w wr) (fun v wr => flagOf v * (blkSum wr w1.heap.size j + 1))
        case atStart => exact ⟨true, gl, rfl, hO, Lib.hid ⟨hG.out, fun h => (by cases h)⟩, hb⟩
        case round =>
          clear hO hG hb
          obtain ⟨b, gl, rfl, hO, hS, hb⟩ := hrel
          have hsum0 := Lib.hid (blkSum_own hO)
          cases b with
          | true =>
            obtain ⟨wo, rfl⟩ : ∃ wo : World, wo = wr := ⟨_, rfl⟩
            go_wp2_with fail
            go_loopw [8, 9] (fun v t wr => ∃ (b : Bool) (gl2 : List Int) (i : Nat), v = .bool b ∧ t = .int .i64 i ∧ i ≤ j ∧ Own encI 1 3 w1.heap.size wr (some ⟨w1.heap.size, 0, none⟩) j j gl2 ∧ Hid (Scan l d gl gl2 b i 0) ∧ Below w.heap.size w wr) (fun _ t _ => j - (intOf t).toNat)
            case atStart => exact ⟨false, gl, 0, rfl, rfl, by omega, hO, Lib.hid (Scan.start hS.out.1), hb⟩
            case round =>
              clear hO hb
              obtain ⟨b, gl2, i, rfl, rfl, hi, hO, hC, hb⟩ := hrel
              by_cases hli : i < j
              · have di : decide ((i : Int) < j) = true := decide_eq_true (by omega)
                obtain ⟨x', y', s', bo, o, hx, rfl, hbl, e1, e2, e3⟩ := hR.cell hli
                go_wp2
                go_loopw [8, 10] (fun v t wr => ∃ (b : Bool) (gl2 : List Int) (k : Nat), v = .bool b ∧ t = .int .i64 k ∧ k ≤ j ∧ Own encI 1 3 w1.heap.size wr (some ⟨w1.heap.size, 0, none⟩) j j gl2 ∧ Hid (Scan l d gl gl2 b i k) ∧ Below w.heap.size w wr) (fun _ t _ => j - (intOf t).toNat)
                case atStart => exact ⟨b, gl2, 0, rfl, rfl, by omega, hO, hC, hb⟩
                case round =>
                  clear hO hb hC
                  obtain ⟨b, gl2, k, rfl, rfl, hk, hO, hC, hb⟩ := hrel
                  obtain ⟨hc, hf⟩ := bcell hb
                  have hs := hb.size
                  by_cases hlk : k < j
                  · have dk : decide ((k : Int) < j) = true := decide_eq_true (by omega)
                    obtain ⟨x2, y2, s2, bo2, o2, hx2, hbo2, hbl2, f1, f2, f3⟩ := hR.cell hlk
                    injection hbo2 with hbo2
                    injection hbo2 with hbo2 hbo3
                    subst hbo2 hbo3
                    obtain ⟨vi, hvi, g0, g1, g2, g5, g6⟩ := hO.intCell hli
                    obtain ⟨vk, hvk, _, g3, g4, g7, g8⟩ := hO.intCell hlk
                    have kD := fun w9 => ref36_distance x' y' s' x2 y2 s2 w9 (hel.out _ _ _ _ hx.out) (hel.out _ _ _ _ hx2.out)
                    have hnr := Lib.hid (dstD_nr d (x', y', s') (x2, y2, s2))
                    by_cases hlt : vk < vi
                    · have dv : decide (vk < vi) = true := decide_eq_true hlt
                      cases hq : nrD d (x', y', s') (x2, y2, s2) with
                      | true =>
                        have dd : decide (dstD (x', y', s') (x2, y2, s2) ≤ d) = true := hnr.out.trans hq
                        have hC' := Lib.hid (hC.out.change hvi.out hvk.out hx.out hx2.out hq hlt)
                        generalize dstD (x', y', s') (x2, y2, s2) = vd at kD dd
                        clear hnr hlt
                        go_wp2_with fail
                        (refine wp_region_ext_lit (by kernel_rfl) (by kernel_rfl) ?_; (repeat (go_big_quiet_step ((go_at_call 23; exact calls_ext (kD _))))); refine wpQuiet_nil ?_; intro _ hw'; obtain ⟨z3, hw''⟩ := hw'; subst hw''; have hs3 := z3.size; obtain ⟨hc3, hf3⟩ := bcell z3.below; (try simp only [World.size_alloc, World.size_setCell, World.size_drew] at hc3 hf3); (try simp at hs3))
                        have hO3 := hO.of z3.below
                        obtain ⟨_, _, k0, k1, k2, k3, k4⟩ := hO3.intCell hli
                        go_wp2_with fail
                        go_roundw
                        case rel => exact ⟨true, _, k + 1, rfl, by go_num, by omega, own_setI hO3 hli vk, hC', by (repeat' (first | exact Below.refl _ _ | assumption | (refine Below.alloc ?_ ?_ _) | (refine Below.setCell ?_ ?_ _) | (refine Below.drew ?_) | (refine below_drewN ?_ _) | (refine below_after (Ext.below _) ?_ ?_) | (refine below_after (by assumption) ?_ ?_) | (simp; done) | omega | (simp; omega)))⟩
                        case measure => simp [intOf]; omega
                      | false =>
                        have dd : decide (dstD (x', y', s') (x2, y2, s2) ≤ d) = false := hnr.out.trans hq
                        have hC' := Lib.hid (hC.out.stay hvi.out hvk.out hx.out hx2.out (fun h => by rw [hq] at h; cases h.2))
                        generalize dstD (x', y', s') (x2, y2, s2) = vd at kD dd
                        clear hnr hlt
                        go_wp2_with fail
                        (refine wp_region_ext_lit (by kernel_rfl) (by kernel_rfl) ?_; (repeat (go_big_quiet_step ((go_at_call 23; exact calls_ext (kD _))))); refine wpQuiet_nil ?_; intro _ hw'; obtain ⟨z3, hw''⟩ := hw'; subst hw''; have hs3 := z3.size; obtain ⟨hc3, hf3⟩ := bcell z3.below; (try simp only [World.size_alloc, World.size_setCell, World.size_drew] at hc3 hf3); (try simp at hs3))
                        go_wp2_with fail
                        go_roundw
                        case rel => exact ⟨b, _, k + 1, rfl, by go_num, by omega, hO.of z3.below, hC', by (repeat' (first | exact Below.refl _ _ | assumption | (refine Below.alloc ?_ ?_ _) | (refine Below.setCell ?_ ?_ _) | (refine Below.drew ?_) | (refine below_drewN ?_ _) | (refine below_after (Ext.below _) ?_ ?_) | (refine below_after (by assumption) ?_ ?_) | (simp; done) | omega | (simp; omega)))⟩
                        case measure => simp [intOf]; omega
                    · have dv : decide (vk < vi) = false := decide_eq_false hlt
                      have hC' := Lib.hid (hC.out.stay hvi.out hvk.out hx.out hx2.out (fun h => hlt h.1))
                      clear hnr hlt kD
                      go_wp2_with fail
                      (refine wp_region_ext_lit (by kernel_rfl) (by kernel_rfl) ?_; (repeat (go_big_quiet_step (fail))); refine wpQuiet_nil ?_; intro _ hw'; obtain ⟨z3, hw''⟩ := hw'; subst hw''; have hs3 := z3.size; obtain ⟨hc3, hf3⟩ := bcell z3.below; (try simp only [World.size_alloc, World.size_setCell, World.size_drew] at hc3 hf3); (try simp at hs3))
                      go_wp2_with fail
                      go_roundw
                      case rel => exact ⟨b, _, k + 1, rfl, by go_num, by omega, hO.of z3.below, hC', by (repeat' (first | exact Below.refl _ _ | assumption | (refine Below.alloc ?_ ?_ _) | (refine Below.setCell ?_ ?_ _) | (refine Below.drew ?_) | (refine below_drewN ?_ _) | (refine below_after (Ext.below _) ?_ ?_) | (refine below_after (by assumption) ?_ ?_) | (simp; done) | omega | (simp; omega)))⟩
                      case measure => simp [intOf]; omega
                  · obtain rfl : k = j := by omega
                    have dk : decide ((k : Int) < k) = false := decide_eq_false (by omega)
                    have hC' := Lib.hid (show Scan l d gl gl2 b (i + 1) 0 from Scan.row (by rw [hlen.out]; exact hC.out))
                    go_wp2_with fail
                    go_roundw
                    case rel => exact ⟨b, gl2, i + 1, rfl, by go_num, by omega, hO, hC', hb⟩
                    case measure => simp [intOf]; omega
              · obtain rfl : i = j := by omega
                have di : decide ((i : Int) < i) = false := decide_eq_false (by omega)
                have hE := Lib.hid (scan_end hlen.out hC.out)
                have hms := Lib.hid (flag_less hC.out)
                have hsum1 := Lib.hid (blkSum_own hO)
                go_wp2_with fail
                go_roundw
                case rel => exact ⟨b, gl2, rfl, hO, hE, hb⟩
                case measure => rw [hsum1.out, hsum0.out]; exact hms.out
          | false =>
            have hE := Lib.hid (hS.out.2 rfl)
            obtain ⟨we, rfl⟩ : ∃ we : World, we = wr := ⟨_, rfl⟩
            clear hsum0 hS
            have hsz0 := hb.size
            go_wp2_with fail
            go_loopw [11, 12] (fun v t wr => ∃ (E : Option Addr) (m s i : Nat), v = .slice E m s ∧ t = .int .i64 i ∧ i ≤ j ∧ m ≤ i ∧ OwnX ekC 23 we.heap.size wr E m s (prtsN l d i) ∧ Below we.heap.size we wr) (fun _ t _ => j - (intOf t).toNat)
            case atStart => exact ⟨none, 0, 0, 0, rfl, rfl, by omega, by omega, OwnX.nil_, Below.refl _ _⟩
            case round =>
              obtain ⟨E, m, s, i, rfl, rfl, hi, hm, hX, hbe⟩ := hrel
              by_cases hli : i < j
              · have di : decide ((i : Int) < j) = true := decide_eq_true (by omega)
                obtain ⟨wo, rfl⟩ : ∃ wo : World, wo = wr := ⟨_, rfl⟩
                have hsze := hbe.size
                go_wp2
                go_loopw [13, 14] (fun v t wr => ∃ (P : Option Addr) (q u k : Nat), v = .slice P q u ∧ t = .int .i64 k ∧ k ≤ j ∧ q ≤ k ∧ Own encC 3 39 wo.heap.size wr P q u (selN l (fun k => gpI l d k == i) k) ∧ Below wo.heap.size wo wr) (fun _ t _ => j - (intOf t).toNat)
                case atStart => exact ⟨none, 0, 0, 0, rfl, rfl, by omega, by omega, Own.nil_, Below.refl _ _⟩
                case round =>
                  obtain ⟨P, q, u, k, rfl, rfl, hk, hq, hP, hbo⟩ := hrel
                  have hbq : Below we.heap.size we wr := by (repeat' (first | exact Below.refl _ _ | assumption | (refine Below.alloc ?_ ?_ _) | (refine Below.setCell ?_ ?_ _) | (refine Below.drew ?_) | (refine below_drewN ?_ _) | (refine below_after (Ext.below _) ?_ ?_) | (refine below_after (by assumption) ?_ ?_) | (simp; done) | omega | (simp; omega)))
                  have hbw : Below w.heap.size w wr := by (repeat' (first | exact Below.refl _ _ | assumption | (refine Below.alloc ?_ ?_ _) | (refine Below.setCell ?_ ?_ _) | (refine Below.drew ?_) | (refine below_drewN ?_ _) | (refine below_after (Ext.below _) ?_ ?_) | (refine below_after (by assumption) ?_ ?_) | (simp; done) | omega | (simp; omega)))
                  have hOq := hO.of hbq
                  have hXq := hX.of hbo
                  obtain ⟨hc, hf⟩ := bcell hbw
                  have hs := hbw.size
                  have hsq := hbq.size
                  have hso := hbo.size
                  by_cases hlk : k < j
                  · have dk : decide ((k : Int) < j) = true := decide_eq_true (by omega)
                    obtain ⟨x', y', s', bo, o, hx, rfl, hbl, f1, f2, f3⟩ := hR.cell hlk
                    obtain ⟨vk, hvk, g0, g3, g4, g7, g8⟩ := hOq.intCell hlk
                    have HT := Lib.hid (sel_if (i := i) (n := j) (hE.out k vk hvk.out) hx.out)
                    cases hv : (vk == (i : Int)) with
                    | true =>
                      have HT' := Lib.hid (show selN l (fun k => gpI l d k == i) (k + 1) = selN l (fun k => gpI l d k == i) k ++ [(x', y', s')] by rw [HT.out, hv]; rfl)
                      clear HT
                      go_wp2_with (first | (at_builtin; refine wpList_append_el rfl (.tmp 99) (.tmp 104) 23 rfl encC 3 39 (.agg #[.int .i64 0, .int .i64 0, .int .i64 0]) 24 Try.underlying23 (by kernel_rfl) rfl (by decide) encC_len encC_one (wo.heap.size) _ _ _ _ rfl (hP.alloc _) (x', y', s') ⟨(wr).heap.size, 0, none⟩ 1 rfl (cells_new (wr) _ _) (by omega) (by omega) (by first | omega | (simp; done) | (simp; omega)) ?_; intro A6 c6 w6 hown6 hg6 hb6; obtain ⟨hc6, hf6⟩ := bcell hb6; have hs6 := hb6.size; (try simp only [World.size_alloc, World.size_setCell, World.size_drew] at hc6 hf6); (try simp at hs6)))
                      go_roundw
                      case rel => exact ⟨A6, q + 1, c6, k + 1, rfl, by go_num, by omega, by omega, by rw [HT'.out]; exact hown6, by (repeat' (first | exact Below.refl _ _ | assumption | (refine Below.alloc ?_ ?_ _) | (refine Below.setCell ?_ ?_ _) | (refine Below.drew ?_) | (refine below_drewN ?_ _) | (refine below_after (Ext.below _) ?_ ?_) | (refine below_after (by assumption) ?_ ?_) | (simp; done) | omega | (simp; omega)))⟩
                      case measure => simp [intOf]; omega
                    | false =>
                      have HT' := Lib.hid (show selN l (fun k => gpI l d k == i) (k + 1) = selN l (fun k => gpI l d k == i) k by rw [HT.out, hv]; simp)
                      clear HT
                      go_wp2_with fail
                      go_roundw
                      case rel => exact ⟨P, q, u, k + 1, rfl, by go_num, by omega, by omega, by rw [HT'.out]; exact hP, hbo⟩
                      case measure => simp [intOf]; omega
                  · obtain rfl : k = j := by omega
                    have dk : decide ((k : Int) < k) = false := decide_eq_false (by omega)
                    have hpl := Lib.hid (show prt l d i = selN l (fun k => gpI l d k == i) k by unfold prt; rw [hlen.out])
                    have HN := Lib.hid (prts_next (l := l) (d := d) (by rw [hlen.out]; exact hli) (show (prt l d i).length = q by rw [hpl.out]; exact hP.len))
                    have hcap := own_cap hP
                    by_cases hq0 : 0 < q
                    · have dq : decide (0 < (q : Int)) = true := decide_eq_true (by omega)
                      have HN' := Lib.hid (show prtsN l d (i + 1) = prtsN l d i ++ [selN l (fun k => gpI l d k == i) k] by rw [HN.out, if_pos hq0, hpl.out])
                      clear HN hpl
                      go_wp2_with (first | (at_builtin; refine wpList_append_x (K := ekC) rfl (.tmp 109) (.tmp 111) 25 rfl 23 (.slice none 0 0) 24 Try.underlying25 (by kernel_rfl) rfl (we.heap.size) _ _ _ _ rfl (hXq.alloc _) (P, q, u) _ (⟨((hP.rd encC_len).of (by (repeat' (first | exact Below.refl _ _ | assumption | (refine Below.alloc ?_ ?_ _) | (refine Below.setCell ?_ ?_ _) | (refine Below.drew ?_) | (refine below_drewN ?_ _) | (refine below_after (Ext.below _) ?_ ?_) | (refine below_after (by assumption) ?_ ?_) | (simp; done) | omega | (simp; omega))))), hcap⟩) (hP.off (fun q' hq' => hX.lt q' hq')) ⟨(wr).heap.size, 0, none⟩ 1 rfl (cells_new (wr) (encH (P, q, u)) 23) (by omega) (by omega) (by first | omega | (simp; done) | (simp; omega)) ?_; intro A6 c6 w6 hown6 hg6 hb6; obtain ⟨hc6, hf6⟩ := bcell hb6; have hs6 := hb6.size; (try simp only [World.size_alloc, World.size_setCell, World.size_drew] at hc6 hf6); (try simp at hs6)))
                      go_roundw
                      case rel => exact ⟨A6, m + 1, c6, i + 1, rfl, by go_num, by omega, by omega, by rw [HN'.out]; exact hown6, by (repeat' (first | exact Below.refl _ _ | assumption | (refine Below.alloc ?_ ?_ _) | (refine Below.setCell ?_ ?_ _) | (refine Below.drew ?_) | (refine below_drewN ?_ _) | (refine below_after (Ext.below _) ?_ ?_) | (refine below_after (by assumption) ?_ ?_) | (simp; done) | omega | (simp; omega)))⟩
                      case measure => simp [intOf]; omega
                    · have dq : decide (0 < (q : Int)) = false := decide_eq_false (by omega)
                      have HN' := Lib.hid (show prtsN l d (i + 1) = prtsN l d i by rw [HN.out, if_neg hq0]; simp)
                      clear HN hpl
                      go_wp2_with fail
                      go_roundw
                      case rel => exact ⟨E, m, s, i + 1, rfl, by go_num, by omega, by omega, by rw [HN'.out]; exact hXq, hbq⟩
                      case measure => simp [intOf]; omega
              · obtain rfl : i = j := by omega
                have di : decide ((i : Int) < i) = false := decide_eq_false (by omega)
                go_wp2_with fail
                go_ret2
                exact ⟨E, m, s, ret_pe HE.out.1.symm, by rw [HE.out.2, hlen.out]; exact hX.rd, by omega, by (repeat' (first | exact Below.refl _ _ | assumption | (refine Below.alloc ?_ ?_ _) | (refine Below.setCell ?_ ?_ _) | (refine Below.drew ?_) | (refine below_drewN ?_ _) | (refine below_after (Ext.below _) ?_ ?_) | (refine below_after (by assumption) ?_ ?_) | (simp; done) | omega | (simp; omega)))⟩
end Go.Proofs.Ytenckggfgbkfnaa
