/- The contract of Tile's reference, at numbers that are right. -/
import Derived.Test.YtenckggfgbkfnaaDoorTil2
namespace Go.Proofs.YtenckggfgbkfnaaDoor
open Go Go.RowKit
set_option linter.unusedSimpArgs false
set_option linter.unusedVariables false
set_option maxRecDepth 100000
attribute [local go_sem ↓ high] eq_cl neq_cl eq_pt neq_pt
set_option maxHeartbeats 8000000 in
theorem ref06_Tile (A : Option Addr) (n c : Nat) (l : List (Int × Int × Int)) (dx dy nx ny : Int) (w : World) (hR : Rd encC 3 w A n l) (hn : n ≤ 1000000) :
    Calls Tryd.prog 22 #[.slice A n c, .int .i64 dx, .int .i64 dy, .int .i64 nx, .int .i64 ny] w fun e w' => ∃ A2 n2 c2, e = .returned (.tuple #[.slice A2 n2 c2, .int .i64 (tlE l dx dy nx ny)]) ∧ Rd encC 3 w' A2 n2 (tlL l dx dy nx ny) ∧ n2 ≤ 5000 ∧ Below w.heap.size w w' := by
  by_cases hok : rightC l = true ∧ tlNum dx dy nx ny = true
  case neg => exact ref06_Tile_no A n c l dx dy nx ny w hR hn hok
  case pos =>
    obtain ⟨hr, ht⟩ := hok
    have hn5 : n ≤ 5000 := by rw [← hR.len]; exact (rightC_ok hr).1
    have kR := fun w1 (h : Rd encC 3 w1 A n l) => ref05_RightV (A := A) (n := n) (c := c) hr w1 h (by omega)
    have HL0 : True := trivial
    clear HL0
    have hb0 := ht
    unfold tlNum at hb0
    simp only [decide_eq_true_eq] at hb0
    obtain ⟨b1, b2, b3, b4, b5, b6, b7, b8⟩ := hb0
    obtain ⟨NX, rfl⟩ := Int.eq_ofNat_of_zero_le b5
    obtain ⟨NY, rfl⟩ := Int.eq_ofNat_of_zero_le b7
    have kX := ref06_near dx true (Lib.hid (decide_eq_true (by omega)))
    have kY := ref06_near dy true (Lib.hid (decide_eq_true (by omega)))
    have d1 : decide ((NX : Int) < 0) = false := decide_eq_false (by omega)
    have d2 : decide (50 < (NX : Int)) = false := decide_eq_false (by omega)
    have d3 : decide ((NY : Int) < 0) = false := decide_eq_false (by omega)
    have d4 : decide (50 < (NY : Int)) = false := decide_eq_false (by omega)
    have HR := Lib.hid hr
    have HT := Lib.hid ht
    have hel := Lib.hid (okCells_right hr)
    have hNX : NX ≤ 50 := by omega
    have hNY : NY ≤ 50 := by omega
    have HX := Lib.hid (fun (i : Nat) (hi : i ≤ 50) => mul_far hi b1 b2)
    have HY := Lib.hid (fun (i : Nat) (hi : i ≤ 50) => mul_far hi b3 b4)
    obtain ⟨M, hM⟩ : ∃ M, M = NX * NY := ⟨_, rfl⟩
    have hM2 : M ≤ 2500 := by rw [hM]; exact Nat.mul_le_mul hNX hNY
    have eM1 : IntKind.i64.wrap ((NX : Int) * (NY : Int)) = (M : Int) := by rw [← Int.natCast_mul, ← hM]; exact IntWalk.i64_in _ (by omega)
    have eM2 : wrap64 ((NX : Int) * (NY : Int)) = (M : Int) := by rw [← Int.natCast_mul, ← hM]; unfold wrap64; omega
    replace hM := Lib.hid hM
    clear hr ht b1 b2 b3 b4 b5 b6 b7 b8
    go_enter Tryd.func22, Tryd.ntmps22
    go_wp2_with fail; go_at_call 23; refine (kR _ hR).mono ?_; rintro e w1 ⟨rfl, hb1⟩; have hs1 := hb1.size; (try simp only [World.size_alloc, World.size_drew, World.size_setCell] at hs1)
    clear kR
    go_wp2_with (first | (go_at_call 49; refine (kX _).mono ?_; rintro e w' ⟨rfl, rfl⟩) | (go_at_call 49; refine (kY _).mono ?_; rintro e w' ⟨rfl, rfl⟩))
    clear d1 d2 d3 d4 kX kY
    go_loopw [12] (fun v wr => ∃ (k : Nat), v = .int .i64 k ∧ k ≤ M ∧ Hid (∀ i, i < k → tlGood l dx dy NX i = true) ∧ Below w.heap.size w wr) (fun v _ => M - (intOf v).toNat)
    case atStart => exact ⟨0, rfl, by omega, Lib.hid (fun k hk => absurd hk (by omega)), by (repeat' (first | exact Below.refl _ _ | assumption | (refine Below.alloc ?_ ?_ _) | (refine Below.setCell ?_ ?_ _) | (refine Below.drew ?_) | (refine below_drewN ?_ _) | (refine below_after (Ext.below _) ?_ ?_) | (refine below_after (by assumption) ?_ ?_) | (simp; done) | omega | (simp; omega)))⟩
    case round =>
      clear hb1 hs1
      obtain ⟨k, rfl, hk, hG, hb⟩ := hrel
      by_cases hlt : k < M
      · have dk : decide ((k : Int) < M) = true := decide_eq_true (by omega)
        have hcd := copy_div (nx := NX) (ny := NY) (k := k) (by rw [← hM.out]; exact hlt)
        obtain ⟨KM, hKM⟩ : ∃ r, r = k % NX := ⟨_, rfl⟩
        obtain ⟨KD, hKD⟩ : ∃ r, r = k / NX := ⟨_, rfl⟩
        have t1 : (k : Int).tmod (NX : Int) = (KM : Int) := by rw [hKM]; rfl
        have t2 : (k : Int).tdiv (NX : Int) = (KD : Int) := by rw [hKD]; rfl
        rw [← hKM, ← hKD] at hcd
        have hKM50 : KM ≤ 50 := Nat.le_trans (Nat.le_of_lt hcd.1) hNX
        have hKD50 : KD ≤ 50 := Nat.le_trans (Nat.le_of_lt hcd.2) hNY
        have hNX0 : 0 < NX := Nat.lt_of_le_of_lt (Nat.zero_le _) hcd.1
        clear hcd
        replace hKM := Lib.hid hKM
        replace hKD := Lib.hid hKD
        have e0 : IntKind.i64.wrap (KD : Int) = (KD : Int) := IntWalk.i64_in _ (by omega)
        have e00 : wrap64 (KD : Int) = (KD : Int) := by unfold wrap64; omega
        have hw0 : ((NX : Int) == 0) = false := by simp; omega
        have hw1 : (NX : Int) ≠ 0 := by omega
        have hw2 : NX ≠ 0 := by omega
        have hw3 : decide (NX = 0) = false := decide_eq_false hw2
        go_wp2
        go_loopw [13] (fun v wq => ∃ (q : Nat), v = .int .i64 q ∧ q ≤ n ∧ Hid (plK l dx dy NX k q) ∧ Below w.heap.size w wq) (fun v _ => n - (intOf v).toNat)
        case atStart => exact ⟨0, rfl, by omega, Lib.hid rfl, hb⟩
        case round =>
          clear hb
          obtain ⟨q, rfl, hq, hP, hb⟩ := hrel
          obtain ⟨hc, hf⟩ := bcell hb
          have hs := hb.size
          by_cases hlq : q < n
          · have dq : decide ((q : Int) < n) = true := decide_eq_true (by omega)
            obtain ⟨x', y', s', bo, o, hx, rfl, hbl, g1, g2, g3⟩ := hR.cell hlq
            have hce := cpy_get (dx := dx) (dy := dy) (nx := NX) (k := k) hx.out
            rw [← hKM.out, ← hKD.out] at hce
            replace hce := Lib.hid hce
            have hpt := (hel.out _ (List.mem_of_getElem? hx.out)).1
            unfold Pt at hpt
            simp only at hpt
            have m1 := HX.out KM hKM50
            have m2 := HY.out KD hKD50
            have ex1 : IntKind.i64.wrap ((KM : Int) * dx) = (KM : Int) * dx := IntWalk.i64_in _ (by omega)
            have ey1 : IntKind.i64.wrap ((KD : Int) * dy) = (KD : Int) * dy := IntWalk.i64_in _ (by omega)
            obtain ⟨u1, hu1⟩ : ∃ u1, u1 = x' + (KM : Int) * dx := ⟨_, rfl⟩
            obtain ⟨u2, hu2⟩ : ∃ u2, u2 = y' + (KD : Int) * dy := ⟨_, rfl⟩
            have ex2 : IntKind.i64.wrap (x' + (KM : Int) * dx) = u1 := (IntWalk.i64_in _ (by omega)).trans hu1.symm
            have ey2 : IntKind.i64.wrap (y' + (KD : Int) * dy) = u2 := (IntWalk.i64_in _ (by omega)).trans hu2.symm
            have ex3 : wrap64 (x' + (KM : Int) * dx) = u1 := by unfold wrap64; omega
            have ey3 : wrap64 (y' + (KD : Int) * dy) = u2 := by unfold wrap64; omega
            replace hce := Lib.hid (show (cpy l dx dy NX k)[q]? = some (u1, u2, s') by rw [hu1, hu2]; exact hce.out)
            clear hpt m1 m2 hu1 hu2
            have i0 : (0 : Int) ≤ q := by omega
            have i1 : (q : Int) < n := by omega
            cases hv : validB u1 u2 with
            | false =>
              have HE := Lib.hid (tl_out HR.out HT.out (tlIn_bad (by rw [← hM.out]; exact hlt) (plK_bad hce.out hv)))
              have hways := tile_no2 hv
              clear hv
              rcases hways with d1 | ⟨d1, d2⟩
              · have kU := ref06_near u1 _ (Lib.hid d1)
                clear d1
                go_wp2_with fail
                (refine wp_region_ext_lit (by kernel_rfl) (by kernel_rfl) ?_; (repeat (go_big_quiet_step ((go_at_call 49; exact calls_ext_same (kU _))))); refine wpQuiet_nil ?_; intro _ hw'; obtain ⟨z5, hw''⟩ := hw'; subst hw''; have hs5 := z5.size; obtain ⟨hc5, hf5⟩ := bcell z5.below; (try simp only [World.size_alloc, World.size_setCell, World.size_drew] at hc5 hf5); (try simp at hs5))
                go_wp2_with fail
                go_ret2
                exact ⟨none, 0, 0, ret_pe HE.out.1.symm, by rw [HE.out.2]; exact Rd.nil_, by omega, by (repeat' (first | exact Below.refl _ _ | assumption | (refine Below.alloc ?_ ?_ _) | (refine Below.setCell ?_ ?_ _) | (refine Below.drew ?_) | (refine below_drewN ?_ _) | (refine below_after (Ext.below _) ?_ ?_) | (refine below_after (by assumption) ?_ ?_) | (simp; done) | omega | (simp; omega)))⟩
              · have kU := ref06_near u1 _ (Lib.hid d1)
                have kV := ref06_near u2 _ (Lib.hid d2)
                clear d1 d2
                go_wp2_with fail
                (refine wp_region_ext_lit (by kernel_rfl) (by kernel_rfl) ?_; (repeat (go_big_quiet_step (first | (go_at_call 49; exact calls_ext_same (kU _)) | (go_at_call 49; exact calls_ext_same (kV _))))); refine wpQuiet_nil ?_; intro _ hw'; obtain ⟨z5, hw''⟩ := hw'; subst hw''; have hs5 := z5.size; obtain ⟨hc5, hf5⟩ := bcell z5.below; (try simp only [World.size_alloc, World.size_setCell, World.size_drew] at hc5 hf5); (try simp at hs5))
                go_wp2_with fail
                go_ret2
                exact ⟨none, 0, 0, ret_pe HE.out.1.symm, by rw [HE.out.2]; exact Rd.nil_, by omega, by (repeat' (first | exact Below.refl _ _ | assumption | (refine Below.alloc ?_ ?_ _) | (refine Below.setCell ?_ ?_ _) | (refine Below.drew ?_) | (refine below_drewN ?_ _) | (refine below_after (Ext.below _) ?_ ?_) | (refine below_after (by assumption) ?_ ?_) | (simp; done) | omega | (simp; omega)))⟩
            | true =>
              have hP' := Lib.hid (plK_step hP.out hce.out hv)
              obtain ⟨d1, d2⟩ := tile_yes2 hv
              have kU := ref06_near u1 _ (Lib.hid d1)
              have kV := ref06_near u2 _ (Lib.hid d2)
              clear hv d1 d2
              go_wp2_with fail
              (refine wp_region_ext_lit (by kernel_rfl) (by kernel_rfl) ?_; (repeat (go_big_quiet_step (first | (go_at_call 49; exact calls_ext_same (kU _)) | (go_at_call 49; exact calls_ext_same (kV _))))); refine wpQuiet_nil ?_; intro _ hw'; obtain ⟨z5, hw''⟩ := hw'; subst hw''; have hs5 := z5.size; obtain ⟨hc5, hf5⟩ := bcell z5.below; (try simp only [World.size_alloc, World.size_setCell, World.size_drew] at hc5 hf5); (try simp at hs5))
              go_wp2_with fail
              go_roundw
              case rel => exact ⟨q + 1, by go_num, by omega, hP', by (repeat' (first | exact Below.refl _ _ | assumption | (refine Below.alloc ?_ ?_ _) | (refine Below.setCell ?_ ?_ _) | (refine Below.drew ?_) | (refine below_drewN ?_ _) | (refine below_after (Ext.below _) ?_ ?_) | (refine below_after (by assumption) ?_ ?_) | (simp; done) | omega | (simp; omega)))⟩
              case measure => simp [intOf]; omega
          · obtain rfl : q = n := by omega
            have dq : decide ((q : Int) < q) = false := decide_eq_false (by omega)
            have hg1 := Lib.hid (plK_end (by rw [hR.len]; exact Nat.le_refl _) hP.out)
            go_wp2_with fail
            go_roundw
            case rel => exact ⟨k + 1, by go_num, by omega, Lib.hid (fun i hi => by
              rcases Nat.lt_or_ge i k with h | h
              · exact hG.out i h
              · obtain rfl : i = k := by omega
                exact hg1.out), by (repeat' (first | exact Below.refl _ _ | assumption | (refine Below.alloc ?_ ?_ _) | (refine Below.setCell ?_ ?_ _) | (refine Below.drew ?_) | (refine below_drewN ?_ _) | (refine below_after (Ext.below _) ?_ ?_) | (refine below_after (by assumption) ?_ ?_) | (simp; done) | omega | (simp; omega)))⟩
            case measure => simp [intOf]; omega
      · obtain rfl : M = k := by omega
        have dk : decide ((M : Int) < M) = false := decide_eq_false (by omega)
        have HI := Lib.hid (show tlIn l dx dy NX NY = true from tlIn_of fun k hk => hG.out k (by rw [hM.out]; exact hk))
        clear hk hlt
        go_wp2_with fail
        go_loopw [14, 15] (fun v t wr => ∃ (A' : Option Addr) (n' c' k : Nat), v = .slice A' n' c' ∧ t = .int .i64 k ∧ k ≤ M ∧ (tlU l dx dy NX k).length ≤ 5000 ∧ Rd encC 3 wr A' n' (srtC (tlU l dx dy NX k)) ∧ Below w.heap.size w wr) (fun _ t _ => M - (intOf t).toNat)
        case atStart => exact ⟨none, 0, 0, 0, rfl, rfl, by omega, by simp [tlU], Rd.nil_, hb⟩
        case round =>
          clear hb dk
          obtain ⟨A', n', c', k, rfl, rfl, hk, hU5, hO, hb⟩ := hrel
          have hn' : n' ≤ 5000 := by rw [← hO.len, (srtC_perm _).length_eq]; exact hU5
          replace hU5 := Lib.hid hU5
          by_cases hlt : k < M
          · have dk : decide ((k : Int) < M) = true := decide_eq_true (by omega)
            have hcd := copy_div (nx := NX) (ny := NY) (k := k) (by rw [← hM.out]; exact hlt)
            obtain ⟨KM, hKM⟩ : ∃ r, r = k % NX := ⟨_, rfl⟩
            obtain ⟨KD, hKD⟩ : ∃ r, r = k / NX := ⟨_, rfl⟩
            have t1 : (k : Int).tmod (NX : Int) = (KM : Int) := by rw [hKM]; rfl
            have t2 : (k : Int).tdiv (NX : Int) = (KD : Int) := by rw [hKD]; rfl
            rw [← hKM, ← hKD] at hcd
            have hKM50 : KM ≤ 50 := Nat.le_trans (Nat.le_of_lt hcd.1) hNX
            have hKD50 : KD ≤ 50 := Nat.le_trans (Nat.le_of_lt hcd.2) hNY
            have hNX0 : 0 < NX := Nat.lt_of_le_of_lt (Nat.zero_le _) hcd.1
            clear hcd
            replace hKM := Lib.hid hKM
            replace hKD := Lib.hid hKD
            have e0 : IntKind.i64.wrap (KD : Int) = (KD : Int) := IntWalk.i64_in _ (by omega)
            have e00 : wrap64 (KD : Int) = (KD : Int) := by unfold wrap64; omega
            have hw0 : ((NX : Int) == 0) = false := by simp; omega
            have hw1 : (NX : Int) ≠ 0 := by omega
            have hw2 : NX ≠ 0 := by omega
            have hw3 : decide (NX = 0) = false := decide_eq_false hw2
            have hG2 := Lib.hid (show ∀ i, i < k + 1 → tlGood l dx dy NX i = true from fun i hi => hG.out i (by omega))
            obtain ⟨we, rfl⟩ : ∃ we : World, we = wr := ⟨_, rfl⟩
            have hB := hb
            have hS := hb.size
            have hRw := hR.of hb
            clear hb
            go_wp2
            go_loopw [16, 17] (fun v t wq => ∃ (E : Option Addr) (d q : Nat), v = .slice E q d ∧ t = .int .i64 q ∧ q ≤ n ∧ Own encC 3 54 we.heap.size wq E q d ((cpy l dx dy NX k).take q) ∧ Below we.heap.size we wq) (fun _ t _ => n - (intOf t).toNat)
            case atStart => exact ⟨none, 0, 0, rfl, rfl, by omega, Own.nil_, Below.refl _ _⟩
            case round =>
              obtain ⟨E, d, q, rfl, rfl, hq, hown, hb⟩ := hrel
              obtain ⟨hc, hf⟩ := bcell hb
              have hs := hb.size
              by_cases hlq : q < n
              · have dq : decide ((q : Int) < n) = true := decide_eq_true (by omega)
                obtain ⟨x', y', s', bo, o, hx, rfl, hbl, g1, g2, g3⟩ := hRw.cell hlq
                have hce := cpy_get (dx := dx) (dy := dy) (nx := NX) (k := k) hx.out
                rw [← hKM.out, ← hKD.out] at hce
                have hpt := (hel.out _ (List.mem_of_getElem? hx.out)).1
                unfold Pt at hpt
                simp only at hpt
                have m1 := HX.out KM hKM50
                have m2 := HY.out KD hKD50
                have ex1 : IntKind.i64.wrap ((KM : Int) * dx) = (KM : Int) * dx := IntWalk.i64_in _ (by omega)
                have ey1 : IntKind.i64.wrap ((KD : Int) * dy) = (KD : Int) * dy := IntWalk.i64_in _ (by omega)
                obtain ⟨u1, hu1⟩ : ∃ u1, u1 = x' + (KM : Int) * dx := ⟨_, rfl⟩
                obtain ⟨u2, hu2⟩ : ∃ u2, u2 = y' + (KD : Int) * dy := ⟨_, rfl⟩
                have ex2 : IntKind.i64.wrap (x' + (KM : Int) * dx) = u1 := (IntWalk.i64_in _ (by omega)).trans hu1.symm
                have ey2 : IntKind.i64.wrap (y' + (KD : Int) * dy) = u2 := (IntWalk.i64_in _ (by omega)).trans hu2.symm
                have ex3 : wrap64 (x' + (KM : Int) * dx) = u1 := by unfold wrap64; omega
                have ey3 : wrap64 (y' + (KD : Int) * dy) = u2 := by unfold wrap64; omega
                have hst := Lib.hid (show (cpy l dx dy NX k).take (q + 1) = (cpy l dx dy NX k).take q ++ [(u1, u2, s')] by rw [List.take_add_one, hce, hu1, hu2]; rfl)
                clear hce hpt m1 m2 hu1 hu2
                have i0 : (0 : Int) ≤ q := by omega
                have i1 : (q : Int) < n := by omega
                have q1 : wr.cell? ⟨bo, o + q * 3, none⟩ = some (.int .i64 x') := by rw [hb.cell (p := ⟨_, _, none⟩) hbl]; exact g1
                have q2 : wr.cell? ⟨bo, o + q * 3 + 1, none⟩ = some (.int .i64 y') := by rw [hb.cell (p := ⟨_, _, none⟩) hbl]; exact g2
                have q3 : wr.cell? ⟨bo, o + q * 3 + 2, none⟩ = some (.int .i64 s') := by rw [hb.cell (p := ⟨_, _, none⟩) hbl]; exact g3
                clear hc hf g1 g2 g3
                go_wp2_with fail
                (go_region_held3 (fun w' => w'.cell? ⟨bo, o + q * 3, none⟩ = some (.int .i64 x') ∧ w'.cell? ⟨bo, o + q * 3 + 1, none⟩ = some (.int .i64 y') ∧ w'.cell? ⟨bo, o + q * 3 + 2, none⟩ = some (.int .i64 s')) (first | go_keep | (go_split_ands; refine ⟨?_, ?_, ?_⟩ <;> first | go_keep | (rw [hb4.cell (p := ⟨_, _, none⟩) (by first | omega | (simp; done) | (simp; omega))]; go_keep))) ((refine step_append_el (by rfl) (.tmp 103) (.tmp 132) 23 (by rfl) encC 3 54 (.agg #[.int .i64 0, .int .i64 0, .int .i64 0]) 24 Tryd.underlying23 (by kernel_rfl) rfl (by decide) encC_len encC_one (we.heap.size) _ _ _ _ (by rfl) (hown.drew.alloc _) (u1, u2, s') ⟨(wr.drew).heap.size, 0, none⟩ 1 (by rfl) (cells_new (wr.drew) _ _) (by omega) (by omega) (by first | omega | (simp; done) | (simp; omega)) ?_; intro A4 c4 w4 hown4 hg4 hb4)))
                go_wp2
                go_roundw
                case rel => exact ⟨A4, c4, q + 1, rfl, by go_num, by omega, by rw [hst.out]; exact hown4, below_after hb4 (bl_of_drew_alloc hb _) (by have := hb.size; first | omega | (simp; done) | (simp; omega))⟩
                case measure => simp [intOf]; omega
              · obtain rfl : q = n := by omega
                have dq : decide ((q : Int) < q) = false := decide_eq_false (by omega)
                rw [List.take_of_length_le (by rw [cpy_len, hR.len]; exact Nat.le_refl _)] at hown
                have hS2 := hown.rd encC_len
                have hO2 := hO.of hb
                have kO := fun w1 (h1 : Rd encC 3 w1 A' n' (srtC (tlU l dx dy NX k))) (h2 : Rd encC 3 w1 E q (cpy l dx dy NX k)) => ref06_Over A' E n' q c' d (srtC (tlU l dx dy NX k)) (cpy l dx dy NX k) w1 h1 h2 (by omega)
                have hrf := tl_ref HR.out hG2.out hU5.out
                have hB2 : Below w.heap.size w wr := below_after hb hB hS
                clear hc hf hown
                by_cases h5 : 5000 < (tlU l dx dy NX (k + 1)).length
                · have he := hrf.1 h5
                  rw [he] at kO
                  have HE := Lib.hid (tl_size HR.out HT.out HI.out (Nat.lt_of_lt_of_le h5 (tlU_mono (by rw [← hM.out]; exact hlt))))
                  clear hrf he h5
                  go_wp2_with fail; go_at_call 13; refine (kO _ hO2 hS2).mono ?_; rintro e w9 ⟨A9, n9, c9, rfl, hR9, hn9, hb9⟩; have hs9 := hb9.size; (try simp only [World.size_alloc, World.size_drew, World.size_setCell] at hs9)
                  go_wp2_with fail
                  go_ret2
                  exact ⟨none, 0, 0, ret_pe HE.out.1.symm, by rw [HE.out.2]; exact Rd.nil_, by omega, below_after hb9 hB2 hB2.size⟩
                · obtain ⟨he, hl⟩ := hrf.2 (by omega)
                  rw [he, hl] at kO
                  have h5 := Lib.hid (show (tlU l dx dy NX (k + 1)).length ≤ 5000 by omega)
                  clear hrf he hl
                  go_wp2_with fail; go_at_call 13; refine (kO _ hO2 hS2).mono ?_; rintro e w9 ⟨A9, n9, c9, rfl, hR9, hn9, hb9⟩; have hs9 := hb9.size; (try simp only [World.size_alloc, World.size_drew, World.size_setCell] at hs9)
                  go_wp2_with fail
                  go_roundw
                  case rel => exact ⟨A9, n9, c9, k + 1, rfl, by go_num, by omega, h5.out, hR9, below_after hb9 hB2 hB2.size⟩
                  case measure => simp [intOf]; omega
          · obtain rfl : M = k := by omega
            have dk : decide ((M : Int) < M) = false := decide_eq_false (by omega)
            have hM' := hM.out
            subst hM'
            have HE := Lib.hid (tl_ok HR.out HT.out HI.out hU5.out)
            go_wp2_with fail
            go_ret2
            first | exact ⟨A', n', c', ret_pe HE.out.1.symm, by rw [HE.out.2]; exact hO, hn', hb⟩ | exact ⟨A', n', ⟨c', ret_pe HE.out.1.symm⟩, by rw [HE.out.2]; exact hO, hn', hb⟩
end Go.Proofs.YtenckggfgbkfnaaDoor
