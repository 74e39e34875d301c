/- The contract of algebra.Tile. -/
import Derived.Test.YtenckggfgbkfnaaDoorAlg4
import Derived.Test.YtenckggfgbkfnaaDoorPLN
import Derived.Test.YtenckggfgbkfnaaDoorMapP
namespace Go.Proofs.YtenckggfgbkfnaaDoor
open Go Go.RowKit
set_option linter.unusedSimpArgs false
set_option linter.unusedVariables false
set_option maxRecDepth 100000
attribute [local go_sem ↓ high] eq_cl neq_cl eq_pt neq_pt
theorem below_map {B b : Nat} {w0 w w' : World} (h : Below B w0 w) (hg : w.grownBy w' (some b)) (hw : B ≤ w.heap.size) (hB : B ≤ b) : Below B w0 w' :=
  h.grown hg hw fun g e => by injection e with e; omega
theorem Own.overMap {α : Type} {enc : α → List Value} {k : Nat} {e : TypeId} {B b n c : Nat} {w w' : World} {A : Option Addr} {l : List α} (h : Own enc k e B w A n c l) (hg : w.grownBy w' (some b)) (hb : b < B) : Own enc k e B w' A n c l := by
  refine ⟨⟨h.row.1, ?_⟩, h.len⟩
  rcases h.row.2 with h0 | ⟨g, cap, cur, hv, hge, hh, r⟩
  · exact .inl h0
  · exact .inr ⟨g, cap, cur, hv, hge, (hg.block g (Array.getElem?_eq_some_iff.1 hh).1 (fun e => by injection e with e; omega)).trans hh, r⟩
theorem tlNum_no {dx dy nx ny : Int} (h : tlNum dx dy nx ny = false) : (decide (1048576 < max dx dy) = true) ∨ (decide (1048576 < max dx dy) = false ∧ decide (min dx dy < -1048576) = true) ∨ (decide (1048576 < max dx dy) = false ∧ decide (min dx dy < -1048576) = false ∧ decide (min nx ny < 0) = true) ∨
    (decide (1048576 < max dx dy) = false ∧ decide (min dx dy < -1048576) = false ∧ decide (min nx ny < 0) = false ∧ decide (50 < max nx ny) = true) := by
  unfold tlNum at h; simp only [decide_eq_true_eq, decide_eq_false_iff_not] at *; omega
theorem cpy_at {l : List (Int × Int × Int)} {dx dy : Int} {nx i j m : Nat} {x y s : Int} (hi : i < nx) (h : l[m]? = some (x, y, s)) : (cpy l dx dy nx (j * nx + i))[m]? = some (x + (i : Int) * dx, y + (j : Int) * dy, s) := by
  have := cpy_get (dx := dx) (dy := dy) (nx := nx) (k := j * nx + i) h
  rw [(copy_at (j := j) hi).1, (copy_at (j := j) hi).2] at this
  exact this
theorem tile_no {x y : Int} (h : validB x y = false) : (decide (1048576 < max x y) = true) ∨ (decide (1048576 < max x y) = false ∧ decide (min x y < -1048576) = true) := by
  have h1 : ¬ Pt x y := fun hp => by rw [validB_iff.2 hp] at h; cases h
  unfold Pt at h1; simp only [decide_eq_true_eq, decide_eq_false_iff_not] at *; omega
theorem tile_yes {x y : Int} (h : validB x y = true) : decide (1048576 < max x y) = false ∧ decide (min x y < -1048576) = false := by
  have h1 := validB_iff.1 h
  unfold Pt at h1; simp only [decide_eq_false_iff_not]; omega
theorem boxes_over {w w6 : World} {a b : Array Value} {t t' : TypeId} {bm : Nat} (hg : ((w.alloc (.cells a t)).alloc (.cells b t')).grownBy w6 (some bm)) (hbm : bm < w.heap.size) : (∀ i, w6.cell? ⟨w.heap.size, i, none⟩ = a[i]?) ∧ (∀ i, w6.cell? ⟨w.heap.size + 1, i, none⟩ = b[i]?) ∧ w.heap.size + 2 ≤ w6.heap.size := by
  refine ⟨fun i => ?_, fun i => ?_, by have := hg.size; simp at this; omega⟩
  · refine (World.cell?_of_block (hg.block _ (by simp; omega) (fun e => by injection e with e; simp only at e; omega))).trans ?_
    rw [cell_alloc_if, if_pos (by simp), cell_alloc_if, if_neg (by omega), if_pos rfl]
  · refine (World.cell?_of_block (hg.block _ (by simp) (fun e => by injection e with e; simp only at e; omega))).trans ?_
    rw [cell_alloc_if, if_neg (by simp), if_pos (by simp)]
set_option maxHeartbeats 8000000 in
theorem alg_Tile (A : Option Addr) (n c : Nat) (l : List (Int × Int × Int)) (dx dy nx ny : Int) (w : World) (hR : Rd encC 3 w A n l) (hn : n ≤ 1000000) :
    Calls Tryd.prog 21 #[.slice A n c, .int .i64 dx, .int .i64 dy, .int .i64 nx, .int .i64 ny] w fun e w' => ∃ A2 n2 c2, e = .returned (.tuple #[.slice A2 n2 c2, .int .i64 (tlE l dx dy nx ny)]) ∧ Rd encC 3 w' A2 n2 (tlL l dx dy nx ny) ∧ n2 ≤ 5000 ∧ n2 ≤ c2 ∧ Below w.heap.size w w' := by
  cases hr : rightC l with
  | false =>
    have HE := Lib.hid (tl_bad (dx := dx) (dy := dy) (nx := nx) (ny := ny) (Or.inl hr))
    have kR := fun w1 (h : Rd encC 3 w1 A n l) => pat_RightV (A := A) (n := n) (c := c) hr w1 h (by omega)
    clear hr
    go_enter Tryd.func21, Tryd.ntmps21
    go_wp2_with fail; go_at_call 28; refine (kR _ hR).mono ?_; rintro e w1 ⟨rfl, hb1⟩; have hs1 := hb1.size; (try simp only [World.size_alloc, World.size_drew, World.size_setCell] at hs1)
    go_wp2_with fail
    go_ret2
    exact ⟨none, 0, 0, ret_pe HE.out.1.symm, by rw [HE.out.2]; exact Rd.nil_, by omega, by omega, by (repeat' (first | exact Below.refl _ _ | assumption | (refine Below.alloc ?_ ?_ _) | (refine Below.setCell ?_ ?_ _) | (refine Below.drew ?_) | (refine below_drewN ?_ _) | (refine below_after (Ext.below _) ?_ ?_) | (refine below_after (by assumption) ?_ ?_) | (simp; done) | omega | (simp; omega)))⟩
  | true =>
    have hn5 : n ≤ 5000 := by rw [← hR.len]; exact (rightC_ok hr).1
    have kR := fun w1 (h : Rd encC 3 w1 A n l) => pat_RightV (A := A) (n := n) (c := c) hr w1 h (by omega)
    cases ht : tlNum dx dy nx ny with
    | false =>
      have HE := Lib.hid (tl_bad (l := l) (Or.inr ht))
      have hways := tlNum_no ht
      clear hr ht
      rcases hways with d1 | ⟨d1, d2⟩ | ⟨d1, d2, d3⟩ | ⟨d1, d2, d3, d4⟩
      all_goals
        go_enter Tryd.func21, Tryd.ntmps21
        go_wp2_with fail; go_at_call 28; refine (kR _ hR).mono ?_; rintro e w1 ⟨rfl, hb1⟩; have hs1 := hb1.size; (try simp only [World.size_alloc, World.size_drew, World.size_setCell] at hs1)
        go_wp2_with fail
        go_ret2
        exact ⟨none, 0, 0, ret_pe HE.out.1.symm, by rw [HE.out.2]; exact Rd.nil_, by omega, by omega, by (repeat' (first | exact Below.refl _ _ | assumption | (refine Below.alloc ?_ ?_ _) | (refine Below.setCell ?_ ?_ _) | (refine Below.drew ?_) | (refine below_drewN ?_ _) | (refine below_after (Ext.below _) ?_ ?_) | (refine below_after (by assumption) ?_ ?_) | (simp; done) | omega | (simp; omega)))⟩
    | true =>
      have hb0 := ht
      unfold tlNum at hb0
      simp only [decide_eq_true_eq] at hb0
      obtain ⟨b1, b2, b3, b4, b5, b6, b7, b8⟩ := hb0
      obtain ⟨NX, rfl⟩ := Int.eq_ofNat_of_zero_le b5
      obtain ⟨NY, rfl⟩ := Int.eq_ofNat_of_zero_le b7
      have d1 : decide (1048576 < max dx dy) = false := decide_eq_false (by omega)
      have d2 : decide (min dx dy < -1048576) = false := decide_eq_false (by omega)
      have d3 : decide (min (NX : Int) (NY : Int) < 0) = false := decide_eq_false (by omega)
      have d4 : decide (50 < max (NX : Int) (NY : Int)) = false := decide_eq_false (by omega)
      have HR := Lib.hid hr
      have HT := Lib.hid ht
      have hel := Lib.hid (okCells_right hr)
      have hNX : NX ≤ 50 := by omega
      have hNY : NY ≤ 50 := by omega
      have HX := Lib.hid (fun (i : Nat) (hi : i ≤ 50) => mul_far hi b1 b2)
      have HY := Lib.hid (fun (i : Nat) (hi : i ≤ 50) => mul_far hi b3 b4)
      clear hr ht b1 b2 b3 b4 b5 b6 b7 b8
      go_enter Tryd.func21, Tryd.ntmps21
      go_wp2_with fail; go_at_call 28; refine (kR _ hR).mono ?_; rintro e w1 ⟨rfl, hb1⟩; have hs1 := hb1.size; (try simp only [World.size_alloc, World.size_drew, World.size_setCell] at hs1)
      clear kR
      go_wp2_with fail
      clear d1 d2 d3 d4
      go_loopw [55] (fun i wr => ∃ (j : Nat), i = .int .i64 j ∧ j ≤ NY ∧ Hid (∀ k, k < j * NX → tlGood l dx dy NX k = true) ∧ Below w.heap.size w wr) (fun i _ => NY - (intOf i).toNat)
      case atStart => exact ⟨0, rfl, by omega, Lib.hid (fun k hk => absurd hk (by omega)), by (repeat' (first | exact Below.refl _ _ | assumption | (refine Below.alloc ?_ ?_ _) | (refine Below.setCell ?_ ?_ _) | (refine Below.drew ?_) | (refine below_drewN ?_ _) | (refine below_after (Ext.below _) ?_ ?_) | (refine below_after (by assumption) ?_ ?_) | (simp; done) | omega | (simp; omega)))⟩
      case round =>
        clear hb1 hs1
        obtain ⟨j, rfl, hj, hG, hb⟩ := hrel
        by_cases hlt : j < NY
        · have dj : decide ((j : Int) < NY) = true := decide_eq_true (by omega)
          go_wp2
          go_loopw [59] (fun v wq => ∃ (i : Nat), v = .int .i64 i ∧ i ≤ NX ∧ Hid (∀ k, k < j * NX + i → tlGood l dx dy NX k = true) ∧ Below w.heap.size w wq) (fun v _ => NX - (intOf v).toNat)
          case atStart => exact ⟨0, rfl, by omega, hG, hb⟩
          case round =>
            clear hb hG
            obtain ⟨i, rfl, hi, hG, hb⟩ := hrel
            by_cases hli : i < NX
            · have di : decide ((i : Int) < NX) = true := decide_eq_true (by omega)
              go_wp2
              go_loopw [64] (fun v wq => ∃ (q : Nat), v = .int .i64 q ∧ q ≤ n ∧ Hid (plK l dx dy NX (j * NX + i) q) ∧ Below w.heap.size w wq) (fun v _ => n - (intOf v).toNat)
              case atStart => exact ⟨0, rfl, by omega, Lib.hid rfl, hb⟩
              case round =>
                clear hb
                obtain ⟨q, rfl, hq, hP, hb⟩ := hrel
                obtain ⟨hc, hf⟩ := bcell hb
                have hs := hb.size
                by_cases hlq : q < n
                · have dq : decide ((q : Int) < n) = true := decide_eq_true (by omega)
                  obtain ⟨x', y', s', bo, o, hx, rfl, hbl, g1, g2, g3⟩ := hR.cell hlq
                  have hce := Lib.hid (cpy_at (dx := dx) (dy := dy) (j := j) hli hx.out)
                  have hpt := (hel.out _ (List.mem_of_getElem? hx.out)).1
                  unfold Pt at hpt
                  simp only at hpt
                  have m1 := HX.out i (by omega)
                  have m2 := HY.out j (by omega)
                  have ex1 : IntKind.i64.wrap ((i : Int) * dx) = (i : Int) * dx := IntWalk.i64_in _ (by omega)
                  have ey1 : IntKind.i64.wrap ((j : Int) * dy) = (j : Int) * dy := IntWalk.i64_in _ (by omega)
                  have ex2 : IntKind.i64.wrap (x' + (i : Int) * dx) = x' + (i : Int) * dx := IntWalk.i64_in _ (by omega)
                  have ey2 : IntKind.i64.wrap (y' + (j : Int) * dy) = y' + (j : Int) * dy := IntWalk.i64_in _ (by omega)
                  clear hpt m1 m2
                  cases hv : validB (x' + (i : Int) * dx) (y' + (j : Int) * dy) with
                  | false =>
                    have HE := Lib.hid (tl_out HR.out HT.out (tlIn_bad (copy_lt hli hlt) (plK_bad hce.out hv)))
                    have hways := tile_no hv
                    clear hv
                    rcases hways with d1 | ⟨d1, d2⟩
                    all_goals
                      go_wp2_with fail
                      (refine wp_region_ext_lit (by kernel_rfl) (by kernel_rfl) ?_; (repeat (go_big_quiet_step (fail))); refine wpQuiet_nil ?_; intro _ hw'; obtain ⟨z5, hw''⟩ := hw'; subst hw''; have hs5 := z5.size; obtain ⟨hc5, hf5⟩ := bcell z5.below; (try simp only [World.size_alloc, World.size_setCell, World.size_drew] at hc5 hf5); (try simp at hs5))
                      go_wp2_with fail
                      go_ret2
                      exact ⟨none, 0, 0, ret_pe HE.out.1.symm, by rw [HE.out.2]; exact Rd.nil_, by omega, by omega, by (repeat' (first | exact Below.refl _ _ | assumption | (refine Below.alloc ?_ ?_ _) | (refine Below.setCell ?_ ?_ _) | (refine Below.drew ?_) | (refine below_drewN ?_ _) | (refine below_after (Ext.below _) ?_ ?_) | (refine below_after (by assumption) ?_ ?_) | (simp; done) | omega | (simp; omega)))⟩
                  | true =>
                    have hP' := Lib.hid (plK_step hP.out hce.out hv)
                    obtain ⟨d1, d2⟩ := tile_yes hv
                    clear hv
                    go_wp2_with fail
                    (refine wp_region_ext_lit (by kernel_rfl) (by kernel_rfl) ?_; (repeat (go_big_quiet_step (fail))); refine wpQuiet_nil ?_; intro _ hw'; obtain ⟨z5, hw''⟩ := hw'; subst hw''; have hs5 := z5.size; obtain ⟨hc5, hf5⟩ := bcell z5.below; (try simp only [World.size_alloc, World.size_setCell, World.size_drew] at hc5 hf5); (try simp at hs5))
                    go_wp2_with fail
                    go_roundw
                    case rel => exact ⟨q + 1, by go_num, by omega, hP', by (repeat' (first | exact Below.refl _ _ | assumption | (refine Below.alloc ?_ ?_ _) | (refine Below.setCell ?_ ?_ _) | (refine Below.drew ?_) | (refine below_drewN ?_ _) | (refine below_after (Ext.below _) ?_ ?_) | (refine below_after (by assumption) ?_ ?_) | (simp; done) | omega | (simp; omega)))⟩
                    case measure => simp [intOf]; omega
                · obtain rfl : q = n := by omega
                  have dq : decide ((q : Int) < q) = false := decide_eq_false (by omega)
                  have hg1 := Lib.hid (plK_end (by rw [hR.len]; exact Nat.le_refl _) hP.out)
                  go_wp2_with fail
                  go_roundw
                  case rel => exact ⟨i + 1, by go_num, by omega, Lib.hid (fun k hk => by
                    rcases Nat.lt_or_ge k (j * NX + i) with h | h
                    · exact hG.out k h
                    · obtain rfl : k = j * NX + i := by omega
                      exact hg1.out), by (repeat' (first | exact Below.refl _ _ | assumption | (refine Below.alloc ?_ ?_ _) | (refine Below.setCell ?_ ?_ _) | (refine Below.drew ?_) | (refine below_drewN ?_ _) | (refine below_after (Ext.below _) ?_ ?_) | (refine below_after (by assumption) ?_ ?_) | (simp; done) | omega | (simp; omega)))⟩
                  case measure => simp [intOf]; omega
            · obtain rfl : i = NX := by omega
              have di : decide ((i : Int) < i) = false := decide_eq_false (by omega)
              go_wp2_with fail
              go_roundw
              case rel => exact ⟨j + 1, by go_num, by omega, Lib.hid (fun k hk => hG.out k (by rw [Nat.add_mul, Nat.one_mul] at hk; exact hk)), by (repeat' (first | exact Below.refl _ _ | assumption | (refine Below.alloc ?_ ?_ _) | (refine Below.setCell ?_ ?_ _) | (refine Below.drew ?_) | (refine below_drewN ?_ _) | (refine below_after (Ext.below _) ?_ ?_) | (refine below_after (by assumption) ?_ ?_) | (simp; done) | omega | (simp; omega)))⟩
              case measure => simp [intOf]; omega
        · obtain rfl : NY = j := by omega
          have dj : decide ((NY : Int) < NY) = false := decide_eq_false (by omega)
          have HI := Lib.hid (show tlIn l dx dy NX NY = true from tlIn_of fun k hk => hG.out k (by rw [Nat.mul_comm]; exact hk))
          have hS0 := hb.size
          obtain ⟨we, rfl⟩ : ∃ we : World, we = wr := ⟨_, rfl⟩
          clear hG hj hlt
          go_wp2_with fail
          rw [run_makeMap]
          have hpm0 := PM.made we
          have hB0 : Below w.heap.size w (we.alloc (.map #[] 0)) := by (repeat' (first | exact Below.refl _ _ | assumption | (refine Below.alloc ?_ ?_ _) | (refine Below.setCell ?_ ?_ _) | (refine Below.drew ?_) | (refine below_drewN ?_ _) | (refine below_after (Ext.below _) ?_ ?_) | (refine below_after (by assumption) ?_ ?_) | (simp; done) | omega | (simp; omega)))
          clear hb
          go_wp2
          clear dj
          go_loopw [19, 95] (fun v t wr => ∃ (E : Option Addr) (m d j : Nat), v = .slice E m d ∧ t = .int .i64 j ∧ j ≤ NY ∧ m ≤ 5000 ∧ Own encC 3 54 (we.heap.size + 1) wr E m d (tlU l dx dy NX (j * NX)) ∧ PM we.heap.size m (pAt (tlU l dx dy NX (j * NX))) wr ∧ Below w.heap.size w wr) (fun _ t _ => NY - (intOf t).toNat)
          case atStart => exact ⟨none, 0, 0, 0, rfl, rfl, by omega, by omega, by rw [Nat.zero_mul]; exact Own.nil_, by rw [Nat.zero_mul]; exact hpm0, hB0⟩
          case round =>
            clear hpm0 hB0
            obtain ⟨E, m, d, j, rfl, rfl, hj, hm, hown, hpm, hb⟩ := hrel
            by_cases hlt : j < NY
            · have dj : decide ((j : Int) < NY) = true := decide_eq_true (by omega)
              go_wp2
              go_loopw [19, 99] (fun v t wq => ∃ (E : Option Addr) (m d i : Nat), v = .slice E m d ∧ t = .int .i64 i ∧ i ≤ NX ∧ m ≤ 5000 ∧ Own encC 3 54 (we.heap.size + 1) wq E m d (tlU l dx dy NX (j * NX + i)) ∧ PM we.heap.size m (pAt (tlU l dx dy NX (j * NX + i))) wq ∧ Below w.heap.size w wq) (fun _ t _ => NX - (intOf t).toNat)
              case atStart => exact ⟨E, m, d, 0, rfl, rfl, by omega, hm, hown, hpm, hb⟩
              case round =>
                clear hown hpm hb hm
                obtain ⟨E, m, d, i, rfl, rfl, hi, hm, hown, hpm, hb⟩ := hrel
                by_cases hli : i < NX
                · have di : decide ((i : Int) < NX) = true := decide_eq_true (by omega)
                  go_wp2
                  go_loopw [19, 104] (fun v t wq => ∃ (E : Option Addr) (m d q : Nat), v = .slice E m d ∧ t = .int .i64 q ∧ q ≤ n ∧ m ≤ 5000 + q ∧ Own encC 3 54 (we.heap.size + 1) wq E m d (((cpy l dx dy NX (j * NX + i)).take q).foldl addC (tlU l dx dy NX (j * NX + i))) ∧ PM we.heap.size m (pAt (((cpy l dx dy NX (j * NX + i)).take q).foldl addC (tlU l dx dy NX (j * NX + i)))) wq ∧ Below w.heap.size w wq) (fun _ t _ => n - (intOf t).toNat)
                  case atStart => exact ⟨E, m, d, 0, rfl, rfl, by omega, by omega, hown, hpm, hb⟩
                  case round =>
                    clear hown hpm hb hm
                    obtain ⟨E, m, d, q, rfl, rfl, hq, hm, hown, hpm, hb⟩ := hrel
                    obtain ⟨hc, hf⟩ := bcell hb
                    have hs := hb.size
                    have hbm := hpm.lt
                    by_cases hlq : q < n
                    · have dq : decide ((q : Int) < n) = true := decide_eq_true (by omega)
                      obtain ⟨x', y', s', bo, o, hx, rfl, hbl, g1, g2, g3⟩ := hR.cell hlq
                      have hce := Lib.hid (cpy_at (dx := dx) (dy := dy) (j := j) hli hx.out)
                      have hst := Lib.hid (addC_step (U := tlU l dx dy NX (j * NX + i)) hce.out)
                      clear hce
                      have hpt := hel.out _ (List.mem_of_getElem? hx.out)
                      unfold Pt at hpt
                      simp only at hpt
                      have m1 := HX.out i (by omega)
                      have m2 := HY.out j (by omega)
                      have ex1 : IntKind.i64.wrap ((i : Int) * dx) = (i : Int) * dx := IntWalk.i64_in _ (by omega)
                      have ey1 : IntKind.i64.wrap ((j : Int) * dy) = (j : Int) * dy := IntWalk.i64_in _ (by omega)
                      obtain ⟨u1, hu1⟩ : ∃ u1, u1 = x' + (i : Int) * dx := ⟨_, rfl⟩
                      obtain ⟨u2, hu2⟩ : ∃ u2, u2 = y' + (j : Int) * dy := ⟨_, rfl⟩
                      have ex2 : IntKind.i64.wrap (x' + (i : Int) * dx) = u1 := (IntWalk.i64_in _ (by omega)).trans hu1.symm
                      have ey2 : IntKind.i64.wrap (y' + (j : Int) * dy) = u2 := (IntWalk.i64_in _ (by omega)).trans hu2.symm
                      have ex3 : wrap64 (x' + (i : Int) * dx) = u1 := by unfold wrap64; omega
                      have ey3 : wrap64 (y' + (j : Int) * dy) = u2 := by unfold wrap64; omega
                      have iu : I64 u1 := by unfold I64; omega
                      have iv : I64 u2 := by unfold I64; omega
                      have iz : I64 s' := by unfold I64; omega
                      clear hpt m1 m2
                      obtain ⟨L, hL⟩ : ∃ L, L = ((cpy l dx dy NX (j * NX + i)).take q).foldl addC (tlU l dx dy NX (j * NX + i)) := ⟨_, rfl⟩
                      rw [← hL] at hown hpm
                      have hst := Lib.hid (show ((cpy l dx dy NX (j * NX + i)).take (q + 1)).foldl addC (tlU l dx dy NX (j * NX + i)) = addC L (u1, u2, s') by rw [hL, hu1, hu2]; exact hst.out)
                      clear hL hu1 hu2
                      cases hp : pAt L u1 u2 with
                      | some v =>
                        have hst' := Lib.hid (hst.out.trans (addC_in hp))
                        clear hst
                        have hp := Lib.hid hp
                        go_wp2_with (first | (at_lookup; refine wpList_pm_ok rfl _ _ _ rfl Tryd.underlying66 we.heap.size m (pAt L) rfl ((hpm.alloc _).alloc _) u1 u2 iu iv rfl (some v) hp.out ?_))
                        go_roundw
                        case rel => exact ⟨E, m, d, q + 1, rfl, by go_num, by omega, by omega, by rw [hst'.out]; exact (hown.alloc _).alloc _, by rw [hst'.out]; exact (hpm.alloc _).alloc _, by (repeat' (first | exact Below.refl _ _ | assumption | (refine Below.alloc ?_ ?_ _) | (refine Below.setCell ?_ ?_ _) | (refine Below.drew ?_) | (refine below_drewN ?_ _) | (refine below_after (Ext.below _) ?_ ?_) | (refine below_after (by assumption) ?_ ?_) | (simp; done) | omega | (simp; omega)))⟩
                        case measure => simp [intOf]; omega
                      | none =>
                        have hst' := Lib.hid (hst.out.trans (addC_new hp))
                        clear hst
                        have hp := Lib.hid hp
                        go_wp2_with (first | (at_lookup; refine wpList_pm_ok rfl _ _ _ rfl Tryd.underlying66 we.heap.size m (pAt L) rfl ((hpm.alloc _).alloc _) u1 u2 iu iv rfl none hp.out ?_) | (at_mapUpdate; refine wpList_pm_put rfl _ _ _ _ rfl Tryd.underlying66 we.heap.size m (pAt L) rfl ((hpm.alloc _).alloc _) (by omega) u1 u2 s' iu iv iz rfl rfl ?_; intro w6 hpm6 hg6; have hb6 : Below w.heap.size w w6 := below_map (by (repeat' (first | exact Below.refl _ _ | assumption | (refine Below.alloc ?_ ?_ _) | (refine Below.setCell ?_ ?_ _) | (refine Below.drew ?_) | (refine below_drewN ?_ _) | (refine below_after (Ext.below _) ?_ ?_) | (refine below_after (by assumption) ?_ ?_) | (simp; done) | omega | (simp; omega)))) hg6 (by simp; omega) (by omega); obtain ⟨q1, q2, hs6⟩ := boxes_over hg6 hbm; have hown6 := Own.overMap ((hown.alloc _).alloc _) hg6 (by omega)) | (at_builtin; refine wpList_append_el rfl (.tmp 133) (.tmp 141) 23 rfl encC 3 54 (.agg #[.int .i64 0, .int .i64 0, .int .i64 0]) 24 Tryd.underlying23 (by kernel_rfl) rfl (by decide) encC_len encC_one (we.heap.size + 1) _ _ _ _ rfl (hown6.alloc _) (u1, u2, s') ⟨(w6).heap.size, 0, none⟩ 1 rfl (cells_new (w6) _ _) (by omega) (by omega) (by first | omega | (simp; done) | (simp; omega)) ?_; intro A7 c7 w7 hown7 hg7 hb7; obtain ⟨hc7, hf7⟩ := bcell hb7; have hs7 := hb7.size; (try simp only [World.size_alloc, World.size_setCell, World.size_drew] at hc7 hf7); (try simp at hs7)))
                        have hpm7 := (hpm6.alloc _).grown hg7 (fun e => by have := hown6.above _ e.symm; omega)
                        go_roundw
                        case rel => exact ⟨A7, m + 1, c7, q + 1, rfl, by go_num, by omega, by omega, by rw [hst'.out]; exact hown7, by rw [hst'.out, pAt_add hp.out]; exact hpm7, below_after hb7 (hb6.alloc (by omega) _) (by omega)⟩
                        case measure => simp [intOf]; omega
                    · obtain rfl : q = n := by omega
                      have dq : decide ((q : Int) < q) = false := decide_eq_false (by omega)
                      rw [List.take_of_length_le (by rw [cpy_len, hR.len]; exact Nat.le_refl _)] at hown hpm
                      by_cases h5 : 5000 < m
                      · have d5 : decide (5000 < (m : Int)) = true := decide_eq_true (by omega)
                        have hlen := hown.len
                        have hmo := tlU_mono (l := l) (dx := dx) (dy := dy) (nx := NX) (show j * NX + i + 1 ≤ NX * NY from copy_lt hli hlt)
                        have HE := Lib.hid (tl_size HR.out HT.out HI.out (Nat.lt_of_lt_of_le (by rw [← hlen] at h5; exact h5) hmo))
                        clear hmo hlen
                        go_wp2_with fail
                        go_ret2
                        exact ⟨none, 0, 0, ret_pe HE.out.1.symm, by rw [HE.out.2]; exact Rd.nil_, by omega, by omega, hb⟩
                      · have d5 : decide (5000 < (m : Int)) = false := decide_eq_false (by omega)
                        go_wp2_with fail
                        go_roundw
                        case rel => exact ⟨E, m, d, i + 1, rfl, by go_num, by omega, by omega, hown, hpm, hb⟩
                        case measure => simp [intOf]; omega
                · obtain rfl : NX = i := by omega
                  have di : decide ((NX : Int) < NX) = false := decide_eq_false (by omega)
                  go_wp2_with fail
                  go_roundw
                  case rel => exact ⟨E, m, d, j + 1, rfl, by go_num, by omega, hm, by rw [Nat.add_mul, Nat.one_mul]; exact hown, by rw [Nat.add_mul, Nat.one_mul]; exact hpm, hb⟩
                  case measure => simp [intOf]; omega
            · obtain rfl : NY = j := by omega
              have dj : decide ((NY : Int) < NY) = false := decide_eq_false (by omega)
              rw [Nat.mul_comm] at hown
              have hbm := hpm.lt
              have hlen := hown.len
              have HE := Lib.hid (tl_ok HR.out HT.out HI.out (by rw [hlen]; exact hm))
              clear hpm
              go_wp2_with fail
              go_at_call 45
              refine (alg_order_sort (we.heap.size + 1) _ _ _ _ _ hown (by omega) (by omega)).mono ?_
              rintro e w8 ⟨rfl, l', hown8, hperm, hwc, hb8⟩
              have hcap := own_cap hown8
              have HL := Lib.hid (sort_fin hperm hwc (tlU_nodup _))
              have hR8 := hown8.rd encC_len
              clear hperm hwc hown8 hown
              go_wp2
              go_ret2
              exact ⟨E, m, d, ret_pe HE.out.1.symm, by rw [HE.out.2, HL.out]; exact hR8, hm, hcap, below_after hb8 hb (by omega)⟩
end Go.Proofs.YtenckggfgbkfnaaDoor
