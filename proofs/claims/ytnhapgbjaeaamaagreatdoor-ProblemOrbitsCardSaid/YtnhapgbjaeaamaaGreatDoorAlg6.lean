/- The contracts of algebra.Home, of its reference and of Turn's reference. -/
import Derived.Test.YtnhapgbjaeaamaaGreatDoorAlgH
import Derived.Test.YtnhapgbjaeaamaaGreatDoorAlg5
import Derived.Test.YtnhapgbjaeaamaaGreatDoorAlg4
import Derived.Test.YtnhapgbjaeaamaaGreatDoorCellS
namespace Go.Proofs.YtnhapgbjaeaamaaGreatDoor
open Go Go.RowKit
set_option linter.unusedSimpArgs false
set_option linter.unusedVariables false
set_option maxRecDepth 100000
attribute [local go_sem ↓ high] eq_cl neq_cl eq_pt neq_pt
theorem refApplyS (k x y : Int) (w : World) (hx : I64 x) (hy : I64 y) : Calls Tryz.prog 88 #[.int .i64 k, .agg #[.int .i64 x, .int .i64 y]] w fun e w' => e = .returned (.agg #[.int .i64 (app k x y).1, .int .i64 (app k x y).2]) ∧ Below w.heap.size w w' := by
  rw [app_eq k x y hx hy]; exact ref_Apply k x y w
theorem pat_BoxU6 (A : Option Addr) (n c : Nat) (l : List (Int × Int × Int)) (w : World) (hR : Rd encC 3 w A n l) (hn : n ≤ 1000000) : Calls Tryz.prog 68 #[.slice A n c] w fun e w' => e = .returned (.tuple #[.agg #[.int .i64 (hmX l), .int .i64 (hmY l), .int .i64 (arW (bxPos l)), .int .i64 (arH (bxPos l))], .bool (arOk (bxPos l))]) ∧ Below w.heap.size w w' := pat_Box A n c l w hR hn
set_option maxHeartbeats 4000000 in
theorem alg_Home (A : Option Addr) (n c : Nat) (l : List (Int × Int × Int)) (w : World) (hR : Rd encC 3 w A n l) (hn : n ≤ 1000000) (hnc : n ≤ c) :
    Calls Tryz.prog 39 #[.slice A n c] w fun e w' => ∃ A2 c2, e = .returned (.slice A2 n c2) ∧ Rd encC 3 w' A2 n (hmL l) ∧ n ≤ c2 ∧ Below w.heap.size w w' := by
  have kB := fun w1 (h : Rd encC 3 w1 A n l) => pat_BoxU6 A n c l w1 h hn
  by_cases hg : rightC l = true ∧ 0 < l.length
  · obtain ⟨hr, h0⟩ := hg
    obtain ⟨e0, e1, _, _⟩ := hm_good hr h0
    have hbd := hm_bound hr h0
    have HE := Lib.hid e1
    rw [e0] at kB
    have hel := Lib.hid (okCells_right hr)
    have kR := fun w1 (h : Rd encC 3 w1 A n l) => pat_RightV (A := A) (n := n) (c := c) hr w1 h (by omega)
    generalize hmX l = X at kB hbd HE
    generalize hmY l = Y at kB hbd HE
    generalize arW (bxPos l) = W0 at kB
    generalize arH (bxPos l) = H0 at kB
    clear e0 e1 hr h0
    obtain ⟨b1, b2, b3, b4⟩ := hbd
    go_enter Tryz.func39, Tryz.ntmps39
    go_wp2_with fail; go_at_call 68; refine (kB _ hR).mono ?_; rintro e w1 ⟨rfl, hb1⟩; have hs1 := hb1.size; (try simp only [World.size_alloc, World.size_drew, World.size_setCell] at hs1)
    have xb := BoxAt.new w1 X Y W0 H0 80
    go_wp2_with fail; go_at_call 69; refine (kR _ (hR.of (by (repeat' (first | exact Below.refl _ _ | assumption | (refine Below.alloc ?_ ?_ _) | (refine Below.setCell ?_ ?_ _) | (refine Below.drew ?_) | (refine below_drewN ?_ _) | (refine below_after (Ext.below _) ?_ ?_) | (refine below_after (by assumption) ?_ ?_) | (simp; done) | omega | (simp; omega)))))).mono ?_; rintro e w2 ⟨rfl, hb2⟩; have hs2 := hb2.size; (try simp only [World.size_alloc, World.size_drew, World.size_setCell] at hs2)
    obtain ⟨q0, q1, q2, q3, q4⟩ := xb.of hb2
    have hB2 : Below w.heap.size w w2 := by (repeat' (first | exact Below.refl _ _ | assumption | (refine Below.alloc ?_ ?_ _) | (refine Below.setCell ?_ ?_ _) | (refine Below.drew ?_) | (refine below_drewN ?_ _) | (refine below_after (Ext.below _) ?_ ?_) | (refine below_after (by assumption) ?_ ?_) | (simp; done) | omega | (simp; omega)))
    have hR2 : Rd encC 3 w2 A n l := hR.of hB2
    have hs0 := hB2.size
    have hs12 : w1.heap.size < w2.heap.size := by omega
    clear hb1 hb2 hs1 hs2 kB kR hR xb
    go_wp2_with (first | (at_make; refine wpList_make_el rfl (.const (.int .i64 0)) (.tmp 22) 36 rfl encC 3 49 (.agg #[.int .i64 0, .int .i64 0, .int .i64 0]) 24 Tryz.underlying36 (by kernel_rfl) (w2.heap.size) _ (n) rfl rfl (rfl) (by omega) (by omega) (by first | omega | (simp; done) | (simp; omega)) ?_; intro w5 hown5 hb5; obtain ⟨hc5, hf5⟩ := bcell hb5; have hs5 := hb5.size; (try simp only [World.size_alloc, World.size_setCell, World.size_drew] at hc5 hf5); (try simp at hs5)))
    clear hc5 hf5 hs5
    go_loopw [5, 26] (fun v i wr => ∃ (E : Option Addr) (d j : Nat), v = .slice E j d ∧ i = .int .i64 j ∧ j ≤ n ∧ Own encC 3 49 w2.heap.size wr E j d ((l.take j).map (mv5 (-X) (-Y))) ∧ Below w2.heap.size w2 wr) (fun _ i _ => n - (intOf i).toNat)
    case atStart => exact ⟨_, n, 0, rfl, rfl, by omega, hown5, hb5⟩
    case round =>
      obtain ⟨E, d, j, rfl, rfl, hj, hown, hb⟩ := hrel
      obtain ⟨hc, hf⟩ := bcell hb
      have hs := hb.size
      by_cases hlt : j < n
      · have dj : decide ((j : Int) < n) = true := decide_eq_true (by omega)
        obtain ⟨x', y', s', bo, o, hx, rfl, hbl, g1, g2, g3⟩ := hR2.cell hlt
        have hpt := (hel.out _ (List.mem_of_getElem? hx.out)).1
        unfold Pt at hpt
        simp only at hpt
        obtain ⟨p1, p2, p3, p4⟩ := hpt
        have hst := Lib.hid (show (l.take (j + 1)).map (mv5 (-X) (-Y)) = (l.take j).map (mv5 (-X) (-Y)) ++ [(x' - X, y' - Y, s')] by rw [map_step _ hx.out]; simp only [mv5]; congr 3)
        have ex : IntKind.i64.wrap (x' - X) = x' - X := IntWalk.i64_in _ (by omega)
        have ey : IntKind.i64.wrap (y' - Y) = y' - Y := IntWalk.i64_in _ (by omega)
        go_wp2_with (first | (at_builtin; refine wpList_append_el rfl (.tmp 30) (.tmp 44) 36 rfl encC 3 49 (.agg #[.int .i64 0, .int .i64 0, .int .i64 0]) 24 Tryz.underlying36 (by kernel_rfl) rfl (by decide) encC_len encC_one (w2.heap.size) _ _ _ _ rfl (((hown.alloc _).alloc _)) (x' - X, y' - Y, s') ⟨wr.heap.size + 1, 0, none⟩ 1 rfl (by have h := cells_new ((wr.alloc (.cells #[.int .i64 x', .int .i64 y', .int .i64 s'] 49))) (encC (x' - X, y' - Y, s')) 49; simp only [World.size_alloc] at h; exact h) (by omega) (by omega) (by first | omega | (simp; done) | (simp; omega)) ?_; intro A7 c7 w7 hown7 hg7 hb7; obtain ⟨hc7, hf7⟩ := bcell hb7; have hs7 := hb7.size; (try simp only [World.size_alloc, World.size_setCell, World.size_drew] at hc7 hf7); (try simp at hs7)))
        go_roundw
        case rel => exact ⟨A7, c7, j + 1, rfl, by go_num, by omega, by rw [hst.out]; exact hown7, by (repeat' (first | exact Below.refl _ _ | assumption | (refine Below.alloc ?_ ?_ _) | (refine Below.setCell ?_ ?_ _) | (refine Below.drew ?_) | (refine below_drewN ?_ _) | (refine below_after (Ext.below _) ?_ ?_) | (refine below_after (by assumption) ?_ ?_) | (simp; done) | omega | (simp; omega)))⟩
        case measure => simp [intOf]; omega
      · obtain rfl : j = n := by omega
        have dj : decide ((j : Int) < j) = false := decide_eq_false (by omega)
        rw [List.take_of_length_le (by rw [hR2.len]; omega)] at hown
        have hcap := own_cap hown
        go_wp2_with fail
        go_ret
        exact ⟨E, d, rfl, by rw [HE.out]; exact hown.rd encC_len, hcap, below_after hb hB2 (by omega)⟩
  · have hbad : rightC l = false ∨ l.length = 0 := by
      cases hr : rightC l with
      | false => exact .inl rfl
      | true => exact .inr (by rcases Nat.eq_zero_or_pos l.length with h | h; exact h; exact absurd ⟨hr, h⟩ hg)
    obtain ⟨e0, e1⟩ := hm_bad hbad
    have HE := Lib.hid e1
    rw [e0] at kB
    generalize hmX l = X at kB
    generalize hmY l = Y at kB
    generalize arW (bxPos l) = W0 at kB
    generalize arH (bxPos l) = H0 at kB
    clear e0 e1 hg hbad
    go_enter Tryz.func39, Tryz.ntmps39
    go_wp2_with fail; go_at_call 68; refine (kB _ hR).mono ?_; rintro e w1 ⟨rfl, hb1⟩; have hs1 := hb1.size; (try simp only [World.size_alloc, World.size_drew, World.size_setCell] at hs1)
    go_wp2_with fail
    go_ret
    exact ⟨A, c, rfl, by rw [HE.out]; exact hR.of (by (repeat' (first | exact Below.refl _ _ | assumption | (refine Below.alloc ?_ ?_ _) | (refine Below.setCell ?_ ?_ _) | (refine Below.drew ?_) | (refine below_drewN ?_ _) | (refine below_after (Ext.below _) ?_ ?_) | (refine below_after (by assumption) ?_ ?_) | (simp; done) | omega | (simp; omega)))), hnc, by (repeat' (first | exact Below.refl _ _ | assumption | (refine Below.alloc ?_ ?_ _) | (refine Below.setCell ?_ ?_ _) | (refine Below.drew ?_) | (refine below_drewN ?_ _) | (refine below_after (Ext.below _) ?_ ?_) | (refine below_after (by assumption) ?_ ?_) | (simp; done) | omega | (simp; omega)))⟩
set_option maxHeartbeats 4000000 in
theorem ref06_Home (A : Option Addr) (n c : Nat) (l : List (Int × Int × Int)) (w : World) (hR : Rd encC 3 w A n l) (hn : n ≤ 1000000) :
    Calls Tryz.prog 44 #[.slice A n c] w fun e w' => ∃ A2 c2, e = .returned (.slice A2 n c2) ∧ Rd encC 3 w' A2 n (hmL l) ∧ Below w.heap.size w w' := by
  cases hr : rightC l with
  | false =>
    have HE := Lib.hid (hm_bad (l := l) (.inl hr)).2
    have kR := fun w1 (h : Rd encC 3 w1 A n l) => ref05_RightV (A := A) (n := n) (c := c) hr w1 h (by omega)
    clear hr
    go_enter Tryz.func44, Tryz.ntmps44
    go_wp2_with fail; go_at_call 45; refine (kR _ hR).mono ?_; rintro e w1 ⟨rfl, hb1⟩; have hs1 := hb1.size; (try simp only [World.size_alloc, World.size_drew, World.size_setCell] at hs1)
    go_wp2_with fail
    go_ret
    exact ⟨A, c, rfl, by rw [HE.out]; exact hR.of (by (repeat' (first | exact Below.refl _ _ | assumption | (refine Below.alloc ?_ ?_ _) | (refine Below.setCell ?_ ?_ _) | (refine Below.drew ?_) | (refine below_drewN ?_ _) | (refine below_after (Ext.below _) ?_ ?_) | (refine below_after (by assumption) ?_ ?_) | (simp; done) | omega | (simp; omega)))), by (repeat' (first | exact Below.refl _ _ | assumption | (refine Below.alloc ?_ ?_ _) | (refine Below.setCell ?_ ?_ _) | (refine Below.drew ?_) | (refine below_drewN ?_ _) | (refine below_after (Ext.below _) ?_ ?_) | (refine below_after (by assumption) ?_ ?_) | (simp; done) | omega | (simp; omega)))⟩
  | true =>
    have kR := fun w1 (h : Rd encC 3 w1 A n l) => ref05_RightV (A := A) (n := n) (c := c) hr w1 h (by omega)
    rcases Nat.eq_zero_or_pos n with rfl | hn0
    · have HE := Lib.hid (hm_bad (l := l) (.inr hR.len)).2
      clear hr
      go_enter Tryz.func44, Tryz.ntmps44
      go_wp2_with fail; go_at_call 45; refine (kR _ hR).mono ?_; rintro e w1 ⟨rfl, hb1⟩; have hs1 := hb1.size; (try simp only [World.size_alloc, World.size_drew, World.size_setCell] at hs1)
      go_wp2_with fail
      go_ret
      exact ⟨A, c, rfl, by rw [HE.out]; exact hR.of (by (repeat' (first | exact Below.refl _ _ | assumption | (refine Below.alloc ?_ ?_ _) | (refine Below.setCell ?_ ?_ _) | (refine Below.drew ?_) | (refine below_drewN ?_ _) | (refine below_after (Ext.below _) ?_ ?_) | (refine below_after (by assumption) ?_ ?_) | (simp; done) | omega | (simp; omega)))), by (repeat' (first | exact Below.refl _ _ | assumption | (refine Below.alloc ?_ ?_ _) | (refine Below.setCell ?_ ?_ _) | (refine Below.drew ?_) | (refine below_drewN ?_ _) | (refine below_after (Ext.below _) ?_ ?_) | (refine below_after (by assumption) ?_ ?_) | (simp; done) | omega | (simp; omega)))⟩
    · have h0 : 0 < l.length := by rw [hR.len]; exact hn0
      obtain ⟨_, e1, ex, ey⟩ := hm_good hr h0
      have HX := Lib.hid ex
      have HY := Lib.hid ey
      have hbd := hm_bound hr h0
      have HE := Lib.hid e1
      have hel := Lib.hid (okCells_right hr)
      clear e1 ex ey hr h0
      have hz : ((n : Int) == 0) = false := by simp only [beq_eq_false_iff_ne, ne_eq]; omega
      obtain ⟨fx, fy, fs, bo, o, hx0, rfl, hbl0, g1, g2, g3⟩ := hR.cell hn0
      have hfst := fst_of (posC_get hx0.out)
      have HX2 := Lib.hid (HX.out.trans (by rw [hfst.1]))
      have HY2 := Lib.hid (HY.out.trans (by rw [hfst.2]))
      rw [Nat.zero_mul, Nat.add_zero] at g1 g2 g3
      clear hfst HX HY
      generalize hmX l = X at HX2 HE hbd
      generalize hmY l = Y at HY2 HE hbd
      obtain ⟨b1, b2, b3, b4⟩ := hbd
      have hn1 : (0 : Int) < (n : Int) := by omega
      go_enter Tryz.func44, Tryz.ntmps44
      go_wp2_with fail; go_at_call 45; refine (kR _ hR).mono ?_; rintro e w1 ⟨rfl, hb1⟩; have hs1 := hb1.size; (try simp only [World.size_alloc, World.size_drew, World.size_setCell] at hs1); obtain ⟨hc1, hf1⟩ := bcell hb1; (try simp only [World.size_alloc, World.size_setCell, World.size_drew] at hc1 hf1)
      have hR1 := hR.of hb1
      have hB1 := hb1
      clear kR hR
      go_wp2_with fail
      (refine wp_region_ext_lit (by kernel_rfl) (by kernel_rfl) ?_; (repeat (go_big_quiet_step (fail))); refine wpQuiet_nil ?_; intro _ hw'; obtain ⟨z2, hw''⟩ := hw'; subst hw''; have hs2 := z2.size; obtain ⟨hc2, hf2⟩ := bcell z2.below; (try simp only [World.size_alloc, World.size_setCell, World.size_drew] at hc2 hf2); (try simp at hs2))
      have hB2 : Below w.heap.size w z2.world := below_after z2.below hB1 hB1.size
      have hR2 := hR1.of z2.below
      have hs0 := hB2.size
      clear hb1 hs1 hc1 hf1 hc2 hf2 hB1 hR1 g1 g2 g3
      generalize z2.world = W2 at *
      go_wp2_with fail
      go_loopw [3, 4, 5] (fun u v i wr => ∃ j : Nat, u = .int .i64 (loX (posC (l.take j)) fx) ∧ v = .int .i64 (loY (posC (l.take j)) fy) ∧ i = .int .i64 j ∧ j ≤ n ∧ Below W2.heap.size W2 wr) (fun _ _ i _ => n - (intOf i).toNat)
      case atStart => exact ⟨0, rfl, rfl, rfl, by omega, Below.refl _ _⟩
      case round =>
        obtain ⟨j, rfl, rfl, rfl, hj, hb⟩ := hrel
        obtain ⟨hc, hf⟩ := bcell hb
        have hs := hb.size
        by_cases hlt : j < n
        · have dj : decide ((j : Int) < n) = true := decide_eq_true (by omega)
          obtain ⟨x', y', s', bo', o', hx, he', hbl, g1, g2, g3⟩ := hR2.cell hlt
          injection he' with he'
          injection he' with he1 he2 he3
          subst he1 he2
          have hx1 : loX (posC (l.take (j + 1))) fx = min (loX (posC (l.take j)) fx) x' := by unfold posC; rw [map_step _ hx.out]; unfold loX; rw [List.foldl_append]; rfl
          have hy1 : loY (posC (l.take (j + 1))) fy = min (loY (posC (l.take j)) fy) y' := by unfold posC; rw [map_step _ hx.out]; unfold loY; rw [List.foldl_append]; rfl
          have HX1 := Lib.hid hx1
          have HY1 := Lib.hid hy1
          clear hx1 hy1
          generalize loX (posC (l.take j)) fx = u1 at HX1 ⊢
          generalize loY (posC (l.take j)) fy = u2 at HY1 ⊢
          go_wp2_with fail
          (refine wp_region_ext_lit (by kernel_rfl) (by kernel_rfl) ?_; (repeat (go_big_quiet_step (fail))); refine wpQuiet_nil ?_; intro _ hw'; obtain ⟨z3, hw''⟩ := hw'; subst hw''; have hs3 := z3.size; obtain ⟨hc3, hf3⟩ := bcell z3.below; (try simp only [World.size_alloc, World.size_setCell, World.size_drew] at hc3 hf3); (try simp at hs3))
          go_wp2_with fail
          go_roundw
          case rel => exact ⟨j + 1, by rw [HX1.out], by rw [HY1.out], by go_num, by omega, by (repeat' (first | exact Below.refl _ _ | assumption | (refine Below.alloc ?_ ?_ _) | (refine Below.setCell ?_ ?_ _) | (refine Below.drew ?_) | (refine below_drewN ?_ _) | (refine below_after (Ext.below _) ?_ ?_) | (refine below_after (by assumption) ?_ ?_) | (simp; done) | omega | (simp; omega)))⟩
          case measure => simp [intOf]; omega
        · obtain rfl : j = n := by omega
          have dj : decide ((j : Int) < j) = false := decide_eq_false (by omega)
          rw [List.take_of_length_le (by rw [hR2.len]; omega), ← HX2.out, ← HY2.out]
          have hB3 : Below w.heap.size w wr := below_after hb hB2 (by omega)
          have hR3 := hR2.of hb
          clear hc hf hR2 hB2 hb
          obtain ⟨W3, hW3⟩ : ∃ W3, W3 = wr := ⟨_, rfl⟩
          subst hW3
          go_wp2_with fail
          go_loopw [6, 7] (fun v i wr => ∃ (E : Option Addr) (d t : Nat), v = .slice E t d ∧ i = .int .i64 t ∧ t ≤ j ∧ Own encC 3 49 W3.heap.size wr E t d ((l.take t).map (mv5 (-X) (-Y))) ∧ Below W3.heap.size W3 wr) (fun _ i _ => j - (intOf i).toNat)
          case atStart => exact ⟨none, 0, 0, rfl, rfl, by omega, Own.nil_, Below.refl _ _⟩
          case round =>
            obtain ⟨E, d, t, rfl, rfl, hj, hown, hb⟩ := hrel
            obtain ⟨hc, hf⟩ := bcell hb
            have hs := hb.size
            by_cases hlt2 : t < j
            · have dj2 : decide ((t : Int) < j) = true := decide_eq_true (by omega)
              obtain ⟨x', y', s', bo', o', hx, he', hbl, g1, g2, g3⟩ := hR3.cell hlt2
              injection he' with he'
              injection he' with he1 he2 he3
              subst he1 he2
              have hpt := (hel.out _ (List.mem_of_getElem? hx.out)).1
              unfold Pt at hpt
              simp only at hpt
              obtain ⟨p1, p2, p3, p4⟩ := hpt
              have hst := Lib.hid (show (l.take (t + 1)).map (mv5 (-X) (-Y)) = (l.take t).map (mv5 (-X) (-Y)) ++ [(x' - X, y' - Y, s')] by rw [map_step _ hx.out]; simp only [mv5]; congr 3)
              have ex : IntKind.i64.wrap (x' - X) = x' - X := IntWalk.i64_in _ (by omega)
              have ey : IntKind.i64.wrap (y' - Y) = y' - Y := IntWalk.i64_in _ (by omega)
              have q1 : wr.cell? ⟨bo, o + t * 3, none⟩ = some (.int .i64 x') := by rw [hb.cell (p := ⟨_, _, none⟩) hbl]; exact g1
              have q2 : wr.cell? ⟨bo, o + t * 3 + 1, none⟩ = some (.int .i64 y') := by rw [hb.cell (p := ⟨_, _, none⟩) hbl]; exact g2
              have q3 : wr.cell? ⟨bo, o + t * 3 + 2, none⟩ = some (.int .i64 s') := by rw [hb.cell (p := ⟨_, _, none⟩) hbl]; exact g3
              have i0 : (0 : Int) ≤ t := by omega
              have i1 : (t : Int) < j := by omega
              clear hc hf g1 g2 g3
              go_wp2_with fail
              (go_region_held3 (fun w' => w'.cell? ⟨bo, o + t * 3, none⟩ = some (.int .i64 x') ∧ w'.cell? ⟨bo, o + t * 3 + 1, none⟩ = some (.int .i64 y') ∧ w'.cell? ⟨bo, o + t * 3 + 2, none⟩ = some (.int .i64 s')) (first | go_keep | (go_split_ands; refine ⟨?_, ?_, ?_⟩ <;> first | go_keep | (rw [hb4.cell (p := ⟨_, _, none⟩) (by first | omega | (simp; done) | (simp; omega))]; go_keep))) ((refine step_append_el (by rfl) (.tmp 51) (.tmp 72) 36 (by rfl) encC 3 49 (.agg #[.int .i64 0, .int .i64 0, .int .i64 0]) 24 Tryz.underlying36 (by kernel_rfl) rfl (by decide) encC_len encC_one (W3.heap.size) _ _ _ _ (by rfl) (hown.drew.alloc _) (x' - X, y' - Y, s') ⟨(wr.drew).heap.size, 0, none⟩ 1 (by rfl) (cells_new (wr.drew) _ _) (by omega) (by omega) (by first | omega | (simp; done) | (simp; omega)) ?_; intro A4 c4 w4 hown4 hg4 hb4)))
              go_wp2
              go_roundw
              case rel => exact ⟨A4, c4, t + 1, rfl, by go_num, by omega, by rw [hst.out]; exact hown4, below_after hb4 (bl_of_drew_alloc hb _) (by have := hb.size; first | omega | (simp; done) | (simp; omega))⟩
              case measure => simp [intOf]; omega
            · obtain rfl : t = j := by omega
              have dj2 : decide ((t : Int) < t) = false := decide_eq_false (by omega)
              rw [List.take_of_length_le (by rw [hR3.len]; omega)] at hown
              go_wp2_with fail
              go_ret
              exact ⟨E, d, rfl, by rw [HE.out]; exact hown.rd encC_len, below_after hb hB3 (by omega)⟩
end Go.Proofs.YtnhapgbjaeaamaaGreatDoor
