/- The contract of Shift of the reference. -/
import Derived.Test.YtellglbmbocgkaaGreatDoorCEL
namespace Go.Proofs.YtellglbmbocgkaaGreatDoor
open Go Go.RowKit
set_option linter.unusedSimpArgs false
set_option linter.unusedVariables false
set_option maxRecDepth 100000
attribute [local go_sem ↓ high] eq_cl neq_cl eq_pt neq_pt
theorem bl_of_drew_alloc {w w1 : World} (h : Below w.heap.size w w1) (o : Obj) : Below w.heap.size w (w1.drew.alloc o) := (Below.drew h).alloc h.size o
set_option maxHeartbeats 2000000 in
theorem ref05_Shift (A : Option Addr) (n c : Nat) (l : List (Int × Int × Int)) (dx dy : Int) (w : World) (hR : Rd encC 3 w A n l) (hn : n ≤ 1000000) :
    Calls Tryz.prog 18 #[.slice A n c, .int .i64 dx, .int .i64 dy] w fun e w' => ∃ A' n' c', e = .returned (.tuple #[.slice A' n' c', .int .i64 (shE l dx dy)]) ∧ Rd encC 3 w' A' n' (shL l dx dy) ∧ n' ≤ n ∧ Below w.heap.size w w' := by
  cases hr : rightC l with
  | false =>
    have HE := Lib.hid (shE_arg (dx := dx) (dy := dy) hr)
    have kR := fun w1 a => ref05_RightV (A := A) (n := n) (c := c) hr w1 a (by omega)
    clear hr
    go_enter Tryz.func18, Tryz.ntmps18
    go_wp2_with fail
    (go_at_call 43; refine (kR _ (hR.of (by (repeat' (first | exact Below.refl _ _ | assumption | (refine Below.alloc ?_ ?_ _) | (refine Below.setCell ?_ ?_ _) | (refine Below.drew ?_) | (refine below_drewN ?_ _) | (refine below_after (Ext.below _) ?_ ?_) | (refine below_after (by assumption) ?_ ?_) | (simp; done) | omega | (simp; omega)))))).mono ?_; rintro e w1 ⟨rfl, hb1⟩; obtain ⟨hc1, hf1⟩ := bcell hb1; have hs1 := hb1.size; (try simp only [World.size_alloc, World.size_setCell, World.size_drew] at hc1 hf1); (try simp at hs1))
    go_wp2_with fail
    go_ret2
    exact ⟨none, 0, 0, ret_pe HE.out.symm, by rw [shL_no HE.out (by omega)]; exact Rd.nil_, by omega, by (repeat' (first | exact Below.refl _ _ | assumption | (refine Below.alloc ?_ ?_ _) | (refine Below.setCell ?_ ?_ _) | (refine Below.drew ?_) | (refine below_drewN ?_ _) | (refine below_after (Ext.below _) ?_ ?_) | (refine below_after (by assumption) ?_ ?_) | (simp; done) | omega | (simp; omega)))⟩
  | true =>
    have kR := fun w1 a => ref05_RightV (A := A) (n := n) (c := c) hr w1 a (by omega)
    cases hf : farB dx dy with
    | false =>
      have HE := Lib.hid (shE_far hr hf)
      have hfar := farB_no2 hf
      clear hr hf
      rcases hfar with d1 | ⟨d1, d2⟩ | ⟨d1, d2, d3⟩ | ⟨d1, d2, d3, d4⟩
      all_goals
        go_enter Tryz.func18, Tryz.ntmps18
        go_wp2_with fail
        (go_at_call 43; refine (kR _ (hR.of (by (repeat' (first | exact Below.refl _ _ | assumption | (refine Below.alloc ?_ ?_ _) | (refine Below.setCell ?_ ?_ _) | (refine Below.drew ?_) | (refine below_drewN ?_ _) | (refine below_after (Ext.below _) ?_ ?_) | (refine below_after (by assumption) ?_ ?_) | (simp; done) | omega | (simp; omega)))))).mono ?_; rintro e w1 ⟨rfl, hb1⟩; obtain ⟨hc1, hf1⟩ := bcell hb1; have hs1 := hb1.size; (try simp only [World.size_alloc, World.size_setCell, World.size_drew] at hc1 hf1); (try simp at hs1))
        go_wp2_with fail
        go_ret2
        exact ⟨none, 0, 0, ret_pe HE.out.symm, by rw [shL_no HE.out (by omega)]; exact Rd.nil_, by omega, by (repeat' (first | exact Below.refl _ _ | assumption | (refine Below.alloc ?_ ?_ _) | (refine Below.setCell ?_ ?_ _) | (refine Below.drew ?_) | (refine below_drewN ?_ _) | (refine below_after (Ext.below _) ?_ ?_) | (refine below_after (by assumption) ?_ ?_) | (simp; done) | omega | (simp; omega)))⟩
    | true =>
      have HR := Lib.hid hr
      have HF := Lib.hid hf
      have hb0 := hf
      unfold farB at hb0
      simp only [decide_eq_true_eq] at hb0
      obtain ⟨f1, f2, f3, f4⟩ := hb0
      have hel := fun j x y s (hx : l[j]? = some (x, y, s)) => (rightC_elem hr hx).1
      clear hr hf
      go_enter Tryz.func18, Tryz.ntmps18
      go_wp2_with fail
      (go_at_call 43; refine (kR _ (hR.of (by (repeat' (first | exact Below.refl _ _ | assumption | (refine Below.alloc ?_ ?_ _) | (refine Below.setCell ?_ ?_ _) | (refine Below.drew ?_) | (refine below_drewN ?_ _) | (refine below_after (Ext.below _) ?_ ?_) | (refine below_after (by assumption) ?_ ?_) | (simp; done) | omega | (simp; omega)))))).mono ?_; rintro e w1 ⟨rfl, hb1⟩; obtain ⟨hc1, hf1⟩ := bcell hb1; have hs1 := hb1.size; (try simp only [World.size_alloc, World.size_setCell, World.size_drew] at hc1 hf1); (try simp at hs1))
      clear kR
      have hRw := hR.of hb1
      have hB1 := hb1
      clear hb1 hc1 hf1
      go_wp2
      go_loopw [8, 9] (fun v i wr => ∃ (B : Option Addr) (d j : Nat), v = .slice B j d ∧ i = .int .i64 j ∧ j ≤ n ∧ Own encC 3 79 w1.heap.size wr B j d ((l.map (mv dx dy)).take j) ∧ Hid (plTo l dx dy j) ∧ Below w1.heap.size w1 wr) (fun _ i _ => n - (intOf i).toNat)
      case atStart => exact ⟨none, 0, 0, rfl, rfl, by omega, by rw [List.take_zero]; exact Own.nil_, (fun i x y s hi => absurd hi (by omega)), Below.refl _ _⟩
      case round =>
        obtain ⟨B, d, j, rfl, rfl, hj, hown, hpl, hb⟩ := hrel
        obtain ⟨hc, hf⟩ := bcell hb
        have hs := hb.size
        by_cases hlt : j < n
        · obtain ⟨x, y, s, bo, o, hx, rfl, hbl, g1, g2, g3⟩ := hRw.cell hlt
          have hpt := hel j x y s hx.out
          unfold Pt at hpt
          obtain ⟨p1, p2, p3, p4⟩ := hpt
          have e1 : IntKind.i64.wrap (x + dx) = x + dx := IntWalk.i64_in _ (by omega)
          have e2 : IntKind.i64.wrap (y + dy) = y + dy := IntWalk.i64_in _ (by omega)
          cases hv : validB (x + dx) (y + dy) with
          | false =>
            have HE := Lib.hid (shE_out HR.out HF.out (not_all hx.out hv))
            have kP := fun w1 => ref05_PlaceV hv w1
            clear hv
            go_wp2_with fail
            (refine wp_region_ext_lit (by kernel_rfl) (by kernel_rfl) ?_; (repeat (go_big_quiet_step ((go_at_call 44; exact calls_ext_same (kP _))))); refine wpQuiet_nil ?_; intro _ hw'; obtain ⟨z3, hw''⟩ := hw'; subst hw''; have hs3 := z3.size; obtain ⟨hc3, hf3⟩ := bcell z3.below; (try simp only [World.size_alloc, World.size_setCell, World.size_drew] at hc3 hf3); (try simp at hs3))
            go_wp2_with fail
            go_ret2
            exact ⟨none, 0, 0, ret_pe HE.out.symm, by rw [shL_no HE.out (by omega)]; exact Rd.nil_, by omega, by (repeat' (first | exact Below.refl _ _ | assumption | (refine Below.alloc ?_ ?_ _) | (refine Below.setCell ?_ ?_ _) | (refine Below.drew ?_) | (refine below_drewN ?_ _) | (refine below_after (Ext.below _) ?_ ?_) | (refine below_after (by assumption) ?_ ?_) | (simp; done) | omega | (simp; omega)))⟩
          | true =>
            have hpl2 := Lib.hid (plTo_step hpl.out hx.out hv)
            have kP := fun w1 => ref05_PlaceV hv w1
            have htk := Lib.hid (show (l.map (mv dx dy)).take (j + 1) = (l.map (mv dx dy)).take j ++ [(x + dx, y + dy, s)] by rw [List.take_add_one, List.getElem?_map, hx.out]; rfl)
            have q1 : wr.cell? ⟨bo, o + j * 3, none⟩ = some (.int .i64 x) := by rw [hb.cell (p := ⟨_, _, none⟩) hbl]; exact g1
            have q2 : wr.cell? ⟨bo, o + j * 3 + 1, none⟩ = some (.int .i64 y) := by rw [hb.cell (p := ⟨_, _, none⟩) hbl]; exact g2
            have q3 : wr.cell? ⟨bo, o + j * 3 + 2, none⟩ = some (.int .i64 s) := by rw [hb.cell (p := ⟨_, _, none⟩) hbl]; exact g3
            have i0 : (0 : Int) ≤ j := by omega
            have i1 : (j : Int) < n := by omega
            clear hv
            go_wp2_with fail
            (refine wp_region_ext_lit (by kernel_rfl) (by kernel_rfl) ?_; (repeat (go_big_quiet_step ((go_at_call 44; exact calls_ext_same (kP _))))); refine wpQuiet_nil ?_; intro _ hw'; obtain ⟨z3, hw''⟩ := hw'; subst hw''; have hs3 := z3.size; obtain ⟨hc3, hf3⟩ := bcell z3.below; (try simp only [World.size_alloc, World.size_setCell, World.size_drew] at hc3 hf3); (try simp at hs3))
            have r1 : z3.world.cell? ⟨bo, o + j * 3, none⟩ = some (.int .i64 x) := by rw [z3.below.cell (p := ⟨_, _, none⟩) (by show bo < _; omega)]; exact q1
            have r2 : z3.world.cell? ⟨bo, o + j * 3 + 1, none⟩ = some (.int .i64 y) := by rw [z3.below.cell (p := ⟨_, _, none⟩) (by show bo < _; omega)]; exact q2
            have r3 : z3.world.cell? ⟨bo, o + j * 3 + 2, none⟩ = some (.int .i64 s) := by rw [z3.below.cell (p := ⟨_, _, none⟩) (by show bo < _; omega)]; exact q3
            have hown3 := hown.of z3.below
            have hB3 : Below w1.heap.size w1 z3.world := below_after z3.below hb (by omega)
            clear hc3 hf3 hc hf q1 q2 q3 g1 g2 g3
            go_wp2_with fail
            (go_region_held3 (fun w' => w'.cell? ⟨bo, o + j * 3, none⟩ = some (.int .i64 x) ∧ w'.cell? ⟨bo, o + j * 3 + 1, none⟩ = some (.int .i64 y) ∧ w'.cell? ⟨bo, o + j * 3 + 2, none⟩ = some (.int .i64 s)) (first | go_keep | (go_split_ands; refine ⟨?_, ?_, ?_⟩ <;> first | go_keep | (rw [hb4.cell (p := ⟨_, _, none⟩) (by first | omega | (simp; done) | (simp; omega))]; go_keep))) ((refine step_append_el (by rfl) (.tmp 49) (.tmp 70) 27 (by rfl) encC 3 79 (.agg #[.int .i64 0, .int .i64 0, .int .i64 0]) 24 Tryz.underlying27 (by kernel_rfl) rfl (by decide) encC_len encC_one (w1.heap.size) _ _ _ _ (by rfl) (hown3.drew.alloc _) (x + dx, y + dy, s) ⟨(z3.world.drew).heap.size, 0, none⟩ 1 (by rfl) (cells_new (z3.world.drew) _ _) (by omega) (by omega) (by first | omega | (simp; done) | (simp; omega)) ?_; intro A4 c4 w4 hown4 hg4 hb4)))
            go_wp2
            go_roundw
            case rel => exact ⟨A4, c4, j + 1, rfl, by go_num, by omega, by rw [htk.out]; exact hown4, hpl2, below_after hb4 (bl_of_drew_alloc hB3 _) (by have := hB3.size; first | omega | (simp; done) | (simp; omega))⟩
            case measure => simp [intOf]; omega
        · obtain rfl : j = n := by omega
          have HE := Lib.hid (shE_ok HR.out HF.out (all_of_plTo hR.len hpl.out))
          go_wp2
          go_ret2
          exact ⟨B, j, d, ret_pe HE.out.symm, by rw [shL_ok HE.out, show l.map (mv dx dy) = (l.map (mv dx dy)).take j by rw [List.take_of_length_le (by rw [List.length_map, hR.len]; omega)]]; exact hown.rd encC_len, by omega, below_after hb hB1 (by omega)⟩
end Go.Proofs.YtellglbmbocgkaaGreatDoor
