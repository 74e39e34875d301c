/- The contracts of direct.place, its reference, direct.of, and the new state of a cell. The contracts of direct.check and its reference, and of direct.Next. The contract of direct.step. The contracts of direct.Step, Run and History. -/
import Derived.Test.YtellglbmbocgkaaGreatDoorTRE
import Derived.Test.YtellglbmbocgkaaGreatDoorPLN
import Derived.Test.YtellglbmbocgkaaGreatDoorMAP
import Derived.Test.YtellglbmbocgkaaGreatDoorCEL
import Derived.Test.YtellglbmbocgkaaGreatDoorSRT
import Derived.Test.YtellglbmbocgkaaGreatDoorMEM
set_option linter.unusedSimpArgs false
set_option linter.unusedVariables false
section
namespace Go.Proofs.YtellglbmbocgkaaGreatDoor
open Go Go.RowKit
set_option maxRecDepth 100000
set_option linter.unusedSimpArgs false
set_option linter.unusedVariables false
theorem direct_place (x y : Int) (w : World) : Calls Tryz.prog 73 #[.agg #[.int .i64 x, .int .i64 y]] w fun e w' => e = .returned (.bool (validB x y)) ∧ Below w.heap.size w w' := by
  go_enter Tryz.func73, Tryz.ntmps73
  go_wp2
  all_goals (go_ret; refine ⟨ret_bool ?_, by (repeat' (first | exact Below.refl _ _ | assumption | (refine Below.alloc ?_ ?_ _) | (refine Below.setCell ?_ ?_ _) | (refine Below.drew ?_) | (refine below_drewN ?_ _) | (refine below_after (Ext.below _) ?_ ?_) | (refine below_after (by assumption) ?_ ?_) | (simp; done) | omega | (simp; omega)))⟩; (try simp only [Bool.not_eq_eq_eq_not, Bool.not_true, Bool.not_false, decide_eq_false_iff_not, decide_eq_true_eq, Int.not_le, Int.not_lt] at *); rw [Bool.eq_iff_iff]; simp [validB]; try omega)
theorem direct_placeV {x y : Int} {q : Bool} (h : validB x y = q) (w : World) : Calls Tryz.prog 73 #[.agg #[.int .i64 x, .int .i64 y]] w fun e w' => e = .returned (.bool q) ∧ Below w.heap.size w w' := by
  rw [← h]; exact direct_place x y w
theorem i64_pt {x y s : Int} (h : Pt x y ∧ 1 ≤ s ∧ s ≤ 7) : I64 x ∧ I64 y ∧ I64 s := by
  unfold Pt I64 at *; omega
theorem below_map1 {B b : Nat} {w0 w w' : World} (h : Below B w0 w) (hg : w.grownBy w' (some b)) (hw : B ≤ w.heap.size) (hB : B ≤ b) : Below B w0 w' :=
  h.grown hg hw fun g e => by injection e with e; omega
set_option maxHeartbeats 2000000 in
theorem direct_of (A : Option Addr) (n c : Nat) (p : List (Int × Int × Int)) (w : World) (hR : Rd encC 3 w A n p) (hr : rightC p = true) :
    Calls Tryz.prog 71 #[.slice A n c] w fun e w' => ∃ b, e = .returned (.map (some b)) ∧ PM b n (ofF p) w' ∧ b < w'.heap.size ∧ w.heap.size ≤ b ∧ Below w.heap.size w w' := by
  have hn5 : n ≤ 5000 := by rw [← hR.len]; exact (rightC_ok hr).1
  have hr := Lib.hid hr
  go_enter Tryz.func71, Tryz.ntmps71
  go_wp2_with fail
  rw [run_makeMap]
  have hpm0 := PM.made w
  have hB0 : Below w.heap.size w (w.alloc (.map #[] 0)) := by (repeat' (first | exact Below.refl _ _ | assumption | (refine Below.alloc ?_ ?_ _) | (refine Below.setCell ?_ ?_ _) | (refine Below.drew ?_) | (refine below_drewN ?_ _) | (refine below_after (Ext.below _) ?_ ?_) | (refine below_after (by assumption) ?_ ?_) | (simp; done) | omega | (simp; omega)))
  go_wp2
  go_loopw [9] (fun t wr => ∃ j : Nat, t = .int .i64 j ∧ j ≤ n ∧ PM w.heap.size j (ofF (p.take j)) wr ∧ Below w.heap.size w wr) (fun t _ => n - (intOf t).toNat)
  case atStart => exact ⟨0, rfl, by omega, hpm0, hB0⟩
  case round =>
    clear hpm0 hB0
    obtain ⟨j, rfl, hj, hpm, hb⟩ := hrel
    obtain ⟨hc, hf⟩ := bcell hb
    have hs := hb.size
    have hlt0 := hpm.lt
    by_cases hlt : j < n
    · have dj : decide ((j : Int) < n) = true := decide_eq_true (by omega)
      obtain ⟨x, y, s, b, o, hx, rfl, hbl, g1, g2, g3⟩ := hR.cell hlt
      obtain ⟨ix, iy, is⟩ := i64_pt (rightC_elem hr.out hx.out)
      have hst := Lib.hid (of_step hx.out)
      go_wp2_with (first | (at_mapUpdate; refine wpList_pm_put rfl _ _ _ _ rfl Tryz.underlying135 w.heap.size j (ofF (p.take j)) rfl (hpm.alloc _) (by omega) x y s ix iy is rfl rfl ?_; intro w6 hpm6 hg6))
      have hb6 : Below w.heap.size w w6 := below_map1 (by (repeat' (first | exact Below.refl _ _ | assumption | (refine Below.alloc ?_ ?_ _) | (refine Below.setCell ?_ ?_ _) | (refine Below.drew ?_) | (refine below_drewN ?_ _) | (refine below_after (Ext.below _) ?_ ?_) | (refine below_after (by assumption) ?_ ?_) | (simp; done) | omega | (simp; omega)))) hg6 (by simp; omega) (Nat.le_refl _)
      go_roundw
      case rel => exact ⟨j + 1, by go_num, by omega, by rw [hst.out]; exact hpm6, hb6⟩
      case measure => simp [intOf]; omega
    · obtain rfl : j = n := by omega
      have dj : decide ((j : Int) < j) = false := decide_eq_false (by omega)
      rw [of_all hR.len] at hpm
      go_wp2
      go_ret
      exact ⟨_, rfl, hpm, hlt0, Nat.le_refl _, hb⟩
set_option maxHeartbeats 4000000 in
theorem direct_next (st : Int) (A B : Option Addr) (n c m d b k : Nat) (H : List (Int × Int)) (N : List (Int × List Int)) (p : List (Int × Int × Int)) (f : Int → Int → Option Int) (x y : Int) (w : World) (hH : Rd encP 2 w A n H) (hN : RdX ekN w B m N) (hpm : PM b k f w) (hg : ∀ x y, (f x y).getD 0 = getC p x y) (hf : FitsR st H N p) (hx : -2000000 ≤ x ∧ x ≤ 2000000) (hy : -2000000 ≤ y ∧ y ≤ 2000000) :
    Calls Tryz.prog 72 #[.map (some b), .agg #[.int .i64 st, .slice A n c, .slice B m d], .agg #[.int .i64 x, .int .i64 y]] w fun e w' => e = .returned (.int .i64 (nxT H N p x y)) ∧ Below w.heap.size w w' := by
  have hR := (trQ_parts hf.rule).1
  have hm := (trR_parts hR).2.2.1
  have hh := Lib.hid (hood_in (trR_parts hR).2.1).2
  have hNl := hN.len
  have hHl := hH.len
  have hn25 : n ≤ 25 := by rw [← hHl]; exact (hood_in (trR_parts hR).2.1).1
  rw [hNl] at hm
  obtain ⟨q0, rfl⟩ : ∃ q, m = q + 1 := ⟨m - 1, by omega⟩
  have b0 : IntKind.i64.wrap ((q0 : Int) + 1 - 1) = (q0 : Int) := by rw [IntWalk.i64_in _ (by omega)]; omega
  have hv0 : (q0 : Int) = valK N (nbS H p x y) 0 := by
    show (q0 : Int) = (N.length : Int) - 1
    omega
  replace hv0 := Lib.hid hv0
  have hIl : (nbS H p x y).length = n := by rw [nbS_len, hHl]
  have hRl := Lib.hid (show trR st H N = true ∧ (nbS H p x y).length = H.length ∧ ∀ s ∈ nbS H p x y, 0 ≤ s ∧ s < st from ⟨hR, nbS_len, nbS_ok hf x y⟩)
  have hE := Lib.hid (nxT_ins (H := H) (N := N) (p := p) (x := x) (y := y))
  generalize nxT H N p x y = res at hE ⊢
  replace hNl := Lib.hid hNl
  replace hHl := Lib.hid hHl
  replace hIl := Lib.hid hIl
  replace hg := Lib.hid hg
  clear hR hf
  go_enter Tryz.func72, Tryz.ntmps72
  go_wp2_with fail
  have hbx := (TrAt.new w (.int .i64 st) (.slice A n c) (.slice B (q0 + 1) d) 25).of ((Below.refl _ _).alloc (Nat.le_refl _) (.cells #[.int .i64 x, .int .i64 y] 139))
  have hdx := DuAt.new (w.alloc (.cells #[.int .i64 st, .slice A n c, .slice B (q0 + 1) d] 25)) (.int .i64 x) (.int .i64 y) 139
  rw [World.size_alloc] at hdx
  have hbe : Below w.heap.size w ((w.alloc (.cells #[.int .i64 st, .slice A n c, .slice B (q0 + 1) d] 25)).alloc (.cells #[.int .i64 x, .int .i64 y] 139)) := by (repeat' (first | exact Below.refl _ _ | assumption | (refine Below.alloc ?_ ?_ _) | (refine Below.setCell ?_ ?_ _) | (refine Below.drew ?_) | (refine below_drewN ?_ _) | (refine below_after (Ext.below _) ?_ ?_) | (refine below_after (by assumption) ?_ ?_) | (simp; done) | omega | (simp; omega)))
  obtain ⟨we, hwe⟩ : ∃ we, we = (w.alloc (.cells #[.int .i64 st, .slice A n c, .slice B (q0 + 1) d] 25)).alloc (.cells #[.int .i64 x, .int .i64 y] 139) := ⟨_, rfl⟩
  rw [← hwe] at hbx hdx hbe ⊢
  replace hN := hN.of hbe
  replace hH := hH.of hbe
  replace hpm := hpm.of hbe
  clear hwe
  go_loopw [7, 17] (fun v t wr => ∃ j q : Nat, v = .int .i64 q ∧ t = .int .i64 j ∧ j ≤ n ∧ Hid ((q : Int) = valK N (nbS H p x y) j) ∧ Below we.heap.size we wr) (fun _ t _ => n - (intOf t).toNat)
  case atStart => exact ⟨0, q0, by first | rfl | simp, rfl, by omega, hv0, Below.refl _ _⟩
  case round =>
    obtain ⟨j, q, rfl, rfl, hj, hq, hb⟩ := hrel
    have hsz := hb.size
    by_cases hlj : j < n
    · have dj : decide ((j : Int) < n) = true := decide_eq_true (by omega)
      obtain ⟨hqm, lv, nx, s, r, hx1, hsj, hslt, hr, hre⟩ := val_at hRl.out.1 hRl.out.2.1 hRl.out.2.2 (by rw [hIl.out]; exact hlj) hq.out
      rw [hNl.out] at hqm
      obtain ⟨ox, oy, bo, oo, hxo, rfl, hbo, o1, o2⟩ := (hH.of hb).pt hlj
      have hov := hh.out _ (List.mem_of_getElem? hxo.out)
      simp only at hov
      have hgv : (f (x + ox) (y + oy)).getD 0 = (s : Int) := by
        rw [hg.out]
        have h1 := nbS_at (p := p) (x := x) (y := y) hxo.out
        rw [h1] at hsj
        injection hsj
      obtain ⟨u1, hu1⟩ : ∃ u1, u1 = x + ox := ⟨_, rfl⟩
      obtain ⟨u2, hu2⟩ : ∃ u2, u2 = y + oy := ⟨_, rfl⟩
      have ex2 : IntKind.i64.wrap (x + ox) = u1 := (IntWalk.i64_in _ (by omega)).trans hu1.symm
      have ey2 : IntKind.i64.wrap (y + oy) = u2 := (IntWalk.i64_in _ (by omega)).trans hu2.symm
      rw [← hu1, ← hu2] at hgv
      have iu : I64 u1 := by unfold I64; omega
      have iv : I64 u2 := by unfold I64; omega
      replace hu1 := Lib.hid hu1
      replace hu2 := Lib.hid hu2
      replace hgv := Lib.hid hgv
      clear hov hxo
      go_wp2_with fail
      have hdo := DuAt.new wr (.int .i64 ox) (.int .i64 oy) 139
      have hbd : Below wr.heap.size wr (wr.alloc (.cells #[.int .i64 ox, .int .i64 oy] 139)) := (Below.refl _ _).alloc (Nat.le_refl _) _
      obtain ⟨wa, hwa⟩ : ∃ wa, wa = wr.alloc (.cells #[.int .i64 ox, .int .i64 oy] 139) := ⟨_, rfl⟩
      rw [← hwa] at hdo hbd ⊢
      have hba : Below we.heap.size we wa := below_thru hb hbd
      obtain ⟨hb1s, t0, t1, t2⟩ := hbx.of hba
      obtain ⟨hb2s, y0, y1⟩ := hdx.of hba
      obtain ⟨hb3s, z0, z1⟩ := hdo
      obtain ⟨lv', nx', E, me, ce, bn, on, hx', rfl, hbl, g1, g2, hE2, _⟩ := (hN.of hba).node hqm
      have e1 := hx'.out
      rw [hx1] at e1
      injection e1 with e1
      injection e1 with e1 e2
      subst e1 e2
      have hEl := hE2.len
      have hsm : s < me := by omega
      obtain ⟨x2, be, oe, hxe, rfl, hbe2, hce⟩ := hE2.int hsm
      obtain rfl : x2 = (r : Int) := by have := hxe.out; rw [hr] at this; injection this with this; exact this.symm
      have hlk : ∀ z : Ext wa, (Instr.lookup 135 (.map (some b)) (.agg #[.int .i64 u1, .int .i64 u2]) false).run Tryz.prog z.world = .ok (.int .i64 (s : Int)) z.world := fun z => PM.look (hpm.of (below_thru hba z.below)) Tryz.underlying135 iu iv hgv.out
      replace hre := Lib.hid hre
      clear hwa hx1 hsj hr hx' hxe hEl o1 o2
      (refine wp_region_ext_lit (by kernel_rfl) (by kernel_rfl) ?_; (repeat (go_big_quiet_step (fail))); refine wpQuiet_nil ?_; intro _ hw'; obtain ⟨z5, hw''⟩ := hw'; subst hw''; have hs5 := z5.size; obtain ⟨hc5, hf5⟩ := bcell z5.below; (try simp only [World.size_alloc, World.size_setCell, World.size_drew] at hc5 hf5); (try simp at hs5))
      have hB5 : Below we.heap.size we z5.world := below_thru hba z5.below
      go_wp2_with fail
      go_roundw
      case rel => exact ⟨j + 1, r, by first | rfl | trivial, by go_num, by omega, hre, hB5⟩
      case measure => simp [intOf]; omega
    · obtain rfl : j = n := by omega
      have dj : decide ((j : Int) < j) = false := decide_eq_false (by omega)
      have hE' := Lib.hid (show (q : Int) = res by rw [hE.out, hq.out, valK_all hIl.out])
      have hfin := below_thru hbe hb
      go_wp2_with fail
      go_ret
      exact ⟨ret_int hE'.out, hfin⟩
end Go.Proofs.YtellglbmbocgkaaGreatDoor
end
section
namespace Go.Proofs.YtellglbmbocgkaaGreatDoor
open Go Go.RowKit
set_option maxRecDepth 100000
set_option linter.unusedSimpArgs false
set_option linter.unusedVariables false
section
variable (st : Int) (A B D : Option Addr) (n c m d k e : Nat) (H : List (Int × Int)) (N : List (Int × List Int)) (p : List (Int × Int × Int)) (w : World)
set_option maxHeartbeats 4000000 in
theorem direct_check (hH : Rd encP 2 w A n H) (hN : RdX ekN w B m N) (hR : Rd encC 3 w D k p) (hk : k ≤ 1000000) :
    Calls Tryz.prog 32 #[.agg #[.int .i64 st, .slice A n c, .slice B m d], .slice D k e] w fun e w' => e = .returned (.int .i64 (fitE st H N p)) ∧ Below w.heap.size w w' := by
  have kQ := fun w1 h1 h2 => tree_Quiet st A B n c m d H N w1 h1 h2
  have kP := fun w1 h1 => pat_Right D k e p w1 h1 (by omega)
  cases hq : trQ st H N with
  | false =>
    have HE := Lib.hid (fit_rule (p := p) hq)
    rw [hq] at kQ
    clear hq
    go_enter Tryz.func32, Tryz.ntmps32
    go_wp2_with fail; go_at_call 36; refine (kQ _ (hH.of (by (repeat' (first | exact Below.refl _ _ | assumption | (refine Below.alloc ?_ ?_ _) | (refine Below.setCell ?_ ?_ _) | (refine Below.drew ?_) | (refine below_drewN ?_ _) | (refine below_after (Ext.below _) ?_ ?_) | (refine below_after (by assumption) ?_ ?_) | (simp; done) | omega | (simp; omega))))) (hN.of (by (repeat' (first | exact Below.refl _ _ | assumption | (refine Below.alloc ?_ ?_ _) | (refine Below.setCell ?_ ?_ _) | (refine Below.drew ?_) | (refine below_drewN ?_ _) | (refine below_after (Ext.below _) ?_ ?_) | (refine below_after (by assumption) ?_ ?_) | (simp; done) | omega | (simp; omega)))))).mono ?_; rintro e w1 ⟨rfl, hb1⟩; have hs1 := hb1.size; (try simp only [World.size_alloc, World.size_drew, World.size_setCell] at hs1)
    go_wp2_with fail
    go_ret
    exact ⟨ret_int HE.out.symm, by (repeat' (first | exact Below.refl _ _ | assumption | (refine Below.alloc ?_ ?_ _) | (refine Below.setCell ?_ ?_ _) | (refine Below.drew ?_) | (refine below_drewN ?_ _) | (refine below_after (Ext.below _) ?_ ?_) | (refine below_after (by assumption) ?_ ?_) | (simp; done) | omega | (simp; omega)))⟩
  | true =>
    cases hp : rightC p with
    | false =>
      have HE := Lib.hid (fit_pat hq hp)
      rw [hq] at kQ
      rw [hp] at kP
      clear hq hp
      go_enter Tryz.func32, Tryz.ntmps32
      go_wp2_with fail; go_at_call 36; refine (kQ _ (hH.of (by (repeat' (first | exact Below.refl _ _ | assumption | (refine Below.alloc ?_ ?_ _) | (refine Below.setCell ?_ ?_ _) | (refine Below.drew ?_) | (refine below_drewN ?_ _) | (refine below_after (Ext.below _) ?_ ?_) | (refine below_after (by assumption) ?_ ?_) | (simp; done) | omega | (simp; omega))))) (hN.of (by (repeat' (first | exact Below.refl _ _ | assumption | (refine Below.alloc ?_ ?_ _) | (refine Below.setCell ?_ ?_ _) | (refine Below.drew ?_) | (refine below_drewN ?_ _) | (refine below_after (Ext.below _) ?_ ?_) | (refine below_after (by assumption) ?_ ?_) | (simp; done) | omega | (simp; omega)))))).mono ?_; rintro e w1 ⟨rfl, hb1⟩; have hs1 := hb1.size; (try simp only [World.size_alloc, World.size_drew, World.size_setCell] at hs1)
      go_wp2_with fail; go_at_call 70; refine (kP _ (hR.of (by (repeat' (first | exact Below.refl _ _ | assumption | (refine Below.alloc ?_ ?_ _) | (refine Below.setCell ?_ ?_ _) | (refine Below.drew ?_) | (refine below_drewN ?_ _) | (refine below_after (Ext.below _) ?_ ?_) | (refine below_after (by assumption) ?_ ?_) | (simp; done) | omega | (simp; omega)))))).mono ?_; rintro e w2 ⟨rfl, hb2⟩; have hs2 := hb2.size; (try simp only [World.size_alloc, World.size_drew, World.size_setCell] at hs2)
      go_wp2_with fail
      go_ret
      exact ⟨ret_int HE.out.symm, by (repeat' (first | exact Below.refl _ _ | assumption | (refine Below.alloc ?_ ?_ _) | (refine Below.setCell ?_ ?_ _) | (refine Below.drew ?_) | (refine below_drewN ?_ _) | (refine below_after (Ext.below _) ?_ ?_) | (refine below_after (by assumption) ?_ ?_) | (simp; done) | omega | (simp; omega)))⟩
    | true =>
      have hst := (trR_parts (trQ_parts hq).1).1
      have HE := Lib.hid (show fitE st H N p = if decide (st ≤ topC p) = true then 10 else 0 by rw [fit_top hq hp, top_any (by omega)])
      have kT := fun w1 h1 => pat_Top D k e p w1 h1 hk
      rw [hq] at kQ
      rw [hp] at kP
      generalize topC p = tp at kT HE
      clear hq hp
      cases dt : decide (st ≤ tp) with
      | false =>
        have HE := Lib.hid (show fitE st H N p = 0 by rw [HE.out, dt]; rfl)
        go_enter Tryz.func32, Tryz.ntmps32
        go_wp2_with fail; go_at_call 36; refine (kQ _ (hH.of (by (repeat' (first | exact Below.refl _ _ | assumption | (refine Below.alloc ?_ ?_ _) | (refine Below.setCell ?_ ?_ _) | (refine Below.drew ?_) | (refine below_drewN ?_ _) | (refine below_after (Ext.below _) ?_ ?_) | (refine below_after (by assumption) ?_ ?_) | (simp; done) | omega | (simp; omega))))) (hN.of (by (repeat' (first | exact Below.refl _ _ | assumption | (refine Below.alloc ?_ ?_ _) | (refine Below.setCell ?_ ?_ _) | (refine Below.drew ?_) | (refine below_drewN ?_ _) | (refine below_after (Ext.below _) ?_ ?_) | (refine below_after (by assumption) ?_ ?_) | (simp; done) | omega | (simp; omega)))))).mono ?_; rintro e w1 ⟨rfl, hb1⟩; have hs1 := hb1.size; (try simp only [World.size_alloc, World.size_drew, World.size_setCell] at hs1)
        go_wp2_with fail; go_at_call 70; refine (kP _ (hR.of (by (repeat' (first | exact Below.refl _ _ | assumption | (refine Below.alloc ?_ ?_ _) | (refine Below.setCell ?_ ?_ _) | (refine Below.drew ?_) | (refine below_drewN ?_ _) | (refine below_after (Ext.below _) ?_ ?_) | (refine below_after (by assumption) ?_ ?_) | (simp; done) | omega | (simp; omega)))))).mono ?_; rintro e w2 ⟨rfl, hb2⟩; have hs2 := hb2.size; (try simp only [World.size_alloc, World.size_drew, World.size_setCell] at hs2)
        obtain ⟨hbs, t0, t1, t2⟩ := (TrAt.new w (.int .i64 st) (.slice A n c) (.slice B m d) 25).of (below_thru hb1 hb2)
        go_wp2_with fail
        (refine wp_region_ext_lit (by kernel_rfl) (by kernel_rfl) ?_; (repeat (go_big_quiet_step ((go_at_call 39; exact calls_ext (kT _ (hR.of (by (repeat' (first | exact Below.refl _ _ | assumption | (refine Below.alloc ?_ ?_ _) | (refine Below.setCell ?_ ?_ _) | (refine Below.drew ?_) | (refine below_drewN ?_ _) | (refine below_after (Ext.below _) ?_ ?_) | (refine below_after (by assumption) ?_ ?_) | (simp; done) | omega | (simp; omega)))))))))); refine wpQuiet_nil ?_; intro _ hw'; obtain ⟨z3, hw''⟩ := hw'; subst hw''; have hs3 := z3.size; obtain ⟨hc3, hf3⟩ := bcell z3.below; (try simp only [World.size_alloc, World.size_setCell, World.size_drew] at hc3 hf3); (try simp at hs3))
        go_wp2_with fail
        go_ret
        exact ⟨ret_int HE.out.symm, by (repeat' (first | exact Below.refl _ _ | assumption | (refine Below.alloc ?_ ?_ _) | (refine Below.setCell ?_ ?_ _) | (refine Below.drew ?_) | (refine below_drewN ?_ _) | (refine below_after (Ext.below _) ?_ ?_) | (refine below_after (by assumption) ?_ ?_) | (simp; done) | omega | (simp; omega)))⟩
      | true =>
        have HE := Lib.hid (show fitE st H N p = 10 by rw [HE.out, dt]; rfl)
        go_enter Tryz.func32, Tryz.ntmps32
        go_wp2_with fail; go_at_call 36; refine (kQ _ (hH.of (by (repeat' (first | exact Below.refl _ _ | assumption | (refine Below.alloc ?_ ?_ _) | (refine Below.setCell ?_ ?_ _) | (refine Below.drew ?_) | (refine below_drewN ?_ _) | (refine below_after (Ext.below _) ?_ ?_) | (refine below_after (by assumption) ?_ ?_) | (simp; done) | omega | (simp; omega))))) (hN.of (by (repeat' (first | exact Below.refl _ _ | assumption | (refine Below.alloc ?_ ?_ _) | (refine Below.setCell ?_ ?_ _) | (refine Below.drew ?_) | (refine below_drewN ?_ _) | (refine below_after (Ext.below _) ?_ ?_) | (refine below_after (by assumption) ?_ ?_) | (simp; done) | omega | (simp; omega)))))).mono ?_; rintro e w1 ⟨rfl, hb1⟩; have hs1 := hb1.size; (try simp only [World.size_alloc, World.size_drew, World.size_setCell] at hs1)
        go_wp2_with fail; go_at_call 70; refine (kP _ (hR.of (by (repeat' (first | exact Below.refl _ _ | assumption | (refine Below.alloc ?_ ?_ _) | (refine Below.setCell ?_ ?_ _) | (refine Below.drew ?_) | (refine below_drewN ?_ _) | (refine below_after (Ext.below _) ?_ ?_) | (refine below_after (by assumption) ?_ ?_) | (simp; done) | omega | (simp; omega)))))).mono ?_; rintro e w2 ⟨rfl, hb2⟩; have hs2 := hb2.size; (try simp only [World.size_alloc, World.size_drew, World.size_setCell] at hs2)
        obtain ⟨hbs, t0, t1, t2⟩ := (TrAt.new w (.int .i64 st) (.slice A n c) (.slice B m d) 25).of (below_thru hb1 hb2)
        go_wp2_with fail
        (refine wp_region_ext_lit (by kernel_rfl) (by kernel_rfl) ?_; (repeat (go_big_quiet_step ((go_at_call 39; exact calls_ext (kT _ (hR.of (by (repeat' (first | exact Below.refl _ _ | assumption | (refine Below.alloc ?_ ?_ _) | (refine Below.setCell ?_ ?_ _) | (refine Below.drew ?_) | (refine below_drewN ?_ _) | (refine below_after (Ext.below _) ?_ ?_) | (refine below_after (by assumption) ?_ ?_) | (simp; done) | omega | (simp; omega)))))))))); refine wpQuiet_nil ?_; intro _ hw'; obtain ⟨z3, hw''⟩ := hw'; subst hw''; have hs3 := z3.size; obtain ⟨hc3, hf3⟩ := bcell z3.below; (try simp only [World.size_alloc, World.size_setCell, World.size_drew] at hc3 hf3); (try simp at hs3))
        go_wp2_with fail
        go_ret
        exact ⟨ret_int HE.out.symm, by (repeat' (first | exact Below.refl _ _ | assumption | (refine Below.alloc ?_ ?_ _) | (refine Below.setCell ?_ ?_ _) | (refine Below.drew ?_) | (refine below_drewN ?_ _) | (refine below_after (Ext.below _) ?_ ?_) | (refine below_after (by assumption) ?_ ?_) | (simp; done) | omega | (simp; omega)))⟩
theorem top_no {st : Int} {p : List (Int × Int × Int)} {n : Nat} (hl : p.length = n) (h : ∀ (i : Nat) c, i < n → p[i]? = some c → c.2.2 < st) : p.any (fun c => decide (st ≤ c.2.2)) = false := by
  rw [List.any_eq_false]
  intro c hc
  obtain ⟨i, hi, rfl⟩ := List.getElem_of_mem hc
  have := h i _ (by omega) (List.getElem?_eq_getElem hi)
  simp; omega
theorem top_yes {st : Int} {p : List (Int × Int × Int)} {i : Nat} {c : Int × Int × Int} (hc : p[i]? = some c) (h : st ≤ c.2.2) : p.any (fun c => decide (st ≤ c.2.2)) = true :=
  List.any_eq_true.2 ⟨c, List.mem_of_getElem? hc, decide_eq_true h⟩
set_option maxHeartbeats 4000000 in
theorem ref20_Fits (hH : Rd encP 2 w A n H) (hN : RdX ekN w B m N) (hR : Rd encC 3 w D k p) (hk : k ≤ 1000000) :
    Calls Tryz.prog 16 #[.agg #[.int .i64 st, .slice A n c, .slice B m d], .slice D k e] w fun e w' => e = .returned (.int .i64 (fitE st H N p)) ∧ Below w.heap.size w w' := by
  have kQ := fun w1 h1 h2 => ref12_Quiet st A B n c m d H N w1 h1 h2
  have kP := fun w1 h1 => ref05_Right D k e p w1 h1 (by omega)
  cases hq : trQ st H N with
  | false =>
    have HE := Lib.hid (fit_rule (p := p) hq)
    rw [hq] at kQ
    clear hq
    go_enter Tryz.func16, Tryz.ntmps16
    go_wp2_with fail; go_at_call 42; refine (kQ _ (hH.of (by (repeat' (first | exact Below.refl _ _ | assumption | (refine Below.alloc ?_ ?_ _) | (refine Below.setCell ?_ ?_ _) | (refine Below.drew ?_) | (refine below_drewN ?_ _) | (refine below_after (Ext.below _) ?_ ?_) | (refine below_after (by assumption) ?_ ?_) | (simp; done) | omega | (simp; omega))))) (hN.of (by (repeat' (first | exact Below.refl _ _ | assumption | (refine Below.alloc ?_ ?_ _) | (refine Below.setCell ?_ ?_ _) | (refine Below.drew ?_) | (refine below_drewN ?_ _) | (refine below_after (Ext.below _) ?_ ?_) | (refine below_after (by assumption) ?_ ?_) | (simp; done) | omega | (simp; omega)))))).mono ?_; rintro e w1 ⟨rfl, hb1⟩; have hs1 := hb1.size; (try simp only [World.size_alloc, World.size_drew, World.size_setCell] at hs1)
    go_wp2_with fail
    go_ret
    exact ⟨ret_int HE.out.symm, by (repeat' (first | exact Below.refl _ _ | assumption | (refine Below.alloc ?_ ?_ _) | (refine Below.setCell ?_ ?_ _) | (refine Below.drew ?_) | (refine below_drewN ?_ _) | (refine below_after (Ext.below _) ?_ ?_) | (refine below_after (by assumption) ?_ ?_) | (simp; done) | omega | (simp; omega)))⟩
  | true =>
    cases hp : rightC p with
    | false =>
      have HE := Lib.hid (fit_pat hq hp)
      rw [hq] at kQ
      rw [hp] at kP
      clear hq hp
      go_enter Tryz.func16, Tryz.ntmps16
      go_wp2_with fail; go_at_call 42; refine (kQ _ (hH.of (by (repeat' (first | exact Below.refl _ _ | assumption | (refine Below.alloc ?_ ?_ _) | (refine Below.setCell ?_ ?_ _) | (refine Below.drew ?_) | (refine below_drewN ?_ _) | (refine below_after (Ext.below _) ?_ ?_) | (refine below_after (by assumption) ?_ ?_) | (simp; done) | omega | (simp; omega))))) (hN.of (by (repeat' (first | exact Below.refl _ _ | assumption | (refine Below.alloc ?_ ?_ _) | (refine Below.setCell ?_ ?_ _) | (refine Below.drew ?_) | (refine below_drewN ?_ _) | (refine below_after (Ext.below _) ?_ ?_) | (refine below_after (by assumption) ?_ ?_) | (simp; done) | omega | (simp; omega)))))).mono ?_; rintro e w1 ⟨rfl, hb1⟩; have hs1 := hb1.size; (try simp only [World.size_alloc, World.size_drew, World.size_setCell] at hs1)
      go_wp2_with fail; go_at_call 43; refine (kP _ (hR.of (by (repeat' (first | exact Below.refl _ _ | assumption | (refine Below.alloc ?_ ?_ _) | (refine Below.setCell ?_ ?_ _) | (refine Below.drew ?_) | (refine below_drewN ?_ _) | (refine below_after (Ext.below _) ?_ ?_) | (refine below_after (by assumption) ?_ ?_) | (simp; done) | omega | (simp; omega)))))).mono ?_; rintro e w2 ⟨rfl, hb2⟩; have hs2 := hb2.size; (try simp only [World.size_alloc, World.size_drew, World.size_setCell] at hs2)
      go_wp2_with fail
      go_ret
      exact ⟨ret_int HE.out.symm, by (repeat' (first | exact Below.refl _ _ | assumption | (refine Below.alloc ?_ ?_ _) | (refine Below.setCell ?_ ?_ _) | (refine Below.drew ?_) | (refine below_drewN ?_ _) | (refine below_after (Ext.below _) ?_ ?_) | (refine below_after (by assumption) ?_ ?_) | (simp; done) | omega | (simp; omega)))⟩
    | true =>
      have hRl := Lib.hid hR.len
      have HE := Lib.hid (fit_top hq hp)
      rw [hq] at kQ
      rw [hp] at kP
      clear hq hp
      go_enter Tryz.func16, Tryz.ntmps16
      go_wp2_with fail
      have hbx := TrAt.new w (.int .i64 st) (.slice A n c) (.slice B m d) 25
      have hbe : Below w.heap.size w (w.alloc (.cells #[.int .i64 st, .slice A n c, .slice B m d] 25)) := (Below.refl _ _).alloc (Nat.le_refl _) _
      obtain ⟨we, hwe⟩ : ∃ we, we = w.alloc (.cells #[.int .i64 st, .slice A n c, .slice B m d] 25) := ⟨_, rfl⟩
      rw [← hwe] at hbx hbe ⊢
      replace hH := hH.of hbe
      replace hN := hN.of hbe
      replace hR := hR.of hbe
      clear hwe
      go_wp2_with fail; go_at_call 42; refine (kQ _ (hH.of (by (repeat' (first | exact Below.refl _ _ | assumption | (refine Below.alloc ?_ ?_ _) | (refine Below.setCell ?_ ?_ _) | (refine Below.drew ?_) | (refine below_drewN ?_ _) | (refine below_after (Ext.below _) ?_ ?_) | (refine below_after (by assumption) ?_ ?_) | (simp; done) | omega | (simp; omega))))) (hN.of (by (repeat' (first | exact Below.refl _ _ | assumption | (refine Below.alloc ?_ ?_ _) | (refine Below.setCell ?_ ?_ _) | (refine Below.drew ?_) | (refine below_drewN ?_ _) | (refine below_after (Ext.below _) ?_ ?_) | (refine below_after (by assumption) ?_ ?_) | (simp; done) | omega | (simp; omega)))))).mono ?_; rintro e w1 ⟨rfl, hb1⟩; have hs1 := hb1.size; (try simp only [World.size_alloc, World.size_drew, World.size_setCell] at hs1)
      go_wp2_with fail; go_at_call 43; refine (kP _ (hR.of (by (repeat' (first | exact Below.refl _ _ | assumption | (refine Below.alloc ?_ ?_ _) | (refine Below.setCell ?_ ?_ _) | (refine Below.drew ?_) | (refine below_drewN ?_ _) | (refine below_after (Ext.below _) ?_ ?_) | (refine below_after (by assumption) ?_ ?_) | (simp; done) | omega | (simp; omega)))))).mono ?_; rintro e w2 ⟨rfl, hb2⟩; have hs2 := hb2.size; (try simp only [World.size_alloc, World.size_drew, World.size_setCell] at hs2)
      have hB2 : Below we.heap.size we w2 := below_thru hb1 hb2
      clear hb1 hb2 hs1 hs2
      go_wp2_with fail
      go_loopw [5] (fun t wr => ∃ j : Nat, t = .int .i64 j ∧ j ≤ k ∧ Below we.heap.size we wr ∧ Hid (∀ (i : Nat) c, i < j → p[i]? = some c → c.2.2 < st)) (fun t _ => k - (intOf t).toNat)
      case atStart => exact ⟨0, rfl, by omega, hB2, Lib.hid fun i c hi => absurd hi (by omega)⟩
      case round =>
        clear hB2
        obtain ⟨j, rfl, hj, hb, hno⟩ := hrel
        have hsz := hb.size
        have hsz0 := hbe.size
        have hfin : Below w.heap.size w wr := below_thru hbe hb
        obtain ⟨hbs, t0, t1, t2⟩ := hbx.of hb
        by_cases hlj : j < k
        · have dj : decide ((j : Int) < k) = true := decide_eq_true (by omega)
          have dj' : decide (j < k) = true := decide_eq_true hlj
          obtain ⟨x, y, s, b, o, hx, rfl, hbl, g1, g2, g3⟩ := (hR.of hb).cell hlj
          cases hs : decide (st ≤ s) with
          | true =>
            have HE' := Lib.hid (show fitE st H N p = 10 by rw [HE.out, if_pos (top_yes hx.out (of_decide_eq_true hs))])
            go_wp2_with fail
            (refine wp_region_ext_lit (by kernel_rfl) (by kernel_rfl) ?_; (repeat (go_big_quiet_step (fail))); refine wpQuiet_nil ?_; intro _ hw'; obtain ⟨z3, hw''⟩ := hw'; subst hw''; have hs3 := z3.size; obtain ⟨hc3, hf3⟩ := bcell z3.below; (try simp only [World.size_alloc, World.size_setCell, World.size_drew] at hc3 hf3); (try simp at hs3))
            go_wp2_with fail
            go_ret
            exact ⟨ret_int HE'.out.symm, by (repeat' (first | exact Below.refl _ _ | assumption | (refine Below.alloc ?_ ?_ _) | (refine Below.setCell ?_ ?_ _) | (refine Below.drew ?_) | (refine below_drewN ?_ _) | (refine below_after (Ext.below _) ?_ ?_) | (refine below_after (by assumption) ?_ ?_) | (simp; done) | omega | (simp; omega)))⟩
          | false =>
            have hst := of_decide_eq_false hs
            go_wp2_with fail
            (refine wp_region_ext_lit (by kernel_rfl) (by kernel_rfl) ?_; (repeat (go_big_quiet_step (fail))); refine wpQuiet_nil ?_; intro _ hw'; obtain ⟨z3, hw''⟩ := hw'; subst hw''; have hs3 := z3.size; obtain ⟨hc3, hf3⟩ := bcell z3.below; (try simp only [World.size_alloc, World.size_setCell, World.size_drew] at hc3 hf3); (try simp at hs3))
            go_wp2_with fail
            go_roundw
            case rel => exact ⟨j + 1, by go_num, by omega, (by (repeat' (first | exact Below.refl _ _ | assumption | (refine Below.alloc ?_ ?_ _) | (refine Below.setCell ?_ ?_ _) | (refine Below.drew ?_) | (refine below_drewN ?_ _) | (refine below_after (Ext.below _) ?_ ?_) | (refine below_after (by assumption) ?_ ?_) | (simp; done) | omega | (simp; omega)))), Lib.hid fun i c hi hc => by
              rcases Nat.lt_or_ge i j with h | h
              · exact hno.out i c h hc
              · obtain rfl : i = j := by omega
                rw [hx.out] at hc; injection hc with hc; rw [← hc]; simp only; omega⟩
            case measure => simp [intOf]; omega
        · obtain rfl : j = k := by omega
          have dj : decide ((j : Int) < j) = false := decide_eq_false (by omega)
          have dj' : decide (j < j) = false := decide_eq_false (by omega)
          have HE' := Lib.hid (show fitE st H N p = 0 by rw [HE.out, if_neg (by rw [top_no hRl.out hno.out]; simp)])
          go_wp2_with fail
          go_ret
          exact ⟨ret_int HE'.out.symm, hfin⟩
end
end Go.Proofs.YtellglbmbocgkaaGreatDoor
end
section
namespace Go.Proofs.YtellglbmbocgkaaGreatDoor
open Go Go.RowKit
set_option maxRecDepth 100000
set_option linter.unusedSimpArgs false
set_option linter.unusedVariables false
theorem TrAt.grown {w w' : World} {b : Nat} {x y z : Value} {row : Option Nat} (h : TrAt w b x y z) (hg : w.grownBy w' row) (hne : some b ≠ row) : TrAt w' b x y z := by
  have hbl := hg.block b h.1 hne
  have hc : ∀ i, w'.cell? ⟨b, i, none⟩ = w.cell? ⟨b, i, none⟩ := fun i => World.cell?_of_block hbl
  exact ⟨Nat.lt_of_lt_of_le h.1 hg.size, by rw [hc]; exact h.2.1, by rw [hc]; exact h.2.2.1, by rw [hc]; exact h.2.2.2⟩
theorem DuAt.grown {w w' : World} {b : Nat} {x y : Value} {row : Option Nat} (h : DuAt w b x y) (hg : w.grownBy w' row) (hne : some b ≠ row) : DuAt w' b x y := by
  have hbl := hg.block b h.1 hne
  have hc : ∀ i, w'.cell? ⟨b, i, none⟩ = w.cell? ⟨b, i, none⟩ := fun i => World.cell?_of_block hbl
  exact ⟨Nat.lt_of_lt_of_le h.1 hg.size, by rw [hc]; exact h.2.1, by rw [hc]; exact h.2.2⟩
theorem Own.overBlock {α : Type} {enc : α → List Value} {k : Nat} {e : TypeId} {B b n c : Nat} {w w' : World} {A : Option Addr} {l : List α} (h : Own enc k e B w A n c l) (hg : w.grownBy w' (some b)) (hb : b < B) : Own enc k e B w' A n c l := by
  refine ⟨⟨h.row.1, ?_⟩, h.len⟩
  rcases h.row.2 with h0 | ⟨g, cap, cur, hv, hge, hh, r⟩
  · exact .inl h0
  · exact .inr ⟨g, cap, cur, hv, hge, (hg.block g (Array.getElem?_eq_some_iff.1 hh).1 (fun e => by injection e with e; omega)).trans hh, r⟩
/-- The second of two new boxes behind a store into a map. -/
theorem du_over {w w6 : World} {a : Array Value} {x y : Value} {t t' : TypeId} {bm : Nat} (hg : ((w.alloc (.cells a t)).alloc (.cells #[x, y] t')).grownBy w6 (some bm)) (hbm : bm < w.heap.size) : DuAt w6 (w.heap.size + 1) x y := by
  have h := DuAt.new (w.alloc (.cells a t)) x y t'
  rw [World.size_alloc] at h
  exact h.grown hg (fun e => by injection e with e; omega)
/-- Block b holds the set of the positions of a list, at most K entries. -/
def DnAt (b K : Nat) (cand : List (Int × Int)) (w : World) : Prop := ∃ g : Int × Int → Option Bool, mkPB.At b K g w ∧ ∀ q, (g q).getD false = decide (q ∈ cand)
theorem DnAt.made (w : World) : DnAt w.heap.size 0 [] (w.alloc (.map #[] 0)) := ⟨fun _ => none, MK.At.made mkPB w, fun q => by simp⟩
theorem DnAt.of {b K : Nat} {cand : List (Int × Int)} {w w' : World} (h : DnAt b K cand w) (hb : Below w.heap.size w w') : DnAt b K cand w' := by
  obtain ⟨g, h1, h2⟩ := h; exact ⟨g, h1.of hb, h2⟩
theorem DnAt.grown {b K : Nat} {cand : List (Int × Int)} {w w' : World} {row : Option Nat} (h : DnAt b K cand w) (hg : w.grownBy w' row) (hne : some b ≠ row) : DnAt b K cand w' := by
  obtain ⟨g, h1, h2⟩ := h; exact ⟨g, h1.grown hg hne, h2⟩
theorem DnAt.mono {b K K' : Nat} {cand : List (Int × Int)} {w : World} (h : DnAt b K cand w) (hk : K ≤ K') : DnAt b K' cand w := by
  obtain ⟨g, h1, h2⟩ := h; exact ⟨g, h1.mono hk, h2⟩
theorem dn_put {g : Int × Int → Option Bool} {cand : List (Int × Int)} (h : ∀ q, (g q).getD false = decide (q ∈ cand)) (a b : Int) : ∀ q, ((putG g (a, b) true) q).getD false = decide (q ∈ cand ++ [(a, b)]) := by
  intro q
  unfold putG
  by_cases e : q = (a, b)
  · rw [if_pos e]; subst e; simp
  · rw [if_neg e, h]; simp [e]
theorem cand_round {H : List (Int × Int)} {i : Nat} {ox oy x y : Int} {cj : List (Int × Int)} (h : H[i]? = some (ox, oy)) : cj ++ (H.take (i + 1)).map (fun o => (x - o.1, y - o.2)) = (cj ++ (H.take i).map fun o => (x - o.1, y - o.2)) ++ [(x - ox, y - oy)] := by
  rw [List.take_add_one, h]; simp
theorem all_snoc {q : Int × Int × Int → Bool} {l : List (Int × Int × Int)} {c : Int × Int × Int} (h : l.all q = true) (hc : q c = true) : (l ++ [c]).all q = true := by
  rw [List.all_append, h]; simp [hc]
theorem pat_FromNV {l r : List (Int × Int × Int)} {q : Int} (hE : frE l = q) (hL : frL l = r) (A : Option Addr) (n c : Nat) (w : World) (hR : Rd encC 3 w A n l) (hn : n ≤ 1000000) :
    Calls Tryz.prog 74 #[.slice A n c] w fun e w' => ∃ A' n' c', e = .returned (.tuple #[.slice A' n' c', .int .i64 q]) ∧ NewP w.heap.size w' A' n' c' r ∧ Below w.heap.size w w' := by
  subst hE hL
  exact (pat_FromN A n c l w hR hn).mono fun _ _ ⟨A', n', c', h1, h2, _, h4⟩ => ⟨A', n', c', h1, h2, h4⟩
set_option maxHeartbeats 16000000 in
theorem direct_step (st : Int) (A B D : Option Addr) (n c m d k e : Nat) (H : List (Int × Int)) (N : List (Int × List Int)) (p : List (Int × Int × Int)) (w : World) (hH : Rd encP 2 w A n H) (hN : RdX ekN w B m N) (hR : Rd encC 3 w D k p) (hf : FitsR st H N p) :
    Calls Tryz.prog 33 #[.agg #[.int .i64 st, .slice A n c, .slice B m d], .slice D k e] w fun e w' => ∃ A2 n2 c2, e = .returned (.tuple #[.slice A2 n2 c2, .int .i64 (stE H N p)]) ∧ NewP w.heap.size w' A2 n2 c2 (stL H N p) ∧ Below w.heap.size w w' := by
  have hk5 : k ≤ 5000 := by rw [← hR.len]; exact (rightC_ok hf.pat).1
  have hTR := (trQ_parts hf.rule).1
  have hh := Lib.hid (hood_in (trR_parts hTR).2.1).2
  have hHl := hH.len
  have hn25 : n ≤ 25 := by rw [← hHl]; exact (hood_in (trR_parts hTR).2.1).1
  replace hHl := Lib.hid hHl
  have hRl := Lib.hid hR.len
  have kO := fun w1 h1 => direct_of D k e p w1 h1 hf.pat
  have kN := fun b x y hx hy w1 h1 h2 h3 => direct_next st A B n c m d b k H N p (ofF p) x y w1 h1 h2 h3 (of_get (rightC_sorted hf.pat)) hf hx hy
  have hF := Lib.hid hf
  clear hf hTR
  go_enter Tryz.func33, Tryz.ntmps33
  go_wp2_with fail
  have hbx := TrAt.new w (.int .i64 st) (.slice A n c) (.slice B m d) 25
  have hbe : Below w.heap.size w (w.alloc (.cells #[.int .i64 st, .slice A n c, .slice B m d] 25)) := (Below.refl _ _).alloc (Nat.le_refl _) _
  obtain ⟨we, hwe⟩ : ∃ we, we = w.alloc (.cells #[.int .i64 st, .slice A n c, .slice B m d] 25) := ⟨_, rfl⟩
  rw [← hwe] at hbx hbe ⊢
  replace hH := hH.of hbe
  replace hN := hN.of hbe
  replace hR := hR.of hbe
  clear hwe
  go_at_call 71
  refine (kO _ hR).mono ?_
  rintro e1 w1 ⟨bm, rfl, hpm1, hbm1, hbm0, hB1⟩
  have hs1 := hB1.size
  go_wp2_with fail
  rw [run_makeMap]
  have hdn0 := DnAt.made w1
  have hpm0 := hpm1.alloc (.map #[] 0)
  have hB0 : Below we.heap.size we (w1.alloc (.map #[] 0)) := hB1.alloc hs1 _
  obtain ⟨bd, hbd⟩ : ∃ bd, bd = w1.heap.size := ⟨_, rfl⟩
  rw [← hbd] at hdn0 ⊢
  obtain ⟨wm, hwm⟩ : ∃ wm, wm = w1.alloc (.map #[] 0) := ⟨_, rfl⟩
  have hsm : wm.heap.size = bd + 1 := by rw [hwm, hbd]; simp
  rw [← hwm] at hdn0 hpm0 hB0 ⊢
  have hbmd : bm < bd := by omega
  have hbdw : we.heap.size ≤ bd := by omega
  replace hsm := Lib.hid hsm
  clear hbd hwm hpm1 hB1 hs1 hbm1 kO
  go_wp2_with fail
  go_loopw [8, 20] (fun v t wr => ∃ (E : Option Addr) (q g j : Nat) (l : List (Int × Int × Int)), v = .slice E q g ∧ t = .int .i64 j ∧ j ≤ k ∧ q ≤ j * 25 ∧ Own encC 3 79 (bd + 1) wr E q g l ∧ Hid (GenC (candL H (p.take j)) H N p l ∧ l.all plD = true) ∧ DnAt bd (j * 25) (candL H (p.take j)) wr ∧ PM bm k (ofF p) wr ∧ Below we.heap.size we wr ∧ bd + 1 ≤ wr.heap.size) (fun _ t _ => k - (intOf t).toNat)
  case atStart => exact ⟨none, 0, 0, 0, [], rfl, rfl, by omega, by omega, Own.nil_, Lib.hid ⟨by simpa [candL] using genC_nil, rfl⟩, by simpa [candL] using hdn0, hpm0, hB0, by rw [hsm.out]; omega⟩
  case round =>
    clear hdn0 hpm0 hB0
    obtain ⟨E, q, g, j, l, rfl, rfl, hj, hq, hown, hgen, hdn, hpm, hb, hsz⟩ := hrel
    by_cases hlj : j < k
    · have dj : decide ((j : Int) < k) = true := decide_eq_true (by omega)
      obtain ⟨x, y, s, bo, oo, hx, rfl, hbl, g1, g2, g3⟩ := (hR.of hb).cell hlj
      obtain ⟨hbs, t0, t1, t2⟩ := hbx.of hb
      have hpx := (rightC_elem hF.out.pat hx.out).1
      unfold Pt at hpx
      go_wp2_with fail
      have hcx := TrAt.new wr (.int .i64 x) (.int .i64 y) (.int .i64 s) 79
      have hbc : Below wr.heap.size wr (wr.alloc (.cells #[.int .i64 x, .int .i64 y, .int .i64 s] 79)) := (Below.refl _ _).alloc (Nat.le_refl _) _
      have hoff0 := OffB.lt hown (Nat.le_refl _)
      obtain ⟨bc, hbcd⟩ : ∃ bc, bc = wr.heap.size := ⟨_, rfl⟩
      have hbc1 : bd + 1 ≤ bc := by omega
      obtain ⟨wc, hwc⟩ : ∃ wc, wc = wr.alloc (.cells #[.int .i64 x, .int .i64 y, .int .i64 s] 79) := ⟨_, rfl⟩
      rw [← hbcd] at hcx hoff0 ⊢
      rw [← hwc] at hcx hbc ⊢
      have hbw := below_thru hb hbc
      have hown0 := hown.of hbc
      have hdn0 := hdn.of hbc
      have hpm0 := hpm.of hbc
      have hszc : bd + 1 ≤ wc.heap.size := Nat.le_trans hsz hbc.size
      clear hbcd hwc hown hdn hpm hbs t0 t1 t2 g1 g2 g3 hb hbc hbl dj hsz
      go_loopw [8, 27] (fun v t wq => ∃ (E : Option Addr) (q g i : Nat) (l : List (Int × Int × Int)), v = .slice E q g ∧ t = .int .i64 i ∧ i ≤ n ∧ q ≤ j * 25 + i ∧ Own encC 3 79 (bd + 1) wq E q g l ∧ Hid (GenC (candL H (p.take j) ++ (H.take i).map fun o => (x - o.1, y - o.2)) H N p l ∧ l.all plD = true) ∧ DnAt bd (j * 25 + i) (candL H (p.take j) ++ (H.take i).map fun o => (x - o.1, y - o.2)) wq ∧ PM bm k (ofF p) wq ∧ TrAt wq bc (.int .i64 x) (.int .i64 y) (.int .i64 s) ∧ Hid (OffB E q g bc) ∧ Below we.heap.size we wq ∧ bd + 1 ≤ wq.heap.size) (fun _ t _ => n - (intOf t).toNat)
      case atStart => exact ⟨E, q, g, 0, l, rfl, rfl, by omega, by omega, hown0, Lib.hid (by simpa using hgen.out), by simpa using hdn0, hpm0, hcx, Lib.hid hoff0, hbw, hszc⟩
      case round =>
        clear hown0 hgen hdn0 hpm0 hcx hoff0 hbw hszc
        obtain ⟨E, q, g, i, l, rfl, rfl, hi, hq, hown, hgen, hdn, hpm, hcx, hoff, hb, hsz⟩ := hrel
        by_cases hli : i < n
        · have di : decide ((i : Int) < n) = true := decide_eq_true (by omega)
          obtain ⟨ox, oy, bh, oh, hxo, rfl, hbh, o1, o2⟩ := (hH.of hb).pt hli
          have hov := hh.out _ (List.mem_of_getElem? hxo.out)
          simp only at hov
          obtain ⟨c0, t0, t1, t2⟩ := hcx
          obtain ⟨u1, hu1⟩ : ∃ u1, u1 = x - ox := ⟨_, rfl⟩
          obtain ⟨u2, hu2⟩ : ∃ u2, u2 = y - oy := ⟨_, rfl⟩
          have ex2 : IntKind.i64.wrap (x - ox) = u1 := (IntWalk.i64_in _ (by omega)).trans hu1.symm
          have ey2 : IntKind.i64.wrap (y - oy) = u2 := (IntWalk.i64_in _ (by omega)).trans hu2.symm
          have ex3 : wrap64 (x - ox) = u1 := by unfold wrap64; omega
          have ey3 : wrap64 (y - oy) = u2 := by unfold wrap64; omega
          have hub : (-2000000 ≤ u1 ∧ u1 ≤ 2000000) ∧ -2000000 ≤ u2 ∧ u2 ≤ 2000000 := by omega
          have iu : I64 u1 := by unfold I64; omega
          have iv : I64 u2 := by unfold I64; omega
          have hcd := Lib.hid (show candL H (p.take j) ++ (H.take (i + 1)).map (fun o => (x - o.1, y - o.2)) = (candL H (p.take j) ++ (H.take i).map fun o => (x - o.1, y - o.2)) ++ [(u1, u2)] by rw [hu1, hu2]; exact cand_round hxo.out)
          obtain ⟨cd, hcdd⟩ : ∃ cd, cd = candL H (p.take j) ++ (H.take i).map fun o => (x - o.1, y - o.2) := ⟨_, rfl⟩
          rw [← hcdd] at hgen hdn hcd
          obtain ⟨hbs, b0, b1, b2⟩ := hbx.of hb
          have hfr := hown.above
          clear hu1 hu2 hcdd hov hxo
          obtain ⟨gq, hgq, hgd⟩ := hdn
          cases hin : decide ((u1, u2) ∈ cd) with
          | true =>
            have hgv := Lib.hid (show (gq (u1, u2)).getD false = true by rw [hgd, hin])
            have hin' := of_decide_eq_true hin
            have hgn := Lib.hid (show GenC (cd ++ [(u1, u2)]) H N p l from hgen.out.1.old hin')
            have hdn := Lib.hid (show ∀ q, (gq q).getD false = decide (q ∈ cd ++ [(u1, u2)]) from fun q => by
              rw [hgd]
              by_cases e : q = (u1, u2)
              · subst e; simp [hin']
              · simp [e])
            clear hin hin' hgd
            go_wp2_with (first | (at_lookup; refine wpList_pb_get rfl _ _ _ rfl Tryz.underlying137 bd (j * 25 + i) gq rfl ((hgq.alloc _).alloc _) u1 u2 iu iv rfl true hgv.out ?_))
            go_roundw
            case rel => exact ⟨E, q, g, i + 1, l, rfl, by go_num, by omega, by omega, (hown.alloc _).alloc _, by rw [hcd.out]; exact Lib.hid ⟨hgn.out, hgen.out.2⟩, by rw [hcd.out]; exact ⟨gq, ((hgq.alloc _).alloc _).mono (by omega), hdn.out⟩, (hpm.alloc _).alloc _, (TrAt.of ⟨c0, t0, t1, t2⟩ (show Below wr.heap.size wr _ from by (repeat' (first | exact Below.refl _ _ | assumption | (refine Below.alloc ?_ ?_ _) | (refine Below.setCell ?_ ?_ _) | (refine Below.drew ?_) | (refine below_drewN ?_ _) | (refine below_after (Ext.below _) ?_ ?_) | (refine below_after (by assumption) ?_ ?_) | (simp; done) | omega | (simp; omega))))), hoff, (by (repeat' (first | exact Below.refl _ _ | assumption | (refine Below.alloc ?_ ?_ _) | (refine Below.setCell ?_ ?_ _) | (refine Below.drew ?_) | (refine below_drewN ?_ _) | (refine below_after (Ext.below _) ?_ ?_) | (refine below_after (by assumption) ?_ ?_) | (simp; done) | omega | (simp; omega)))), by simp; omega⟩
            case measure => simp [intOf]; omega
          | false =>
            have hgv := Lib.hid (show (gq (u1, u2)).getD false = false by rw [hgd, hin])
            have hnin := of_decide_eq_false hin
            have hdq := Lib.hid (dn_put hgd u1 u2)
            have kN' := kN bm u1 u2 hub.1 hub.2
            have hr0 := (hF.out.range u1 u2).1
            clear hin hgd
            rcases (show nxT H N p u1 u2 = 0 ∨ 0 < nxT H N p u1 u2 by omega) with h0 | h0
            · have hgn := Lib.hid (hgen.out.1.zero h0)
              rw [h0] at kN'
              clear h0 hr0 hnin
              go_wp2_with (first | (at_lookup; refine wpList_pb_get rfl _ _ _ rfl Tryz.underlying137 bd (j * 25 + i) gq rfl ((hgq.alloc _).alloc _) u1 u2 iu iv rfl false hgv.out ?_) | (at_mapUpdate; refine wpList_pb_put rfl _ _ _ _ rfl Tryz.underlying137 bd (j * 25 + i) gq rfl ((hgq.alloc _).alloc _) (by omega) u1 u2 iu iv true rfl rfl ?_; intro w6 hdn6 hg6; obtain ⟨r0, r1, r2⟩ := du_over hg6 (by omega); have hb6 : Below we.heap.size we w6 := below_map1 (by (repeat' (first | exact Below.refl _ _ | assumption | (refine Below.alloc ?_ ?_ _) | (refine Below.setCell ?_ ?_ _) | (refine Below.drew ?_) | (refine below_drewN ?_ _) | (refine below_after (Ext.below _) ?_ ?_) | (refine below_after (by assumption) ?_ ?_) | (simp; done) | omega | (simp; omega)))) hg6 (by simp; omega) hbdw; obtain ⟨_, p0, p1, p2⟩ := hbx.of hb6))
              have hpm6 := ((hpm.alloc _).alloc _).grown hg6 (fun e => by injection e with e; omega)
              have hs6 : wr.heap.size + 2 ≤ w6.heap.size := by have := hg6.size; simp at this; omega
              go_at_call 72
              refine (kN' _ (hH.of hb6) (hN.of hb6) hpm6).mono ?_
              rintro e7 w7 ⟨rfl, hb7⟩
              have hs7 := hb7.size
              have hbw : Below wr.heap.size wr ((wr.alloc (.cells #[.int .i64 ox, .int .i64 oy] 139)).alloc (.cells #[.int .i64 u1, .int .i64 u2] 139)) := by (repeat' (first | exact Below.refl _ _ | assumption | (refine Below.alloc ?_ ?_ _) | (refine Below.setCell ?_ ?_ _) | (refine Below.drew ?_) | (refine below_drewN ?_ _) | (refine below_after (Ext.below _) ?_ ?_) | (refine below_after (by assumption) ?_ ?_) | (simp; done) | omega | (simp; omega)))
              have hcx7 := (((TrAt.of ⟨c0, t0, t1, t2⟩ hbw).grown hg6 (fun e => by injection e with e; omega))).of hb7
              have hown7 := (((hown.alloc _).alloc _).overBlock hg6 (by omega)).of hb7
              have hdn7 := hdn6.of hb7
              have hpm7 := hpm6.of hb7
              have hbf := below_thru hb6 hb7
              clear hb6 hb7 hg6 hdn6 hpm6
              go_wp2_with fail
              go_roundw
              case rel => exact ⟨E, q, g, i + 1, l, rfl, by go_num, by omega, by omega, hown7, by rw [hcd.out]; exact Lib.hid ⟨hgn.out, hgen.out.2⟩, by rw [hcd.out]; exact ⟨_, hdn7, hdq.out⟩, hpm7, hcx7, hoff, hbf, by omega⟩
              case measure => simp [intOf]; omega
            · have hne : nxT H N p u1 u2 ≠ 0 := by omega
              have hgn := Lib.hid (hgen.out.1.new hnin hne)
              have dr : decide (0 < nxT H N p u1 u2) = true := decide_eq_true h0
              cases hv : validB u1 u2 with
              | false =>
                have HE := Lib.hid (st_bad hF.out ⟨u1, u2, hne, fun hp => by rw [validB_iff.2 hp] at hv; cases hv⟩)
                have kP := fun w1 => direct_placeV hv w1
                generalize nxT H N p u1 u2 = res at kN' dr
                clear h0 hr0 hnin hne hv hgn
                go_wp2_with (first | (at_lookup; refine wpList_pb_get rfl _ _ _ rfl Tryz.underlying137 bd (j * 25 + i) gq rfl ((hgq.alloc _).alloc _) u1 u2 iu iv rfl false hgv.out ?_) | (at_mapUpdate; refine wpList_pb_put rfl _ _ _ _ rfl Tryz.underlying137 bd (j * 25 + i) gq rfl ((hgq.alloc _).alloc _) (by omega) u1 u2 iu iv true rfl rfl ?_; intro w6 hdn6 hg6; obtain ⟨r0, r1, r2⟩ := du_over hg6 (by omega); have hb6 : Below we.heap.size we w6 := below_map1 (by (repeat' (first | exact Below.refl _ _ | assumption | (refine Below.alloc ?_ ?_ _) | (refine Below.setCell ?_ ?_ _) | (refine Below.drew ?_) | (refine below_drewN ?_ _) | (refine below_after (Ext.below _) ?_ ?_) | (refine below_after (by assumption) ?_ ?_) | (simp; done) | omega | (simp; omega)))) hg6 (by simp; omega) hbdw; obtain ⟨_, p0, p1, p2⟩ := hbx.of hb6))
                have hpm6 := ((hpm.alloc _).alloc _).grown hg6 (fun e => by injection e with e; omega)
                have hs6 : wr.heap.size + 2 ≤ w6.heap.size := by have := hg6.size; simp at this; omega
                have hqx : DuAt w6 (wr.heap.size + 1) (.int .i64 u1) (.int .i64 u2) := ⟨r0, r1, r2⟩
                go_at_call 72
                refine (kN' _ (hH.of hb6) (hN.of hb6) hpm6).mono ?_
                rintro e7 w7 ⟨rfl, hb7⟩
                have hs7 := hb7.size
                obtain ⟨v0, v1, v2⟩ := hqx.of hb7
                have hbf := below_thru hb6 hb7
                clear hb6 hb7 hg6 hdn6 hpm6 hqx
                go_wp2_with fail; go_at_call 73; refine (kP _).mono ?_; rintro e w8 ⟨rfl, hb8⟩; have hs8 := hb8.size; (try simp only [World.size_alloc, World.size_drew, World.size_setCell] at hs8)
                have hfin := below_thru hbe (below_thru hbf hb8)
                clear hb8
                go_wp2_with fail
                go_ret2
                exact ⟨none, 0, 0, ret_pe HE.out.1.symm, by rw [HE.out.2]; exact NewP.nil_, hfin⟩
              | true =>
                have kP := fun w1 => direct_placeV hv w1
                have hal := Lib.hid (all_snoc (c := (u1, u2, nxT H N p u1 u2)) hgen.out.2 hv)
                generalize nxT H N p u1 u2 = res at kN' dr hgn hal
                clear h0 hr0 hnin hne hv
                go_wp2_with (first | (at_lookup; refine wpList_pb_get rfl _ _ _ rfl Tryz.underlying137 bd (j * 25 + i) gq rfl ((hgq.alloc _).alloc _) u1 u2 iu iv rfl false hgv.out ?_) | (at_mapUpdate; refine wpList_pb_put rfl _ _ _ _ rfl Tryz.underlying137 bd (j * 25 + i) gq rfl ((hgq.alloc _).alloc _) (by omega) u1 u2 iu iv true rfl rfl ?_; intro w6 hdn6 hg6; obtain ⟨r0, r1, r2⟩ := du_over hg6 (by omega); have hb6 : Below we.heap.size we w6 := below_map1 (by (repeat' (first | exact Below.refl _ _ | assumption | (refine Below.alloc ?_ ?_ _) | (refine Below.setCell ?_ ?_ _) | (refine Below.drew ?_) | (refine below_drewN ?_ _) | (refine below_after (Ext.below _) ?_ ?_) | (refine below_after (by assumption) ?_ ?_) | (simp; done) | omega | (simp; omega)))) hg6 (by simp; omega) hbdw; obtain ⟨_, p0, p1, p2⟩ := hbx.of hb6))
                have hpm6 := ((hpm.alloc _).alloc _).grown hg6 (fun e => by injection e with e; omega)
                have hs6 : wr.heap.size + 2 ≤ w6.heap.size := by have := hg6.size; simp at this; omega
                have hqx : DuAt w6 (wr.heap.size + 1) (.int .i64 u1) (.int .i64 u2) := ⟨r0, r1, r2⟩
                go_at_call 72
                refine (kN' _ (hH.of hb6) (hN.of hb6) hpm6).mono ?_
                rintro e7 w7 ⟨rfl, hb7⟩
                have hs7 := hb7.size
                obtain ⟨v0, v1, v2⟩ := hqx.of hb7
                go_wp2_with fail
                go_at_call 73
                refine (kP _).mono ?_
                rintro e8 w8 ⟨rfl, hb8⟩
                have hs8 := hb8.size
                have hb78 := below_thru hb7 hb8
                have hbw : Below wr.heap.size wr ((wr.alloc (.cells #[.int .i64 ox, .int .i64 oy] 139)).alloc (.cells #[.int .i64 u1, .int .i64 u2] 139)) := by (repeat' (first | exact Below.refl _ _ | assumption | (refine Below.alloc ?_ ?_ _) | (refine Below.setCell ?_ ?_ _) | (refine Below.drew ?_) | (refine below_drewN ?_ _) | (refine below_after (Ext.below _) ?_ ?_) | (refine below_after (by assumption) ?_ ?_) | (simp; done) | omega | (simp; omega)))
                have hcx8 := (((TrAt.of ⟨c0, t0, t1, t2⟩ hbw).grown hg6 (fun e => by injection e with e; omega))).of hb78
                have hown8 := (((hown.alloc _).alloc _).overBlock hg6 (by omega)).of hb78
                have hdn8 : DnAt bd (j * 25 + i + 1) (cd ++ [(u1, u2)]) w8 := ⟨_, hdn6.of hb78, hdq.out⟩
                have hpm8 := hpm6.of hb78
                have hbf := below_thru hb6 hb78
                obtain ⟨x0, x1, x2⟩ := hqx.of hb78
                clear hb6 hb7 hb8 hb78 hg6 hdn6 hpm6 hqx v0 v1 v2 r0 r1 r2 p0 p1 p2 t0 t1 t2 o1 o2 b0 b1 b2
                go_wp2_with (first | (at_builtin; refine wpList_append_elL rfl (.tmp 56) (.tmp 63) 26 rfl encC 3 79 (.agg #[.int .i64 0, .int .i64 0, .int .i64 0]) 24 Tryz.underlying26 (by kernel_rfl) rfl (by decide) encC_len encC_one (bd + 1) _ _ _ _ rfl (hown8.alloc _) (u1, u2, res) ⟨(w8).heap.size, 0, none⟩ 1 rfl (cells_new (w8) _ _) (by omega) (by omega) (by first | omega | (simp; done) | (simp; omega)) ?_; intro A9 c9 w9 hown9 hg9 hb9 hl9; obtain ⟨hc9, hf9⟩ := bcell hb9; have hs9 := hb9.size; (try simp only [World.size_alloc, World.size_setCell, World.size_drew] at hc9 hf9); (try simp at hs9)))
                have hdn9 := (hdn8.of ((Below.refl _ _).alloc (Nat.le_refl _) _)).grown hg9 (OffB.below hown8 (Nat.lt_succ_self bd)).ne
                have hpm9 := (hpm8.alloc _).grown hg9 (OffB.below hown8 (by omega)).ne
                have hcx9 := (hcx8.of ((Below.refl _ _).alloc (Nat.le_refl _) _)).grown hg9 hoff.out.ne
                have hof9 := hoff.out.step hl9 (show bc < _ by have := hcx8.1; simp; omega)
                have hbf9 : Below we.heap.size we w9 := below_after hb9 (hbf.alloc (by omega) _) (by omega)
                have hs9' : w8.heap.size + 1 ≤ w9.heap.size := by have := hg9.size; simp at this; omega
                go_roundw
                case rel => exact ⟨A9, q + 1, c9, i + 1, _, rfl, by go_num, by omega, by omega, hown9, by rw [hcd.out]; exact Lib.hid ⟨hgn.out, hal.out⟩, by rw [hcd.out]; exact hdn9, hpm9, hcx9, Lib.hid hof9, hbf9, by omega⟩
                case measure => simp [intOf]; omega
        · obtain rfl : i = n := by omega
          have di : decide ((i : Int) < i) = false := decide_eq_false (by omega)
          have hct := Lib.hid (show candL H (p.take (j + 1)) = candL H (p.take j) ++ (H.take i).map fun o => (x - o.1, y - o.2) by
            have e : H.take i = H := List.take_of_length_le (by rw [hHl.out]; omega)
            rw [cand_step hx.out, e])
          go_wp2_with fail
          go_roundw
          case rel => exact ⟨E, q, g, j + 1, l, rfl, by go_num, by omega, by omega, hown, by rw [hct.out]; exact hgen, by rw [hct.out]; exact hdn.mono (by omega), hpm, hb, hsz⟩
          case measure => simp [intOf]; omega
    · obtain rfl : j = k := by omega
      have dj : decide ((j : Int) < j) = false := decide_eq_false (by omega)
      have HE := Lib.hid (show frE l = stE H N p ∧ frL l = stL H N p by
        have h1 := hgen.out
        rw [List.take_of_length_le (by rw [hRl.out]; exact Nat.le_refl _)] at h1
        exact fr_gen hF.out (h1.1.full hF.out.rule (rightC_sorted hF.out.pat)) h1.2)
      have kF := fun w1 h1 => pat_FromNV HE.out.1 HE.out.2 E q g w1 h1 (by omega)
      have hRo := hown.rd encC_len
      go_wp2_with fail
      go_at_call 74
      refine (kF _ hRo).mono ?_
      rintro e7 w7 ⟨A7, n7, c7, rfl, hR7, hb7⟩
      have hfin := below_thru hbe (below_thru hb hb7)
      have hsz7 : w.heap.size ≤ wr.heap.size := Nat.le_trans hbe.size hb.size
      go_wp2_with fail
      go_ret2
      exact ⟨A7, n7, c7, rfl, hR7.more hsz7, hfin⟩
end Go.Proofs.YtellglbmbocgkaaGreatDoor
end
section
namespace Go.Proofs.YtellglbmbocgkaaGreatDoor
open Go Go.RowKit
set_option maxRecDepth 100000
set_option linter.unusedSimpArgs false
set_option linter.unusedVariables false
theorem it_go {H : List (Int × Int)} {N : List (Int × List Int)} {p pj : List (Int × Int × Int)} {j : Nat} (h : itS H N p j = (0, pj)) (he : stE H N pj = 0) : itS H N p (j + 1) = (0, stL H N pj) := by
  rw [it_step (by rw [h]), h, he]
theorem it_bad {H : List (Int × Int)} {N : List (Int × List Int)} {p pj : List (Int × Int × Int)} {j n : Nat} (h : itS H N p j = (0, pj)) (he : stE H N pj ≠ 0) (hn : j < n) : (itS H N p n).1 = stE H N pj := by
  have h1 : (itS H N p (j + 1)).1 = stE H N pj := by rw [it_step (by rw [h]), h]
  have h2 := it_stuck h1 he (n - (j + 1))
  rw [show j + 1 + (n - (j + 1)) = n by omega] at h2
  exact h2
theorem run_bad {st : Int} {H : List (Int × Int)} {N : List (Int × List Int)} {p pj : List (Int × Int × Int)} {j n : Nat} (hf : fitE st H N p = 0) (hn : n ≤ 10000) (h : itS H N p j = (0, pj)) (he : stE H N pj ≠ 0) (hj : j < n) : runE st H N p n = stE H N pj ∧ runL st H N p n = [] ∧ hisL st H N p n = [] := by
  have h1 : runE st H N p n = stE H N pj := by
    unfold runE; rw [if_pos hf, if_neg (by omega), Int.toNat_natCast]; exact it_bad h he hj
  refine ⟨h1, ?_, ?_⟩
  · unfold runL; rw [h1, if_neg he]
  · unfold hisL; rw [h1, if_neg he]
theorem run_good {st : Int} {H : List (Int × Int)} {N : List (Int × List Int)} {p pj : List (Int × Int × Int)} {n : Nat} (hf : fitE st H N p = 0) (hn : n ≤ 10000) (h : itS H N p n = (0, pj)) : runE st H N p n = 0 ∧ runL st H N p n = pj ∧ hisL st H N p n = (List.range (n + 1)).map fun k => (itS H N p k).2 := by
  have h1 : runE st H N p n = 0 := by
    unfold runE; rw [if_pos hf, if_neg (by omega), Int.toNat_natCast, h]
  refine ⟨h1, ?_, ?_⟩
  · unfold runL; rw [h1, if_pos rfl, Int.toNat_natCast, h]
  · unfold hisL; rw [h1, if_pos rfl, Int.toNat_natCast]
theorem run_arg {st nn : Int} {H : List (Int × Int)} {N : List (Int × List Int)} {p : List (Int × Int × Int)} (hf : fitE st H N p = 0) (hn : nn < 0 ∨ 10000 < nn) : runE st H N p nn = 2 ∧ runL st H N p nn = [] ∧ hisL st H N p nn = [] := by
  have h1 : runE st H N p nn = 2 := by
    unfold runE; rw [if_pos hf, if_pos hn]
  refine ⟨h1, ?_, ?_⟩
  · unfold runL; rw [h1, if_neg (by omega)]
  · unfold hisL; rw [h1, if_neg (by omega)]
theorem run_unfit {st nn : Int} {H : List (Int × Int)} {N : List (Int × List Int)} {p : List (Int × Int × Int)} (hf : fitE st H N p ≠ 0) : runE st H N p nn = fitE st H N p ∧ runL st H N p nn = [] ∧ hisL st H N p nn = [] := by
  have h1 : runE st H N p nn = fitE st H N p := by
    unfold runE; rw [if_neg hf]
  refine ⟨h1, ?_, ?_⟩
  · unfold runL; rw [h1, if_neg hf]
  · unfold hisL; rw [h1, if_neg hf]
theorem it_fitsP {st : Int} {H : List (Int × Int)} {N : List (Int × List Int)} {p pj : List (Int × Int × Int)} {j : Nat} (hf : FitsR st H N p) (h : itS H N p j = (0, pj)) : FitsR st H N pj := by
  have := it_fits hf j
  rw [h] at this
  exact this
section
variable (st : Int) (A B D : Option Addr) (n c m d k e : Nat) (H : List (Int × Int)) (N : List (Int × List Int)) (p : List (Int × Int × Int)) (w : World)
set_option maxHeartbeats 4000000 in
theorem direct_Step (hH : Rd encP 2 w A n H) (hN : RdX ekN w B m N) (hR : Rd encC 3 w D k p) (hk : k ≤ 1000000) :
    Calls Tryz.prog 52 #[.agg #[.int .i64 st, .slice A n c, .slice B m d], .slice D k e] w fun e w' => ∃ A2 n2 c2, e = .returned (.tuple #[.slice A2 n2 c2, .int .i64 (stpE st H N p)]) ∧ NewP w.heap.size w' A2 n2 c2 (stpL st H N p) ∧ Below w.heap.size w w' := by
  have kC := fun w1 h1 h2 h3 => direct_check st A B D n c m d k e H N p w1 h1 h2 h3 hk
  by_cases hf0 : fitE st H N p = 0
  · have kS := fun w1 h1 h2 h3 => direct_step st A B D n c m d k e H N p w1 h1 h2 h3 (fit_iff.1 hf0)
    have HE := Lib.hid (show stpE st H N p = stE H N p ∧ stpL st H N p = stL H N p by unfold stpE stpL; rw [if_pos hf0, if_pos hf0]; exact ⟨rfl, rfl⟩)
    rw [hf0] at kC
    clear hf0
    generalize stE H N p = q at kS HE
    generalize stL H N p = L at kS HE
    go_enter Tryz.func52, Tryz.ntmps52
    go_wp2_with fail
    have hbx := TrAt.new w (.int .i64 st) (.slice A n c) (.slice B m d) 25
    have hbe : Below w.heap.size w (w.alloc (.cells #[.int .i64 st, .slice A n c, .slice B m d] 25)) := (Below.refl _ _).alloc (Nat.le_refl _) _
    obtain ⟨we, hwe⟩ : ∃ we, we = w.alloc (.cells #[.int .i64 st, .slice A n c, .slice B m d] 25) := ⟨_, rfl⟩
    rw [← hwe] at hbx hbe ⊢
    clear hwe
    go_at_call 32
    refine (kC _ (hH.of hbe) (hN.of hbe) (hR.of hbe)).mono ?_
    rintro e1 w1 ⟨rfl, hb1⟩
    have hbf := below_thru hbe hb1
    obtain ⟨_, t0, t1, t2⟩ := hbx.of hb1
    go_wp2_with fail
    go_at_call 33
    refine (kS _ (hH.of hbf) (hN.of hbf) (hR.of hbf)).mono ?_
    rintro e2 w2 ⟨A2, n2, c2, rfl, hR2, hb2⟩
    have hfin := below_thru hbf hb2
    have hsz := hbf.size
    go_wp2_with fail
    go_ret2
    exact ⟨A2, n2, c2, ret_pe HE.out.1.symm, by rw [HE.out.2]; exact hR2.more hsz, hfin⟩
  · have HE := Lib.hid (show stpE st H N p = fitE st H N p ∧ stpL st H N p = [] by unfold stpE stpL; rw [if_neg hf0, if_neg hf0]; exact ⟨rfl, rfl⟩)
    generalize fitE st H N p = q at kC HE hf0
    have d1 : (q == 0) = false := by simpa using hf0
    have d2 : (q != 0) = true := by simpa using hf0
    clear hf0
    go_enter Tryz.func52, Tryz.ntmps52
    go_wp2_with fail; go_at_call 32; refine (kC _ (hH.of (by (repeat' (first | exact Below.refl _ _ | assumption | (refine Below.alloc ?_ ?_ _) | (refine Below.setCell ?_ ?_ _) | (refine Below.drew ?_) | (refine below_drewN ?_ _) | (refine below_after (Ext.below _) ?_ ?_) | (refine below_after (by assumption) ?_ ?_) | (simp; done) | omega | (simp; omega))))) (hN.of (by (repeat' (first | exact Below.refl _ _ | assumption | (refine Below.alloc ?_ ?_ _) | (refine Below.setCell ?_ ?_ _) | (refine Below.drew ?_) | (refine below_drewN ?_ _) | (refine below_after (Ext.below _) ?_ ?_) | (refine below_after (by assumption) ?_ ?_) | (simp; done) | omega | (simp; omega))))) (hR.of (by (repeat' (first | exact Below.refl _ _ | assumption | (refine Below.alloc ?_ ?_ _) | (refine Below.setCell ?_ ?_ _) | (refine Below.drew ?_) | (refine below_drewN ?_ _) | (refine below_after (Ext.below _) ?_ ?_) | (refine below_after (by assumption) ?_ ?_) | (simp; done) | omega | (simp; omega)))))).mono ?_; rintro e w1 ⟨rfl, hb1⟩; have hs1 := hb1.size; (try simp only [World.size_alloc, World.size_drew, World.size_setCell] at hs1)
    go_wp2_with fail
    go_ret2
    exact ⟨none, 0, 0, ret_pe HE.out.1.symm, by rw [HE.out.2]; exact NewP.nil_, by (repeat' (first | exact Below.refl _ _ | assumption | (refine Below.alloc ?_ ?_ _) | (refine Below.setCell ?_ ?_ _) | (refine Below.drew ?_) | (refine below_drewN ?_ _) | (refine below_after (Ext.below _) ?_ ?_) | (refine below_after (by assumption) ?_ ?_) | (simp; done) | omega | (simp; omega)))⟩
set_option maxHeartbeats 8000000 in
theorem direct_Run (nn : Int) (hH : Rd encP 2 w A n H) (hN : RdX ekN w B m N) (hR : Rd encC 3 w D k p) (hk : k ≤ 1000000) (hke : k ≤ e) :
    Calls Tryz.prog 17 #[.agg #[.int .i64 st, .slice A n c, .slice B m d], .slice D k e, .int .i64 nn] w fun e w' => ∃ A2 n2 c2, e = .returned (.tuple #[.slice A2 n2 c2, .int .i64 (runE st H N p nn)]) ∧ Rd encC 3 w' A2 n2 (runL st H N p nn) ∧ n2 ≤ c2 ∧ Below w.heap.size w w' := by
  have kC := fun w1 h1 h2 h3 => direct_check st A B D n c m d k e H N p w1 h1 h2 h3 hk
  by_cases hf0 : fitE st H N p = 0
  · rw [hf0] at kC
    rcases (show (nn < 0 ∨ 10000 < nn) ∨ (0 ≤ nn ∧ nn ≤ 10000) by omega) with hbad | ⟨hn0, hn1⟩
    · have HE := Lib.hid (run_arg hf0 hbad)
      have hways : decide (nn < 0) = true ∨ (decide (nn < 0) = false ∧ decide (10000 < nn) = true) := by
        simp only [decide_eq_true_eq, decide_eq_false_iff_not]; omega
      clear hbad hf0
      rcases hways with d1 | ⟨d1, d2⟩
      all_goals
        go_enter Tryz.func17, Tryz.ntmps17
        go_wp2_with fail; go_at_call 32; refine (kC _ (hH.of (by (repeat' (first | exact Below.refl _ _ | assumption | (refine Below.alloc ?_ ?_ _) | (refine Below.setCell ?_ ?_ _) | (refine Below.drew ?_) | (refine below_drewN ?_ _) | (refine below_after (Ext.below _) ?_ ?_) | (refine below_after (by assumption) ?_ ?_) | (simp; done) | omega | (simp; omega))))) (hN.of (by (repeat' (first | exact Below.refl _ _ | assumption | (refine Below.alloc ?_ ?_ _) | (refine Below.setCell ?_ ?_ _) | (refine Below.drew ?_) | (refine below_drewN ?_ _) | (refine below_after (Ext.below _) ?_ ?_) | (refine below_after (by assumption) ?_ ?_) | (simp; done) | omega | (simp; omega))))) (hR.of (by (repeat' (first | exact Below.refl _ _ | assumption | (refine Below.alloc ?_ ?_ _) | (refine Below.setCell ?_ ?_ _) | (refine Below.drew ?_) | (refine below_drewN ?_ _) | (refine below_after (Ext.below _) ?_ ?_) | (refine below_after (by assumption) ?_ ?_) | (simp; done) | omega | (simp; omega)))))).mono ?_; rintro e w1 ⟨rfl, hb1⟩; have hs1 := hb1.size; (try simp only [World.size_alloc, World.size_drew, World.size_setCell] at hs1)
        go_wp2_with fail
        go_ret2
        exact ⟨none, 0, 0, ret_pe HE.out.1.symm, by rw [HE.out.2.1]; exact Rd.nil_, Nat.le_refl _, by (repeat' (first | exact Below.refl _ _ | assumption | (refine Below.alloc ?_ ?_ _) | (refine Below.setCell ?_ ?_ _) | (refine Below.drew ?_) | (refine below_drewN ?_ _) | (refine below_after (Ext.below _) ?_ ?_) | (refine below_after (by assumption) ?_ ?_) | (simp; done) | omega | (simp; omega)))⟩
    · obtain ⟨NN, rfl⟩ := Int.eq_ofNat_of_zero_le hn0
      have hNN : NN ≤ 10000 := by omega
      have d1 : decide ((NN : Int) < 0) = false := decide_eq_false (by omega)
      have d2 : decide (10000 < (NN : Int)) = false := decide_eq_false (by omega)
      have d2' : decide (10000 < NN) = false := decide_eq_false (by omega)
      have hF := Lib.hid hf0
      have hfit := Lib.hid (fit_iff.1 hf0)
      clear hf0 hn0 hn1
      go_enter Tryz.func17, Tryz.ntmps17
      go_wp2_with fail
      have hbx := TrAt.new w (.int .i64 st) (.slice A n c) (.slice B m d) 25
      have hbe : Below w.heap.size w (w.alloc (.cells #[.int .i64 st, .slice A n c, .slice B m d] 25)) := (Below.refl _ _).alloc (Nat.le_refl _) _
      obtain ⟨we, hwe⟩ : ∃ we, we = w.alloc (.cells #[.int .i64 st, .slice A n c, .slice B m d] 25) := ⟨_, rfl⟩
      rw [← hwe] at hbx hbe ⊢
      replace hH := hH.of hbe
      replace hN := hN.of hbe
      replace hR := hR.of hbe
      clear hwe
      go_at_call 32
      refine (kC _ hH hN hR).mono ?_
      rintro e1 w1 ⟨rfl, hB1⟩
      have hR1 := hR.of hB1
      go_wp2_with fail
      clear d1 d2 d2' kC
      go_loopw [1, 24] (fun v t wr => ∃ (E : Option Addr) (q g j : Nat) (pj : List (Int × Int × Int)), v = .slice E q g ∧ t = .int .i64 j ∧ j ≤ NN ∧ q ≤ g ∧ Hid (itS H N p j = (0, pj)) ∧ Rd encC 3 wr E q pj ∧ Below we.heap.size we wr) (fun _ t _ => NN - (intOf t).toNat)
      case atStart => exact ⟨D, k, e, 0, p, rfl, rfl, by omega, hke, Lib.hid rfl, hR1, hB1⟩
      case round =>
        clear hB1 hR1
        obtain ⟨E, q, g, j, pj, rfl, rfl, hj, hqg, hit, hRj, hb⟩ := hrel
        have hsz := hb.size
        obtain ⟨_, t0, t1, t2⟩ := hbx.of hb
        by_cases hlj : j < NN
        · have dj : decide ((j : Int) < NN) = true := decide_eq_true (by omega)
          have dj' : decide (j < NN) = true := decide_eq_true hlj
          have hfj := it_fitsP hfit.out hit.out
          have kS := fun w1 h1 h2 h3 => direct_step st A B E n c m d q g H N pj w1 h1 h2 h3 hfj
          by_cases he : stE H N pj = 0
          · have hnext := Lib.hid (it_go hit.out he)
            rw [he] at kS
            clear he hfj
            go_wp2_with fail
            go_at_call 33
            refine (kS _ (hH.of hb) (hN.of hb) hRj).mono ?_
            rintro e2 w2 ⟨A2, n2, c2, rfl, hR2, hb2⟩
            have hbf := below_thru hb hb2
            go_wp2_with fail
            go_roundw
            case rel => exact ⟨A2, n2, c2, j + 1, _, rfl, by go_num, by omega, hR2.cap, hnext, hR2.rd, hbf⟩
            case measure => simp [intOf]; omega
          · have HE := Lib.hid (run_bad hF.out hNN hit.out he hlj)
            generalize stE H N pj = qe at kS HE he
            have d1 : (qe == 0) = false := by simpa using he
            have d2 : (qe != 0) = true := by simpa using he
            clear he hfj
            go_wp2_with fail
            go_at_call 33
            refine (kS _ (hH.of hb) (hN.of hb) hRj).mono ?_
            rintro e2 w2 ⟨A2, n2, c2, rfl, hR2, hb2⟩
            have hfin := below_thru hbe (below_thru hb hb2)
            go_wp2_with fail
            go_ret2
            exact ⟨none, 0, 0, ret_pe HE.out.1.symm, by rw [HE.out.2.1]; exact Rd.nil_, Nat.le_refl _, hfin⟩
        · obtain rfl : j = NN := by omega
          have dj : decide ((j : Int) < j) = false := decide_eq_false (by omega)
          have dj' : decide (j < j) = false := decide_eq_false (by omega)
          have HE := Lib.hid (run_good hF.out hNN hit.out)
          have hfin := below_thru hbe hb
          go_wp2_with fail
          go_ret2
          exact ⟨E, q, g, ret_pe HE.out.1.symm, by rw [HE.out.2.1]; exact hRj, hqg, hfin⟩
  · have HE := Lib.hid (run_unfit (nn := nn) hf0)
    generalize fitE st H N p = q at kC HE hf0
    have d1 : (q == 0) = false := by simpa using hf0
    have d2 : (q != 0) = true := by simpa using hf0
    clear hf0
    go_enter Tryz.func17, Tryz.ntmps17
    go_wp2_with fail; go_at_call 32; refine (kC _ (hH.of (by (repeat' (first | exact Below.refl _ _ | assumption | (refine Below.alloc ?_ ?_ _) | (refine Below.setCell ?_ ?_ _) | (refine Below.drew ?_) | (refine below_drewN ?_ _) | (refine below_after (Ext.below _) ?_ ?_) | (refine below_after (by assumption) ?_ ?_) | (simp; done) | omega | (simp; omega))))) (hN.of (by (repeat' (first | exact Below.refl _ _ | assumption | (refine Below.alloc ?_ ?_ _) | (refine Below.setCell ?_ ?_ _) | (refine Below.drew ?_) | (refine below_drewN ?_ _) | (refine below_after (Ext.below _) ?_ ?_) | (refine below_after (by assumption) ?_ ?_) | (simp; done) | omega | (simp; omega))))) (hR.of (by (repeat' (first | exact Below.refl _ _ | assumption | (refine Below.alloc ?_ ?_ _) | (refine Below.setCell ?_ ?_ _) | (refine Below.drew ?_) | (refine below_drewN ?_ _) | (refine below_after (Ext.below _) ?_ ?_) | (refine below_after (by assumption) ?_ ?_) | (simp; done) | omega | (simp; omega)))))).mono ?_; rintro e w1 ⟨rfl, hb1⟩; have hs1 := hb1.size; (try simp only [World.size_alloc, World.size_drew, World.size_setCell] at hs1)
    go_wp2_with fail
    go_ret2
    exact ⟨none, 0, 0, ret_pe HE.out.1.symm, by rw [HE.out.2.1]; exact Rd.nil_, Nat.le_refl _, by (repeat' (first | exact Below.refl _ _ | assumption | (refine Below.alloc ?_ ?_ _) | (refine Below.setCell ?_ ?_ _) | (refine Below.drew ?_) | (refine below_drewN ?_ _) | (refine below_after (Ext.below _) ?_ ?_) | (refine below_after (by assumption) ?_ ?_) | (simp; done) | omega | (simp; omega)))⟩
end
end Go.Proofs.YtellglbmbocgkaaGreatDoor
end
