/- The contract of timeline.patterns. -/
import Derived.Test.YtellglbmbocgkaaGreatDoorDLF
import Derived.Test.YtellglbmbocgkaaGreatDoorTRE
import Derived.Test.YtellglbmbocgkaaGreatDoorDIR
namespace Go.Proofs.YtellglbmbocgkaaGreatDoor
open Go Go.RowKit
set_option linter.unusedSimpArgs false
set_option linter.unusedVariables false
set_option maxRecDepth 100000
set_option linter.unusedSimpArgs false
set_option linter.unusedVariables false
theorem OwnX.offOld {α β : Type} {K : EK α β} {e : TypeId} {B n c : Nat} {w : World} {A : Option Addr} {bs : List β} (h : OwnX K e B w A n c bs) {l : List Nat} (hl : ∀ q ∈ l, q < B) : ∀ q ∈ l, some q ≠ (Value.slice A n c).ownBlock := fun q hq e => by
  obtain ⟨xs0, h1, _, _⟩ := h
  have := h1.above q e.symm
  have := hl q hq
  omega
theorem ret_pbT {v : Value} {a b : Bool} (h : a = b) : Ending.returned (.tuple #[v, .bool a]) = .returned (.tuple #[v, .bool b]) := by rw [h]
set_option maxHeartbeats 8000000 in
theorem tl_patterns (key : Int) (A : Option Addr) (n c : Nat) (fs : List TFr) (w : World) (hF : RdX ekFr w A n fs) (hsm : SmT fs) :
    Calls Tryz.prog 34 #[.agg #[.int .i64 key, .slice A n c]] w fun e w' => ∃ B m d, e = .returned (.tuple #[.slice B m d, .bool (tlB key fs)]) ∧ OwnX ekC 27 w.heap.size w' B m d (tlP key fs) ∧ Below w.heap.size w w' := by
  by_cases hk : ¬(1 ≤ key ∧ key ≤ 100)
  · have HB := Lib.hid (tlB_key (fs := fs) hk)
    have HP := Lib.hid (show tlP key fs = [] by unfold tlP; rw [HB.out]; rfl)
    have hways : decide (key < 1) = true ∨ (decide (key < 1) = false ∧ decide (100 < key) = true) := by simp only [decide_eq_true_eq, decide_eq_false_iff_not]; omega
    clear hk
    rcases hways with d1 | ⟨d1, d2⟩
    all_goals
      go_enter Tryz.func34, Tryz.ntmps34
      go_wp2_with fail
      go_ret2
      exact ⟨none, 0, 0, ret_pbT HB.out.symm, by rw [HP.out]; exact OwnX.nil_, by (repeat' (first | exact Below.refl _ _ | assumption | (refine Below.alloc ?_ ?_ _) | (refine Below.setCell ?_ ?_ _) | (refine Below.drew ?_) | (refine below_drewN ?_ _) | (refine below_after (Ext.below _) ?_ ?_) | (refine below_after (by assumption) ?_ ?_) | (simp; done) | omega | (simp; omega)))⟩
  have hk := Decidable.not_not.1 hk
  obtain ⟨K, rfl⟩ : ∃ K : Nat, key = (K : Int) := ⟨key.toNat, by omega⟩
  have d1 : decide ((K : Int) < 1) = false := decide_eq_false (by omega)
  have d2 : decide (100 < (K : Int)) = false := decide_eq_false (by omega)
  have d2' : decide (100 < K) = false := decide_eq_false (by omega)
  have hFl := hF.len
  by_cases hl : 1000 < n
  · have HB := Lib.hid (tlB_len (key := (K : Int)) hFl hl)
    have HP := Lib.hid (show tlP (K : Int) fs = [] by unfold tlP; rw [HB.out]; rfl)
    have d3 : decide (1000 < (n : Int)) = true := decide_eq_true (by omega)
    have d3' : decide (1000 < n) = true := decide_eq_true (by omega)
    clear hk
    go_enter Tryz.func34, Tryz.ntmps34
    go_wp2_with fail
    go_ret2
    exact ⟨none, 0, 0, ret_pbT HB.out.symm, by rw [HP.out]; exact OwnX.nil_, by (repeat' (first | exact Below.refl _ _ | assumption | (refine Below.alloc ?_ ?_ _) | (refine Below.setCell ?_ ?_ _) | (refine Below.drew ?_) | (refine below_drewN ?_ _) | (refine below_after (Ext.below _) ?_ ?_) | (refine below_after (by assumption) ?_ ?_) | (simp; done) | omega | (simp; omega)))⟩
  have d3 : decide (1000 < (n : Int)) = false := decide_eq_false (by omega)
  have d3' : decide (1000 < n) = false := decide_eq_false (by omega)
  have hK1 : 1 ≤ K := by omega
  have hkz : ((K : Int) == 0) = false := by simp; omega
  replace hFl := Lib.hid hFl
  go_enter Tryz.func34, Tryz.ntmps34
  go_wp2_with fail
  have hbx := DuAt.new w (.int .i64 (K : Int)) (.slice A n c) 33
  have hbe : Below w.heap.size w (w.alloc (.cells #[.int .i64 (K : Int), .slice A n c] 33)) := (Below.refl _ _).alloc (Nat.le_refl _) _
  obtain ⟨we, hwe⟩ : ∃ we, we = w.alloc (.cells #[.int .i64 (K : Int), .slice A n c] 33) := ⟨_, rfl⟩
  have hsw : we.heap.size = w.heap.size + 1 := by rw [hwe]; simp
  rw [← hwe] at hbx hbe ⊢
  clear hwe
  replace hF := hF.of hbe
  go_loopw [4, 5, 27] (fun v l t wr => ∃ (E : Option Addr) (q j : Nat), v = .slice E j q ∧ l = .int .i64 (lastG fs j) ∧ t = .int .i64 j ∧ j ≤ n ∧ OwnX ekC 27 we.heap.size wr E j q (patL fs j) ∧ Hid (okTT K fs j) ∧ Below we.heap.size we wr) (fun _ _ t _ => n - (intOf t).toNat)
  case atStart => exact ⟨none, 0, 0, rfl, rfl, rfl, by omega, OwnX.nil_, Lib.hid (fun i hi => absurd hi (by omega)), Below.refl _ _⟩
  case round =>
    obtain ⟨E, q, j, rfl, rfl, rfl, hj, hX, hok, hb⟩ := hrel
    have hsz := hb.size
    by_cases hlj : j < n
    · have dj : decide ((j : Int) < n) = true := decide_eq_true (by omega)
      have dj' : decide (j < n) = true := decide_eq_true hlj
      obtain ⟨g, fu, C, D, CA, cn, cc, DA, dn, dc, bo, o, hx, rfl, hbo, g1, g2, g3, g4, hC, hcc, hD, hdc⟩ := hF.frm hlj
      have hbl : bo < wr.heap.size := by omega
      rw [← hb.cell (p := ⟨_, _, none⟩) hbo] at g1 g2 g3 g4
      have hCl := Lib.hid (fun q hq => Rd.blk_lt (h := (CA, cn, cc)) hC q hq)
      have ⟨hC6, hD6⟩ := hsm.at_ hx.out
      have hCn : cn ≤ 1000000 := by rw [← hC.len]; exact hC6
      have hDn : dn ≤ 1000000 := by rw [← hD.len]; exact hD6
      obtain ⟨lg, hlg⟩ : ∃ lg, lastG fs j = lg := ⟨_, rfl⟩
      have hbad := Lib.hid (fun h => tlB_bad (K := K) (key := (K : Int)) rfl hFl.out hlj (okT_no hx.out h))
      have hPno := Lib.hid (fun (h : tlB (K : Int) fs = false) => show tlP (K : Int) fs = [] by unfold tlP; rw [h]; rfl)
      rw [hlg] at hbad ⊢
      have ⟨_, a0, a1⟩ := hbx.of hb
      have er2 : (j : Int).tmod (K : Int) = ((j % K : Nat) : Int) := rfl
      have er : IntKind.i64.wrap ((j % K : Nat) : Int) = ((j % K : Nat) : Int) := IntWalk.i64_in _ (by have := Nat.mod_lt j hK1; omega)
      by_cases hg1 : g ≤ lg
      · have t1 : decide (g ≤ lg) = true := decide_eq_true hg1
        have HB := Lib.hid (hbad.out (fun h => by omega))
        have HP := Lib.hid (hPno.out HB.out)
        clear hg1 hbad hPno hlg
        go_wp2_with fail
        (refine wp_region_ext_lit (by kernel_rfl) (by kernel_rfl) ?_; (repeat (go_big_quiet_step (fail))); refine wpQuiet_nil ?_; intro _ hw'; obtain ⟨z1, hw''⟩ := hw'; subst hw''; have hs1 := z1.size; obtain ⟨hc1, hf1⟩ := bcell z1.below; (try simp only [World.size_alloc, World.size_setCell, World.size_drew] at hc1 hf1); (try simp at hs1))
        go_wp2_with fail
        go_ret2
        exact ⟨none, 0, 0, ret_pbT HB.out.symm, by rw [HP.out]; exact OwnX.nil_, by (repeat' (first | exact Below.refl _ _ | assumption | (refine Below.alloc ?_ ?_ _) | (refine Below.setCell ?_ ?_ _) | (refine Below.drew ?_) | (refine below_drewN ?_ _) | (refine below_after (Ext.below _) ?_ ?_) | (refine below_after (by assumption) ?_ ?_) | (simp; done) | omega | (simp; omega)))⟩
      have t1 : decide (g ≤ lg) = false := decide_eq_false hg1
      by_cases hg2 : 2147483647 < g
      · have t2 : decide (2147483647 < g) = true := decide_eq_true hg2
        have HB := Lib.hid (hbad.out (fun h => by omega))
        have HP := Lib.hid (hPno.out HB.out)
        clear hg1 hg2 hbad hPno hlg
        go_wp2_with fail
        (refine wp_region_ext_lit (by kernel_rfl) (by kernel_rfl) ?_; (repeat (go_big_quiet_step (fail))); refine wpQuiet_nil ?_; intro _ hw'; obtain ⟨z1, hw''⟩ := hw'; subst hw''; have hs1 := z1.size; obtain ⟨hc1, hf1⟩ := bcell z1.below; (try simp only [World.size_alloc, World.size_setCell, World.size_drew] at hc1 hf1); (try simp at hs1))
        go_wp2_with fail
        go_ret2
        exact ⟨none, 0, 0, ret_pbT HB.out.symm, by rw [HP.out]; exact OwnX.nil_, by (repeat' (first | exact Below.refl _ _ | assumption | (refine Below.alloc ?_ ?_ _) | (refine Below.setCell ?_ ?_ _) | (refine Below.drew ?_) | (refine below_drewN ?_ _) | (refine below_after (Ext.below _) ?_ ?_) | (refine below_after (by assumption) ?_ ?_) | (simp; done) | omega | (simp; omega)))⟩
      have t2 : decide (2147483647 < g) = false := decide_eq_false hg2
      obtain ⟨z, hz⟩ : ∃ z, decide (j % K = 0) = z := ⟨_, rfl⟩
      have hzi : (((j % K : Nat) : Int) == 0) = z := by rw [← hz, Bool.eq_iff_iff]; simp; omega
      generalize ((j % K : Nat) : Int) = rk at er er2 hzi
      cases fu with
      | true =>
        cases z with
        | false =>
          have HB := Lib.hid (hbad.out (fun h => (of_decide_eq_false hz) (h.2.2.1.1 rfl)))
          have HP := Lib.hid (hPno.out HB.out)
          clear hg1 hg2 hbad hPno hlg hz
          go_wp2_with fail
          (refine wp_region_ext_lit (by kernel_rfl) (by kernel_rfl) ?_; (repeat (go_big_quiet_step (fail))); refine wpQuiet_nil ?_; intro _ hw'; obtain ⟨z1, hw''⟩ := hw'; subst hw''; have hs1 := z1.size; obtain ⟨hc1, hf1⟩ := bcell z1.below; (try simp only [World.size_alloc, World.size_setCell, World.size_drew] at hc1 hf1); (try simp at hs1))
          go_wp2_with fail
          go_ret2
          exact ⟨none, 0, 0, ret_pbT HB.out.symm, by rw [HP.out]; exact OwnX.nil_, by (repeat' (first | exact Below.refl _ _ | assumption | (refine Below.alloc ?_ ?_ _) | (refine Below.setCell ?_ ?_ _) | (refine Below.drew ?_) | (refine below_drewN ?_ _) | (refine below_after (Ext.below _) ?_ ?_) | (refine below_after (by assumption) ?_ ?_) | (simp; done) | omega | (simp; omega)))⟩
        | true =>
          have kR := fun w1 h => pat_Right CA cn cc C w1 h (by omega)
          cases hrC : rightC C with
          | false =>
            have HB := Lib.hid (hbad.out (fun h => by have := (h.2.2.2.1 rfl).1; rw [hrC] at this; cases this))
            have HP := Lib.hid (hPno.out HB.out)
            rw [hrC] at kR
            clear hg1 hg2 hbad hPno hlg hz hrC
            go_wp2_with fail
            (refine wp_region_ext_lit (by kernel_rfl) (by kernel_rfl) ?_; (repeat (go_big_quiet_step (fail))); refine wpQuiet_nil ?_; intro _ hw'; obtain ⟨z1, hw''⟩ := hw'; subst hw''; have hs1 := z1.size; obtain ⟨hc1, hf1⟩ := bcell z1.below; (try simp only [World.size_alloc, World.size_setCell, World.size_drew] at hc1 hf1); (try simp at hs1))
            go_wp2_with fail
            (go_at_call 70; refine (kR _ ((hC.of hb).of (show Below wr.heap.size wr z1.world from by (repeat' (first | exact Below.refl _ _ | assumption | (refine Below.alloc ?_ ?_ _) | (refine Below.setCell ?_ ?_ _) | (refine Below.drew ?_) | (refine below_drewN ?_ _) | (refine below_after (Ext.below _) ?_ ?_) | (refine below_after (by assumption) ?_ ?_) | (simp; done) | omega | (simp; omega)))))).mono ?_; rintro e w3 ⟨rfl, hb3⟩; obtain ⟨hc3, hf3⟩ := bcell hb3; have hs3 := hb3.size; (try simp only [World.size_alloc, World.size_setCell, World.size_drew] at hc3 hf3); (try simp at hs3))
            go_wp2_with fail
            go_ret2
            exact ⟨none, 0, 0, ret_pbT HB.out.symm, by rw [HP.out]; exact OwnX.nil_, by (repeat' (first | exact Below.refl _ _ | assumption | (refine Below.alloc ?_ ?_ _) | (refine Below.setCell ?_ ?_ _) | (refine Below.drew ?_) | (refine below_drewN ?_ _) | (refine below_after (Ext.below _) ?_ ?_) | (refine below_after (by assumption) ?_ ?_) | (simp; done) | omega | (simp; omega)))⟩
          | true =>
            rw [hrC] at kR
            by_cases hd0 : 0 < dn
            · have t5 : decide ((0 : Int) < dn) = true := decide_eq_true (by omega)
              have t5' : decide (0 < dn) = true := decide_eq_true hd0
              have HB := Lib.hid (hbad.out (fun h => by have := (h.2.2.2.1 rfl).2; subst this; have := hD.len; simp at this; omega))
              have HP := Lib.hid (hPno.out HB.out)
              clear hg1 hg2 hbad hPno hlg hz hrC
              go_wp2_with fail
              (refine wp_region_ext_lit (by kernel_rfl) (by kernel_rfl) ?_; (repeat (go_big_quiet_step (fail))); refine wpQuiet_nil ?_; intro _ hw'; obtain ⟨z1, hw''⟩ := hw'; subst hw''; have hs1 := z1.size; obtain ⟨hc1, hf1⟩ := bcell z1.below; (try simp only [World.size_alloc, World.size_setCell, World.size_drew] at hc1 hf1); (try simp at hs1))
              go_wp2_with fail
              (go_at_call 70; refine (kR _ ((hC.of hb).of (show Below wr.heap.size wr z1.world from by (repeat' (first | exact Below.refl _ _ | assumption | (refine Below.alloc ?_ ?_ _) | (refine Below.setCell ?_ ?_ _) | (refine Below.drew ?_) | (refine below_drewN ?_ _) | (refine below_after (Ext.below _) ?_ ?_) | (refine below_after (by assumption) ?_ ?_) | (simp; done) | omega | (simp; omega)))))).mono ?_; rintro e w3 ⟨rfl, hb3⟩; obtain ⟨hc3, hf3⟩ := bcell hb3; have hs3 := hb3.size; (try simp only [World.size_alloc, World.size_setCell, World.size_drew] at hc3 hf3); (try simp at hs3))
              go_wp2_with fail
              go_ret2
              exact ⟨none, 0, 0, ret_pbT HB.out.symm, by rw [HP.out]; exact OwnX.nil_, by (repeat' (first | exact Below.refl _ _ | assumption | (refine Below.alloc ?_ ?_ _) | (refine Below.setCell ?_ ?_ _) | (refine Below.drew ?_) | (refine below_drewN ?_ _) | (refine below_after (Ext.below _) ?_ ?_) | (refine below_after (by assumption) ?_ ?_) | (simp; done) | omega | (simp; omega)))⟩
            · have t5 : decide ((0 : Int) < dn) = false := decide_eq_false (by omega)
              have t5' : decide (0 < dn) = false := decide_eq_false hd0
              have hD0 : D = [] := List.length_eq_zero_iff.1 (by rw [hD.len]; omega)
              have hok2 := Lib.hid (okTT_step hok.out ((okT_iff hx.out).2 ⟨by rw [hlg]; omega, by omega, ⟨fun _ => of_decide_eq_true hz, fun _ => rfl⟩, fun _ => ⟨hrC, hD0⟩, fun h => by cases h⟩))
              have hst := Lib.hid (show patL fs (j + 1) = patL fs j ++ [C] by rw [pat_step hx.out]; rfl)
              have hls := Lib.hid (last_step hx.out)
              clear hg1 hg2 hbad hPno hlg hz hrC hD0
              go_wp2_with fail
              (refine wp_region_ext_lit (by kernel_rfl) (by kernel_rfl) ?_; (repeat (go_big_quiet_step (fail))); refine wpQuiet_nil ?_; intro _ hw'; obtain ⟨z1, hw''⟩ := hw'; subst hw''; have hs1 := z1.size; obtain ⟨hc1, hf1⟩ := bcell z1.below; (try simp only [World.size_alloc, World.size_setCell, World.size_drew] at hc1 hf1); (try simp at hs1))
              go_wp2_with fail
              (go_at_call 70; refine (kR _ ((hC.of hb).of (show Below wr.heap.size wr z1.world from by (repeat' (first | exact Below.refl _ _ | assumption | (refine Below.alloc ?_ ?_ _) | (refine Below.setCell ?_ ?_ _) | (refine Below.drew ?_) | (refine below_drewN ?_ _) | (refine below_after (Ext.below _) ?_ ?_) | (refine below_after (by assumption) ?_ ?_) | (simp; done) | omega | (simp; omega)))))).mono ?_; rintro e w3 ⟨rfl, hb3⟩; obtain ⟨hc3, hf3⟩ := bcell hb3; have hs3 := hb3.size; (try simp only [World.size_alloc, World.size_setCell, World.size_drew] at hc3 hf3); (try simp at hs3))
              have hb3' : Below wr.heap.size wr w3 := by (repeat' (first | exact Below.refl _ _ | assumption | (refine Below.alloc ?_ ?_ _) | (refine Below.setCell ?_ ?_ _) | (refine Below.drew ?_) | (refine below_drewN ?_ _) | (refine below_after (Ext.below _) ?_ ?_) | (refine below_after (by assumption) ?_ ?_) | (simp; done) | omega | (simp; omega)))
              have hC3 := (hC.of hb).of hb3'
              go_wp2_with (first | (at_builtin; refine wpList_append_x (K := ekC) rfl (.tmp 65) (.tmp 68) 37 rfl 27 (.slice none 0 0) 24 Tryz.underlying37 (by kernel_rfl) rfl (we.heap.size) _ _ _ _ rfl ((hX.of hb3').alloc _) (CA, cn, cc) _ (⟨hC3.of (by (repeat' (first | exact Below.refl _ _ | assumption | (refine Below.alloc ?_ ?_ _) | (refine Below.setCell ?_ ?_ _) | (refine Below.drew ?_) | (refine below_drewN ?_ _) | (refine below_after (Ext.below _) ?_ ?_) | (refine below_after (by assumption) ?_ ?_) | (simp; done) | omega | (simp; omega)))), hcc⟩) ((hX.of hb3').offOld hCl.out) ⟨(w3).heap.size, 0, none⟩ 1 rfl (cells_new (w3) (encH (CA, cn, cc)) 27) (by omega) (by omega) (by first | omega | (simp; done) | (simp; omega)) ?_; intro A6 c6 w6 hown6 hg6 hb6; obtain ⟨hc6, hf6⟩ := bcell hb6; have hs6 := hb6.size; (try simp only [World.size_alloc, World.size_setCell, World.size_drew] at hc6 hf6); (try simp at hs6)))
              go_roundw
              case rel => exact ⟨A6, c6, j + 1, rfl, by rw [hls.out], by go_num, by omega, by rw [hst.out]; exact hown6, hok2, by (repeat' (first | exact Below.refl _ _ | assumption | (refine Below.alloc ?_ ?_ _) | (refine Below.setCell ?_ ?_ _) | (refine Below.drew ?_) | (refine below_drewN ?_ _) | (refine below_after (Ext.below _) ?_ ?_) | (refine below_after (by assumption) ?_ ?_) | (simp; done) | omega | (simp; omega)))⟩
              case measure => simp [intOf]; omega
      | false =>
        cases z with
        | true =>
          have HB := Lib.hid (hbad.out (fun h => by have := h.2.2.1.2 (of_decide_eq_true hz); cases this))
          have HP := Lib.hid (hPno.out HB.out)
          clear hg1 hg2 hbad hPno hlg hz
          go_wp2_with fail
          (refine wp_region_ext_lit (by kernel_rfl) (by kernel_rfl) ?_; (repeat (go_big_quiet_step (fail))); refine wpQuiet_nil ?_; intro _ hw'; obtain ⟨z1, hw''⟩ := hw'; subst hw''; have hs1 := z1.size; obtain ⟨hc1, hf1⟩ := bcell z1.below; (try simp only [World.size_alloc, World.size_setCell, World.size_drew] at hc1 hf1); (try simp at hs1))
          go_wp2_with fail
          go_ret2
          exact ⟨none, 0, 0, ret_pbT HB.out.symm, by rw [HP.out]; exact OwnX.nil_, by (repeat' (first | exact Below.refl _ _ | assumption | (refine Below.alloc ?_ ?_ _) | (refine Below.setCell ?_ ?_ _) | (refine Below.drew ?_) | (refine below_drewN ?_ _) | (refine below_after (Ext.below _) ?_ ?_) | (refine below_after (by assumption) ?_ ?_) | (simp; done) | omega | (simp; omega)))⟩
        | false =>
          have hj1 : 1 ≤ j := by
            rcases Nat.eq_zero_or_pos j with h | h
            · subst h; rw [Nat.zero_mod] at hz; simp at hz
            · exact h
          have hjl : j ≤ fs.length := by rw [hFl.out]; exact hj
          obtain ⟨PA, pn, pc, P, bX, oX, hPx, rfl, hbX, gx, hP, hpc⟩ := hX.rd.pat (i := j - 1) (by omega)
          have hPr := pat_rightT hok.out hjl P (List.mem_of_getElem? hPx.out)
          have hPg : (patL fs j).getD (j - 1) [] = P := getD_of hPx.out
          have hpn : pn ≤ 5000 := by rw [← hP.len]; exact (rightC_ok hPr).1
          have kAp := fun w1 h1 h2 => del_Apply PA DA pn pc dn dc P D w1 h1 h2 (by omega) hDn
          obtain ⟨jp, hjp⟩ : ∃ jp, jp = j - 1 := ⟨_, rfl⟩
          have j0 : (0 : Int) ≤ (jp : Int) := by omega
          have j1 : (jp : Int) < (j : Int) := by omega
          have wk : IntKind.i64.wrap ((j : Int) - 1) = (jp : Int) := by rw [IntWalk.i64_in _ (by omega)]; omega
          rw [← hjp] at gx
          clear hjp
          by_cases he : apE P D = 0
          · by_cases hc0 : 0 < cn
            · have t5 : decide ((0 : Int) < cn) = true := decide_eq_true (by omega)
              have t5' : decide (0 < cn) = true := decide_eq_true hc0
              have HB := Lib.hid (hbad.out (fun h => by have := (h.2.2.2.2 rfl).2; subst this; have := hC.len; simp at this; omega))
              have HP := Lib.hid (hPno.out HB.out)
              rw [he] at kAp
              clear hg1 hg2 hbad hPno hlg hz he hPr hPg
              go_wp2_with fail
              (refine wp_region_ext_lit (by kernel_rfl) (by kernel_rfl) ?_; (repeat (go_big_quiet_step (fail))); refine wpQuiet_nil ?_; intro _ hw'; obtain ⟨z1, hw''⟩ := hw'; subst hw''; have hs1 := z1.size; obtain ⟨hc1, hf1⟩ := bcell z1.below; (try simp only [World.size_alloc, World.size_setCell, World.size_drew] at hc1 hf1); (try simp at hs1))
              have hq1 := (QuAt.new wr (.int .i64 g) (.bool false) (.slice CA cn cc) (.slice DA dn dc) 90).of z1.below
              have hb1 : Below wr.heap.size wr z1.world := by (repeat' (first | exact Below.refl _ _ | assumption | (refine Below.alloc ?_ ?_ _) | (refine Below.setCell ?_ ?_ _) | (refine Below.drew ?_) | (refine below_drewN ?_ _) | (refine below_after (Ext.below _) ?_ ?_) | (refine below_after (by assumption) ?_ ?_) | (simp; done) | omega | (simp; omega)))
              have hX1 := hX.of hb1
              have hP1 := hP.of hb1
              have hD1 := (hD.of hb).of hb1
              have hC1 := (hC.of hb).of hb1
              have hB1 : Below w.heap.size w z1.world := by (repeat' (first | exact Below.refl _ _ | assumption | (refine Below.alloc ?_ ?_ _) | (refine Below.setCell ?_ ?_ _) | (refine Below.drew ?_) | (refine below_drewN ?_ _) | (refine below_after (Ext.below _) ?_ ?_) | (refine below_after (by assumption) ?_ ?_) | (simp; done) | omega | (simp; omega)))
              have hBe1 : Below we.heap.size we z1.world := by (repeat' (first | exact Below.refl _ _ | assumption | (refine Below.alloc ?_ ?_ _) | (refine Below.setCell ?_ ?_ _) | (refine Below.drew ?_) | (refine below_drewN ?_ _) | (refine below_after (Ext.below _) ?_ ?_) | (refine below_after (by assumption) ?_ ?_) | (simp; done) | omega | (simp; omega)))
              have gx1 : z1.world.cell? ⟨bX, oX + jp, none⟩ = some (.slice PA pn pc) := (hb1.cell (p := ⟨_, _, none⟩) hbX).trans gx
              have hl1 := hb1.size
              clear hc1 hf1 hs1
              go_wp2_with fail
              obtain ⟨w1, hw1⟩ : ∃ w1, w1 = z1.world := ⟨_, rfl⟩
              rw [← hw1] at hq1 hX1 hP1 hD1 hC1 hB1 hBe1 gx1 hl1 ⊢
              clear hw1 hX hP gx g1 g2 g3 g4 hb1 a0 a1
              obtain ⟨kb, hkb⟩ : ∃ kb, kb = wr.heap.size := ⟨_, rfl⟩
              rw [← hkb] at hq1 ⊢
              have hbX1 : bX < w1.heap.size := by omega
              clear hkb
              have hkb1 : kb < w1.heap.size := hq1.1
              have hk3 := hq1.2.2.2.2
              have hB1s := hB1.size
              have hBe1s := hBe1.size
              go_region_held3 (fun w' => FrW w1 w' ∧ w'.cell? ⟨bX, oX + jp, none⟩ = some (.slice PA pn pc) ∧ w'.cell? ⟨kb, 3, none⟩ = some (.slice DA dn dc))
                (((try go_split_ands); refine FrW.two ?_ hbX1 gx1 hkb1 hk3; first | exact FrW.drew (FrW.here _) | exact FrW.drew ‹_› | exact FrW.of ‹_› hb2 | fail))
                ((first | (go_at_call 75; (try go_split_ands); refine (kAp _ (hP1.of (FrW.below ‹_›)) (hD1.of (FrW.below ‹_›))).mono ?_; rintro e2 w2 ⟨A2, n2, c2, rfl, hN2, hn2, hb2⟩) | fail))
              (try go_split_ands)
              have hf2 : Below w1.heap.size w1 w2 := FrW.below ‹_›
              have hl2 := hf2.size
              have hB2 : Below w.heap.size w w2 := below_thru hB1 hf2
              have hBe2 : Below we.heap.size we w2 := below_thru hBe1 hf2
              have ⟨_, k0, k1, k2, k3⟩ := hq1.of hf2
              go_wp2_with fail
              go_ret2
              exact ⟨none, 0, 0, ret_pbT HB.out.symm, by rw [HP.out]; exact OwnX.nil_, hB2⟩
            · have t5 : decide ((0 : Int) < cn) = false := decide_eq_false (by omega)
              have t5' : decide (0 < cn) = false := decide_eq_false hc0
              have hC0 : C = [] := List.length_eq_zero_iff.1 (by rw [hC.len]; omega)
              have hok2 := Lib.hid (okTT_step hok.out ((okT_iff hx.out).2 ⟨by rw [hlg]; omega, by omega, ⟨fun h => (by cases h), fun h => absurd h (of_decide_eq_false hz)⟩, fun h => (by cases h), fun _ => ⟨by rw [hPg]; exact he, hC0⟩⟩))
              have hst := Lib.hid (show patL fs (j + 1) = patL fs j ++ [apL P D] by rw [pat_step hx.out]; show _ ++ [apL ((patL fs j).getD (j - 1) []) D] = _; rw [hPg])
              have hls := Lib.hid (last_step hx.out)
              rw [he] at kAp
              clear hg1 hg2 hbad hPno hlg hz he hPr hPg hC0
              go_wp2_with fail
              (refine wp_region_ext_lit (by kernel_rfl) (by kernel_rfl) ?_; (repeat (go_big_quiet_step (fail))); refine wpQuiet_nil ?_; intro _ hw'; obtain ⟨z1, hw''⟩ := hw'; subst hw''; have hs1 := z1.size; obtain ⟨hc1, hf1⟩ := bcell z1.below; (try simp only [World.size_alloc, World.size_setCell, World.size_drew] at hc1 hf1); (try simp at hs1))
              have hq1 := (QuAt.new wr (.int .i64 g) (.bool false) (.slice CA cn cc) (.slice DA dn dc) 90).of z1.below
              have hb1 : Below wr.heap.size wr z1.world := by (repeat' (first | exact Below.refl _ _ | assumption | (refine Below.alloc ?_ ?_ _) | (refine Below.setCell ?_ ?_ _) | (refine Below.drew ?_) | (refine below_drewN ?_ _) | (refine below_after (Ext.below _) ?_ ?_) | (refine below_after (by assumption) ?_ ?_) | (simp; done) | omega | (simp; omega)))
              have hX1 := hX.of hb1
              have hP1 := hP.of hb1
              have hD1 := (hD.of hb).of hb1
              have hC1 := (hC.of hb).of hb1
              have hB1 : Below w.heap.size w z1.world := by (repeat' (first | exact Below.refl _ _ | assumption | (refine Below.alloc ?_ ?_ _) | (refine Below.setCell ?_ ?_ _) | (refine Below.drew ?_) | (refine below_drewN ?_ _) | (refine below_after (Ext.below _) ?_ ?_) | (refine below_after (by assumption) ?_ ?_) | (simp; done) | omega | (simp; omega)))
              have hBe1 : Below we.heap.size we z1.world := by (repeat' (first | exact Below.refl _ _ | assumption | (refine Below.alloc ?_ ?_ _) | (refine Below.setCell ?_ ?_ _) | (refine Below.drew ?_) | (refine below_drewN ?_ _) | (refine below_after (Ext.below _) ?_ ?_) | (refine below_after (by assumption) ?_ ?_) | (simp; done) | omega | (simp; omega)))
              have gx1 : z1.world.cell? ⟨bX, oX + jp, none⟩ = some (.slice PA pn pc) := (hb1.cell (p := ⟨_, _, none⟩) hbX).trans gx
              have hl1 := hb1.size
              clear hc1 hf1 hs1
              go_wp2_with fail
              obtain ⟨w1, hw1⟩ : ∃ w1, w1 = z1.world := ⟨_, rfl⟩
              rw [← hw1] at hq1 hX1 hP1 hD1 hC1 hB1 hBe1 gx1 hl1 ⊢
              clear hw1 hX hP gx g1 g2 g3 g4 hb1 a0 a1
              obtain ⟨kb, hkb⟩ : ∃ kb, kb = wr.heap.size := ⟨_, rfl⟩
              rw [← hkb] at hq1 ⊢
              have hbX1 : bX < w1.heap.size := by omega
              clear hkb
              have hkb1 : kb < w1.heap.size := hq1.1
              have hk3 := hq1.2.2.2.2
              have hB1s := hB1.size
              have hBe1s := hBe1.size
              go_region_held3 (fun w' => FrW w1 w' ∧ w'.cell? ⟨bX, oX + jp, none⟩ = some (.slice PA pn pc) ∧ w'.cell? ⟨kb, 3, none⟩ = some (.slice DA dn dc))
                (((try go_split_ands); refine FrW.two ?_ hbX1 gx1 hkb1 hk3; first | exact FrW.drew (FrW.here _) | exact FrW.drew ‹_› | exact FrW.of ‹_› hb2 | fail))
                ((first | (go_at_call 75; (try go_split_ands); refine (kAp _ (hP1.of (FrW.below ‹_›)) (hD1.of (FrW.below ‹_›))).mono ?_; rintro e2 w2 ⟨A2, n2, c2, rfl, hN2, hn2, hb2⟩) | fail))
              (try go_split_ands)
              have hf2 : Below w1.heap.size w1 w2 := FrW.below ‹_›
              have hl2 := hf2.size
              have hB2 : Below w.heap.size w w2 := below_thru hB1 hf2
              have hBe2 : Below we.heap.size we w2 := below_thru hBe1 hf2
              have ⟨_, k0, k1, k2, k3⟩ := hq1.of hf2
              go_wp2_with (first | (at_builtin; refine wpList_append_x (K := ekC) rfl (.tmp 89) (.tmp 91) 37 rfl 27 (.slice none 0 0) 24 Tryz.underlying37 (by kernel_rfl) rfl (we.heap.size) _ _ _ _ rfl ((hX1.of hf2).alloc _) (A2, n2, c2) _ (⟨hN2.rd.of (by (repeat' (first | exact Below.refl _ _ | assumption | (refine Below.alloc ?_ ?_ _) | (refine Below.setCell ?_ ?_ _) | (refine Below.drew ?_) | (refine below_drewN ?_ _) | (refine below_after (Ext.below _) ?_ ?_) | (refine below_after (by assumption) ?_ ?_) | (simp; done) | omega | (simp; omega)))), hN2.cap⟩) (hN2.off (fun q hq => hX1.lt q hq)) ⟨(w2).heap.size, 0, none⟩ 1 rfl (cells_new (w2) (encH (A2, n2, c2)) 27) (by omega) (by omega) (by first | omega | (simp; done) | (simp; omega)) ?_; intro A6 c6 w6 hown6 hg6 hb6; obtain ⟨hc6, hf6⟩ := bcell hb6; have hs6 := hb6.size; (try simp only [World.size_alloc, World.size_setCell, World.size_drew] at hc6 hf6); (try simp at hs6)))
              go_roundw
              case rel => exact ⟨A6, c6, j + 1, rfl, by rw [hls.out], by go_num, by omega, by rw [hst.out]; exact hown6, hok2, by (repeat' (first | exact Below.refl _ _ | assumption | (refine Below.alloc ?_ ?_ _) | (refine Below.setCell ?_ ?_ _) | (refine Below.drew ?_) | (refine below_drewN ?_ _) | (refine below_after (Ext.below _) ?_ ?_) | (refine below_after (by assumption) ?_ ?_) | (simp; done) | omega | (simp; omega)))⟩
              case measure => simp [intOf]; omega
          · have HB := Lib.hid (hbad.out (fun h => he (by have := (h.2.2.2.2 rfl).1; rw [hPg] at this; exact this)))
            have HP := Lib.hid (hPno.out HB.out)
            generalize apE P D = ea at kAp he
            have t6 : (ea != 0) = true := by simpa using he
            clear hg1 hg2 hbad hPno hlg hz he hPr hPg
            go_wp2_with fail
            (refine wp_region_ext_lit (by kernel_rfl) (by kernel_rfl) ?_; (repeat (go_big_quiet_step (fail))); refine wpQuiet_nil ?_; intro _ hw'; obtain ⟨z1, hw''⟩ := hw'; subst hw''; have hs1 := z1.size; obtain ⟨hc1, hf1⟩ := bcell z1.below; (try simp only [World.size_alloc, World.size_setCell, World.size_drew] at hc1 hf1); (try simp at hs1))
            have hq1 := (QuAt.new wr (.int .i64 g) (.bool false) (.slice CA cn cc) (.slice DA dn dc) 90).of z1.below
            have hb1 : Below wr.heap.size wr z1.world := by (repeat' (first | exact Below.refl _ _ | assumption | (refine Below.alloc ?_ ?_ _) | (refine Below.setCell ?_ ?_ _) | (refine Below.drew ?_) | (refine below_drewN ?_ _) | (refine below_after (Ext.below _) ?_ ?_) | (refine below_after (by assumption) ?_ ?_) | (simp; done) | omega | (simp; omega)))
            have hX1 := hX.of hb1
            have hP1 := hP.of hb1
            have hD1 := (hD.of hb).of hb1
            have hC1 := (hC.of hb).of hb1
            have hB1 : Below w.heap.size w z1.world := by (repeat' (first | exact Below.refl _ _ | assumption | (refine Below.alloc ?_ ?_ _) | (refine Below.setCell ?_ ?_ _) | (refine Below.drew ?_) | (refine below_drewN ?_ _) | (refine below_after (Ext.below _) ?_ ?_) | (refine below_after (by assumption) ?_ ?_) | (simp; done) | omega | (simp; omega)))
            have hBe1 : Below we.heap.size we z1.world := by (repeat' (first | exact Below.refl _ _ | assumption | (refine Below.alloc ?_ ?_ _) | (refine Below.setCell ?_ ?_ _) | (refine Below.drew ?_) | (refine below_drewN ?_ _) | (refine below_after (Ext.below _) ?_ ?_) | (refine below_after (by assumption) ?_ ?_) | (simp; done) | omega | (simp; omega)))
            have gx1 : z1.world.cell? ⟨bX, oX + jp, none⟩ = some (.slice PA pn pc) := (hb1.cell (p := ⟨_, _, none⟩) hbX).trans gx
            have hl1 := hb1.size
            clear hc1 hf1 hs1
            go_wp2_with fail
            obtain ⟨w1, hw1⟩ : ∃ w1, w1 = z1.world := ⟨_, rfl⟩
            rw [← hw1] at hq1 hX1 hP1 hD1 hC1 hB1 hBe1 gx1 hl1 ⊢
            clear hw1 hX hP gx g1 g2 g3 g4 hb1 a0 a1
            obtain ⟨kb, hkb⟩ : ∃ kb, kb = wr.heap.size := ⟨_, rfl⟩
            rw [← hkb] at hq1 ⊢
            have hbX1 : bX < w1.heap.size := by omega
            clear hkb
            have hkb1 : kb < w1.heap.size := hq1.1
            have hk3 := hq1.2.2.2.2
            have hB1s := hB1.size
            have hBe1s := hBe1.size
            go_region_held3 (fun w' => FrW w1 w' ∧ w'.cell? ⟨bX, oX + jp, none⟩ = some (.slice PA pn pc) ∧ w'.cell? ⟨kb, 3, none⟩ = some (.slice DA dn dc))
              (((try go_split_ands); refine FrW.two ?_ hbX1 gx1 hkb1 hk3; first | exact FrW.drew (FrW.here _) | exact FrW.drew ‹_› | exact FrW.of ‹_› hb2 | fail))
              ((first | (go_at_call 75; (try go_split_ands); refine (kAp _ (hP1.of (FrW.below ‹_›)) (hD1.of (FrW.below ‹_›))).mono ?_; rintro e2 w2 ⟨A2, n2, c2, rfl, hN2, hn2, hb2⟩) | fail))
            (try go_split_ands)
            have hf2 : Below w1.heap.size w1 w2 := FrW.below ‹_›
            have hl2 := hf2.size
            have hB2 : Below w.heap.size w w2 := below_thru hB1 hf2
            have hBe2 : Below we.heap.size we w2 := below_thru hBe1 hf2
            have ⟨_, k0, k1, k2, k3⟩ := hq1.of hf2
            go_wp2_with fail
            go_ret2
            exact ⟨none, 0, 0, ret_pbT HB.out.symm, by rw [HP.out]; exact OwnX.nil_, hB2⟩
    · obtain rfl : j = n := by omega
      have dj : decide ((j : Int) < j) = false := decide_eq_false (by omega)
      have dj' : decide (j < j) = false := decide_eq_false (by omega)
      have HB := tlB_all (key := (K : Int)) (K := K) rfl hk hFl.out (by omega) hok.out
      have HP := Lib.hid (show tlP (K : Int) fs = patL fs j by unfold tlP; rw [if_pos HB, hFl.out])
      replace HB := Lib.hid HB
      go_wp2_with fail
      go_ret2
      exact ⟨E, j, q, ret_pbT HB.out.symm, by rw [HP.out]; exact hX.more (by omega), by (repeat' (first | exact Below.refl _ _ | assumption | (refine Below.alloc ?_ ?_ _) | (refine Below.setCell ?_ ?_ _) | (refine Below.drew ?_) | (refine below_drewN ?_ _) | (refine below_after (Ext.below _) ?_ ?_) | (refine below_after (by assumption) ?_ ?_) | (simp; done) | omega | (simp; omega)))⟩
end Go.Proofs.YtellglbmbocgkaaGreatDoor
