/- The contract of timeline.patterns. The contracts of the reference's insert and find on changes. The contract of the reference's Of. The contract of the reference's Apply. The contract of the reference's Patterns. The contracts of Right and At of timelines, both; of timeline.frame. -/
import Derived.Test.YtmenokhnanghgaaGreatDLF
import Derived.Test.YtmenokhnanghgaaGreatTRE
import Derived.Test.YtmenokhnanghgaaGreatDIR
import Derived.Test.YtmenokhnanghgaaGreatCHG
import Derived.Test.YtmenokhnanghgaaGreatPLN
import Derived.Test.YtmenokhnanghgaaGreatMEM
import Derived.Test.YtmenokhnanghgaaGreatSRT
import Derived.Test.YtmenokhnanghgaaGreatCEL
import Derived.Deep.RegionHeld3
set_option linter.unusedSimpArgs false
set_option linter.unusedVariables false
section
namespace Go.Proofs.YtmenokhnanghgaaGreat
open Go Go.RowKit
set_option maxRecDepth 100000
theorem OwnX.offOld {α β : Type} {K : EK α β} {e : TypeId} {B n c : Nat} {w : World} {A : Option Addr} {bs : List β} (h : OwnX K e B w A n c bs) {l : List Nat} (hl : ∀ q ∈ l, q < B) : ∀ q ∈ l, some q ≠ (Value.slice A n c).ownBlock := fun q hq e => by
  obtain ⟨xs0, h1, _, _⟩ := h
  have := h1.above q e.symm
  have := hl q hq
  omega
theorem ret_pbT {v : Value} {a b : Bool} (h : a = b) : Ending.returned (.tuple #[v, .bool a]) = .returned (.tuple #[v, .bool b]) := by rw [h]
theorem last_le {K : Nat} {fs : List TFr} {j : Nat} (h : okTT K fs j) (hj : j ≤ fs.length) : -1 ≤ lastG fs j ∧ lastG fs j ≤ 2147483647 := by
  cases j with
  | zero => exact ⟨Int.le_refl _, by show (-1 : Int) ≤ _; omega⟩
  | succ i =>
    obtain ⟨⟨g, fu, C, D⟩, hf⟩ : ∃ f, fs[i]? = some f := ⟨_, List.getElem?_eq_getElem (by omega)⟩
    have ho := (okT_iff hf).1 (h i (by omega))
    have := last_le (j := i) (fun r hr => h r (by omega)) (by omega)
    rw [last_step hf]
    omega
set_option maxHeartbeats 8000000 in
theorem tl_patterns (key : Int) (A : Option Addr) (n c : Nat) (fs : List TFr) (w : World) (hF : RdX ekFr w A n fs) (hsm : SmT fs) :
    Calls Tryz.prog 106 #[.agg #[.int .i64 key, .slice A n c]] w fun e w' => ∃ B m d, e = .returned (.tuple #[.slice B m d, .bool (tlB key fs)]) ∧ OwnX ekC 23 w.heap.size w' B m d (tlP key fs) ∧ Below w.heap.size w w' := by
  by_cases hk : ¬(1 ≤ key ∧ key ≤ 100)
  · have HB := Lib.hid (tlB_key (fs := fs) hk)
    have HP := Lib.hid (show tlP key fs = [] by unfold tlP; rw [HB.out]; rfl)
    have hways : decide (key < 1) = true ∨ (decide (key < 1) = false ∧ decide (100 < key) = true) := by simp only [decide_eq_true_eq, decide_eq_false_iff_not]; omega
    clear hk
    rcases hways with d1 | ⟨d1, d2⟩
    all_goals
      go_enter Tryz.func106, Tryz.ntmps106
      go_wp2_with fail
      go_ret2
      exact ⟨none, 0, 0, ret_pbT HB.out.symm, by rw [HP.out]; exact OwnX.nil_, by (repeat' (first | exact Below.refl _ _ | assumption | (refine Below.alloc ?_ ?_ _) | (refine Below.setCell ?_ ?_ _) | (refine Below.drew ?_) | (refine below_drewN ?_ _) | (refine below_after (Ext.below _) ?_ ?_) | (refine below_after (by assumption) ?_ ?_) | (simp; done) | omega | (simp; omega)))⟩
  have hk := Decidable.not_not.1 hk
  obtain ⟨K, rfl⟩ : ∃ K : Nat, key = (K : Int) := ⟨key.toNat, by omega⟩
  have d1 : decide ((K : Int) < 1) = false := decide_eq_false (by omega)
  have d2 : decide (100 < (K : Int)) = false := decide_eq_false (by omega)
  have d2' : decide (100 < K) = false := decide_eq_false (by omega)
  have hFl := hF.len
  by_cases hl : 1000 < n
  · have HB := Lib.hid (tlB_len (key := (K : Int)) hFl hl)
    have HP := Lib.hid (show tlP (K : Int) fs = [] by unfold tlP; rw [HB.out]; rfl)
    have d3 : decide (1000 < (n : Int)) = true := decide_eq_true (by omega)
    have d3' : decide (1000 < n) = true := decide_eq_true (by omega)
    clear hk
    go_enter Tryz.func106, Tryz.ntmps106
    go_wp2_with fail
    go_ret2
    exact ⟨none, 0, 0, ret_pbT HB.out.symm, by rw [HP.out]; exact OwnX.nil_, by (repeat' (first | exact Below.refl _ _ | assumption | (refine Below.alloc ?_ ?_ _) | (refine Below.setCell ?_ ?_ _) | (refine Below.drew ?_) | (refine below_drewN ?_ _) | (refine below_after (Ext.below _) ?_ ?_) | (refine below_after (by assumption) ?_ ?_) | (simp; done) | omega | (simp; omega)))⟩
  have d3 : decide (1000 < (n : Int)) = false := decide_eq_false (by omega)
  have d3' : decide (1000 < n) = false := decide_eq_false (by omega)
  have hK1 : 1 ≤ K := by omega
  have hkz : ((K : Int) == 0) = false := by simp; omega
  replace hFl := Lib.hid hFl
  go_enter Tryz.func106, Tryz.ntmps106
  go_wp2_with fail
  have hbx := DuAt.new w (.int .i64 (K : Int)) (.slice A n c) 54
  have hbe : Below w.heap.size w (w.alloc (.cells #[.int .i64 (K : Int), .slice A n c] 54)) := (Below.refl _ _).alloc (Nat.le_refl _) _
  obtain ⟨we, hwe⟩ : ∃ we, we = w.alloc (.cells #[.int .i64 (K : Int), .slice A n c] 54) := ⟨_, rfl⟩
  have hsw : we.heap.size = w.heap.size + 1 := by rw [hwe]; simp
  rw [← hwe] at hbx hbe ⊢
  clear hwe
  replace hF := hF.of hbe
  go_loopw [4, 5, 27] (fun v l t wr => ∃ (E : Option Addr) (q j : Nat), v = .slice E j q ∧ l = .int .i64 (lastG fs j) ∧ t = .int .i64 j ∧ j ≤ n ∧ OwnX ekC 23 we.heap.size wr E j q (patL fs j) ∧ Hid (okTT K fs j) ∧ Below we.heap.size we wr) (fun _ _ t _ => n - (intOf t).toNat)
  case atStart => exact ⟨none, 0, 0, rfl, rfl, rfl, by omega, OwnX.nil_, Lib.hid (fun i hi => absurd hi (by omega)), Below.refl _ _⟩
  case round =>
    obtain ⟨E, q, j, rfl, rfl, rfl, hj, hX, hok, hb⟩ := hrel
    have hsz := hb.size
    by_cases hlj : j < n
    · have dj : decide ((j : Int) < n) = true := decide_eq_true (by omega)
      have dj' : decide (j < n) = true := decide_eq_true hlj
      obtain ⟨g, fu, C, D, CA, cn, cc, DA, dn, dc, bo, o, hx, rfl, hbo, g1, g2, g3, g4, hC, hcc, hD, hdc⟩ := hF.frm hlj
      have hbl : bo < wr.heap.size := by omega
      rw [← hb.cell (p := ⟨_, _, none⟩) hbo] at g1 g2 g3 g4
      have hCl := Lib.hid (fun q hq => Rd.blk_lt (h := (CA, cn, cc)) hC q hq)
      have ⟨hC6, hD6⟩ := hsm.at_ hx.out
      have hCn : cn ≤ 1000000 := by rw [← hC.len]; exact hC6
      have hDn : dn ≤ 1000000 := by rw [← hD.len]; exact hD6
      obtain ⟨lg, hlg⟩ : ∃ lg, lastG fs j = lg := ⟨_, rfl⟩
      have hbad := Lib.hid (fun h => tlB_bad (K := K) (key := (K : Int)) rfl hFl.out hlj (okT_no hx.out h))
      have hPno := Lib.hid (fun (h : tlB (K : Int) fs = false) => show tlP (K : Int) fs = [] by unfold tlP; rw [h]; rfl)
      rw [hlg] at hbad ⊢
      have ⟨_, a0, a1⟩ := hbx.of hb
      have er2 : (j : Int).tmod (K : Int) = ((j % K : Nat) : Int) := rfl
      have er : IntKind.i64.wrap ((j % K : Nat) : Int) = ((j % K : Nat) : Int) := IntWalk.i64_in _ (by have := Nat.mod_lt j hK1; omega)
      by_cases hg1 : g ≤ lg
      · have t1 : decide (g ≤ lg) = true := decide_eq_true hg1
        have HB := Lib.hid (hbad.out (fun h => by omega))
        have HP := Lib.hid (hPno.out HB.out)
        clear hg1 hbad hPno hlg
        go_wp2_with fail
        (refine wp_region_ext_lit (by kernel_rfl) (by kernel_rfl) ?_; (repeat (go_big_quiet_step (fail))); refine wpQuiet_nil ?_; intro _ hw'; obtain ⟨z1, hw''⟩ := hw'; subst hw''; have hs1 := z1.size; obtain ⟨hc1, hf1⟩ := bcell z1.below; (try simp only [World.size_alloc, World.size_setCell, World.size_drew] at hc1 hf1); (try simp at hs1))
        go_wp2_with fail
        go_ret2
        exact ⟨none, 0, 0, ret_pbT HB.out.symm, by rw [HP.out]; exact OwnX.nil_, by (repeat' (first | exact Below.refl _ _ | assumption | (refine Below.alloc ?_ ?_ _) | (refine Below.setCell ?_ ?_ _) | (refine Below.drew ?_) | (refine below_drewN ?_ _) | (refine below_after (Ext.below _) ?_ ?_) | (refine below_after (by assumption) ?_ ?_) | (simp; done) | omega | (simp; omega)))⟩
      have t1 : decide (g ≤ lg) = false := decide_eq_false hg1
      by_cases hg2 : 2147483647 < g
      · have t2 : decide (2147483647 < g) = true := decide_eq_true hg2
        have HB := Lib.hid (hbad.out (fun h => by omega))
        have HP := Lib.hid (hPno.out HB.out)
        clear hg1 hg2 hbad hPno hlg
        go_wp2_with fail
        (refine wp_region_ext_lit (by kernel_rfl) (by kernel_rfl) ?_; (repeat (go_big_quiet_step (fail))); refine wpQuiet_nil ?_; intro _ hw'; obtain ⟨z1, hw''⟩ := hw'; subst hw''; have hs1 := z1.size; obtain ⟨hc1, hf1⟩ := bcell z1.below; (try simp only [World.size_alloc, World.size_setCell, World.size_drew] at hc1 hf1); (try simp at hs1))
        go_wp2_with fail
        go_ret2
        exact ⟨none, 0, 0, ret_pbT HB.out.symm, by rw [HP.out]; exact OwnX.nil_, by (repeat' (first | exact Below.refl _ _ | assumption | (refine Below.alloc ?_ ?_ _) | (refine Below.setCell ?_ ?_ _) | (refine Below.drew ?_) | (refine below_drewN ?_ _) | (refine below_after (Ext.below _) ?_ ?_) | (refine below_after (by assumption) ?_ ?_) | (simp; done) | omega | (simp; omega)))⟩
      have t2 : decide (2147483647 < g) = false := decide_eq_false hg2
      obtain ⟨z, hz⟩ : ∃ z, decide (j % K = 0) = z := ⟨_, rfl⟩
      have hzi : (((j % K : Nat) : Int) == 0) = z := by rw [← hz, Bool.eq_iff_iff]; simp; omega
      generalize ((j % K : Nat) : Int) = rk at er er2 hzi
      cases fu with
      | true =>
        cases z with
        | false =>
          have HB := Lib.hid (hbad.out (fun h => (of_decide_eq_false hz) (h.2.2.1.1 rfl)))
          have HP := Lib.hid (hPno.out HB.out)
          clear hg1 hg2 hbad hPno hlg hz
          go_wp2_with fail
          (refine wp_region_ext_lit (by kernel_rfl) (by kernel_rfl) ?_; (repeat (go_big_quiet_step (fail))); refine wpQuiet_nil ?_; intro _ hw'; obtain ⟨z1, hw''⟩ := hw'; subst hw''; have hs1 := z1.size; obtain ⟨hc1, hf1⟩ := bcell z1.below; (try simp only [World.size_alloc, World.size_setCell, World.size_drew] at hc1 hf1); (try simp at hs1))
          go_wp2_with fail
          go_ret2
          exact ⟨none, 0, 0, ret_pbT HB.out.symm, by rw [HP.out]; exact OwnX.nil_, by (repeat' (first | exact Below.refl _ _ | assumption | (refine Below.alloc ?_ ?_ _) | (refine Below.setCell ?_ ?_ _) | (refine Below.drew ?_) | (refine below_drewN ?_ _) | (refine below_after (Ext.below _) ?_ ?_) | (refine below_after (by assumption) ?_ ?_) | (simp; done) | omega | (simp; omega)))⟩
        | true =>
          have kR := fun w1 h => pat_Right CA cn cc C w1 h (by omega)
          cases hrC : rightC C with
          | false =>
            have HB := Lib.hid (hbad.out (fun h => by have := (h.2.2.2.1 rfl).1; rw [hrC] at this; cases this))
            have HP := Lib.hid (hPno.out HB.out)
            rw [hrC] at kR
            clear hg1 hg2 hbad hPno hlg hz hrC
            go_wp2_with fail
            (refine wp_region_ext_lit (by kernel_rfl) (by kernel_rfl) ?_; (repeat (go_big_quiet_step (fail))); refine wpQuiet_nil ?_; intro _ hw'; obtain ⟨z1, hw''⟩ := hw'; subst hw''; have hs1 := z1.size; obtain ⟨hc1, hf1⟩ := bcell z1.below; (try simp only [World.size_alloc, World.size_setCell, World.size_drew] at hc1 hf1); (try simp at hs1))
            go_wp2_with fail
            (go_at_call 34; refine (kR _ ((hC.of hb).of (show Below wr.heap.size wr z1.world from by (repeat' (first | exact Below.refl _ _ | assumption | (refine Below.alloc ?_ ?_ _) | (refine Below.setCell ?_ ?_ _) | (refine Below.drew ?_) | (refine below_drewN ?_ _) | (refine below_after (Ext.below _) ?_ ?_) | (refine below_after (by assumption) ?_ ?_) | (simp; done) | omega | (simp; omega)))))).mono ?_; rintro e w3 ⟨rfl, hb3⟩; obtain ⟨hc3, hf3⟩ := bcell hb3; have hs3 := hb3.size; (try simp only [World.size_alloc, World.size_setCell, World.size_drew] at hc3 hf3); (try simp at hs3))
            go_wp2_with fail
            go_ret2
            exact ⟨none, 0, 0, ret_pbT HB.out.symm, by rw [HP.out]; exact OwnX.nil_, by (repeat' (first | exact Below.refl _ _ | assumption | (refine Below.alloc ?_ ?_ _) | (refine Below.setCell ?_ ?_ _) | (refine Below.drew ?_) | (refine below_drewN ?_ _) | (refine below_after (Ext.below _) ?_ ?_) | (refine below_after (by assumption) ?_ ?_) | (simp; done) | omega | (simp; omega)))⟩
          | true =>
            rw [hrC] at kR
            by_cases hd0 : 0 < dn
            · have t5 : decide ((0 : Int) < dn) = true := decide_eq_true (by omega)
              have t5' : decide (0 < dn) = true := decide_eq_true hd0
              have HB := Lib.hid (hbad.out (fun h => by have := (h.2.2.2.1 rfl).2; subst this; have := hD.len; simp at this; omega))
              have HP := Lib.hid (hPno.out HB.out)
              clear hg1 hg2 hbad hPno hlg hz hrC
              go_wp2_with fail
              (refine wp_region_ext_lit (by kernel_rfl) (by kernel_rfl) ?_; (repeat (go_big_quiet_step (fail))); refine wpQuiet_nil ?_; intro _ hw'; obtain ⟨z1, hw''⟩ := hw'; subst hw''; have hs1 := z1.size; obtain ⟨hc1, hf1⟩ := bcell z1.below; (try simp only [World.size_alloc, World.size_setCell, World.size_drew] at hc1 hf1); (try simp at hs1))
              go_wp2_with fail
              (go_at_call 34; refine (kR _ ((hC.of hb).of (show Below wr.heap.size wr z1.world from by (repeat' (first | exact Below.refl _ _ | assumption | (refine Below.alloc ?_ ?_ _) | (refine Below.setCell ?_ ?_ _) | (refine Below.drew ?_) | (refine below_drewN ?_ _) | (refine below_after (Ext.below _) ?_ ?_) | (refine below_after (by assumption) ?_ ?_) | (simp; done) | omega | (simp; omega)))))).mono ?_; rintro e w3 ⟨rfl, hb3⟩; obtain ⟨hc3, hf3⟩ := bcell hb3; have hs3 := hb3.size; (try simp only [World.size_alloc, World.size_setCell, World.size_drew] at hc3 hf3); (try simp at hs3))
              go_wp2_with fail
              go_ret2
              exact ⟨none, 0, 0, ret_pbT HB.out.symm, by rw [HP.out]; exact OwnX.nil_, by (repeat' (first | exact Below.refl _ _ | assumption | (refine Below.alloc ?_ ?_ _) | (refine Below.setCell ?_ ?_ _) | (refine Below.drew ?_) | (refine below_drewN ?_ _) | (refine below_after (Ext.below _) ?_ ?_) | (refine below_after (by assumption) ?_ ?_) | (simp; done) | omega | (simp; omega)))⟩
            · have t5 : decide ((0 : Int) < dn) = false := decide_eq_false (by omega)
              have t5' : decide (0 < dn) = false := decide_eq_false hd0
              have hD0 : D = [] := List.length_eq_zero_iff.1 (by rw [hD.len]; omega)
              have hok2 := Lib.hid (okTT_step hok.out ((okT_iff hx.out).2 ⟨by rw [hlg]; omega, by omega, ⟨fun _ => of_decide_eq_true hz, fun _ => rfl⟩, fun _ => ⟨hrC, hD0⟩, fun h => by cases h⟩))
              have hst := Lib.hid (show patL fs (j + 1) = patL fs j ++ [C] by rw [pat_step hx.out]; rfl)
              have hls := Lib.hid (last_step hx.out)
              clear hg1 hg2 hbad hPno hlg hz hrC hD0
              go_wp2_with fail
              (refine wp_region_ext_lit (by kernel_rfl) (by kernel_rfl) ?_; (repeat (go_big_quiet_step (fail))); refine wpQuiet_nil ?_; intro _ hw'; obtain ⟨z1, hw''⟩ := hw'; subst hw''; have hs1 := z1.size; obtain ⟨hc1, hf1⟩ := bcell z1.below; (try simp only [World.size_alloc, World.size_setCell, World.size_drew] at hc1 hf1); (try simp at hs1))
              go_wp2_with fail
              (go_at_call 34; refine (kR _ ((hC.of hb).of (show Below wr.heap.size wr z1.world from by (repeat' (first | exact Below.refl _ _ | assumption | (refine Below.alloc ?_ ?_ _) | (refine Below.setCell ?_ ?_ _) | (refine Below.drew ?_) | (refine below_drewN ?_ _) | (refine below_after (Ext.below _) ?_ ?_) | (refine below_after (by assumption) ?_ ?_) | (simp; done) | omega | (simp; omega)))))).mono ?_; rintro e w3 ⟨rfl, hb3⟩; obtain ⟨hc3, hf3⟩ := bcell hb3; have hs3 := hb3.size; (try simp only [World.size_alloc, World.size_setCell, World.size_drew] at hc3 hf3); (try simp at hs3))
              have hb3' : Below wr.heap.size wr w3 := by (repeat' (first | exact Below.refl _ _ | assumption | (refine Below.alloc ?_ ?_ _) | (refine Below.setCell ?_ ?_ _) | (refine Below.drew ?_) | (refine below_drewN ?_ _) | (refine below_after (Ext.below _) ?_ ?_) | (refine below_after (by assumption) ?_ ?_) | (simp; done) | omega | (simp; omega)))
              have hC3 := (hC.of hb).of hb3'
              go_wp2_with (first | (at_builtin; refine wpList_append_x (K := ekC) rfl (.tmp 65) (.tmp 68) 159 rfl 23 (.slice none 0 0) 24 Tryz.underlying159 (by kernel_rfl) rfl (we.heap.size) _ _ _ _ rfl ((hX.of hb3').alloc _) (CA, cn, cc) _ (⟨hC3.of (by (repeat' (first | exact Below.refl _ _ | assumption | (refine Below.alloc ?_ ?_ _) | (refine Below.setCell ?_ ?_ _) | (refine Below.drew ?_) | (refine below_drewN ?_ _) | (refine below_after (Ext.below _) ?_ ?_) | (refine below_after (by assumption) ?_ ?_) | (simp; done) | omega | (simp; omega)))), hcc⟩) ((hX.of hb3').offOld hCl.out) ⟨(w3).heap.size, 0, none⟩ 1 rfl (cells_new (w3) (encH (CA, cn, cc)) 23) (by omega) (by omega) (by first | omega | (simp; done) | (simp; omega)) ?_; intro A6 c6 w6 hown6 hg6 hb6; obtain ⟨hc6, hf6⟩ := bcell hb6; have hs6 := hb6.size; (try simp only [World.size_alloc, World.size_setCell, World.size_drew] at hc6 hf6); (try simp at hs6)))
              go_roundw
              case rel => exact ⟨A6, c6, j + 1, rfl, by rw [hls.out], by go_num, by omega, by rw [hst.out]; exact hown6, hok2, by (repeat' (first | exact Below.refl _ _ | assumption | (refine Below.alloc ?_ ?_ _) | (refine Below.setCell ?_ ?_ _) | (refine Below.drew ?_) | (refine below_drewN ?_ _) | (refine below_after (Ext.below _) ?_ ?_) | (refine below_after (by assumption) ?_ ?_) | (simp; done) | omega | (simp; omega)))⟩
              case measure => simp [intOf]; omega
      | false =>
        cases z with
        | true =>
          have HB := Lib.hid (hbad.out (fun h => by have := h.2.2.1.2 (of_decide_eq_true hz); cases this))
          have HP := Lib.hid (hPno.out HB.out)
          clear hg1 hg2 hbad hPno hlg hz
          go_wp2_with fail
          (refine wp_region_ext_lit (by kernel_rfl) (by kernel_rfl) ?_; (repeat (go_big_quiet_step (fail))); refine wpQuiet_nil ?_; intro _ hw'; obtain ⟨z1, hw''⟩ := hw'; subst hw''; have hs1 := z1.size; obtain ⟨hc1, hf1⟩ := bcell z1.below; (try simp only [World.size_alloc, World.size_setCell, World.size_drew] at hc1 hf1); (try simp at hs1))
          go_wp2_with fail
          go_ret2
          exact ⟨none, 0, 0, ret_pbT HB.out.symm, by rw [HP.out]; exact OwnX.nil_, by (repeat' (first | exact Below.refl _ _ | assumption | (refine Below.alloc ?_ ?_ _) | (refine Below.setCell ?_ ?_ _) | (refine Below.drew ?_) | (refine below_drewN ?_ _) | (refine below_after (Ext.below _) ?_ ?_) | (refine below_after (by assumption) ?_ ?_) | (simp; done) | omega | (simp; omega)))⟩
        | false =>
          have hj1 : 1 ≤ j := by
            rcases Nat.eq_zero_or_pos j with h | h
            · subst h; rw [Nat.zero_mod] at hz; simp at hz
            · exact h
          have hjl : j ≤ fs.length := by rw [hFl.out]; exact hj
          obtain ⟨PA, pn, pc, P, bX, oX, hPx, rfl, hbX, gx, hP, hpc⟩ := hX.rd.pat (i := j - 1) (by omega)
          have hPr := pat_rightT hok.out hjl P (List.mem_of_getElem? hPx.out)
          have hPg : (patL fs j).getD (j - 1) [] = P := getD_of hPx.out
          have hpn : pn ≤ 5000 := by rw [← hP.len]; exact (rightC_ok hPr).1
          have kAp := fun w1 h1 h2 => del_Apply PA DA pn pc dn dc P D w1 h1 h2 (by omega) hDn
          obtain ⟨jp, hjp⟩ : ∃ jp, jp = j - 1 := ⟨_, rfl⟩
          have j0 : (0 : Int) ≤ (jp : Int) := by omega
          have j1 : (jp : Int) < (j : Int) := by omega
          have wk : IntKind.i64.wrap ((j : Int) - 1) = (jp : Int) := by rw [IntWalk.i64_in _ (by omega)]; omega
          rw [← hjp] at gx
          clear hjp
          by_cases he : apE P D = 0
          · by_cases hc0 : 0 < cn
            · have t5 : decide ((0 : Int) < cn) = true := decide_eq_true (by omega)
              have t5' : decide (0 < cn) = true := decide_eq_true hc0
              have HB := Lib.hid (hbad.out (fun h => by have := (h.2.2.2.2 rfl).2; subst this; have := hC.len; simp at this; omega))
              have HP := Lib.hid (hPno.out HB.out)
              rw [he] at kAp
              clear hg1 hg2 hbad hPno hlg hz he hPr hPg
              go_wp2_with fail
              (refine wp_region_ext_lit (by kernel_rfl) (by kernel_rfl) ?_; (repeat (go_big_quiet_step (fail))); refine wpQuiet_nil ?_; intro _ hw'; obtain ⟨z1, hw''⟩ := hw'; subst hw''; have hs1 := z1.size; obtain ⟨hc1, hf1⟩ := bcell z1.below; (try simp only [World.size_alloc, World.size_setCell, World.size_drew] at hc1 hf1); (try simp at hs1))
              have hq1 := (QuAt.new wr (.int .i64 g) (.bool false) (.slice CA cn cc) (.slice DA dn dc) 72).of z1.below
              have hb1 : Below wr.heap.size wr z1.world := by (repeat' (first | exact Below.refl _ _ | assumption | (refine Below.alloc ?_ ?_ _) | (refine Below.setCell ?_ ?_ _) | (refine Below.drew ?_) | (refine below_drewN ?_ _) | (refine below_after (Ext.below _) ?_ ?_) | (refine below_after (by assumption) ?_ ?_) | (simp; done) | omega | (simp; omega)))
              have hX1 := hX.of hb1
              have hP1 := hP.of hb1
              have hD1 := (hD.of hb).of hb1
              have hC1 := (hC.of hb).of hb1
              have hB1 : Below w.heap.size w z1.world := by (repeat' (first | exact Below.refl _ _ | assumption | (refine Below.alloc ?_ ?_ _) | (refine Below.setCell ?_ ?_ _) | (refine Below.drew ?_) | (refine below_drewN ?_ _) | (refine below_after (Ext.below _) ?_ ?_) | (refine below_after (by assumption) ?_ ?_) | (simp; done) | omega | (simp; omega)))
              have hBe1 : Below we.heap.size we z1.world := by (repeat' (first | exact Below.refl _ _ | assumption | (refine Below.alloc ?_ ?_ _) | (refine Below.setCell ?_ ?_ _) | (refine Below.drew ?_) | (refine below_drewN ?_ _) | (refine below_after (Ext.below _) ?_ ?_) | (refine below_after (by assumption) ?_ ?_) | (simp; done) | omega | (simp; omega)))
              have gx1 : z1.world.cell? ⟨bX, oX + jp, none⟩ = some (.slice PA pn pc) := (hb1.cell (p := ⟨_, _, none⟩) hbX).trans gx
              have hl1 := hb1.size
              clear hc1 hf1 hs1
              go_wp2_with fail
              obtain ⟨w1, hw1⟩ : ∃ w1, w1 = z1.world := ⟨_, rfl⟩
              rw [← hw1] at hq1 hX1 hP1 hD1 hC1 hB1 hBe1 gx1 hl1 ⊢
              clear hw1 hX hP gx g1 g2 g3 g4 hb1 a0 a1
              obtain ⟨kb, hkb⟩ : ∃ kb, kb = wr.heap.size := ⟨_, rfl⟩
              rw [← hkb] at hq1 ⊢
              have hbX1 : bX < w1.heap.size := by omega
              clear hkb
              have hkb1 : kb < w1.heap.size := hq1.1
              have hk3 := hq1.2.2.2.2
              have hB1s := hB1.size
              have hBe1s := hBe1.size
              go_region_held3 (fun w' => FrW w1 w' ∧ w'.cell? ⟨bX, oX + jp, none⟩ = some (.slice PA pn pc) ∧ w'.cell? ⟨kb, 3, none⟩ = some (.slice DA dn dc))
                (((try go_split_ands); refine FrW.two ?_ hbX1 gx1 hkb1 hk3; first | exact FrW.drew (FrW.here _) | exact FrW.drew ‹_› | exact FrW.of ‹_› hb2 | fail))
                ((first | (go_at_call 128; (try go_split_ands); refine (kAp _ (hP1.of (FrW.below ‹_›)) (hD1.of (FrW.below ‹_›))).mono ?_; rintro e2 w2 ⟨A2, n2, c2, rfl, hN2, hn2, hb2⟩) | fail))
              (try go_split_ands)
              have hf2 : Below w1.heap.size w1 w2 := FrW.below ‹_›
              have hl2 := hf2.size
              have hB2 : Below w.heap.size w w2 := below_thru hB1 hf2
              have hBe2 : Below we.heap.size we w2 := below_thru hBe1 hf2
              have ⟨_, k0, k1, k2, k3⟩ := hq1.of hf2
              go_wp2_with fail
              go_ret2
              exact ⟨none, 0, 0, ret_pbT HB.out.symm, by rw [HP.out]; exact OwnX.nil_, hB2⟩
            · have t5 : decide ((0 : Int) < cn) = false := decide_eq_false (by omega)
              have t5' : decide (0 < cn) = false := decide_eq_false hc0
              have hC0 : C = [] := List.length_eq_zero_iff.1 (by rw [hC.len]; omega)
              have hok2 := Lib.hid (okTT_step hok.out ((okT_iff hx.out).2 ⟨by rw [hlg]; omega, by omega, ⟨fun h => (by cases h), fun h => absurd h (of_decide_eq_false hz)⟩, fun h => (by cases h), fun _ => ⟨by rw [hPg]; exact he, hC0⟩⟩))
              have hst := Lib.hid (show patL fs (j + 1) = patL fs j ++ [apL P D] by rw [pat_step hx.out]; show _ ++ [apL ((patL fs j).getD (j - 1) []) D] = _; rw [hPg])
              have hls := Lib.hid (last_step hx.out)
              rw [he] at kAp
              clear hg1 hg2 hbad hPno hlg hz he hPr hPg hC0
              go_wp2_with fail
              (refine wp_region_ext_lit (by kernel_rfl) (by kernel_rfl) ?_; (repeat (go_big_quiet_step (fail))); refine wpQuiet_nil ?_; intro _ hw'; obtain ⟨z1, hw''⟩ := hw'; subst hw''; have hs1 := z1.size; obtain ⟨hc1, hf1⟩ := bcell z1.below; (try simp only [World.size_alloc, World.size_setCell, World.size_drew] at hc1 hf1); (try simp at hs1))
              have hq1 := (QuAt.new wr (.int .i64 g) (.bool false) (.slice CA cn cc) (.slice DA dn dc) 72).of z1.below
              have hb1 : Below wr.heap.size wr z1.world := by (repeat' (first | exact Below.refl _ _ | assumption | (refine Below.alloc ?_ ?_ _) | (refine Below.setCell ?_ ?_ _) | (refine Below.drew ?_) | (refine below_drewN ?_ _) | (refine below_after (Ext.below _) ?_ ?_) | (refine below_after (by assumption) ?_ ?_) | (simp; done) | omega | (simp; omega)))
              have hX1 := hX.of hb1
              have hP1 := hP.of hb1
              have hD1 := (hD.of hb).of hb1
              have hC1 := (hC.of hb).of hb1
              have hB1 : Below w.heap.size w z1.world := by (repeat' (first | exact Below.refl _ _ | assumption | (refine Below.alloc ?_ ?_ _) | (refine Below.setCell ?_ ?_ _) | (refine Below.drew ?_) | (refine below_drewN ?_ _) | (refine below_after (Ext.below _) ?_ ?_) | (refine below_after (by assumption) ?_ ?_) | (simp; done) | omega | (simp; omega)))
              have hBe1 : Below we.heap.size we z1.world := by (repeat' (first | exact Below.refl _ _ | assumption | (refine Below.alloc ?_ ?_ _) | (refine Below.setCell ?_ ?_ _) | (refine Below.drew ?_) | (refine below_drewN ?_ _) | (refine below_after (Ext.below _) ?_ ?_) | (refine below_after (by assumption) ?_ ?_) | (simp; done) | omega | (simp; omega)))
              have gx1 : z1.world.cell? ⟨bX, oX + jp, none⟩ = some (.slice PA pn pc) := (hb1.cell (p := ⟨_, _, none⟩) hbX).trans gx
              have hl1 := hb1.size
              clear hc1 hf1 hs1
              go_wp2_with fail
              obtain ⟨w1, hw1⟩ : ∃ w1, w1 = z1.world := ⟨_, rfl⟩
              rw [← hw1] at hq1 hX1 hP1 hD1 hC1 hB1 hBe1 gx1 hl1 ⊢
              clear hw1 hX hP gx g1 g2 g3 g4 hb1 a0 a1
              obtain ⟨kb, hkb⟩ : ∃ kb, kb = wr.heap.size := ⟨_, rfl⟩
              rw [← hkb] at hq1 ⊢
              have hbX1 : bX < w1.heap.size := by omega
              clear hkb
              have hkb1 : kb < w1.heap.size := hq1.1
              have hk3 := hq1.2.2.2.2
              have hB1s := hB1.size
              have hBe1s := hBe1.size
              go_region_held3 (fun w' => FrW w1 w' ∧ w'.cell? ⟨bX, oX + jp, none⟩ = some (.slice PA pn pc) ∧ w'.cell? ⟨kb, 3, none⟩ = some (.slice DA dn dc))
                (((try go_split_ands); refine FrW.two ?_ hbX1 gx1 hkb1 hk3; first | exact FrW.drew (FrW.here _) | exact FrW.drew ‹_› | exact FrW.of ‹_› hb2 | fail))
                ((first | (go_at_call 128; (try go_split_ands); refine (kAp _ (hP1.of (FrW.below ‹_›)) (hD1.of (FrW.below ‹_›))).mono ?_; rintro e2 w2 ⟨A2, n2, c2, rfl, hN2, hn2, hb2⟩) | fail))
              (try go_split_ands)
              have hf2 : Below w1.heap.size w1 w2 := FrW.below ‹_›
              have hl2 := hf2.size
              have hB2 : Below w.heap.size w w2 := below_thru hB1 hf2
              have hBe2 : Below we.heap.size we w2 := below_thru hBe1 hf2
              have ⟨_, k0, k1, k2, k3⟩ := hq1.of hf2
              go_wp2_with (first | (at_builtin; refine wpList_append_x (K := ekC) rfl (.tmp 89) (.tmp 91) 159 rfl 23 (.slice none 0 0) 24 Tryz.underlying159 (by kernel_rfl) rfl (we.heap.size) _ _ _ _ rfl ((hX1.of hf2).alloc _) (A2, n2, c2) _ (⟨hN2.rd.of (by (repeat' (first | exact Below.refl _ _ | assumption | (refine Below.alloc ?_ ?_ _) | (refine Below.setCell ?_ ?_ _) | (refine Below.drew ?_) | (refine below_drewN ?_ _) | (refine below_after (Ext.below _) ?_ ?_) | (refine below_after (by assumption) ?_ ?_) | (simp; done) | omega | (simp; omega)))), hN2.cap⟩) (hN2.off (fun q hq => hX1.lt q hq)) ⟨(w2).heap.size, 0, none⟩ 1 rfl (cells_new (w2) (encH (A2, n2, c2)) 23) (by omega) (by omega) (by first | omega | (simp; done) | (simp; omega)) ?_; intro A6 c6 w6 hown6 hg6 hb6; obtain ⟨hc6, hf6⟩ := bcell hb6; have hs6 := hb6.size; (try simp only [World.size_alloc, World.size_setCell, World.size_drew] at hc6 hf6); (try simp at hs6)))
              go_roundw
              case rel => exact ⟨A6, c6, j + 1, rfl, by rw [hls.out], by go_num, by omega, by rw [hst.out]; exact hown6, hok2, by (repeat' (first | exact Below.refl _ _ | assumption | (refine Below.alloc ?_ ?_ _) | (refine Below.setCell ?_ ?_ _) | (refine Below.drew ?_) | (refine below_drewN ?_ _) | (refine below_after (Ext.below _) ?_ ?_) | (refine below_after (by assumption) ?_ ?_) | (simp; done) | omega | (simp; omega)))⟩
              case measure => simp [intOf]; omega
          · have HB := Lib.hid (hbad.out (fun h => he (by have := (h.2.2.2.2 rfl).1; rw [hPg] at this; exact this)))
            have HP := Lib.hid (hPno.out HB.out)
            generalize apE P D = ea at kAp he
            have t6 : (ea != 0) = true := by simpa using he
            clear hg1 hg2 hbad hPno hlg hz he hPr hPg
            go_wp2_with fail
            (refine wp_region_ext_lit (by kernel_rfl) (by kernel_rfl) ?_; (repeat (go_big_quiet_step (fail))); refine wpQuiet_nil ?_; intro _ hw'; obtain ⟨z1, hw''⟩ := hw'; subst hw''; have hs1 := z1.size; obtain ⟨hc1, hf1⟩ := bcell z1.below; (try simp only [World.size_alloc, World.size_setCell, World.size_drew] at hc1 hf1); (try simp at hs1))
            have hq1 := (QuAt.new wr (.int .i64 g) (.bool false) (.slice CA cn cc) (.slice DA dn dc) 72).of z1.below
            have hb1 : Below wr.heap.size wr z1.world := by (repeat' (first | exact Below.refl _ _ | assumption | (refine Below.alloc ?_ ?_ _) | (refine Below.setCell ?_ ?_ _) | (refine Below.drew ?_) | (refine below_drewN ?_ _) | (refine below_after (Ext.below _) ?_ ?_) | (refine below_after (by assumption) ?_ ?_) | (simp; done) | omega | (simp; omega)))
            have hX1 := hX.of hb1
            have hP1 := hP.of hb1
            have hD1 := (hD.of hb).of hb1
            have hC1 := (hC.of hb).of hb1
            have hB1 : Below w.heap.size w z1.world := by (repeat' (first | exact Below.refl _ _ | assumption | (refine Below.alloc ?_ ?_ _) | (refine Below.setCell ?_ ?_ _) | (refine Below.drew ?_) | (refine below_drewN ?_ _) | (refine below_after (Ext.below _) ?_ ?_) | (refine below_after (by assumption) ?_ ?_) | (simp; done) | omega | (simp; omega)))
            have hBe1 : Below we.heap.size we z1.world := by (repeat' (first | exact Below.refl _ _ | assumption | (refine Below.alloc ?_ ?_ _) | (refine Below.setCell ?_ ?_ _) | (refine Below.drew ?_) | (refine below_drewN ?_ _) | (refine below_after (Ext.below _) ?_ ?_) | (refine below_after (by assumption) ?_ ?_) | (simp; done) | omega | (simp; omega)))
            have gx1 : z1.world.cell? ⟨bX, oX + jp, none⟩ = some (.slice PA pn pc) := (hb1.cell (p := ⟨_, _, none⟩) hbX).trans gx
            have hl1 := hb1.size
            clear hc1 hf1 hs1
            go_wp2_with fail
            obtain ⟨w1, hw1⟩ : ∃ w1, w1 = z1.world := ⟨_, rfl⟩
            rw [← hw1] at hq1 hX1 hP1 hD1 hC1 hB1 hBe1 gx1 hl1 ⊢
            clear hw1 hX hP gx g1 g2 g3 g4 hb1 a0 a1
            obtain ⟨kb, hkb⟩ : ∃ kb, kb = wr.heap.size := ⟨_, rfl⟩
            rw [← hkb] at hq1 ⊢
            have hbX1 : bX < w1.heap.size := by omega
            clear hkb
            have hkb1 : kb < w1.heap.size := hq1.1
            have hk3 := hq1.2.2.2.2
            have hB1s := hB1.size
            have hBe1s := hBe1.size
            go_region_held3 (fun w' => FrW w1 w' ∧ w'.cell? ⟨bX, oX + jp, none⟩ = some (.slice PA pn pc) ∧ w'.cell? ⟨kb, 3, none⟩ = some (.slice DA dn dc))
              (((try go_split_ands); refine FrW.two ?_ hbX1 gx1 hkb1 hk3; first | exact FrW.drew (FrW.here _) | exact FrW.drew ‹_› | exact FrW.of ‹_› hb2 | fail))
              ((first | (go_at_call 128; (try go_split_ands); refine (kAp _ (hP1.of (FrW.below ‹_›)) (hD1.of (FrW.below ‹_›))).mono ?_; rintro e2 w2 ⟨A2, n2, c2, rfl, hN2, hn2, hb2⟩) | fail))
            (try go_split_ands)
            have hf2 : Below w1.heap.size w1 w2 := FrW.below ‹_›
            have hl2 := hf2.size
            have hB2 : Below w.heap.size w w2 := below_thru hB1 hf2
            have hBe2 : Below we.heap.size we w2 := below_thru hBe1 hf2
            have ⟨_, k0, k1, k2, k3⟩ := hq1.of hf2
            go_wp2_with fail
            go_ret2
            exact ⟨none, 0, 0, ret_pbT HB.out.symm, by rw [HP.out]; exact OwnX.nil_, hB2⟩
    · obtain rfl : j = n := by omega
      have dj : decide ((j : Int) < j) = false := decide_eq_false (by omega)
      have dj' : decide (j < j) = false := decide_eq_false (by omega)
      have HB := tlB_all (key := (K : Int)) (K := K) rfl hk hFl.out (by omega) hok.out
      have HP := Lib.hid (show tlP (K : Int) fs = patL fs j by unfold tlP; rw [if_pos HB, hFl.out])
      replace HB := Lib.hid HB
      go_wp2_with fail
      go_ret2
      exact ⟨E, j, q, ret_pbT HB.out.symm, by rw [HP.out]; exact hX.more (by omega), by (repeat' (first | exact Below.refl _ _ | assumption | (refine Below.alloc ?_ ?_ _) | (refine Below.setCell ?_ ?_ _) | (refine Below.drew ?_) | (refine below_drewN ?_ _) | (refine below_after (Ext.below _) ?_ ?_) | (refine below_after (by assumption) ?_ ?_) | (simp; done) | omega | (simp; omega)))⟩
end Go.Proofs.YtmenokhnanghgaaGreat
end
section
namespace Go.Proofs.YtmenokhnanghgaaGreat
open Go Go.RowKit
set_option maxRecDepth 100000
attribute [local go_sem ↓ high] eq_cl neq_cl eq_pt neq_pt eq_cg neq_cg
set_option maxHeartbeats 4000000 in
theorem ref53_find (A : Option Addr) (n c : Nat) (l : List (Int × Int × Int × Int)) (x y : Int) (w : World) (hR : Rd encG 4 w A n l) (hn : n ≤ 1000000) :
    Calls Tryz.prog 143 #[.slice A n c, .agg #[.int .i64 x, .int .i64 y]] w fun e w' => ∃ r, e = .returned (.int .i64 r) ∧ decide (r < 0) = !inG l x y ∧ Below w.heap.size w w' := by
  go_enter Tryz.func143, Tryz.ntmps143
  go_wp2
  go_loopw [5] (fun i wr => ∃ j : Nat, i = .int .i64 j ∧ j ≤ n ∧ Hid (∀ (i : Nat) d, i < j → l[i]? = some d → ¬(d.1 = x ∧ d.2.1 = y)) ∧ Below (w.heap.size + 1) (w.alloc (.cells #[.int .i64 x, .int .i64 y] 66)) wr) (fun i _ => n - (intOf i).toNat)
  case atStart => exact ⟨0, rfl, by omega, Lib.hid (fun i d h => absurd h (by omega)), by (repeat' (first | exact Below.refl _ _ | assumption | (refine Below.alloc ?_ ?_ _) | (refine Below.setCell ?_ ?_ _) | (refine Below.drew ?_) | (refine below_drewN ?_ _) | (refine below_after (Ext.below _) ?_ ?_) | (refine below_after (by assumption) ?_ ?_) | (simp; done) | omega | (simp; omega)))⟩
  case round =>
    obtain ⟨j, rfl, hj, hno, hb⟩ := hrel
    obtain ⟨hc, hf⟩ := bcell hb
    have hs := hb.size
    (try simp only [World.size_alloc] at hs)
    by_cases hlt : j < n
    · have dj : decide ((j : Int) < n) = true := decide_eq_true (by omega)
      have dj' : decide (j < n) = true := decide_eq_true hlt
      obtain ⟨x', y', s', t', bo, o, hx, rfl, hbl, g1, g2, g3, g4⟩ := hR.chg hlt
      by_cases he : x' = x ∧ y' = y
      · have hd : decide (x' = x ∧ y' = y) = true := decide_eq_true he
        have HF := Lib.hid (show decide (((j : Nat) : Int) < 0) = !inG l x y by
          rw [inG_iff.2 ⟨s', t', by rw [← he.1, ← he.2]; exact List.mem_of_getElem? hx.out⟩, decide_eq_false (by omega)]; rfl)
        clear he
        go_wp2_with fail
        (refine wp_region_ext_lit (by kernel_rfl) (by kernel_rfl) ?_; (repeat (go_big_quiet_step ((go_at_call 151; exact calls_ext (ref53_place _ _ _ _ _))))); refine wpQuiet_nil ?_; intro _ hw'; obtain ⟨z1, hw''⟩ := hw'; subst hw''; have hs1 := z1.size; obtain ⟨hc1, hf1⟩ := bcell z1.below; (try simp only [World.size_alloc, World.size_setCell, World.size_drew] at hc1 hf1); (try simp at hs1))
        go_wp2
        go_ret
        exact ⟨_, rfl, HF.out, by (repeat' (first | exact Below.refl _ _ | assumption | (refine Below.alloc ?_ ?_ _) | (refine Below.setCell ?_ ?_ _) | (refine Below.drew ?_) | (refine below_drewN ?_ _) | (refine below_after (Ext.below _) ?_ ?_) | (refine below_after (by assumption) ?_ ?_) | (simp; done) | omega | (simp; omega)))⟩
      · have hd : decide (x' = x ∧ y' = y) = false := decide_eq_false he
        have hno2 := Lib.hid (show ∀ (i : Nat) d, i < j + 1 → l[i]? = some d → ¬(d.1 = x ∧ d.2.1 = y) from fun i d hi hd => by
          by_cases e : i = j
          · subst e; rw [hx.out] at hd; cases hd; exact he
          · exact hno.out i d (by omega) hd)
        clear he
        go_wp2_with fail
        (refine wp_region_ext_lit (by kernel_rfl) (by kernel_rfl) ?_; (repeat (go_big_quiet_step ((go_at_call 151; exact calls_ext (ref53_place _ _ _ _ _))))); refine wpQuiet_nil ?_; intro _ hw'; obtain ⟨z1, hw''⟩ := hw'; subst hw''; have hs1 := z1.size; obtain ⟨hc1, hf1⟩ := bcell z1.below; (try simp only [World.size_alloc, World.size_setCell, World.size_drew] at hc1 hf1); (try simp at hs1))
        go_wp2
        go_roundw
        case rel => exact ⟨j + 1, by go_num, by omega, hno2, by (repeat' (first | exact Below.refl _ _ | assumption | (refine Below.alloc ?_ ?_ _) | (refine Below.setCell ?_ ?_ _) | (refine Below.drew ?_) | (refine below_drewN ?_ _) | (refine below_after (Ext.below _) ?_ ?_) | (refine below_after (by assumption) ?_ ?_) | (simp; done) | omega | (simp; omega)))⟩
        case measure => simp [intOf]; omega
    · obtain rfl : j = n := by omega
      have dj : decide ((j : Int) < j) = false := decide_eq_false (by omega)
      have dj' : decide (j < j) = false := decide_eq_false (by omega)
      have HF := Lib.hid (show decide ((-1 : Int) < 0) = !inG l x y by
        have : inG l x y = false := by
          rw [Bool.eq_false_iff]
          intro h
          obtain ⟨f, t, hm⟩ := inG_iff.1 h
          obtain ⟨i, hi⟩ := List.getElem?_of_mem hm
          exact hno.out i _ (by have := (List.getElem?_eq_some_iff.1 hi).1; rw [hR.len] at this; exact this) hi ⟨rfl, rfl⟩
        rw [this]; rfl)
      go_wp2_with fail
      go_ret
      exact ⟨_, rfl, HF.out, by (repeat' (first | exact Below.refl _ _ | assumption | (refine Below.alloc ?_ ?_ _) | (refine Below.setCell ?_ ?_ _) | (refine Below.drew ?_) | (refine below_drewN ?_ _) | (refine below_after (Ext.below _) ?_ ?_) | (refine below_after (by assumption) ?_ ?_) | (simp; done) | omega | (simp; omega)))⟩
end Go.Proofs.YtmenokhnanghgaaGreat
end
section
namespace Go.Proofs.YtmenokhnanghgaaGreat
open Go Go.RowKit
set_option maxRecDepth 100000
attribute [local go_sem ↓ high] eq_cl neq_cl eq_pt neq_pt eq_cg neq_cg
theorem FrW.cell3 {W w' : World} {b i1 i2 i3 : Nat} {v1 v2 v3 : Value} (h : FrW W w') (hb : b < W.heap.size) (c1 : W.cell? ⟨b, i1, none⟩ = some v1) (c2 : W.cell? ⟨b, i2, none⟩ = some v2) (c3 : W.cell? ⟨b, i3, none⟩ = some v3) :
    FrW W w' ∧ w'.cell? ⟨b, i1, none⟩ = some v1 ∧ w'.cell? ⟨b, i2, none⟩ = some v2 ∧ w'.cell? ⟨b, i3, none⟩ = some v3 :=
  ⟨h, (h.below.cell (p := ⟨_, _, none⟩) hb).trans c1, (h.below.cell (p := ⟨_, _, none⟩) hb).trans c2, (h.below.cell (p := ⟨_, _, none⟩) hb).trans c3⟩
end Go.Proofs.YtmenokhnanghgaaGreat
end
section
namespace Go.Proofs.YtmenokhnanghgaaGreat
open Go Go.RowKit
set_option maxRecDepth 100000
attribute [local go_sem ↓ high] eq_cl neq_cl eq_pt neq_pt eq_cg neq_cg
theorem ap_twoR {p : List (Int × Int × Int)} {l : List (Int × Int × Int × Int)} (h : rightC p = false ∨ rightG l = false) : apE p l = 2 ∧ apL p l = [] := by
  have hn : ¬(rightC p = true ∧ rightG l = true) := by rcases h with h | h <;> simp [h]
  refine ⟨by unfold apE; rw [if_neg hn], by unfold apL; rw [if_neg (fun e => hn ⟨e.1, e.2.1⟩)]⟩
theorem ap_matchR {p : List (Int × Int × Int)} {l : List (Int × Int × Int × Int)} (hp : rightC p = true) (hl : rightG l = true) (h : fitG p l = false) : apE p l = 17 ∧ apL p l = [] := by
  refine ⟨by unfold apE; rw [if_pos ⟨hp, hl⟩, if_neg (by rw [h]; simp)], by unfold apL; rw [if_neg (fun e => by rw [h] at e; cases e.2.2)]⟩
theorem ap_goodR {p : List (Int × Int × Int)} {l : List (Int × Int × Int × Int)} (hp : rightC p = true) (hl : rightG l = true) (h : fitG p l = true) : apE p l = frE (apM p l) ∧ apL p l = frL (apM p l) := by
  refine ⟨by unfold apE; rw [if_pos ⟨hp, hl⟩, if_pos h], by unfold apL; rw [if_pos ⟨hp, hl, h⟩]⟩
theorem fit_noR {p : List (Int × Int × Int)} {l : List (Int × Int × Int × Int)} {j : Nat} {c : Int × Int × Int × Int} (h : l[j]? = some c) (e : getC p c.1 c.2.1 ≠ c.2.2.1) : fitG p l = false := by
  unfold fitG
  rw [List.all_eq_false]
  exact ⟨c, List.mem_of_getElem? h, by simpa using e⟩
theorem fit_yesR {p : List (Int × Int × Int)} {l : List (Int × Int × Int × Int)} (h : ∀ (i : Nat) c, l[i]? = some c → getC p c.1 c.2.1 = c.2.2.1) : fitG p l = true := by
  unfold fitG
  rw [List.all_eq_true]
  intro c hc
  obtain ⟨i, hi⟩ := List.getElem?_of_mem hc
  exact decide_eq_true (h i c hi)
theorem frL_lenR {l : List (Int × Int × Int)} : (frL l).length ≤ 5000 := by
  unfold frL
  split
  · rename_i h
    rw [(srtC_perm _).length_eq]
    exact (frE_zero h).2.2
  · exact Nat.zero_le _
theorem toC_step {l : List (Int × Int × Int × Int)} {j : Nat} {x y s t : Int} (h : l[j]? = some (x, y, s, t)) : (l.take (j + 1)).map toC = (l.take j).map toC ++ [(x, y, t)] := by
  rw [List.take_add_one, h, List.map_append]; rfl
theorem rest_no {p : List (Int × Int × Int)} {l : List (Int × Int × Int × Int)} {j : Nat} {x y s : Int} (h : p[j]? = some (x, y, s)) (e : inG l x y = true) : ((p.take (j + 1)).filter fun c => !inG l c.1 c.2.1) = (p.take j).filter fun c => !inG l c.1 c.2.1 := by
  rw [List.take_add_one, h, List.filter_append]
  simp [e]
theorem rest_yes {p : List (Int × Int × Int)} {l : List (Int × Int × Int × Int)} {j : Nat} {x y s : Int} (h : p[j]? = some (x, y, s)) (e : inG l x y = false) : ((p.take (j + 1)).filter fun c => !inG l c.1 c.2.1) = ((p.take j).filter fun c => !inG l c.1 c.2.1) ++ [(x, y, s)] := by
  rw [List.take_add_one, h, List.filter_append]
  simp [e]
set_option maxHeartbeats 8000000 in
theorem ref53_Apply (A B : Option Addr) (n c m d : Nat) (p : List (Int × Int × Int)) (l : List (Int × Int × Int × Int)) (w : World) (hR : Rd encC 3 w A n p) (hS : Rd encG 4 w B m l) (hn : n ≤ 1000000) (hm : m ≤ 1000000) :
    Calls Tryz.prog 129 #[.slice A n c, .slice B m d] w fun e w' => ∃ A' n' c', e = .returned (.tuple #[.slice A' n' c', .int .i64 (apE p l)]) ∧ NewP w.heap.size w' A' n' c' (apL p l) ∧ n' ≤ 5000 ∧ Below w.heap.size w w' := by
  have kA := fun w1 h => ref05_Right A n c p w1 h (by omega)
  have kB := fun w1 h => ref53_Right B m d l w1 h (by omega)
  cases ha : rightC p with
  | false =>
    have HE := Lib.hid (ap_twoR (l := l) (.inl ha))
    rw [ha] at kA
    clear ha
    go_enter Tryz.func129, Tryz.ntmps129
    go_wp2_with fail; go_at_call 38; refine (kA _ (hR.of (by (repeat' (first | exact Below.refl _ _ | assumption | (refine Below.alloc ?_ ?_ _) | (refine Below.setCell ?_ ?_ _) | (refine Below.drew ?_) | (refine below_drewN ?_ _) | (refine below_after (Ext.below _) ?_ ?_) | (refine below_after (by assumption) ?_ ?_) | (simp; done) | omega | (simp; omega)))))).mono ?_; rintro e w1 ⟨rfl, hb1⟩; have hs1 := hb1.size; (try simp only [World.size_alloc, World.size_drew, World.size_setCell] at hs1)
    go_wp2_with fail
    go_ret2
    exact ⟨none, 0, 0, ret_pe HE.out.1.symm, by rw [HE.out.2]; exact NewP.nil_, by omega, by (repeat' (first | exact Below.refl _ _ | assumption | (refine Below.alloc ?_ ?_ _) | (refine Below.setCell ?_ ?_ _) | (refine Below.drew ?_) | (refine below_drewN ?_ _) | (refine below_after (Ext.below _) ?_ ?_) | (refine below_after (by assumption) ?_ ?_) | (simp; done) | omega | (simp; omega)))⟩
  | true =>
    rw [ha] at kA
    cases hb : rightG l with
    | false =>
      have HE := Lib.hid (ap_twoR (p := p) (.inr hb))
      rw [hb] at kB
      clear ha hb
      go_enter Tryz.func129, Tryz.ntmps129
      go_wp2_with fail; go_at_call 38; refine (kA _ (hR.of (by (repeat' (first | exact Below.refl _ _ | assumption | (refine Below.alloc ?_ ?_ _) | (refine Below.setCell ?_ ?_ _) | (refine Below.drew ?_) | (refine below_drewN ?_ _) | (refine below_after (Ext.below _) ?_ ?_) | (refine below_after (by assumption) ?_ ?_) | (simp; done) | omega | (simp; omega)))))).mono ?_; rintro e w1 ⟨rfl, hb1⟩; have hs1 := hb1.size; (try simp only [World.size_alloc, World.size_drew, World.size_setCell] at hs1)
      go_wp2_with fail; go_at_call 141; refine (kB _ (hS.of (by (repeat' (first | exact Below.refl _ _ | assumption | (refine Below.alloc ?_ ?_ _) | (refine Below.setCell ?_ ?_ _) | (refine Below.drew ?_) | (refine below_drewN ?_ _) | (refine below_after (Ext.below _) ?_ ?_) | (refine below_after (by assumption) ?_ ?_) | (simp; done) | omega | (simp; omega)))))).mono ?_; rintro e w2 ⟨rfl, hb2⟩; have hs2 := hb2.size; (try simp only [World.size_alloc, World.size_drew, World.size_setCell] at hs2)
      go_wp2_with fail
      go_ret2
      exact ⟨none, 0, 0, ret_pe HE.out.1.symm, by rw [HE.out.2]; exact NewP.nil_, by omega, by (repeat' (first | exact Below.refl _ _ | assumption | (refine Below.alloc ?_ ?_ _) | (refine Below.setCell ?_ ?_ _) | (refine Below.drew ?_) | (refine below_drewN ?_ _) | (refine below_after (Ext.below _) ?_ ?_) | (refine below_after (by assumption) ?_ ?_) | (simp; done) | omega | (simp; omega)))⟩
    | true =>
      rw [hb] at kB
      have hn5 : n ≤ 5000 := by rw [← hR.len]; exact (rightC_ok ha).1
      have hm5 : m ≤ 10000 := by rw [← hS.len]; exact (rightG_ok hb).1
      have hpl := Lib.hid ha
      have hll := Lib.hid hb
      have hal := Lib.hid hR.len
      have hbl' := Lib.hid hS.len
      clear ha hb
      go_enter Tryz.func129, Tryz.ntmps129
      go_wp2_with fail; go_at_call 38; refine (kA _ (hR.of (by (repeat' (first | exact Below.refl _ _ | assumption | (refine Below.alloc ?_ ?_ _) | (refine Below.setCell ?_ ?_ _) | (refine Below.drew ?_) | (refine below_drewN ?_ _) | (refine below_after (Ext.below _) ?_ ?_) | (refine below_after (by assumption) ?_ ?_) | (simp; done) | omega | (simp; omega)))))).mono ?_; rintro e w1 ⟨rfl, hb1⟩; have hs1 := hb1.size; (try simp only [World.size_alloc, World.size_drew, World.size_setCell] at hs1)
      go_wp2_with fail; go_at_call 141; refine (kB _ (hS.of (by (repeat' (first | exact Below.refl _ _ | assumption | (refine Below.alloc ?_ ?_ _) | (refine Below.setCell ?_ ?_ _) | (refine Below.drew ?_) | (refine below_drewN ?_ _) | (refine below_after (Ext.below _) ?_ ?_) | (refine below_after (by assumption) ?_ ?_) | (simp; done) | omega | (simp; omega)))))).mono ?_; rintro e w2 ⟨rfl, hb2⟩; have hs2 := hb2.size; (try simp only [World.size_alloc, World.size_drew, World.size_setCell] at hs2)
      have hB2 : Below w.heap.size w w2 := by (repeat' (first | exact Below.refl _ _ | assumption | (refine Below.alloc ?_ ?_ _) | (refine Below.setCell ?_ ?_ _) | (refine Below.drew ?_) | (refine below_drewN ?_ _) | (refine below_after (Ext.below _) ?_ ?_) | (refine below_after (by assumption) ?_ ?_) | (simp; done) | omega | (simp; omega)))
      clear hs1 hs2 hb1 hb2 kA kB
      go_wp2_with fail
      go_loopw [6, 7] (fun v i wr => ∃ (E : Option Addr) (q r j : Nat), v = .slice E q r ∧ i = .int .i64 j ∧ j ≤ m ∧ q = j ∧ Own encC 3 63 w.heap.size wr E q r ((l.take j).map toC) ∧ Hid (∀ (i : Nat) c, i < j → l[i]? = some c → getC p c.1 c.2.1 = c.2.2.1) ∧ Below w.heap.size w wr) (fun _ i _ => m - (intOf i).toNat)
      case atStart => exact ⟨none, 0, 0, 0, rfl, rfl, by omega, rfl, Own.nil_, Lib.hid (fun i c h => absurd h (by omega)), hB2⟩
      case round =>
        clear hB2
        obtain ⟨E, q, rr, j, rfl, rfl, hj, rfl, hown, hfit, hb⟩ := hrel
        have hsz := hb.size
        by_cases hlt : q < m
        · have dj : decide ((q : Int) < m) = true := decide_eq_true (by omega)
          have dj' : decide (q < m) = true := decide_eq_true hlt
          obtain ⟨x, y, s, t, bo, o, hx, hA, hbo, g1, g2, g3, g4⟩ := hS.chg hlt
          subst hA
          have hbl : bo < wr.heap.size := by omega
          rw [← hb.cell (p := ⟨_, _, none⟩) hbo] at g1 g2 g3 g4
          obtain ⟨r, hr⟩ : ∃ r, getC p x y = r := ⟨_, rfl⟩
          have kG := fun w1 h1 => ref05_Get A n c p x y w1 h1 hn
          rw [hr] at kG
          by_cases hrs : r = s
          · have t0 : (r != s) = false := by simpa using hrs
            have hst := Lib.hid (toC_step hx.out)
            have hfit1 := Lib.hid (show ∀ (i : Nat) c, i < q + 1 → l[i]? = some c → getC p c.1 c.2.1 = c.2.2.1 from fun i c hi hc => by
              by_cases e : i = q
              · subst e; rw [hx.out] at hc; cases hc; exact hr.trans hrs
              · exact hfit.out i c (by omega) hc)
            clear hrs hr
            go_wp2_with fail
            go_region_held3 (fun w' => FrW wr w' ∧ w'.cell? ⟨bo, o + q * 4, none⟩ = some (.int .i64 x) ∧ w'.cell? ⟨bo, o + q * 4 + 1, none⟩ = some (.int .i64 y) ∧ w'.cell? ⟨bo, o + q * 4 + 2, none⟩ = some (.int .i64 s))
              (((try go_split_ands); refine FrW.cell3 ?_ hbl g1 g2 g3; first | exact FrW.drew (FrW.here _) | exact FrW.drew ‹_› | exact FrW.of ‹_› hb7 | fail))
              ((first | (go_at_call 142; (try go_split_ands); refine (kG _ ((hR.of hb).of (FrW.below ‹_›))).mono ?_; rintro e3 w3 ⟨rfl, hb7⟩) | fail))
            (try go_split_ands)
            have hb3 : Below wr.heap.size wr w3 := FrW.below ‹_›
            have h1' := hb3.size
            have ⟨_, f1, f2, f4⟩ := FrW.cell3 (⟨hb3⟩ : FrW wr w3) hbl g1 g2 g4
            have hB3 : Below w.heap.size w w3 := below_thru hb hb3
            have hown3 := hown.of hb3
            go_wp2_with fail
            (go_region_held3 (fun w' => w'.cell? ⟨bo, o + q * 4, none⟩ = some (.int .i64 x) ∧ w'.cell? ⟨bo, o + q * 4 + 1, none⟩ = some (.int .i64 y) ∧ w'.cell? ⟨bo, o + q * 4 + 3, none⟩ = some (.int .i64 t)) (first | go_keep | (go_split_ands; refine ⟨?_, ?_, ?_⟩ <;> first | go_keep | (rw [hb4.cell (p := ⟨_, _, none⟩) (by first | omega | (simp; done) | (simp; omega))]; go_keep))) ((refine step_append_el (by rfl) (.tmp 41) (.tmp 58) 22 (by rfl) encC 3 63 (.agg #[.int .i64 0, .int .i64 0, .int .i64 0]) 24 Tryz.underlying22 (by kernel_rfl) rfl (by decide) encC_len encC_one (w.heap.size) _ _ _ _ (by rfl) (hown3.drew.alloc _) (x, y, t) ⟨(w3.drew).heap.size, 0, none⟩ 1 (by rfl) (cells_new (w3.drew) _ _) (by omega) (by omega) (by first | omega | (simp; done) | (simp; omega)) ?_; intro A4 c4 w4 hown4 hg4 hb4)))
            go_wp2_with fail
            go_roundw
            case rel => exact ⟨A4, q + 1, c4, q + 1, rfl, by go_num, by omega, rfl, by rw [hst.out]; exact hown4, hfit1, by (repeat' (first | exact Below.refl _ _ | assumption | (refine Below.alloc ?_ ?_ _) | (refine Below.setCell ?_ ?_ _) | (refine Below.drew ?_) | (refine below_drewN ?_ _) | (refine below_after (Ext.below _) ?_ ?_) | (refine below_after (by assumption) ?_ ?_) | (simp; done) | omega | (simp; omega)))⟩
            case measure => simp [intOf]; omega
          · have t0 : (r != s) = true := by simpa using hrs
            have HE := Lib.hid (ap_matchR hpl.out hll.out (fit_noR hx.out (show getC p x y ≠ s from fun e => hrs (hr.symm.trans e))))
            clear hrs hr
            go_wp2_with fail
            go_region_held3 (fun w' => FrW wr w' ∧ w'.cell? ⟨bo, o + q * 4, none⟩ = some (.int .i64 x) ∧ w'.cell? ⟨bo, o + q * 4 + 1, none⟩ = some (.int .i64 y) ∧ w'.cell? ⟨bo, o + q * 4 + 2, none⟩ = some (.int .i64 s))
              (((try go_split_ands); refine FrW.cell3 ?_ hbl g1 g2 g3; first | exact FrW.drew (FrW.here _) | exact FrW.drew ‹_› | exact FrW.of ‹_› hb7 | fail))
              ((first | (go_at_call 142; (try go_split_ands); refine (kG _ ((hR.of hb).of (FrW.below ‹_›))).mono ?_; rintro e3 w3 ⟨rfl, hb7⟩) | fail))
            (try go_split_ands)
            have hb3 : Below wr.heap.size wr w3 := FrW.below ‹_›
            have h1' := hb3.size
            have ⟨_, f1, f2, f4⟩ := FrW.cell3 (⟨hb3⟩ : FrW wr w3) hbl g1 g2 g4
            have hB3 : Below w.heap.size w w3 := below_thru hb hb3
            go_wp2_with fail
            go_ret2
            exact ⟨none, 0, 0, ret_pe HE.out.1.symm, by rw [HE.out.2]; exact NewP.nil_, by omega, hB3⟩
        · obtain rfl : q = m := by omega
          have dj : decide ((q : Int) < q) = false := decide_eq_false (by omega)
          have dj' : decide (q < q) = false := decide_eq_false (by omega)
          rw [List.take_of_length_le (by rw [hbl'.out]; exact Nat.le_refl _)] at hown
          have HG := Lib.hid (ap_goodR hpl.out hll.out (fit_yesR (fun i c hc => hfit.out i c (by have := (List.getElem?_eq_some_iff.1 hc).1; rw [hbl'.out] at this; exact this) hc)))
          obtain ⟨m, hmq⟩ : ∃ m, m = q := ⟨_, rfl⟩
          rw [← hmq] at hS hm hm5 hown dj dj' ⊢
          clear hj hlt hmq dj dj' hsz hfit
          go_wp2_with fail
          go_loopw [6, 8] (fun v i wr => ∃ (E : Option Addr) (q r j : Nat), v = .slice E q r ∧ i = .int .i64 j ∧ j ≤ n ∧ q ≤ m + j ∧ Own encC 3 63 w.heap.size wr E q r (l.map toC ++ (p.take j).filter fun c => !inG l c.1 c.2.1) ∧ Below w.heap.size w wr) (fun _ i _ => n - (intOf i).toNat)
          case atStart => exact ⟨E, m, rr, 0, rfl, rfl, by omega, by omega, by rw [List.take_zero, List.filter_nil, List.append_nil]; exact hown, hb⟩
          case round =>
            clear hown hb
            obtain ⟨E, q, rr, j, rfl, rfl, hj, hq, hown, hb⟩ := hrel
            have hsz := hb.size
            by_cases hlt : j < n
            · have dj : decide ((j : Int) < n) = true := decide_eq_true (by omega)
              have dj' : decide (j < n) = true := decide_eq_true hlt
              obtain ⟨x, y, s, bo, o, hx, hA, hbl, g1, g2, g3⟩ := (hR.of hb).cell hlt
              subst hA
              have kF := fun w1 h1 => ref53_find B m d l x y w1 h1 hm
              cases hin : inG l x y with
              | true =>
                have hst := Lib.hid (rest_no hx.out hin)
                go_wp2_with fail
                go_region_held3 (fun w' => FrW wr w' ∧ w'.cell? ⟨bo, o + j * 3, none⟩ = some (.int .i64 x) ∧ w'.cell? ⟨bo, o + j * 3 + 1, none⟩ = some (.int .i64 y) ∧ w'.cell? ⟨bo, o + j * 3 + 2, none⟩ = some (.int .i64 s))
                  (((try go_split_ands); refine FrW.cell3 ?_ hbl g1 g2 g3; first | exact FrW.drew (FrW.here _) | exact FrW.drew ‹_› | exact FrW.of ‹_› hb7 | fail))
                  ((first | (go_at_call 143; (try go_split_ands); refine (kF _ ((hS.of hb).of (FrW.below ‹_›))).mono ?_; rintro e3 w3 ⟨fr, rfl, hfr, hb7⟩) | fail))
                (try go_split_ands)
                have hb3 : Below wr.heap.size wr w3 := FrW.below ‹_›
                have h1' := hb3.size
                have ⟨_, f1, f2, f3⟩ := FrW.cell3 (⟨hb3⟩ : FrW wr w3) hbl g1 g2 g3
                have hown3 := hown.of hb3
                have hB3 : Below w.heap.size w w3 := below_thru hb hb3
                rw [hin] at hfr
                go_wp2_with fail
                go_roundw
                case rel => exact ⟨E, q, rr, j + 1, rfl, by go_num, by omega, by omega, by rw [hst.out]; exact hown3, hB3⟩
                case measure => simp [intOf]; omega
              | false =>
                have hst := Lib.hid (show (l.map toC ++ (p.take (j + 1)).filter fun c => !inG l c.1 c.2.1) = (l.map toC ++ (p.take j).filter fun c => !inG l c.1 c.2.1) ++ [(x, y, s)] by rw [rest_yes hx.out hin, List.append_assoc])
                go_wp2_with fail
                go_region_held3 (fun w' => FrW wr w' ∧ w'.cell? ⟨bo, o + j * 3, none⟩ = some (.int .i64 x) ∧ w'.cell? ⟨bo, o + j * 3 + 1, none⟩ = some (.int .i64 y) ∧ w'.cell? ⟨bo, o + j * 3 + 2, none⟩ = some (.int .i64 s))
                  (((try go_split_ands); refine FrW.cell3 ?_ hbl g1 g2 g3; first | exact FrW.drew (FrW.here _) | exact FrW.drew ‹_› | exact FrW.of ‹_› hb7 | fail))
                  ((first | (go_at_call 143; (try go_split_ands); refine (kF _ ((hS.of hb).of (FrW.below ‹_›))).mono ?_; rintro e3 w3 ⟨fr, rfl, hfr, hb7⟩) | fail))
                (try go_split_ands)
                have hb3 : Below wr.heap.size wr w3 := FrW.below ‹_›
                have h1' := hb3.size
                have ⟨_, f1, f2, f3⟩ := FrW.cell3 (⟨hb3⟩ : FrW wr w3) hbl g1 g2 g3
                have hown3 := hown.of hb3
                have hB3 : Below w.heap.size w w3 := below_thru hb hb3
                rw [hin] at hfr
                go_wp2_with (first | (at_builtin; refine wpList_append_el rfl (.tmp 80) (.tmp 85) 22 rfl encC 3 63 (.agg #[.int .i64 0, .int .i64 0, .int .i64 0]) 24 Tryz.underlying22 (by kernel_rfl) rfl (by decide) encC_len encC_one (w.heap.size) _ _ _ _ rfl (hown3.alloc _) (x, y, s) ⟨(w3).heap.size, 0, none⟩ 1 rfl (cells_new (w3) _ _) (by omega) (by omega) (by first | omega | (simp; done) | (simp; omega)) ?_; intro A5 c5 w5 hown5 hg5 hb5; obtain ⟨hc5, hf5⟩ := bcell hb5; have hs5 := hb5.size; (try simp only [World.size_alloc, World.size_setCell, World.size_drew] at hc5 hf5); (try simp at hs5)))
                go_roundw
                case rel => exact ⟨A5, q + 1, c5, j + 1, rfl, by go_num, by omega, by omega, by rw [hst.out]; exact hown5, by (repeat' (first | exact Below.refl _ _ | assumption | (refine Below.alloc ?_ ?_ _) | (refine Below.setCell ?_ ?_ _) | (refine Below.drew ?_) | (refine below_drewN ?_ _) | (refine below_after (Ext.below _) ?_ ?_) | (refine below_after (by assumption) ?_ ?_) | (simp; done) | omega | (simp; omega)))⟩
                case measure => simp [intOf]; omega
            · obtain rfl : j = n := by omega
              have dj : decide ((j : Int) < j) = false := decide_eq_false (by omega)
              have dj' : decide (j < j) = false := decide_eq_false (by omega)
              rw [List.take_of_length_le (by rw [hal.out]; exact Nat.le_refl _)] at hown
              have hRo := hown.rd encC_len
              have HE := Lib.hid (show apE p l = frE (l.map toC ++ p.filter fun c => !inG l c.1 c.2.1) ∧ apL p l = frL (l.map toC ++ p.filter fun c => !inG l c.1 c.2.1) from HG.out)
              generalize (l.map toC ++ p.filter fun c => !inG l c.1 c.2.1) = M at hRo HE
              clear hown
              go_wp2_with fail
              go_at_call 144
              refine (ref05_FromN E q rr M wr hRo (by omega)).mono ?_
              rintro e w9 ⟨A9, n9, c9, rfl, hN9, hn9, hb9⟩
              have hl9 : n9 ≤ 5000 := by rw [← hN9.rd.len]; exact frL_lenR
              go_wp2_with fail
              go_ret2
              exact ⟨A9, n9, c9, ret_pe HE.out.1.symm, by rw [HE.out.2]; exact hN9.more hsz, hl9, below_thru hb hb9⟩
end Go.Proofs.YtmenokhnanghgaaGreat
end
section
namespace Go.Proofs.YtmenokhnanghgaaGreat
open Go Go.RowKit
set_option maxRecDepth 100000
set_option maxHeartbeats 8000000 in
theorem ref54_Patterns (key : Int) (A : Option Addr) (n c : Nat) (fs : List TFr) (w : World) (hF : RdX ekFr w A n fs) (hsm : SmT fs) :
    Calls Tryz.prog 108 #[.agg #[.int .i64 key, .slice A n c]] w fun e w' => ∃ B m d, e = .returned (.tuple #[.slice B m d, .bool (tlB key fs)]) ∧ OwnX ekC 23 w.heap.size w' B m d (tlP key fs) ∧ Below w.heap.size w w' := by
  by_cases hk : ¬(1 ≤ key ∧ key ≤ 100)
  · have HB := Lib.hid (tlB_key (fs := fs) hk)
    have HP := Lib.hid (show tlP key fs = [] by unfold tlP; rw [HB.out]; rfl)
    have hways : decide (key < 1) = true ∨ (decide (key < 1) = false ∧ decide (100 < key) = true) := by simp only [decide_eq_true_eq, decide_eq_false_iff_not]; omega
    clear hk
    rcases hways with d1 | ⟨d1, d2⟩
    all_goals
      go_enter Tryz.func108, Tryz.ntmps108
      go_wp2_with fail
      go_ret2
      exact ⟨none, 0, 0, ret_pbT HB.out.symm, by rw [HP.out]; exact OwnX.nil_, by (repeat' (first | exact Below.refl _ _ | assumption | (refine Below.alloc ?_ ?_ _) | (refine Below.setCell ?_ ?_ _) | (refine Below.drew ?_) | (refine below_drewN ?_ _) | (refine below_after (Ext.below _) ?_ ?_) | (refine below_after (by assumption) ?_ ?_) | (simp; done) | omega | (simp; omega)))⟩
  have hk := Decidable.not_not.1 hk
  obtain ⟨K, rfl⟩ : ∃ K : Nat, key = (K : Int) := ⟨key.toNat, by omega⟩
  have d1 : decide ((K : Int) < 1) = false := decide_eq_false (by omega)
  have d2 : decide (100 < (K : Int)) = false := decide_eq_false (by omega)
  have d2' : decide (100 < K) = false := decide_eq_false (by omega)
  have hFl := hF.len
  by_cases hl : 1000 < n
  · have HB := Lib.hid (tlB_len (key := (K : Int)) hFl hl)
    have HP := Lib.hid (show tlP (K : Int) fs = [] by unfold tlP; rw [HB.out]; rfl)
    have d3 : decide (1000 < (n : Int)) = true := decide_eq_true (by omega)
    have d3' : decide (1000 < n) = true := decide_eq_true (by omega)
    clear hk
    go_enter Tryz.func108, Tryz.ntmps108
    go_wp2_with fail
    go_ret2
    exact ⟨none, 0, 0, ret_pbT HB.out.symm, by rw [HP.out]; exact OwnX.nil_, by (repeat' (first | exact Below.refl _ _ | assumption | (refine Below.alloc ?_ ?_ _) | (refine Below.setCell ?_ ?_ _) | (refine Below.drew ?_) | (refine below_drewN ?_ _) | (refine below_after (Ext.below _) ?_ ?_) | (refine below_after (by assumption) ?_ ?_) | (simp; done) | omega | (simp; omega)))⟩
  have d3 : decide (1000 < (n : Int)) = false := decide_eq_false (by omega)
  have d3' : decide (1000 < n) = false := decide_eq_false (by omega)
  have hK1 : 1 ≤ K := by omega
  have hkz : ((K : Int) == 0) = false := by simp; omega
  replace hFl := Lib.hid hFl
  go_enter Tryz.func108, Tryz.ntmps108
  go_wp2_with fail
  have hbx := DuAt.new w (.int .i64 (K : Int)) (.slice A n c) 54
  have hbe : Below w.heap.size w (w.alloc (.cells #[.int .i64 (K : Int), .slice A n c] 54)) := (Below.refl _ _).alloc (Nat.le_refl _) _
  obtain ⟨we, hwe⟩ : ∃ we, we = w.alloc (.cells #[.int .i64 (K : Int), .slice A n c] 54) := ⟨_, rfl⟩
  have hsw : we.heap.size = w.heap.size + 1 := by rw [hwe]; simp
  rw [← hwe] at hbx hbe ⊢
  clear hwe
  replace hF := hF.of hbe
  go_loopw [4, 5] (fun v t wr => ∃ (E : Option Addr) (q j : Nat), v = .slice E j q ∧ t = .int .i64 j ∧ j ≤ n ∧ OwnX ekC 23 we.heap.size wr E j q (patL fs j) ∧ Hid (okTT K fs j) ∧ Below we.heap.size we wr) (fun _ t _ => n - (intOf t).toNat)
  case atStart => exact ⟨none, 0, 0, rfl, rfl, by omega, OwnX.nil_, Lib.hid (fun i hi => absurd hi (by omega)), Below.refl _ _⟩
  case round =>
    obtain ⟨E, q, j, rfl, rfl, hj, hX, hok, hb⟩ := hrel
    have hsz := hb.size
    by_cases hlj : j < n
    · have dj : decide ((j : Int) < n) = true := decide_eq_true (by omega)
      have dj' : decide (j < n) = true := decide_eq_true hlj
      obtain ⟨g, fu, C, D, CA, cn, cc, DA, dn, dc, bo, o, hx, rfl, hbo, g1, g2, g3, g4, hC, hcc, hD, hdc⟩ := hF.frm hlj
      have hbl : bo < wr.heap.size := by omega
      rw [← hb.cell (p := ⟨_, _, none⟩) hbo] at g1 g2 g3 g4
      have hCl := Lib.hid (fun q hq => Rd.blk_lt (h := (CA, cn, cc)) hC q hq)
      have ⟨hC6, hD6⟩ := hsm.at_ hx.out
      have hCn : cn ≤ 1000000 := by rw [← hC.len]; exact hC6
      have hDn : dn ≤ 1000000 := by rw [← hD.len]; exact hD6
      obtain ⟨lg, hlg⟩ : ∃ lg, lastG fs j = lg := ⟨_, rfl⟩
      have hbad := Lib.hid (fun h => tlB_bad (K := K) (key := (K : Int)) rfl hFl.out hlj (okT_no hx.out h))
      have hPno := Lib.hid (fun (h : tlB (K : Int) fs = false) => show tlP (K : Int) fs = [] by unfold tlP; rw [h]; rfl)
      rw [hlg] at hbad
      have hlr := last_le hok.out (by rw [hFl.out]; exact hj)
      rw [hlg] at hlr
      have ⟨_, a0, a1⟩ := hbx.of hb
      have er2 : (j : Int).tmod (K : Int) = ((j % K : Nat) : Int) := rfl
      have er : IntKind.i64.wrap ((j % K : Nat) : Int) = ((j % K : Nat) : Int) := IntWalk.i64_in _ (by have := Nat.mod_lt j hK1; omega)
      by_cases hg0 : g < 0
      · have t0 : decide (g < 0) = true := decide_eq_true hg0
        have HB := Lib.hid (hbad.out (fun h => by omega))
        have HP := Lib.hid (hPno.out HB.out)
        clear hg0 hbad hPno hlg
        go_wp2_with fail
        (refine wp_region_ext_lit (by kernel_rfl) (by kernel_rfl) ?_; (repeat (go_big_quiet_step (fail))); refine wpQuiet_nil ?_; intro _ hw'; obtain ⟨z1, hw''⟩ := hw'; subst hw''; have hs1 := z1.size; obtain ⟨hc1, hf1⟩ := bcell z1.below; (try simp only [World.size_alloc, World.size_setCell, World.size_drew] at hc1 hf1); (try simp at hs1))
        go_wp2_with fail
        go_ret2
        exact ⟨none, 0, 0, ret_pbT HB.out.symm, by rw [HP.out]; exact OwnX.nil_, by (repeat' (first | exact Below.refl _ _ | assumption | (refine Below.alloc ?_ ?_ _) | (refine Below.setCell ?_ ?_ _) | (refine Below.drew ?_) | (refine below_drewN ?_ _) | (refine below_after (Ext.below _) ?_ ?_) | (refine below_after (by assumption) ?_ ?_) | (simp; done) | omega | (simp; omega)))⟩
      have t0 : decide (g < 0) = false := decide_eq_false hg0
      by_cases hg2 : 2147483647 < g
      · have t2 : decide (2147483647 < g) = true := decide_eq_true hg2
        have HB := Lib.hid (hbad.out (fun h => by omega))
        have HP := Lib.hid (hPno.out HB.out)
        clear hg0 hg2 hbad hPno hlg
        go_wp2_with fail
        (refine wp_region_ext_lit (by kernel_rfl) (by kernel_rfl) ?_; (repeat (go_big_quiet_step (fail))); refine wpQuiet_nil ?_; intro _ hw'; obtain ⟨z1, hw''⟩ := hw'; subst hw''; have hs1 := z1.size; obtain ⟨hc1, hf1⟩ := bcell z1.below; (try simp only [World.size_alloc, World.size_setCell, World.size_drew] at hc1 hf1); (try simp at hs1))
        go_wp2_with fail
        go_ret2
        exact ⟨none, 0, 0, ret_pbT HB.out.symm, by rw [HP.out]; exact OwnX.nil_, by (repeat' (first | exact Below.refl _ _ | assumption | (refine Below.alloc ?_ ?_ _) | (refine Below.setCell ?_ ?_ _) | (refine Below.drew ?_) | (refine below_drewN ?_ _) | (refine below_after (Ext.below _) ?_ ?_) | (refine below_after (by assumption) ?_ ?_) | (simp; done) | omega | (simp; omega)))⟩
      have t2 : decide (2147483647 < g) = false := decide_eq_false hg2
      obtain ⟨z, hz⟩ : ∃ z, decide (j % K = 0) = z := ⟨_, rfl⟩
      have hzi : (((j % K : Nat) : Int) == 0) = z := by rw [← hz, Bool.eq_iff_iff]; simp; omega
      have hprev : (j = 0 ∧ lg = -1) ∨ (0 < j ∧ wr.cell? ⟨bo, o + (j - 1) * 4, none⟩ = some (.int .i64 lg)) := by
        rcases Nat.eq_zero_or_pos j with h | h
        · subst h; exact .inl ⟨rfl, hlg.symm⟩
        · obtain ⟨g', fu', C', D', CA', cn', cc', DA', dn', dc', bo', o', hx', hA', _, k1, _⟩ := hF.frm (i := j - 1) (by omega)
          injection hA' with hA'
          injection hA' with e1 e2
          subst e1 e2
          have := last_step hx'.out
          rw [show j - 1 + 1 = j by omega, hlg] at this
          subst this
          exact .inr ⟨h, (hb.cell (p := ⟨_, _, none⟩) hbo).trans k1⟩
      generalize ((j % K : Nat) : Int) = rk at er er2 hzi
      rcases hprev with ⟨hj0, hlg1⟩ | ⟨hjp, hpc⟩
      · have p0 : decide ((0 : Int) < j) = false := decide_eq_false (by omega)
        have p0' : decide (0 < j) = false := decide_eq_false (by omega)
        have hg1 : lg < g := by omega
        clear hlr hj0 hlg1
        cases fu with
        | true =>
          cases z with
          | false =>
            have HB := Lib.hid (hbad.out (fun h => (of_decide_eq_false hz) (h.2.2.1.1 rfl)))
            have HP := Lib.hid (hPno.out HB.out)
            clear hg0 hg1 hg2 hbad hPno hlg hz
            go_wp2_with fail
            (refine wp_region_ext_lit (by kernel_rfl) (by kernel_rfl) ?_; (repeat (go_big_quiet_step (fail))); refine wpQuiet_nil ?_; intro _ hw'; obtain ⟨z1, hw''⟩ := hw'; subst hw''; have hs1 := z1.size; obtain ⟨hc1, hf1⟩ := bcell z1.below; (try simp only [World.size_alloc, World.size_setCell, World.size_drew] at hc1 hf1); (try simp at hs1))
            go_wp2_with fail
            go_ret2
            exact ⟨none, 0, 0, ret_pbT HB.out.symm, by rw [HP.out]; exact OwnX.nil_, by (repeat' (first | exact Below.refl _ _ | assumption | (refine Below.alloc ?_ ?_ _) | (refine Below.setCell ?_ ?_ _) | (refine Below.drew ?_) | (refine below_drewN ?_ _) | (refine below_after (Ext.below _) ?_ ?_) | (refine below_after (by assumption) ?_ ?_) | (simp; done) | omega | (simp; omega)))⟩
          | true =>
            have kR := fun w1 h => ref05_Right CA cn cc C w1 h (by omega)
            cases hrC : rightC C with
            | false =>
              have HB := Lib.hid (hbad.out (fun h => by have := (h.2.2.2.1 rfl).1; rw [hrC] at this; cases this))
              have HP := Lib.hid (hPno.out HB.out)
              rw [hrC] at kR
              clear hg0 hg1 hg2 hbad hPno hlg hz hrC
              go_wp2_with fail
              (refine wp_region_ext_lit (by kernel_rfl) (by kernel_rfl) ?_; (repeat (go_big_quiet_step (fail))); refine wpQuiet_nil ?_; intro _ hw'; obtain ⟨z1, hw''⟩ := hw'; subst hw''; have hs1 := z1.size; obtain ⟨hc1, hf1⟩ := bcell z1.below; (try simp only [World.size_alloc, World.size_setCell, World.size_drew] at hc1 hf1); (try simp at hs1))
              go_wp2_with fail
              (go_at_call 38; refine (kR _ ((hC.of hb).of (show Below wr.heap.size wr z1.world from by (repeat' (first | exact Below.refl _ _ | assumption | (refine Below.alloc ?_ ?_ _) | (refine Below.setCell ?_ ?_ _) | (refine Below.drew ?_) | (refine below_drewN ?_ _) | (refine below_after (Ext.below _) ?_ ?_) | (refine below_after (by assumption) ?_ ?_) | (simp; done) | omega | (simp; omega)))))).mono ?_; rintro e w3 ⟨rfl, hb3⟩; obtain ⟨hc3, hf3⟩ := bcell hb3; have hs3 := hb3.size; (try simp only [World.size_alloc, World.size_setCell, World.size_drew] at hc3 hf3); (try simp at hs3))
              go_wp2_with fail
              go_ret2
              exact ⟨none, 0, 0, ret_pbT HB.out.symm, by rw [HP.out]; exact OwnX.nil_, by (repeat' (first | exact Below.refl _ _ | assumption | (refine Below.alloc ?_ ?_ _) | (refine Below.setCell ?_ ?_ _) | (refine Below.drew ?_) | (refine below_drewN ?_ _) | (refine below_after (Ext.below _) ?_ ?_) | (refine below_after (by assumption) ?_ ?_) | (simp; done) | omega | (simp; omega)))⟩
            | true =>
              rw [hrC] at kR
              by_cases hd0 : 0 < dn
              · have t5 : decide ((0 : Int) < dn) = true := decide_eq_true (by omega)
                have t5' : decide (0 < dn) = true := decide_eq_true hd0
                have HB := Lib.hid (hbad.out (fun h => by have := (h.2.2.2.1 rfl).2; subst this; have := hD.len; simp at this; omega))
                have HP := Lib.hid (hPno.out HB.out)
                clear hg0 hg1 hg2 hbad hPno hlg hz hrC
                go_wp2_with fail
                (refine wp_region_ext_lit (by kernel_rfl) (by kernel_rfl) ?_; (repeat (go_big_quiet_step (fail))); refine wpQuiet_nil ?_; intro _ hw'; obtain ⟨z1, hw''⟩ := hw'; subst hw''; have hs1 := z1.size; obtain ⟨hc1, hf1⟩ := bcell z1.below; (try simp only [World.size_alloc, World.size_setCell, World.size_drew] at hc1 hf1); (try simp at hs1))
                go_wp2_with fail
                (go_at_call 38; refine (kR _ ((hC.of hb).of (show Below wr.heap.size wr z1.world from by (repeat' (first | exact Below.refl _ _ | assumption | (refine Below.alloc ?_ ?_ _) | (refine Below.setCell ?_ ?_ _) | (refine Below.drew ?_) | (refine below_drewN ?_ _) | (refine below_after (Ext.below _) ?_ ?_) | (refine below_after (by assumption) ?_ ?_) | (simp; done) | omega | (simp; omega)))))).mono ?_; rintro e w3 ⟨rfl, hb3⟩; obtain ⟨hc3, hf3⟩ := bcell hb3; have hs3 := hb3.size; (try simp only [World.size_alloc, World.size_setCell, World.size_drew] at hc3 hf3); (try simp at hs3))
                go_wp2_with fail
                go_ret2
                exact ⟨none, 0, 0, ret_pbT HB.out.symm, by rw [HP.out]; exact OwnX.nil_, by (repeat' (first | exact Below.refl _ _ | assumption | (refine Below.alloc ?_ ?_ _) | (refine Below.setCell ?_ ?_ _) | (refine Below.drew ?_) | (refine below_drewN ?_ _) | (refine below_after (Ext.below _) ?_ ?_) | (refine below_after (by assumption) ?_ ?_) | (simp; done) | omega | (simp; omega)))⟩
              · have t5 : decide ((0 : Int) < dn) = false := decide_eq_false (by omega)
                have t5' : decide (0 < dn) = false := decide_eq_false hd0
                have hD0 : D = [] := List.length_eq_zero_iff.1 (by rw [hD.len]; omega)
                have hok2 := Lib.hid (okTT_step hok.out ((okT_iff hx.out).2 ⟨by rw [hlg]; omega, by omega, ⟨fun _ => of_decide_eq_true hz, fun _ => rfl⟩, fun _ => ⟨hrC, hD0⟩, fun h => by cases h⟩))
                have hst := Lib.hid (show patL fs (j + 1) = patL fs j ++ [C] by rw [pat_step hx.out]; rfl)
                clear hg0 hg1 hg2 hbad hPno hlg hz hrC hD0
                go_wp2_with fail
                (refine wp_region_ext_lit (by kernel_rfl) (by kernel_rfl) ?_; (repeat (go_big_quiet_step (fail))); refine wpQuiet_nil ?_; intro _ hw'; obtain ⟨z1, hw''⟩ := hw'; subst hw''; have hs1 := z1.size; obtain ⟨hc1, hf1⟩ := bcell z1.below; (try simp only [World.size_alloc, World.size_setCell, World.size_drew] at hc1 hf1); (try simp at hs1))
                go_wp2_with fail
                (go_at_call 38; refine (kR _ ((hC.of hb).of (show Below wr.heap.size wr z1.world from by (repeat' (first | exact Below.refl _ _ | assumption | (refine Below.alloc ?_ ?_ _) | (refine Below.setCell ?_ ?_ _) | (refine Below.drew ?_) | (refine below_drewN ?_ _) | (refine below_after (Ext.below _) ?_ ?_) | (refine below_after (by assumption) ?_ ?_) | (simp; done) | omega | (simp; omega)))))).mono ?_; rintro e w3 ⟨rfl, hb3⟩; obtain ⟨hc3, hf3⟩ := bcell hb3; have hs3 := hb3.size; (try simp only [World.size_alloc, World.size_setCell, World.size_drew] at hc3 hf3); (try simp at hs3))
                have hb3' : Below wr.heap.size wr w3 := by (repeat' (first | exact Below.refl _ _ | assumption | (refine Below.alloc ?_ ?_ _) | (refine Below.setCell ?_ ?_ _) | (refine Below.drew ?_) | (refine below_drewN ?_ _) | (refine below_after (Ext.below _) ?_ ?_) | (refine below_after (by assumption) ?_ ?_) | (simp; done) | omega | (simp; omega)))
                have hC3 := (hC.of hb).of hb3'
                go_wp2_with (first | (at_builtin; refine wpList_append_x (K := ekC) rfl (.tmp 82) (.tmp 85) 159 rfl 23 (.slice none 0 0) 24 Tryz.underlying159 (by kernel_rfl) rfl (we.heap.size) _ _ _ _ rfl ((hX.of hb3').alloc _) (CA, cn, cc) _ (⟨hC3.of (by (repeat' (first | exact Below.refl _ _ | assumption | (refine Below.alloc ?_ ?_ _) | (refine Below.setCell ?_ ?_ _) | (refine Below.drew ?_) | (refine below_drewN ?_ _) | (refine below_after (Ext.below _) ?_ ?_) | (refine below_after (by assumption) ?_ ?_) | (simp; done) | omega | (simp; omega)))), hcc⟩) ((hX.of hb3').offOld hCl.out) ⟨(w3).heap.size, 0, none⟩ 1 rfl (cells_new (w3) (encH (CA, cn, cc)) 23) (by omega) (by omega) (by first | omega | (simp; done) | (simp; omega)) ?_; intro A6 c6 w6 hown6 hg6 hb6; obtain ⟨hc6, hf6⟩ := bcell hb6; have hs6 := hb6.size; (try simp only [World.size_alloc, World.size_setCell, World.size_drew] at hc6 hf6); (try simp at hs6)))
                go_roundw
                case rel => exact ⟨A6, c6, j + 1, rfl, by go_num, by omega, by rw [hst.out]; exact hown6, hok2, by (repeat' (first | exact Below.refl _ _ | assumption | (refine Below.alloc ?_ ?_ _) | (refine Below.setCell ?_ ?_ _) | (refine Below.drew ?_) | (refine below_drewN ?_ _) | (refine below_after (Ext.below _) ?_ ?_) | (refine below_after (by assumption) ?_ ?_) | (simp; done) | omega | (simp; omega)))⟩
                case measure => simp [intOf]; omega
        | false =>
          cases z with
          | true =>
            have HB := Lib.hid (hbad.out (fun h => by have := h.2.2.1.2 (of_decide_eq_true hz); cases this))
            have HP := Lib.hid (hPno.out HB.out)
            clear hg0 hg1 hg2 hbad hPno hlg hz
            go_wp2_with fail
            (refine wp_region_ext_lit (by kernel_rfl) (by kernel_rfl) ?_; (repeat (go_big_quiet_step (fail))); refine wpQuiet_nil ?_; intro _ hw'; obtain ⟨z1, hw''⟩ := hw'; subst hw''; have hs1 := z1.size; obtain ⟨hc1, hf1⟩ := bcell z1.below; (try simp only [World.size_alloc, World.size_setCell, World.size_drew] at hc1 hf1); (try simp at hs1))
            go_wp2_with fail
            go_ret2
            exact ⟨none, 0, 0, ret_pbT HB.out.symm, by rw [HP.out]; exact OwnX.nil_, by (repeat' (first | exact Below.refl _ _ | assumption | (refine Below.alloc ?_ ?_ _) | (refine Below.setCell ?_ ?_ _) | (refine Below.drew ?_) | (refine below_drewN ?_ _) | (refine below_after (Ext.below _) ?_ ?_) | (refine below_after (by assumption) ?_ ?_) | (simp; done) | omega | (simp; omega)))⟩
          | false =>
            have hj1 : 1 ≤ j := by
              rcases Nat.eq_zero_or_pos j with h | h
              · subst h; rw [Nat.zero_mod] at hz; simp at hz
              · exact h
            have hjl : j ≤ fs.length := by rw [hFl.out]; exact hj
            obtain ⟨PA, pn, pc, P, bX, oX, hPx, rfl, hbX, gx, hP, hpc⟩ := hX.rd.pat (i := j - 1) (by omega)
            have hPr := pat_rightT hok.out hjl P (List.mem_of_getElem? hPx.out)
            have hPg : (patL fs j).getD (j - 1) [] = P := getD_of hPx.out
            have hpn : pn ≤ 5000 := by rw [← hP.len]; exact (rightC_ok hPr).1
            have kAp := fun w1 h1 h2 => ref53_Apply PA DA pn pc dn dc P D w1 h1 h2 (by omega) hDn
            obtain ⟨jp, hjp⟩ : ∃ jp, jp = j - 1 := ⟨_, rfl⟩
            have j0 : (0 : Int) ≤ (jp : Int) := by omega
            have j1 : (jp : Int) < (j : Int) := by omega
            have wk : IntKind.i64.wrap ((j : Int) - 1) = (jp : Int) := by rw [IntWalk.i64_in _ (by omega)]; omega
            rw [← hjp] at gx
            clear hjp
            by_cases he : apE P D = 0
            · by_cases hc0 : 0 < cn
              · have t5 : decide ((0 : Int) < cn) = true := decide_eq_true (by omega)
                have t5' : decide (0 < cn) = true := decide_eq_true hc0
                have HB := Lib.hid (hbad.out (fun h => by have := (h.2.2.2.2 rfl).2; subst this; have := hC.len; simp at this; omega))
                have HP := Lib.hid (hPno.out HB.out)
                rw [he] at kAp
                clear hg0 hg1 hg2 hbad hPno hlg hz he hPr hPg
                go_wp2_with fail
                (refine wp_region_ext_lit (by kernel_rfl) (by kernel_rfl) ?_; (repeat (go_big_quiet_step (fail))); refine wpQuiet_nil ?_; intro _ hw'; obtain ⟨z1, hw''⟩ := hw'; subst hw''; have hs1 := z1.size; obtain ⟨hc1, hf1⟩ := bcell z1.below; (try simp only [World.size_alloc, World.size_setCell, World.size_drew] at hc1 hf1); (try simp at hs1))
                have hq1 := (QuAt.new wr (.int .i64 g) (.bool false) (.slice CA cn cc) (.slice DA dn dc) 72).of z1.below
                have hb1 : Below wr.heap.size wr z1.world := by (repeat' (first | exact Below.refl _ _ | assumption | (refine Below.alloc ?_ ?_ _) | (refine Below.setCell ?_ ?_ _) | (refine Below.drew ?_) | (refine below_drewN ?_ _) | (refine below_after (Ext.below _) ?_ ?_) | (refine below_after (by assumption) ?_ ?_) | (simp; done) | omega | (simp; omega)))
                have hX1 := hX.of hb1
                have hP1 := hP.of hb1
                have hD1 := (hD.of hb).of hb1
                have hC1 := (hC.of hb).of hb1
                have hB1 : Below w.heap.size w z1.world := by (repeat' (first | exact Below.refl _ _ | assumption | (refine Below.alloc ?_ ?_ _) | (refine Below.setCell ?_ ?_ _) | (refine Below.drew ?_) | (refine below_drewN ?_ _) | (refine below_after (Ext.below _) ?_ ?_) | (refine below_after (by assumption) ?_ ?_) | (simp; done) | omega | (simp; omega)))
                have hBe1 : Below we.heap.size we z1.world := by (repeat' (first | exact Below.refl _ _ | assumption | (refine Below.alloc ?_ ?_ _) | (refine Below.setCell ?_ ?_ _) | (refine Below.drew ?_) | (refine below_drewN ?_ _) | (refine below_after (Ext.below _) ?_ ?_) | (refine below_after (by assumption) ?_ ?_) | (simp; done) | omega | (simp; omega)))
                have gx1 : z1.world.cell? ⟨bX, oX + jp, none⟩ = some (.slice PA pn pc) := (hb1.cell (p := ⟨_, _, none⟩) hbX).trans gx
                have hl1 := hb1.size
                clear hc1 hf1 hs1
                go_wp2_with fail
                obtain ⟨w1, hw1⟩ : ∃ w1, w1 = z1.world := ⟨_, rfl⟩
                rw [← hw1] at hq1 hX1 hP1 hD1 hC1 hB1 hBe1 gx1 hl1 ⊢
                clear hw1 hX hP gx g1 g2 g3 g4 hb1 a0 a1
                obtain ⟨kb, hkb⟩ : ∃ kb, kb = wr.heap.size := ⟨_, rfl⟩
                rw [← hkb] at hq1 ⊢
                have hbX1 : bX < w1.heap.size := by omega
                clear hkb
                have hkb1 : kb < w1.heap.size := hq1.1
                have hk3 := hq1.2.2.2.2
                have hB1s := hB1.size
                have hBe1s := hBe1.size
                go_region_held3 (fun w' => FrW w1 w' ∧ w'.cell? ⟨bX, oX + jp, none⟩ = some (.slice PA pn pc) ∧ w'.cell? ⟨kb, 3, none⟩ = some (.slice DA dn dc))
                  (((try go_split_ands); refine FrW.two ?_ hbX1 gx1 hkb1 hk3; first | exact FrW.drew (FrW.here _) | exact FrW.drew ‹_› | exact FrW.of ‹_› hb2 | fail))
                  ((first | (go_at_call 129; (try go_split_ands); refine (kAp _ (hP1.of (FrW.below ‹_›)) (hD1.of (FrW.below ‹_›))).mono ?_; rintro e2 w2 ⟨A2, n2, c2, rfl, hN2, hn2, hb2⟩) | fail))
                (try go_split_ands)
                have hf2 : Below w1.heap.size w1 w2 := FrW.below ‹_›
                have hl2 := hf2.size
                have hB2 : Below w.heap.size w w2 := below_thru hB1 hf2
                have hBe2 : Below we.heap.size we w2 := below_thru hBe1 hf2
                have ⟨_, k0, k1, k2, k3⟩ := hq1.of hf2
                go_wp2_with fail
                go_ret2
                exact ⟨none, 0, 0, ret_pbT HB.out.symm, by rw [HP.out]; exact OwnX.nil_, hB2⟩
              · have t5 : decide ((0 : Int) < cn) = false := decide_eq_false (by omega)
                have t5' : decide (0 < cn) = false := decide_eq_false hc0
                have hC0 : C = [] := List.length_eq_zero_iff.1 (by rw [hC.len]; omega)
                have hok2 := Lib.hid (okTT_step hok.out ((okT_iff hx.out).2 ⟨by rw [hlg]; omega, by omega, ⟨fun h => (by cases h), fun h => absurd h (of_decide_eq_false hz)⟩, fun h => (by cases h), fun _ => ⟨by rw [hPg]; exact he, hC0⟩⟩))
                have hst := Lib.hid (show patL fs (j + 1) = patL fs j ++ [apL P D] by rw [pat_step hx.out]; show _ ++ [apL ((patL fs j).getD (j - 1) []) D] = _; rw [hPg])
                rw [he] at kAp
                clear hg0 hg1 hg2 hbad hPno hlg hz he hPr hPg hC0
                go_wp2_with fail
                (refine wp_region_ext_lit (by kernel_rfl) (by kernel_rfl) ?_; (repeat (go_big_quiet_step (fail))); refine wpQuiet_nil ?_; intro _ hw'; obtain ⟨z1, hw''⟩ := hw'; subst hw''; have hs1 := z1.size; obtain ⟨hc1, hf1⟩ := bcell z1.below; (try simp only [World.size_alloc, World.size_setCell, World.size_drew] at hc1 hf1); (try simp at hs1))
                have hq1 := (QuAt.new wr (.int .i64 g) (.bool false) (.slice CA cn cc) (.slice DA dn dc) 72).of z1.below
                have hb1 : Below wr.heap.size wr z1.world := by (repeat' (first | exact Below.refl _ _ | assumption | (refine Below.alloc ?_ ?_ _) | (refine Below.setCell ?_ ?_ _) | (refine Below.drew ?_) | (refine below_drewN ?_ _) | (refine below_after (Ext.below _) ?_ ?_) | (refine below_after (by assumption) ?_ ?_) | (simp; done) | omega | (simp; omega)))
                have hX1 := hX.of hb1
                have hP1 := hP.of hb1
                have hD1 := (hD.of hb).of hb1
                have hC1 := (hC.of hb).of hb1
                have hB1 : Below w.heap.size w z1.world := by (repeat' (first | exact Below.refl _ _ | assumption | (refine Below.alloc ?_ ?_ _) | (refine Below.setCell ?_ ?_ _) | (refine Below.drew ?_) | (refine below_drewN ?_ _) | (refine below_after (Ext.below _) ?_ ?_) | (refine below_after (by assumption) ?_ ?_) | (simp; done) | omega | (simp; omega)))
                have hBe1 : Below we.heap.size we z1.world := by (repeat' (first | exact Below.refl _ _ | assumption | (refine Below.alloc ?_ ?_ _) | (refine Below.setCell ?_ ?_ _) | (refine Below.drew ?_) | (refine below_drewN ?_ _) | (refine below_after (Ext.below _) ?_ ?_) | (refine below_after (by assumption) ?_ ?_) | (simp; done) | omega | (simp; omega)))
                have gx1 : z1.world.cell? ⟨bX, oX + jp, none⟩ = some (.slice PA pn pc) := (hb1.cell (p := ⟨_, _, none⟩) hbX).trans gx
                have hl1 := hb1.size
                clear hc1 hf1 hs1
                go_wp2_with fail
                obtain ⟨w1, hw1⟩ : ∃ w1, w1 = z1.world := ⟨_, rfl⟩
                rw [← hw1] at hq1 hX1 hP1 hD1 hC1 hB1 hBe1 gx1 hl1 ⊢
                clear hw1 hX hP gx g1 g2 g3 g4 hb1 a0 a1
                obtain ⟨kb, hkb⟩ : ∃ kb, kb = wr.heap.size := ⟨_, rfl⟩
                rw [← hkb] at hq1 ⊢
                have hbX1 : bX < w1.heap.size := by omega
                clear hkb
                have hkb1 : kb < w1.heap.size := hq1.1
                have hk3 := hq1.2.2.2.2
                have hB1s := hB1.size
                have hBe1s := hBe1.size
                go_region_held3 (fun w' => FrW w1 w' ∧ w'.cell? ⟨bX, oX + jp, none⟩ = some (.slice PA pn pc) ∧ w'.cell? ⟨kb, 3, none⟩ = some (.slice DA dn dc))
                  (((try go_split_ands); refine FrW.two ?_ hbX1 gx1 hkb1 hk3; first | exact FrW.drew (FrW.here _) | exact FrW.drew ‹_› | exact FrW.of ‹_› hb2 | fail))
                  ((first | (go_at_call 129; (try go_split_ands); refine (kAp _ (hP1.of (FrW.below ‹_›)) (hD1.of (FrW.below ‹_›))).mono ?_; rintro e2 w2 ⟨A2, n2, c2, rfl, hN2, hn2, hb2⟩) | fail))
                (try go_split_ands)
                have hf2 : Below w1.heap.size w1 w2 := FrW.below ‹_›
                have hl2 := hf2.size
                have hB2 : Below w.heap.size w w2 := below_thru hB1 hf2
                have hBe2 : Below we.heap.size we w2 := below_thru hBe1 hf2
                have ⟨_, k0, k1, k2, k3⟩ := hq1.of hf2
                go_wp2_with (first | (at_builtin; refine wpList_append_x (K := ekC) rfl (.tmp 106) (.tmp 108) 159 rfl 23 (.slice none 0 0) 24 Tryz.underlying159 (by kernel_rfl) rfl (we.heap.size) _ _ _ _ rfl ((hX1.of hf2).alloc _) (A2, n2, c2) _ (⟨hN2.rd.of (by (repeat' (first | exact Below.refl _ _ | assumption | (refine Below.alloc ?_ ?_ _) | (refine Below.setCell ?_ ?_ _) | (refine Below.drew ?_) | (refine below_drewN ?_ _) | (refine below_after (Ext.below _) ?_ ?_) | (refine below_after (by assumption) ?_ ?_) | (simp; done) | omega | (simp; omega)))), hN2.cap⟩) (hN2.off (fun q hq => hX1.lt q hq)) ⟨(w2).heap.size, 0, none⟩ 1 rfl (cells_new (w2) (encH (A2, n2, c2)) 23) (by omega) (by omega) (by first | omega | (simp; done) | (simp; omega)) ?_; intro A6 c6 w6 hown6 hg6 hb6; obtain ⟨hc6, hf6⟩ := bcell hb6; have hs6 := hb6.size; (try simp only [World.size_alloc, World.size_setCell, World.size_drew] at hc6 hf6); (try simp at hs6)))
                go_roundw
                case rel => exact ⟨A6, c6, j + 1, rfl, by go_num, by omega, by rw [hst.out]; exact hown6, hok2, by (repeat' (first | exact Below.refl _ _ | assumption | (refine Below.alloc ?_ ?_ _) | (refine Below.setCell ?_ ?_ _) | (refine Below.drew ?_) | (refine below_drewN ?_ _) | (refine below_after (Ext.below _) ?_ ?_) | (refine below_after (by assumption) ?_ ?_) | (simp; done) | omega | (simp; omega)))⟩
                case measure => simp [intOf]; omega
            · have HB := Lib.hid (hbad.out (fun h => he (by have := (h.2.2.2.2 rfl).1; rw [hPg] at this; exact this)))
              have HP := Lib.hid (hPno.out HB.out)
              generalize apE P D = ea at kAp he
              have t6 : (ea != 0) = true := by simpa using he
              clear hg0 hg1 hg2 hbad hPno hlg hz he hPr hPg
              go_wp2_with fail
              (refine wp_region_ext_lit (by kernel_rfl) (by kernel_rfl) ?_; (repeat (go_big_quiet_step (fail))); refine wpQuiet_nil ?_; intro _ hw'; obtain ⟨z1, hw''⟩ := hw'; subst hw''; have hs1 := z1.size; obtain ⟨hc1, hf1⟩ := bcell z1.below; (try simp only [World.size_alloc, World.size_setCell, World.size_drew] at hc1 hf1); (try simp at hs1))
              have hq1 := (QuAt.new wr (.int .i64 g) (.bool false) (.slice CA cn cc) (.slice DA dn dc) 72).of z1.below
              have hb1 : Below wr.heap.size wr z1.world := by (repeat' (first | exact Below.refl _ _ | assumption | (refine Below.alloc ?_ ?_ _) | (refine Below.setCell ?_ ?_ _) | (refine Below.drew ?_) | (refine below_drewN ?_ _) | (refine below_after (Ext.below _) ?_ ?_) | (refine below_after (by assumption) ?_ ?_) | (simp; done) | omega | (simp; omega)))
              have hX1 := hX.of hb1
              have hP1 := hP.of hb1
              have hD1 := (hD.of hb).of hb1
              have hC1 := (hC.of hb).of hb1
              have hB1 : Below w.heap.size w z1.world := by (repeat' (first | exact Below.refl _ _ | assumption | (refine Below.alloc ?_ ?_ _) | (refine Below.setCell ?_ ?_ _) | (refine Below.drew ?_) | (refine below_drewN ?_ _) | (refine below_after (Ext.below _) ?_ ?_) | (refine below_after (by assumption) ?_ ?_) | (simp; done) | omega | (simp; omega)))
              have hBe1 : Below we.heap.size we z1.world := by (repeat' (first | exact Below.refl _ _ | assumption | (refine Below.alloc ?_ ?_ _) | (refine Below.setCell ?_ ?_ _) | (refine Below.drew ?_) | (refine below_drewN ?_ _) | (refine below_after (Ext.below _) ?_ ?_) | (refine below_after (by assumption) ?_ ?_) | (simp; done) | omega | (simp; omega)))
              have gx1 : z1.world.cell? ⟨bX, oX + jp, none⟩ = some (.slice PA pn pc) := (hb1.cell (p := ⟨_, _, none⟩) hbX).trans gx
              have hl1 := hb1.size
              clear hc1 hf1 hs1
              go_wp2_with fail
              obtain ⟨w1, hw1⟩ : ∃ w1, w1 = z1.world := ⟨_, rfl⟩
              rw [← hw1] at hq1 hX1 hP1 hD1 hC1 hB1 hBe1 gx1 hl1 ⊢
              clear hw1 hX hP gx g1 g2 g3 g4 hb1 a0 a1
              obtain ⟨kb, hkb⟩ : ∃ kb, kb = wr.heap.size := ⟨_, rfl⟩
              rw [← hkb] at hq1 ⊢
              have hbX1 : bX < w1.heap.size := by omega
              clear hkb
              have hkb1 : kb < w1.heap.size := hq1.1
              have hk3 := hq1.2.2.2.2
              have hB1s := hB1.size
              have hBe1s := hBe1.size
              go_region_held3 (fun w' => FrW w1 w' ∧ w'.cell? ⟨bX, oX + jp, none⟩ = some (.slice PA pn pc) ∧ w'.cell? ⟨kb, 3, none⟩ = some (.slice DA dn dc))
                (((try go_split_ands); refine FrW.two ?_ hbX1 gx1 hkb1 hk3; first | exact FrW.drew (FrW.here _) | exact FrW.drew ‹_› | exact FrW.of ‹_› hb2 | fail))
                ((first | (go_at_call 129; (try go_split_ands); refine (kAp _ (hP1.of (FrW.below ‹_›)) (hD1.of (FrW.below ‹_›))).mono ?_; rintro e2 w2 ⟨A2, n2, c2, rfl, hN2, hn2, hb2⟩) | fail))
              (try go_split_ands)
              have hf2 : Below w1.heap.size w1 w2 := FrW.below ‹_›
              have hl2 := hf2.size
              have hB2 : Below w.heap.size w w2 := below_thru hB1 hf2
              have hBe2 : Below we.heap.size we w2 := below_thru hBe1 hf2
              have ⟨_, k0, k1, k2, k3⟩ := hq1.of hf2
              go_wp2_with fail
              go_ret2
              exact ⟨none, 0, 0, ret_pbT HB.out.symm, by rw [HP.out]; exact OwnX.nil_, hB2⟩
      · have p0 : decide ((0 : Int) < j) = true := decide_eq_true (by omega)
        have p0' : decide (0 < j) = true := decide_eq_true hjp
        obtain ⟨jp, hjq⟩ : ∃ jp, jp = j - 1 := ⟨_, rfl⟩
        have j0 : (0 : Int) ≤ (jp : Int) := by omega
        have j1n : (jp : Int) < (n : Int) := by omega
        have wk : IntKind.i64.wrap ((j : Int) - 1) = (jp : Int) := by rw [IntWalk.i64_in _ (by omega)]; omega
        rw [← hjq] at hpc
        replace hjq := Lib.hid hjq
        by_cases hg1 : g ≤ lg
        · have t1 : decide (g ≤ lg) = true := decide_eq_true hg1
          have HB := Lib.hid (hbad.out (fun h => by omega))
          have HP := Lib.hid (hPno.out HB.out)
          clear hg0 hg1 hg2 hbad hPno hlg
          go_wp2_with fail
          (refine wp_region_ext_lit (by kernel_rfl) (by kernel_rfl) ?_; (repeat (go_big_quiet_step (fail))); refine wpQuiet_nil ?_; intro _ hw'; obtain ⟨z1, hw''⟩ := hw'; subst hw''; have hs1 := z1.size; obtain ⟨hc1, hf1⟩ := bcell z1.below; (try simp only [World.size_alloc, World.size_setCell, World.size_drew] at hc1 hf1); (try simp at hs1))
          go_wp2_with fail
          go_ret2
          exact ⟨none, 0, 0, ret_pbT HB.out.symm, by rw [HP.out]; exact OwnX.nil_, by (repeat' (first | exact Below.refl _ _ | assumption | (refine Below.alloc ?_ ?_ _) | (refine Below.setCell ?_ ?_ _) | (refine Below.drew ?_) | (refine below_drewN ?_ _) | (refine below_after (Ext.below _) ?_ ?_) | (refine below_after (by assumption) ?_ ?_) | (simp; done) | omega | (simp; omega)))⟩
        have t1 : decide (g ≤ lg) = false := decide_eq_false hg1
        cases fu with
        | true =>
          cases z with
          | false =>
            have HB := Lib.hid (hbad.out (fun h => (of_decide_eq_false hz) (h.2.2.1.1 rfl)))
            have HP := Lib.hid (hPno.out HB.out)
            clear hg0 hg1 hg2 hbad hPno hlg hz
            go_wp2_with fail
            (refine wp_region_ext_lit (by kernel_rfl) (by kernel_rfl) ?_; (repeat (go_big_quiet_step (fail))); refine wpQuiet_nil ?_; intro _ hw'; obtain ⟨z1, hw''⟩ := hw'; subst hw''; have hs1 := z1.size; obtain ⟨hc1, hf1⟩ := bcell z1.below; (try simp only [World.size_alloc, World.size_setCell, World.size_drew] at hc1 hf1); (try simp at hs1))
            go_wp2_with fail
            go_ret2
            exact ⟨none, 0, 0, ret_pbT HB.out.symm, by rw [HP.out]; exact OwnX.nil_, by (repeat' (first | exact Below.refl _ _ | assumption | (refine Below.alloc ?_ ?_ _) | (refine Below.setCell ?_ ?_ _) | (refine Below.drew ?_) | (refine below_drewN ?_ _) | (refine below_after (Ext.below _) ?_ ?_) | (refine below_after (by assumption) ?_ ?_) | (simp; done) | omega | (simp; omega)))⟩
          | true =>
            have kR := fun w1 h => ref05_Right CA cn cc C w1 h (by omega)
            cases hrC : rightC C with
            | false =>
              have HB := Lib.hid (hbad.out (fun h => by have := (h.2.2.2.1 rfl).1; rw [hrC] at this; cases this))
              have HP := Lib.hid (hPno.out HB.out)
              rw [hrC] at kR
              clear hg0 hg1 hg2 hbad hPno hlg hz hrC
              go_wp2_with fail
              (refine wp_region_ext_lit (by kernel_rfl) (by kernel_rfl) ?_; (repeat (go_big_quiet_step (fail))); refine wpQuiet_nil ?_; intro _ hw'; obtain ⟨z1, hw''⟩ := hw'; subst hw''; have hs1 := z1.size; obtain ⟨hc1, hf1⟩ := bcell z1.below; (try simp only [World.size_alloc, World.size_setCell, World.size_drew] at hc1 hf1); (try simp at hs1))
              go_wp2_with fail
              (go_at_call 38; refine (kR _ ((hC.of hb).of (show Below wr.heap.size wr z1.world from by (repeat' (first | exact Below.refl _ _ | assumption | (refine Below.alloc ?_ ?_ _) | (refine Below.setCell ?_ ?_ _) | (refine Below.drew ?_) | (refine below_drewN ?_ _) | (refine below_after (Ext.below _) ?_ ?_) | (refine below_after (by assumption) ?_ ?_) | (simp; done) | omega | (simp; omega)))))).mono ?_; rintro e w3 ⟨rfl, hb3⟩; obtain ⟨hc3, hf3⟩ := bcell hb3; have hs3 := hb3.size; (try simp only [World.size_alloc, World.size_setCell, World.size_drew] at hc3 hf3); (try simp at hs3))
              go_wp2_with fail
              go_ret2
              exact ⟨none, 0, 0, ret_pbT HB.out.symm, by rw [HP.out]; exact OwnX.nil_, by (repeat' (first | exact Below.refl _ _ | assumption | (refine Below.alloc ?_ ?_ _) | (refine Below.setCell ?_ ?_ _) | (refine Below.drew ?_) | (refine below_drewN ?_ _) | (refine below_after (Ext.below _) ?_ ?_) | (refine below_after (by assumption) ?_ ?_) | (simp; done) | omega | (simp; omega)))⟩
            | true =>
              rw [hrC] at kR
              by_cases hd0 : 0 < dn
              · have t5 : decide ((0 : Int) < dn) = true := decide_eq_true (by omega)
                have t5' : decide (0 < dn) = true := decide_eq_true hd0
                have HB := Lib.hid (hbad.out (fun h => by have := (h.2.2.2.1 rfl).2; subst this; have := hD.len; simp at this; omega))
                have HP := Lib.hid (hPno.out HB.out)
                clear hg0 hg1 hg2 hbad hPno hlg hz hrC
                go_wp2_with fail
                (refine wp_region_ext_lit (by kernel_rfl) (by kernel_rfl) ?_; (repeat (go_big_quiet_step (fail))); refine wpQuiet_nil ?_; intro _ hw'; obtain ⟨z1, hw''⟩ := hw'; subst hw''; have hs1 := z1.size; obtain ⟨hc1, hf1⟩ := bcell z1.below; (try simp only [World.size_alloc, World.size_setCell, World.size_drew] at hc1 hf1); (try simp at hs1))
                go_wp2_with fail
                (go_at_call 38; refine (kR _ ((hC.of hb).of (show Below wr.heap.size wr z1.world from by (repeat' (first | exact Below.refl _ _ | assumption | (refine Below.alloc ?_ ?_ _) | (refine Below.setCell ?_ ?_ _) | (refine Below.drew ?_) | (refine below_drewN ?_ _) | (refine below_after (Ext.below _) ?_ ?_) | (refine below_after (by assumption) ?_ ?_) | (simp; done) | omega | (simp; omega)))))).mono ?_; rintro e w3 ⟨rfl, hb3⟩; obtain ⟨hc3, hf3⟩ := bcell hb3; have hs3 := hb3.size; (try simp only [World.size_alloc, World.size_setCell, World.size_drew] at hc3 hf3); (try simp at hs3))
                go_wp2_with fail
                go_ret2
                exact ⟨none, 0, 0, ret_pbT HB.out.symm, by rw [HP.out]; exact OwnX.nil_, by (repeat' (first | exact Below.refl _ _ | assumption | (refine Below.alloc ?_ ?_ _) | (refine Below.setCell ?_ ?_ _) | (refine Below.drew ?_) | (refine below_drewN ?_ _) | (refine below_after (Ext.below _) ?_ ?_) | (refine below_after (by assumption) ?_ ?_) | (simp; done) | omega | (simp; omega)))⟩
              · have t5 : decide ((0 : Int) < dn) = false := decide_eq_false (by omega)
                have t5' : decide (0 < dn) = false := decide_eq_false hd0
                have hD0 : D = [] := List.length_eq_zero_iff.1 (by rw [hD.len]; omega)
                have hok2 := Lib.hid (okTT_step hok.out ((okT_iff hx.out).2 ⟨by rw [hlg]; omega, by omega, ⟨fun _ => of_decide_eq_true hz, fun _ => rfl⟩, fun _ => ⟨hrC, hD0⟩, fun h => by cases h⟩))
                have hst := Lib.hid (show patL fs (j + 1) = patL fs j ++ [C] by rw [pat_step hx.out]; rfl)
                clear hg0 hg1 hg2 hbad hPno hlg hz hrC hD0
                go_wp2_with fail
                (refine wp_region_ext_lit (by kernel_rfl) (by kernel_rfl) ?_; (repeat (go_big_quiet_step (fail))); refine wpQuiet_nil ?_; intro _ hw'; obtain ⟨z1, hw''⟩ := hw'; subst hw''; have hs1 := z1.size; obtain ⟨hc1, hf1⟩ := bcell z1.below; (try simp only [World.size_alloc, World.size_setCell, World.size_drew] at hc1 hf1); (try simp at hs1))
                go_wp2_with fail
                (go_at_call 38; refine (kR _ ((hC.of hb).of (show Below wr.heap.size wr z1.world from by (repeat' (first | exact Below.refl _ _ | assumption | (refine Below.alloc ?_ ?_ _) | (refine Below.setCell ?_ ?_ _) | (refine Below.drew ?_) | (refine below_drewN ?_ _) | (refine below_after (Ext.below _) ?_ ?_) | (refine below_after (by assumption) ?_ ?_) | (simp; done) | omega | (simp; omega)))))).mono ?_; rintro e w3 ⟨rfl, hb3⟩; obtain ⟨hc3, hf3⟩ := bcell hb3; have hs3 := hb3.size; (try simp only [World.size_alloc, World.size_setCell, World.size_drew] at hc3 hf3); (try simp at hs3))
                have hb3' : Below wr.heap.size wr w3 := by (repeat' (first | exact Below.refl _ _ | assumption | (refine Below.alloc ?_ ?_ _) | (refine Below.setCell ?_ ?_ _) | (refine Below.drew ?_) | (refine below_drewN ?_ _) | (refine below_after (Ext.below _) ?_ ?_) | (refine below_after (by assumption) ?_ ?_) | (simp; done) | omega | (simp; omega)))
                have hC3 := (hC.of hb).of hb3'
                go_wp2_with (first | (at_builtin; refine wpList_append_x (K := ekC) rfl (.tmp 82) (.tmp 85) 159 rfl 23 (.slice none 0 0) 24 Tryz.underlying159 (by kernel_rfl) rfl (we.heap.size) _ _ _ _ rfl ((hX.of hb3').alloc _) (CA, cn, cc) _ (⟨hC3.of (by (repeat' (first | exact Below.refl _ _ | assumption | (refine Below.alloc ?_ ?_ _) | (refine Below.setCell ?_ ?_ _) | (refine Below.drew ?_) | (refine below_drewN ?_ _) | (refine below_after (Ext.below _) ?_ ?_) | (refine below_after (by assumption) ?_ ?_) | (simp; done) | omega | (simp; omega)))), hcc⟩) ((hX.of hb3').offOld hCl.out) ⟨(w3).heap.size, 0, none⟩ 1 rfl (cells_new (w3) (encH (CA, cn, cc)) 23) (by omega) (by omega) (by first | omega | (simp; done) | (simp; omega)) ?_; intro A6 c6 w6 hown6 hg6 hb6; obtain ⟨hc6, hf6⟩ := bcell hb6; have hs6 := hb6.size; (try simp only [World.size_alloc, World.size_setCell, World.size_drew] at hc6 hf6); (try simp at hs6)))
                go_roundw
                case rel => exact ⟨A6, c6, j + 1, rfl, by go_num, by omega, by rw [hst.out]; exact hown6, hok2, by (repeat' (first | exact Below.refl _ _ | assumption | (refine Below.alloc ?_ ?_ _) | (refine Below.setCell ?_ ?_ _) | (refine Below.drew ?_) | (refine below_drewN ?_ _) | (refine below_after (Ext.below _) ?_ ?_) | (refine below_after (by assumption) ?_ ?_) | (simp; done) | omega | (simp; omega)))⟩
                case measure => simp [intOf]; omega
        | false =>
          cases z with
          | true =>
            have HB := Lib.hid (hbad.out (fun h => by have := h.2.2.1.2 (of_decide_eq_true hz); cases this))
            have HP := Lib.hid (hPno.out HB.out)
            clear hg0 hg1 hg2 hbad hPno hlg hz
            go_wp2_with fail
            (refine wp_region_ext_lit (by kernel_rfl) (by kernel_rfl) ?_; (repeat (go_big_quiet_step (fail))); refine wpQuiet_nil ?_; intro _ hw'; obtain ⟨z1, hw''⟩ := hw'; subst hw''; have hs1 := z1.size; obtain ⟨hc1, hf1⟩ := bcell z1.below; (try simp only [World.size_alloc, World.size_setCell, World.size_drew] at hc1 hf1); (try simp at hs1))
            go_wp2_with fail
            go_ret2
            exact ⟨none, 0, 0, ret_pbT HB.out.symm, by rw [HP.out]; exact OwnX.nil_, by (repeat' (first | exact Below.refl _ _ | assumption | (refine Below.alloc ?_ ?_ _) | (refine Below.setCell ?_ ?_ _) | (refine Below.drew ?_) | (refine below_drewN ?_ _) | (refine below_after (Ext.below _) ?_ ?_) | (refine below_after (by assumption) ?_ ?_) | (simp; done) | omega | (simp; omega)))⟩
          | false =>
            have hj1 : 1 ≤ j := by
              rcases Nat.eq_zero_or_pos j with h | h
              · subst h; rw [Nat.zero_mod] at hz; simp at hz
              · exact h
            have hjl : j ≤ fs.length := by rw [hFl.out]; exact hj
            obtain ⟨PA, pn, pc, P, bX, oX, hPx, rfl, hbX, gx, hP, hpc⟩ := hX.rd.pat (i := j - 1) (by omega)
            have hPr := pat_rightT hok.out hjl P (List.mem_of_getElem? hPx.out)
            have hPg : (patL fs j).getD (j - 1) [] = P := getD_of hPx.out
            have hpn : pn ≤ 5000 := by rw [← hP.len]; exact (rightC_ok hPr).1
            have kAp := fun w1 h1 h2 => ref53_Apply PA DA pn pc dn dc P D w1 h1 h2 (by omega) hDn
            have hjq2 := hjq.out
            have j1 : (jp : Int) < (j : Int) := by omega
            rw [← hjq2] at gx
            clear hjq2
            by_cases he : apE P D = 0
            · by_cases hc0 : 0 < cn
              · have t5 : decide ((0 : Int) < cn) = true := decide_eq_true (by omega)
                have t5' : decide (0 < cn) = true := decide_eq_true hc0
                have HB := Lib.hid (hbad.out (fun h => by have := (h.2.2.2.2 rfl).2; subst this; have := hC.len; simp at this; omega))
                have HP := Lib.hid (hPno.out HB.out)
                rw [he] at kAp
                clear hg0 hg1 hg2 hbad hPno hlg hz he hPr hPg
                go_wp2_with fail
                (refine wp_region_ext_lit (by kernel_rfl) (by kernel_rfl) ?_; (repeat (go_big_quiet_step (fail))); refine wpQuiet_nil ?_; intro _ hw'; obtain ⟨z1, hw''⟩ := hw'; subst hw''; have hs1 := z1.size; obtain ⟨hc1, hf1⟩ := bcell z1.below; (try simp only [World.size_alloc, World.size_setCell, World.size_drew] at hc1 hf1); (try simp at hs1))
                have hq1 := (QuAt.new wr (.int .i64 g) (.bool false) (.slice CA cn cc) (.slice DA dn dc) 72).of z1.below
                have hb1 : Below wr.heap.size wr z1.world := by (repeat' (first | exact Below.refl _ _ | assumption | (refine Below.alloc ?_ ?_ _) | (refine Below.setCell ?_ ?_ _) | (refine Below.drew ?_) | (refine below_drewN ?_ _) | (refine below_after (Ext.below _) ?_ ?_) | (refine below_after (by assumption) ?_ ?_) | (simp; done) | omega | (simp; omega)))
                have hX1 := hX.of hb1
                have hP1 := hP.of hb1
                have hD1 := (hD.of hb).of hb1
                have hC1 := (hC.of hb).of hb1
                have hB1 : Below w.heap.size w z1.world := by (repeat' (first | exact Below.refl _ _ | assumption | (refine Below.alloc ?_ ?_ _) | (refine Below.setCell ?_ ?_ _) | (refine Below.drew ?_) | (refine below_drewN ?_ _) | (refine below_after (Ext.below _) ?_ ?_) | (refine below_after (by assumption) ?_ ?_) | (simp; done) | omega | (simp; omega)))
                have hBe1 : Below we.heap.size we z1.world := by (repeat' (first | exact Below.refl _ _ | assumption | (refine Below.alloc ?_ ?_ _) | (refine Below.setCell ?_ ?_ _) | (refine Below.drew ?_) | (refine below_drewN ?_ _) | (refine below_after (Ext.below _) ?_ ?_) | (refine below_after (by assumption) ?_ ?_) | (simp; done) | omega | (simp; omega)))
                have gx1 : z1.world.cell? ⟨bX, oX + jp, none⟩ = some (.slice PA pn pc) := (hb1.cell (p := ⟨_, _, none⟩) hbX).trans gx
                have hl1 := hb1.size
                clear hc1 hf1 hs1
                go_wp2_with fail
                obtain ⟨w1, hw1⟩ : ∃ w1, w1 = z1.world := ⟨_, rfl⟩
                rw [← hw1] at hq1 hX1 hP1 hD1 hC1 hB1 hBe1 gx1 hl1 ⊢
                clear hw1 hX hP gx g1 g2 g3 g4 hb1 a0 a1
                obtain ⟨kb, hkb⟩ : ∃ kb, kb = wr.heap.size := ⟨_, rfl⟩
                rw [← hkb] at hq1 ⊢
                have hbX1 : bX < w1.heap.size := by omega
                clear hkb
                have hkb1 : kb < w1.heap.size := hq1.1
                have hk3 := hq1.2.2.2.2
                have hB1s := hB1.size
                have hBe1s := hBe1.size
                go_region_held3 (fun w' => FrW w1 w' ∧ w'.cell? ⟨bX, oX + jp, none⟩ = some (.slice PA pn pc) ∧ w'.cell? ⟨kb, 3, none⟩ = some (.slice DA dn dc))
                  (((try go_split_ands); refine FrW.two ?_ hbX1 gx1 hkb1 hk3; first | exact FrW.drew (FrW.here _) | exact FrW.drew ‹_› | exact FrW.of ‹_› hb2 | fail))
                  ((first | (go_at_call 129; (try go_split_ands); refine (kAp _ (hP1.of (FrW.below ‹_›)) (hD1.of (FrW.below ‹_›))).mono ?_; rintro e2 w2 ⟨A2, n2, c2, rfl, hN2, hn2, hb2⟩) | fail))
                (try go_split_ands)
                have hf2 : Below w1.heap.size w1 w2 := FrW.below ‹_›
                have hl2 := hf2.size
                have hB2 : Below w.heap.size w w2 := below_thru hB1 hf2
                have hBe2 : Below we.heap.size we w2 := below_thru hBe1 hf2
                have ⟨_, k0, k1, k2, k3⟩ := hq1.of hf2
                go_wp2_with fail
                go_ret2
                exact ⟨none, 0, 0, ret_pbT HB.out.symm, by rw [HP.out]; exact OwnX.nil_, hB2⟩
              · have t5 : decide ((0 : Int) < cn) = false := decide_eq_false (by omega)
                have t5' : decide (0 < cn) = false := decide_eq_false hc0
                have hC0 : C = [] := List.length_eq_zero_iff.1 (by rw [hC.len]; omega)
                have hok2 := Lib.hid (okTT_step hok.out ((okT_iff hx.out).2 ⟨by rw [hlg]; omega, by omega, ⟨fun h => (by cases h), fun h => absurd h (of_decide_eq_false hz)⟩, fun h => (by cases h), fun _ => ⟨by rw [hPg]; exact he, hC0⟩⟩))
                have hst := Lib.hid (show patL fs (j + 1) = patL fs j ++ [apL P D] by rw [pat_step hx.out]; show _ ++ [apL ((patL fs j).getD (j - 1) []) D] = _; rw [hPg])
                rw [he] at kAp
                clear hg0 hg1 hg2 hbad hPno hlg hz he hPr hPg hC0
                go_wp2_with fail
                (refine wp_region_ext_lit (by kernel_rfl) (by kernel_rfl) ?_; (repeat (go_big_quiet_step (fail))); refine wpQuiet_nil ?_; intro _ hw'; obtain ⟨z1, hw''⟩ := hw'; subst hw''; have hs1 := z1.size; obtain ⟨hc1, hf1⟩ := bcell z1.below; (try simp only [World.size_alloc, World.size_setCell, World.size_drew] at hc1 hf1); (try simp at hs1))
                have hq1 := (QuAt.new wr (.int .i64 g) (.bool false) (.slice CA cn cc) (.slice DA dn dc) 72).of z1.below
                have hb1 : Below wr.heap.size wr z1.world := by (repeat' (first | exact Below.refl _ _ | assumption | (refine Below.alloc ?_ ?_ _) | (refine Below.setCell ?_ ?_ _) | (refine Below.drew ?_) | (refine below_drewN ?_ _) | (refine below_after (Ext.below _) ?_ ?_) | (refine below_after (by assumption) ?_ ?_) | (simp; done) | omega | (simp; omega)))
                have hX1 := hX.of hb1
                have hP1 := hP.of hb1
                have hD1 := (hD.of hb).of hb1
                have hC1 := (hC.of hb).of hb1
                have hB1 : Below w.heap.size w z1.world := by (repeat' (first | exact Below.refl _ _ | assumption | (refine Below.alloc ?_ ?_ _) | (refine Below.setCell ?_ ?_ _) | (refine Below.drew ?_) | (refine below_drewN ?_ _) | (refine below_after (Ext.below _) ?_ ?_) | (refine below_after (by assumption) ?_ ?_) | (simp; done) | omega | (simp; omega)))
                have hBe1 : Below we.heap.size we z1.world := by (repeat' (first | exact Below.refl _ _ | assumption | (refine Below.alloc ?_ ?_ _) | (refine Below.setCell ?_ ?_ _) | (refine Below.drew ?_) | (refine below_drewN ?_ _) | (refine below_after (Ext.below _) ?_ ?_) | (refine below_after (by assumption) ?_ ?_) | (simp; done) | omega | (simp; omega)))
                have gx1 : z1.world.cell? ⟨bX, oX + jp, none⟩ = some (.slice PA pn pc) := (hb1.cell (p := ⟨_, _, none⟩) hbX).trans gx
                have hl1 := hb1.size
                clear hc1 hf1 hs1
                go_wp2_with fail
                obtain ⟨w1, hw1⟩ : ∃ w1, w1 = z1.world := ⟨_, rfl⟩
                rw [← hw1] at hq1 hX1 hP1 hD1 hC1 hB1 hBe1 gx1 hl1 ⊢
                clear hw1 hX hP gx g1 g2 g3 g4 hb1 a0 a1
                obtain ⟨kb, hkb⟩ : ∃ kb, kb = wr.heap.size := ⟨_, rfl⟩
                rw [← hkb] at hq1 ⊢
                have hbX1 : bX < w1.heap.size := by omega
                clear hkb
                have hkb1 : kb < w1.heap.size := hq1.1
                have hk3 := hq1.2.2.2.2
                have hB1s := hB1.size
                have hBe1s := hBe1.size
                go_region_held3 (fun w' => FrW w1 w' ∧ w'.cell? ⟨bX, oX + jp, none⟩ = some (.slice PA pn pc) ∧ w'.cell? ⟨kb, 3, none⟩ = some (.slice DA dn dc))
                  (((try go_split_ands); refine FrW.two ?_ hbX1 gx1 hkb1 hk3; first | exact FrW.drew (FrW.here _) | exact FrW.drew ‹_› | exact FrW.of ‹_› hb2 | fail))
                  ((first | (go_at_call 129; (try go_split_ands); refine (kAp _ (hP1.of (FrW.below ‹_›)) (hD1.of (FrW.below ‹_›))).mono ?_; rintro e2 w2 ⟨A2, n2, c2, rfl, hN2, hn2, hb2⟩) | fail))
                (try go_split_ands)
                have hf2 : Below w1.heap.size w1 w2 := FrW.below ‹_›
                have hl2 := hf2.size
                have hB2 : Below w.heap.size w w2 := below_thru hB1 hf2
                have hBe2 : Below we.heap.size we w2 := below_thru hBe1 hf2
                have ⟨_, k0, k1, k2, k3⟩ := hq1.of hf2
                go_wp2_with (first | (at_builtin; refine wpList_append_x (K := ekC) rfl (.tmp 106) (.tmp 108) 159 rfl 23 (.slice none 0 0) 24 Tryz.underlying159 (by kernel_rfl) rfl (we.heap.size) _ _ _ _ rfl ((hX1.of hf2).alloc _) (A2, n2, c2) _ (⟨hN2.rd.of (by (repeat' (first | exact Below.refl _ _ | assumption | (refine Below.alloc ?_ ?_ _) | (refine Below.setCell ?_ ?_ _) | (refine Below.drew ?_) | (refine below_drewN ?_ _) | (refine below_after (Ext.below _) ?_ ?_) | (refine below_after (by assumption) ?_ ?_) | (simp; done) | omega | (simp; omega)))), hN2.cap⟩) (hN2.off (fun q hq => hX1.lt q hq)) ⟨(w2).heap.size, 0, none⟩ 1 rfl (cells_new (w2) (encH (A2, n2, c2)) 23) (by omega) (by omega) (by first | omega | (simp; done) | (simp; omega)) ?_; intro A6 c6 w6 hown6 hg6 hb6; obtain ⟨hc6, hf6⟩ := bcell hb6; have hs6 := hb6.size; (try simp only [World.size_alloc, World.size_setCell, World.size_drew] at hc6 hf6); (try simp at hs6)))
                go_roundw
                case rel => exact ⟨A6, c6, j + 1, rfl, by go_num, by omega, by rw [hst.out]; exact hown6, hok2, by (repeat' (first | exact Below.refl _ _ | assumption | (refine Below.alloc ?_ ?_ _) | (refine Below.setCell ?_ ?_ _) | (refine Below.drew ?_) | (refine below_drewN ?_ _) | (refine below_after (Ext.below _) ?_ ?_) | (refine below_after (by assumption) ?_ ?_) | (simp; done) | omega | (simp; omega)))⟩
                case measure => simp [intOf]; omega
            · have HB := Lib.hid (hbad.out (fun h => he (by have := (h.2.2.2.2 rfl).1; rw [hPg] at this; exact this)))
              have HP := Lib.hid (hPno.out HB.out)
              generalize apE P D = ea at kAp he
              have t6 : (ea != 0) = true := by simpa using he
              clear hg0 hg1 hg2 hbad hPno hlg hz he hPr hPg
              go_wp2_with fail
              (refine wp_region_ext_lit (by kernel_rfl) (by kernel_rfl) ?_; (repeat (go_big_quiet_step (fail))); refine wpQuiet_nil ?_; intro _ hw'; obtain ⟨z1, hw''⟩ := hw'; subst hw''; have hs1 := z1.size; obtain ⟨hc1, hf1⟩ := bcell z1.below; (try simp only [World.size_alloc, World.size_setCell, World.size_drew] at hc1 hf1); (try simp at hs1))
              have hq1 := (QuAt.new wr (.int .i64 g) (.bool false) (.slice CA cn cc) (.slice DA dn dc) 72).of z1.below
              have hb1 : Below wr.heap.size wr z1.world := by (repeat' (first | exact Below.refl _ _ | assumption | (refine Below.alloc ?_ ?_ _) | (refine Below.setCell ?_ ?_ _) | (refine Below.drew ?_) | (refine below_drewN ?_ _) | (refine below_after (Ext.below _) ?_ ?_) | (refine below_after (by assumption) ?_ ?_) | (simp; done) | omega | (simp; omega)))
              have hX1 := hX.of hb1
              have hP1 := hP.of hb1
              have hD1 := (hD.of hb).of hb1
              have hC1 := (hC.of hb).of hb1
              have hB1 : Below w.heap.size w z1.world := by (repeat' (first | exact Below.refl _ _ | assumption | (refine Below.alloc ?_ ?_ _) | (refine Below.setCell ?_ ?_ _) | (refine Below.drew ?_) | (refine below_drewN ?_ _) | (refine below_after (Ext.below _) ?_ ?_) | (refine below_after (by assumption) ?_ ?_) | (simp; done) | omega | (simp; omega)))
              have hBe1 : Below we.heap.size we z1.world := by (repeat' (first | exact Below.refl _ _ | assumption | (refine Below.alloc ?_ ?_ _) | (refine Below.setCell ?_ ?_ _) | (refine Below.drew ?_) | (refine below_drewN ?_ _) | (refine below_after (Ext.below _) ?_ ?_) | (refine below_after (by assumption) ?_ ?_) | (simp; done) | omega | (simp; omega)))
              have gx1 : z1.world.cell? ⟨bX, oX + jp, none⟩ = some (.slice PA pn pc) := (hb1.cell (p := ⟨_, _, none⟩) hbX).trans gx
              have hl1 := hb1.size
              clear hc1 hf1 hs1
              go_wp2_with fail
              obtain ⟨w1, hw1⟩ : ∃ w1, w1 = z1.world := ⟨_, rfl⟩
              rw [← hw1] at hq1 hX1 hP1 hD1 hC1 hB1 hBe1 gx1 hl1 ⊢
              clear hw1 hX hP gx g1 g2 g3 g4 hb1 a0 a1
              obtain ⟨kb, hkb⟩ : ∃ kb, kb = wr.heap.size := ⟨_, rfl⟩
              rw [← hkb] at hq1 ⊢
              have hbX1 : bX < w1.heap.size := by omega
              clear hkb
              have hkb1 : kb < w1.heap.size := hq1.1
              have hk3 := hq1.2.2.2.2
              have hB1s := hB1.size
              have hBe1s := hBe1.size
              go_region_held3 (fun w' => FrW w1 w' ∧ w'.cell? ⟨bX, oX + jp, none⟩ = some (.slice PA pn pc) ∧ w'.cell? ⟨kb, 3, none⟩ = some (.slice DA dn dc))
                (((try go_split_ands); refine FrW.two ?_ hbX1 gx1 hkb1 hk3; first | exact FrW.drew (FrW.here _) | exact FrW.drew ‹_› | exact FrW.of ‹_› hb2 | fail))
                ((first | (go_at_call 129; (try go_split_ands); refine (kAp _ (hP1.of (FrW.below ‹_›)) (hD1.of (FrW.below ‹_›))).mono ?_; rintro e2 w2 ⟨A2, n2, c2, rfl, hN2, hn2, hb2⟩) | fail))
              (try go_split_ands)
              have hf2 : Below w1.heap.size w1 w2 := FrW.below ‹_›
              have hl2 := hf2.size
              have hB2 : Below w.heap.size w w2 := below_thru hB1 hf2
              have hBe2 : Below we.heap.size we w2 := below_thru hBe1 hf2
              have ⟨_, k0, k1, k2, k3⟩ := hq1.of hf2
              go_wp2_with fail
              go_ret2
              exact ⟨none, 0, 0, ret_pbT HB.out.symm, by rw [HP.out]; exact OwnX.nil_, hB2⟩
    · obtain rfl : j = n := by omega
      have dj : decide ((j : Int) < j) = false := decide_eq_false (by omega)
      have dj' : decide (j < j) = false := decide_eq_false (by omega)
      have HB := tlB_all (key := (K : Int)) (K := K) rfl hk hFl.out (by omega) hok.out
      have HP := Lib.hid (show tlP (K : Int) fs = patL fs j by unfold tlP; rw [if_pos HB, hFl.out])
      replace HB := Lib.hid HB
      have ⟨_, a0, a1⟩ := hbx.of hb
      go_wp2_with fail
      go_ret2
      exact ⟨E, j, q, ret_pbT HB.out.symm, by rw [HP.out]; exact hX.more (by omega), by (repeat' (first | exact Below.refl _ _ | assumption | (refine Below.alloc ?_ ?_ _) | (refine Below.setCell ?_ ?_ _) | (refine Below.drew ?_) | (refine below_drewN ?_ _) | (refine below_after (Ext.below _) ?_ ?_) | (refine below_after (by assumption) ?_ ?_) | (simp; done) | omega | (simp; omega)))⟩
end Go.Proofs.YtmenokhnanghgaaGreat
end
section
namespace Go.Proofs.YtmenokhnanghgaaGreat
open Go Go.RowKit
set_option maxRecDepth 100000
theorem tl_Right (key : Int) (A : Option Addr) (n c : Nat) (fs : List TFr) (w : World) (hF : RdX ekFr w A n fs) (hsm : SmT fs) :
    Calls Tryz.prog 67 #[.agg #[.int .i64 key, .slice A n c]] w fun e w' => e = .returned (.bool (tlB key fs)) ∧ Below w.heap.size w w' := by
  go_enter Tryz.func67, Tryz.ntmps67
  go_wp2_with fail
  have hbx := DuAt.new w (.int .i64 key) (.slice A n c) 54
  have hbe : Below w.heap.size w (w.alloc (.cells #[.int .i64 key, .slice A n c] 54)) := (Below.refl _ _).alloc (Nat.le_refl _) _
  obtain ⟨we, hwe⟩ : ∃ we, we = w.alloc (.cells #[.int .i64 key, .slice A n c] 54) := ⟨_, rfl⟩
  have hsw : we.heap.size = w.heap.size + 1 := by rw [hwe]; simp
  rw [← hwe] at hbx hbe ⊢
  clear hwe
  replace hF := hF.of hbe
  have ⟨_, a0, a1⟩ := hbx
  go_at_call 106
  refine (tl_patterns key A n c fs _ hF hsm).mono ?_
  rintro e1 w1 ⟨B, m, d, rfl, hX, hb1⟩
  have hfin := below_thru hbe hb1
  go_wp2_with fail
  go_ret
  exact ⟨rfl, hfin⟩
theorem ref54_Right (key : Int) (A : Option Addr) (n c : Nat) (fs : List TFr) (w : World) (hF : RdX ekFr w A n fs) (hsm : SmT fs) :
    Calls Tryz.prog 69 #[.agg #[.int .i64 key, .slice A n c]] w fun e w' => e = .returned (.bool (tlB key fs)) ∧ Below w.heap.size w w' := by
  go_enter Tryz.func69, Tryz.ntmps69
  go_wp2_with fail
  have hbx := DuAt.new w (.int .i64 key) (.slice A n c) 54
  have hbe : Below w.heap.size w (w.alloc (.cells #[.int .i64 key, .slice A n c] 54)) := (Below.refl _ _).alloc (Nat.le_refl _) _
  obtain ⟨we, hwe⟩ : ∃ we, we = w.alloc (.cells #[.int .i64 key, .slice A n c] 54) := ⟨_, rfl⟩
  have hsw : we.heap.size = w.heap.size + 1 := by rw [hwe]; simp
  rw [← hwe] at hbx hbe ⊢
  clear hwe
  replace hF := hF.of hbe
  have ⟨_, a0, a1⟩ := hbx
  go_at_call 108
  refine (ref54_Patterns key A n c fs _ hF hsm).mono ?_
  rintro e1 w1 ⟨B, m, d, rfl, hX, hb1⟩
  have hfin := below_thru hbe hb1
  go_wp2_with fail
  go_ret
  exact ⟨rfl, hfin⟩
end Go.Proofs.YtmenokhnanghgaaGreat
end
