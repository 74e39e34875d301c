/- The contract of island.Parts. -/
import Derived.Test.YtenckggfgbkfnaaIsl2
import Derived.Test.YtenckggfgbkfnaaPLN
import Derived.Test.YtenckggfgbkfnaaMapP
import Derived.Test.YtenckggfgbkfnaaSortA
import Derived.Test.YtenckggfgbkfnaaMEM
import Derived.Maps.RangeWalk
import Derived.WalkMore
import Derived.Outline
namespace Go.Proofs.Ytenckggfgbkfnaa
open Go Go.RowKit
set_option linter.unusedSimpArgs false
set_option linter.unusedVariables false
set_option maxRecDepth 100000
attribute [local go_sem ↓ high] eq_cl neq_cl eq_pt neq_pt
theorem Rd.at3 {w : World} {b o n : Nat} {l : List (Int × Int × Int)} (h : Rd encC 3 w (some ⟨b, o, none⟩) n l) {m : Nat} {x y s : Int} (hm : l[m]? = some (x, y, s)) : b < w.heap.size ∧ w.cell? ⟨b, o + m * 3, none⟩ = some (.int .i64 x) ∧ w.cell? ⟨b, o + m * 3 + 1, none⟩ = some (.int .i64 y) ∧ w.cell? ⟨b, o + m * 3 + 2, none⟩ = some (.int .i64 s) := by
  obtain ⟨b', o', e, hb, hc⟩ := h.2 (by rw [← h.1]; exact Nat.lt_of_le_of_lt (Nat.zero_le _) (lt_of_some hm))
  injection e with e
  injection e with e1 e2
  subst e1 e2
  exact ⟨hb, by simpa using hc m _ hm 0 _ rfl, hc m _ hm 1 _ rfl, hc m _ hm 2 _ rfl⟩
theorem pt_I64 {x y : Int} (h : Pt x y) : I64 x ∧ I64 y := by unfold Pt at h; unfold I64; omega
theorem bel_map {B b : Nat} {w0 w w' : World} (h : Below B w0 w) (hg : w.grownBy w' (some b)) (hw : B ≤ w.heap.size) (hB : B ≤ b) : Below B w0 w' :=
  h.grown hg hw fun g e => by injection e with e; omega
theorem Own.over {α : Type} {enc : α → List Value} {k : Nat} {e : TypeId} {B b n c : Nat} {w w' : World} {A : Option Addr} {l : List α} (h : Own enc k e B w A n c l) (hg : w.grownBy w' (some b)) (hb : b < B) : Own enc k e B w' A n c l := by
  refine ⟨⟨h.row.1, ?_⟩, h.len⟩
  rcases h.row.2 with h0 | ⟨g, cap, cur, hv, hge, hh, r⟩
  · exact .inl h0
  · exact .inr ⟨g, cap, cur, hv, hge, (hg.block g (Array.getElem?_eq_some_iff.1 hh).1 (fun e => by injection e with e; omega)).trans hh, r⟩
/-- Patterns that lie from block B0 on. -/
def ekB (B0 : Nat) : EK (Option Addr × Nat × Nat) (List (Int × Int × Int)) where
  enc := encH
  k := 1
  len := encH_len
  one := encH_one
  pos := by omega
  rel w h l := (Rd encC 3 w h.1 h.2.1 l ∧ h.2.1 ≤ h.2.2) ∧ ∀ q ∈ blkH h, B0 ≤ q
  blk := blkH
  keep h hg hr := ⟨⟨h.1.1.grown hg hr, h.1.2⟩, h.2⟩
  lt h := h.1.1.blk_lt
theorem OwnX.ofB {B0 : Nat} {e : TypeId} {B n c : Nat} {w : World} {A : Option Addr} {bs : List (List (Int × Int × Int))} (h : OwnX (ekB B0) e B w A n c bs) : OwnX ekC e B w A n c bs := by
  obtain ⟨us, h1, h2, h3⟩ := h
  exact ⟨us, h1, ⟨h2.1, fun i a b ha hb => (h2.2 i a b ha hb).1⟩, h3⟩
theorem OwnX.over {B0 : Nat} {e : TypeId} {B n c b : Nat} {w w' : World} {A : Option Addr} {bs : List (List (Int × Int × Int))} (h : OwnX (ekB B0) e B w A n c bs) (hg : w.grownBy w' (some b)) (hb : b < B) (hb0 : b < B0) : OwnX (ekB B0) e B w' A n c bs := by
  obtain ⟨us, h1, h2, h3⟩ := h
  refine ⟨us, h1.over hg hb, h2.keep hg fun a ha q hq => ?_, h3⟩
  obtain ⟨i, hi, e1⟩ := List.getElem_of_mem ha
  have hib : i < bs.length := by rw [← h2.1]; exact hi
  have := (h2.2 i a bs[i] (by rw [List.getElem?_eq_getElem hi, e1]) (List.getElem?_eq_getElem hib)).2 q hq
  intro e2; injection e2 with e2; omega
theorem Own.ge {α : Type} {enc : α → List Value} {k : Nat} {e : TypeId} {B n c : Nat} {w : World} {A : Option Addr} {l : List α} (h : Own enc k e B w A n c l) : ∀ q ∈ blkH (A, n, c), B ≤ q := by
  intro q hq
  unfold blkH at hq
  split at hq
  · cases hq
  · cases A with
    | none => simp at hq
    | some a =>
      simp at hq
      rcases h.row.2 with ⟨h0, _⟩ | ⟨g, cap, cur, hv, hg, _⟩
      · cases h0
      · injection hv with hA _ _
        injection hA with hA
        subst hA
        simp only at hq
        omega
/-- The state of the flood: the part, what is left, what has turned. -/
structure FlSt (w wo : World) (e : TypeId) (bm n : Nat) (l : List (Int × Int × Int)) (d : Int) (i : Nat) (P : Option Addr) (q u : Nat) (Q : List Nat) (wq : World) : Prop where
  own : Own encC 3 e wo.heap.size wq P q u (cellsQ l Q)
  map : PM bm n (leftF l d i Q) wq
  gr : wo.grownBy wq (some bm)
  bel : Below w.heap.size w wq
section
variable {w wo wq w5 w6 w7 : World} {e : TypeId} {bm n : Nat} {l : List (Int × Int × Int)} {d : Int} {i : Nat} {P : Option Addr} {q u : Nat} {Q : List Nat}
theorem FlSt.of (h : FlSt w wo e bm n l d i P q u Q wq) (hw : w.heap.size ≤ wq.heap.size) (hb : Below wq.heap.size wq w5) : FlSt w wo e bm n l d i P q u Q w5 :=
  ⟨h.own.of hb, h.map.of hb, h.gr.andThen (below_grownBy hb) (fun j hj => by cases hj), below_after hb h.bel hw⟩
end
theorem OwnX.ge {α β : Type} {K : EK α β} {e : TypeId} {B n c : Nat} {w : World} {A : Option Addr} {bs : List β} (h : OwnX K e B w A n c bs) : ∀ q, (Value.slice A n c).ownBlock = some q → B ≤ q := by
  obtain ⟨us, h1, _, _⟩ := h
  exact fun q hq => (h1.row.lt q hq).1
theorem gr_below {wo wr w8 : World} {row : Option Nat} (h : wo.grownBy wr row) (hb : Below wo.heap.size wr w8) : wo.grownBy w8 row := by
  have hw : wr.heap.size ≤ w8.heap.size := hb.size
  exact ⟨hb.os.trans h.os, hb.tape.trans h.tape, hb.output.trans h.output, Nat.le_trans h.size hw, fun i hi hr => (hb.block i hi).trans (h.block i hi hr)⟩
theorem PM.below {b n B : Nat} {f : Int → Int → Option Int} {w w' : World} (h : PM b n f w) (hb : Below B w w') (hlt : b < B) : PM b n f w' := by
  obtain ⟨D, ⟨es, clock, h0, F, hs, hD⟩, h2⟩ := h
  exact ⟨D, ⟨es, clock, (hb.block b hlt).trans h0, F, hs, hD⟩, h2⟩
theorem putF_eq2 (f : Int → Int → Option Int) (x y v : Int) : putF f x y v = putF2 f x y v := rfl
theorem delF_eq2 (f : Int → Int → Option Int) (x y : Int) : delF f x y = delF2 f x y := rfl
theorem part_at {l : List (Int × Int × Int)} {d : Int} {i k : Nat} {Q : List Nat} {y x : Int} (h : FloodX l d i Q k y x) : ∃ q ax ay us, Q[k]? = some q ∧ l[q]? = some (ax, ay, us) ∧ (cellsQ l Q)[k]? = some (ax, ay, us) := by
  obtain ⟨q, a, h1, h2, _⟩ := h.at_
  exact ⟨q, a.1, a.2.1, a.2.2, h1, h2, cellsQ_at h1 h2⟩
set_option maxHeartbeats 16000000 in
theorem isl_Parts (A : Option Addr) (n c : Nat) (l : List (Int × Int × Int)) (d : Int) (w : World) (hR : Rd encC 3 w A n l) (hn : n ≤ 1000000) :
    Calls Try.prog 9 #[.slice A n c, .int .i64 d] w fun e w' => ∃ A2 n2 c2, e = .returned (.tuple #[.slice A2 n2 c2, .int .i64 (prtsE l d)]) ∧ RdX ekC w' A2 n2 (prtsL l d) ∧ n2 ≤ n ∧ Below w.heap.size w w' := by
  by_cases hgood : rightC l = true ∧ 1 ≤ d ∧ d ≤ 8
  case neg =>
    have HE := Lib.hid (prtsE_bad hgood)
    have hways := prts_ways hgood
    clear hgood
    rcases hways with hr | ⟨hr, d1⟩ | ⟨hr, d1, d2⟩
    all_goals
      have kR := fun w1 (h : Rd encC 3 w1 A n l) => pat_RightV (A := A) (n := n) (c := c) hr w1 h (by omega)
      clear hr
      go_enter Try.func9, Try.ntmps9
      go_wp2_with fail
      go_step3
      go_wp2_with fail; go_at_call 19; refine (kR _ hR).mono ?_; rintro e w1 ⟨rfl, hb1⟩; have hs1 := hb1.size; (try simp only [World.size_alloc, World.size_drew, World.size_setCell] at hs1)
      go_wp2_with fail
      (try rw [Exit.noGoto_ret])
      go_ret2
      exact ⟨none, 0, 0, ret_pe HE.out.1.symm, by rw [HE.out.2]; exact RdX.nil_, by omega, by (repeat' (first | exact Below.refl _ _ | assumption | (refine Below.alloc ?_ ?_ _) | (refine Below.setCell ?_ ?_ _) | (refine Below.drew ?_) | (refine below_drewN ?_ _) | (refine below_after (Ext.below _) ?_ ?_) | (refine below_after (by assumption) ?_ ?_) | (simp; done) | omega | (simp; omega)))⟩
  case pos =>
    have HE := Lib.hid (prtsE_ok hgood)
    have hlen := Lib.hid hR.len
    have hss := Lib.hid (rightC_sorted hgood.1)
    have hel := Lib.hid (fun (i : Nat) x y s (h : l[i]? = some (x, y, s)) => rightC_elem hgood.1 h)
    have kR := fun w1 (h : Rd encC 3 w1 A n l) => pat_RightV (A := A) (n := n) (c := c) hgood.1 w1 h (by omega)
    have d1 : decide (d < 1) = false := decide_eq_false (by omega)
    have d2 : decide (8 < d) = false := decide_eq_false (by omega)
    obtain ⟨b1, b2⟩ := hgood.2
    clear hgood
    go_enter Try.func9, Try.ntmps9
    go_wp2_with fail
    go_step3
    go_wp2_with fail; go_at_call 19; refine (kR _ hR).mono ?_; rintro e w1 ⟨rfl, hb1⟩; have hs1 := hb1.size; (try simp only [World.size_alloc, World.size_drew, World.size_setCell] at hs1)
    clear kR
    go_wp2_with fail
    clear d1 d2
    rw [run_makeMap]
    have hpm0 := PM.made w1
    have hB0 : Below w.heap.size w (w1.alloc (.map #[] 0)) := by (repeat' (first | exact Below.refl _ _ | assumption | (refine Below.alloc ?_ ?_ _) | (refine Below.setCell ?_ ?_ _) | (refine Below.drew ?_) | (refine below_drewN ?_ _) | (refine below_after (Ext.below _) ?_ ?_) | (refine below_after (by assumption) ?_ ?_) | (simp; done) | omega | (simp; omega)))
    have hs1' : w.heap.size ≤ w1.heap.size := hb1.size
    clear hb1 hs1
    go_wp2
    go_loopw [35] (fun t wr => ∃ (j : Nat), t = .int .i64 j ∧ j ≤ n ∧ PM w1.heap.size j (idxF l j) wr ∧ Below w.heap.size w wr) (fun t _ => n - (intOf t).toNat)
    case atStart => exact ⟨0, rfl, by omega, by rw [idxF_start]; exact hpm0, hB0⟩
    case round =>
      clear hpm0 hB0
      obtain ⟨j, rfl, hj, hpm, hb⟩ := hrel
      have hbm := hpm.lt
      have hs := hb.size
      by_cases hlt : j < n
      · have dj : decide ((j : Int) < n) = true := decide_eq_true (by omega)
        obtain ⟨x', y', s', bo, o, hx, rfl, hbl, g1, g2, g3⟩ := (hR.of hb).cell hlt
        have hpt := pt_I64 (hel.out _ _ _ _ hx.out).1
        have ij : I64 (j : Int) := by unfold I64; omega
        obtain ⟨ix, iy⟩ := hpt
        have hst := Lib.hid ((putF_eq2 _ _ _ _).trans (idxF_put hss.out hx.out))
        go_wp2_with (first | (at_mapUpdate; refine wpList_pm_put rfl _ _ _ _ rfl Try.underlying44 w1.heap.size j (idxF l j) rfl (hpm.alloc _) (by omega) x' y' (j : Int) ix iy ij rfl rfl ?_; intro w6 hpm6 hg6))
        have hb6 : Below w.heap.size w w6 := bel_map (by (repeat' (first | exact Below.refl _ _ | assumption | (refine Below.alloc ?_ ?_ _) | (refine Below.setCell ?_ ?_ _) | (refine Below.drew ?_) | (refine below_drewN ?_ _) | (refine below_after (Ext.below _) ?_ ?_) | (refine below_after (by assumption) ?_ ?_) | (simp; done) | omega | (simp; omega)))) hg6 (by simp; omega) (by omega)
        go_roundw
        case rel => exact ⟨j + 1, by go_num, by omega, by rw [← hst.out]; exact hpm6, hb6⟩
        case measure => simp [intOf]; omega
      · obtain rfl : j = n := by omega
        have dj : decide ((j : Int) < j) = false := decide_eq_false (by omega)
        rw [idxF_end (d := d) hlen.out] at hpm
        obtain ⟨we, rfl⟩ : ∃ we : World, we = wr := ⟨_, rfl⟩
        clear hlt hj
        go_wp2_with fail
        go_step3
        go_wp2
        go_loopw [9, 50] (fun v t wr => ∃ (E : Option Addr) (m s i : Nat), v = .slice E m s ∧ t = .int .i64 i ∧ i ≤ j ∧ m ≤ i ∧ OwnX (ekB we.heap.size) 23 we.heap.size wr E m s (prtsN l d i) ∧ PM w1.heap.size j (leftF l d i []) wr ∧ Below w.heap.size w wr ∧ we.heap.size ≤ wr.heap.size) (fun _ t _ => j - (intOf t).toNat)
        case atStart => exact ⟨none, 0, 0, 0, rfl, rfl, by omega, by omega, OwnX.nil_, hpm, hb, Nat.le_refl _⟩
        case round =>
          clear hpm hb
          obtain ⟨E, m, s, i, rfl, rfl, hi, hm, hX, hpm, hb, hsw⟩ := hrel
          have hbmr := hpm.lt
          have hsr := hb.size
          by_cases hli : i < j
          · have di : decide ((i : Int) < j) = true := decide_eq_true (by omega)
            obtain ⟨x', y', s', bo, o, hx, rfl, hbl, g1, g2, g3⟩ := (hR.of hb).cell hli
            obtain ⟨ix, iy⟩ := pt_I64 (hel.out _ _ _ _ hx.out).1
            have hlf := leftF_at (d := d) (i := i) (Q := []) hss.out hx.out
            have hil : i < l.length := by rw [hlen.out]; exact hli
            by_cases hg : gpI l d i = i
            case neg =>
              have hp := Lib.hid (show leftF l d i [] x' y' = none by rw [hlf, if_neg (by have := gpI_le (d := d) hil; omega)])
              have hnx := Lib.hid (leftF_next hg)
              have HN := Lib.hid (show prtsN l d (i + 1) = prtsN l d i by rw [prtsN_step, if_neg hg]; simp)
              clear hlf hg
              go_wp2_with (first | (at_lookup; refine wpList_pm_ok rfl _ _ _ rfl Try.underlying44 w1.heap.size j (leftF l d i []) rfl (hpm.alloc _) x' y' ix iy rfl none hp.out ?_))
              go_roundw
              case rel => exact ⟨E, m, s, i + 1, rfl, by go_num, by omega, by omega, by rw [HN.out]; exact hX.alloc _, by rw [hnx.out]; exact hpm.alloc _, (by (repeat' (first | exact Below.refl _ _ | assumption | (refine Below.alloc ?_ ?_ _) | (refine Below.setCell ?_ ?_ _) | (refine Below.drew ?_) | (refine below_drewN ?_ _) | (refine below_after (Ext.below _) ?_ ?_) | (refine below_after (by assumption) ?_ ?_) | (simp; done) | omega | (simp; omega)))), by simp; omega⟩
              case measure => simp [intOf]; omega
            case pos =>
              have hp := Lib.hid (show leftF l d i [] x' y' = some (i : Int) by rw [hlf, if_pos ⟨by omega, by simp⟩])
              have hdl := Lib.hid ((delF_eq2 _ _ _).trans (leftF_del (d := d) (i := i) (Q := []) hss.out hx.out))
              have HN := Lib.hid (show prtsN l d (i + 1) = prtsN l d i ++ [prt l d i] by rw [prtsN_step, if_pos hg])
              have hF0 := Lib.hid (Flood.start hil hg)
              have hc1 := Lib.hid (show cellsQ l [i] = [(x', y', s')] by unfold cellsQ; simp [hx.out])
              clear hlf hg
              obtain ⟨wo, rfl⟩ : ∃ wo : World, wo = wr := ⟨_, rfl⟩
              go_wp2_with (first | (at_lookup; refine wpList_pm_ok rfl _ _ _ rfl Try.underlying44 w1.heap.size j (leftF l d i []) rfl (hpm.alloc _) x' y' ix iy rfl (some (i : Int)) hp.out ?_) | (at_delete; refine wpList_pm_del rfl _ _ _ rfl Try.underlying44 w1.heap.size j (leftF l d i []) rfl (hpm.alloc _) x' y' ix iy rfl ?_; intro w6 hpm6 hg6; have hb6 : Below w.heap.size w w6 := bel_map (by (repeat' (first | exact Below.refl _ _ | assumption | (refine Below.alloc ?_ ?_ _) | (refine Below.setCell ?_ ?_ _) | (refine Below.drew ?_) | (refine below_drewN ?_ _) | (refine below_after (Ext.below _) ?_ ?_) | (refine below_after (by assumption) ?_ ?_) | (simp; done) | omega | (simp; omega)))) hg6 (by simp; omega) (by omega); obtain ⟨k0, k1, k2, k3⟩ := (hR.of hb6).at3 hx.out; have hs6 := hg6.size; (try simp only [World.size_alloc] at hs6)))
              have hgo : wo.grownBy w6 (some w1.heap.size) := ((World.grownBy_alloc wo _ none).but _).andThen hg6 (fun q hq => by injection hq with hq; exact .inr (by rw [hq]))
              have hO0 := Own.lit encC_len w6 39 wo.heap.size (by omega) [(x', y', s')] 1 rfl (by omega) [.int .i64 x', .int .i64 y', .int .i64 s'] rfl
              have hS0 : FlSt w wo 39 w1.heap.size j l d i (some ⟨w6.heap.size, 0, none⟩) 1 1 [i] (w6.alloc (.cells #[.int .i64 x', .int .i64 y', .int .i64 s'] 39)) :=
                ⟨by rw [hc1.out]; exact hO0, by rw [hdl.out] at hpm6; exact hpm6.alloc _, hgo.andThen (World.grownBy_alloc w6 _ none) (fun q hq => by cases hq), (by (repeat' (first | exact Below.refl _ _ | assumption | (refine Below.alloc ?_ ?_ _) | (refine Below.setCell ?_ ?_ _) | (refine Below.drew ?_) | (refine below_drewN ?_ _) | (refine below_after (Ext.below _) ?_ ?_) | (refine below_after (by assumption) ?_ ?_) | (simp; done) | omega | (simp; omega))))⟩
              clear hO0 hpm6 hg6 hgo hb6 k0 k1 k2 k3 hc1 hdl hp
              go_loopw [14, 15] (fun v t wr => ∃ (P : Option Addr) (q u k : Nat) (Q : List Nat), v = .slice P q u ∧ t = .int .i64 k ∧ k ≤ q ∧ q = Q.length ∧ FlSt w wo 39 w1.heap.size j l d i P q u Q wr ∧ Hid (Flood l d i Q k)) (fun _ t _ => j - (intOf t).toNat)
              case atStart => exact ⟨_, 1, 1, 0, [i], rfl, rfl, by omega, rfl, hS0, hF0⟩
              case round =>
                clear hS0 hF0 hs6
                obtain ⟨P, q, u, k, Q, rfl, rfl, hk, hq, hS, hF⟩ := hrel
                have hqn : q ≤ j := by rw [hq, ← hlen.out]; exact hF.out.len
                have hQ := Lib.hid hq
                by_cases hlk : k < q
                · have dk : decide ((k : Int) < q) = true := decide_eq_true (by omega)
                  have hX0 := Lib.hid (hF.out.enter (by rw [← hq]; exact hlk))
                  clear hq hF
                  go_wp2
                  go_loopw [14, 16] (fun v t wr => ∃ (P : Option Addr) (q u : Nat) (Q : List Nat) (y : Int), v = .slice P q u ∧ t = .int .i64 y ∧ -d ≤ y ∧ y ≤ d + 1 ∧ k < q ∧ Hid (q = Q.length) ∧ FlSt w wo 39 w1.heap.size j l d i P q u Q wr ∧ Hid (FloodX l d i Q k y (-d))) (fun _ t _ => (d + 1 - intOf t).toNat)
                  case atStart => exact ⟨P, q, u, Q, -d, rfl, rfl, by omega, by omega, hlk, hQ, hS, hX0⟩
                  case round =>
                    clear hS hX0 hQ hqn dk
                    obtain ⟨P, q, u, Q, y, rfl, rfl, y1, y2, hkq, hQ, hS, hX0⟩ := hrel
                    have hqn : q ≤ j := by rw [hQ.out, ← hlen.out]; exact hX0.out.1.len
                    by_cases hly : y ≤ d
                    · have dy : decide (y ≤ d) = true := decide_eq_true hly
                      go_wp2
                      go_loopw [14, 17] (fun v t wr => ∃ (P : Option Addr) (q u : Nat) (Q : List Nat) (x : Int), v = .slice P q u ∧ t = .int .i64 x ∧ -d ≤ x ∧ x ≤ d + 1 ∧ k < q ∧ Hid (q = Q.length) ∧ FlSt w wo 39 w1.heap.size j l d i P q u Q wr ∧ Hid (FloodX l d i Q k y x)) (fun _ t _ => (d + 1 - intOf t).toNat)
                      case atStart => exact ⟨P, q, u, Q, -d, rfl, rfl, by omega, by omega, hkq, hQ, hS, hX0⟩
                      case round =>
                        clear hS hX0 hQ hqn hkq
                        obtain ⟨P, q, u, Q, x, rfl, rfl, x1, x2, hkq, hQ, hS, hX0⟩ := hrel
                        have hqn : q ≤ j := by rw [hQ.out, ← hlen.out]; exact hX0.out.1.len
                        have hSb := hS.bel
                        have hsS := hSb.size
                        have hbmS := hS.map.lt
                        have hgs := hS.gr.size
                        by_cases hlx : x ≤ d
                        · have dx : decide (x ≤ d) = true := decide_eq_true hlx
                          obtain ⟨r, ax, ay, us, hr1, hr2, hr3⟩ := part_at hX0.out
                          obtain ⟨e0, e1, e2, ge, oe, hr3', rfl, hge, f1, f2, f3⟩ := (hS.own.rd encC_len).cell hkq
                          have hr3'' := hr3'.out
                          rw [hr3] at hr3''
                          injection hr3'' with hr3''
                          injection hr3'' with q0 q1
                          injection q1 with q1 q2
                          subst q0 q1 q2
                          have hpa := (hel.out _ _ _ _ hr2).1
                          unfold Pt at hpa
                          obtain ⟨v1, hv1⟩ : ∃ v1, v1 = ax + x := ⟨_, rfl⟩
                          obtain ⟨v2, hv2⟩ : ∃ v2, v2 = ay + y := ⟨_, rfl⟩
                          have ex2 : IntKind.i64.wrap (ax + x) = v1 := (IntWalk.i64_in _ (by omega)).trans hv1.symm
                          have ey2 : IntKind.i64.wrap (ay + y) = v2 := (IntWalk.i64_in _ (by omega)).trans hv2.symm
                          have iu : I64 v1 := by unfold I64; omega
                          have iv : I64 v2 := by unfold I64; omega
                          clear hpa hr3 hr3'
                          have i0 : (0 : Int) ≤ k := by omega
                          have i1 : (k : Int) < q := by omega
                          cases hp : leftF l d i Q v1 v2 with
                          | none =>
                            have hX' := Lib.hid (hX0.out.none_ hss.out hr1 hr2 (by rw [← hv1, ← hv2]; exact hp))
                            have hp := Lib.hid hp
                            clear hv1 hv2 hr1 hr2
                            go_wp2_with fail
                            (refine' wp_region_fresh1 [false, false, false, false, false, false, false, false, false, false, false, false, false, false, false, true, true] 15 16 18 112 46 (.agg #[.int .i64 0, .int .i64 0]) _ (fun u hu => ?hqh5) (by kernel_rfl) (by kernel_rfl) (by kernel_rfl) (by kernel_rfl) rfl rfl Try.zeroValue46 ?s1h5 ?s2h5 ?s3h5 ?s4h5 ?s5h5 ?s6h5 ?finh5; (case hqh5 => (obtain ⟨hcu, hfu⟩ := bcell hu; have hsu := hu.size; simp only [stripM, blankO]; (repeat (go_big_quiet_step (fail))); refine wpQuiet_nil ?_; rfl)); (case s1h5 => rfl); (case s2h5 => simp); (case s3h5 => rfl); (case s4h5 => kernel_rfl); (case s5h5 => rfl); (case s6h5 => simp [Value.oneCell']); intro bk5 w5 hbl5 hbh5 hb5 hh5; obtain ⟨hc5, hf5⟩ := bcell hb5; have hs5 := hb5.size; have hk5 := cellOf_row hh5; have hl5 := frozenOf_row hh5; clear hh5; (try simp only [World.size_alloc, World.size_setCell, World.size_drew] at hc5 hf5); (try simp at hs5 hbl5); simp only [Act.put, List.setIfInBounds_toArray, List.set_cons_zero, List.set_cons_succ])
                            have hS5 := hS.of hsS hb5
                            go_wp2_with (first | (at_lookup; refine wpList_pm_ok rfl _ _ _ rfl Try.underlying44 w1.heap.size j (leftF l d i Q) rfl hS5.map v1 v2 iu iv rfl none hp.out ?_))
                            go_roundw
                            case rel => exact ⟨_, q, u, Q, x + 1, rfl, rfl, by omega, by omega, hkq, hQ, hS5, hX'⟩
                            case measure => simp [intOf]; omega
                          | some v =>
                            obtain ⟨mm, sm, rfl, hm1, hm2, hm3⟩ := leftF_some hp
                            have hml := lt_of_some hm1
                            rw [hlen.out] at hml
                            have hX' := Lib.hid (hX0.out.some_ hss.out ⟨x1, hlx⟩ ⟨y1, hly⟩ hr1 hr2 (by rw [← hv1, ← hv2]; exact hm1) hm3)
                            have hdl := Lib.hid ((delF_eq2 _ _ _).trans (leftF_del (d := d) (i := i) (Q := Q) hss.out hm1))
                            have hcq := Lib.hid (show cellsQ l (Q ++ [mm]) = cellsQ l Q ++ [(v1, v2, sm)] by unfold cellsQ; simp [hm1])
                            have hp := Lib.hid hp
                            have hm1 := Lib.hid hm1
                            have hQ' := Lib.hid (show q + 1 = (Q ++ [mm]).length by rw [hQ.out]; simp)
                            clear hv1 hv2 hr1 hr2 hm2 hm3
                            go_wp2_with fail
                            (refine' wp_region_fresh1 [false, false, false, false, false, false, false, false, false, false, false, false, false, false, false, true, true] 15 16 18 112 46 (.agg #[.int .i64 0, .int .i64 0]) _ (fun u hu => ?hqh8) (by kernel_rfl) (by kernel_rfl) (by kernel_rfl) (by kernel_rfl) rfl rfl Try.zeroValue46 ?s1h8 ?s2h8 ?s3h8 ?s4h8 ?s5h8 ?s6h8 ?finh8; (case hqh8 => (obtain ⟨hcu, hfu⟩ := bcell hu; have hsu := hu.size; simp only [stripM, blankO]; (repeat (go_big_quiet_step (fail))); refine wpQuiet_nil ?_; rfl)); (case s1h8 => rfl); (case s2h8 => simp); (case s3h8 => rfl); (case s4h8 => kernel_rfl); (case s5h8 => rfl); (case s6h8 => simp [Value.oneCell']); intro bk8 w8 hbl8 hbh8 hb8 hh8; obtain ⟨hc8, hf8⟩ := bcell hb8; have hs8 := hb8.size; have hk8 := cellOf_row hh8; have hl8 := frozenOf_row hh8; clear hh8; (try simp only [World.size_alloc, World.size_setCell, World.size_drew] at hc8 hf8); (try simp at hs8 hbl8); simp only [Act.put, List.setIfInBounds_toArray, List.set_cons_zero, List.set_cons_succ])
                            have hS5 := hS.of hsS hb8
                            have m0 : (0 : Int) ≤ mm := by omega
                            have m1 : (mm : Int) < j := by omega
                            go_wp2_with (first | (at_lookup; refine wpList_pm_ok rfl _ _ _ rfl Try.underlying44 w1.heap.size j (leftF l d i Q) rfl hS5.map v1 v2 iu iv rfl (some (mm : Int)) hp.out ?_) | (at_delete; refine wpList_pm_del rfl _ _ _ rfl Try.underlying44 w1.heap.size j (leftF l d i Q) rfl hS5.map v1 v2 iu iv rfl ?_; intro w6 hpm6 hg6; have hb6 : Below w.heap.size w w6 := bel_map hS5.bel hg6 (by omega) (by omega); obtain ⟨k0, k1, k2, k3⟩ := (hR.of hb6).at3 hm1.out; have hs6 := hg6.size; have hown6 := hS5.own.over hg6 (by omega)) | (at_builtin; refine wpList_append_el rfl (.tmp 122) (.tmp 127) 23 rfl encC 3 39 (.agg #[.int .i64 0, .int .i64 0, .int .i64 0]) 24 Try.underlying23 (by kernel_rfl) rfl (by decide) encC_len encC_one (wo.heap.size) _ _ _ _ rfl (hown6.alloc _) (v1, v2, sm) ⟨(w6).heap.size, 0, none⟩ 1 rfl (cells_new (w6) _ _) (by omega) (by omega) (by first | omega | (simp; done) | (simp; omega)) ?_; intro A7 c7 w7 hown7 hg7 hb7; obtain ⟨hc7, hf7⟩ := bcell hb7; have hs7 := hb7.size; (try simp only [World.size_alloc, World.size_setCell, World.size_drew] at hc7 hf7); (try simp at hs7)))
                            have hgr6 := hS5.gr.andThen hg6 (fun q hq => by injection hq with hq; exact .inr (by rw [hq]))
                            have hgr7 := (hgr6.andThen (World.grownBy_alloc w6 _ none) (fun q hq => by cases hq)).andThen hg7 (fun q hq => .inl ((hown6.above q hq)))
                            have hpm7 := ((by rw [hdl.out] at hpm6; exact hpm6 : PM w1.heap.size j (leftF l d i (Q ++ [mm])) w6).alloc _).grown hg7 (fun e => by have := hown6.above _ e.symm; omega)
                            have hS7 : FlSt w wo 39 w1.heap.size j l d i A7 (q + 1) c7 (Q ++ [mm]) w7 := ⟨by rw [hcq.out]; exact hown7, hpm7, hgr7, below_after hb7 (hb6.alloc (by omega) _) (by omega)⟩
                            go_roundw
                            case rel => exact ⟨A7, q + 1, c7, Q ++ [mm], x + 1, rfl, rfl, by omega, by omega, by omega, hQ', hS7, hX'⟩
                            case measure => simp [intOf]; omega
                        · obtain rfl : x = d + 1 := by omega
                          have dx : decide (d + 1 ≤ d) = false := decide_eq_false (by omega)
                          have hX' := Lib.hid hX0.out.row
                          go_wp2_with fail
                          go_roundw
                          case rel => exact ⟨P, q, u, Q, y + 1, rfl, rfl, by omega, by omega, hkq, hQ, hS, hX'⟩
                          case measure => simp [intOf]; omega
                    · obtain rfl : y = d + 1 := by omega
                      have dy : decide (d + 1 ≤ d) = false := decide_eq_false (by omega)
                      have hX' := Lib.hid hX0.out.leave
                      go_wp2_with fail
                      go_roundw
                      case rel => exact ⟨P, q, u, k + 1, Q, rfl, by go_num, by omega, hQ.out, hS, hX'⟩
                      case measure => simp [intOf]; omega
                · obtain rfl : k = q := by omega
                  have dk : decide ((k : Int) < k) = false := decide_eq_false (by omega)
                  have hF' := Lib.hid (show Flood l d i Q Q.length by rw [← hq]; exact hF.out)
                  clear hq hF
                  have hgs := hS.gr.size
                  have hSb := hS.bel
                  have hXo := hX.over hS.gr (by omega) (by omega)
                  go_wp2_with fail
                  go_at_call 20
                  refine (isl_place_sort wo.heap.size _ _ _ _ _ hS.own (by omega) (by omega)).mono ?_
                  rintro e w8 ⟨rfl, l', hown8, hperm, hwc, hb8⟩
                  have hcap := own_cap hown8
                  have HL := Lib.hid (flood_sorted hss.out hF'.out hperm hwc)
                  have hlf := Lib.hid hF'.out.left
                  clear hperm hwc
                  have hX8 := hX.over (gr_below hS.gr hb8) (by omega) (by omega)
                  have hpm8 := hS.map.below hb8 (by omega)
                  have hB8 : Below w.heap.size w w8 := below_after hb8 hSb (by omega)
                  have hs8 := hb8.size
                  have hHN := Lib.hid (show prtsN l d (i + 1) = prtsN l d i ++ [l'] by rw [HN.out, HL.out])
                  rw [hlf.out] at hpm8
                  clear hXo hS hb8 HN
                  go_wp2_with (first | (at_builtin; refine wpList_append_x (K := (ekB we.heap.size)) rfl (.tmp 131) (.tmp 133) 25 rfl 23 (.slice none 0 0) 24 Try.underlying25 (by kernel_rfl) rfl (we.heap.size) _ _ _ _ rfl (hX8.alloc _) (P, k, u) _ (⟨⟨(hown8.rd encC_len).of (by (repeat' (first | exact Below.refl _ _ | assumption | (refine Below.alloc ?_ ?_ _) | (refine Below.setCell ?_ ?_ _) | (refine Below.drew ?_) | (refine below_drewN ?_ _) | (refine below_after (Ext.below _) ?_ ?_) | (refine below_after (by assumption) ?_ ?_) | (simp; done) | omega | (simp; omega)))), hcap⟩, fun q' hq' => Nat.le_trans hsw (hown8.ge q' hq')⟩) (hown8.off (fun q' hq' => hX.lt q' hq')) ⟨(w8).heap.size, 0, none⟩ 1 rfl (cells_new (w8) (encH (P, k, u)) 23) (by omega) (by omega) (by first | omega | (simp; done) | (simp; omega)) ?_; intro A9 c9 w9 hown9 hg9 hb9; obtain ⟨hc9, hf9⟩ := bcell hb9; have hs9 := hb9.size; (try simp only [World.size_alloc, World.size_setCell, World.size_drew] at hc9 hf9); (try simp at hs9)))
                  have hpm9 := (hpm8.alloc _).grown hg9 (fun e => by have := hX8.ge _ e.symm; omega)
                  go_roundw
                  case rel => exact ⟨A9, m + 1, c9, i + 1, rfl, by go_num, by omega, by omega, by rw [hHN.out]; exact hown9, hpm9, below_after hb9 (hB8.alloc (by omega) _) (by omega), by omega⟩
                  case measure => simp [intOf]; omega
          · obtain rfl : i = j := by omega
            have di : decide ((i : Int) < i) = false := decide_eq_false (by omega)
            go_wp2_with fail
            (try rw [Exit.noGoto_ret])
            go_ret2
            exact ⟨E, m, s, ret_pe HE.out.1.symm, by rw [HE.out.2, hlen.out]; exact hX.ofB.rd, by omega, hb⟩
end Go.Proofs.Ytenckggfgbkfnaa
