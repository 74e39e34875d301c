/- gridstep.run's iterator at a torus of 32 by 32. -/
import Derived.Test.YtellglbmbocgkaaGreatDoorTorC
import Derived.Test.YtellglbmbocgkaaGreatDoorTorR
import Derived.Test.YtellglbmbocgkaaGreatDoorDIR
import Derived.RangeFuncNested
import Derived.RangeFuncBound
import Derived.RangeFuncCalls
import Derived.Shelf.Abstract
import Derived.Shelf.RegionOpen
import Derived.WalkKit
import Derived.OwnWalkIn
import Derived.TacticsInMore
import Derived.LoopNIn
import Derived.LoopIn
namespace Go.Proofs.YtellglbmbocgkaaGreatDoor
open Go Go.RowKit Go.Shelf
set_option linter.unusedSimpArgs false
set_option linter.unusedVariables false
set_option maxRecDepth 100000
set_option linter.unusedSimpArgs false
set_option linter.unusedVariables false
attribute [local go_sem] Oper.semAt_some
/-- What round k hands to the body. -/
def TkG (bg : Nat) (H : List (Int × Int)) (N : List (Int × List Int)) (g : List Int) (k : Nat) (W : World) (vs : Array Value) : Prop := ∃ G c, vs = #[.int .i64 (k : Int), .agg #[.int .i64 32, .int .i64 32, .int .i64 1, .slice G 1024 c]] ∧ BxW W bg [.int .i64 32, .int .i64 32, .int .i64 1, .slice G 1024 c] ∧ Rd encI 1 W G 1024 (itG H N g k)
theorem gb_set {W0 W : World} {bg i : Nat} {v : Value} (h : W0.grownBy W (some bg)) : W0.grownBy (W.setCell ⟨bg, i, none⟩ v) (some bg) := gb_trans h (grownBy_set W bg i v)
theorem BxW.put4 {w : World} {b : Nat} {v0 v1 v2 v3 u0 u1 u2 u3 : Value} (h : BxW w b [v0, v1, v2, v3]) : BxW ((((w.setCell ⟨b, 0, none⟩ u0).setCell ⟨b, 1, none⟩ u1).setCell ⟨b, 2, none⟩ u2).setCell ⟨b, 3, none⟩ u3) b [u0, u1, u2, u3] :=
  (((h.put 0 u0 (by simp)).put 1 u1 (by simp)).put 2 u2 (by simp)).put 3 u3 (by simp)
set_option maxHeartbeats 4000000 in
theorem run1_in (nn bt bg : Nat) (st : Int) (A B : Option Addr) (n cc m d : Nat) (H : List (Int × Int)) (N : List (Int × List Int)) (g : List Int) (w W0 : World) (hH : Rd encP 2 w A n H) (hN : RdX ekN w B m N) (hr : trR st H N = true) (hg : OkG st g)
    (hbw : Below w.heap.size w W0) (htr : TrAt W0 bt (.int .i64 st) (.slice A n cc) (.slice B m d)) (hwb : w.heap.size ≤ bg) (hbg : bg < W0.heap.size) (hne : bt ≠ bg) (h0 : ∃ vs, TkG bg H N g 0 W0 vs) (hnn : nn ≤ 100) (l : Nat) (Z : World → Prop)
    (hY : ∀ k W vs, k ≤ nn → W0.grownBy W (some bg) → TkG bg H N g k W vs → YieldAt Fence.wide 1 Tryz.prog l vs W fun e W' => (k < nn ∧ e = .returned (.bool true) ∧ Below W.heap.size W W') ∨ (k = nn ∧ e = .returned (.bool false) ∧ Z W')) :
    CallsIn Fence.wide 2 Tryz.prog 89 #[.func (.yield l) #[] #[], .pointer (some ⟨bg, 0, none⟩), .pointer (some ⟨bt, 0, none⟩)] W0 fun e W' => (∃ v, e = .returned v) ∧ Z W' := by
  obtain ⟨_, G0, c0, _, hbx0, hR0⟩ := h0
  replace hY := Lib.hid hY
  refine callsIn_of_wp Tryz.func89 rfl trivial ?_ rfl
  simp only [Tryz.ntmps89, List.size_toArray, List.length_cons, List.length_nil, Nat.reduceAdd, Nat.reduceSub, Array.replicate_succ, Array.replicate_zero, List.push_toArray, List.append_toArray, List.nil_append, List.cons_append]
  gi_wp2
  gi_loopw [4] (fun t wr => ∃ k : Nat, t = .int .i64 k ∧ k ≤ nn ∧ W0.grownBy wr (some bg) ∧ ∃ G c, BxW wr bg [.int .i64 32, .int .i64 32, .int .i64 1, .slice G 1024 c] ∧ Rd encI 1 wr G 1024 (itG H N g k)) (fun t _ => nn - (intOf t).toNat)
  case atStart => exact ⟨0, rfl, by omega, World.grownBy.refl _ _, G0, c0, hbx0, hR0⟩
  case round =>
    obtain ⟨k, rfl, hk, hgb, G, c, hbx, hRd⟩ := hrel
    obtain ⟨fn, tmps, assign, body, hy, hR⟩ := hY.out k wr _ hk hgb ⟨G, c, rfl, hbx, hRd⟩
    have hsr : W0.heap.size ≤ wr.heap.size := hgb.size
    obtain ⟨_, y0, y1, y2, y3, _⟩ := hbx.open4
    gi_wp2
    refine hR.mono ?_
    rintro e W3 (⟨hlt, rfl, hb⟩ | ⟨rfl, rfl, hz⟩)
    · have hg3 := gb_below hgb hb
      have hbx3 := hbx.of hb
      obtain ⟨_, x0, x1, x2, x3, f0, f1, f2, f3⟩ := hbx3.open4
      have hw3 : Below w.heap.size w W3 := hbw.grown hg3 hbw.size (fun k e => by injection e with e; omega)
      obtain ⟨hbt, t0, t1, t2⟩ := htr.grown hg3 (fun e => by injection e with e; exact hne e)
      have kN := gs_next st A B G n cc m d c H N (itG H N g k) W3 (hH.of hw3) (hN.of hw3) (hRd.of hb) hr (itG_ok hr hg k)
      gi_wp2_with fail
      refine ⟨trivial, ?_⟩
      gi_at_call 90
      refine (callsIn_wide.2 kN).mono ?_
      rintro e w4 ⟨G', rfl, hRd', hG', hb4⟩
      have hg4 := gb_below hg3 hb4
      have hbx4 := hbx3.of hb4
      obtain ⟨_, z0, z1, z2, z3, _⟩ := hbx4.open4
      have ek : IntKind.i64.wrap ((k : Int) + 1) = ((k + 1 : Nat) : Int) := by rw [IntWalk.i64_in _ (by omega)]; omega
      gi_wp2_with fail
      go_roundw
      case rel => exact ⟨k + 1, by go_num, by omega, gb_set (gb_set (gb_set (gb_set hg4))), some ⟨G', 0, none⟩, 1024, hbx4.put4, rd_set4T hRd' (by have := hb.size; omega)⟩
      case measure => simp [intOf]; omega
    · gi_wp2
      go_end0
      exact ⟨⟨_, rfl⟩, hz⟩
end Go.Proofs.YtellglbmbocgkaaGreatDoor
