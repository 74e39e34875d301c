/- The walk of AlgebraSets. -/
import Derived.Test.YtenckggfgbkfnaaDoorLaw06a
import Derived.Test.YtenckggfgbkfnaaDoorBoxAt
namespace Go.Proofs.YtenckggfgbkfnaaDoor
open Go Go.RowKit
set_option linter.unusedSimpArgs false
set_option linter.unusedVariables false
set_option maxRecDepth 100000
attribute [local go_sem ↓ high] eq_cl neq_cl eq_pt neq_pt eq_box neq_box
set_option maxHeartbeats 16000000 in
theorem law_asets (A B : Option Addr) (n m c d : Nat) (l r : List (Int × Int × Int)) (x y wd h : Int) (w : World) (hM : Mx w) (hR : Rd encC 3 w A n l) (hS : Rd encC 3 w B m r) (hnc : n ≤ c) (hmd : m ≤ d) :
    Calls Tryd.prog 8 #[.slice A n c, .slice B m d, .agg #[.int .i64 x, .int .i64 y, .int .i64 wd, .int .i64 h]] w fun e w' => e = .returned (.bool true) ∧ Below w.heap.size w w' := by
  cases hf : decide (n ≤ 300 ∧ m ≤ 300) with
  | false =>
    have kF := fun w1 => few06 (A := A) (B := B) (c := c) (d := d) hf w1
    clear hf
    go_enter Tryd.func8, Tryd.ntmps8
    go_wp2_with fail
    (go_at_call 10; refine (kF _).mono ?_; rintro e w' ⟨rfl, rfl⟩)
    go_wp2_with fail; go_at_call 11; refine (awake_06 _ (hM.of (by (repeat' (first | exact Below.refl _ _ | assumption | (refine Below.alloc ?_ ?_ _) | (refine Below.setCell ?_ ?_ _) | (refine Below.drew ?_) | (refine below_drewN ?_ _) | (refine below_after (Ext.below _) ?_ ?_) | (refine below_after (by assumption) ?_ ?_) | (simp; done) | omega | (simp; omega)))))).mono ?_; rintro e w5 ⟨rfl, hb5⟩; have hs5 := hb5.size; (try simp only [World.size_alloc, World.size_drew, World.size_setCell] at hs5)
    go_wp2_with fail
    go_ret
    exact ⟨rfl, by (repeat' (first | exact Below.refl _ _ | assumption | (refine Below.alloc ?_ ?_ _) | (refine Below.setCell ?_ ?_ _) | (refine Below.drew ?_) | (refine below_drewN ?_ _) | (refine below_after (Ext.below _) ?_ ?_) | (refine below_after (by assumption) ?_ ?_) | (simp; done) | omega | (simp; omega)))⟩
  | true =>
    have kF := fun w1 => few06 (A := A) (B := B) (c := c) (d := d) hf w1
    obtain ⟨hn, hm⟩ := of_decide_eq_true hf
    have kN := fun w1 h1 h2 => alg_And A B n m c d l r w1 h1 h2 hnc hmd (by omega)
    have kO := fun w1 h1 h2 => ref06_And A B n m c d l r w1 h1 h2 (by omega)
    have kW := fun w1 h1 h2 => alg_Without A B n m c d l r w1 h1 h2 hnc hmd (by omega)
    have kV := fun w1 h1 h2 => ref06_Without A B n m c d l r w1 h1 h2 (by omega)
    have kD := fun w1 h1 h2 => alg_Disjoint A B n m c d l r w1 h1 h2 hnc hmd (by omega)
    have kE := fun w1 h1 h2 => ref06_Disjoint A B n m c d l r w1 h1 h2 (by omega)
    have kC := fun w1 h1 => alg_Cut A n c l x y wd h w1 h1 (by omega)
    have kP := fun w1 h1 => ref06_Cut A n c l x y wd h w1 h1 (by omega)
    generalize pkL 1 l r = s1 at kN kO
    generalize pkL 2 l r = s2 at kW kV
    generalize djB l r = v at kD kE
    generalize ctL l x y wd h = s3 at kC kP
    clear hf
    obtain ⟨W, hW⟩ : ∃ W, W = w.alloc (.cells #[.int .i64 x, .int .i64 y, .int .i64 wd, .int .i64 h] 43) := ⟨_, rfl⟩
    have xb := BoxAt.new w x y wd h 43
    have hB : RowKit.Below w.heap.size w (w.alloc (.cells #[.int .i64 x, .int .i64 y, .int .i64 wd, .int .i64 h] 43)) := bl_alloc (Below.refl _ _) _
    rw [← hW] at xb hB
    have HA : HRd encC 3 W A n l := ⟨hR.of hB⟩
    have HB : HRd encC 3 W B m r := ⟨hS.of hB⟩
    obtain ⟨b0, b1, b2, b3, b4⟩ := xb
    clear hR hS
    cases v
    all_goals
      go_enter Tryd.func8, Tryd.ntmps8
      go_wp2_with fail
      rw [← hW]
      clear hW
      (go_at_call 10; refine (kF _).mono ?_; rintro e w' ⟨rfl, rfl⟩)
      go_wp2_with fail
      go_region_held3 (fun w' => w'.cell? ⟨w.heap.size, 0, none⟩ = some (.int .i64 x) ∧ w'.cell? ⟨w.heap.size, 1, none⟩ = some (.int .i64 y) ∧ w'.cell? ⟨w.heap.size, 2, none⟩ = some (.int .i64 wd) ∧ w'.cell? ⟨w.heap.size, 3, none⟩ = some (.int .i64 h) ∧ HRd encC 3 w' A n l ∧ HRd encC 3 w' B m r ∧ RowKit.Below w.heap.size w w')
        (((try go_split_ands); refine ⟨?_, ?_, ?_, ?_, ?_, ?_, ?_⟩ <;> first | go_keep | exact HRd.drew ‹_› | exact HRd.of ‹_› hb | exact bl_drew ‹_› | exact below_thru ‹_› hb | (rw [hb.cell (p := ⟨_, _, none⟩) (by first | omega | (simp; omega))]; go_keep)))
        ((first
        | (go_at_call 25; (try go_split_ands); refine (kN _ (HRd.rd ‹_›) (HRd.rd ‹_›)).mono ?_; rintro e w7 ⟨Ap, np, cp, rfl, hRp, hnp, hcp, hb⟩; have hsz := hb.size; (try simp only [World.size_alloc, World.size_drew] at hsz))
        | (go_at_call 29; (try go_split_ands); refine (kO _ (HRd.rd ‹_›) (HRd.rd ‹_›)).mono ?_; rintro e w7 ⟨Aq, nq, cq, rfl, hRq, hnq, hb⟩; have hsz := hb.size; (try simp only [World.size_alloc, World.size_drew] at hsz); have hRp := hRp.of hb)
        | (go_at_call 24; (try go_split_ands); refine (kW _ (HRd.rd ‹_›) (HRd.rd ‹_›)).mono ?_; rintro e w7 ⟨Ap, np, cp, rfl, hRp, hnp, hcp, hb⟩; have hsz := hb.size; (try simp only [World.size_alloc, World.size_drew] at hsz))
        | (go_at_call 30; (try go_split_ands); refine (kV _ (HRd.rd ‹_›) (HRd.rd ‹_›)).mono ?_; rintro e w7 ⟨Aq, nq, cq, rfl, hRq, hnq, hb⟩; have hsz := hb.size; (try simp only [World.size_alloc, World.size_drew] at hsz); have hRp := hRp.of hb)
        | (go_at_call 26; (try go_split_ands); refine (kD _ (HRd.rd ‹_›) (HRd.rd ‹_›)).mono ?_; rintro e w7 ⟨rfl, hb⟩; have hsz := hb.size; (try simp only [World.size_alloc, World.size_drew] at hsz))
        | (go_at_call 31; (try go_split_ands); refine (kE _ (HRd.rd ‹_›) (HRd.rd ‹_›)).mono ?_; rintro e w7 ⟨rfl, hb⟩; have hsz := hb.size; (try simp only [World.size_alloc, World.size_drew] at hsz))
        | (go_at_call 32; (try go_split_ands); refine (kC _ (HRd.rd ‹_›)).mono ?_; rintro e w7 ⟨Ap, np, cp, rfl, hRp, hnp, hcp, hb⟩; have hsz := hb.size; (try simp only [World.size_alloc, World.size_drew] at hsz))
        | (go_at_call 33; (try go_split_ands); refine (kP _ (HRd.rd ‹_›)).mono ?_; rintro e w7 ⟨Aq, nq, cq, rfl, hRq, hnq, hb⟩; have hsz := hb.size; (try simp only [World.size_alloc, World.size_drew] at hsz); have hRp := hRp.of hb)
        | (go_at_call 16; (try go_split_ands); refine (ref05_SameV (sameL_self _) _ _ _ _ _ _ _ hRp hRq (by omega) (by omega)).mono ?_; rintro e w7 ⟨rfl, hb⟩; have hsz := hb.size; (try simp only [World.size_alloc, World.size_drew] at hsz))
        | (go_at_call 11; (try go_split_ands); refine (awake_06 _ (hM.of (by assumption))).mono ?_; rintro e w7 ⟨rfl, hb⟩; have hsz := hb.size; (try simp only [World.size_alloc, World.size_drew] at hsz))))
      go_wp2_with fail
      go_ret
      (try go_split_ands)
      exact ⟨rfl, by first | assumption | exact below_thru ‹_› hb⟩
end Go.Proofs.YtenckggfgbkfnaaDoor
