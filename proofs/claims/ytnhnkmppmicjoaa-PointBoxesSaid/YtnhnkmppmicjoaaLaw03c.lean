/- The walks of PointBoxes and PointSorts. -/
import Derived.Test.YtnhnkmppmicjoaaLaw03a
namespace Go.Proofs.Ytnhnkmppmicjoaa
open Go Go.RowKit
set_option linter.unusedSimpArgs false
set_option linter.unusedVariables false
set_option maxRecDepth 100000
attribute [local go_sem ↓ high] eq_pt neq_pt eq_box neq_box
set_option maxHeartbeats 16000000 in
theorem law_boxes (x y wd h px py : Int) (w : World) : Calls Try.prog 4 #[.agg #[.int .i64 x, .int .i64 y, .int .i64 wd, .int .i64 h], .agg #[.int .i64 px, .int .i64 py]] w fun e w' => e = .returned (.bool true) ∧ Below w.heap.size w w' := by
  obtain ⟨W, hW⟩ : ∃ W, W = (w.alloc (.cells #[.int .i64 x, .int .i64 y, .int .i64 wd, .int .i64 h] 31)).alloc (.cells #[.int .i64 px, .int .i64 py] 23) := ⟨_, rfl⟩
  have xb := (BoxAt.new w x y wd h 31).alloc (.cells #[.int .i64 px, .int .i64 py] 23)
  have xp := PtAt.new (w.alloc (.cells #[.int .i64 x, .int .i64 y, .int .i64 wd, .int .i64 h] 31)) px py 23
  rw [World.size_alloc] at xp
  have hB : RowKit.Below w.heap.size w ((w.alloc (.cells #[.int .i64 x, .int .i64 y, .int .i64 wd, .int .i64 h] 31)).alloc (.cells #[.int .i64 px, .int .i64 py] 23)) := bl_alloc (bl_alloc (Below.refl _ _) _) _
  rw [← hW] at xb xp hB
  have HW := Lib.hid hW
  obtain ⟨b0, b1, b2, b3, b4⟩ := xb
  obtain ⟨p0, p1, p2⟩ := xp
  go_enter Try.func4, Try.ntmps4
  go_wp2_with fail
  rw [← hW]
  clear hW
  go_region_held3 (fun w' => w'.cell? ⟨w.heap.size, 0, none⟩ = some (.int .i64 x) ∧ w'.cell? ⟨w.heap.size, 1, none⟩ = some (.int .i64 y) ∧ w'.cell? ⟨w.heap.size, 2, none⟩ = some (.int .i64 wd) ∧ w'.cell? ⟨w.heap.size, 3, none⟩ = some (.int .i64 h) ∧ w'.cell? ⟨w.heap.size + 1, 0, none⟩ = some (.int .i64 px) ∧ w'.cell? ⟨w.heap.size + 1, 1, none⟩ = some (.int .i64 py) ∧ RowKit.Below w.heap.size w w')
    (((try go_split_ands); refine ⟨?_, ?_, ?_, ?_, ?_, ?_, ?_⟩ <;> first | go_keep | exact bl_drew ‹_› | exact below_thru ‹_› hb | (rw [hb.cell (p := ⟨_, _, none⟩) (by first | omega | (simp; omega))]; go_keep)))
    ((first
    | (go_at_call 21; (try go_split_ands); refine (point_Right _ _ _ _ _).mono ?_; rintro e w7 ⟨rfl, hb⟩; have hsz := hb.size; (try simp only [World.size_alloc, World.size_drew] at hsz))
    | (go_at_call 22; (try go_split_ands); refine (ref_Right _ _ _ _ _).mono ?_; rintro e w7 ⟨rfl, hb⟩; have hsz := hb.size; (try simp only [World.size_alloc, World.size_drew] at hsz))
    | (go_at_call 23; (try go_split_ands); refine (point_In _ _ _ _ _ _ _).mono ?_; rintro e w7 ⟨rfl, hb⟩; have hsz := hb.size; (try simp only [World.size_alloc, World.size_drew] at hsz))
    | (go_at_call 24; (try go_split_ands); refine (ref_In3 _ _ _ _ _ _ _).mono ?_; rintro e w7 ⟨rfl, hb⟩; have hsz := hb.size; (try simp only [World.size_alloc, World.size_drew] at hsz))
    | (go_at_call 25; (try go_split_ands); refine (point_Points _ _ _ _ _).mono ?_; rintro e w7 ⟨Ap, np, cp, rfl, hRp, hnp, hb⟩; have hsz := hb.size; (try simp only [World.size_alloc, World.size_drew] at hsz))
    | (go_at_call 26; (try go_split_ands); refine (ref_Points _ _ _ _ _).mono ?_; rintro e w7 ⟨Aq, nq, cq, rfl, hRq, hnq, hb⟩; have hsz := hb.size; (try simp only [World.size_alloc, World.size_drew] at hsz); have hRp := hRp.of hb)
    | (go_at_call 19; (try go_split_ands); refine (sameV _ _ _ _ _ _ _ _ hRp hRq (by omega)).mono ?_; rintro e w7 ⟨rfl, hb⟩; have hsz := hb.size; (try simp only [World.size_alloc, World.size_drew] at hsz))
    | (go_at_call 15; (try go_split_ands); refine (awake_03 _).mono ?_; rintro e w7 ⟨rfl, hb⟩; have hsz := hb.size; (try simp only [World.size_alloc, World.size_drew] at hsz))))
  go_wp2_with fail
  go_ret
  (try go_split_ands)
  exact ⟨rfl, by first | assumption | exact below_thru ‹_› hb⟩
set_option maxHeartbeats 16000000 in
theorem law_sorts (ax ay bx bx' : Int) (A : Option Addr) (n c : Nat) (l : List (Int × Int)) (w : World) (hR0 : Rd encP 2 w A n l) : Calls Try.prog 3 #[.agg #[.int .i64 ax, .int .i64 ay], .agg #[.int .i64 bx, .int .i64 bx'], .slice A n c] w fun e w' => e = .returned (.bool true) ∧ Below w.heap.size w w' := by
  rcases Nat.lt_or_ge 60 n with h1 | h1
  · go_enter Try.func3, Try.ntmps3
    go_wp2_with (first | (go_at_call 15; refine (awake_03 _).mono ?_; rintro e w5 ⟨rfl, hb5⟩; obtain ⟨hc5, hf5⟩ := bcell hb5; have hs5 := hb5.size; (try simp only [World.size_alloc, World.size_setCell, World.size_drew] at hc5 hf5); (try simp at hs5)))
    go_ret
    exact ⟨rfl, by (repeat' (first | exact Below.refl _ _ | assumption | (refine Below.alloc ?_ ?_ _) | (refine Below.setCell ?_ ?_ _) | (refine Below.drew ?_) | (refine below_drewN ?_ _) | (refine below_after (Ext.below _) ?_ ?_) | (refine below_after (by assumption) ?_ ?_) | (simp; done) | omega | (simp; omega)))⟩
  have hcmp : ∃ v : Int, -1 ≤ v ∧ v ≤ 1 ∧ cmpP ax ay bx bx' = v ∧ cmpP bx bx' ax ay = -v := by
    rcases cmpP_ways ax ay bx bx' with ⟨h, e⟩ | ⟨h, h2, e⟩ | ⟨h, h2, e⟩ | ⟨h, h2, e⟩ | ⟨h, e⟩ <;> rcases cmpP_ways bx bx' ax ay with ⟨g, f⟩ | ⟨g, g2, f⟩ | ⟨g, g2, f⟩ | ⟨g, g2, f⟩ | ⟨g, f⟩ <;> first | (exfalso; omega) | exact ⟨-1, by omega, by omega, e, by rw [f]; rfl⟩ | exact ⟨0, by omega, by omega, e, by rw [f]; rfl⟩ | exact ⟨1, by omega, by omega, e, by rw [f]⟩
  obtain ⟨v, v1, v2, hv, hv'⟩ := hcmp
  have kC := fun w1 => point_Compare ax ay bx bx' w1
  have kD := fun w1 => point_Compare bx bx' ax ay w1
  have kR := fun w1 => ref_Compare ax ay bx bx' w1
  rw [hv] at kC kR
  rw [hv'] at kD
  clear hv hv'
  have ew : IntKind.i64.wrap v = v := IntWalk.i64_in _ (by omega)
  have hRl := hR0.of (show Below w.heap.size w ((w.alloc (.cells #[.int .i64 ax, .int .i64 ay] 23)).alloc (.cells #[.int .i64 bx, .int .i64 bx'] 23)) from bl_alloc (bl_alloc (Below.refl _ _) _) _)
  clear hR0
  have xa := (PtAt.new w ax ay 23).alloc (.cells #[.int .i64 bx, .int .i64 bx'] 23)
  have xb := PtAt.new (w.alloc (.cells #[.int .i64 ax, .int .i64 ay] 23)) bx bx' 23
  rw [World.size_alloc] at xb
  go_enter Try.func3, Try.ntmps3
  go_wp2_with fail
  go_at_call 16
  refine (point_Sort _ _ _ _ _ hRl (by omega)).mono ?_
  rintro e w1 ⟨As, ns, cs, rfl, hRs, hns, hb⟩
  have xa := xa.of hb
  have xb := xb.of hb
  have HL : HRd encP 2 w1 A n l := ⟨hRl.of hb⟩
  have HS : HRd encP 2 w1 As ns (sortL befQ l) := ⟨hRs⟩
  have hB1 : RowKit.Below w.heap.size w w1 := below_thruA2 hb
  clear hb hRl hRs
  obtain ⟨a0, a1, a2⟩ := xa
  obtain ⟨b0, b1, b2⟩ := xb
  go_wp2_with fail
  go_region_held3 (fun w' => w'.cell? ⟨w.heap.size, 0, none⟩ = some (.int .i64 ax) ∧ w'.cell? ⟨w.heap.size, 1, none⟩ = some (.int .i64 ay) ∧ w'.cell? ⟨w.heap.size + 1, 0, none⟩ = some (.int .i64 bx) ∧ w'.cell? ⟨w.heap.size + 1, 1, none⟩ = some (.int .i64 bx') ∧ HRd encP 2 w' A n l ∧ HRd encP 2 w' As ns (sortL befQ l) ∧ RowKit.Below w.heap.size w w')
    (((try go_split_ands); refine ⟨?_, ?_, ?_, ?_, ?_, ?_, ?_⟩ <;> first | go_keep | exact HRd.drew ‹_› | exact HRd.of ‹_› hb | exact bl_drew ‹_› | exact below_thru ‹_› hb | (rw [hb.cell (p := ⟨_, _, none⟩) (by first | omega | (simp; omega))]; go_keep)))
    ((first
    | (go_at_call 17; (try go_split_ands); (first | (with_reducible refine (kC _).mono ?_) | (with_reducible refine (kD _).mono ?_)); rintro e w7 ⟨rfl, hb⟩; have hsz := hb.size; (try simp only [World.size_alloc, World.size_drew] at hsz))
    | (go_at_call 18; (try go_split_ands); refine (kR _).mono ?_; rintro e w7 ⟨rfl, hb⟩; have hsz := hb.size; (try simp only [World.size_alloc, World.size_drew] at hsz))
    | (go_at_call 20; (try go_split_ands); refine (ref_Sort _ _ _ l _ (HRd.rd ‹_›) (by omega)).mono ?_; rintro e w7 ⟨Aq, nq, cq, rfl, hRq, hnq, hb⟩; have hsz := hb.size; (try simp only [World.size_alloc, World.size_drew] at hsz))
    | (go_at_call 16; (try go_split_ands); refine (point_Sort _ _ _ (sortL befQ l) _ (HRd.rd ‹_›) (by omega)).mono ?_; rintro e w7 ⟨Ap, np, cp, rfl, hRp, hnp, hb⟩; have hsz := hb.size; (try simp only [World.size_alloc, World.size_drew] at hsz); rw [sort_sorted lin_befQ (ss_sortL lin_befQ l)] at hRp)
    | (go_at_call 19; (try go_split_ands); (first | (with_reducible refine (sameV Ap As _ _ _ _ (sortL befQ l) _ hRp (HRd.rd ‹_›) (by omega)).mono ?_) | (with_reducible refine (sameV As Aq _ _ _ _ (sortL befQ l) _ (HRd.rd ‹_›) hRq (by omega)).mono ?_)); rintro e w7 ⟨rfl, hb⟩; have hsz := hb.size; (try simp only [World.size_alloc, World.size_drew] at hsz))
    | (go_at_call 15; (try go_split_ands); refine (awake_03 _).mono ?_; rintro e w7 ⟨rfl, hb⟩; have hsz := hb.size; (try simp only [World.size_alloc, World.size_drew] at hsz))))
  go_wp2_with fail
  go_ret
  (try go_split_ands)
  exact ⟨rfl, by first | assumption | exact below_thru ‹_› hb⟩
end Go.Proofs.Ytnhnkmppmicjoaa
