/- Life: totaltree.build and Totals at Life, notation.Parse, the laws' life. By mklift.py. -/
import Derived.Test.YtellglbmbocgkaaGreatDoorLifV
import Derived.Test.YtellglbmbocgkaaGreatDoorDIR
import Derived.Laws.EntriesVeiled
namespace Go.Proofs.YtellglbmbocgkaaGreatDoor
open Go Go.RowKit
set_option linter.unusedSimpArgs false
set_option linter.unusedVariables false
set_option maxRecDepth 100000
set_option linter.unusedSimpArgs false
set_option linter.unusedVariables false
attribute [local go_sem ↓ high] eq_cl neq_cl
theorem BxW.c0 {w : World} {b : Nat} {v : Value} {l : List Value} (h : BxW w b (v :: l)) : b < w.heap.size ∧ w.cell? ⟨b, 0, none⟩ = some v ∧ w.frozen? ⟨b, 0, none⟩ = false := ⟨h.1, h.2.1 0, h.2.2 0⟩
section
variable (xb cb : Nat) (LA XA YA ZA : Option Addr) (lc xa ya za : Nat) (w : World)
set_option maxHeartbeats 16000000 in
theorem lif_build (hB : VB w.heap.size xb cb XA YA ZA xa ya za w) :
    Calls Tryz.prog 118 #[.int .i64 2, .slice LA 9 lc, .agg #[.int .i64 0, .int .i64 0], .func (.func 115) #[] #[.pointer (some ⟨cb, 0, none⟩)], .func (.func 116) #[] #[.pointer (some ⟨xb, 0, none⟩)]] w
      fun e w' => ∃ NB mm mc, e = .returned (.agg #[.int .i64 2, .slice LA 9 lc, .slice NB mm mc]) ∧ OwnO ekT 101 (w.heap.size + 12) (fun _ => False) w' NB mm mc lifM ∧ Below w.heap.size w w' := by
  go_enter Tryz.func118, Tryz.ntmps118
  go_wp2_with fail
  rw [run_makeMap]
  go_wp2_with fail
  rw [run_makeMap]
  go_upto_region 4 with (fail)
  simp only [Nat.add_assoc, Nat.reduceAdd]
  have bx0 := BxW.new w [.int .i64 2] 3
  rw [arr1] at bx0
  have hb0 : Below w.heap.size w (w.alloc (.cells #[.int .i64 2] 3)) := (Below.refl _ _).alloc (Nat.le_refl _) _
  obtain ⟨u1, hu0⟩ : ∃ u, u = w.alloc (.cells #[.int .i64 2] 3) := ⟨_, rfl⟩
  have hz0 : u1.heap.size = w.heap.size + 1 := by rw [hu0]; simp
  rw [← hu0] at bx0 hb0 ⊢
  clear hu0
  have bx1 := BxW.new u1 [.slice LA 9 lc] 22
  rw [arr1] at bx1
  have hb1 : Below u1.heap.size u1 (u1.alloc (.cells #[.slice LA 9 lc] 22)) := (Below.refl _ _).alloc (Nat.le_refl _) _
  obtain ⟨u2, hu1⟩ : ∃ u, u = u1.alloc (.cells #[.slice LA 9 lc] 22) := ⟨_, rfl⟩
  have hz1 : u2.heap.size = w.heap.size + 2 := by rw [hu1]; simp [hz0]
  rw [← hu1] at bx1 hb1 ⊢
  rw [hz0] at bx1
  clear hu1
  have bx2 := BxW.new u2 [.int .i64 0, .int .i64 0] 184
  rw [arr2] at bx2
  have hb2 : Below u2.heap.size u2 (u2.alloc (.cells #[.int .i64 0, .int .i64 0] 184)) := (Below.refl _ _).alloc (Nat.le_refl _) _
  obtain ⟨u3, hu2⟩ : ∃ u, u = u2.alloc (.cells #[.int .i64 0, .int .i64 0] 184) := ⟨_, rfl⟩
  have hz2 : u3.heap.size = w.heap.size + 3 := by rw [hu2]; simp [hz1]
  rw [← hu2] at bx2 hb2 ⊢
  rw [hz1] at bx2
  clear hu2
  have bx3 := BxW.new u3 [.func (.func 115) #[] #[.pointer (some ⟨cb, 0, none⟩)]] 185
  rw [arr1] at bx3
  have hb3 : Below u3.heap.size u3 (u3.alloc (.cells #[.func (.func 115) #[] #[.pointer (some ⟨cb, 0, none⟩)]] 185)) := (Below.refl _ _).alloc (Nat.le_refl _) _
  obtain ⟨u4, hu3⟩ : ∃ u, u = u3.alloc (.cells #[.func (.func 115) #[] #[.pointer (some ⟨cb, 0, none⟩)]] 185) := ⟨_, rfl⟩
  have hz3 : u4.heap.size = w.heap.size + 4 := by rw [hu3]; simp [hz2]
  rw [← hu3] at bx3 hb3 ⊢
  rw [hz2] at bx3
  clear hu3
  have bx4 := BxW.new u4 [.func (.func 116) #[] #[.pointer (some ⟨xb, 0, none⟩)]] 187
  rw [arr1] at bx4
  have hb4 : Below u4.heap.size u4 (u4.alloc (.cells #[.func (.func 116) #[] #[.pointer (some ⟨xb, 0, none⟩)]] 187)) := (Below.refl _ _).alloc (Nat.le_refl _) _
  obtain ⟨u5, hu4⟩ : ∃ u, u = u4.alloc (.cells #[.func (.func 116) #[] #[.pointer (some ⟨xb, 0, none⟩)]] 187) := ⟨_, rfl⟩
  have hz4 : u5.heap.size = w.heap.size + 5 := by rw [hu4]; simp [hz3]
  rw [← hu4] at bx4 hb4 ⊢
  rw [hz3] at bx4
  clear hu4
  have bx5 := BxW.new u5 [.int .i64 0, .slice none 0 0, .slice none 0 0] 25
  rw [arr3] at bx5
  have hb5 : Below u5.heap.size u5 (u5.alloc (.cells #[.int .i64 0, .slice none 0 0, .slice none 0 0] 25)) := (Below.refl _ _).alloc (Nat.le_refl _) _
  obtain ⟨u6, hu5⟩ : ∃ u, u = u5.alloc (.cells #[.int .i64 0, .slice none 0 0, .slice none 0 0] 25) := ⟨_, rfl⟩
  have hz5 : u6.heap.size = w.heap.size + 6 := by rw [hu5]; simp [hz4]
  rw [← hu5] at bx5 hb5 ⊢
  rw [hz4] at bx5
  clear hu5
  have bx6 := BxW.new u6 [.int .i64 2, .slice LA 9 lc, .slice none 0 0] 25
  rw [arr3] at bx6
  have hb6 : Below u6.heap.size u6 (u6.alloc (.cells #[.int .i64 2, .slice LA 9 lc, .slice none 0 0] 25)) := (Below.refl _ _).alloc (Nat.le_refl _) _
  obtain ⟨u7, hu6⟩ : ∃ u, u = u6.alloc (.cells #[.int .i64 2, .slice LA 9 lc, .slice none 0 0] 25) := ⟨_, rfl⟩
  have hz6 : u7.heap.size = w.heap.size + 7 := by rw [hu6]; simp [hz5]
  rw [← hu6] at bx6 hb6 ⊢
  rw [hz5] at bx6
  clear hu6
  have bx7 := MK.At.made mkPl u7
  have hb7 : Below u7.heap.size u7 (u7.alloc (.map #[] 0)) := (Below.refl _ _).alloc (Nat.le_refl _) _
  obtain ⟨u8, hu7⟩ : ∃ u, u = u7.alloc (.map #[] 0) := ⟨_, rfl⟩
  have hz7 : u8.heap.size = w.heap.size + 8 := by rw [hu7]; simp [hz6]
  rw [← hu7] at bx7 hb7 ⊢
  rw [hz6] at bx7
  clear hu7
  have bx8 := BxW.new u8 [.map (some (w.heap.size + 7))] 235
  rw [arr1] at bx8
  have hb8 : Below u8.heap.size u8 (u8.alloc (.cells #[.map (some (w.heap.size + 7))] 235)) := (Below.refl _ _).alloc (Nat.le_refl _) _
  obtain ⟨u9, hu8⟩ : ∃ u, u = u8.alloc (.cells #[.map (some (w.heap.size + 7))] 235) := ⟨_, rfl⟩
  have hz8 : u9.heap.size = w.heap.size + 9 := by rw [hu8]; simp [hz7]
  rw [← hu8] at bx8 hb8 ⊢
  rw [hz7] at bx8
  clear hu8
  have bx9 := MK.At.made mkSt u9
  have hb9 : Below u9.heap.size u9 (u9.alloc (.map #[] 0)) := (Below.refl _ _).alloc (Nat.le_refl _) _
  obtain ⟨u10, hu9⟩ : ∃ u, u = u9.alloc (.map #[] 0) := ⟨_, rfl⟩
  have hz9 : u10.heap.size = w.heap.size + 10 := by rw [hu9]; simp [hz8]
  rw [← hu9] at bx9 hb9 ⊢
  rw [hz8] at bx9
  clear hu9
  have bx10 := BxW.new u10 [.map (some (w.heap.size + 9))] 200
  rw [arr1] at bx10
  have hb10 : Below u10.heap.size u10 (u10.alloc (.cells #[.map (some (w.heap.size + 9))] 200)) := (Below.refl _ _).alloc (Nat.le_refl _) _
  obtain ⟨u11, hu10⟩ : ∃ u, u = u10.alloc (.cells #[.map (some (w.heap.size + 9))] 200) := ⟨_, rfl⟩
  have hz10 : u11.heap.size = w.heap.size + 11 := by rw [hu10]; simp [hz9]
  rw [← hu10] at bx10 hb10 ⊢
  rw [hz9] at bx10
  clear hu10
  go_upto_region 5 with (fail)
  have by0 := BxW.new u11 [Value.nilFunc] 236
  rw [arr1, hz10] at by0
  have hb11 : Below u11.heap.size u11 (u11.alloc (.cells #[Value.nilFunc] 236)) := (Below.refl _ _).alloc (Nat.le_refl _) _
  obtain ⟨u12, hu11⟩ : ∃ u, u = u11.alloc (.cells #[Value.nilFunc] 236) := ⟨_, rfl⟩
  have hz11 : u12.heap.size = w.heap.size + 12 := by rw [hu11]; simp [hz10]
  rw [← hu11] at by0 hb11 ⊢
  clear hu11
  obtain ⟨_, y0, fy0⟩ := by0.c0
  go_upto_region 6 with (fail)
  have hv13 := by0.put 0 (visV w.heap.size) (by simp)
  have bv0 := ((((((((((((bx0).of hb1).of hb2).of hb3).of hb4).of hb5).of hb6).of hb7).of hb8).of hb9).of hb10).of hb11).off 0 (visV w.heap.size) (b2 := w.heap.size + 11) (by omega)
  have bv1 := (((((((((((bx1).of hb2).of hb3).of hb4).of hb5).of hb6).of hb7).of hb8).of hb9).of hb10).of hb11).off 0 (visV w.heap.size) (b2 := w.heap.size + 11) (by omega)
  have bv2 := ((((((((((bx2).of hb3).of hb4).of hb5).of hb6).of hb7).of hb8).of hb9).of hb10).of hb11).off 0 (visV w.heap.size) (b2 := w.heap.size + 11) (by omega)
  have bv3 := (((((((((bx3).of hb4).of hb5).of hb6).of hb7).of hb8).of hb9).of hb10).of hb11).off 0 (visV w.heap.size) (b2 := w.heap.size + 11) (by omega)
  have bv4 := ((((((((bx4).of hb5).of hb6).of hb7).of hb8).of hb9).of hb10).of hb11).off 0 (visV w.heap.size) (b2 := w.heap.size + 11) (by omega)
  have bv5 := (((((((bx5).of hb6).of hb7).of hb8).of hb9).of hb10).of hb11).off 0 (visV w.heap.size) (b2 := w.heap.size + 11) (by omega)
  have bv6 := ((((((bx6).of hb7).of hb8).of hb9).of hb10).of hb11).off 0 (visV w.heap.size) (b2 := w.heap.size + 11) (by omega)
  have bv8 := ((((bx8).of hb9).of hb10).of hb11).off 0 (visV w.heap.size) (b2 := w.heap.size + 11) (by omega)
  have bv10 := ((bx10).of hb11).off 0 (visV w.heap.size) (b2 := w.heap.size + 11) (by omega)
  have bv7 := (((((bx7).of hb8).of hb9).of hb10).of hb11).grown (grownBy_set u12 (w.heap.size + 11) 0 (visV w.heap.size)) (fun e => by injection e with e; omega)
  have bv9 := (((bx9).of hb10).of hb11).grown (grownBy_set u12 (w.heap.size + 11) 0 (visV w.heap.size)) (fun e => by injection e with e; omega)
  have hb13 : Below w.heap.size w (u12.setCell ⟨w.heap.size + 11, 0, none⟩ (visV w.heap.size)) := by
    refine Below.setCell ?_ (by show w.heap.size ≤ w.heap.size + 11; omega) _
    exact (((((((((((hb0.trans (hb1.mono (by omega))).trans (hb2.mono (by omega))).trans (hb3.mono (by omega))).trans (hb4.mono (by omega))).trans (hb5.mono (by omega))).trans (hb6.mono (by omega))).trans (hb7.mono (by omega))).trans (hb8.mono (by omega))).trans (hb9.mono (by omega))).trans (hb10.mono (by omega))).trans (hb11.mono (by omega)))
  obtain ⟨u13, hu13⟩ : ∃ u, u = u12.setCell ⟨w.heap.size + 11, 0, none⟩ (visV w.heap.size) := ⟨_, rfl⟩
  have hz13 : u13.heap.size = w.heap.size + 12 := by rw [hu13]; simp [hz11]
  unfold visV at hu13
  simp only [List.set_cons_zero] at hv13
  rw [← show u13 = u12.setCell ⟨w.heap.size + 11, 0, none⟩ (visV w.heap.size) from hu13] at hv13 bv0 bv1 bv2 bv3 bv4 bv5 bv6 bv7 bv8 bv9 bv10 hb13
  rw [← hu13]
  have hC : VC w.heap.size xb cb LA lc w u13 := ⟨hb13, by omega, bv0.2.1 0, bv1.2.1 0, bv3.2.1 0, bv4.2.1 0, bv8.2.1 0, bv10.2.1 0, hv13.2.1 0⟩
  have hS : VSt w.heap.size LA lc (fun _ => False) u13 none 0 0 ([], []) := ⟨bv6, OwnO.nil_, bv7, bv9, OkS.nil_⟩
  have kV := fun w1 h1 h2 => lif_visit w.heap.size xb cb LA XA YA ZA lc xa ya za w hB 9 0 0 ([], []) (fun _ => False) none 0 0 w1 (by omega) (by omega) (by omega) h1 h2 (fun q e => e.elim) (by have := lif_len; unfold lifM lifP at this; rw [List.length_map] at this; exact this) (by decide)
  obtain ⟨_, s0, s1, _, _⟩ := bv2.open2
  have y1 := hv13.2.1 0
  unfold visV at y1
  simp only [List.getElem?_cons_zero] at y1
  clear bx0 hb0 hz0 bx1 hb1 hz1 bx2 hb2 hz2 bx3 hb3 hz3 bx4 hb4 hz4 bx5 hb5 hz5 bx6 hb6 hz6 bx7 hb7 hz7 bx8 hb8 hz8 bx9 hb9 hz9 bx10 hb10 hz10 hb11 by0 y0 fy0 hv13 bv0 bv1 bv3 bv4 bv6 bv7 bv8 bv9 bv10 hz11 hu13
  go_wp2_with fail
  go_at_call 169
  refine (kV _ hS hC).mono ?_
  rintro e w9 ⟨rfl, NB, mm, mc, hV⟩
  have hr := bv5.fr2 hV.f (fun e => by rcases e with e | e | e | e; omega; omega; omega; cases e)
  have hO := hV.s.o
  have hbf := hV.c.base
  have hz9 := hV.c.sz
  have hmc := hO.cap
  have ⟨_, t0, t1, t2⟩ : (w.heap.size + 6 < w9.heap.size ∧ w9.cell? ⟨w.heap.size + 6, 0, none⟩ = some (.int .i64 2) ∧ w9.cell? ⟨w.heap.size + 6, 1, none⟩ = some (.slice LA 9 lc) ∧ w9.cell? ⟨w.heap.size + 6, 2, none⟩ = some (.slice NB mm mc)) := ⟨hV.s.t.1, hV.s.t.2.1 0, hV.s.t.2.1 1, hV.s.t.2.1 2⟩
  have r0 := hr.2.1 0
  have r1 := hr.2.1 1
  have r2 := hr.2.1 2
  have q0 := hr.2.2 0
  have q1 := hr.2.2 1
  have q2 := hr.2.2 2
  simp only [List.getElem?_cons_zero, List.getElem?_cons_succ] at r0 r1 r2
  have stp : ∀ (wx : World) (i : Nat) (v : Value), OwnO ekT 101 (w.heap.size + 12) (fun _ => False) wx NB mm mc (List.map nd2 (bvS 9 0 0 ([], [])).2.2) → OwnO ekT 101 (w.heap.size + 12) (fun _ => False) (wx.setCell ⟨w.heap.size + 5, i, none⟩ v) NB mm mc (List.map nd2 (bvS 9 0 0 ([], [])).2.2) := fun wx i v h =>
    h.grow (grownBy_set wx (w.heap.size + 5) i v) (fun q hq e => by injection e with e; have := (h.lt q hq).1; omega) (fun q e => by injection e with e; exact .inr (by omega)) (fun q _ e => e)
  have stp := Lib.hid stp
  clear kV hS hC hV hr s0 s1 y1 bv2 bv5 hb13 hz13
  go_wp2_with fail
  refine bodyPost_ret (v := .agg #[.int .i64 2, .slice LA 9 lc, .slice NB mm mc]) (by simp [results, Tryz.results118, go_sem, *, ↓IntWalk.iteOmega]) rfl ?_
  exact ⟨NB, mm, mc, rfl, stp.out _ _ _ (stp.out _ _ _ (stp.out _ _ _ hO)), by (repeat' (first | exact Below.refl _ _ | assumption | (refine Below.alloc ?_ ?_ _) | (refine Below.setCell ?_ ?_ _) | (refine Below.drew ?_) | (refine below_drewN ?_ _) | (refine below_after (Ext.below _) ?_ ?_) | (refine below_after (by assumption) ?_ ?_) | (simp; done) | omega | (simp; omega)))⟩
end
theorem OwnO.more {α β : Type} {K : EK α β} {e : TypeId} {B B' n c : Nat} {P : Nat → Prop} {w : World} {A : Option Addr} {bs : List β} (h : OwnO K e B P w A n c bs) (hB : B' ≤ B) : OwnO K e B' P w A n c bs := by
  obtain ⟨xs0, h1, h2, h3⟩ := h
  exact ⟨xs0, h1.more hB, h2, fun a ha q hq => ⟨(h3 a ha q hq).1, (h3 a ha q hq).2.1, Nat.le_trans hB (h3 a ha q hq).2.2⟩⟩
/-- A box below a row's base is stored. -/
theorem OwnO.setB {α β : Type} {K : EK α β} {e : TypeId} {B n c : Nat} {P : Nat → Prop} {w : World} {A : Option Addr} {bs : List β} (h : OwnO K e B P w A n c bs) {b : Nat} (hb : b < B) (i : Nat) (v : Value) : OwnO K e B P (w.setCell ⟨b, i, none⟩ v) A n c bs :=
  h.grow (grownBy_set w b i v) (fun q hq e => by injection e with e; have := (h.lt q hq).1; omega) (fun q e => by injection e with e; exact .inr (by omega)) (fun q _ e => e)
/-- All that lay in W lies in w' as it did, but for block b. -/
structure FrH (W : World) (b : Nat) (w' : World) : Prop where
  g : W.grownBy w' (some b)
section
variable {W w w' : World} {b : Nat}
theorem FrH.here (W : World) (b : Nat) : FrH W b W := ⟨World.grownBy.refl W _⟩
theorem FrH.drew (h : FrH W b w) : FrH W b w.drew := ⟨⟨h.g.os, h.g.tape, h.g.output, h.g.size, h.g.block⟩⟩
theorem FrH.of (h : FrH W b w) (hb : Below w.heap.size w w') : FrH W b w' := ⟨⟨hb.os.trans h.g.os, hb.tape.trans h.g.tape, hb.output.trans h.g.output, Nat.le_trans h.g.size hb.size, fun i hi hr => (hb.block i (Nat.lt_of_lt_of_le hi h.g.size)).trans (h.g.block i hi hr)⟩⟩
theorem FrH.set (h : FrH W b w) (i : Nat) (v : Value) : FrH W b (w.setCell ⟨b, i, none⟩ v) := ⟨h.g.andThen (grownBy_set w b i v) (fun q hq => .inr hq)⟩
theorem FrH.cell (h : FrH W b w') {b1 i : Nat} {v : Value} (hb : b1 < W.heap.size) (hne : b1 ≠ b) (c : W.cell? ⟨b1, i, none⟩ = some v) : w'.cell? ⟨b1, i, none⟩ = some v :=
  (World.cell?_of_block (h.g.block b1 hb (fun e => hne (by injection e)))).trans c
theorem FrH.two (h : FrH W b w') {b1 b2 i i2 : Nat} {v v2 : Value} (hb : b1 < W.heap.size) (hne : b1 ≠ b) (c : W.cell? ⟨b1, i, none⟩ = some v) (hb2 : b2 < W.heap.size) (hne2 : b2 ≠ b) (c2 : W.cell? ⟨b2, i2, none⟩ = some v2) : FrH W b w' ∧ w'.cell? ⟨b1, i, none⟩ = some v ∧ w'.cell? ⟨b2, i2, none⟩ = some v2 := ⟨h, h.cell hb hne c, h.cell hb2 hne2 c2⟩
end
theorem BxW.open3b {w : World} {b : Nat} {x y z : Value} (h : BxW w b [x, y, z]) : b < w.heap.size ∧ w.cell? ⟨b, 0, none⟩ = some x ∧ w.cell? ⟨b, 1, none⟩ = some y ∧ w.cell? ⟨b, 2, none⟩ = some z ∧ w.frozen? ⟨b, 0, none⟩ = false ∧ w.frozen? ⟨b, 1, none⟩ = false ∧ w.frozen? ⟨b, 2, none⟩ = false := ⟨h.1, h.2.1 0, h.2.1 1, h.2.1 2, h.2.2 0, h.2.2 1, h.2.2 2⟩
theorem moo_cent : centL mooH = 4 := by decide +kernel
set_option maxHeartbeats 16000000 in
theorem lif_Totals (A B C : Option Addr) (a b c : Nat) (w : World) (hA : Rd encP 2 w A 9 mooH) (hB : Rd encI 1 w B 1 [3]) (hC : Rd encI 1 w C 2 [2, 3]) :
    Calls Tryz.prog 63 #[.agg #[.slice A 9 a, .int .i64 2, .slice B 1 b, .slice C 2 c]] w fun e w' => ∃ H2 h2 N2 m2 n2, e = .returned (.tuple #[.agg #[.int .i64 2, .slice H2 9 h2, .slice N2 m2 n2], .int .i64 0]) ∧ Own encP 2 139 w.heap.size w' H2 9 h2 mooH ∧ OwnO ekT 101 w.heap.size (fun _ => False) w' N2 m2 n2 lifM ∧ Below w.heap.size w w' := by
  have kR := fun w1 h1 h2 h3 => lif_Right A B C a b c w1 h1 h2 h3
  have kC := fun w1 h => hood_Centre A 9 a mooH w1 h (by omega)
  rw [moo_cent] at kC
  go_enter Tryz.func63, Tryz.ntmps63
  go_wp2_with fail
  have hx := BxW.new w [.slice A 9 a, .int .i64 2, .slice B 1 b, .slice C 2 c] 118
  rw [arr4] at hx
  have hb1 : Below w.heap.size w (w.alloc (.cells #[.slice A 9 a, .int .i64 2, .slice B 1 b, .slice C 2 c] 118)) := (Below.refl _ _).alloc (Nat.le_refl _) _
  obtain ⟨w1, hw1⟩ : ∃ u, u = w.alloc (.cells #[.slice A 9 a, .int .i64 2, .slice B 1 b, .slice C 2 c] 118) := ⟨_, rfl⟩
  have hs1 : w1.heap.size = w.heap.size + 1 := by rw [hw1]; simp
  rw [← hw1] at hx hb1 ⊢
  clear hw1
  have hr := BxW.new w1 [.int .i64 0, .slice none 0 0, .slice none 0 0] 25
  rw [arr3, hs1] at hr
  have hb2 : Below w1.heap.size w1 (w1.alloc (.cells #[.int .i64 0, .slice none 0 0, .slice none 0 0] 25)) := (Below.refl _ _).alloc (Nat.le_refl _) _
  obtain ⟨w2, hw2⟩ : ∃ u, u = w1.alloc (.cells #[.int .i64 0, .slice none 0 0, .slice none 0 0] 25) := ⟨_, rfl⟩
  have hs2 : w2.heap.size = w.heap.size + 2 := by rw [hw2]; simp [hs1]
  rw [← hw2] at hr hb2 ⊢
  clear hw2
  have hB2 : Below w.heap.size w w2 := hb1.trans (hb2.mono (by omega))
  replace hA := hA.of hB2
  replace hB := hB.of hB2
  replace hC := hC.of hB2
  replace hx := hx.of hb2
  go_at_call 109
  refine (kR _ hA hB hC).mono ?_
  rintro e w3 ⟨rfl, hb3⟩
  have hs3 := hb3.size
  replace hA := hA.of hb3
  replace hB := hB.of hb3
  replace hC := hC.of hb3
  replace hx := hx.of hb3
  replace hr := hr.of hb3
  have hB3 := below_thru hB2 hb3
  obtain ⟨hxl, g0, g1, g2, g3, _⟩ := hx.open4
  clear hs1 hb1 hb2 hb3 hB2
  go_wp2_with fail
  go_at_call 114
  refine (kC _ hA).mono ?_
  rintro e w4 ⟨rfl, hb4⟩
  have hs4 := hb4.size
  replace hA := hA.of hb4
  replace hB := hB.of hb4
  replace hC := hC.of hb4
  replace hx := hx.of hb4
  replace hr := hr.of hb4
  have hB4 := below_thru hB3 hb4
  clear g0 g1 g2 g3 hb4 hB3 hxl
  go_upto_region 4 with (fail)
  have hc := BxW.new w4 [.int .i64 4] 3
  rw [arr1] at hc
  have hb5 : Below w4.heap.size w4 (w4.alloc (.cells #[.int .i64 4] 3)) := (Below.refl _ _).alloc (Nat.le_refl _) _
  obtain ⟨w5, hw5⟩ : ∃ u, u = w4.alloc (.cells #[.int .i64 4] 3) := ⟨_, rfl⟩
  have hs5 : w5.heap.size = w4.heap.size + 1 := by rw [hw5]; simp
  rw [← hw5] at hc hb5 ⊢
  clear hw5
  replace hA := hA.of hb5
  replace hB := hB.of hb5
  replace hC := hC.of hb5
  replace hx := hx.of hb5
  replace hr := hr.of hb5
  have hB5 := below_thru hB4 hb5
  obtain ⟨hxl, g0, g1, _⟩ := hx.open4
  have hxr : w.heap.size ≠ w.heap.size + 1 := by omega
  have kCl := fun w1 (h : Below w5.heap.size w5 w1) => clone_pt A 9 a mooH w1 (hA.of h) (by omega)
  have kB := fun w1 (h : Below w5.heap.size w5 w1) LA lc => lif_build w.heap.size w4.heap.size LA A B C lc a b c w1 ⟨rfl, (hc.of h).2.1 0, by have := h.size; omega, hx.of h, hB.of h, hC.of h⟩
  clear hA hB hC hx hc hB4 hb5
  go_upto_region 6 with (fail)
  go_region_held3 (fun w' => FrH w5 (w.heap.size + 1) w' ∧ w'.cell? ⟨w.heap.size, 0, none⟩ = some (.slice A 9 a) ∧ w'.cell? ⟨w.heap.size, 1, none⟩ = some (.int .i64 2))
    (((try go_split_ands); refine FrH.two ?_ hxl hxr g0 hxl hxr g1; with_reducible (first | assumption | exact FrH.drew (FrH.here _ _) | exact FrH.drew ‹_› | exact FrH.of ‹_› hb7 | exact FrH.of ‹_› hb6 | exact FrH.set (FrH.set (FrH.set ‹_› _ _) _ _) _ _ | exact FrH.set (FrH.set (FrH.set (FrH.of ‹_› hb7) _ _) _ _) _ _ | fail)))
    ((first
    | (go_at_call 119; (try go_split_ands); refine (kCl _ (Below.refl _ _).drew).mono ?_; rintro e6 w6 ⟨H2, h2, rfl, hH6, hb6⟩)
    | (go_at_call 118; (try go_split_ands); refine (kB _ (by (repeat' (first | exact Below.refl _ _ | assumption | (refine Below.alloc ?_ ?_ _) | (refine Below.setCell ?_ ?_ _) | (refine Below.drew ?_) | (refine below_drewN ?_ _) | (refine below_after (Ext.below _) ?_ ?_) | (refine below_after (by assumption) ?_ ?_) | (simp; done) | omega | (simp; omega)))) H2 h2).mono ?_; rintro e7 w7 ⟨N2, m2, n2, rfl, hN7, hb7⟩; have hr7 := ((BxW.drew hr).of hb6).of hb7; have ⟨_, r70, r71, r72, f70, f71, f72⟩ := hr7.open3b; have hz7 := hb7.size; have hz6 := hb6.size)
    | fail))
  (try go_split_ands)
  have hwd : w5.drew.heap.size = w5.heap.size := rfl
  have hH7 := hH6.of hb7
  have stp : ∀ (wx : World) (i : Nat) (v : Value), OwnO ekT 101 (w6.heap.size + 12) (fun _ => False) wx N2 m2 n2 lifM → OwnO ekT 101 (w6.heap.size + 12) (fun _ => False) (wx.setCell ⟨w.heap.size + 1, i, none⟩ v) N2 m2 n2 lifM := fun wx i v h =>
    h.grow (grownBy_set wx (w.heap.size + 1) i v) (fun q hq e => by injection e with e; have := (h.lt q hq).1; omega) (fun q e => by injection e with e; exact .inr (by omega)) (fun q _ e => e)
  have stp := Lib.hid stp
  have hmn := hN7.cap
  have hB7 : Below w.heap.size w w7 := below_thru (below_thru hB5.drew hb6) hb7
  clear kCl kB
  go_wp2_with fail
  refine bodyPost_ret (v := .tuple #[.agg #[.int .i64 2, .slice H2 9 h2, .slice N2 m2 n2], .int .i64 0]) (by simp [results, Tryz.results63, go_sem, *, ↓IntWalk.iteOmega]) rfl ?_
  exact ⟨H2, h2, N2, m2, n2, rfl, (((hH7.setBelow (by omega) _).setBelow (by omega) _).setBelow (by omega) _).more (by omega), (stp.out _ _ _ (stp.out _ _ _ (stp.out _ _ _ hN7))).more (by omega), by (repeat' (first | exact Below.refl _ _ | assumption | (refine Below.alloc ?_ ?_ _) | (refine Below.setCell ?_ ?_ _) | (refine Below.drew ?_) | (refine below_drewN ?_ _) | (refine below_after (Ext.below _) ?_ ?_) | (refine below_after (by assumption) ?_ ?_) | (simp; done) | omega | (simp; omega)))⟩
set_option maxHeartbeats 16000000 in
theorem lif_notation (w : World) (hM : Mlx w) :
    Calls Tryz.prog 28 #[.string ⟨#[66, 51, 47, 83, 50, 51]⟩] w fun e w' => ∃ H2 h2 N2 m2 n2, e = .returned (.tuple #[.agg #[.int .i64 2, .slice H2 9 h2, .slice N2 m2 n2], .int .i64 0]) ∧ Rd encP 2 w' H2 9 mooH ∧ RdX ekN w' N2 m2 lifM ∧ m2 ≤ n2 ∧ Below w.heap.size w w' := by
  go_enter Tryz.func28, Tryz.ntmps28
  go_wp2_with fail
  have hr := BxW.new w [.int .i64 0, .slice none 0 0, .slice none 0 0] 25
  rw [arr3] at hr
  have hb1 : Below w.heap.size w (w.alloc (.cells #[.int .i64 0, .slice none 0 0, .slice none 0 0] 25)) := (Below.refl _ _).alloc (Nat.le_refl _) _
  obtain ⟨w1, hw1⟩ : ∃ u, u = w.alloc (.cells #[.int .i64 0, .slice none 0 0, .slice none 0 0] 25) := ⟨_, rfl⟩
  have hs1 : w1.heap.size = w.heap.size + 1 := by rw [hw1]; simp
  rw [← hw1] at hr hb1 ⊢
  clear hw1
  have hM1 := hM.of hb1
  go_at_call 60
  refine (lif_Kind _ hM1).mono ?_
  rintro e w2 ⟨rfl, hb2⟩
  have hs2 := hb2.size
  have hM2 := hM1.of hb2
  replace hr := hr.of hb2
  have hB2 := below_thru hb1 hb2
  clear hM1 hb1 hb2 hM
  go_wp2_with fail
  go_at_call 61
  refine (lif_Parse _ hM2).mono ?_
  rintro e w3 ⟨A, a, B, b, C, c, rfl, hA, hB, hC, hb3⟩
  have hs3 := hb3.size
  replace hr := hr.of hb3
  have hB3 := below_thru hB2 hb3
  clear hM2 hB2 hb3
  go_wp2_with fail
  have hb4 : Below w3.heap.size w3 (w3.alloc (.cells #[.slice A 9 a, .int .i64 2, .slice B 1 b, .slice C 2 c] 118)) := (Below.refl _ _).alloc (Nat.le_refl _) _
  obtain ⟨w4, hw4⟩ : ∃ u, u = w3.alloc (.cells #[.slice A 9 a, .int .i64 2, .slice B 1 b, .slice C 2 c] 118) := ⟨_, rfl⟩
  have hs4 : w4.heap.size = w3.heap.size + 1 := by rw [hw4]; simp
  rw [← hw4] at hb4 ⊢
  clear hw4
  replace hA := hA.of hb4
  replace hB := hB.of hb4
  replace hC := hC.of hb4
  replace hr := hr.of hb4
  have hB4 := below_thru hB3 hb4
  clear hB3 hb4
  go_at_call 63
  refine (lif_Totals A B C a b c _ hA hB hC).mono ?_
  rintro e w5 ⟨H2, h2, N2, m2, n2, rfl, hH, hN, hb5⟩
  have hs5 := hb5.size
  replace hr := hr.of hb5
  have hB5 := below_thru hB4 hb5
  have hmn := hN.cap
  have ⟨hrl, r0, r1, r2, f0, f1, f2⟩ := hr.open3b
  clear hA hB hC hB4 hb5 hr
  go_wp2_with fail
  refine bodyPost_ret (v := .tuple #[.agg #[.int .i64 2, .slice H2 9 h2, .slice N2 m2 n2], .int .i64 0]) (by simp [results, Tryz.results28, go_sem, *, ↓IntWalk.iteOmega]) rfl ?_
  exact ⟨H2, h2, N2, m2, n2, rfl, (((hH.setBelow (by omega) _).setBelow (by omega) _).setBelow (by omega) _).rd encP_len, (((hN.setB (by omega) _ _).setB (by omega) _ _).setB (by omega) _ _).nodes, hmn, by (repeat' (first | exact Below.refl _ _ | assumption | (refine Below.alloc ?_ ?_ _) | (refine Below.setCell ?_ ?_ _) | (refine Below.drew ?_) | (refine below_drewN ?_ _) | (refine below_after (Ext.below _) ?_ ?_) | (refine below_after (by assumption) ?_ ?_) | (simp; done) | omega | (simp; omega)))⟩
theorem lif_glider (w : World) : Calls Tryz.prog 29 #[] w fun e w' => ∃ D d, e = .returned (.slice D 5 d) ∧ Rd encC 3 w' D 5 gliP ∧ 5 ≤ d ∧ Below w.heap.size w w' := by
  go_enter Tryz.func29, Tryz.ntmps29
  go_wp2_with fail
  go_ret
  exact ⟨_, 5, rfl, (Own.lit encC_len w 79 0 (Nat.zero_le _) gliP 5 rfl (by decide) (gliP.flatMap encC) rfl).rd encC_len, Nat.le_refl _, by (repeat' (first | exact Below.refl _ _ | assumption | (refine Below.alloc ?_ ?_ _) | (refine Below.setCell ?_ ?_ _) | (refine Below.drew ?_) | (refine below_drewN ?_ _) | (refine below_after (Ext.below _) ?_ ?_) | (refine below_after (by assumption) ?_ ?_) | (simp; done) | omega | (simp; omega)))⟩
set_option maxHeartbeats 16000000 in
theorem lif_life (w : World) (hM : Mlx w) : Calls Tryz.prog 7 #[] w fun e w' => e = .returned (.bool true) ∧ Below w.heap.size w w' := by
  go_enter Tryz.func7, Tryz.ntmps7
  go_wp2_with fail
  go_at_call 28
  refine (lif_notation _ hM).mono ?_
  rintro e w1 ⟨H2, h2, N2, m2, n2, rfl, hH, hN, hmn, hb1⟩
  have hs1 := hb1.size
  go_upto_region 2 with (fail)
  have hbt := TrAt.new w1 (.int .i64 2) (.slice H2 9 h2) (.slice N2 m2 n2) 25
  have hb2 : Below w1.heap.size w1 (w1.alloc (.cells #[.int .i64 2, .slice H2 9 h2, .slice N2 m2 n2] 25)) := (Below.refl _ _).alloc (Nat.le_refl _) _
  obtain ⟨w2, hw2⟩ : ∃ u, u = w1.alloc (.cells #[.int .i64 2, .slice H2 9 h2, .slice N2 m2 n2] 25) := ⟨_, rfl⟩
  rw [← hw2] at hbt hb2 ⊢
  clear hw2
  replace hH := hH.of hb2
  replace hN := hN.of hb2
  have hB2 := below_thru hb1 hb2
  have hs2 := hB2.size
  have kR := fun D d w3 h1 h2' h3 => direct_Run 2 H2 N2 D 9 h2 m2 n2 5 d mooH lifM gliP w3 4 h1 h2' h3 (by omega)
  rw [show runE 2 mooH lifM gliP 4 = 0 from lif_run, show runL 2 mooH lifM gliP 4 = gliQ from lif_got] at kR
  clear hb1 hb2 hM
  go_region_held3 (fun w' => FrW w2 w' ∧ w'.cell? ⟨w1.heap.size, 0, none⟩ = some (.int .i64 2) ∧ w'.cell? ⟨w1.heap.size, 1, none⟩ = some (.slice H2 9 h2) ∧ w'.cell? ⟨w1.heap.size, 2, none⟩ = some (.slice N2 m2 n2))
    (((try go_split_ands); refine FrW.tr ?_ hbt; with_reducible (first | assumption | exact FrW.drew (FrW.here _) | exact FrW.drew ‹_› | exact FrW.of ‹_› hb5 | exact FrW.of ‹_› hb4 | exact FrW.here _ | fail)))
    ((first
    | (go_at_call 29; (try go_split_ands); refine (lif_glider _).mono ?_; rintro e4 w4 ⟨D, d, rfl, hG, hd, hb4⟩)
    | (go_at_call 17; (try go_split_ands); refine (kR D d _ (hH.of (FrW.below ‹_›)) (hN.of (FrW.below ‹_›)) hG hd).mono ?_; rintro e5 w5 ⟨Q, q, qc, rfl, hQ, hqc, hb5⟩)
    | fail))
  all_goals
    (try go_split_ands)
    have hfw : Below w2.heap.size w2 w5 := FrW.below ‹_›
    have hB5 := below_thru hB2 hfw
    obtain rfl : 5 = q := hQ.len
    obtain ⟨x, y, s, b, o, hx, rfl, hbl, c0, c1, c2⟩ := hQ.cell (show 0 < 5 by omega)
    obtain ⟨rfl, rfl, rfl⟩ : 2 = x ∧ 1 = y ∧ 1 = s := by
      have h := hx.out
      simp only [gliQ, List.getElem?_cons_zero, Option.some.injEq, Prod.mk.injEq] at h
      exact h
    rw [Nat.zero_mul, Nat.add_zero] at c0 c1 c2
    clear kR hx hQ hG
    go_wp2_with fail
    go_ret
    exact ⟨rfl, by (repeat' (first | exact Below.refl _ _ | assumption | (refine Below.alloc ?_ ?_ _) | (refine Below.setCell ?_ ?_ _) | (refine Below.drew ?_) | (refine below_drewN ?_ _) | (refine below_after (Ext.below _) ?_ ?_) | (refine below_after (by assumption) ?_ ?_) | (simp; done) | omega | (simp; omega)))⟩
end Go.Proofs.YtellglbmbocgkaaGreatDoor
