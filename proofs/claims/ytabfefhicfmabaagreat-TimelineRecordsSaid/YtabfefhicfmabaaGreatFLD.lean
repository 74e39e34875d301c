/- The contract of the reference's field.at. The contract of the reference's states. The contract of the reference's states, the flat field. The contracts of the reference's field.earlier and field.near. The contract of the reference's field.near. The contract of the reference's next. The contracts of the reference's Next and Step. The contract of the reference's Step. The contracts of the reference's History and Run. -/
import Derived.Test.YtabfefhicfmabaaGreatDIR
import Derived.Test.YtabfefhicfmabaaGreatCEL
import Derived.StillTailTactics
import Derived.Outline
import Derived.Test.YtabfefhicfmabaaGreatMEM
import Derived.Test.YtabfefhicfmabaaGreatSRT
set_option linter.unusedSimpArgs false
set_option linter.unusedVariables false
section
namespace Go.Proofs.YtabfefhicfmabaaGreat
open Go Go.RowKit
set_option maxRecDepth 100000
/-- A field: its box, whether it is flat, the states of the box's positions if it is, and the pattern. -/
structure FldAt (w : World) (p : List (Int × Int × Int)) (fl : Bool) (X Y : Int) (W h : Nat) (C : Option Addr) (nc : Nat) (P : Option Addr) (k : Nat) : Prop where
  box : BoxOf p X Y W h
  flag : fl = decide (W * h ≤ 40000)
  row : fl = true → nc = h * W ∧ Rd encI 1 w C nc (gridL p X Y W h)
  list : Rd encC 3 w P k p
theorem FldAt.of {w w' : World} {p : List (Int × Int × Int)} {fl : Bool} {X Y : Int} {W h nc k : Nat} {C P : Option Addr} (f : FldAt w p fl X Y W h C nc P k) (hb : Below w.heap.size w w') : FldAt w' p fl X Y W h C nc P k :=
  ⟨f.box, f.flag, fun e => ⟨(f.row e).1, (f.row e).2.of hb⟩, f.list.of hb⟩
set_option maxHeartbeats 4000000 in
theorem fld_at (p : List (Int × Int × Int)) (fl : Bool) (X Y : Int) (W h nc cc k e : Nat) (C P : Option Addr) (x y : Int) (w : World) (hF : FldAt w p fl X Y W h C nc P k) (hk : k ≤ 1000000) (hx : -3000000 ≤ x ∧ x ≤ 3000000) (hy : -3000000 ≤ y ∧ y ≤ 3000000) :
    Calls Tryz.prog 223 #[.agg #[.bool fl, .int .i64 X, .int .i64 Y, .int .i64 W, .int .i64 h, .slice C nc cc, .slice P k e], .int .i64 x, .int .i64 y] w fun e w' => e = .returned (.int .i64 (getC p x y)) ∧ Below w.heap.size w w' := by
  have hbx := hF.box.bx
  cases fl with
  | false =>
    have hR := hF.list
    have kG := fun w1 h1 => ref05_Get P k e p x y w1 h1 hk
    generalize getC p x y = r at kG
    clear hF
    go_enter Tryz.func223, Tryz.ntmps223
    go_wp2_with fail; go_at_call 146; refine (kG _ (hR.of (by (repeat' (first | exact Below.refl _ _ | assumption | (refine Below.alloc ?_ ?_ _) | (refine Below.setCell ?_ ?_ _) | (refine Below.drew ?_) | (refine below_drewN ?_ _) | (refine below_after (Ext.below _) ?_ ?_) | (refine below_after (by assumption) ?_ ?_) | (simp; done) | omega | (simp; omega)))))).mono ?_; rintro e w1 ⟨rfl, hb1⟩; have hs1 := hb1.size; (try simp only [World.size_alloc, World.size_drew, World.size_setCell] at hs1)
    go_wp2_with fail
    go_ret
    exact ⟨rfl, by (repeat' (first | exact Below.refl _ _ | assumption | (refine Below.alloc ?_ ?_ _) | (refine Below.setCell ?_ ?_ _) | (refine Below.drew ?_) | (refine below_drewN ?_ _) | (refine below_after (Ext.below _) ?_ ?_) | (refine below_after (by assumption) ?_ ?_) | (simp; done) | omega | (simp; omega)))⟩
  | true =>
    obtain ⟨hnc, hC⟩ := hF.row rfl
    have hmul : W * h ≤ 40000 := of_decide_eq_true hF.flag.symm
    rcases (show (x < X ∨ X + W ≤ x ∨ y < Y ∨ Y + h ≤ y) ∨ (X ≤ x ∧ x < X + W ∧ Y ≤ y ∧ y < Y + h) by omega) with ho | ⟨i1, i2, i3, i4⟩
    · have HE := Lib.hid (box_out hF.box ho)
      have hways : decide (x < X) = true ∨ (decide (x < X) = false ∧ decide (X + W ≤ x) = true) ∨ (decide (x < X) = false ∧ decide (X + W ≤ x) = false ∧ decide (y < Y) = true) ∨ (decide (x < X) = false ∧ decide (X + W ≤ x) = false ∧ decide (y < Y) = false ∧ decide (Y + h ≤ y) = true) := by
        simp only [decide_eq_true_eq, decide_eq_false_iff_not]; omega
      clear hF ho hC hnc hmul
      rcases hways with d1 | ⟨d1, d2⟩ | ⟨d1, d2, d3⟩ | ⟨d1, d2, d3, d4⟩
      all_goals
        go_enter Tryz.func223, Tryz.ntmps223
        go_wp2_with fail
        go_ret
        exact ⟨ret_int HE.out.symm, by (repeat' (first | exact Below.refl _ _ | assumption | (refine Below.alloc ?_ ?_ _) | (refine Below.setCell ?_ ?_ _) | (refine Below.drew ?_) | (refine below_drewN ?_ _) | (refine below_after (Ext.below _) ?_ ?_) | (refine below_after (by assumption) ?_ ?_) | (simp; done) | omega | (simp; omega)))⟩
    · obtain ⟨i, hi⟩ : ∃ i : Nat, x = X + (i : Nat) := ⟨(x - X).toNat, by omega⟩
      obtain ⟨j, hj⟩ : ∃ j : Nat, y = Y + (j : Nat) := ⟨(y - Y).toNat, by omega⟩
      have hiW : i < W := by omega
      have hjh : j < h := by omega
      have hg := grid_at (p := p) (X := X) (Y := Y) hiW hjh
      rw [← hi, ← hj] at hg
      have hlt := grid_lt hiW hjh
      rw [← hnc] at hlt
      obtain ⟨v, b, o, hv, rfl, hbl, hc⟩ := hC.int hlt
      have HE := Lib.hid (show v = getC p x y by have := hv.out; rw [hg] at this; injection this with this; exact this.symm)
      have d1 : decide (x < X) = false := decide_eq_false (by omega)
      have d2 : decide (X + W ≤ x) = false := decide_eq_false (by omega)
      have d3 : decide (y < Y) = false := decide_eq_false (by omega)
      have d4 : decide (Y + h ≤ y) = false := decide_eq_false (by omega)
      have hle : h * W ≤ 40000 := by rw [Nat.mul_comm]; exact hmul
      have hjw : j * W ≤ 40000 := Nat.le_trans (Nat.mul_le_mul_right W (Nat.le_of_lt hjh)) hle
      obtain ⟨m1, hm1⟩ : ∃ m1, j * W = m1 := ⟨_, rfl⟩
      have q2 : (j : Int) * (W : Int) = (m1 : Int) := by rw [← hm1]; exact (Int.natCast_mul j W).symm
      rw [hm1] at hc hlt hjw
      obtain ⟨K, hK⟩ : ∃ K, m1 + i = K := ⟨_, rfl⟩
      rw [hK] at hc hlt
      clear hF hC hmul hg hv hm1 hnc hle
      have e2 : IntKind.i64.wrap ((j : Int) * (W : Int)) = (m1 : Int) := by rw [q2]; exact IntWalk.i64_in _ (by omega)
      have e2' : wrap64 ((j : Int) * (W : Int)) = (m1 : Int) := by rw [q2]; unfold wrap64; omega
      clear q2
      have e1 : IntKind.i64.wrap (y - Y) = (j : Int) := by rw [IntWalk.i64_in _ (by clear e2 e2'; omega)]; clear e2 e2'; omega
      have e1' : wrap64 (y - Y) = (j : Int) := by clear e1 e2 e2'; unfold wrap64; omega
      have e4 : IntKind.i64.wrap ((m1 : Int) + x - X) = (K : Int) := by clear e1 e1' e2 e2'; rw [IntWalk.i64_in _ (by omega)]; omega
      have e4' : wrap64 ((m1 : Int) + x - X) = (K : Int) := by clear e1 e1' e2 e2' e4; unfold wrap64; omega
      have e3 : IntKind.i64.wrap ((m1 : Int) + x) = (m1 : Int) + x := by clear e1 e1' e2 e2' e4 e4'; exact IntWalk.i64_in _ (by omega)
      have e3' : wrap64 ((m1 : Int) + x) = (m1 : Int) + x := by clear e1 e1' e2 e2' e3 e4 e4'; unfold wrap64; omega
      have l1 : (0 : Int) ≤ (K : Int) := by clear e1 e1' e2 e2' e3 e3' e4 e4'; omega
      have l2 : (K : Int) < (nc : Int) := by clear e1 e1' e2 e2' e3 e3' e4 e4'; omega
      generalize getC p x y = r at HE ⊢
      clear hi hj hK hjw i1 i2 i3 i4
      go_enter Tryz.func223, Tryz.ntmps223
      go_wp2_with fail
      go_ret
      exact ⟨ret_int HE.out, by (repeat' (first | exact Below.refl _ _ | assumption | (refine Below.alloc ?_ ?_ _) | (refine Below.setCell ?_ ?_ _) | (refine Below.drew ?_) | (refine below_drewN ?_ _) | (refine below_after (Ext.below _) ?_ ?_) | (refine below_after (by assumption) ?_ ?_) | (simp; done) | omega | (simp; omega)))⟩
end Go.Proofs.YtabfefhicfmabaaGreat
end
section
namespace Go.Proofs.YtabfefhicfmabaaGreat
open Go Go.RowKit
set_option maxRecDepth 100000
theorem fin_and {P Q : Prop} (h : Q) (f : Q → P) : P ∧ Q := ⟨f h, h⟩
theorem below_set7 {B b : Nat} {a w : World} {v0 v1 v2 v3 v4 v5 v6 : Value} (hb : B ≤ b) (h : Below B a w) : Below B a (((((((w.setCell ⟨b, 0, none⟩ v0).setCell ⟨b, 1, none⟩ v1).setCell ⟨b, 2, none⟩ v2).setCell ⟨b, 3, none⟩ v3).setCell ⟨b, 4, none⟩ v4).setCell ⟨b, 5, none⟩ v5).setCell ⟨b, 6, none⟩ v6) :=
  ((((((h.setCell hb _).setCell hb _).setCell hb _).setCell hb _).setCell hb _).setCell hb _).setCell hb _
theorem ref05_BoxS (A : Option Addr) (n c : Nat) (l : List (Int × Int × Int)) (w : World) (hR : Rd encC 3 w A n l) (hn : n ≤ 1000000) : Calls Tryz.prog 221 #[.slice A n c] w fun e w' => e = .returned (.tuple #[.agg #[.int .i64 (arX (bxPos l)), .int .i64 (arY (bxPos l)), .int .i64 (arW (bxPos l)), .int .i64 (arH (bxPos l))], .bool (arOk (bxPos l))]) ∧ Below w.heap.size w w' := ref05_Box A n c l w hR hn
set_option maxHeartbeats 4000000 in
theorem ref20_states_far (P : Option Addr) (k e : Nat) (p : List (Int × Int × Int)) (W h : Nat) (w : World) (hR : Rd encC 3 w P k p) (hr : rightC p = true) (hW : arW (bxPos p) = W) (hh : arH (bxPos p) = h) (hb : BoxOf p (arX (bxPos p)) (arY (bxPos p)) W h) (hm : 40000 < W * h) :
    Calls Tryz.prog 183 #[.slice P k e] w fun e' w' => e' = .returned (.agg #[.bool false, .int .i64 (arX (bxPos p)), .int .i64 (arY (bxPos p)), .int .i64 W, .int .i64 h, .slice none 0 0, .slice P k e]) ∧ FldAt w' p false (arX (bxPos p)) (arY (bxPos p)) W h none 0 P k ∧ Below w.heap.size w w' := by
  have hk5 : k ≤ 5000 := by rw [← hR.len]; exact (rightC_ok hr).1
  have kB := fun w1 h1 => ref05_BoxS P k e p w1 h1 (by omega)
  rw [hW, hh] at kB
  have hbx := hb.bx
  have hM : W * h ≤ 4398050705409 := box_mul (by omega) (by omega)
  have HB := Lib.hid (show BoxOf p (arX (bxPos p)) (arY (bxPos p)) W h ∧ false = decide (W * h ≤ 40000) from ⟨hb, (decide_eq_false (by omega)).symm⟩)
  generalize arX (bxPos p) = X at kB HB hbx ⊢
  generalize arY (bxPos p) = Y at kB HB hbx ⊢
  generalize arOk (bxPos p) = ok at kB
  obtain ⟨M, hMM⟩ : ∃ M, W * h = M := ⟨_, rfl⟩
  have q2 : (W : Int) * (h : Int) = (M : Int) := by rw [← hMM]; exact (Int.natCast_mul W h).symm
  rw [hMM] at hm hM
  clear hb hW hh hr hMM
  have e2 : IntKind.i64.wrap ((W : Int) * (h : Int)) = (M : Int) := by rw [q2]; exact IntWalk.i64_in _ (by omega)
  have e2' : wrap64 ((W : Int) * (h : Int)) = (M : Int) := by rw [q2]; unfold wrap64; omega
  clear q2
  have d1 : decide ((M : Int) ≤ 40000) = false := by clear e2 e2'; exact decide_eq_false (by omega)
  have d2 : decide (M ≤ 40000) = false := by clear e2 e2'; exact decide_eq_false (by omega)
  go_enter Tryz.func183, Tryz.ntmps183
  go_wp2_with fail; go_at_call 221; refine (kB _ (hR.of (by (repeat' (first | exact Below.refl _ _ | assumption | (refine Below.alloc ?_ ?_ _) | (refine Below.setCell ?_ ?_ _) | (refine Below.drew ?_) | (refine below_drewN ?_ _) | (refine below_after (Ext.below _) ?_ ?_) | (refine below_after (by assumption) ?_ ?_) | (simp; done) | omega | (simp; omega)))))).mono ?_; rintro e w1 ⟨rfl, hb1⟩; have hs1 := hb1.size; (try simp only [World.size_alloc, World.size_drew, World.size_setCell] at hs1); obtain ⟨hc1, hf1⟩ := bcell hb1; (try simp only [World.size_alloc, World.size_setCell, World.size_drew] at hc1 hf1)
  go_wp2_with fail
  refine bodyPost_ret (v := .agg #[.bool false, .int .i64 X, .int .i64 Y, .int .i64 W, .int .i64 h, .slice none 0 0, .slice P k e]) (by simp [results, Tryz.results183, go_sem, *, ↓IntWalk.iteOmega]) rfl ?_
  have hbw : Below w.heap.size w w1 := below_thruA (Below.refl _ _) hb1
  refine ⟨rfl, fin_and ?_ (fun hfin => ⟨HB.out.1, HB.out.2, fun h => (by cases h), hR.of hfin⟩)⟩
  exact below_set7 (Nat.le_refl _) ((hbw.alloc hbw.size _).alloc (by have := hbw.size; simp; omega) _)
end Go.Proofs.YtabfefhicfmabaaGreat
end
section
namespace Go.Proofs.YtabfefhicfmabaaGreat
open Go Go.RowKit
set_option maxRecDepth 100000
theorem rd_set {w : World} {g b i n : Nat} {v : Value} {l : List Int} (h : Rd encI 1 w (some ⟨g, 0, none⟩) n l) (hb : b < g) : Rd encI 1 (w.setCell ⟨b, i, none⟩ v) (some ⟨g, 0, none⟩) n l := by
  refine ⟨h.1, fun hn => ?_⟩
  obtain ⟨b', o, e, hlt, hc⟩ := h.2 hn
  injection e with e
  injection e with e1 e2
  subst e1 e2
  refine ⟨g, 0, rfl, by simpa [World.setCell] using hlt, fun i x hi j u hu => ?_⟩
  rw [cell_setCell_if, if_neg (by omega)]
  exact hc i x hi j u hu
theorem rd_set7 {w : World} {g b n : Nat} {v0 v1 v2 v3 v4 v5 v6 : Value} {l : List Int} (h : Rd encI 1 w (some ⟨g, 0, none⟩) n l) (hb : b < g) : Rd encI 1 (((((((w.setCell ⟨b, 0, none⟩ v0).setCell ⟨b, 1, none⟩ v1).setCell ⟨b, 2, none⟩ v2).setCell ⟨b, 3, none⟩ v3).setCell ⟨b, 4, none⟩ v4).setCell ⟨b, 5, none⟩ v5).setCell ⟨b, 6, none⟩ v6) (some ⟨g, 0, none⟩) n l :=
  rd_set (rd_set (rd_set (rd_set (rd_set (rd_set (rd_set h hb) hb) hb) hb) hb) hb) hb
set_option maxHeartbeats 4000000 in
theorem ref20_states_flat (P : Option Addr) (k e : Nat) (p : List (Int × Int × Int)) (W h : Nat) (w : World) (hR : Rd encC 3 w P k p) (hr : rightC p = true) (hW : arW (bxPos p) = W) (hh : arH (bxPos p) = h) (hb : BoxOf p (arX (bxPos p)) (arY (bxPos p)) W h) (hm : W * h ≤ 40000) :
    Calls Tryz.prog 183 #[.slice P k e] w fun e' w' => ∃ C, e' = .returned (.agg #[.bool true, .int .i64 (arX (bxPos p)), .int .i64 (arY (bxPos p)), .int .i64 W, .int .i64 h, .slice C (h * W) (h * W), .slice P k e]) ∧ FldAt w' p true (arX (bxPos p)) (arY (bxPos p)) W h C (h * W) P k ∧ Below w.heap.size w w' := by
  have hk5 : k ≤ 5000 := by rw [← hR.len]; exact (rightC_ok hr).1
  have kB := fun w1 h1 => ref05_BoxS P k e p w1 h1 (by omega)
  rw [hW, hh] at kB
  have hbx := hb.bx
  have hM : W * h ≤ 4398050705409 := box_mul (by omega) (by omega)
  have HB := Lib.hid (show BoxOf p (arX (bxPos p)) (arY (bxPos p)) W h ∧ true = decide (W * h ≤ 40000) from ⟨hb, (decide_eq_true hm).symm⟩)
  generalize arX (bxPos p) = X at kB HB hbx ⊢
  generalize arY (bxPos p) = Y at kB HB hbx ⊢
  generalize arOk (bxPos p) = ok at kB
  obtain ⟨M, hMM⟩ : ∃ M, W * h = M := ⟨_, rfl⟩
  have hsr := Lib.hid (rightC_sorted hr)
  have hRl := Lib.hid hR.len
  have q2 : (W : Int) * (h : Int) = (M : Int) := by rw [← hMM]; exact (Int.natCast_mul W h).symm
  rw [hMM] at hm hM
  clear hb hW hh hr
  replace hMM := Lib.hid hMM
  have e2 : IntKind.i64.wrap ((W : Int) * (h : Int)) = (M : Int) := by rw [q2]; exact IntWalk.i64_in _ (by omega)
  have e2' : wrap64 ((W : Int) * (h : Int)) = (M : Int) := by rw [q2]; unfold wrap64; omega
  clear q2
  have d1 : decide ((M : Int) ≤ 40000) = true := by clear e2 e2'; exact decide_eq_true (by omega)
  have d2 : decide (M ≤ 40000) = true := by clear e2 e2'; exact decide_eq_true (by omega)
  go_enter Tryz.func183, Tryz.ntmps183
  go_wp2_with fail; go_at_call 221; refine (kB _ (hR.of (by (repeat' (first | exact Below.refl _ _ | assumption | (refine Below.alloc ?_ ?_ _) | (refine Below.setCell ?_ ?_ _) | (refine Below.drew ?_) | (refine below_drewN ?_ _) | (refine below_after (Ext.below _) ?_ ?_) | (refine below_after (by assumption) ?_ ?_) | (simp; done) | omega | (simp; omega)))))).mono ?_; rintro e w1 ⟨rfl, hb1⟩; have hs1 := hb1.size; (try simp only [World.size_alloc, World.size_drew, World.size_setCell] at hs1); obtain ⟨hc1, hf1⟩ := bcell hb1; (try simp only [World.size_alloc, World.size_setCell, World.size_drew] at hc1 hf1)
  have hmk := fun w => run_make_ints Tryz.underlying84 M (by clear e2 e2'; omega) w
  go_wp2_with fail
  have zc1 : ∀ i, w1.cell? ⟨w.heap.size, i, none⟩ = (#[Value.bool false, .int .i64 0, .int .i64 0, .int .i64 0, .int .i64 0, .slice none 0 0, .slice none 0 0] : Array Value)[i]? := fun i => by
    rw [hb1.cell (p := ⟨_, _, none⟩) (by simp), cell_alloc_if, if_neg (by omega), if_pos rfl]
  have zf1 : ∀ i, w1.frozen? ⟨w.heap.size, i, none⟩ = false := fun i => by
    rw [hb1.frozen (p := ⟨_, _, none⟩) (by simp), frozen_alloc_if, if_neg (by omega)]
  have hbw : Below w.heap.size w w1 := below_thruA (Below.refl _ _) hb1
  have hsw : w.heap.size < w1.heap.size := by have := hb1.size; simp at this; omega
  have hbl : Below w.heap.size w (((w1.alloc (.cells #[.int .i64 X, .int .i64 Y, .int .i64 (W : Int), .int .i64 (h : Int)] 218)).alloc (.cells #[.bool true, .int .i64 X, .int .i64 Y, .int .i64 (W : Int), .int .i64 (h : Int), .slice (some ⟨w1.heap.size + 1 + 1, 0, none⟩) M M, .slice P k e] 220)).alloc (.cells (madeCells #[.int .i64 0] M) 3)) :=
    ((hbw.alloc hbw.size _).alloc (by simp; omega) _).alloc (by simp; omega) _
  have hO0 := own_made ((w1.alloc (.cells #[.int .i64 X, .int .i64 Y, .int .i64 (W : Int), .int .i64 (h : Int)] 218)).alloc (.cells #[.bool true, .int .i64 X, .int .i64 Y, .int .i64 (W : Int), .int .i64 (h : Int), .slice (some ⟨w1.heap.size + 1 + 1, 0, none⟩) M M, .slice P k e] 220)) 3 (w1.heap.size + 1 + 1) (by simp) M (by clear e2 e2'; omega)
  rw [World.size_alloc, World.size_alloc] at hO0
  have hcl : ∀ b i, b < w1.heap.size + 1 + 1 → (((w1.alloc (.cells #[.int .i64 X, .int .i64 Y, .int .i64 (W : Int), .int .i64 (h : Int)] 218)).alloc (.cells #[.bool true, .int .i64 X, .int .i64 Y, .int .i64 (W : Int), .int .i64 (h : Int), .slice (some ⟨w1.heap.size + 1 + 1, 0, none⟩) M M, .slice P k e] 220)).alloc (.cells (madeCells #[.int .i64 0] M) 3)).cell? ⟨b, i, none⟩ = if b < w1.heap.size then w1.cell? ⟨b, i, none⟩ else if b = w1.heap.size then (#[Value.int .i64 X, .int .i64 Y, .int .i64 (W : Int), .int .i64 (h : Int)] : Array Value)[i]? else (#[Value.bool true, .int .i64 X, .int .i64 Y, .int .i64 (W : Int), .int .i64 (h : Int), .slice (some ⟨w1.heap.size + 1 + 1, 0, none⟩) M M, .slice P k e] : Array Value)[i]? := fun b i hb => by
    rw [cell_alloc_if, if_pos (by simp; omega), cell_alloc_if]
    by_cases h1 : b < w1.heap.size
    · rw [if_pos (by simp; omega), cell_alloc_if, if_pos h1, if_pos h1]
    · rw [if_neg h1]
      by_cases h2 : b = w1.heap.size
      · rw [if_pos (by simp; omega), cell_alloc_if, if_neg h1, if_pos h2, if_pos h2]
      · rw [if_neg (by simp; omega), if_pos (by simp; omega), if_neg h2]
  have hfl : (((w1.alloc (.cells #[.int .i64 X, .int .i64 Y, .int .i64 (W : Int), .int .i64 (h : Int)] 218)).alloc (.cells #[.bool true, .int .i64 X, .int .i64 Y, .int .i64 (W : Int), .int .i64 (h : Int), .slice (some ⟨w1.heap.size + 1 + 1, 0, none⟩) M M, .slice P k e] 220)).alloc (.cells (madeCells #[.int .i64 0] M) 3)).frozen? ⟨w.heap.size, 0, none⟩ = false → True := fun _ => trivial
  have hfz : ∀ i, (((w1.alloc (.cells #[.int .i64 X, .int .i64 Y, .int .i64 (W : Int), .int .i64 (h : Int)] 218)).alloc (.cells #[.bool true, .int .i64 X, .int .i64 Y, .int .i64 (W : Int), .int .i64 (h : Int), .slice (some ⟨w1.heap.size + 1 + 1, 0, none⟩) M M, .slice P k e] 220)).alloc (.cells (madeCells #[.int .i64 0] M) 3)).frozen? ⟨w.heap.size, i, none⟩ = false := fun i => by
    rw [frozen_alloc_if, if_pos (by simp; omega), frozen_alloc_if, if_pos (by simp; omega), frozen_alloc_if, if_pos hsw]; exact zf1 i
  obtain ⟨wl, hwl⟩ : ∃ wl, wl = ((w1.alloc (.cells #[.int .i64 X, .int .i64 Y, .int .i64 (W : Int), .int .i64 (h : Int)] 218)).alloc (.cells #[.bool true, .int .i64 X, .int .i64 Y, .int .i64 (W : Int), .int .i64 (h : Int), .slice (some ⟨w1.heap.size + 1 + 1, 0, none⟩) M M, .slice P k e] 220)).alloc (.cells (madeCells #[.int .i64 0] M) 3) := ⟨_, rfl⟩
  have hsl : wl.heap.size = w1.heap.size + 1 + 1 + 1 := by rw [hwl]; simp
  rw [← hwl] at hbl hO0 hcl hfz ⊢
  replace hsl := Lib.hid hsl
  replace hcl := Lib.hid hcl
  replace hfz := Lib.hid hfz
  replace zc1 := Lib.hid zc1
  clear hfl hwl zf1 hc1 hf1 hb1 hs1 hmk d1 d2 e2 e2' kB
  go_loopw [6] (fun t wr => ∃ j : Nat, t = .int .i64 j ∧ j ≤ k ∧ Own encI 1 3 (w1.heap.size + 1 + 1) wr (some ⟨w1.heap.size + 1 + 1, 0, none⟩) M M (gridL (p.take j) X Y W h) ∧ Below (w1.heap.size + 1 + 1) wl wr) (fun t _ => k - (intOf t).toNat)
  case atStart => exact ⟨0, rfl, by omega, by rw [List.take_zero, grid_zero, Nat.mul_comm, hMM.out]; exact hO0, Below.refl _ _⟩
  case round =>
    clear hO0
    obtain ⟨j, rfl, hj, hO, hb⟩ := hrel
    have hsz := hb.size
    rw [hsl.out] at hsz
    have hbf : Below w.heap.size w wr := (hbl.trans (hb.mono (by omega)))
    have b3 : ∀ i, wr.cell? ⟨w1.heap.size, i, none⟩ = (#[Value.int .i64 X, .int .i64 Y, .int .i64 (W : Int), .int .i64 (h : Int)] : Array Value)[i]? := fun i => by
      rw [hb.cell (p := ⟨_, _, none⟩) (by show w1.heap.size < _; omega), hcl.out _ _ (by omega), if_neg (by omega), if_pos rfl]
    have b5 : ∀ i, wr.cell? ⟨w1.heap.size + 1, i, none⟩ = (#[Value.bool true, .int .i64 X, .int .i64 Y, .int .i64 (W : Int), .int .i64 (h : Int), .slice (some ⟨w1.heap.size + 1 + 1, 0, none⟩) M M, .slice P k e] : Array Value)[i]? := fun i => by
      rw [hb.cell (p := ⟨_, _, none⟩) (by show w1.heap.size + 1 < _; omega), hcl.out _ _ (by omega), if_neg (by omega), if_neg (by omega)]
    by_cases hlj : j < k
    · have dj : decide ((j : Int) < k) = true := decide_eq_true (by omega)
      have dj' : decide (j < k) = true := decide_eq_true hlj
      obtain ⟨x, y, s, bo, o, hx, rfl, hbo, g1, g2, g3⟩ := (hR.of hbf).cell hlj
      have hin := HB.out.1.cells _ (List.mem_of_getElem? hx.out)
      simp only at hin
      obtain ⟨i, hi⟩ : ∃ i : Nat, x = X + (i : Nat) := ⟨(x - X).toNat, by omega⟩
      obtain ⟨q, hq⟩ : ∃ q : Nat, y = Y + (q : Nat) := ⟨(y - Y).toNat, by omega⟩
      have hiW : i < W := by omega
      have hqh : q < h := by omega
      have hst := Lib.hid (grid_set (X := X) (Y := Y) (W := W) (h := h) hsr.out hx.out hiW hqh hi hq)
      have hlt := grid_lt hiW hqh
      rw [Nat.mul_comm h W, hMM.out] at hlt
      have hqw : q * W ≤ M := by omega
      obtain ⟨m1, hm1⟩ : ∃ m1, q * W = m1 := ⟨_, rfl⟩
      have q2 : (q : Int) * (W : Int) = (m1 : Int) := by rw [← hm1]; exact (Int.natCast_mul q W).symm
      rw [hm1] at hlt hqw hst
      obtain ⟨K, hK⟩ : ∃ K, m1 + i = K := ⟨_, rfl⟩
      rw [hK] at hlt hst
      clear hm1
      obtain ⟨v, _, hg0, hc0, hz0, _, _⟩ := hO.intCell hlt
      have e2 : IntKind.i64.wrap ((q : Int) * (W : Int)) = (m1 : Int) := by rw [q2]; exact IntWalk.i64_in _ (by omega)
      have e2' : wrap64 ((q : Int) * (W : Int)) = (m1 : Int) := by rw [q2]; unfold wrap64; omega
      clear q2
      have e1 : IntKind.i64.wrap (y - Y) = (q : Int) := by rw [IntWalk.i64_in _ (by clear e2 e2'; omega)]; clear e2 e2'; omega
      have e1' : wrap64 (y - Y) = (q : Int) := by clear e1 e2 e2'; unfold wrap64; omega
      have e4 : IntKind.i64.wrap ((m1 : Int) + x - X) = (K : Int) := by clear e1 e1' e2 e2'; rw [IntWalk.i64_in _ (by omega)]; omega
      have e4' : wrap64 ((m1 : Int) + x - X) = (K : Int) := by clear e1 e1' e2 e2' e4; unfold wrap64; omega
      have e3 : IntKind.i64.wrap ((m1 : Int) + x) = (m1 : Int) + x := by clear e1 e1' e2 e2' e4 e4'; exact IntWalk.i64_in _ (by omega)
      have e3' : wrap64 ((m1 : Int) + x) = (m1 : Int) + x := by clear e1 e1' e2 e2' e3 e4 e4'; unfold wrap64; omega
      have l1 : (0 : Int) ≤ (K : Int) := by clear e1 e1' e2 e2' e3 e3' e4 e4'; omega
      have l2 : (K : Int) < (M : Int) := by clear e1 e1' e2 e2' e3 e3' e4 e4'; omega
      clear hi hq hK hqw hin hx
      go_wp2_with fail
      go_still_tail 28, (by kernel_rfl)
      go_wp2_with fail
      go_roundw
      case rel => exact ⟨j + 1, by go_num, by omega, by rw [← hst.out]; first | exact (own_setI hO hlt s).drew | exact own_setI hO.drew hlt s, by first | exact (hb.setCell (Nat.le_refl _) _).drew | exact hb.drew.setCell (Nat.le_refl _) _⟩
      case measure => simp [intOf]; omega
    · obtain rfl : j = k := by omega
      have dj : decide ((j : Int) < j) = false := decide_eq_false (by omega)
      have dj' : decide (j < j) = false := decide_eq_false (by omega)
      have zc : ∀ i, wr.cell? ⟨w.heap.size, i, none⟩ = (#[Value.bool false, .int .i64 0, .int .i64 0, .int .i64 0, .int .i64 0, .slice none 0 0, .slice none 0 0] : Array Value)[i]? := fun i => by
        rw [hb.cell (p := ⟨_, _, none⟩) (by show w.heap.size < _; omega), hcl.out _ _ (by omega), if_pos hsw]; exact zc1.out i
      have zf : ∀ i, wr.frozen? ⟨w.heap.size, i, none⟩ = false := fun i => by
        rw [hb.frozen (p := ⟨_, _, none⟩) (by show w.heap.size < _; omega)]; exact hfz.out i
      have hRo := hO.rd encI_len
      rw [List.take_of_length_le (by rw [hRl.out]; exact Nat.le_refl _)] at hRo
      go_wp2_with fail
      refine bodyPost_ret (v := .agg #[.bool true, .int .i64 X, .int .i64 Y, .int .i64 W, .int .i64 h, .slice (some ⟨w1.heap.size + 1 + 1, 0, none⟩) M M, .slice P j e]) (by simp [results, Tryz.results183, go_sem, *, ↓IntWalk.iteOmega]) rfl ?_
      refine ⟨_, by rw [Nat.mul_comm h W, hMM.out], fin_and ?_ (fun hfin => ⟨HB.out.1, HB.out.2, fun _ => ⟨rfl, by rw [Nat.mul_comm h W, hMM.out]; exact rd_set7 hRo (Nat.lt_succ_of_lt (Nat.lt_succ_of_lt hsw))⟩, hR.of hfin⟩)⟩
      exact below_set7 (Nat.le_refl _) hbf
theorem ref20_states (P : Option Addr) (k e : Nat) (p : List (Int × Int × Int)) (w : World) (hR : Rd encC 3 w P k p) (hr : rightC p = true) :
    Calls Tryz.prog 183 #[.slice P k e] w fun e' w' => ∃ fl X Y W h C nc cc, e' = .returned (.agg #[.bool fl, .int .i64 X, .int .i64 Y, .int .i64 ((W : Nat) : Int), .int .i64 ((h : Nat) : Int), .slice C nc cc, .slice P k e]) ∧ FldAt w' p fl X Y W h C nc P k ∧ Below w.heap.size w w' := by
  obtain ⟨W, h, hW, hh, hb⟩ := box_of hr
  by_cases hm : W * h ≤ 40000
  · exact (ref20_states_flat P k e p W h w hR hr hW hh hb hm).mono fun _ _ ⟨C, h1, h2, h3⟩ => ⟨_, _, _, _, _, C, _, _, h1, h2, h3⟩
  · exact (ref20_states_far P k e p W h w hR hr hW hh hb (by omega)).mono fun _ _ ⟨h1, h2, h3⟩ => ⟨_, _, _, _, _, none, 0, 0, h1, h2, h3⟩
end Go.Proofs.YtabfefhicfmabaaGreat
end
section
namespace Go.Proofs.YtabfefhicfmabaaGreat
open Go Go.RowKit
set_option maxRecDepth 100000
/-- A box of seven values. -/
def SvAt (w : World) (b : Nat) (cs : Array Value) : Prop := b < w.heap.size ∧ ∀ i, w.cell? ⟨b, i, none⟩ = cs[i]?
theorem SvAt.of {w w' : World} {b : Nat} {cs : Array Value} (h : SvAt w b cs) (hb : Below w.heap.size w w') : SvAt w' b cs := ⟨Nat.lt_of_lt_of_le h.1 hb.size, fun i => by rw [hb.cell (p := ⟨_, _, none⟩) h.1]; exact h.2 i⟩
theorem SvAt.new (w : World) (cs : Array Value) (t : TypeId) : SvAt (w.alloc (.cells cs t)) w.heap.size cs := ⟨by simp, fun i => by rw [cell_alloc_if, if_neg (by omega), if_pos rfl]⟩
theorem near_no {p : List (Int × Int × Int)} {n k : Nat} {q : Int × Int} (hl : p.length = k) (hn : n ≤ k) (h : ∀ (i : Nat) c, i < n → p[i]? = some c → ¬(q.1 - c.1 ≤ 2 ∧ c.1 - q.1 ≤ 2 ∧ q.2 - c.2.1 ≤ 2 ∧ c.2.1 - q.2 ≤ 2)) : nearC (p.take n) q = false := by
  unfold nearC
  rw [List.any_eq_false]
  intro c hc
  obtain ⟨i, hi⟩ := List.getElem?_of_mem hc
  rw [List.getElem?_take] at hi
  split at hi
  · have := h i c ‹_› hi
    simpa using this
  · cases hi
theorem near_yes {p : List (Int × Int × Int)} {n i : Nat} {c : Int × Int × Int} {q : Int × Int} (hi : i < n) (hc : p[i]? = some c) (h : q.1 - c.1 ≤ 2 ∧ c.1 - q.1 ≤ 2 ∧ q.2 - c.2.1 ≤ 2 ∧ c.2.1 - q.2 ≤ 2) : nearC (p.take n) q = true := by
  unfold nearC
  refine List.any_eq_true.2 ⟨c, ?_, decide_eq_true h⟩
  have : (p.take n)[i]? = some c := by rw [List.getElem?_take, if_pos hi]; exact hc
  exact List.mem_of_getElem? this
set_option maxHeartbeats 4000000 in
theorem fld_earlier (p : List (Int × Int × Int)) (fl : Bool) (X Y : Int) (W h nc cc k e n : Nat) (C P : Option Addr) (x y : Int) (w : World) (hR : Rd encC 3 w P k p) (hr : rightC p = true) (hn : n ≤ k) (hx : -3000000 ≤ x ∧ x ≤ 3000000) (hy : -3000000 ≤ y ∧ y ≤ 3000000) :
    Calls Tryz.prog 222 #[.agg #[.bool fl, .int .i64 X, .int .i64 Y, .int .i64 W, .int .i64 h, .slice C nc cc, .slice P k e], .int .i64 n, .agg #[.int .i64 x, .int .i64 y]] w fun e w' => e = .returned (.bool (nearC (p.take n) (x, y))) ∧ Below w.heap.size w w' := by
  have hk5 : k ≤ 5000 := by rw [← hR.len]; exact (rightC_ok hr).1
  have hRl := Lib.hid hR.len
  have hr := Lib.hid hr
  go_enter Tryz.func222, Tryz.ntmps222
  go_wp2_with fail
  have hsv := (SvAt.new w #[.bool fl, .int .i64 X, .int .i64 Y, .int .i64 W, .int .i64 h, .slice C nc cc, .slice P k e] 220).of ((Below.refl _ _).alloc (Nat.le_refl _) (.cells #[.int .i64 x, .int .i64 y] 114))
  have hdx := DuAt.new (w.alloc (.cells #[.bool fl, .int .i64 X, .int .i64 Y, .int .i64 W, .int .i64 h, .slice C nc cc, .slice P k e] 220)) (.int .i64 x) (.int .i64 y) 114
  rw [World.size_alloc] at hdx
  have hbe : Below w.heap.size w ((w.alloc (.cells #[.bool fl, .int .i64 X, .int .i64 Y, .int .i64 W, .int .i64 h, .slice C nc cc, .slice P k e] 220)).alloc (.cells #[.int .i64 x, .int .i64 y] 114)) := by (repeat' (first | exact Below.refl _ _ | assumption | (refine Below.alloc ?_ ?_ _) | (refine Below.setCell ?_ ?_ _) | (refine Below.drew ?_) | (refine below_drewN ?_ _) | (refine below_after (Ext.below _) ?_ ?_) | (refine below_after (by assumption) ?_ ?_) | (simp; done) | omega | (simp; omega)))
  obtain ⟨we, hwe⟩ : ∃ we, we = (w.alloc (.cells #[.bool fl, .int .i64 X, .int .i64 Y, .int .i64 W, .int .i64 h, .slice C nc cc, .slice P k e] 220)).alloc (.cells #[.int .i64 x, .int .i64 y] 114) := ⟨_, rfl⟩
  rw [← hwe] at hsv hdx hbe ⊢
  replace hR := hR.of hbe
  clear hwe
  go_loopw [7] (fun t wr => ∃ j : Nat, t = .int .i64 j ∧ j ≤ n ∧ Below we.heap.size we wr ∧ Hid (∀ (i : Nat) c, i < j → p[i]? = some c → ¬((x, y).1 - c.1 ≤ 2 ∧ c.1 - (x, y).1 ≤ 2 ∧ (x, y).2 - c.2.1 ≤ 2 ∧ c.2.1 - (x, y).2 ≤ 2))) (fun t _ => n - (intOf t).toNat)
  case atStart => exact ⟨0, rfl, by omega, Below.refl _ _, Lib.hid fun i c hi => absurd hi (by omega)⟩
  case round =>
    obtain ⟨j, rfl, hj, hb, hno⟩ := hrel
    have hsz := hb.size
    have hsz0 := hbe.size
    have hfin : Below w.heap.size w wr := below_thru hbe hb
    obtain ⟨hb7, s7⟩ := hsv.of hb
    obtain ⟨hb2, y0, y1⟩ := hdx.of hb
    by_cases hlj : j < n
    · have dj : decide ((j : Int) < n) = true := decide_eq_true (by omega)
      have dj' : decide (j < n) = true := decide_eq_true hlj
      obtain ⟨cx, cy, s, b, o, hx', rfl, hbl, g1, g2, g3⟩ := (hR.of hb).cell (i := j) (by omega)
      have hpt := (rightC_elem hr.out hx'.out).1
      unfold Pt at hpt
      have i0 : (0 : Int) ≤ (j : Int) := by omega
      have i1 : (j : Int) < (k : Int) := by omega
      obtain ⟨u1, hu1⟩ : ∃ u1, u1 = x - cx := ⟨_, rfl⟩
      obtain ⟨u2, hu2⟩ : ∃ u2, u2 = y - cy := ⟨_, rfl⟩
      have ex : IntKind.i64.wrap (x - cx) = u1 := (IntWalk.i64_in _ (by omega)).trans hu1.symm
      have ey : IntKind.i64.wrap (y - cy) = u2 := (IntWalk.i64_in _ (by omega)).trans hu2.symm
      have hub : (-5000000 ≤ u1 ∧ u1 ≤ 5000000) ∧ -5000000 ≤ u2 ∧ u2 ≤ 5000000 := by omega
      rcases (show (¬(-2 ≤ u1 ∧ u1 ≤ 2)) ∨ ((-2 ≤ u1 ∧ u1 ≤ 2) ∧ ¬(-2 ≤ u2 ∧ u2 ≤ 2)) ∨ ((-2 ≤ u1 ∧ u1 ≤ 2) ∧ -2 ≤ u2 ∧ u2 ≤ 2) by omega) with c1 | ⟨c1, c2⟩ | ⟨c1, c2⟩
      · have d1 : decide (max u1 (-u1) ≤ 2) = false := decide_eq_false (by omega)
        have hst := Lib.hid (show ¬((x, y).1 - cx ≤ 2 ∧ cx - (x, y).1 ≤ 2 ∧ (x, y).2 - cy ≤ 2 ∧ cy - (x, y).2 ≤ 2) by simp only; omega)
        clear hu1 hu2 c1 hpt
        go_wp2_with fail
        (refine wp_region_ext_lit (by kernel_rfl) (by kernel_rfl) ?_; (repeat (go_big_quiet_step (fail))); refine wpQuiet_nil ?_; intro _ hw'; obtain ⟨z3, hw''⟩ := hw'; subst hw''; have hs3 := z3.size; obtain ⟨hc3, hf3⟩ := bcell z3.below; (try simp only [World.size_alloc, World.size_setCell, World.size_drew] at hc3 hf3); (try simp at hs3))
        go_wp2_with fail
        go_roundw
        case rel => exact ⟨j + 1, by go_num, by omega, (by (repeat' (first | exact Below.refl _ _ | assumption | (refine Below.alloc ?_ ?_ _) | (refine Below.setCell ?_ ?_ _) | (refine Below.drew ?_) | (refine below_drewN ?_ _) | (refine below_after (Ext.below _) ?_ ?_) | (refine below_after (by assumption) ?_ ?_) | (simp; done) | omega | (simp; omega)))), Lib.hid fun i c hi hc => by
          rcases Nat.lt_or_ge i j with g | g
          · exact hno.out i c g hc
          · obtain rfl : i = j := by omega
            rw [hx'.out] at hc; injection hc with hc; rw [← hc]; exact hst.out⟩
        case measure => simp [intOf]; omega
      · have d1 : decide (max u1 (-u1) ≤ 2) = true := decide_eq_true (by omega)
        have d2 : decide (max u2 (-u2) ≤ 2) = false := decide_eq_false (by omega)
        have hst := Lib.hid (show ¬((x, y).1 - cx ≤ 2 ∧ cx - (x, y).1 ≤ 2 ∧ (x, y).2 - cy ≤ 2 ∧ cy - (x, y).2 ≤ 2) by simp only; omega)
        clear hu1 hu2 c1 c2 hpt
        go_wp2_with fail
        (refine wp_region_ext_lit (by kernel_rfl) (by kernel_rfl) ?_; (repeat (go_big_quiet_step (fail))); refine wpQuiet_nil ?_; intro _ hw'; obtain ⟨z3, hw''⟩ := hw'; subst hw''; have hs3 := z3.size; obtain ⟨hc3, hf3⟩ := bcell z3.below; (try simp only [World.size_alloc, World.size_setCell, World.size_drew] at hc3 hf3); (try simp at hs3))
        go_wp2_with fail
        go_roundw
        case rel => exact ⟨j + 1, by go_num, by omega, (by (repeat' (first | exact Below.refl _ _ | assumption | (refine Below.alloc ?_ ?_ _) | (refine Below.setCell ?_ ?_ _) | (refine Below.drew ?_) | (refine below_drewN ?_ _) | (refine below_after (Ext.below _) ?_ ?_) | (refine below_after (by assumption) ?_ ?_) | (simp; done) | omega | (simp; omega)))), Lib.hid fun i c hi hc => by
          rcases Nat.lt_or_ge i j with g | g
          · exact hno.out i c g hc
          · obtain rfl : i = j := by omega
            rw [hx'.out] at hc; injection hc with hc; rw [← hc]; exact hst.out⟩
        case measure => simp [intOf]; omega
      · have d1 : decide (max u1 (-u1) ≤ 2) = true := decide_eq_true (by omega)
        have d2 : decide (max u2 (-u2) ≤ 2) = true := decide_eq_true (by omega)
        have HE := Lib.hid (near_yes (q := (x, y)) hlj hx'.out (by simp only; omega))
        clear hu1 hu2 c1 c2 hpt
        go_wp2_with fail
        (refine wp_region_ext_lit (by kernel_rfl) (by kernel_rfl) ?_; (repeat (go_big_quiet_step (fail))); refine wpQuiet_nil ?_; intro _ hw'; obtain ⟨z3, hw''⟩ := hw'; subst hw''; have hs3 := z3.size; obtain ⟨hc3, hf3⟩ := bcell z3.below; (try simp only [World.size_alloc, World.size_setCell, World.size_drew] at hc3 hf3); (try simp at hs3))
        go_wp2_with fail
        go_ret
        exact ⟨ret_bool HE.out.symm, by (repeat' (first | exact Below.refl _ _ | assumption | (refine Below.alloc ?_ ?_ _) | (refine Below.setCell ?_ ?_ _) | (refine Below.drew ?_) | (refine below_drewN ?_ _) | (refine below_after (Ext.below _) ?_ ?_) | (refine below_after (by assumption) ?_ ?_) | (simp; done) | omega | (simp; omega)))⟩
    · obtain rfl : j = n := by omega
      have dj : decide ((j : Int) < j) = false := decide_eq_false (by omega)
      have dj' : decide (j < j) = false := decide_eq_false (by omega)
      have HE := Lib.hid (near_no (q := (x, y)) hRl.out hn hno.out)
      go_wp2_with fail
      go_ret
      exact ⟨ret_bool HE.out.symm, hfin⟩
end Go.Proofs.YtabfefhicfmabaaGreat
end
section
namespace Go.Proofs.YtabfefhicfmabaaGreat
open Go Go.RowKit
set_option maxRecDepth 100000
theorem wide {W h i j : Nat} (hw : W ≤ 2097153) (hh : h ≤ 2097153) (hi : i ≤ W + 4) (hj : j < h + 4) : j * (W + 4) + i ≤ 4400000000000 := by
  have h1 : (j + 1) * (W + 4) ≤ 2097157 * 2097157 := Nat.mul_le_mul (by omega) (by omega)
  rw [Nat.add_mul, Nat.one_mul] at h1
  omega
theorem pt_far {p : List (Int × Int × Int)} {X Y : Int} {W h : Nat} (hb : BoxOf p X Y W h) : W ≤ 2097153 ∧ h ≤ 2097153 := by
  have := hb.bx
  omega
set_option maxHeartbeats 4000000 in
theorem fld_near_flat (p : List (Int × Int × Int)) (X Y : Int) (W h nc cc k e : Nat) (C P : Option Addr) (w : World) (hB : BoxOf p X Y W h) :
    Calls Tryz.prog 184 #[.agg #[.bool true, .int .i64 X, .int .i64 Y, .int .i64 W, .int .i64 h, .slice C nc cc, .slice P k e]] w fun e w' => ∃ E m d, e = .returned (.slice E m d) ∧ Rd encP 2 w' E m (rectL (X - 2) (Y - 2) (W + 4) (h + 4)) ∧ m ≤ 4400000000000 ∧ Below w.heap.size w w' := by
  have hbx := hB.bx
  obtain ⟨hw, hh⟩ := pt_far hB
  clear hB
  go_enter Tryz.func184, Tryz.ntmps184
  go_wp2_with fail
  have hsv := SvAt.new w #[.bool true, .int .i64 X, .int .i64 Y, .int .i64 W, .int .i64 h, .slice C nc cc, .slice P k e] 220
  have hbe : Below w.heap.size w (w.alloc (.cells #[.bool true, .int .i64 X, .int .i64 Y, .int .i64 W, .int .i64 h, .slice C nc cc, .slice P k e] 220)) := by (repeat' (first | exact Below.refl _ _ | assumption | (refine Below.alloc ?_ ?_ _) | (refine Below.setCell ?_ ?_ _) | (refine Below.drew ?_) | (refine below_drewN ?_ _) | (refine below_after (Ext.below _) ?_ ?_) | (refine below_after (by assumption) ?_ ?_) | (simp; done) | omega | (simp; omega)))
  obtain ⟨we, hwe⟩ : ∃ we, we = w.alloc (.cells #[.bool true, .int .i64 X, .int .i64 Y, .int .i64 W, .int .i64 h, .slice C nc cc, .slice P k e] 220) := ⟨_, rfl⟩
  rw [← hwe] at hsv hbe ⊢
  clear hwe
  go_loopw [3, 4] (fun v t wr => ∃ (E : Option Addr) (m d j : Nat), v = .slice E m d ∧ t = .int .i64 (Y - 2 + (j : Int)) ∧ j ≤ h + 4 ∧ m ≤ 4400000000000 ∧ Own encP 2 114 we.heap.size wr E m d (rectL (X - 2) (Y - 2) (W + 4) j) ∧ Below we.heap.size we wr) (fun _ t _ => (Y + h + 2 - intOf t).toNat)
  case atStart => exact ⟨none, 0, 0, 0, rfl, by refine congrArg (Value.int .i64) ?_; omega, by omega, by omega, Own.nil_, Below.refl _ _⟩
  case round =>
    obtain ⟨E, m, d, j, rfl, rfl, hj, hm, hown, hb⟩ := hrel
    have hsz := hb.size
    obtain ⟨hb7, s7⟩ := hsv.of hb
    by_cases hlj : j < h + 4
    · have dj : decide (Y - 2 + (j : Int) < Y + (h : Int) + 2) = true := decide_eq_true (by omega)
      have hwd := Lib.hid (fun i (hi : i ≤ W + 4) => wide (i := i) hw hh hi hlj)
      go_wp2_with fail
      clear s7 dj hb7
      go_loopw [3, 5] (fun v t wq => ∃ (E : Option Addr) (m d i : Nat), v = .slice E m d ∧ t = .int .i64 (X - 2 + (i : Int)) ∧ i ≤ W + 4 ∧ m ≤ 4400000000000 ∧ Own encP 2 114 we.heap.size wq E m d (rectL (X - 2) (Y - 2) (W + 4) j ++ rowL (X - 2) (Y - 2 + (j : Int)) i) ∧ Below we.heap.size we wq) (fun _ t _ => (X + W + 2 - intOf t).toNat)
      case atStart => exact ⟨E, m, d, 0, rfl, by refine congrArg (Value.int .i64) ?_; omega, by omega, hm, by simpa [rowL] using hown, hb⟩
      case round =>
        clear hown hb hsz
        obtain ⟨E, m, d, i, rfl, rfl, hi, hm, hown, hb⟩ := hrel
        have hsz := hb.size
        obtain ⟨hb7, s7⟩ := hsv.of hb
        by_cases hli : i < W + 4
        · have di : decide (X - 2 + (i : Int) < X + (W : Int) + 2) = true := decide_eq_true (by omega)
          have hml : m = j * (W + 4) + i := by have := hown.len; rw [List.length_append, rect_len, row_len] at this; exact this.symm
          have hm1 : m + 1 ≤ 4400000000000 := by have := hwd.out (i + 1) (by omega); omega
          have hst := Lib.hid (show rectL (X - 2) (Y - 2) (W + 4) j ++ rowL (X - 2) (Y - 2 + (j : Int)) (i + 1) = (rectL (X - 2) (Y - 2) (W + 4) j ++ rowL (X - 2) (Y - 2 + (j : Int)) i) ++ [(X - 2 + (i : Int), Y - 2 + (j : Int))] by rw [row_step, List.append_assoc])
          clear hml
          go_wp2_with (first | (at_builtin; refine wpList_append_el rfl (.tmp 44) (.tmp 48) 22 rfl encP 2 114 (.agg #[.int .i64 0, .int .i64 0]) 16 Tryz.underlying22 (by kernel_rfl) rfl (by decide) encP_len encP_one (we.heap.size) _ _ _ _ rfl (hown.alloc _) (X - 2 + (i : Int), Y - 2 + (j : Int)) ⟨(wr).heap.size, 0, none⟩ 1 rfl (cells_new (wr) _ _) (by omega) (by omega) (by first | omega | (simp; done) | (simp; omega)) ?_; intro A5 c5 w5 hown5 hg5 hb5; obtain ⟨hc5, hf5⟩ := bcell hb5; have hs5 := hb5.size; (try simp only [World.size_alloc, World.size_setCell, World.size_drew] at hc5 hf5); (try simp at hs5)))
          go_roundw
          case rel => exact ⟨A5, m + 1, c5, i + 1, rfl, by first | go_num | (refine congrArg (Value.int .i64) ?_; omega), by omega, hm1, by rw [hst.out]; exact hown5, below_after hb5 (hb.alloc (by omega) _) (Nat.le_refl _)⟩
          case measure => simp [intOf]; omega
        · obtain rfl : i = W + 4 := by omega
          have di : decide (X - 2 + ((W + 4 : Nat) : Int) < X + (W : Int) + 2) = false := decide_eq_false (by omega)
          have di' : decide (X - 2 + ((W : Int) + 4) < X + (W : Int) + 2) = false := decide_eq_false (by omega)
          have hst := Lib.hid (rect_step (X - 2) (Y - 2) (W + 4) j)
          go_wp2_with fail
          go_roundw
          case rel => exact ⟨E, m, d, j + 1, rfl, by first | go_num | (refine congrArg (Value.int .i64) ?_; omega), by omega, hm, by rw [hst.out]; exact hown, hb⟩
          case measure => simp [intOf]; omega
    · obtain rfl : j = h + 4 := by omega
      have dj : decide (Y - 2 + ((h + 4 : Nat) : Int) < Y + (h : Int) + 2) = false := decide_eq_false (by omega)
      have dj' : decide (Y - 2 + ((h : Int) + 4) < Y + (h : Int) + 2) = false := decide_eq_false (by omega)
      have hfin : Below w.heap.size w wr := below_thru hbe hb
      go_wp2_with fail
      go_ret
      exact ⟨E, m, d, rfl, hown.rd encP_len, hm, hfin⟩
theorem new_len {p : List (Int × Int × Int)} {k : Nat} {l : List (Int × Int)} : (newC p k l).length ≤ l.length := by
  unfold newC; exact List.length_filter_le _ _
theorem far_step {p : List (Int × Int × Int)} {i l : Nat} {A R : List (Int × Int)} {a b x y : Int} {q : Bool} (hx : a + (l : Nat) = x) (hq : nearC (p.take i) (x, y) = q) (hb : b = y) : A ++ newC p i (R ++ rowL a b (l + 1)) = (A ++ newC p i (R ++ rowL a b l)) ++ (if q = true then [] else [(x, y)]) := by
  rw [row_step, ← List.append_assoc, newC_step, hx, hb, hq, List.append_assoc]
theorem far_old {p : List (Int × Int × Int)} {i l : Nat} {A R : List (Int × Int)} {a b x y : Int} (hx : a + (l : Nat) = x) (hq : nearC (p.take i) (x, y) = true) (hb : b = y) : A ++ newC p i (R ++ rowL a b (l + 1)) = A ++ newC p i (R ++ rowL a b l) := by
  rw [far_step hx hq hb, if_pos rfl, List.append_nil]
theorem far_new {p : List (Int × Int × Int)} {i l : Nat} {A R : List (Int × Int)} {a b x y : Int} (hx : a + (l : Nat) = x) (hq : nearC (p.take i) (x, y) = false) (hb : b = y) : A ++ newC p i (R ++ rowL a b (l + 1)) = (A ++ newC p i (R ++ rowL a b l)) ++ [(x, y)] := by
  rw [far_step hx hq hb, if_neg (by simp)]
set_option maxHeartbeats 8000000 in
theorem fld_near_far (p : List (Int × Int × Int)) (X Y : Int) (W h nc cc k e : Nat) (C P : Option Addr) (w : World) (hB : BoxOf p X Y W h) (hR : Rd encC 3 w P k p) (hr : rightC p = true) :
    Calls Tryz.prog 184 #[.agg #[.bool false, .int .i64 X, .int .i64 Y, .int .i64 W, .int .i64 h, .slice C nc cc, .slice P k e]] w fun e w' => ∃ E m d, e = .returned (.slice E m d) ∧ Rd encP 2 w' E m (arN p p.length) ∧ m ≤ 4400000000000 ∧ Below w.heap.size w w' := by
  have hk5 : k ≤ 5000 := by rw [← hR.len]; exact (rightC_ok hr).1
  have hRl := Lib.hid hR.len
  have kE := fun n x y w1 (h1 : Rd encC 3 w1 P k p) hn hx hy => fld_earlier p false X Y W h nc cc k e n C P x y w1 h1 hr hn hx hy
  have hr := Lib.hid hr
  clear hB
  go_enter Tryz.func184, Tryz.ntmps184
  go_wp2_with fail
  have hsv := SvAt.new w #[.bool false, .int .i64 X, .int .i64 Y, .int .i64 W, .int .i64 h, .slice C nc cc, .slice P k e] 220
  have hbe : Below w.heap.size w (w.alloc (.cells #[.bool false, .int .i64 X, .int .i64 Y, .int .i64 W, .int .i64 h, .slice C nc cc, .slice P k e] 220)) := by (repeat' (first | exact Below.refl _ _ | assumption | (refine Below.alloc ?_ ?_ _) | (refine Below.setCell ?_ ?_ _) | (refine Below.drew ?_) | (refine below_drewN ?_ _) | (refine below_after (Ext.below _) ?_ ?_) | (refine below_after (by assumption) ?_ ?_) | (simp; done) | omega | (simp; omega)))
  obtain ⟨we, hwe⟩ : ∃ we, we = w.alloc (.cells #[.bool false, .int .i64 X, .int .i64 Y, .int .i64 W, .int .i64 h, .slice C nc cc, .slice P k e] 220) := ⟨_, rfl⟩
  rw [← hwe] at hsv hbe ⊢
  replace hR := hR.of hbe
  clear hwe
  go_loopw [3, 6] (fun v t wr => ∃ (E : Option Addr) (m d i : Nat), v = .slice E m d ∧ t = .int .i64 i ∧ i ≤ k ∧ Own encP 2 114 we.heap.size wr E m d (arN p i) ∧ Below we.heap.size we wr) (fun _ t _ => k - (intOf t).toNat)
  case atStart => exact ⟨none, 0, 0, 0, rfl, rfl, by omega, Own.nil_, Below.refl _ _⟩
  case round =>
    obtain ⟨E, m, d, i, rfl, rfl, hi, hown, hb⟩ := hrel
    have hsz := hb.size
    obtain ⟨hb7, s7⟩ := hsv.of hb
    by_cases hli : i < k
    · have di : decide ((i : Int) < k) = true := decide_eq_true (by omega)
      have di' : decide (i < k) = true := decide_eq_true hli
      obtain ⟨cx, cy, cs, bo, oo, hx, rfl, hbo, g1, g2, g3⟩ := hR.cell hli
      have hpt := (rightC_elem hr.out hx.out).1
      unfold Pt at hpt
      have hnext := Lib.hid (arN_step hx.out)
      have harl := Lib.hid (arN_len (p := p) i)
      have i0 : (0 : Int) ≤ (i : Int) := by omega
      have i1 : (i : Int) < (k : Int) := by omega
      clear hx
      go_wp2_with fail
      clear s7 hb7 di di'
      go_loopw [3, 7] (fun v t wq => ∃ (E : Option Addr) (m d j : Nat), v = .slice E m d ∧ t = .int .i64 (-2 + (j : Int)) ∧ j ≤ 5 ∧ Own encP 2 114 we.heap.size wq E m d (arN p i ++ newC p i (rectL (cx - 2) (cy - 2) 5 j)) ∧ Below we.heap.size we wq) (fun _ t _ => (3 - intOf t).toNat)
      case atStart => exact ⟨E, m, d, 0, rfl, by refine congrArg (Value.int .i64) ?_; omega, by omega, by simpa [newC, rectL] using hown, hb⟩
      case round =>
        clear hown hb hsz
        obtain ⟨E, m, d, j, rfl, rfl, hj, hown, hb⟩ := hrel
        have hsz := hb.size
        by_cases hlj : j < 5
        · have dj : decide (-2 + (j : Int) ≤ 2) = true := decide_eq_true (by omega)
          go_wp2_with fail
          clear dj
          go_loopw [3, 8] (fun v t wq => ∃ (E : Option Addr) (m d l : Nat), v = .slice E m d ∧ t = .int .i64 (-2 + (l : Int)) ∧ l ≤ 5 ∧ Own encP 2 114 we.heap.size wq E m d (arN p i ++ newC p i (rectL (cx - 2) (cy - 2) 5 j ++ rowL (cx - 2) (cy - 2 + (j : Int)) l)) ∧ Below we.heap.size we wq) (fun _ t _ => (3 - intOf t).toNat)
          case atStart => exact ⟨E, m, d, 0, rfl, by refine congrArg (Value.int .i64) ?_; omega, by omega, by simpa [rowL] using hown, hb⟩
          case round =>
            clear hown hb hsz
            obtain ⟨E, m, d, l, rfl, rfl, hl, hown, hb⟩ := hrel
            have hsz := hb.size
            have hsz0 := hbe.size
            obtain ⟨hb7, s7⟩ := hsv.of hb
            by_cases hll : l < 5
            · have dl : decide (-2 + (l : Int) ≤ 2) = true := decide_eq_true (by omega)
              have hm1 : m + 1 ≤ 1000000 := by
                have h1 := hown.len
                have h2 := new_len (p := p) (k := i) (l := rectL (cx - 2) (cy - 2) 5 j ++ rowL (cx - 2) (cy - 2 + (j : Int)) l)
                have h3 := harl.out
                rw [List.length_append] at h1
                rw [List.length_append, rect_len, row_len] at h2
                omega
              obtain ⟨u1, hu1⟩ : ∃ u1, cx - 2 + (l : Int) = u1 := ⟨_, rfl⟩
              obtain ⟨u2, hu2⟩ : ∃ u2, cy - 2 + (j : Int) = u2 := ⟨_, rfl⟩
              have ex : IntKind.i64.wrap (cx + (-2 + (l : Int))) = u1 := by rw [IntWalk.i64_in _ (by omega)]; omega
              have ey : IntKind.i64.wrap (cy + (-2 + (j : Int))) = u2 := by rw [IntWalk.i64_in _ (by omega)]; omega
              have hub : (-3000000 ≤ u1 ∧ u1 ≤ 3000000) ∧ -3000000 ≤ u2 ∧ u2 ≤ 3000000 := by omega
              have kE1 := fun w1 h1 => kE i u1 u2 w1 h1 hi hub.1 hub.2
              have f1 := ((hR.of hb))
              have g1r : wr.cell? ⟨bo, oo + i * 3, none⟩ = some (.int .i64 cx) := by rw [hb.cell (p := ⟨_, _, none⟩) hbo]; exact g1
              have g2r : wr.cell? ⟨bo, oo + i * 3 + 1, none⟩ = some (.int .i64 cy) := by rw [hb.cell (p := ⟨_, _, none⟩) hbo]; exact g2
              have hbor : bo < wr.heap.size := Nat.lt_of_lt_of_le hbo hsz
              cases hq : nearC (p.take i) (u1, u2) with
              | true =>
                have hst := Lib.hid (far_old (A := arN p i) (R := rectL (cx - 2) (cy - 2) 5 j) hu1 hq hu2)
                rw [hq] at kE1
                clear hq
                replace hu1 := Lib.hid hu1
                replace hu2 := Lib.hid hu2
                go_wp2_with fail
                (refine' wp_region_fresh1 [false, false, false, false, false, false, false, false, false, false, false, false, false, false, false, false, false, true, true] 17 18 9 82 114 (.agg #[.int .i64 0, .int .i64 0]) _ (fun u hu => ?hqh5) (by kernel_rfl) (by kernel_rfl) (by kernel_rfl) (by kernel_rfl) rfl rfl Tryz.zeroValue114 ?s1h5 ?s2h5 ?s3h5 ?s4h5 ?s5h5 ?s6h5 ?finh5; (case hqh5 => (obtain ⟨hcu, hfu⟩ := bcell hu; have hsu := hu.size; simp only [stripM, blankO]; (repeat (go_big_quiet_step (fail))); refine wpQuiet_nil ?_; rfl)); (case s1h5 => rfl); (case s2h5 => simp); (case s3h5 => rfl); (case s4h5 => kernel_rfl); (case s5h5 => rfl); (case s6h5 => simp [Value.oneCell']); intro bk5 w5 hbl5 hbh5 hb5 hh5; obtain ⟨hc5, hf5⟩ := bcell hb5; have hs5 := hb5.size; have hk5 := cellOf_row hh5; have hl5 := frozenOf_row hh5; clear hh5; (try simp only [World.size_alloc, World.size_setCell, World.size_drew] at hc5 hf5); (try simp at hs5 hbl5); simp only [Act.put, List.setIfInBounds_toArray, List.set_cons_zero, List.set_cons_succ])
                have q1 : w5.cell? ⟨bk5, 0, none⟩ = some (.int .i64 u1) := hk5 0
                have q2 : w5.cell? ⟨bk5, 1, none⟩ = some (.int .i64 u2) := hk5 1
                obtain ⟨_, v7⟩ := SvAt.of ⟨hb7, s7⟩ hb5
                have hR5 := (hR.of hb).of hb5
                have hbw := below_thru hb hb5
                have hown5 := hown.of hb5
                clear hc5 hf5 hk5 hl5 g1r g2r
                go_wp2_with fail
                go_at_call 222
                refine (kE1 _ hR5).mono ?_
                rintro e6 w6 ⟨rfl, hb6⟩
                have hown6 := hown5.of hb6
                have hbf := below_thru hbw hb6
                go_wp2_with fail
                go_roundw
                case rel => exact ⟨E, m, d, l + 1, rfl, by first | go_num | (refine congrArg (Value.int .i64) ?_; omega), by omega, by rw [hst.out]; exact hown6, hbf⟩
                case measure => simp [intOf]; omega
              | false =>
                have hst := Lib.hid (far_new (A := arN p i) (R := rectL (cx - 2) (cy - 2) 5 j) hu1 hq hu2)
                rw [hq] at kE1
                clear hq
                replace hu1 := Lib.hid hu1
                replace hu2 := Lib.hid hu2
                go_wp2_with fail
                (refine' wp_region_fresh1 [false, false, false, false, false, false, false, false, false, false, false, false, false, false, false, false, false, true, true] 17 18 9 82 114 (.agg #[.int .i64 0, .int .i64 0]) _ (fun u hu => ?hqh8) (by kernel_rfl) (by kernel_rfl) (by kernel_rfl) (by kernel_rfl) rfl rfl Tryz.zeroValue114 ?s1h8 ?s2h8 ?s3h8 ?s4h8 ?s5h8 ?s6h8 ?finh8; (case hqh8 => (obtain ⟨hcu, hfu⟩ := bcell hu; have hsu := hu.size; simp only [stripM, blankO]; (repeat (go_big_quiet_step (fail))); refine wpQuiet_nil ?_; rfl)); (case s1h8 => rfl); (case s2h8 => simp); (case s3h8 => rfl); (case s4h8 => kernel_rfl); (case s5h8 => rfl); (case s6h8 => simp [Value.oneCell']); intro bk8 w8 hbl8 hbh8 hb8 hh8; obtain ⟨hc8, hf8⟩ := bcell hb8; have hs8 := hb8.size; have hk8 := cellOf_row hh8; have hl8 := frozenOf_row hh8; clear hh8; (try simp only [World.size_alloc, World.size_setCell, World.size_drew] at hc8 hf8); (try simp at hs8 hbl8); simp only [Act.put, List.setIfInBounds_toArray, List.set_cons_zero, List.set_cons_succ])
                have q1 : w8.cell? ⟨bk8, 0, none⟩ = some (.int .i64 u1) := hk8 0
                have q2 : w8.cell? ⟨bk8, 1, none⟩ = some (.int .i64 u2) := hk8 1
                obtain ⟨_, v7⟩ := SvAt.of ⟨hb7, s7⟩ hb8
                have hR5 := (hR.of hb).of hb8
                have hbw := below_thru hb hb8
                have hown5 := hown.of hb8
                have hbk : bk8 < w8.heap.size := by assumption
                clear hc8 hf8 hk8 hl8 g1r g2r
                go_wp2_with fail
                go_at_call 222
                refine (kE1 _ hR5).mono ?_
                rintro e6 w6 ⟨rfl, hb6⟩
                have hown6 := hown5.of hb6
                have hbf := below_thru hbw hb6
                have r1 : w6.cell? ⟨bk8, 0, none⟩ = some (.int .i64 u1) := by rw [hb6.cell (p := ⟨_, _, none⟩) hbk]; exact q1
                have r2 : w6.cell? ⟨bk8, 1, none⟩ = some (.int .i64 u2) := by rw [hb6.cell (p := ⟨_, _, none⟩) hbk]; exact q2
                have hs6 := hbf.size
                go_wp2_with (first | (at_builtin; refine wpList_append_el rfl (.tmp 88) (.tmp 90) 22 rfl encP 2 114 (.agg #[.int .i64 0, .int .i64 0]) 16 Tryz.underlying22 (by kernel_rfl) rfl (by decide) encP_len encP_one (we.heap.size) _ _ _ _ rfl (hown6.alloc _) (u1, u2) ⟨(w6).heap.size, 0, none⟩ 1 rfl (cells_new (w6) _ _) (by omega) (by omega) (by first | omega | (simp; done) | (simp; omega)) ?_; intro A7 c7 w7 hown7 hg7 hb7; obtain ⟨hc7, hf7⟩ := bcell hb7; have hs7 := hb7.size; (try simp only [World.size_alloc, World.size_setCell, World.size_drew] at hc7 hf7); (try simp at hs7)))
                go_roundw
                case rel => exact ⟨A7, m + 1, c7, l + 1, rfl, by first | go_num | (refine congrArg (Value.int .i64) ?_; omega), by omega, by rw [hst.out]; exact hown7, below_after hb7 (hbf.alloc (by omega) _) (Nat.le_refl _)⟩
                case measure => simp [intOf]; omega
            · obtain rfl : l = 5 := by omega
              have dl : decide (-2 + ((5 : Nat) : Int) ≤ 2) = false := by decide
              have hst := Lib.hid (rect_step (cx - 2) (cy - 2) 5 j)
              go_wp2_with fail
              go_roundw
              case rel => exact ⟨E, m, d, j + 1, rfl, by first | go_num | (refine congrArg (Value.int .i64) ?_; omega), by omega, by rw [hst.out]; exact hown, hb⟩
              case measure => simp [intOf]; omega
        · obtain rfl : j = 5 := by omega
          have dj : decide (-2 + ((5 : Nat) : Int) ≤ 2) = false := by decide
          go_wp2_with fail
          go_roundw
          case rel => exact ⟨E, m, d, i + 1, rfl, by go_num, by omega, by rw [hnext.out]; exact hown, hb⟩
          case measure => simp [intOf]; omega
    · obtain rfl : i = k := by omega
      have di : decide ((i : Int) < i) = false := decide_eq_false (by omega)
      have di' : decide (i < i) = false := decide_eq_false (by omega)
      have hfin : Below w.heap.size w wr := below_thru hbe hb
      have hml : m ≤ 4400000000000 := by
        have h1 := hown.len
        have h2 := arN_len (p := p) i
        omega
      go_wp2_with fail
      go_ret
      exact ⟨E, m, d, rfl, by rw [hRl.out]; exact hown.rd encP_len, hml, hfin⟩
end Go.Proofs.YtabfefhicfmabaaGreat
end
section
namespace Go.Proofs.YtabfefhicfmabaaGreat
open Go Go.RowKit
set_option maxRecDepth 100000
theorem nb_step {H : List (Int × Int)} {p : List (Int × Int × Int)} {x y ox oy u1 u2 : Int} {j : Nat} (h : H[j]? = some (ox, oy)) (h1 : x + ox = u1) (h2 : y + oy = u2) : (nbS H p x y).take (j + 1) = (nbS H p x y).take j ++ [getC p u1 u2] := by
  rw [List.take_add_one, nbS_at h, h1, h2]; rfl
theorem FrW.s12 {W w' : World} {b b7 b2 i : Nat} {x y z v0 v1 v2 v3 v4 v5 v6 q1 q2 : Value} (h : FrW W w') (t : TrAt W b x y z) (s : SvAt W b7 #[v0, v1, v2, v3, v4, v5, v6]) (hb : b2 < W.heap.size) (c1 : W.cell? ⟨b2, i, none⟩ = some q1) (c2 : W.cell? ⟨b2, i + 1, none⟩ = some q2) :
    FrW W w' ∧ w'.cell? ⟨b, 0, none⟩ = some x ∧ w'.cell? ⟨b, 1, none⟩ = some y ∧ w'.cell? ⟨b, 2, none⟩ = some z ∧ w'.cell? ⟨b7, 0, none⟩ = some v0 ∧ w'.cell? ⟨b7, 1, none⟩ = some v1 ∧ w'.cell? ⟨b7, 2, none⟩ = some v2 ∧ w'.cell? ⟨b7, 3, none⟩ = some v3 ∧ w'.cell? ⟨b7, 4, none⟩ = some v4 ∧ w'.cell? ⟨b7, 5, none⟩ = some v5 ∧ w'.cell? ⟨b7, 6, none⟩ = some v6 ∧ w'.cell? ⟨b2, i, none⟩ = some q1 ∧ w'.cell? ⟨b2, i + 1, none⟩ = some q2 := by
  obtain ⟨_, t0, t1, t2⟩ := t.of h.below
  obtain ⟨_, s7⟩ := s.of h.below
  exact ⟨h, t0, t1, t2, s7 0, s7 1, s7 2, s7 3, s7 4, s7 5, s7 6, by rw [h.below.cell (p := ⟨_, _, none⟩) hb]; exact c1, by rw [h.below.cell (p := ⟨_, _, none⟩) hb]; exact c2⟩
set_option maxHeartbeats 8000000 in
theorem ref20_next (st : Int) (A B : Option Addr) (n c m d : Nat) (H : List (Int × Int)) (N : List (Int × List Int)) (p : List (Int × Int × Int)) (fl : Bool) (X Y : Int) (W h nc cc k e : Nat) (C P : Option Addr) (x y : Int) (w : World) (hH : Rd encP 2 w A n H) (hN : RdX ekN w B m N) (hf : FitsR st H N p) (hF : FldAt w p fl X Y W h C nc P k) (hk : k ≤ 1000000) (hx : -2000000 ≤ x ∧ x ≤ 2000000) (hy : -2000000 ≤ y ∧ y ≤ 2000000) :
    Calls Tryz.prog 185 #[.agg #[.int .i64 st, .slice A n c, .slice B m d], .agg #[.bool fl, .int .i64 X, .int .i64 Y, .int .i64 W, .int .i64 h, .slice C nc cc, .slice P k e], .int .i64 x, .int .i64 y] w fun e w' => e = .returned (.int .i64 (nxT H N p x y)) ∧ Below w.heap.size w w' := by
  have hR := (trQ_parts hf.rule).1
  have hh := Lib.hid (hood_in (trR_parts hR).2.1).2
  have hHl := hH.len
  have hn25 : n ≤ 25 := by rw [← hHl]; exact (hood_in (trR_parts hR).2.1).1
  have hIl : (nbS H p x y).length = n := by rw [nbS_len, hHl]
  have kV := fun E g w1 h1 h2 => ref_Value st A B E n c m d n g H N (nbS H p x y) w1 h1 h2 (by omega) hR nbS_len (nbS_ok hf x y)
  have HE := Lib.hid (nxT_ins (H := H) (N := N) (p := p) (x := x) (y := y))
  have kA := fun u1 u2 hu1 hu2 w1 h1 => fld_at p fl X Y W h nc cc k e C P u1 u2 w1 h1 hk hu1 hu2
  generalize nxT H N p x y = res at HE ⊢
  replace hHl := Lib.hid hHl
  replace hIl := Lib.hid hIl
  clear hR hf
  go_enter Tryz.func185, Tryz.ntmps185
  go_wp2_with fail
  have hbx := (TrAt.new w (.int .i64 st) (.slice A n c) (.slice B m d) 25).of ((Below.refl _ _).alloc (Nat.le_refl _) (.cells #[.bool fl, .int .i64 X, .int .i64 Y, .int .i64 W, .int .i64 h, .slice C nc cc, .slice P k e] 220))
  have hsv := SvAt.new (w.alloc (.cells #[.int .i64 st, .slice A n c, .slice B m d] 25)) #[.bool fl, .int .i64 X, .int .i64 Y, .int .i64 W, .int .i64 h, .slice C nc cc, .slice P k e] 220
  rw [World.size_alloc] at hsv
  have hbe : Below w.heap.size w ((w.alloc (.cells #[.int .i64 st, .slice A n c, .slice B m d] 25)).alloc (.cells #[.bool fl, .int .i64 X, .int .i64 Y, .int .i64 W, .int .i64 h, .slice C nc cc, .slice P k e] 220)) := by (repeat' (first | exact Below.refl _ _ | assumption | (refine Below.alloc ?_ ?_ _) | (refine Below.setCell ?_ ?_ _) | (refine Below.drew ?_) | (refine below_drewN ?_ _) | (refine below_after (Ext.below _) ?_ ?_) | (refine below_after (by assumption) ?_ ?_) | (simp; done) | omega | (simp; omega)))
  obtain ⟨we, hwe⟩ : ∃ we, we = (w.alloc (.cells #[.int .i64 st, .slice A n c, .slice B m d] 25)).alloc (.cells #[.bool fl, .int .i64 X, .int .i64 Y, .int .i64 W, .int .i64 h, .slice C nc cc, .slice P k e] 220) := ⟨_, rfl⟩
  rw [← hwe] at hbx hsv hbe ⊢
  replace hN := hN.of hbe
  replace hH := hH.of hbe
  replace hF := hF.of hbe
  clear hwe
  go_loopw [9, 10] (fun v t wr => ∃ (E : Option Addr) (g j : Nat), v = .slice E j g ∧ t = .int .i64 j ∧ j ≤ n ∧ Own encI 1 3 we.heap.size wr E j g ((nbS H p x y).take j) ∧ Below we.heap.size we wr) (fun _ t _ => n - (intOf t).toNat)
  case atStart => exact ⟨none, 0, 0, rfl, rfl, by omega, Own.nil_, Below.refl _ _⟩
  case round =>
    obtain ⟨E, g, j, rfl, rfl, hj, hown, hb⟩ := hrel
    have hsz := hb.size
    by_cases hlj : j < n
    · have dj : decide ((j : Int) < n) = true := decide_eq_true (by omega)
      have dj' : decide (j < n) = true := decide_eq_true hlj
      obtain ⟨ox, oy, bo, oo, hxo, rfl, hbo, o1, o2⟩ := hH.pt hlj
      have hov := hh.out _ (List.mem_of_getElem? hxo.out)
      simp only at hov
      obtain ⟨u1, hu1⟩ : ∃ u1, x + ox = u1 := ⟨_, rfl⟩
      obtain ⟨u2, hu2⟩ : ∃ u2, y + oy = u2 := ⟨_, rfl⟩
      have ex : IntKind.i64.wrap (x + ox) = u1 := (IntWalk.i64_in _ (by omega)).trans hu1
      have ey : IntKind.i64.wrap (y + oy) = u2 := (IntWalk.i64_in _ (by omega)).trans hu2
      have hst := Lib.hid (nb_step (p := p) hxo.out hu1 hu2)
      have kA1 := kA u1 u2 (by omega) (by omega)
      generalize getC p u1 u2 = s at hst kA1
      have i0 : (0 : Int) ≤ (j : Int) := by omega
      have i1 : (j : Int) < (n : Int) := by omega
      obtain ⟨_, t0, t1, t2⟩ := hbx.of hb
      clear hu1 hu2 hov hxo
      go_wp2_with fail
      go_region_held3 (fun w' => FrW we w' ∧ w'.cell? ⟨w.heap.size, 0, none⟩ = some (.int .i64 st) ∧ w'.cell? ⟨w.heap.size, 1, none⟩ = some (.slice (some ⟨bo, oo, none⟩) n c) ∧ w'.cell? ⟨w.heap.size, 2, none⟩ = some (.slice B m d) ∧ w'.cell? ⟨w.heap.size + 1, 0, none⟩ = some (.bool fl) ∧ w'.cell? ⟨w.heap.size + 1, 1, none⟩ = some (.int .i64 X) ∧ w'.cell? ⟨w.heap.size + 1, 2, none⟩ = some (.int .i64 Y) ∧ w'.cell? ⟨w.heap.size + 1, 3, none⟩ = some (.int .i64 W) ∧ w'.cell? ⟨w.heap.size + 1, 4, none⟩ = some (.int .i64 h) ∧ w'.cell? ⟨w.heap.size + 1, 5, none⟩ = some (.slice C nc cc) ∧ w'.cell? ⟨w.heap.size + 1, 6, none⟩ = some (.slice P k e) ∧ w'.cell? ⟨bo, oo + j * 2, none⟩ = some (.int .i64 ox) ∧ w'.cell? ⟨bo, oo + j * 2 + 1, none⟩ = some (.int .i64 oy))
        (((try go_split_ands); refine FrW.s12 ?_ hbx hsv hbo o1 o2; first | exact ⟨hb.drew⟩ | exact FrW.drew ‹_› | exact FrW.alloc ‹_› _ | exact FrW.then (FrW.alloc ‹_› _) hb6 | exact FrW.then ‹_› hb6 | exact FrW.of ‹_› hb5 | fail))
        ((first
        | (go_at_call 223; (try go_split_ands); refine (kA1 _ (hF.of (FrW.below ‹_›))).mono ?_; rintro e5 w5 ⟨rfl, hb5⟩; have hsz5 : wr.heap.size ≤ w5.heap.size := hb5.size)
        | (refine step_append_el (by rfl) (.tmp 18) (.tmp 37) 84 (by rfl) encI 1 3 (.int .i64 0) 8 Tryz.underlying84 (by kernel_rfl) rfl (by decide) encI_len encI_one we.heap.size _ _ _ _ (by rfl) ((hown.drew.of hb5).alloc _) s ⟨w5.heap.size, 0, none⟩ 1 (by rfl) (cells_new w5 _ _) (by omega) (by omega) (by simp; omega) ?_; intro A6 c6 w6 hown6 hg6 hb6)
        | fail))
      (try go_split_ands)
      have hbf : Below we.heap.size we w6 := FrW.below ‹_›
      go_wp2_with fail
      go_roundw
      case rel => exact ⟨A6, c6, j + 1, rfl, by go_num, by omega, by rw [hst.out]; exact hown6, hbf⟩
      case measure => simp [intOf]; omega
    · obtain rfl : j = n := by omega
      have dj : decide ((j : Int) < j) = false := decide_eq_false (by omega)
      have dj' : decide (j < j) = false := decide_eq_false (by omega)
      rw [List.take_of_length_le (by rw [hIl.out]; exact Nat.le_refl _)] at hown
      have kV1 := kV E g wr (hN.of hb) (hown.rd encI_len)
      rw [← HE.out] at kV1
      obtain ⟨_, t0, t1, t2⟩ := hbx.of hb
      have hfin := below_thru hbe hb
      go_wp2_with fail
      go_at_call 197
      refine kV1.mono ?_
      rintro e7 w7 ⟨rfl, hb7⟩
      go_wp2_with fail
      go_ret
      exact ⟨rfl, below_thru hfin hb7⟩
end Go.Proofs.YtabfefhicfmabaaGreat
end
section
namespace Go.Proofs.YtabfefhicfmabaaGreat
open Go Go.RowKit
set_option maxRecDepth 100000
structure AllOk (H : List (Int × Int)) (N : List (Int × List Int)) (p : List (Int × Int × Int)) (all : List (Int × Int)) : Prop where
  nd : all.Nodup
  cov : ∀ x y, nxT H N p x y ≠ 0 → (x, y) ∈ all
  bd : ∀ q ∈ all, (-2000000 ≤ q.1 ∧ q.1 ≤ 2000000) ∧ -2000000 ≤ q.2 ∧ q.2 ≤ 2000000
theorem all_rect {st : Int} {H : List (Int × Int)} {N : List (Int × List Int)} {p : List (Int × Int × Int)} {X Y : Int} {W h : Nat} (hf : FitsR st H N p) (hb : BoxOf p X Y W h) : AllOk H N p (rectL (X - 2) (Y - 2) (W + 4) (h + 4)) := by
  refine ⟨rect_nodup _ _ _ _, fun x y hn => rect_covers hf.rule (rightC_sorted hf.pat) hb.cells hn, fun q hq => ?_⟩
  have h1 := mem_rect.1 hq
  have h2 := hb.bx
  omega
theorem all_far {st : Int} {H : List (Int × Int)} {N : List (Int × List Int)} {p : List (Int × Int × Int)} (hf : FitsR st H N p) : AllOk H N p (arN p p.length) := by
  refine ⟨arN_nodup _ (Nat.le_refl _), fun x y hn => ar_covers hf.rule (rightC_sorted hf.pat) hn, fun q hq => ?_⟩
  have h1 := (arN_mem p.length (Nat.le_refl _)).1 hq
  unfold nearC at h1
  obtain ⟨c, hc, h2⟩ := List.any_eq_true.1 h1
  rw [List.take_length] at hc
  have h3 := of_decide_eq_true h2
  obtain ⟨x, y, s⟩ := c
  have h4 := (cell_right hf.pat hc).1
  unfold Pt at h4
  simp only at h3
  omega
theorem st_gen {st : Int} {H : List (Int × Int)} {N : List (Int × List Int)} {p l : List (Int × Int × Int)} (hf : FitsR st H N p) (hg : IsGen H N p l) : (l.all plD = false → stE H N p = 5 ∧ stL H N p = []) ∧ (l.all plD = true → 5000 < l.length → stE H N p = 6 ∧ stL H N p = []) := by
  obtain ⟨_, e2, e3⟩ := hg.srt (genR_is hf.rule (rightC_sorted hf.pat))
  refine ⟨fun h => ?_, fun h h5 => ?_⟩
  · have e : stE H N p = 5 := by unfold stE; rw [← e3, h, if_neg (by simp)]
    exact ⟨e, by unfold stL; rw [e, if_neg (by omega)]⟩
  · have e : stE H N p = 6 := by unfold stE; rw [← e3, h, if_pos rfl, ← e2, if_pos h5]
    exact ⟨e, by unfold stL; rw [e, if_neg (by omega)]⟩
section
variable (st : Int) (A B D : Option Addr) (n c m d k e : Nat) (H : List (Int × Int)) (N : List (Int × List Int)) (p : List (Int × Int × Int)) (w : World)
theorem fld_near (fl : Bool) (X Y : Int) (W h nc cc : Nat) (C P : Option Addr) (hf : FitsR st H N p) (hF : FldAt w p fl X Y W h C nc P k) :
    Calls Tryz.prog 184 #[.agg #[.bool fl, .int .i64 X, .int .i64 Y, .int .i64 W, .int .i64 h, .slice C nc cc, .slice P k e]] w fun e w' => ∃ E m d all, e = .returned (.slice E m d) ∧ Rd encP 2 w' E m all ∧ AllOk H N p all ∧ m ≤ 4400000000000 ∧ Below w.heap.size w w' := by
  cases fl with
  | true => exact (fld_near_flat p X Y W h nc cc k e C P w hF.box).mono fun _ _ ⟨E, m, d, h1, h2, h3, h4⟩ => ⟨E, m, d, _, h1, h2, all_rect hf hF.box, h3, h4⟩
  | false => exact (fld_near_far p X Y W h nc cc k e C P w hF.box hF.list hf.pat).mono fun _ _ ⟨E, m, d, h1, h2, h3, h4⟩ => ⟨E, m, d, _, h1, h2, all_far hf, h3, h4⟩
end
end Go.Proofs.YtabfefhicfmabaaGreat
end
section
namespace Go.Proofs.YtabfefhicfmabaaGreat
open Go Go.RowKit
set_option maxRecDepth 100000
theorem ref05_FromNV {l r : List (Int × Int × Int)} {q : Int} (hE : frE l = q) (hL : frL l = r) (A : Option Addr) (n c : Nat) (w : World) (hR : Rd encC 3 w A n l) (hn : n ≤ 1000000) :
    Calls Tryz.prog 187 #[.slice A n c] w fun e w' => ∃ A' n' c', e = .returned (.tuple #[.slice A' n' c', .int .i64 q]) ∧ NewP w.heap.size w' A' n' c' r ∧ Below w.heap.size w w' := by
  subst hE hL
  exact (ref05_FromN A n c l w hR hn).mono fun _ _ ⟨A', n', c', h1, h2, _, h4⟩ => ⟨A', n', c', h1, h2, h4⟩
theorem all_take {all : List (Int × Int)} {i : Nat} {q : Int × Int} (h : all[i]? = some q) : all.take (i + 1) = all.take i ++ [q] := by
  rw [List.take_add_one, h]; rfl
theorem all_snocB {q : Int × Int × Int → Bool} {l : List (Int × Int × Int)} {c : Int × Int × Int} {b v : Bool} (h : l.all q = !b) (hc : q c = v) : (l ++ [c]).all q = !(b || !v) := by
  rw [List.all_append, h]; simp [hc]
section
variable (st : Int) (A B D : Option Addr) (n c m d k e : Nat) (H : List (Int × Int)) (N : List (Int × List Int)) (p : List (Int × Int × Int)) (w : World)
set_option maxHeartbeats 16000000 in
theorem ref20_Step (hH : Rd encP 2 w A n H) (hN : RdX ekN w B m N) (hR : Rd encC 3 w D k p) (hk : k ≤ 1000000) :
    Calls Tryz.prog 131 #[.agg #[.int .i64 st, .slice A n c, .slice B m d], .slice D k e] w fun e w' => ∃ A2 n2 c2, e = .returned (.tuple #[.slice A2 n2 c2, .int .i64 (stpE st H N p)]) ∧ NewP w.heap.size w' A2 n2 c2 (stpL st H N p) ∧ Below w.heap.size w w' := by
  have kC := fun w1 h1 h2 h3 => ref20_Fits st A B D n c m d k e H N p w1 h1 h2 h3 hk
  by_cases hf0 : fitE st H N p = 0
  · have hfit := fit_iff.1 hf0
    have HE := Lib.hid (show stpE st H N p = stE H N p ∧ stpL st H N p = stL H N p by unfold stpE stpL; rw [if_pos hf0, if_pos hf0]; exact ⟨rfl, rfl⟩)
    rw [hf0] at kC
    have kS := fun w1 h1 => ref20_states D k e p w1 h1 hfit.pat
    have kA := fun fl X Y W h nc cc C w1 h1 => fld_near st k e H N p w1 fl X Y W h nc cc C D hfit h1
    have kN := fun fl X Y W h nc cc C x y w1 h1 h2 h3 hx hy => ref20_next st A B n c m d H N p fl X Y W h nc cc k e C D x y w1 h1 h2 hfit h3 hk hx hy
    replace hfit := Lib.hid hfit
    clear hf0
    go_enter Tryz.func131, Tryz.ntmps131
    go_wp2_with fail
    have hbx := TrAt.new w (.int .i64 st) (.slice A n c) (.slice B m d) 25
    have hbe : Below w.heap.size w (w.alloc (.cells #[.int .i64 st, .slice A n c, .slice B m d] 25)) := (Below.refl _ _).alloc (Nat.le_refl _) _
    obtain ⟨we, hwe⟩ : ∃ we, we = w.alloc (.cells #[.int .i64 st, .slice A n c, .slice B m d] 25) := ⟨_, rfl⟩
    rw [← hwe] at hbx hbe ⊢
    replace hH := hH.of hbe
    replace hN := hN.of hbe
    replace hR := hR.of hbe
    clear hwe
    go_at_call 130
    refine (kC _ hH hN hR).mono ?_
    rintro e1 w1 ⟨rfl, hb1⟩
    go_wp2_with fail
    go_at_call 183
    refine (kS _ (hR.of hb1)).mono ?_
    rintro e2 w2 ⟨fl, X, Y, W, h, C, nc, cc, rfl, hF, hb2⟩
    have hb12 := below_thru hb1 hb2
    go_wp2_with fail
    have hsv := SvAt.new w2 #[.bool fl, .int .i64 X, .int .i64 Y, .int .i64 W, .int .i64 h, .slice C nc cc, .slice D k e] 220
    go_at_call 184
    refine (kA _ _ _ _ _ _ _ _ _ (hF.of ((Below.refl _ _).alloc (Nat.le_refl _) _))).mono ?_
    rintro e3 w3 ⟨E0, M, G0, all, rfl, hAl, hok, hM, hb3⟩
    have hb23 : Below w2.heap.size w2 w3 := below_thru ((Below.refl _ _).alloc (Nat.le_refl _) _) hb3
    have hbf := below_thru hb12 hb23
    replace hsv := hsv.of hb3
    replace hbx := hbx.of hbf
    replace hH := hH.of hbf
    replace hN := hN.of hbf
    replace hF := hF.of hb23
    have hs3 : w.heap.size ≤ w3.heap.size := Nat.le_trans hbe.size hbf.size
    replace hbe := below_thru hbe hbf
    have kN1 := kN fl X Y W h nc cc C
    obtain ⟨bf, hbfd⟩ : ∃ bf, bf = w2.heap.size := ⟨_, rfl⟩
    rw [← hbfd] at hsv ⊢
    have hAlen := Lib.hid hAl.len
    replace hok := Lib.hid hok
    clear hb1 hb2 hb12 hb3 hb23 hbf hbfd hR kC kS kA kN
    go_wp2_with fail
    go_loopw [9, 10, 11] (fun v o t wr => ∃ (E : Option Addr) (q g i : Nat) (b : Bool) (l : List (Int × Int × Int)), v = .slice E q g ∧ o = .bool b ∧ t = .int .i64 i ∧ i ≤ M ∧ q ≤ i ∧ Own encC 3 88 w3.heap.size wr E q g l ∧ Hid (GenC (all.take i) H N p l ∧ l.all plD = !b) ∧ Below w3.heap.size w3 wr) (fun _ _ t _ => M - (intOf t).toNat)
    case atStart => exact ⟨none, 0, 0, 0, false, [], rfl, rfl, rfl, by omega, by omega, Own.nil_, Lib.hid ⟨genC_nil, rfl⟩, Below.refl _ _⟩
    case round =>
      obtain ⟨E, q, g, i, b, l, rfl, rfl, rfl, hi, hq, hown, hgen, hb⟩ := hrel
      have hsz := hb.size
      by_cases hli : i < M
      · have di : decide ((i : Int) < M) = true := decide_eq_true (by omega)
        have di' : decide (i < M) = true := decide_eq_true hli
        obtain ⟨x, y, bo, oo, hx, rfl, hbo, o1, o2⟩ := (hAl.of hb).pt hli
        have hbd := hok.out.bd _ (List.mem_of_getElem? hx.out)
        simp only at hbd
        have htk := Lib.hid (all_take hx.out)
        have hnew := Lib.hid (take_new hok.out.nd hx.out)
        have kN2 := kN1 x y
        have hr0 := (hfit.out.range x y).1
        obtain ⟨_, t0, t1, t2⟩ := hbx.of hb
        obtain ⟨_, s7⟩ := hsv.of hb
        have hrow : ∀ gg, (Value.slice E q g).ownBlock = some gg → gg < wr.heap.size := fun gg hg => (hown.row.lt gg hg).2
        clear hx
        go_wp2_with fail
        have hdx := DuAt.new wr (.int .i64 x) (.int .i64 y) 114
        have hbw : Below wr.heap.size wr (wr.alloc (.cells #[.int .i64 x, .int .i64 y] 114)) := (Below.refl _ _).alloc (Nat.le_refl _) _
        have hbn := below_thru hb hbw
        go_at_call 185
        refine (kN2 _ (hH.of hbn) (hN.of hbn) (hF.of hbn) hbd.1 hbd.2).mono ?_
        rintro e4 w4 ⟨rfl, hb4⟩
        have hdx4 := hdx.of hb4
        have hown4 := (hown.alloc _).of hb4
        have hbn4 := below_thru hbn hb4
        have hs4 : wr.heap.size < w4.heap.size := by have := hb4.size; simp at this; omega
        clear hdx hbw hbn hb4 o1 o2 t0 t1 t2 s7 hown
        by_cases h0 : nxT H N p x y = 0
        · have hgn := Lib.hid (hgen.out.1.zero h0)
          rw [h0]
          clear h0 hr0
          go_wp2_with fail
          go_roundw
          case rel => exact ⟨E, q, g, i + 1, b, l, rfl, rfl, by go_num, by omega, by omega, hown4, by rw [htk.out]; exact Lib.hid ⟨hgn.out, hgen.out.2⟩, hbn4⟩
          case measure => simp [intOf]; omega
        · have hgn := Lib.hid (hgen.out.1.new hnew.out h0)
          obtain ⟨v, hv⟩ : ∃ v, validB x y = v := ⟨_, rfl⟩
          have hal := Lib.hid (all_snocB (c := (x, y, nxT H N p x y)) hgen.out.2 (show plD (x, y, nxT H N p x y) = v from hv))
          have kP := fun w1 => ref20_validV hv w1
          have d1 : (nxT H N p x y == 0) = false := by simpa using h0
          have d2 : (nxT H N p x y != 0) = true := by simpa using h0
          generalize nxT H N p x y = res at d1 d2 hgn hal ⊢
          clear h0 hr0 hv
          obtain ⟨_, x0, x1⟩ := hdx4
          have hm1 : (q + 1) * 24 ≤ 140737488355328 := by omega
          cases b with
          | true =>
            go_wp2_with (first | ((at_builtin; refine wpList_append_elL rfl (.tmp 43) (.tmp 50) 26 rfl encC 3 88 (.agg #[.int .i64 0, .int .i64 0, .int .i64 0]) 24 Tryz.underlying26 (by kernel_rfl) rfl (by decide) encC_len encC_one (w3.heap.size) _ _ _ _ rfl (hown4.alloc _) (x, y, res) ⟨(w4).heap.size, 0, none⟩ 1 rfl (cells_new (w4) _ _) (by omega) (by omega) (by first | omega | (simp; done) | (simp; omega)) ?_; intro A6 c6 w6 hown6 hg6 hb6 hl6; obtain ⟨hc6, hf6⟩ := bcell hb6; have hs6 := hb6.size; (try simp only [World.size_alloc, World.size_setCell, World.size_drew] at hc6 hf6); (try simp at hs6)); have hdx6 := (DuAt.of ⟨hs4, x0, x1⟩ (show Below w4.heap.size w4 _ from (Below.refl _ _).alloc (Nat.le_refl _) _)).grown hg6 (fun e => by have := hrow _ e.symm; omega); obtain ⟨_, y0, y1⟩ := hdx6; clear hc6 hf6))
            have hbf6 : Below w3.heap.size w3 w6 := below_after hb6 (hbn4.alloc (by omega) _) (Nat.le_refl _)
            go_roundw
            case rel => exact ⟨A6, q + 1, c6, i + 1, true, _, rfl, rfl, by go_num, by omega, by omega, hown6, by rw [htk.out]; exact Lib.hid ⟨hgn.out, by have := hal.out; simpa using this⟩, hbf6⟩
            case measure => simp [intOf]; omega
          | false =>
            cases v with
            | true =>
              go_wp2_with (first | ((at_builtin; refine wpList_append_elL rfl (.tmp 43) (.tmp 50) 26 rfl encC 3 88 (.agg #[.int .i64 0, .int .i64 0, .int .i64 0]) 24 Tryz.underlying26 (by kernel_rfl) rfl (by decide) encC_len encC_one (w3.heap.size) _ _ _ _ rfl (hown4.alloc _) (x, y, res) ⟨(w4).heap.size, 0, none⟩ 1 rfl (cells_new (w4) _ _) (by omega) (by omega) (by first | omega | (simp; done) | (simp; omega)) ?_; intro A6 c6 w6 hown6 hg6 hb6 hl6; obtain ⟨hc6, hf6⟩ := bcell hb6; have hs6 := hb6.size; (try simp only [World.size_alloc, World.size_setCell, World.size_drew] at hc6 hf6); (try simp at hs6)); have hdx6 := (DuAt.of ⟨hs4, x0, x1⟩ (show Below w4.heap.size w4 _ from (Below.refl _ _).alloc (Nat.le_refl _) _)).grown hg6 (fun e => by have := hrow _ e.symm; omega); obtain ⟨_, y0, y1⟩ := hdx6; clear hc6 hf6) | (go_at_call 186; refine (kP _).mono ?_; rintro e7 w7 ⟨rfl, rfl⟩))
              have hbf6 : Below w3.heap.size w3 w6 := below_after hb6 (hbn4.alloc (by omega) _) (Nat.le_refl _)
              go_roundw
              case rel => exact ⟨A6, q + 1, c6, i + 1, false, _, rfl, rfl, by go_num, by omega, by omega, hown6, by rw [htk.out]; exact Lib.hid ⟨hgn.out, by have := hal.out; simpa using this⟩, hbf6⟩
              case measure => simp [intOf]; omega
            | false =>
              go_wp2_with (first | ((at_builtin; refine wpList_append_elL rfl (.tmp 43) (.tmp 50) 26 rfl encC 3 88 (.agg #[.int .i64 0, .int .i64 0, .int .i64 0]) 24 Tryz.underlying26 (by kernel_rfl) rfl (by decide) encC_len encC_one (w3.heap.size) _ _ _ _ rfl (hown4.alloc _) (x, y, res) ⟨(w4).heap.size, 0, none⟩ 1 rfl (cells_new (w4) _ _) (by omega) (by omega) (by first | omega | (simp; done) | (simp; omega)) ?_; intro A6 c6 w6 hown6 hg6 hb6 hl6; obtain ⟨hc6, hf6⟩ := bcell hb6; have hs6 := hb6.size; (try simp only [World.size_alloc, World.size_setCell, World.size_drew] at hc6 hf6); (try simp at hs6)); have hdx6 := (DuAt.of ⟨hs4, x0, x1⟩ (show Below w4.heap.size w4 _ from (Below.refl _ _).alloc (Nat.le_refl _) _)).grown hg6 (fun e => by have := hrow _ e.symm; omega); obtain ⟨_, y0, y1⟩ := hdx6; clear hc6 hf6) | (go_at_call 186; refine (kP _).mono ?_; rintro e7 w7 ⟨rfl, rfl⟩))
              have hbf6 : Below w3.heap.size w3 w6 := below_after hb6 (hbn4.alloc (by omega) _) (Nat.le_refl _)
              go_roundw
              case rel => exact ⟨A6, q + 1, c6, i + 1, true, _, rfl, rfl, by go_num, by omega, by omega, hown6, by rw [htk.out]; exact Lib.hid ⟨hgn.out, by have := hal.out; simpa using this⟩, hbf6⟩
              case measure => simp [intOf]; omega
      · obtain rfl : i = M := by omega
        have di : decide ((i : Int) < i) = false := decide_eq_false (by omega)
        have di' : decide (i < i) = false := decide_eq_false (by omega)
        have hlen := Lib.hid hown.len
        have hG : IsGen H N p l := by
          have h1 := hgen.out.1
          rw [List.take_of_length_le (by rw [hAlen.out]; exact Nat.le_refl _)] at h1
          exact h1.whole hok.out.cov
        have hsg := st_gen hfit.out hG
        have hfin := below_thru hbe hb
        cases b with
        | true =>
          have HX := Lib.hid (hsg.1 (by simpa using hgen.out.2))
          clear hsg hG
          go_wp2_with fail
          go_ret2
          exact ⟨none, 0, 0, ret_pe (by rw [HE.out.1, HX.out.1]), by rw [HE.out.2, HX.out.2]; exact NewP.nil_, hfin⟩
        | false =>
          by_cases h5 : 5000 < q
          · have d5 : decide (5000 < (q : Int)) = true := decide_eq_true (by omega)
            have d5' : decide (5000 < q) = true := decide_eq_true h5
            have HX := Lib.hid (hsg.2 (by simpa using hgen.out.2) (by rw [hlen.out]; exact h5))
            clear hsg hG
            go_wp2_with fail
            go_ret2
            exact ⟨none, 0, 0, ret_pe (by rw [HE.out.1, HX.out.1]), by rw [HE.out.2, HX.out.2]; exact NewP.nil_, hfin⟩
          · have d5 : decide (5000 < (q : Int)) = false := decide_eq_false (by omega)
            have d5' : decide (5000 < q) = false := decide_eq_false h5
            have HX := Lib.hid (fr_gen hfit.out hG (by simpa using hgen.out.2))
            have kF := fun w1 h1 => ref05_FromNV HX.out.1 HX.out.2 E q g w1 h1 (by omega)
            have hRo := hown.rd encC_len
            clear hsg hG
            go_wp2_with fail
            go_at_call 187
            refine (kF _ hRo).mono ?_
            rintro e7 w7 ⟨A7, n7, c7, rfl, hR7, hb7⟩
            have hfin7 := below_thru hfin hb7
            have hsz7 : w.heap.size ≤ wr.heap.size := Nat.le_trans hs3 hsz
            go_wp2_with fail
            go_ret2
            exact ⟨A7, n7, c7, ret_pe HE.out.1.symm, by rw [HE.out.2]; exact hR7.more hsz7, hfin7⟩
  · have HE := Lib.hid (show stpE st H N p = fitE st H N p ∧ stpL st H N p = [] by unfold stpE stpL; rw [if_neg hf0, if_neg hf0]; exact ⟨rfl, rfl⟩)
    generalize fitE st H N p = q at kC HE hf0
    have d1 : (q == 0) = false := by simpa using hf0
    have d2 : (q != 0) = true := by simpa using hf0
    clear hf0
    go_enter Tryz.func131, Tryz.ntmps131
    go_wp2_with fail; go_at_call 130; refine (kC _ (hH.of (by (repeat' (first | exact Below.refl _ _ | assumption | (refine Below.alloc ?_ ?_ _) | (refine Below.setCell ?_ ?_ _) | (refine Below.drew ?_) | (refine below_drewN ?_ _) | (refine below_after (Ext.below _) ?_ ?_) | (refine below_after (by assumption) ?_ ?_) | (simp; done) | omega | (simp; omega))))) (hN.of (by (repeat' (first | exact Below.refl _ _ | assumption | (refine Below.alloc ?_ ?_ _) | (refine Below.setCell ?_ ?_ _) | (refine Below.drew ?_) | (refine below_drewN ?_ _) | (refine below_after (Ext.below _) ?_ ?_) | (refine below_after (by assumption) ?_ ?_) | (simp; done) | omega | (simp; omega))))) (hR.of (by (repeat' (first | exact Below.refl _ _ | assumption | (refine Below.alloc ?_ ?_ _) | (refine Below.setCell ?_ ?_ _) | (refine Below.drew ?_) | (refine below_drewN ?_ _) | (refine below_after (Ext.below _) ?_ ?_) | (refine below_after (by assumption) ?_ ?_) | (simp; done) | omega | (simp; omega)))))).mono ?_; rintro e w1 ⟨rfl, hb1⟩; have hs1 := hb1.size; (try simp only [World.size_alloc, World.size_drew, World.size_setCell] at hs1)
    go_wp2_with fail
    go_ret2
    exact ⟨none, 0, 0, ret_pe HE.out.1.symm, by rw [HE.out.2]; exact NewP.nil_, by (repeat' (first | exact Below.refl _ _ | assumption | (refine Below.alloc ?_ ?_ _) | (refine Below.setCell ?_ ?_ _) | (refine Below.drew ?_) | (refine below_drewN ?_ _) | (refine below_after (Ext.below _) ?_ ?_) | (refine below_after (by assumption) ?_ ?_) | (simp; done) | omega | (simp; omega)))⟩
end
end Go.Proofs.YtabfefhicfmabaaGreat
end
section
namespace Go.Proofs.YtabfefhicfmabaaGreat
open Go Go.RowKit
set_option maxRecDepth 100000
theorem ref20_StepF (st : Int) (A B D : Option Addr) (n c m d k e : Nat) (H : List (Int × Int)) (N : List (Int × List Int)) (p : List (Int × Int × Int)) (w : World) (hH : Rd encP 2 w A n H) (hN : RdX ekN w B m N) (hR : Rd encC 3 w D k p) (hf : FitsR st H N p) :
    Calls Tryz.prog 131 #[.agg #[.int .i64 st, .slice A n c, .slice B m d], .slice D k e] w fun e w' => ∃ A2 n2 c2, e = .returned (.tuple #[.slice A2 n2 c2, .int .i64 (stE H N p)]) ∧ NewP w.heap.size w' A2 n2 c2 (stL H N p) ∧ Below w.heap.size w w' := by
  have hk5 : k ≤ 5000 := by rw [← hR.len]; exact (rightC_ok hf.pat).1
  have h := ref20_Step st A B D n c m d k e H N p w hH hN hR (by omega)
  have hf0 := fit_iff.2 hf
  unfold stpE stpL at h
  rw [if_pos hf0, if_pos hf0] at h
  exact h
section
variable (st : Int) (A B D : Option Addr) (n c m d k e : Nat) (H : List (Int × Int)) (N : List (Int × List Int)) (p : List (Int × Int × Int)) (w : World)
set_option maxHeartbeats 8000000 in
theorem ref20_History (nn : Int) (hH : Rd encP 2 w A n H) (hN : RdX ekN w B m N) (hR : Rd encC 3 w D k p) (hk : k ≤ 1000000) (hke : k ≤ e) :
    Calls Tryz.prog 65 #[.agg #[.int .i64 st, .slice A n c, .slice B m d], .slice D k e, .int .i64 nn] w fun e w' => ∃ A2 n2 c2, e = .returned (.tuple #[.slice A2 n2 c2, .int .i64 (runE st H N p nn)]) ∧ RdX ekC w' A2 n2 (hisL st H N p nn) ∧ n2 ≤ c2 ∧ Below w.heap.size w w' := by
  have kC := fun w1 h1 h2 h3 => ref20_Fits st A B D n c m d k e H N p w1 h1 h2 h3 hk
  by_cases hf0 : fitE st H N p = 0
  · rw [hf0] at kC
    rcases (show (nn < 0 ∨ 10000 < nn) ∨ (0 ≤ nn ∧ nn ≤ 10000) by omega) with hbad | ⟨hn0, hn1⟩
    · have HE := Lib.hid (run_arg hf0 hbad)
      have hways : decide (nn < 0) = true ∨ (decide (nn < 0) = false ∧ decide (10000 < nn) = true) := by
        simp only [decide_eq_true_eq, decide_eq_false_iff_not]; omega
      clear hbad hf0
      rcases hways with d1 | ⟨d1, d2⟩
      all_goals
        go_enter Tryz.func65, Tryz.ntmps65
        go_wp2_with fail; go_at_call 130; refine (kC _ (hH.of (by (repeat' (first | exact Below.refl _ _ | assumption | (refine Below.alloc ?_ ?_ _) | (refine Below.setCell ?_ ?_ _) | (refine Below.drew ?_) | (refine below_drewN ?_ _) | (refine below_after (Ext.below _) ?_ ?_) | (refine below_after (by assumption) ?_ ?_) | (simp; done) | omega | (simp; omega))))) (hN.of (by (repeat' (first | exact Below.refl _ _ | assumption | (refine Below.alloc ?_ ?_ _) | (refine Below.setCell ?_ ?_ _) | (refine Below.drew ?_) | (refine below_drewN ?_ _) | (refine below_after (Ext.below _) ?_ ?_) | (refine below_after (by assumption) ?_ ?_) | (simp; done) | omega | (simp; omega))))) (hR.of (by (repeat' (first | exact Below.refl _ _ | assumption | (refine Below.alloc ?_ ?_ _) | (refine Below.setCell ?_ ?_ _) | (refine Below.drew ?_) | (refine below_drewN ?_ _) | (refine below_after (Ext.below _) ?_ ?_) | (refine below_after (by assumption) ?_ ?_) | (simp; done) | omega | (simp; omega)))))).mono ?_; rintro e w1 ⟨rfl, hb1⟩; have hs1 := hb1.size; (try simp only [World.size_alloc, World.size_drew, World.size_setCell] at hs1)
        go_wp2_with fail
        go_ret2
        exact ⟨none, 0, 0, ret_pe HE.out.1.symm, by rw [HE.out.2.2]; exact RdX.nil_, Nat.le_refl _, by (repeat' (first | exact Below.refl _ _ | assumption | (refine Below.alloc ?_ ?_ _) | (refine Below.setCell ?_ ?_ _) | (refine Below.drew ?_) | (refine below_drewN ?_ _) | (refine below_after (Ext.below _) ?_ ?_) | (refine below_after (by assumption) ?_ ?_) | (simp; done) | omega | (simp; omega)))⟩
    · obtain ⟨NN, rfl⟩ := Int.eq_ofNat_of_zero_le hn0
      have hNN : NN ≤ 10000 := by omega
      have d1 : decide ((NN : Int) < 0) = false := decide_eq_false (by omega)
      have d2 : decide (10000 < (NN : Int)) = false := decide_eq_false (by omega)
      have d2' : decide (10000 < NN) = false := decide_eq_false (by omega)
      have hF := Lib.hid hf0
      have hfit := Lib.hid (fit_iff.1 hf0)
      clear hf0 hn0 hn1
      go_enter Tryz.func65, Tryz.ntmps65
      go_wp2_with fail
      have hbx := TrAt.new w (.int .i64 st) (.slice A n c) (.slice B m d) 25
      have hbe : Below w.heap.size w (w.alloc (.cells #[.int .i64 st, .slice A n c, .slice B m d] 25)) := (Below.refl _ _).alloc (Nat.le_refl _) _
      obtain ⟨we, hwe⟩ : ∃ we, we = w.alloc (.cells #[.int .i64 st, .slice A n c, .slice B m d] 25) := ⟨_, rfl⟩
      rw [← hwe] at hbx hbe ⊢
      replace hH := hH.of hbe
      replace hN := hN.of hbe
      replace hR := hR.of hbe
      clear hwe
      go_at_call 130
      refine (kC _ hH hN hR).mono ?_
      rintro e1 w1 ⟨rfl, hB1⟩
      have hR1 := hR.of hB1
      have hs1 := hB1.size
      have hX0 := ownX_one w1 27 w1.heap.size (Nat.le_refl _) (D, k, e) p ⟨hR1, hke⟩
      obtain ⟨B0, hB0⟩ : ∃ B0, B0 = w1.heap.size := ⟨_, rfl⟩
      have hBe : we.heap.size ≤ B0 := by omega
      have hb0 : Below we.heap.size we (w1.alloc (.cells #[.slice D k e] 27)) := hB1.alloc hs1 _
      rw [← hB0] at hX0
      go_wp2_with fail
      clear d1 d2 d2' kC
      go_loopw [9, 10] (fun v t wr => ∃ (E : Option Addr) (g j : Nat) (pj : List (Int × Int × Int)), v = .slice E (j + 1) g ∧ t = .int .i64 j ∧ j ≤ NN ∧ Hid (itS H N p j = (0, pj)) ∧ OwnX ekC 27 B0 wr E (j + 1) g (hsP H N p j) ∧ Below we.heap.size we wr ∧ B0 ≤ wr.heap.size) (fun _ t _ => NN - (intOf t).toNat)
      case atStart => exact ⟨_, 1, 0, p, by rw [← hB0], rfl, by omega, Lib.hid rfl, by rw [hs_zero]; exact hX0, hb0, by simp; omega⟩
      case round =>
        clear hB1 hR1 hX0 hb0 hB0 hs1
        obtain ⟨E, g, j, pj, rfl, rfl, hj, hit, hX, hb, hsz⟩ := hrel
        have hsz0 := hb.size
        by_cases hlj : j < NN
        · have dj : decide ((j : Int) < NN) = true := decide_eq_true (by omega)
          have dj' : decide (j < NN) = true := decide_eq_true hlj
          have hfj := it_fitsP hfit.out hit.out
          have kS := fun E q g w1 h1 h2 h3 => ref20_StepF st A B E n c m d q g H N pj w1 h1 h2 h3 hfj
          obtain ⟨F, mf, cf, lf, bo, o, hlf, rfl, hbo, g1, hRf, hmf⟩ := hX.rd.pat (i := j) (by omega)
          obtain rfl : lf = pj := by
            have h1 := hlf.out
            rw [hs_at hit.out (Nat.le_refl _)] at h1
            injection h1 with h1; exact h1.symm
          have i0 : (0 : Int) ≤ (j : Int) := by omega
          have i1 : (j : Int) < (j : Int) + 1 := by omega
          replace hbx := hbx.of hb
          by_cases he : stE H N lf = 0
          · have hnext := Lib.hid (it_go hit.out he)
            have hst := Lib.hid (hs_step hnext.out)
            rw [he] at kS
            clear he hfj hlf
            go_wp2_with fail
            go_region_held3 (fun w' => FrW wr w' ∧ w'.cell? ⟨w.heap.size, 0, none⟩ = some (.int .i64 st) ∧ w'.cell? ⟨w.heap.size, 1, none⟩ = some (.slice A n c) ∧ w'.cell? ⟨w.heap.size, 2, none⟩ = some (.slice B m d) ∧ w'.cell? ⟨bo, o + j, none⟩ = some (.slice F mf cf))
              (((try go_split_ands); refine FrW.trc ?_ hbx hbo g1; first | exact FrW.drew (FrW.here _) | exact FrW.drew ‹_› | exact FrW.alloc ‹_› _ | exact FrW.here _ | exact FrW.of ‹_› hb2 | fail))
              ((first
              | (go_at_call 131; (try go_split_ands); refine (kS F mf cf _ ((hH.of hb).of (FrW.below ‹_›)) ((hN.of hb).of (FrW.below ‹_›)) (hRf.of (FrW.below ‹_›))).mono ?_; rintro e2 w2 ⟨A2, n2, c2, rfl, hR2, hb2⟩; have hsz2 := hb2.size)
              | fail))
            (try go_split_ands)
            have hfw : Below wr.heap.size wr w2 := FrW.below ‹_›
            have hsw := hfw.size
            go_wp2_with (first | (at_builtin; refine wpList_append_x (K := ekC) rfl (.tmp 44) (.tmp 46) 91 rfl 27 (.slice none 0 0) 24 Tryz.underlying91 (by kernel_rfl) rfl (B0) _ _ _ _ rfl ((hX.of hfw).alloc _) (A2, n2, c2) _ (⟨hR2.rd.of (by (repeat' (first | exact Below.refl _ _ | assumption | (refine Below.alloc ?_ ?_ _) | (refine Below.setCell ?_ ?_ _) | (refine Below.drew ?_) | (refine below_drewN ?_ _) | (refine below_after (Ext.below _) ?_ ?_) | (refine below_after (by assumption) ?_ ?_) | (simp; done) | omega | (simp; omega)))), hR2.cap⟩) (hR2.off (fun q hq => hX.lt q hq)) ⟨(w2).heap.size, 0, none⟩ 1 rfl (cells_new (w2) (encH (A2, n2, c2)) 27) (by omega) (by omega) (by first | omega | (simp; done) | (simp; omega)) ?_; intro A6 c6 w6 hown6 hg6 hb6; obtain ⟨hc6, hf6⟩ := bcell hb6; have hs6 := hb6.size; (try simp only [World.size_alloc, World.size_setCell, World.size_drew] at hc6 hf6); (try simp at hs6)))
            go_roundw
            case rel => exact ⟨A6, c6, j + 1, _, rfl, by go_num, by omega, hnext, by rw [hst.out]; exact hown6, below_after hb6 ((below_thru hb hfw).alloc (by omega) _) hBe, by omega⟩
            case measure => simp [intOf]; omega
          · have HE := Lib.hid (run_bad hF.out hNN hit.out he hlj)
            generalize stE H N lf = qe at kS HE he
            have d1 : (qe == 0) = false := by simpa using he
            have d2 : (qe != 0) = true := by simpa using he
            clear he hfj hlf
            go_wp2_with fail
            go_region_held3 (fun w' => FrW wr w' ∧ w'.cell? ⟨w.heap.size, 0, none⟩ = some (.int .i64 st) ∧ w'.cell? ⟨w.heap.size, 1, none⟩ = some (.slice A n c) ∧ w'.cell? ⟨w.heap.size, 2, none⟩ = some (.slice B m d) ∧ w'.cell? ⟨bo, o + j, none⟩ = some (.slice F mf cf))
              (((try go_split_ands); refine FrW.trc ?_ hbx hbo g1; first | exact FrW.drew (FrW.here _) | exact FrW.drew ‹_› | exact FrW.alloc ‹_› _ | exact FrW.here _ | exact FrW.of ‹_› hb2 | fail))
              ((first
              | (go_at_call 131; (try go_split_ands); refine (kS F mf cf _ ((hH.of hb).of (FrW.below ‹_›)) ((hN.of hb).of (FrW.below ‹_›)) (hRf.of (FrW.below ‹_›))).mono ?_; rintro e2 w2 ⟨A2, n2, c2, rfl, hR2, hb2⟩; have hsz2 := hb2.size)
              | fail))
            (try go_split_ands)
            have hfw : Below wr.heap.size wr w2 := FrW.below ‹_›
            have hfin := below_thru hbe (below_thru hb hfw)
            go_wp2_with fail
            go_ret2
            exact ⟨none, 0, 0, ret_pe HE.out.1.symm, by rw [HE.out.2.2]; exact RdX.nil_, Nat.le_refl _, hfin⟩
        · obtain rfl : j = NN := by omega
          have dj : decide ((j : Int) < j) = false := decide_eq_false (by omega)
          have dj' : decide (j < j) = false := decide_eq_false (by omega)
          have HE := Lib.hid (run_good hF.out hNN hit.out)
          have hfin := below_thru hbe hb
          go_wp2_with fail
          go_ret2
          exact ⟨E, j + 1, g, ret_pe HE.out.1.symm, by rw [HE.out.2.2]; exact hX.rd, hX.cap, hfin⟩
  · have HE := Lib.hid (run_unfit (nn := nn) hf0)
    generalize fitE st H N p = q at kC HE hf0
    have d1 : (q == 0) = false := by simpa using hf0
    have d2 : (q != 0) = true := by simpa using hf0
    clear hf0
    go_enter Tryz.func65, Tryz.ntmps65
    go_wp2_with fail; go_at_call 130; refine (kC _ (hH.of (by (repeat' (first | exact Below.refl _ _ | assumption | (refine Below.alloc ?_ ?_ _) | (refine Below.setCell ?_ ?_ _) | (refine Below.drew ?_) | (refine below_drewN ?_ _) | (refine below_after (Ext.below _) ?_ ?_) | (refine below_after (by assumption) ?_ ?_) | (simp; done) | omega | (simp; omega))))) (hN.of (by (repeat' (first | exact Below.refl _ _ | assumption | (refine Below.alloc ?_ ?_ _) | (refine Below.setCell ?_ ?_ _) | (refine Below.drew ?_) | (refine below_drewN ?_ _) | (refine below_after (Ext.below _) ?_ ?_) | (refine below_after (by assumption) ?_ ?_) | (simp; done) | omega | (simp; omega))))) (hR.of (by (repeat' (first | exact Below.refl _ _ | assumption | (refine Below.alloc ?_ ?_ _) | (refine Below.setCell ?_ ?_ _) | (refine Below.drew ?_) | (refine below_drewN ?_ _) | (refine below_after (Ext.below _) ?_ ?_) | (refine below_after (by assumption) ?_ ?_) | (simp; done) | omega | (simp; omega)))))).mono ?_; rintro e w1 ⟨rfl, hb1⟩; have hs1 := hb1.size; (try simp only [World.size_alloc, World.size_drew, World.size_setCell] at hs1)
    go_wp2_with fail
    go_ret2
    exact ⟨none, 0, 0, ret_pe HE.out.1.symm, by rw [HE.out.2.2]; exact RdX.nil_, Nat.le_refl _, by (repeat' (first | exact Below.refl _ _ | assumption | (refine Below.alloc ?_ ?_ _) | (refine Below.setCell ?_ ?_ _) | (refine Below.drew ?_) | (refine below_drewN ?_ _) | (refine below_after (Ext.below _) ?_ ?_) | (refine below_after (by assumption) ?_ ?_) | (simp; done) | omega | (simp; omega)))⟩
theorem his_len {st : Int} {H : List (Int × Int)} {N : List (Int × List Int)} {p : List (Int × Int × Int)} {nn : Nat} (h : runE st H N p nn = 0) : (hisL st H N p nn).length = nn + 1 ∧ (hisL st H N p nn)[nn]? = some (runL st H N p nn) := by
  unfold hisL runL
  rw [if_pos h, if_pos h, Int.toNat_natCast]
  refine ⟨by simp, ?_⟩
  rw [List.getElem?_map, List.getElem?_range (by omega)]; rfl
set_option maxHeartbeats 4000000 in
theorem ref20_Run (nn : Int) (hH : Rd encP 2 w A n H) (hN : RdX ekN w B m N) (hR : Rd encC 3 w D k p) (hk : k ≤ 1000000) (hke : k ≤ e) :
    Calls Tryz.prog 21 #[.agg #[.int .i64 st, .slice A n c, .slice B m d], .slice D k e, .int .i64 nn] w fun e w' => ∃ A2 n2 c2, e = .returned (.tuple #[.slice A2 n2 c2, .int .i64 (runE st H N p nn)]) ∧ Rd encC 3 w' A2 n2 (runL st H N p nn) ∧ n2 ≤ c2 ∧ Below w.heap.size w w' := by
  have kH := fun w1 h1 h2 h3 => ref20_History st A B D n c m d k e H N p w1 nn h1 h2 h3 hk hke
  by_cases h0 : runE st H N p nn = 0
  · obtain ⟨NN, rfl⟩ : ∃ NN : Nat, nn = NN := by
      unfold runE at h0
      by_cases hf : fitE st H N p = 0
      · rw [if_pos hf] at h0
        by_cases hb : nn < 0 ∨ 10000 < nn
        · rw [if_pos hb] at h0; omega
        · exact ⟨nn.toNat, by omega⟩
      · rw [if_neg hf] at h0; exact absurd h0 hf
    have hl := Lib.hid (his_len h0)
    have HE := Lib.hid h0
    rw [h0] at kH
    clear h0
    go_enter Tryz.func21, Tryz.ntmps21
    go_wp2_with fail
    have hbe : Below w.heap.size w (w.alloc (.cells #[.int .i64 st, .slice A n c, .slice B m d] 25)) := (Below.refl _ _).alloc (Nat.le_refl _) _
    go_at_call 65
    refine (kH _ (hH.of hbe) (hN.of hbe) (hR.of hbe)).mono ?_
    rintro e1 w1 ⟨A1, n1, c1, rfl, hX, hc1, hb1⟩
    obtain rfl : n1 = NN + 1 := by rw [← hX.len]; exact hl.out.1
    obtain ⟨F, mf, cf, lf, bo, o, hlf, rfl, hbo, g1, hRf, hmf⟩ := hX.pat (i := NN) (by omega)
    have hR' : Rd encC 3 w1 F mf (runL st H N p NN) := by
      have h1 := hlf.out
      rw [hl.out.2] at h1
      injection h1 with h1
      rw [h1]; exact hRf
    have i0 : (0 : Int) ≤ (NN : Int) := by omega
    have i1 : (NN : Int) < (NN : Int) + 1 := by omega
    have hfin : Below w.heap.size w w1 := below_thru hbe hb1
    clear hlf hRf
    go_wp2_with fail
    go_ret2
    exact ⟨F, mf, cf, ret_pe HE.out.symm, hR', hmf, hfin⟩
  · have HL := Lib.hid (show runL st H N p nn = [] by unfold runL; rw [if_neg h0])
    generalize runE st H N p nn = q at kH h0 ⊢
    have d1 : (q == 0) = false := by simpa using h0
    have d2 : (q != 0) = true := by simpa using h0
    clear h0
    go_enter Tryz.func21, Tryz.ntmps21
    go_wp2_with fail
    have hbe : Below w.heap.size w (w.alloc (.cells #[.int .i64 st, .slice A n c, .slice B m d] 25)) := (Below.refl _ _).alloc (Nat.le_refl _) _
    go_at_call 65
    refine (kH _ (hH.of hbe) (hN.of hbe) (hR.of hbe)).mono ?_
    rintro e1 w1 ⟨A1, n1, c1, rfl, hX, hc1, hb1⟩
    have hfin : Below w.heap.size w w1 := below_thru hbe hb1
    go_wp2_with fail
    go_ret2
    exact ⟨none, 0, 0, rfl, by rw [HL.out]; exact Rd.nil_, Nat.le_refl _, hfin⟩
end
end Go.Proofs.YtabfefhicfmabaaGreat
end
