/- The contract of the reference's field.at. The contract of the reference's states. The contract of the reference's states, the flat field. The contracts of the reference's field.earlier and field.near. The contract of the reference's field.near. The contract of the reference's next. The contracts of the reference's Next and Step. The contract of the reference's Step. The contracts of the reference's History and Run. -/
import Derived.Test.YtnhapgbjaeaamaaDoorDIR
import Derived.Test.YtnhapgbjaeaamaaDoorDirG
import Derived.Test.YtnhapgbjaeaamaaDoorCell3
import Derived.Test.YtnhapgbjaeaamaaDoorCell6
import Derived.StillTailTactics
import Derived.Outline
import Derived.Test.YtnhapgbjaeaamaaDoorMEM
import Derived.Test.YtnhapgbjaeaamaaDoorFromS
set_option linter.unusedSimpArgs false
set_option linter.unusedVariables false
section
namespace Go.Proofs.YtnhapgbjaeaamaaDoor
open Go Go.RowKit
set_option maxRecDepth 100000
set_option linter.unusedSimpArgs false
set_option linter.unusedVariables false
/-- A field: its box, whether it is flat, the states of the box's positions if it is, and the pattern. -/
structure FldAt (w : World) (p : List (Int × Int × Int)) (fl : Bool) (X Y : Int) (W h : Nat) (C : Option Addr) (nc : Nat) (P : Option Addr) (k : Nat) : Prop where
  box : BoxOf p X Y W h
  flag : fl = decide (W * h ≤ 40000)
  row : fl = true → nc = h * W ∧ Rd encI 1 w C nc (gridL p X Y W h)
  list : Rd encC 3 w P k p
theorem FldAt.of {w w' : World} {p : List (Int × Int × Int)} {fl : Bool} {X Y : Int} {W h nc k : Nat} {C P : Option Addr} (f : FldAt w p fl X Y W h C nc P k) (hb : Below w.heap.size w w') : FldAt w' p fl X Y W h C nc P k :=
  ⟨f.box, f.flag, fun e => ⟨(f.row e).1, (f.row e).2.of hb⟩, f.list.of hb⟩
end Go.Proofs.YtnhapgbjaeaamaaDoor
end
section
namespace Go.Proofs.YtnhapgbjaeaamaaDoor
open Go Go.RowKit
set_option maxRecDepth 100000
set_option linter.unusedSimpArgs false
set_option linter.unusedVariables false
theorem fin_and {P Q : Prop} (h : Q) (f : Q → P) : P ∧ Q := ⟨f h, h⟩
theorem below_set7 {B b : Nat} {a w : World} {v0 v1 v2 v3 v4 v5 v6 : Value} (hb : B ≤ b) (h : Below B a w) : Below B a (((((((w.setCell ⟨b, 0, none⟩ v0).setCell ⟨b, 1, none⟩ v1).setCell ⟨b, 2, none⟩ v2).setCell ⟨b, 3, none⟩ v3).setCell ⟨b, 4, none⟩ v4).setCell ⟨b, 5, none⟩ v5).setCell ⟨b, 6, none⟩ v6) :=
  ((((((h.setCell hb _).setCell hb _).setCell hb _).setCell hb _).setCell hb _).setCell hb _).setCell hb _
end Go.Proofs.YtnhapgbjaeaamaaDoor
end
section
namespace Go.Proofs.YtnhapgbjaeaamaaDoor
open Go Go.RowKit
set_option maxRecDepth 100000
set_option linter.unusedSimpArgs false
set_option linter.unusedVariables false
theorem rd_set {w : World} {g b i n : Nat} {v : Value} {l : List Int} (h : Rd encI 1 w (some ⟨g, 0, none⟩) n l) (hb : b < g) : Rd encI 1 (w.setCell ⟨b, i, none⟩ v) (some ⟨g, 0, none⟩) n l := by
  refine ⟨h.1, fun hn => ?_⟩
  obtain ⟨b', o, e, hlt, hc⟩ := h.2 hn
  injection e with e
  injection e with e1 e2
  subst e1 e2
  refine ⟨g, 0, rfl, by simpa [World.setCell] using hlt, fun i x hi j u hu => ?_⟩
  rw [cell_setCell_if, if_neg (by omega)]
  exact hc i x hi j u hu
theorem rd_set7 {w : World} {g b n : Nat} {v0 v1 v2 v3 v4 v5 v6 : Value} {l : List Int} (h : Rd encI 1 w (some ⟨g, 0, none⟩) n l) (hb : b < g) : Rd encI 1 (((((((w.setCell ⟨b, 0, none⟩ v0).setCell ⟨b, 1, none⟩ v1).setCell ⟨b, 2, none⟩ v2).setCell ⟨b, 3, none⟩ v3).setCell ⟨b, 4, none⟩ v4).setCell ⟨b, 5, none⟩ v5).setCell ⟨b, 6, none⟩ v6) (some ⟨g, 0, none⟩) n l :=
  rd_set (rd_set (rd_set (rd_set (rd_set (rd_set (rd_set h hb) hb) hb) hb) hb) hb) hb
end Go.Proofs.YtnhapgbjaeaamaaDoor
end
section
namespace Go.Proofs.YtnhapgbjaeaamaaDoor
open Go Go.RowKit
set_option maxRecDepth 100000
set_option linter.unusedSimpArgs false
set_option linter.unusedVariables false
/-- A box of seven values. -/
def SvAt (w : World) (b : Nat) (cs : Array Value) : Prop := b < w.heap.size ∧ ∀ i, w.cell? ⟨b, i, none⟩ = cs[i]?
theorem SvAt.of {w w' : World} {b : Nat} {cs : Array Value} (h : SvAt w b cs) (hb : Below w.heap.size w w') : SvAt w' b cs := ⟨Nat.lt_of_lt_of_le h.1 hb.size, fun i => by rw [hb.cell (p := ⟨_, _, none⟩) h.1]; exact h.2 i⟩
theorem SvAt.new (w : World) (cs : Array Value) (t : TypeId) : SvAt (w.alloc (.cells cs t)) w.heap.size cs := ⟨by simp, fun i => by rw [cell_alloc_if, if_neg (by omega), if_pos rfl]⟩
theorem near_no {p : List (Int × Int × Int)} {n k : Nat} {q : Int × Int} (hl : p.length = k) (hn : n ≤ k) (h : ∀ (i : Nat) c, i < n → p[i]? = some c → ¬(q.1 - c.1 ≤ 2 ∧ c.1 - q.1 ≤ 2 ∧ q.2 - c.2.1 ≤ 2 ∧ c.2.1 - q.2 ≤ 2)) : nearC (p.take n) q = false := by
  unfold nearC
  rw [List.any_eq_false]
  intro c hc
  obtain ⟨i, hi⟩ := List.getElem?_of_mem hc
  rw [List.getElem?_take] at hi
  split at hi
  · have := h i c ‹_› hi
    simpa using this
  · cases hi
theorem near_yes {p : List (Int × Int × Int)} {n i : Nat} {c : Int × Int × Int} {q : Int × Int} (hi : i < n) (hc : p[i]? = some c) (h : q.1 - c.1 ≤ 2 ∧ c.1 - q.1 ≤ 2 ∧ q.2 - c.2.1 ≤ 2 ∧ c.2.1 - q.2 ≤ 2) : nearC (p.take n) q = true := by
  unfold nearC
  refine List.any_eq_true.2 ⟨c, ?_, decide_eq_true h⟩
  have : (p.take n)[i]? = some c := by rw [List.getElem?_take, if_pos hi]; exact hc
  exact List.mem_of_getElem? this
end Go.Proofs.YtnhapgbjaeaamaaDoor
end
section
namespace Go.Proofs.YtnhapgbjaeaamaaDoor
open Go Go.RowKit
set_option maxRecDepth 100000
set_option linter.unusedSimpArgs false
set_option linter.unusedVariables false
theorem wide {W h i j : Nat} (hw : W ≤ 2097153) (hh : h ≤ 2097153) (hi : i ≤ W + 4) (hj : j < h + 4) : j * (W + 4) + i ≤ 4400000000000 := by
  have h1 : (j + 1) * (W + 4) ≤ 2097157 * 2097157 := Nat.mul_le_mul (by omega) (by omega)
  rw [Nat.add_mul, Nat.one_mul] at h1
  omega
theorem pt_far {p : List (Int × Int × Int)} {X Y : Int} {W h : Nat} (hb : BoxOf p X Y W h) : W ≤ 2097153 ∧ h ≤ 2097153 := by
  have := hb.bx
  omega
theorem new_len {p : List (Int × Int × Int)} {k : Nat} {l : List (Int × Int)} : (newC p k l).length ≤ l.length := by
  unfold newC; exact List.length_filter_le _ _
theorem far_step {p : List (Int × Int × Int)} {i l : Nat} {A R : List (Int × Int)} {a b x y : Int} {q : Bool} (hx : a + (l : Nat) = x) (hq : nearC (p.take i) (x, y) = q) (hb : b = y) : A ++ newC p i (R ++ rowL a b (l + 1)) = (A ++ newC p i (R ++ rowL a b l)) ++ (if q = true then [] else [(x, y)]) := by
  rw [row_step, ← List.append_assoc, newC_step, hx, hb, hq, List.append_assoc]
theorem far_old {p : List (Int × Int × Int)} {i l : Nat} {A R : List (Int × Int)} {a b x y : Int} (hx : a + (l : Nat) = x) (hq : nearC (p.take i) (x, y) = true) (hb : b = y) : A ++ newC p i (R ++ rowL a b (l + 1)) = A ++ newC p i (R ++ rowL a b l) := by
  rw [far_step hx hq hb, if_pos rfl, List.append_nil]
theorem far_new {p : List (Int × Int × Int)} {i l : Nat} {A R : List (Int × Int)} {a b x y : Int} (hx : a + (l : Nat) = x) (hq : nearC (p.take i) (x, y) = false) (hb : b = y) : A ++ newC p i (R ++ rowL a b (l + 1)) = (A ++ newC p i (R ++ rowL a b l)) ++ [(x, y)] := by
  rw [far_step hx hq hb, if_neg (by simp)]
end Go.Proofs.YtnhapgbjaeaamaaDoor
end
section
namespace Go.Proofs.YtnhapgbjaeaamaaDoor
open Go Go.RowKit
set_option maxRecDepth 100000
set_option linter.unusedSimpArgs false
set_option linter.unusedVariables false
theorem nb_step {H : List (Int × Int)} {p : List (Int × Int × Int)} {x y ox oy u1 u2 : Int} {j : Nat} (h : H[j]? = some (ox, oy)) (h1 : x + ox = u1) (h2 : y + oy = u2) : (nbS H p x y).take (j + 1) = (nbS H p x y).take j ++ [getC p u1 u2] := by
  rw [List.take_add_one, nbS_at h, h1, h2]; rfl
theorem FrW.s12 {W w' : World} {b b7 b2 i : Nat} {x y z v0 v1 v2 v3 v4 v5 v6 q1 q2 : Value} (h : FrW W w') (t : TrAt W b x y z) (s : SvAt W b7 #[v0, v1, v2, v3, v4, v5, v6]) (hb : b2 < W.heap.size) (c1 : W.cell? ⟨b2, i, none⟩ = some q1) (c2 : W.cell? ⟨b2, i + 1, none⟩ = some q2) :
    FrW W w' ∧ w'.cell? ⟨b, 0, none⟩ = some x ∧ w'.cell? ⟨b, 1, none⟩ = some y ∧ w'.cell? ⟨b, 2, none⟩ = some z ∧ w'.cell? ⟨b7, 0, none⟩ = some v0 ∧ w'.cell? ⟨b7, 1, none⟩ = some v1 ∧ w'.cell? ⟨b7, 2, none⟩ = some v2 ∧ w'.cell? ⟨b7, 3, none⟩ = some v3 ∧ w'.cell? ⟨b7, 4, none⟩ = some v4 ∧ w'.cell? ⟨b7, 5, none⟩ = some v5 ∧ w'.cell? ⟨b7, 6, none⟩ = some v6 ∧ w'.cell? ⟨b2, i, none⟩ = some q1 ∧ w'.cell? ⟨b2, i + 1, none⟩ = some q2 := by
  obtain ⟨_, t0, t1, t2⟩ := t.of h.below
  obtain ⟨_, s7⟩ := s.of h.below
  exact ⟨h, t0, t1, t2, s7 0, s7 1, s7 2, s7 3, s7 4, s7 5, s7 6, by rw [h.below.cell (p := ⟨_, _, none⟩) hb]; exact c1, by rw [h.below.cell (p := ⟨_, _, none⟩) hb]; exact c2⟩
end Go.Proofs.YtnhapgbjaeaamaaDoor
end
section
namespace Go.Proofs.YtnhapgbjaeaamaaDoor
open Go Go.RowKit
set_option maxRecDepth 100000
set_option linter.unusedSimpArgs false
set_option linter.unusedVariables false
/-- What near promises of its positions. -/
structure AllOk (H : List (Int × Int)) (N : List (Int × List Int)) (p : List (Int × Int × Int)) (all : List (Int × Int)) : Prop where
  nd : all.Nodup
  cov : ∀ x y, nxT H N p x y ≠ 0 → (x, y) ∈ all
  bd : ∀ q ∈ all, (-2000000 ≤ q.1 ∧ q.1 ≤ 2000000) ∧ -2000000 ≤ q.2 ∧ q.2 ≤ 2000000
theorem all_rect {st : Int} {H : List (Int × Int)} {N : List (Int × List Int)} {p : List (Int × Int × Int)} {X Y : Int} {W h : Nat} (hf : FitsR st H N p) (hb : BoxOf p X Y W h) : AllOk H N p (rectL (X - 2) (Y - 2) (W + 4) (h + 4)) := by
  refine ⟨rect_nodup _ _ _ _, fun x y hn => rect_covers hf.rule (rightC_sorted hf.pat) hb.cells hn, fun q hq => ?_⟩
  have h1 := mem_rect.1 hq
  have h2 := hb.bx
  omega
theorem all_far {st : Int} {H : List (Int × Int)} {N : List (Int × List Int)} {p : List (Int × Int × Int)} (hf : FitsR st H N p) : AllOk H N p (arN p p.length) := by
  refine ⟨arN_nodup _ (Nat.le_refl _), fun x y hn => ar_covers hf.rule (rightC_sorted hf.pat) hn, fun q hq => ?_⟩
  have h1 := (arN_mem p.length (Nat.le_refl _)).1 hq
  unfold nearC at h1
  obtain ⟨c, hc, h2⟩ := List.any_eq_true.1 h1
  rw [List.take_length] at hc
  have h3 := of_decide_eq_true h2
  obtain ⟨x, y, s⟩ := c
  have h4 := (cell_right hf.pat hc).1
  unfold Pt at h4
  simp only at h3
  omega
theorem st_gen {st : Int} {H : List (Int × Int)} {N : List (Int × List Int)} {p l : List (Int × Int × Int)} (hf : FitsR st H N p) (hg : IsGen H N p l) : (l.all plD = false → stE H N p = 5 ∧ stL H N p = []) ∧ (l.all plD = true → 5000 < l.length → stE H N p = 6 ∧ stL H N p = []) := by
  obtain ⟨_, e2, e3⟩ := hg.srt (genR_is hf.rule (rightC_sorted hf.pat))
  refine ⟨fun h => ?_, fun h h5 => ?_⟩
  · have e : stE H N p = 5 := by unfold stE; rw [← e3, h, if_neg (by simp)]
    exact ⟨e, by unfold stL; rw [e, if_neg (by omega)]⟩
  · have e : stE H N p = 6 := by unfold stE; rw [← e3, h, if_pos rfl, ← e2, if_pos h5]
    exact ⟨e, by unfold stL; rw [e, if_neg (by omega)]⟩
section
variable (st : Int) (A B D : Option Addr) (n c m d k e : Nat) (H : List (Int × Int)) (N : List (Int × List Int)) (p : List (Int × Int × Int)) (w : World)
end
end Go.Proofs.YtnhapgbjaeaamaaDoor
end
section
namespace Go.Proofs.YtnhapgbjaeaamaaDoor
open Go Go.RowKit
set_option maxRecDepth 100000
set_option linter.unusedSimpArgs false
set_option linter.unusedVariables false
theorem all_take {all : List (Int × Int)} {i : Nat} {q : Int × Int} (h : all[i]? = some q) : all.take (i + 1) = all.take i ++ [q] := by
  rw [List.take_add_one, h]; rfl
theorem all_snocB {q : Int × Int × Int → Bool} {l : List (Int × Int × Int)} {c : Int × Int × Int} {b v : Bool} (h : l.all q = !b) (hc : q c = v) : (l ++ [c]).all q = !(b || !v) := by
  rw [List.all_append, h]; simp [hc]
section
variable (st : Int) (A B D : Option Addr) (n c m d k e : Nat) (H : List (Int × Int)) (N : List (Int × List Int)) (p : List (Int × Int × Int)) (w : World)
end
end Go.Proofs.YtnhapgbjaeaamaaDoor
end
section
namespace Go.Proofs.YtnhapgbjaeaamaaDoor
open Go Go.RowKit
set_option maxRecDepth 100000
set_option linter.unusedSimpArgs false
set_option linter.unusedVariables false
section
variable (st : Int) (A B D : Option Addr) (n c m d k e : Nat) (H : List (Int × Int)) (N : List (Int × List Int)) (p : List (Int × Int × Int)) (w : World)
theorem his_len {st : Int} {H : List (Int × Int)} {N : List (Int × List Int)} {p : List (Int × Int × Int)} {nn : Nat} (h : runE st H N p nn = 0) : (hisL st H N p nn).length = nn + 1 ∧ (hisL st H N p nn)[nn]? = some (runL st H N p nn) := by
  unfold hisL runL
  rw [if_pos h, if_pos h, Int.toNat_natCast]
  refine ⟨by simp, ?_⟩
  rw [List.getElem?_map, List.getElem?_range (by omega)]; rfl
end
end Go.Proofs.YtnhapgbjaeaamaaDoor
end
