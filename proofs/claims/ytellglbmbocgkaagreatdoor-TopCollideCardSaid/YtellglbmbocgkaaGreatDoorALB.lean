/- The visitors of algebra.merge: closures that collect cells in a captured slice. The comparisons of cells in algebra and island, for slices.SortFunc. algebra.merge with each of its visitors. algebra.merge with the visitors of Xor and of pick. The contracts of algebra.Over, Xor, And, Without and Disjoint. Contracts of symmetry.Apply and of the reference's Mod and Apply. The contract of algebra.Turn. The contracts of algebra.Home, of its reference and of Turn's reference. The contracts of algebra.pick, And, Without and Disjoint. -/
import Derived.Test.YtellglbmbocgkaaGreatDoorCell8
import Derived.Test.YtellglbmbocgkaaGreatDoorPLN
import Derived.OneCell
import Derived.Test.YtellglbmbocgkaaGreatDoorSRT
import Derived.Test.YtellglbmbocgkaaGreatDoorProg
import Derived.Test.YtellglbmbocgkaaGreatDoorMEM
import Derived.Test.YtellglbmbocgkaaGreatDoorCEL
set_option linter.unusedSimpArgs false
set_option linter.unusedVariables false
section
namespace Go.Proofs.YtellglbmbocgkaaGreatDoor
open Go Go.RowKit
set_option maxRecDepth 100000
attribute [local go_sem ↓ high] eq_cl neq_cl eq_pt neq_pt
theorem own_box_ne {α : Type} {enc : α → List Value} {k : Nat} {e t : TypeId} {B b n c : Nat} {w : World} {A : Option Addr} {l : List α} {v : Value} (h : Own enc k e B w A n c l) (hb : w.heap[b]? = some (.cells #[v] t (0, 0))) (ht : t ≠ e) : (Value.slice A n c).ownBlock ≠ some b := by
  rcases h.row.2 with ⟨h0, _⟩ | ⟨g, cap, cur, hv, hg, hh, r⟩
  · rw [h0]; simp [Value.ownBlock]
  · rw [hv]
    intro e0
    have e1 : g = b := by simpa [Value.ownBlock] using e0
    subst e1
    rw [hh] at hb
    injection hb with hb
    injection hb with _ hb _
    exact ht hb.symm
theorem Own.setOther {α : Type} {enc : α → List Value} {k : Nat} {e : TypeId} {B n c : Nat} {w : World} {A : Option Addr} {l : List α} (h : Own enc k e B w A n c l) {a : Addr} (ha : (Value.slice A n c).ownBlock ≠ some a.block) (u : Value) : Own enc k e B (w.setCell a u) A n c l :=
  ⟨ownsRow_setCell_other h.row ha u, h.len⟩
def Coll (B b : Nat) (w : World) (l : List (Int × Int × Int)) : Prop := B ≤ b ∧ ∃ A n c, w.heap[b]? = some (.cells #[.slice A n c] 27 (0, 0)) ∧ Own encC 3 79 B w A n c l
theorem Coll.of {B b : Nat} {w w' : World} {l : List (Int × Int × Int)} (h : Coll B b w l) (hb : Below w.heap.size w w') : Coll B b w' l := by
  obtain ⟨h0, A, n, c, h1, h2⟩ := h
  exact ⟨h0, A, n, c, (hb.block b (lt_of_block h1)).trans h1, h2.of hb⟩
theorem Coll.lt {B b : Nat} {w : World} {l : List (Int × Int × Int)} (h : Coll B b w l) : b < w.heap.size := by
  obtain ⟨h0, A, n, c, h1, h2⟩ := h
  exact lt_of_block h1
theorem coll_store {B b : Nat} {w w1 w2 : World} {l : List (Int × Int × Int)} {A A' : Option Addr} {n c c' : Nat} {y : Int × Int × Int} (hB : B ≤ b) (h1 : w.heap[b]? = some (.cells #[.slice A n c] 27 (0, 0))) (h2 : Own encC 3 79 B w A n c l)
    (h3 : Below w.heap.size w w1) (h4 : Own encC 3 79 B w2 A' (n + 1) c' (l ++ [y])) (h5 : w1.grownBy w2 (Value.slice A n c).ownBlock) :
    w2.heap[b]? = some (.cells #[.slice A n c] 27 (0, 0)) ∧ Coll B b (w2.setCell ⟨b, 0, none⟩ (.slice A' (n + 1) c')) (l ++ [y]) := by
  have hb := lt_of_block h1
  have k1 : w1.heap[b]? = some (.cells #[.slice A n c] 27 (0, 0)) := (h3.block b hb).trans h1
  have hne := own_box_ne h2 h1 (by decide)
  have k2 : w2.heap[b]? = some (.cells #[.slice A n c] 27 (0, 0)) := (h5.block b (lt_of_block k1) (fun e => hne e.symm)).trans k1
  exact ⟨k2, hB, A', n + 1, c', one_setCell k2, h4.setOther (own_box_ne h4 k2 (by decide)) _⟩
set_option maxHeartbeats 1000000 in
theorem vis_pick_true (B b : Nat) (l : List (Int × Int × Int)) (x y : Int × Int × Int) (p q : Bool) (w : World) (h : Coll B b w l) (hl : l.length ≤ 1000000) (bh : Nat) (hbh : bh < B) (hh : w.heap[bh]? = some (.cells #[.bool true] 4 (0, 0))) :
    Calls Tryz.prog 245 #[.agg #[.int .i64 x.1, .int .i64 x.2.1, .int .i64 x.2.2], .agg #[.int .i64 y.1, .int .i64 y.2.1, .int .i64 y.2.2], .bool p, .bool q, .pointer (some ⟨bh, 0, none⟩), .pointer (some ⟨b, 0, none⟩)] w fun e w' => e = .returned (.tuple #[]) ∧ Coll B b w' (l ++ (if p = true then (if q = true then [x] else []) else [])) ∧ Below B w w' := by
  have HC := Lib.hid h
  obtain ⟨hB, A, n, c, h1, h2⟩ := h
  obtain ⟨x1, x2, x3⟩ := x
  obtain ⟨y1, y2, y3⟩ := y
  have hlt := lt_of_block h1
  have hlen := h2.len
  have hBw : B ≤ w.heap.size := by omega
  have g1 := cell_of_one h1
  have g2 := free_of_one h1
  have H1 := Lib.hid h1
  clear h1
  have k1 := cell_of_one hh
  have hbw : bh < w.heap.size := by omega
  clear hh
  cases p with
  | true =>
    cases q with
    | true =>
      go_enter Tryz.func245, Tryz.ntmps245
      go_wp2_with ((at_builtin; refine wpList_append_el rfl (.tmp 16) (.tmp 18) 27 rfl encC 3 79 (.agg #[.int .i64 0, .int .i64 0, .int .i64 0]) 24 Tryz.underlying27 (by kernel_rfl) rfl (by decide) encC_len encC_one (B) _ _ _ _ rfl ((((h2.alloc _).alloc _).alloc _)) (x1, x2, x3) ⟨w.heap.size + 1 + 1, 0, none⟩ 1 rfl (by have h := cells_new ((((w.alloc (.cells #[.int .i64 x1, .int .i64 x2, .int .i64 x3] 79)).alloc (.cells #[.int .i64 y1, .int .i64 y2, .int .i64 y3] 79)))) (encC (x1, x2, x3)) 79; simp only [World.size_alloc] at h; exact h) (by omega) (by omega) (by first | omega | (simp; done) | (simp; omega)) ?_; intro A5 c5 w5 hown5 hg5 hb5; obtain ⟨hc5, hf5⟩ := bcell hb5; have hs5 := hb5.size; (try simp only [World.size_alloc, World.size_setCell, World.size_drew] at hc5 hf5); (try simp at hs5)); clear hc5 hf5; have hk := coll_store hB H1.out h2 (by (repeat' (first | exact Below.refl _ _ | assumption | (refine Below.alloc ?_ ?_ _) | (refine Below.setCell ?_ ?_ _) | (refine Below.drew ?_) | (refine below_drewN ?_ _) | (refine below_after (Ext.below _) ?_ ?_) | (refine below_after (by assumption) ?_ ?_) | (simp; done) | omega | (simp; omega)))) hown5 hg5; have j1 := cell_of_one hk.1; have j2 := free_of_one hk.1; have HK := Lib.hid hk.2; clear hk)
      go_end0
      exact ⟨rfl, HK.out, (below_after hb5 (show Below B w _ from by (repeat' (first | exact Below.refl _ _ | assumption | (refine Below.alloc ?_ ?_ _) | (refine Below.setCell ?_ ?_ _) | (refine Below.drew ?_) | (refine below_drewN ?_ _) | (refine below_after (Ext.below _) ?_ ?_) | (refine below_after (by assumption) ?_ ?_) | (simp; done) | omega | (simp; omega)))) (Nat.le_refl _)).setCell (by simpa using hB) _⟩
    | false =>
      go_enter Tryz.func245, Tryz.ntmps245
      go_wp2_with fail
      go_end0
      exact ⟨rfl, by simpa using HC.out.of (by (repeat' (first | exact Below.refl _ _ | assumption | (refine Below.alloc ?_ ?_ _) | (refine Below.setCell ?_ ?_ _) | (refine Below.drew ?_) | (refine below_drewN ?_ _) | (refine below_after (Ext.below _) ?_ ?_) | (refine below_after (by assumption) ?_ ?_) | (simp; done) | omega | (simp; omega)))), by (repeat' (first | exact Below.refl _ _ | assumption | (refine Below.alloc ?_ ?_ _) | (refine Below.setCell ?_ ?_ _) | (refine Below.drew ?_) | (refine below_drewN ?_ _) | (refine below_after (Ext.below _) ?_ ?_) | (refine below_after (by assumption) ?_ ?_) | (simp; done) | omega | (simp; omega)))⟩
  | false =>
    cases q with
    | true =>
      go_enter Tryz.func245, Tryz.ntmps245
      go_wp2_with fail
      go_end0
      exact ⟨rfl, by simpa using HC.out.of (by (repeat' (first | exact Below.refl _ _ | assumption | (refine Below.alloc ?_ ?_ _) | (refine Below.setCell ?_ ?_ _) | (refine Below.drew ?_) | (refine below_drewN ?_ _) | (refine below_after (Ext.below _) ?_ ?_) | (refine below_after (by assumption) ?_ ?_) | (simp; done) | omega | (simp; omega)))), by (repeat' (first | exact Below.refl _ _ | assumption | (refine Below.alloc ?_ ?_ _) | (refine Below.setCell ?_ ?_ _) | (refine Below.drew ?_) | (refine below_drewN ?_ _) | (refine below_after (Ext.below _) ?_ ?_) | (refine below_after (by assumption) ?_ ?_) | (simp; done) | omega | (simp; omega)))⟩
    | false =>
      go_enter Tryz.func245, Tryz.ntmps245
      go_wp2_with fail
      go_end0
      exact ⟨rfl, by simpa using HC.out.of (by (repeat' (first | exact Below.refl _ _ | assumption | (refine Below.alloc ?_ ?_ _) | (refine Below.setCell ?_ ?_ _) | (refine Below.drew ?_) | (refine below_drewN ?_ _) | (refine below_after (Ext.below _) ?_ ?_) | (refine below_after (by assumption) ?_ ?_) | (simp; done) | omega | (simp; omega)))), by (repeat' (first | exact Below.refl _ _ | assumption | (refine Below.alloc ?_ ?_ _) | (refine Below.setCell ?_ ?_ _) | (refine Below.drew ?_) | (refine below_drewN ?_ _) | (refine below_after (Ext.below _) ?_ ?_) | (refine below_after (by assumption) ?_ ?_) | (simp; done) | omega | (simp; omega)))⟩
end Go.Proofs.YtellglbmbocgkaaGreatDoor
end
section
namespace Go.Proofs.YtellglbmbocgkaaGreatDoor
open Go Go.RowKit Go.Shelf Go.Sort
set_option maxRecDepth 100000
theorem below_grow {B : Nat} {w W : World} (h : Below B w W) (hB : B ≤ W.heap.size) (os : Array Obj) : Below B w (grow W os) :=
  ⟨h.os, h.tape, h.output, by have := h.size; simp [grow]; omega, fun i hi => by
    rw [← h.block i hi]; simp only [grow]; exact Array.getElem?_append_left (by omega)⟩
theorem alg_orderG (ax ay sa bx bx' bs : Int) (w : World) : Calls Tryz.prog 95 #[.agg #[.int .i64 ax, .int .i64 ay, .int .i64 sa], .agg #[.int .i64 bx, .int .i64 bx', .int .i64 bs]] w fun e w' => e = .returned (.int .i64 (cmpP ax ay bx bx')) ∧ ∃ q os, w' = grow (w.drewN q) os := by
  go_enter Tryz.func95, Tryz.ntmps95
  go_wp2
  refine wp_region_still_tail 10 (by kernel_rfl) (by kernel_rfl) ?_
  simp only [List.take_succ_cons, List.take_zero, List.drop_succ_cons, List.drop_zero]
  change wpStill _ _ (World.drew _) (fun a' => wpList _ _ _ _ a' (World.drew _)) _ _
  have hb : Below (w.heap.size + 2) ((w.alloc (.cells #[.int .i64 ax, .int .i64 ay, .int .i64 sa] 79)).alloc (.cells #[.int .i64 bx, .int .i64 bx', .int .i64 bs] 79)) ((w.alloc (.cells #[.int .i64 ax, .int .i64 ay, .int .i64 sa] 79)).alloc (.cells #[.int .i64 bx, .int .i64 bx', .int .i64 bs] 79)).drew := (Below.refl _ _).drew
  have hW : Hid (((w.alloc (.cells #[.int .i64 ax, .int .i64 ay, .int .i64 sa] 79)).alloc (.cells #[.int .i64 bx, .int .i64 bx', .int .i64 bs] 79)).drew = grow (w.drewN 1) #[.cells #[.int .i64 ax, .int .i64 ay, .int .i64 sa] 79, .cells #[.int .i64 bx, .int .i64 bx', .int .i64 bs] 79]) := by
    show _ = _
    rw [alloc_eq_grow, alloc_eq_grow, grow_grow]; rfl
  generalize ((w.alloc (.cells #[.int .i64 ax, .int .i64 ay, .int .i64 sa] 79)).alloc (.cells #[.int .i64 bx, .int .i64 bx', .int .i64 bs] 79)).drew = W at hb hW ⊢
  have hs := hb.size
  simp only [World.size_alloc] at hs
  have c0 : W.cell? ⟨w.heap.size, 0, none⟩ = some (.int .i64 ax) := by rw [hb.cell (p := ⟨w.heap.size, 0, none⟩) (by show w.heap.size < _; omega)]; simp [cell_alloc_if, cellOf]
  have c1 : W.cell? ⟨w.heap.size, 1, none⟩ = some (.int .i64 ay) := by rw [hb.cell (p := ⟨w.heap.size, 1, none⟩) (by show w.heap.size < _; omega)]; simp [cell_alloc_if, cellOf]
  have c2 : W.cell? ⟨w.heap.size + 1, 0, none⟩ = some (.int .i64 bx) := by rw [hb.cell (p := ⟨w.heap.size + 1, 0, none⟩) (by show w.heap.size + 1 < _; omega)]; simp [cell_alloc_if, cellOf]
  have c3 : W.cell? ⟨w.heap.size + 1, 1, none⟩ = some (.int .i64 bx') := by rw [hb.cell (p := ⟨w.heap.size + 1, 1, none⟩) (by show w.heap.size + 1 < _; omega)]; simp [cell_alloc_if, cellOf]
  repeat still_step
  still_call (cmp_CompareS _ _ _)
  repeat still_step
  still_call (cmp_CompareS _ _ _)
  refine wpStill_nil ?_
  have hl := (Own.lit encI_len W 3 W.heap.size (Nat.le_refl _) [cmpI ay bx', cmpI ax bx] 2 rfl (by omega) [.int .i64 (cmpI ay bx'), .int .i64 (cmpI ax bx)] rfl).rd encI_len
  show wpList _ _ _ _ _ _
  go_wp2_with fail
  go_at_call 151
  refine (cmp_Or2 _ _ _ _ _ hl).mono ?_
  rintro e w' ⟨rfl, rfl⟩
  go_wp2_with fail
  go_ret
  exact ⟨rfl, 1, _, by rw [hW.out, alloc_eq_grow, grow_grow]⟩
theorem alg_order_sort (B : Nat) (A : Option Addr) (n c : Nat) (l : List (Int × Int × Int)) (w : World) (hown : Own encC 3 79 B w A n c l) (hB : B ≤ w.heap.size) (hn : n ≤ 1000000) :
    Calls Tryz.prog 94 #[.slice A n c, .func (.func 95) #[] #[]] w fun e w' => e = .returned (.tuple #[]) ∧ ∃ l', Own encC 3 79 B w' A n c l' ∧ l'.Perm l ∧ WC l' ∧ Below B w w' := by
  have eg : ∀ args w, (callFunc 95 args).run Tryz.prog w = .ok (.enter 95 args) w := enters_of Tryz.func95 (by kernel_rfl) rfl
  refine (sortFunc_ce 95 cmpO swo_cmpO eg (fun x y W => alg_orderG x.1 x.2.1 x.2.2 y.1 y.2.1 y.2.2 W) B A n c l w hown hB hn).mono ?_
  rintro e w' ⟨rfl, l', h1, h2, h3, h4⟩
  exact ⟨rfl, l', h1, h2, h3.imp fun {a b} h => by rw [lt_cmpO] at h; exact h, h4⟩
theorem alg_order_cmp (ax ay sa bx bx' bs : Int) (w : World) : Calls Tryz.prog 95 #[.agg #[.int .i64 ax, .int .i64 ay, .int .i64 sa], .agg #[.int .i64 bx, .int .i64 bx', .int .i64 bs]] w fun e w' => e = .returned (.int .i64 (cmpP ax ay bx bx')) ∧ Below w.heap.size w w' :=
  (alg_orderG ax ay sa bx bx' bs w).mono fun e w' ⟨h1, q, os, h2⟩ => ⟨h1, by rw [h2]; exact below_grow (below_drewN (Below.refl _ _) q) (Nat.le_refl _) os⟩
end Go.Proofs.YtellglbmbocgkaaGreatDoor
end
section
namespace Go.Proofs.YtellglbmbocgkaaGreatDoor
open Go Go.RowKit
set_option maxRecDepth 100000
attribute [local go_sem ↓ high] eq_cl neq_cl eq_pt neq_pt
def RdB (B : Nat) (w : World) (A : Option Addr) (n : Nat) (l : List (Int × Int × Int)) : Prop := Rd encC 3 w A n l ∧ (0 < n → ∃ b o, A = some ⟨b, o, none⟩ ∧ b < B)
theorem RdB.of {B : Nat} {w w' : World} {A : Option Addr} {n : Nat} {l : List (Int × Int × Int)} (h : RdB B w A n l) (hb : Below B w w') : RdB B w' A n l := by
  refine ⟨⟨h.1.1, fun hn => ?_⟩, h.2⟩
  obtain ⟨b, o, e, hbl, hc⟩ := h.1.2 hn
  obtain ⟨b', o', e', hB⟩ := h.2 hn
  rw [e] at e'
  injection e' with e'
  injection e' with e1 e2 e3
  subst e1 e2
  exact ⟨b, o, e, by have := hb.size; omega, fun i x hi j u hu => (hb.cell (p := ⟨_, _, none⟩) hB).trans (hc i x hi j u hu)⟩
theorem RdB.mk' {w : World} {A : Option Addr} {n : Nat} {l : List (Int × Int × Int)} (h : Rd encC 3 w A n l) : RdB w.heap.size w A n l :=
  ⟨h, fun hn => by obtain ⟨b, o, e, hbl, _⟩ := h.2 hn; exact ⟨b, o, e, hbl⟩⟩
theorem rdB_tail {B b o n c : Nat} {w : World} {l : List (Int × Int × Int)} (h : RdB B w (some ⟨b, o, none⟩) n l) (hn : 0 < n) (hc : n ≤ c) :
    ∃ E, (if c = 1 then (some ⟨b, o, none⟩ : Option Addr) else some ⟨b, o + 3, none⟩) = E ∧ RdB B w E (n - 1) (l.drop 1) := by
  refine ⟨_, rfl, ?_⟩
  obtain ⟨b', o', e', hB⟩ := h.2 hn
  injection e' with e'
  injection e' with e1 e2 e3
  subst e1 e2
  by_cases h1 : c = 1
  · rw [if_pos h1]
    have : n - 1 = 0 := by omega
    rw [this]
    exact ⟨⟨by rw [List.length_drop, h.1.len]; omega, fun hh => absurd hh (by omega)⟩, fun hh => absurd hh (by omega)⟩
  · rw [if_neg h1]
    exact ⟨h.1.drop hn, fun _ => ⟨b, o + 3, rfl, hB⟩⟩
theorem res_left (k : Nat) (x : Int × Int × Int) (a : List (Int × Int × Int)) : resL k (x :: a) [] = visL k (some x, none) ++ resL k a [] := by unfold resL; rw [evL_left]; rfl
theorem res_right' (k : Nat) (y : Int × Int × Int) (b : List (Int × Int × Int)) : resL k [] (y :: b) = visL k (none, some y) ++ resL k [] b := by unfold resL; rw [evL_right]; rfl
theorem res_lt (k : Nat) {x y : Int × Int × Int} {a b : List (Int × Int × Int)} (h : cBef x y = true) : resL k (x :: a) (y :: b) = visL k (some x, none) ++ resL k a (y :: b) := by unfold resL; rw [evL_lt h]; rfl
theorem res_gt (k : Nat) {x y : Int × Int × Int} {a b : List (Int × Int × Int)} (h : cBef y x = true) : resL k (x :: a) (y :: b) = visL k (none, some y) ++ resL k (x :: a) b := by unfold resL; rw [evL_gt h]; rfl
theorem res_eq (k : Nat) {x y : Int × Int × Int} {a b : List (Int × Int × Int)} (h : cBef x y = false) (h2 : cBef y x = false) : resL k (x :: a) (y :: b) = visL k (some x, some y) ++ resL k a b := by unfold resL; rw [evL_eq h h2]; rfl
theorem cmpP_neg (a b x y : Int) : decide (cmpP a b x y < 0) = befP a b x y := by
  unfold cmpP befP orI cmpI; (repeat' split) <;> simp <;> omega
theorem cmpP_pos (a b x y : Int) : decide (0 < cmpP a b x y) = befP x y a b := by
  unfold cmpP befP orI cmpI; (repeat' split) <;> simp <;> omega
theorem cases3 (x y : Int × Int × Int) : (cBef x y = true ∧ cBef y x = false) ∨ (cBef x y = false ∧ cBef y x = true) ∨ (cBef x y = false ∧ cBef y x = false) := by
  cases h : cBef x y with
  | true => exact .inl ⟨rfl, cBef_asym h⟩
  | false =>
    cases h2 : cBef y x with
    | true => exact .inr (.inl ⟨rfl, rfl⟩)
    | false => exact .inr (.inr ⟨rfl, rfl⟩)
theorem res_nil (k : Nat) : resL k [] [] = [] := by unfold resL; rw [evL_nil_left]; rfl
end Go.Proofs.YtellglbmbocgkaaGreatDoor
end
section
namespace Go.Proofs.YtellglbmbocgkaaGreatDoor
open Go Go.RowKit
set_option maxRecDepth 100000
attribute [local go_sem ↓ high] eq_cl neq_cl eq_pt neq_pt
set_option maxHeartbeats 8000000 in
theorem mrg_pick_true (B b : Nat) (A A' : Option Addr) (n m c d : Nat) (l r : List (Int × Int × Int)) (w : World) (hR : RdB B w A n l) (hS : RdB B w A' m r) (hnc : n ≤ c) (hmd : m ≤ d) (hnm : n + m ≤ 1000000) (hC : Coll B b w []) (bh : Nat) (hbh : bh < B) (hh : Hid (w.heap[bh]? = some (.cells #[.bool true] 4 (0, 0)))) :
    Calls Tryz.prog 244 #[.slice A n c, .slice A' m d, .func (.func 245) #[] #[.pointer (some ⟨bh, 0, none⟩), .pointer (some ⟨b, 0, none⟩)]] w fun e w' => e = .returned (.tuple #[]) ∧ Coll B b w' (resL 1 l r) ∧ Below B w w' := by
  have hlr : l.length + r.length = n + m := by rw [hR.1.len, hS.1.len]
  have hrl := evL_len 1 l r
  go_enter Tryz.func244, Tryz.ntmps244
  go_wp2
  go_loopw [0, 1] (fun u v wr => ∃ (E F : Option Addr) (p q s t : Nat) (la lb acc : List (Int × Int × Int)), u = .slice E p s ∧ v = .slice F q t ∧ RdB B wr E p la ∧ RdB B wr F q lb ∧ p ≤ s ∧ q ≤ t ∧ Coll B b wr acc ∧ Hid (acc ++ resL 1 la lb = resL 1 l r) ∧ Below B w wr) (fun u v _ => lenOf u + lenOf v)
  case atStart => exact ⟨A, A', n, m, c, d, l, r, [], rfl, rfl, hR, hS, hnc, hmd, hC, (by show _ = _; rw [List.nil_append]), Below.refl _ _⟩
  case round =>
    obtain ⟨E, F, p, q, s, t, la, lb, acc, rfl, rfl, hE, hF, hps, hqt, hCo, hres, hb⟩ := hrel
    have hacc : acc.length ≤ 1000000 := by have := congrArg List.length hres.out; rw [List.length_append] at this; omega
    have hsz := hb.size
    have hlt := hCo.lt
    cases la with
    | nil =>
      cases lb with
      | nil =>
        obtain rfl : p = 0 := hE.1.len.symm
        obtain rfl : q = 0 := hF.1.len.symm
        go_wp2_with fail
        go_end0
        exact ⟨rfl, by have := hres.out; rw [res_nil, List.append_nil] at this; rw [← this]; exact hCo, hb⟩
      | cons y lb =>
        obtain rfl : p = 0 := hE.1.len.symm
        have hq0 : 0 < q := by have := hF.1.len; rw [List.length_cons] at this; omega
        obtain ⟨x', y', s', bo, o, hx, rfl, hbl, g1, g2, g3⟩ := hF.1.cell hq0
        obtain rfl : y = (x', y', s') := by have := hx.out; simpa using this
        rw [Nat.zero_mul, Nat.add_zero] at g1 g2 g3
        obtain ⟨F2, hF2, hT⟩ := rdB_tail hF hq0 hqt
        have d1 : decide ((0 : Int) < (q : Int)) = true := decide_eq_true (by omega)
        have p1 : ((q : Int) == 0) = false := by simp only [beq_eq_false_iff_ne, ne_eq]; omega
        clear hx
        go_wp2_with fail
        go_at_call 245
        refine (vis_pick_true B b acc (0, 0, 0) (x', y', s') false true _ hCo hacc bh hbh ((hb.block bh hbh).trans hh.out)).mono ?_
        rintro e w5 ⟨rfl, hC5, hb5⟩
        go_wp2_with fail
        go_roundw
        case rel => exact ⟨E, F2, 0, q - 1, s, t - 1, [], lb, acc ++ visL 1 (none, some (x', y', s')), rfl, rfl, hE.of hb5, hT.of hb5, by omega, by omega, hC5, (by have := hres.out; rw [res_right'] at this; show _ = _; rw [List.append_assoc]; exact this), hb.trans hb5⟩
        case measure => simp [lenOf]; omega
    | cons x la =>
      cases lb with
      | nil =>
        obtain rfl : q = 0 := hF.1.len.symm
        have hp0 : 0 < p := by have := hE.1.len; rw [List.length_cons] at this; omega
        obtain ⟨x', y', s', bo, o, hx, rfl, hbl, g1, g2, g3⟩ := hE.1.cell hp0
        obtain rfl : x = (x', y', s') := by have := hx.out; simpa using this
        rw [Nat.zero_mul, Nat.add_zero] at g1 g2 g3
        obtain ⟨E2, hE2, hT⟩ := rdB_tail hE hp0 hps
        have d1 : decide ((0 : Int) < (p : Int)) = true := decide_eq_true (by omega)
        have p1 : ((p : Int) == 0) = false := by simp only [beq_eq_false_iff_ne, ne_eq]; omega
        clear hx
        go_wp2_with fail
        go_at_call 245
        refine (vis_pick_true B b acc (x', y', s') (0, 0, 0) true false _ hCo hacc bh hbh ((hb.block bh hbh).trans hh.out)).mono ?_
        rintro e w5 ⟨rfl, hC5, hb5⟩
        go_wp2_with fail
        go_roundw
        case rel => exact ⟨E2, F, p - 1, 0, s - 1, t, la, [], acc ++ visL 1 (some (x', y', s'), none), rfl, rfl, hT.of hb5, hF.of hb5, by omega, by omega, hC5, (by have := hres.out; rw [res_left] at this; show _ = _; rw [List.append_assoc]; exact this), hb.trans hb5⟩
        case measure => simp [lenOf]; omega
      | cons y lb =>
        have hp0 : 0 < p := by have := hE.1.len; rw [List.length_cons] at this; omega
        have hq0 : 0 < q := by have := hF.1.len; rw [List.length_cons] at this; omega
        obtain ⟨x', y', s', bo, o, hx, rfl, hbl, g1, g2, g3⟩ := hE.1.cell hp0
        obtain rfl : x = (x', y', s') := by have := hx.out; simpa using this
        obtain ⟨x2, y2, s2, bo2, o2, hx2, rfl, hbl2, j1, j2, j3⟩ := hF.1.cell hq0
        obtain rfl : y = (x2, y2, s2) := by have := hx2.out; simpa using this
        rw [Nat.zero_mul, Nat.add_zero] at g1 g2 g3 j1 j2 j3
        obtain ⟨E2, hE2, hTE⟩ := rdB_tail hE hp0 hps
        obtain ⟨F2, hF2, hTF⟩ := rdB_tail hF hq0 hqt
        have d1 : decide ((0 : Int) < (p : Int)) = true := decide_eq_true (by omega)
        have p1 : ((p : Int) == 0) = false := by simp only [beq_eq_false_iff_ne, ne_eq]; omega
        have p2 : ((q : Int) == 0) = false := by simp only [beq_eq_false_iff_ne, ne_eq]; omega
        have i1 : (0 : Int) < (p : Int) := by omega
        have i2 : (0 : Int) < (q : Int) := by omega
        clear hx hx2
        have kW := fun w1 => alg_order_cmp x' y' s' x2 y2 s2 w1
        have dn := cmpP_neg x' y' x2 y2
        have dp := cmpP_pos x' y' x2 y2
        rcases cases3 (x', y', s') (x2, y2, s2) with ⟨hc1, hc2⟩ | ⟨hc1, hc2⟩ | ⟨hc1, hc2⟩
        · have HR := Lib.hid (hres.out.symm.trans (by rw [res_lt _ hc1]))
          rw [show befP x' y' x2 y2 = true from hc1] at dn
          rw [show befP x2 y2 x' y' = false from hc2] at dp
          clear hc1 hc2
          generalize cmpP x' y' x2 y2 = v at kW dn dp
          go_wp2_with fail
          (refine wp_region_ext_lit (by kernel_rfl) (by kernel_rfl) ?_; (repeat (go_big_quiet_step ((go_at_call 95; exact calls_ext (kW _))))); refine wpQuiet_nil ?_; intro _ hw'; obtain ⟨z1, hw''⟩ := hw'; subst hw''; have hs1 := z1.size; obtain ⟨hc1, hf1⟩ := bcell z1.below; (try simp only [World.size_alloc, World.size_setCell, World.size_drew] at hc1 hf1); (try simp at hs1))
          have hE1 := hE.of (z1.below.mono (Nat.le_of_lt (Nat.lt_of_le_of_lt hCo.1 hlt)))
          go_wp2_with fail
          go_at_call 245
          refine (vis_pick_true B b acc (x', y', s') (0, 0, 0) true false _ (hCo.of z1.below) hacc bh hbh (((hb.trans (z1.below.mono (Nat.le_of_lt (Nat.lt_of_le_of_lt hCo.1 hlt)))).block bh hbh).trans hh.out)).mono ?_
          rintro e w5 ⟨rfl, hC5, hb5⟩
          have hbt : Below B wr w5 := (z1.below.mono (Nat.le_of_lt (Nat.lt_of_le_of_lt hCo.1 hlt))).trans hb5
          go_wp2_with fail
          go_roundw
          case rel => exact ⟨E2, _, p - 1, q, s - 1, t, la, (x2, y2, s2) :: lb, acc ++ visL 1 (some (x', y', s'), none), rfl, rfl, hTE.of hbt, hF.of hbt, by omega, by omega, hC5, (by have := HR.out; show _ = _; rw [this, List.append_assoc]), hb.trans hbt⟩
          case measure => simp [lenOf]; omega
        · have HR := Lib.hid (hres.out.symm.trans (by rw [res_gt _ hc2]))
          rw [show befP x' y' x2 y2 = false from hc1] at dn
          rw [show befP x2 y2 x' y' = true from hc2] at dp
          clear hc1 hc2
          generalize cmpP x' y' x2 y2 = v at kW dn dp
          go_wp2_with fail
          (refine wp_region_ext_lit (by kernel_rfl) (by kernel_rfl) ?_; (repeat (go_big_quiet_step ((go_at_call 95; exact calls_ext (kW _))))); refine wpQuiet_nil ?_; intro _ hw'; obtain ⟨z1, hw''⟩ := hw'; subst hw''; have hs1 := z1.size; obtain ⟨hc1, hf1⟩ := bcell z1.below; (try simp only [World.size_alloc, World.size_setCell, World.size_drew] at hc1 hf1); (try simp at hs1))
          go_wp2_with fail
          go_at_call 245
          refine (vis_pick_true B b acc (0, 0, 0) (x2, y2, s2) false true _ (hCo.of z1.below) hacc bh hbh (((hb.trans (z1.below.mono (Nat.le_of_lt (Nat.lt_of_le_of_lt hCo.1 hlt)))).block bh hbh).trans hh.out)).mono ?_
          rintro e w5 ⟨rfl, hC5, hb5⟩
          have hbt : Below B wr w5 := (z1.below.mono (Nat.le_of_lt (Nat.lt_of_le_of_lt hCo.1 hlt))).trans hb5
          go_wp2_with fail
          go_roundw
          case rel => exact ⟨_, F2, p, q - 1, s, t - 1, (x', y', s') :: la, lb, acc ++ visL 1 (none, some (x2, y2, s2)), rfl, rfl, hE.of hbt, hTF.of hbt, by omega, by omega, hC5, (by have := HR.out; show _ = _; rw [this, List.append_assoc]), hb.trans hbt⟩
          case measure => simp [lenOf]; omega
        · have HR := Lib.hid (hres.out.symm.trans (by rw [res_eq _ hc1 hc2]))
          rw [show befP x' y' x2 y2 = false from hc1] at dn
          rw [show befP x2 y2 x' y' = false from hc2] at dp
          clear hc1 hc2
          generalize cmpP x' y' x2 y2 = v at kW dn dp
          go_wp2_with fail
          (refine wp_region_ext_lit (by kernel_rfl) (by kernel_rfl) ?_; (repeat (go_big_quiet_step ((go_at_call 95; exact calls_ext (kW _))))); refine wpQuiet_nil ?_; intro _ hw'; obtain ⟨z1, hw''⟩ := hw'; subst hw''; have hs1 := z1.size; obtain ⟨hc1, hf1⟩ := bcell z1.below; (try simp only [World.size_alloc, World.size_setCell, World.size_drew] at hc1 hf1); (try simp at hs1))
          go_wp2_with fail
          refine wp_region_still_tail 7 (by kernel_rfl) (by kernel_rfl) ?_
          simp only [List.take_succ_cons, List.take_zero, List.drop_succ_cons, List.drop_zero]
          change wpStill _ _ (World.drew _) (fun a' => wpList _ _ _ _ a' (World.drew _)) _ _
          repeat still_step
          refine wpStill_nil ?_
          show wpList _ _ _ _ _ _
          go_wp2_with fail
          go_at_call 245
          refine (vis_pick_true B b acc (x', y', s') (x2, y2, s2) true true _ (hCo.of z1.below.drew) hacc bh hbh (((hb.trans (z1.below.drew.mono (Nat.le_of_lt (Nat.lt_of_le_of_lt hCo.1 hlt)))).block bh hbh).trans hh.out)).mono ?_
          rintro e w5 ⟨rfl, hC5, hb5⟩
          have hbt : Below B wr w5 := (z1.below.drew.mono (Nat.le_of_lt (Nat.lt_of_le_of_lt hCo.1 hlt))).trans hb5
          go_wp2_with fail
          (refine wp_region_ext_lit (by kernel_rfl) (by kernel_rfl) ?_; (repeat (go_big_quiet_step (fail))); refine wpQuiet_nil ?_; intro _ hw'; obtain ⟨z2, hw''⟩ := hw'; subst hw''; have hs2 := z2.size; obtain ⟨hc2, hf2⟩ := bcell z2.below; (try simp only [World.size_alloc, World.size_setCell, World.size_drew] at hc2 hf2); (try simp at hs2))
          have hbz : Below B wr z2.world := hbt.trans (z2.below.mono (by have := hb5.size; have := hCo.1; have := z1.below.size; simp only [World.size_drew] at *; omega))
          have hC6 := hC5.of z2.below
          go_wp2_with fail
          go_roundw
          case rel => exact ⟨E2, F2, p - 1, q - 1, s - 1, t - 1, la, lb, acc ++ visL 1 (some (x', y', s'), some (x2, y2, s2)), rfl, rfl, hTE.of hbz, hTF.of hbz, by omega, by omega, hC6, (by have := HR.out; show _ = _; rw [this, List.append_assoc]), hb.trans hbz⟩
          case measure => simp [lenOf]; omega
end Go.Proofs.YtellglbmbocgkaaGreatDoor
end
section
namespace Go.Proofs.YtellglbmbocgkaaGreatDoor
open Go Go.RowKit
set_option maxRecDepth 100000
attribute [local go_sem ↓ high] eq_cl neq_cl eq_pt neq_pt
theorem coll_new {B n c : Nat} {w : World} {A : Option Addr} {l : List (Int × Int × Int)} (h : Own encC 3 79 B w A n c l) (hB : B ≤ w.heap.size) : Coll B w.heap.size (w.alloc (.cells #[.slice A n c] 27)) l :=
  ⟨hB, A, n, c, heap_alloc_new w _, h.alloc _⟩
theorem both_ways (a b : List (Int × Int × Int)) : (rightC a = false) ∨ (rightC a = true ∧ rightC b = false) ∨ (rightC a = true ∧ rightC b = true) := by
  cases rightC a <;> cases rightC b <;> simp
end Go.Proofs.YtellglbmbocgkaaGreatDoor
end
section
namespace Go.Proofs.YtellglbmbocgkaaGreatDoor
open Go Go.RowKit
set_option maxRecDepth 100000
def Mx (w : World) : Prop := 0 < w.heap.size ∧ ∀ r j, r < 8 → j < 4 → w.cell? ⟨0, r * 4 + j, none⟩ = some (.int .i64 (mat r j))
theorem Mx.of {w w' : World} (h : Mx w) (hb : Below w.heap.size w w') : Mx w' :=
  ⟨Nat.lt_of_lt_of_le h.1 hb.size, fun r j hr hj => (hb.cell (p := ⟨0, r * 4 + j, none⟩) h.1).trans (h.2 r j hr hj)⟩
theorem apply_core (k x y a b c d : Int) (r : Nat) (hr : r < 8) (w : World) (hb : bits .and .i64 k 7 = (r : Int)) (hz : 0 < w.heap.size)
   (h0 : w.cell? ⟨0, r * 4, none⟩ = some (.int .i64 a)) (h1 : w.cell? ⟨0, r * 4 + 1, none⟩ = some (.int .i64 b)) (h2 : w.cell? ⟨0, r * 4 + 2, none⟩ = some (.int .i64 c)) (h3 : w.cell? ⟨0, r * 4 + 3, none⟩ = some (.int .i64 d)):
    Calls Tryz.prog 93 #[.int .i64 k, .agg #[.int .i64 x, .int .i64 y]] w fun e w' => e = .returned (.agg #[.int .i64 (wrap64 (wrap64 (a * x) + wrap64 (b * y))), .int .i64 (wrap64 (wrap64 (c * x) + wrap64 (d * y)))]) ∧ Below w.heap.size w w' := by
  go_enter Tryz.func93, Tryz.ntmps93
  go_wp2
  refine bodyPost_ret (v := .agg #[.int .i64 (wrap64 (wrap64 (a * x) + wrap64 (b * y))), .int .i64 (wrap64 (wrap64 (c * x) + wrap64 (d * y)))]) (by simp [results, Tryz.results93, go_sem, *, ↓IntWalk.iteOmega]) rfl ?_
  exact ⟨rfl, by (repeat' (first | exact Below.refl _ _ | assumption | (refine Below.alloc ?_ ?_ _) | (refine Below.setCell ?_ ?_ _) | (refine Below.drew ?_) | (refine below_drewN ?_ _) | (refine below_after (Ext.below _) ?_ ?_) | (refine below_after (by assumption) ?_ ?_) | (simp; done) | omega | (simp; omega)))⟩
theorem sym_Apply (k x y : Int) (w : World) (hM : Mx w) :
    Calls Tryz.prog 93 #[.int .i64 k, .agg #[.int .i64 x, .int .i64 y]] w fun e w' => e = .returned (.agg #[.int .i64 (app k x y).1, .int .i64 (app k x y).2]) ∧ Below w.heap.size w w' :=
  apply_core k x y _ _ _ _ (r8 k) (r8_lt k) w (by rw [i64_and7, r8_cast]) hM.1 (hM.2 _ 0 (r8_lt k) (by omega)) (hM.2 _ 1 (r8_lt k) (by omega)) (hM.2 _ 2 (r8_lt k) (by omega)) (hM.2 _ 3 (r8_lt k) (by omega))
end Go.Proofs.YtellglbmbocgkaaGreatDoor
end
section
namespace Go.Proofs.YtellglbmbocgkaaGreatDoor
open Go Go.RowKit
set_option maxRecDepth 100000
attribute [local go_sem ↓ high] eq_cl neq_cl eq_pt neq_pt
/-- The code that Turn returns, and the pattern. -/
def tuE (l : List (Int × Int × Int)) : Int := if rightC l = true then 0 else 2
def tuL (k : Int) (l : List (Int × Int × Int)) : List (Int × Int × Int) := if rightC l = true then trL k l else []
set_option maxHeartbeats 4000000 in
theorem alg_Turn (k : Int) (A : Option Addr) (n c : Nat) (l : List (Int × Int × Int)) (w : World) (hM : Mx w) (hR : Rd encC 3 w A n l) (hn : n ≤ 1000000) :
    Calls Tryz.prog 55 #[.int .i64 k, .slice A n c] w fun e w' => ∃ A2 n2 c2, e = .returned (.tuple #[.slice A2 n2 c2, .int .i64 (tuE l)]) ∧ Rd encC 3 w' A2 n2 (tuL k l) ∧ n2 ≤ n ∧ n2 ≤ c2 ∧ Below w.heap.size w w' := by
  cases hr : rightC l with
  | false =>
    have HE := Lib.hid (show tuE l = 2 ∧ tuL k l = [] by unfold tuE tuL; rw [hr]; exact ⟨rfl, rfl⟩)
    have kR := fun w1 (h : Rd encC 3 w1 A n l) => pat_RightV (A := A) (n := n) (c := c) hr w1 h (by omega)
    clear hr
    go_enter Tryz.func55, Tryz.ntmps55
    go_wp2_with fail; go_at_call 70; refine (kR _ hR).mono ?_; rintro e w1 ⟨rfl, hb1⟩; have hs1 := hb1.size; (try simp only [World.size_alloc, World.size_drew, World.size_setCell] at hs1)
    go_wp2_with fail
    go_ret2
    exact ⟨none, 0, 0, ret_pe HE.out.1.symm, by rw [HE.out.2]; exact Rd.nil_, by omega, by omega, by (repeat' (first | exact Below.refl _ _ | assumption | (refine Below.alloc ?_ ?_ _) | (refine Below.setCell ?_ ?_ _) | (refine Below.drew ?_) | (refine below_drewN ?_ _) | (refine below_after (Ext.below _) ?_ ?_) | (refine below_after (by assumption) ?_ ?_) | (simp; done) | omega | (simp; omega)))⟩
  | true =>
    have HE := Lib.hid (show tuE l = 0 ∧ tuL k l = trL k l by unfold tuE tuL; rw [hr]; exact ⟨rfl, rfl⟩)
    have HN := Lib.hid (tr_cells k hr)
    have hn5 : n ≤ 5000 := by rw [← hR.len]; exact (rightC_ok hr).1
    have kR := fun w1 (h : Rd encC 3 w1 A n l) => pat_RightV (A := A) (n := n) (c := c) hr w1 h (by omega)
    clear hr
    go_enter Tryz.func55, Tryz.ntmps55
    go_wp2_with fail; go_at_call 70; refine (kR _ hR).mono ?_; rintro e w1 ⟨rfl, hb1⟩; have hs1 := hb1.size; (try simp only [World.size_alloc, World.size_drew, World.size_setCell] at hs1)
    have hR1 := hR.of hb1
    have hM1 := hM.of hb1
    have hB1 := hb1
    clear hb1 kR hR hM
    go_wp2_with (first | (at_make; refine wpList_make_el rfl (.const (.int .i64 0)) (.tmp 14) 27 rfl encC 3 79 (.agg #[.int .i64 0, .int .i64 0, .int .i64 0]) 24 Tryz.underlying27 (by kernel_rfl) (w1.heap.size) _ (n) rfl rfl (rfl) (by omega) (by omega) (by first | omega | (simp; done) | (simp; omega)) ?_; intro w5 hown5 hb5; obtain ⟨hc5, hf5⟩ := bcell hb5; have hs5 := hb5.size; (try simp only [World.size_alloc, World.size_setCell, World.size_drew] at hc5 hf5); (try simp at hs5)))
    have hB5 : Below w.heap.size w w5 := by (repeat' (first | exact Below.refl _ _ | assumption | (refine Below.alloc ?_ ?_ _) | (refine Below.setCell ?_ ?_ _) | (refine Below.drew ?_) | (refine below_drewN ?_ _) | (refine below_after (Ext.below _) ?_ ?_) | (refine below_after (by assumption) ?_ ?_) | (simp; done) | omega | (simp; omega)))
    have hR5 := hR1.of hb5
    have hM5 := hM1.of hb5
    have hs50 := hb5.size
    clear hc5 hf5 hs5
    go_loopw [6, 18] (fun v i wr => ∃ (E : Option Addr) (m d j : Nat), v = .slice E m d ∧ i = .int .i64 j ∧ j ≤ n ∧ m = j ∧ Own encC 3 79 w1.heap.size wr E m d ((l.take j).map (trn k)) ∧ Below w1.heap.size w1 wr) (fun _ i _ => n - (intOf i).toNat)
    case atStart => exact ⟨_, 0, n, 0, rfl, rfl, by omega, rfl, hown5, hb5⟩
    case round =>
      obtain ⟨E, m, d, j, rfl, rfl, hj, rfl, hown, hb⟩ := hrel
      obtain ⟨hc, hf⟩ := bcell hb
      have hs := hb.size
      by_cases hlt : m < n
      · have dj : decide ((m : Int) < n) = true := decide_eq_true (by omega)
        obtain ⟨x', y', s', bo, o, hx, rfl, hbl, g1, g2, g3⟩ := hR1.cell hlt
        have hst := Lib.hid (map_step (trn k) hx.out)
        have kA := fun w9 (h : Mx w9) => sym_Apply k x' y' w9 h
        have hMr := hM1.of hb
        go_wp2_with fail
        go_at_call 93
        refine (kA _ (hMr.of (by (repeat' (first | exact Below.refl _ _ | assumption | (refine Below.alloc ?_ ?_ _) | (refine Below.setCell ?_ ?_ _) | (refine Below.drew ?_) | (refine below_drewN ?_ _) | (refine below_after (Ext.below _) ?_ ?_) | (refine below_after (by assumption) ?_ ?_) | (simp; done) | omega | (simp; omega)))))).mono ?_
        rintro e w6 ⟨rfl, hb6⟩
        obtain ⟨hc6, hf6⟩ := bcell hb6
        have hs6 := hb6.size
        simp only [World.size_alloc] at hc6 hf6 hs6
        have hown6 : Own encC 3 79 w1.heap.size w6 E m d ((l.take m).map (trn k)) := hown.of (by (repeat' (first | exact Below.refl _ _ | assumption | (refine Below.alloc ?_ ?_ _) | (refine Below.setCell ?_ ?_ _) | (refine Below.drew ?_) | (refine below_drewN ?_ _) | (refine below_after (Ext.below _) ?_ ?_) | (refine below_after (by assumption) ?_ ?_) | (simp; done) | omega | (simp; omega))))
        have hst2 := Lib.hid (show (l.take (m + 1)).map (trn k) = (l.take m).map (trn k) ++ [((app k x' y').1, (app k x' y').2, s')] from hst.out)
        generalize (app k x' y').1 = u1 at hst2 ⊢
        generalize (app k x' y').2 = u2 at hst2 ⊢
        go_wp2_with (first | (at_builtin; refine wpList_append_el rfl (.tmp 29) (.tmp 37) 27 rfl encC 3 79 (.agg #[.int .i64 0, .int .i64 0, .int .i64 0]) 24 Tryz.underlying27 (by kernel_rfl) rfl (by decide) encC_len encC_one (w1.heap.size) _ _ _ _ rfl (((hown6.alloc _).alloc _)) (u1, u2, s') ⟨w6.heap.size + 1, 0, none⟩ 1 rfl (by have h := cells_new ((w6.alloc (.cells #[.int .i64 u1, .int .i64 u2] 139))) (encC (u1, u2, s')) 79; simp only [World.size_alloc] at h; exact h) (by omega) (by omega) (by first | omega | (simp; done) | (simp; omega)) ?_; intro A7 c7 w7 hown7 hg7 hb7; obtain ⟨hc7, hf7⟩ := bcell hb7; have hs7 := hb7.size; (try simp only [World.size_alloc, World.size_setCell, World.size_drew] at hc7 hf7); (try simp at hs7)))
        go_roundw
        case rel => exact ⟨A7, m + 1, c7, m + 1, rfl, by go_num, by omega, rfl, by rw [hst2.out]; exact hown7, by (repeat' (first | exact Below.refl _ _ | assumption | (refine Below.alloc ?_ ?_ _) | (refine Below.setCell ?_ ?_ _) | (refine Below.drew ?_) | (refine below_drewN ?_ _) | (refine below_after (Ext.below _) ?_ ?_) | (refine below_after (by assumption) ?_ ?_) | (simp; done) | omega | (simp; omega)))⟩
        case measure => simp [intOf]; omega
      · obtain rfl : m = n := by omega
        have dj : decide ((m : Int) < m) = false := decide_eq_false (by omega)
        rw [List.take_of_length_le (by rw [hR1.len]; omega)] at hown
        go_wp2_with fail
        go_at_call 94
        refine (alg_order_sort w1.heap.size _ _ _ _ _ hown hs (by omega)).mono ?_
        rintro e w8 ⟨rfl, l', hown8, hperm, hwc, hb8⟩
        have hcap := own_cap hown8
        have HL := Lib.hid (sort_fin hperm hwc HN.out.2.1)
        have hR8 := hown8.rd encC_len
        clear hperm hwc hown8 hown
        go_wp2
        go_ret2
        exact ⟨E, m, d, ret_pe HE.out.1.symm, by rw [HE.out.2]; unfold trL; rw [HL.out]; exact hR8, Nat.le_refl _, hcap, hB1.trans ((hb.trans hb8).mono hB1.size)⟩
end Go.Proofs.YtellglbmbocgkaaGreatDoor
end
section
namespace Go.Proofs.YtellglbmbocgkaaGreatDoor
open Go Go.RowKit
set_option maxRecDepth 100000
attribute [local go_sem ↓ high] eq_cl neq_cl eq_pt neq_pt
theorem pat_BoxU6 (A : Option Addr) (n c : Nat) (l : List (Int × Int × Int)) (w : World) (hR : Rd encC 3 w A n l) (hn : n ≤ 1000000) : Calls Tryz.prog 99 #[.slice A n c] w fun e w' => e = .returned (.tuple #[.agg #[.int .i64 (hmX l), .int .i64 (hmY l), .int .i64 (arW (bxPos l)), .int .i64 (arH (bxPos l))], .bool (arOk (bxPos l))]) ∧ Below w.heap.size w w' := pat_Box A n c l w hR hn
set_option maxHeartbeats 4000000 in
theorem alg_Home (A : Option Addr) (n c : Nat) (l : List (Int × Int × Int)) (w : World) (hR : Rd encC 3 w A n l) (hn : n ≤ 1000000) (hnc : n ≤ c) :
    Calls Tryz.prog 57 #[.slice A n c] w fun e w' => ∃ A2 c2, e = .returned (.slice A2 n c2) ∧ Rd encC 3 w' A2 n (hmL l) ∧ n ≤ c2 ∧ Below w.heap.size w w' := by
  have kB := fun w1 (h : Rd encC 3 w1 A n l) => pat_BoxU6 A n c l w1 h hn
  by_cases hg : rightC l = true ∧ 0 < l.length
  · obtain ⟨hr, h0⟩ := hg
    obtain ⟨e0, e1, _, _⟩ := hm_good hr h0
    have hbd := hm_bound hr h0
    have HE := Lib.hid e1
    rw [e0] at kB
    have hel := Lib.hid (okCells_right hr)
    have kR := fun w1 (h : Rd encC 3 w1 A n l) => pat_RightV (A := A) (n := n) (c := c) hr w1 h (by omega)
    generalize hmX l = X at kB hbd HE
    generalize hmY l = Y at kB hbd HE
    generalize arW (bxPos l) = W0 at kB
    generalize arH (bxPos l) = H0 at kB
    clear e0 e1 hr h0
    obtain ⟨b1, b2, b3, b4⟩ := hbd
    go_enter Tryz.func57, Tryz.ntmps57
    go_wp2_with fail; go_at_call 99; refine (kB _ hR).mono ?_; rintro e w1 ⟨rfl, hb1⟩; have hs1 := hb1.size; (try simp only [World.size_alloc, World.size_drew, World.size_setCell] at hs1)
    have xb := BoxAt.new w1 X Y W0 H0 162
    go_wp2_with fail; go_at_call 70; refine (kR _ (hR.of (by (repeat' (first | exact Below.refl _ _ | assumption | (refine Below.alloc ?_ ?_ _) | (refine Below.setCell ?_ ?_ _) | (refine Below.drew ?_) | (refine below_drewN ?_ _) | (refine below_after (Ext.below _) ?_ ?_) | (refine below_after (by assumption) ?_ ?_) | (simp; done) | omega | (simp; omega)))))).mono ?_; rintro e w2 ⟨rfl, hb2⟩; have hs2 := hb2.size; (try simp only [World.size_alloc, World.size_drew, World.size_setCell] at hs2)
    obtain ⟨q0, q1, q2, q3, q4⟩ := xb.of hb2
    have hB2 : Below w.heap.size w w2 := by (repeat' (first | exact Below.refl _ _ | assumption | (refine Below.alloc ?_ ?_ _) | (refine Below.setCell ?_ ?_ _) | (refine Below.drew ?_) | (refine below_drewN ?_ _) | (refine below_after (Ext.below _) ?_ ?_) | (refine below_after (by assumption) ?_ ?_) | (simp; done) | omega | (simp; omega)))
    have hR2 : Rd encC 3 w2 A n l := hR.of hB2
    have hs0 := hB2.size
    have hs12 : w1.heap.size < w2.heap.size := by omega
    clear hb1 hb2 hs1 hs2 kB kR hR xb
    go_wp2_with (first | (at_make; refine wpList_make_el rfl (.const (.int .i64 0)) (.tmp 22) 27 rfl encC 3 79 (.agg #[.int .i64 0, .int .i64 0, .int .i64 0]) 24 Tryz.underlying27 (by kernel_rfl) (w2.heap.size) _ (n) rfl rfl (rfl) (by omega) (by omega) (by first | omega | (simp; done) | (simp; omega)) ?_; intro w5 hown5 hb5; obtain ⟨hc5, hf5⟩ := bcell hb5; have hs5 := hb5.size; (try simp only [World.size_alloc, World.size_setCell, World.size_drew] at hc5 hf5); (try simp at hs5)))
    clear hc5 hf5 hs5
    go_loopw [5, 26] (fun v i wr => ∃ (E : Option Addr) (d j : Nat), v = .slice E j d ∧ i = .int .i64 j ∧ j ≤ n ∧ Own encC 3 79 w2.heap.size wr E j d ((l.take j).map (mv5 (-X) (-Y))) ∧ Below w2.heap.size w2 wr) (fun _ i _ => n - (intOf i).toNat)
    case atStart => exact ⟨_, n, 0, rfl, rfl, by omega, hown5, hb5⟩
    case round =>
      obtain ⟨E, d, j, rfl, rfl, hj, hown, hb⟩ := hrel
      obtain ⟨hc, hf⟩ := bcell hb
      have hs := hb.size
      by_cases hlt : j < n
      · have dj : decide ((j : Int) < n) = true := decide_eq_true (by omega)
        obtain ⟨x', y', s', bo, o, hx, rfl, hbl, g1, g2, g3⟩ := hR2.cell hlt
        have hpt := (hel.out _ (List.mem_of_getElem? hx.out)).1
        unfold Pt at hpt
        simp only at hpt
        obtain ⟨p1, p2, p3, p4⟩ := hpt
        have hst := Lib.hid (show (l.take (j + 1)).map (mv5 (-X) (-Y)) = (l.take j).map (mv5 (-X) (-Y)) ++ [(x' - X, y' - Y, s')] by rw [map_step _ hx.out]; simp only [mv5]; congr 3)
        have ex : IntKind.i64.wrap (x' - X) = x' - X := IntWalk.i64_in _ (by omega)
        have ey : IntKind.i64.wrap (y' - Y) = y' - Y := IntWalk.i64_in _ (by omega)
        go_wp2_with (first | (at_builtin; refine wpList_append_el rfl (.tmp 30) (.tmp 44) 27 rfl encC 3 79 (.agg #[.int .i64 0, .int .i64 0, .int .i64 0]) 24 Tryz.underlying27 (by kernel_rfl) rfl (by decide) encC_len encC_one (w2.heap.size) _ _ _ _ rfl (((hown.alloc _).alloc _)) (x' - X, y' - Y, s') ⟨wr.heap.size + 1, 0, none⟩ 1 rfl (by have h := cells_new ((wr.alloc (.cells #[.int .i64 x', .int .i64 y', .int .i64 s'] 79))) (encC (x' - X, y' - Y, s')) 79; simp only [World.size_alloc] at h; exact h) (by omega) (by omega) (by first | omega | (simp; done) | (simp; omega)) ?_; intro A7 c7 w7 hown7 hg7 hb7; obtain ⟨hc7, hf7⟩ := bcell hb7; have hs7 := hb7.size; (try simp only [World.size_alloc, World.size_setCell, World.size_drew] at hc7 hf7); (try simp at hs7)))
        go_roundw
        case rel => exact ⟨A7, c7, j + 1, rfl, by go_num, by omega, by rw [hst.out]; exact hown7, by (repeat' (first | exact Below.refl _ _ | assumption | (refine Below.alloc ?_ ?_ _) | (refine Below.setCell ?_ ?_ _) | (refine Below.drew ?_) | (refine below_drewN ?_ _) | (refine below_after (Ext.below _) ?_ ?_) | (refine below_after (by assumption) ?_ ?_) | (simp; done) | omega | (simp; omega)))⟩
        case measure => simp [intOf]; omega
      · obtain rfl : j = n := by omega
        have dj : decide ((j : Int) < j) = false := decide_eq_false (by omega)
        rw [List.take_of_length_le (by rw [hR2.len]; omega)] at hown
        have hcap := own_cap hown
        go_wp2_with fail
        go_ret
        exact ⟨E, d, rfl, by rw [HE.out]; exact hown.rd encC_len, hcap, below_after hb hB2 (by omega)⟩
  · have hbad : rightC l = false ∨ l.length = 0 := by
      cases hr : rightC l with
      | false => exact .inl rfl
      | true => exact .inr (by rcases Nat.eq_zero_or_pos l.length with h | h; exact h; exact absurd ⟨hr, h⟩ hg)
    obtain ⟨e0, e1⟩ := hm_bad hbad
    have HE := Lib.hid e1
    rw [e0] at kB
    generalize hmX l = X at kB
    generalize hmY l = Y at kB
    generalize arW (bxPos l) = W0 at kB
    generalize arH (bxPos l) = H0 at kB
    clear e0 e1 hg hbad
    go_enter Tryz.func57, Tryz.ntmps57
    go_wp2_with fail; go_at_call 99; refine (kB _ hR).mono ?_; rintro e w1 ⟨rfl, hb1⟩; have hs1 := hb1.size; (try simp only [World.size_alloc, World.size_drew, World.size_setCell] at hs1)
    go_wp2_with fail
    go_ret
    exact ⟨A, c, rfl, by rw [HE.out]; exact hR.of (by (repeat' (first | exact Below.refl _ _ | assumption | (refine Below.alloc ?_ ?_ _) | (refine Below.setCell ?_ ?_ _) | (refine Below.drew ?_) | (refine below_drewN ?_ _) | (refine below_after (Ext.below _) ?_ ?_) | (refine below_after (by assumption) ?_ ?_) | (simp; done) | omega | (simp; omega)))), hnc, by (repeat' (first | exact Below.refl _ _ | assumption | (refine Below.alloc ?_ ?_ _) | (refine Below.setCell ?_ ?_ _) | (refine Below.drew ?_) | (refine below_drewN ?_ _) | (refine below_after (Ext.below _) ?_ ?_) | (refine below_after (by assumption) ?_ ?_) | (simp; done) | omega | (simp; omega)))⟩
end Go.Proofs.YtellglbmbocgkaaGreatDoor
end
section
namespace Go.Proofs.YtellglbmbocgkaaGreatDoor
open Go Go.RowKit
set_option maxRecDepth 100000
attribute [local go_sem ↓ high] eq_cl neq_cl eq_pt neq_pt
set_option maxHeartbeats 4000000 in
theorem alg_pick_true (A A' : Option Addr) (n m c d : Nat) (l r : List (Int × Int × Int)) (w : World) (hR : Rd encC 3 w A n l) (hS : Rd encC 3 w A' m r) (hnc : n ≤ c) (hmd : m ≤ d) (hnm : n + m ≤ 1000000) :
    Calls Tryz.prog 201 #[.slice A n c, .slice A' m d, .bool true] w fun e w' => ∃ A2 n2 c2, e = .returned (.slice A2 n2 c2) ∧ Rd encC 3 w' A2 n2 (pkL 1 l r) ∧ n2 ≤ n ∧ n2 ≤ c2 ∧ Below w.heap.size w w' := by
  have hR := hR.of (show Below w.heap.size w (w.alloc (.cells #[.bool true] 4)) from (Below.refl _ _).alloc (Nat.le_refl _) _)
  have hS := hS.of (show Below w.heap.size w (w.alloc (.cells #[.bool true] 4)) from (Below.refl _ _).alloc (Nat.le_refl _) _)
  rcases both_ways l r with h1 | ⟨h1, h2⟩ | ⟨h1, h2⟩
  · have HE := Lib.hid (pkL_no 1 (a := l) (b := r) (.inl h1))
    have kR := fun w1 (h : Rd encC 3 w1 A n l) => pat_RightV (A := A) (n := n) (c := c) h1 w1 h (by omega)
    clear h1
    go_enter Tryz.func201, Tryz.ntmps201
    go_wp2_with fail; go_at_call 70; refine (kR _ hR).mono ?_; rintro e w1 ⟨rfl, hb1⟩; have hs1 := hb1.size; (try simp only [World.size_alloc, World.size_drew, World.size_setCell] at hs1)
    go_wp2_with fail
    go_ret
    exact ⟨none, 0, 0, rfl, by rw [HE.out]; exact Rd.nil_, by omega, by omega, by (repeat' (first | exact Below.refl _ _ | assumption | (refine Below.alloc ?_ ?_ _) | (refine Below.setCell ?_ ?_ _) | (refine Below.drew ?_) | (refine below_drewN ?_ _) | (refine below_after (Ext.below _) ?_ ?_) | (refine below_after (by assumption) ?_ ?_) | (simp; done) | omega | (simp; omega)))⟩
  · have HE := Lib.hid (pkL_no 1 (a := l) (b := r) (.inr h2))
    have kR := fun w1 (h : Rd encC 3 w1 A n l) => pat_RightV (A := A) (n := n) (c := c) h1 w1 h (by omega)
    have kS := fun w1 (h : Rd encC 3 w1 A' m r) => pat_RightV (A := A') (n := m) (c := d) h2 w1 h (by omega)
    clear h1 h2
    go_enter Tryz.func201, Tryz.ntmps201
    go_wp2_with fail; go_at_call 70; refine (kR _ hR).mono ?_; rintro e w1 ⟨rfl, hb1⟩; have hs1 := hb1.size; (try simp only [World.size_alloc, World.size_drew, World.size_setCell] at hs1)
    go_wp2_with fail; go_at_call 70; refine (kS _ (hS.of hb1)).mono ?_; rintro e w2 ⟨rfl, hb2⟩; have hs2 := hb2.size; (try simp only [World.size_alloc, World.size_drew, World.size_setCell] at hs2)
    go_wp2_with fail
    go_ret
    exact ⟨none, 0, 0, rfl, by rw [HE.out]; exact Rd.nil_, by omega, by omega, by (repeat' (first | exact Below.refl _ _ | assumption | (refine Below.alloc ?_ ?_ _) | (refine Below.setCell ?_ ?_ _) | (refine Below.drew ?_) | (refine below_drewN ?_ _) | (refine below_after (Ext.below _) ?_ ?_) | (refine below_after (by assumption) ?_ ?_) | (simp; done) | omega | (simp; omega)))⟩
  · have HE := Lib.hid (pkL_yes 1 h1 h2)
    have kR := fun w1 (h : Rd encC 3 w1 A n l) => pat_RightV (A := A) (n := n) (c := c) h1 w1 h (by omega)
    have kS := fun w1 (h : Rd encC 3 w1 A' m r) => pat_RightV (A := A') (n := m) (c := d) h2 w1 h (by omega)
    have hlr : (resL 1 l r).length ≤ n := by rw [← hR.len]; exact res_len1 (by omega) h1 h2
    clear h1 h2
    go_enter Tryz.func201, Tryz.ntmps201
    go_wp2_with fail; go_at_call 70; refine (kR _ hR).mono ?_; rintro e w1 ⟨rfl, hb1⟩; have hs1 := hb1.size; (try simp only [World.size_alloc, World.size_drew, World.size_setCell] at hs1)
    go_wp2_with fail; go_at_call 70; refine (kS _ (hS.of hb1)).mono ?_; rintro e w2 ⟨rfl, hb2⟩; have hs2 := hb2.size; (try simp only [World.size_alloc, World.size_drew, World.size_setCell] at hs2)
    have hB2 : Below w.heap.size w w2 := by (repeat' (first | exact Below.refl _ _ | assumption | (refine Below.alloc ?_ ?_ _) | (refine Below.setCell ?_ ?_ _) | (refine Below.drew ?_) | (refine below_drewN ?_ _) | (refine below_after (Ext.below _) ?_ ?_) | (refine below_after (by assumption) ?_ ?_) | (simp; done) | omega | (simp; omega)))
    have hh : w2.heap[w.heap.size]? = some (.cells #[.bool true] 4 (0, 0)) := (hb2.block _ (by omega)).trans ((hb1.block _ (by simp)).trans (heap_alloc_new w _))
    have HH := Lib.hid (show (w2.alloc (.cells #[.slice none 0 0] 27)).heap[w.heap.size]? = some (.cells #[.bool true] 4 (0, 0)) from (heap_alloc_old w2 _ (by omega)).trans hh)
    have rR : RdB w2.heap.size w2 A n l := RdB.mk' ((hR.of hb1).of hb2)
    have rS : RdB w2.heap.size w2 A' m r := RdB.mk' ((hS.of hb1).of hb2)
    have hs0 : w.heap.size < w2.heap.size := by omega
    have hown5 : Own encC 3 79 w2.heap.size w2 none 0 0 [] := Own.nil_
    clear hb1 hb2 hs1 hs2 kR kS hR hS hh
    go_wp2_with fail
    go_at_call 244
    refine (mrg_pick_true w2.heap.size _ A A' n m c d l r _ (rR.of (by (repeat' (first | exact Below.refl _ _ | assumption | (refine Below.alloc ?_ ?_ _) | (refine Below.setCell ?_ ?_ _) | (refine Below.drew ?_) | (refine below_drewN ?_ _) | (refine below_after (Ext.below _) ?_ ?_) | (refine below_after (by assumption) ?_ ?_) | (simp; done) | omega | (simp; omega))))) (rS.of (by (repeat' (first | exact Below.refl _ _ | assumption | (refine Below.alloc ?_ ?_ _) | (refine Below.setCell ?_ ?_ _) | (refine Below.drew ?_) | (refine below_drewN ?_ _) | (refine below_after (Ext.below _) ?_ ?_) | (refine below_after (by assumption) ?_ ?_) | (simp; done) | omega | (simp; omega))))) hnc hmd hnm (coll_new hown5 (Nat.le_refl _)) w.heap.size hs0 HH).mono ?_
    rintro e w6 ⟨rfl, hC6, hb6⟩
    have hB6 : Below w2.heap.size w2 w6 := (show Below w2.heap.size w2 _ from by (repeat' (first | exact Below.refl _ _ | assumption | (refine Below.alloc ?_ ?_ _) | (refine Below.setCell ?_ ?_ _) | (refine Below.drew ?_) | (refine below_drewN ?_ _) | (refine below_after (Ext.below _) ?_ ?_) | (refine below_after (by assumption) ?_ ?_) | (simp; done) | omega | (simp; omega)))).trans hb6
    obtain ⟨_, A6, n6, c6, h61, h62⟩ := hC6
    have g6 := cell_of_one h61
    have hcap := own_cap h62
    have hR6 := h62.rd encC_len
    clear h61 hb6 h62
    go_wp2_with fail
    go_ret
    exact ⟨A6, n6, c6, rfl, by rw [HE.out]; exact hR6, by rw [hR6.len] at hlr; exact hlr, hcap, hB2.trans (hB6.mono (by omega))⟩
theorem alg_And (A A' : Option Addr) (n m c d : Nat) (l r : List (Int × Int × Int)) (w : World) (hR : Rd encC 3 w A n l) (hS : Rd encC 3 w A' m r) (hnc : n ≤ c) (hmd : m ≤ d) (hnm : n + m ≤ 1000000) :
    Calls Tryz.prog 148 #[.slice A n c, .slice A' m d] w fun e w' => ∃ A2 n2 c2, e = .returned (.slice A2 n2 c2) ∧ Rd encC 3 w' A2 n2 (pkL 1 l r) ∧ n2 ≤ n ∧ n2 ≤ c2 ∧ Below w.heap.size w w' := by
  have kP := fun w1 (a : Rd encC 3 w1 A n l) (b : Rd encC 3 w1 A' m r) => alg_pick_true A A' n m c d l r w1 a b hnc hmd hnm
  go_enter Tryz.func148, Tryz.ntmps148
  go_wp2_with fail
  go_at_call 201
  refine (kP _ hR hS).mono ?_
  rintro e w1 ⟨A2, n2, c2, rfl, h1, h2, h3, hb1⟩
  go_wp2_with fail
  go_ret
  exact ⟨A2, n2, c2, rfl, h1, h2, h3, hb1⟩
set_option maxHeartbeats 4000000 in
theorem alg_Disjoint (A A' : Option Addr) (n m c d : Nat) (l r : List (Int × Int × Int)) (w : World) (hR : Rd encC 3 w A n l) (hS : Rd encC 3 w A' m r) (hnc : n ≤ c) (hmd : m ≤ d) (hnm : n + m ≤ 1000000) :
    Calls Tryz.prog 91 #[.slice A n c, .slice A' m d] w fun e w' => e = .returned (.bool (djB l r)) ∧ Below w.heap.size w w' := by
  rcases both_ways l r with h1 | ⟨h1, h2⟩ | ⟨h1, h2⟩
  · have HE := Lib.hid (show djB l r = false by unfold djB; rw [h1]; rfl)
    have kR := fun w1 (h : Rd encC 3 w1 A n l) => pat_RightV (A := A) (n := n) (c := c) h1 w1 h (by omega)
    clear h1
    go_enter Tryz.func91, Tryz.ntmps91
    go_wp2_with fail; go_at_call 70; refine (kR _ hR).mono ?_; rintro e w1 ⟨rfl, hb1⟩; have hs1 := hb1.size; (try simp only [World.size_alloc, World.size_drew, World.size_setCell] at hs1)
    go_wp2_with fail
    go_ret
    exact ⟨ret_bool HE.out.symm, by (repeat' (first | exact Below.refl _ _ | assumption | (refine Below.alloc ?_ ?_ _) | (refine Below.setCell ?_ ?_ _) | (refine Below.drew ?_) | (refine below_drewN ?_ _) | (refine below_after (Ext.below _) ?_ ?_) | (refine below_after (by assumption) ?_ ?_) | (simp; done) | omega | (simp; omega)))⟩
  · have HE := Lib.hid (show djB l r = false by unfold djB; rw [h1, h2]; rfl)
    have kR := fun w1 (h : Rd encC 3 w1 A n l) => pat_RightV (A := A) (n := n) (c := c) h1 w1 h (by omega)
    have kS := fun w1 (h : Rd encC 3 w1 A' m r) => pat_RightV (A := A') (n := m) (c := d) h2 w1 h (by omega)
    clear h1 h2
    go_enter Tryz.func91, Tryz.ntmps91
    go_wp2_with fail; go_at_call 70; refine (kR _ hR).mono ?_; rintro e w1 ⟨rfl, hb1⟩; have hs1 := hb1.size; (try simp only [World.size_alloc, World.size_drew, World.size_setCell] at hs1)
    go_wp2_with fail; go_at_call 70; refine (kS _ (hS.of hb1)).mono ?_; rintro e w2 ⟨rfl, hb2⟩; have hs2 := hb2.size; (try simp only [World.size_alloc, World.size_drew, World.size_setCell] at hs2)
    go_wp2_with fail
    go_ret
    exact ⟨ret_bool HE.out.symm, by (repeat' (first | exact Below.refl _ _ | assumption | (refine Below.alloc ?_ ?_ _) | (refine Below.setCell ?_ ?_ _) | (refine Below.drew ?_) | (refine below_drewN ?_ _) | (refine below_after (Ext.below _) ?_ ?_) | (refine below_after (by assumption) ?_ ?_) | (simp; done) | omega | (simp; omega)))⟩
  · have HE := Lib.hid (show djB l r = (resL 1 l r).isEmpty by unfold djB; rw [h1, h2]; rfl)
    have HP := Lib.hid (pkL_yes 1 h1 h2)
    have kR := fun w1 (h : Rd encC 3 w1 A n l) => pat_RightV (A := A) (n := n) (c := c) h1 w1 h (by omega)
    have kS := fun w1 (h : Rd encC 3 w1 A' m r) => pat_RightV (A := A') (n := m) (c := d) h2 w1 h (by omega)
    clear h1 h2
    go_enter Tryz.func91, Tryz.ntmps91
    go_wp2_with fail; go_at_call 70; refine (kR _ hR).mono ?_; rintro e w1 ⟨rfl, hb1⟩; have hs1 := hb1.size; (try simp only [World.size_alloc, World.size_drew, World.size_setCell] at hs1)
    go_wp2_with fail; go_at_call 70; refine (kS _ (hS.of hb1)).mono ?_; rintro e w2 ⟨rfl, hb2⟩; have hs2 := hb2.size; (try simp only [World.size_alloc, World.size_drew, World.size_setCell] at hs2)
    go_wp2_with fail; go_at_call 148; refine (alg_And _ _ _ _ _ _ _ _ _ (hR.of (by (repeat' (first | exact Below.refl _ _ | assumption | (refine Below.alloc ?_ ?_ _) | (refine Below.setCell ?_ ?_ _) | (refine Below.drew ?_) | (refine below_drewN ?_ _) | (refine below_after (Ext.below _) ?_ ?_) | (refine below_after (by assumption) ?_ ?_) | (simp; done) | omega | (simp; omega))))) (hS.of (by (repeat' (first | exact Below.refl _ _ | assumption | (refine Below.alloc ?_ ?_ _) | (refine Below.setCell ?_ ?_ _) | (refine Below.drew ?_) | (refine below_drewN ?_ _) | (refine below_after (Ext.below _) ?_ ?_) | (refine below_after (by assumption) ?_ ?_) | (simp; done) | omega | (simp; omega))))) hnc hmd hnm).mono ?_; rintro e w3 ⟨A3, n3, c3, rfl, hR3, hn3, hc3, hb3⟩; have hs3 := hb3.size; (try simp only [World.size_alloc, World.size_drew, World.size_setCell] at hs3)
    rw [HP.out] at hR3
    have hlen := hR3.len
    have e3 : ((n3 : Int) == 0) = (resL 1 l r).isEmpty := by
      rw [← hlen]
      cases resL 1 l r with
      | nil => rfl
      | cons x q => simp; omega
    clear hlen
    go_wp2_with fail
    go_ret
    exact ⟨ret_bool HE.out.symm, by (repeat' (first | exact Below.refl _ _ | assumption | (refine Below.alloc ?_ ?_ _) | (refine Below.setCell ?_ ?_ _) | (refine Below.drew ?_) | (refine below_drewN ?_ _) | (refine below_after (Ext.below _) ?_ ?_) | (refine below_after (by assumption) ?_ ?_) | (simp; done) | omega | (simp; omega)))⟩
end Go.Proofs.YtellglbmbocgkaaGreatDoor
end
