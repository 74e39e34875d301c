/- The visitors of algebra.merge: closures that collect cells in a captured slice. -/
import Derived.Test.YtenckggfgbkfnaaDoorCell8
import Derived.Test.YtenckggfgbkfnaaDoorPLN
import Derived.OneCell
namespace Go.Proofs.YtenckggfgbkfnaaDoor
open Go Go.RowKit
set_option linter.unusedSimpArgs false
set_option linter.unusedVariables false
set_option maxRecDepth 100000
attribute [local go_sem ↓ high] eq_cl neq_cl eq_pt neq_pt
theorem own_box_ne {α : Type} {enc : α → List Value} {k : Nat} {e t : TypeId} {B b n c : Nat} {w : World} {A : Option Addr} {l : List α} {v : Value} (h : Own enc k e B w A n c l) (hb : w.heap[b]? = some (.cells #[v] t (0, 0))) (ht : t ≠ e) : (Value.slice A n c).ownBlock ≠ some b := by
  rcases h.row.2 with ⟨h0, _⟩ | ⟨g, cap, cur, hv, hg, hh, r⟩
  · rw [h0]; simp [Value.ownBlock]
  · rw [hv]
    intro e0
    have e1 : g = b := by simpa [Value.ownBlock] using e0
    subst e1
    rw [hh] at hb
    injection hb with hb
    injection hb with _ hb _
    exact ht hb.symm
theorem Own.setOther {α : Type} {enc : α → List Value} {k : Nat} {e : TypeId} {B n c : Nat} {w : World} {A : Option Addr} {l : List α} (h : Own enc k e B w A n c l) {a : Addr} (ha : (Value.slice A n c).ownBlock ≠ some a.block) (u : Value) : Own enc k e B (w.setCell a u) A n c l :=
  ⟨ownsRow_setCell_other h.row ha u, h.len⟩
/-- A variable of the call's own, in block b, holds a slice of the call's own that reads as l. -/
def Coll (B b : Nat) (w : World) (l : List (Int × Int × Int)) : Prop := B ≤ b ∧ ∃ A n c, w.heap[b]? = some (.cells #[.slice A n c] 23 (0, 0)) ∧ Own encC 3 54 B w A n c l
theorem Coll.of {B b : Nat} {w w' : World} {l : List (Int × Int × Int)} (h : Coll B b w l) (hb : Below w.heap.size w w') : Coll B b w' l := by
  obtain ⟨h0, A, n, c, h1, h2⟩ := h
  exact ⟨h0, A, n, c, (hb.block b (lt_of_block h1)).trans h1, h2.of hb⟩
theorem Coll.lt {B b : Nat} {w : World} {l : List (Int × Int × Int)} (h : Coll B b w l) : b < w.heap.size := by
  obtain ⟨h0, A, n, c, h1, h2⟩ := h
  exact lt_of_block h1
theorem coll_store {B b : Nat} {w w1 w2 : World} {l : List (Int × Int × Int)} {A A' : Option Addr} {n c c' : Nat} {y : Int × Int × Int} (hB : B ≤ b) (h1 : w.heap[b]? = some (.cells #[.slice A n c] 23 (0, 0))) (h2 : Own encC 3 54 B w A n c l)
    (h3 : Below w.heap.size w w1) (h4 : Own encC 3 54 B w2 A' (n + 1) c' (l ++ [y])) (h5 : w1.grownBy w2 (Value.slice A n c).ownBlock) :
    w2.heap[b]? = some (.cells #[.slice A n c] 23 (0, 0)) ∧ Coll B b (w2.setCell ⟨b, 0, none⟩ (.slice A' (n + 1) c')) (l ++ [y]) := by
  have hb := lt_of_block h1
  have k1 : w1.heap[b]? = some (.cells #[.slice A n c] 23 (0, 0)) := (h3.block b hb).trans h1
  have hne := own_box_ne h2 h1 (by decide)
  have k2 : w2.heap[b]? = some (.cells #[.slice A n c] 23 (0, 0)) := (h5.block b (lt_of_block k1) (fun e => hne e.symm)).trans k1
  exact ⟨k2, hB, A', n + 1, c', one_setCell k2, h4.setOther (own_box_ne h4 k2 (by decide)) _⟩
set_option maxHeartbeats 1000000 in
theorem vis_over (B b : Nat) (l : List (Int × Int × Int)) (x y : Int × Int × Int) (p q : Bool) (w : World) (h : Coll B b w l) (hl : l.length ≤ 1000000) :
    Calls Tryd.prog 38 #[.agg #[.int .i64 x.1, .int .i64 x.2.1, .int .i64 x.2.2], .agg #[.int .i64 y.1, .int .i64 y.2.1, .int .i64 y.2.2], .bool p, .bool q, .pointer (some ⟨b, 0, none⟩)] w fun e w' => e = .returned (.tuple #[]) ∧ Coll B b w' (l ++ [if p = true then x else y]) ∧ Below B w w' := by
  have HC := Lib.hid h
  obtain ⟨hB, A, n, c, h1, h2⟩ := h
  obtain ⟨x1, x2, x3⟩ := x
  obtain ⟨y1, y2, y3⟩ := y
  have hlt := lt_of_block h1
  have hlen := h2.len
  have hBw : B ≤ w.heap.size := by omega
  have g1 := cell_of_one h1
  have g2 := free_of_one h1
  have H1 := Lib.hid h1
  clear h1
  cases p with
  | true =>
    go_enter Tryd.func38, Tryd.ntmps38
    go_wp2_with ((at_builtin; refine wpList_append_el rfl (.tmp 10) (.tmp 12) 23 rfl encC 3 54 (.agg #[.int .i64 0, .int .i64 0, .int .i64 0]) 24 Tryd.underlying23 (by kernel_rfl) rfl (by decide) encC_len encC_one (B) _ _ _ _ rfl ((((h2.alloc _).alloc _).alloc _)) (x1, x2, x3) ⟨w.heap.size + 1 + 1, 0, none⟩ 1 rfl (by have h := cells_new ((((w.alloc (.cells #[.int .i64 x1, .int .i64 x2, .int .i64 x3] 54)).alloc (.cells #[.int .i64 y1, .int .i64 y2, .int .i64 y3] 54)))) (encC (x1, x2, x3)) 54; simp only [World.size_alloc] at h; exact h) (by omega) (by omega) (by first | omega | (simp; done) | (simp; omega)) ?_; intro A5 c5 w5 hown5 hg5 hb5; obtain ⟨hc5, hf5⟩ := bcell hb5; have hs5 := hb5.size; (try simp only [World.size_alloc, World.size_setCell, World.size_drew] at hc5 hf5); (try simp at hs5)); clear hc5 hf5; have hk := coll_store hB H1.out h2 (by (repeat' (first | exact Below.refl _ _ | assumption | (refine Below.alloc ?_ ?_ _) | (refine Below.setCell ?_ ?_ _) | (refine Below.drew ?_) | (refine below_drewN ?_ _) | (refine below_after (Ext.below _) ?_ ?_) | (refine below_after (by assumption) ?_ ?_) | (simp; done) | omega | (simp; omega)))) hown5 hg5; have j1 := cell_of_one hk.1; have j2 := free_of_one hk.1; have HK := Lib.hid hk.2; clear hk)
    go_end0
    exact ⟨rfl, HK.out, (below_after hb5 (show Below B w _ from by (repeat' (first | exact Below.refl _ _ | assumption | (refine Below.alloc ?_ ?_ _) | (refine Below.setCell ?_ ?_ _) | (refine Below.drew ?_) | (refine below_drewN ?_ _) | (refine below_after (Ext.below _) ?_ ?_) | (refine below_after (by assumption) ?_ ?_) | (simp; done) | omega | (simp; omega)))) (Nat.le_refl _)).setCell (by simpa using hB) _⟩
  | false =>
    go_enter Tryd.func38, Tryd.ntmps38
    go_wp2_with ((at_builtin; refine wpList_append_el rfl (.tmp 14) (.tmp 16) 23 rfl encC 3 54 (.agg #[.int .i64 0, .int .i64 0, .int .i64 0]) 24 Tryd.underlying23 (by kernel_rfl) rfl (by decide) encC_len encC_one (B) _ _ _ _ rfl ((((h2.alloc _).alloc _).alloc _)) (y1, y2, y3) ⟨w.heap.size + 1 + 1, 0, none⟩ 1 rfl (by have h := cells_new ((((w.alloc (.cells #[.int .i64 x1, .int .i64 x2, .int .i64 x3] 54)).alloc (.cells #[.int .i64 y1, .int .i64 y2, .int .i64 y3] 54)))) (encC (y1, y2, y3)) 54; simp only [World.size_alloc] at h; exact h) (by omega) (by omega) (by first | omega | (simp; done) | (simp; omega)) ?_; intro A5 c5 w5 hown5 hg5 hb5; obtain ⟨hc5, hf5⟩ := bcell hb5; have hs5 := hb5.size; (try simp only [World.size_alloc, World.size_setCell, World.size_drew] at hc5 hf5); (try simp at hs5)); clear hc5 hf5; have hk := coll_store hB H1.out h2 (by (repeat' (first | exact Below.refl _ _ | assumption | (refine Below.alloc ?_ ?_ _) | (refine Below.setCell ?_ ?_ _) | (refine Below.drew ?_) | (refine below_drewN ?_ _) | (refine below_after (Ext.below _) ?_ ?_) | (refine below_after (by assumption) ?_ ?_) | (simp; done) | omega | (simp; omega)))) hown5 hg5; have j1 := cell_of_one hk.1; have j2 := free_of_one hk.1; have HK := Lib.hid hk.2; clear hk)
    go_end0
    exact ⟨rfl, HK.out, (below_after hb5 (show Below B w _ from by (repeat' (first | exact Below.refl _ _ | assumption | (refine Below.alloc ?_ ?_ _) | (refine Below.setCell ?_ ?_ _) | (refine Below.drew ?_) | (refine below_drewN ?_ _) | (refine below_after (Ext.below _) ?_ ?_) | (refine below_after (by assumption) ?_ ?_) | (simp; done) | omega | (simp; omega)))) (Nat.le_refl _)).setCell (by simpa using hB) _⟩
set_option maxHeartbeats 1000000 in
theorem vis_xor (B b : Nat) (l : List (Int × Int × Int)) (x y : Int × Int × Int) (p q : Bool) (w : World) (h : Coll B b w l) (hl : l.length ≤ 1000000) :
    Calls Tryd.prog 42 #[.agg #[.int .i64 x.1, .int .i64 x.2.1, .int .i64 x.2.2], .agg #[.int .i64 y.1, .int .i64 y.2.1, .int .i64 y.2.2], .bool p, .bool q, .pointer (some ⟨b, 0, none⟩)] w fun e w' => e = .returned (.tuple #[]) ∧ Coll B b w' (l ++ (if p = true then (if q = true then [] else [x]) else (if q = true then [y] else []))) ∧ Below B w w' := by
  have HC := Lib.hid h
  obtain ⟨hB, A, n, c, h1, h2⟩ := h
  obtain ⟨x1, x2, x3⟩ := x
  obtain ⟨y1, y2, y3⟩ := y
  have hlt := lt_of_block h1
  have hlen := h2.len
  have hBw : B ≤ w.heap.size := by omega
  have g1 := cell_of_one h1
  have g2 := free_of_one h1
  have H1 := Lib.hid h1
  clear h1
  cases p with
  | true =>
    cases q with
    | true =>
      go_enter Tryd.func42, Tryd.ntmps42
      go_wp2_with fail
      go_end0
      exact ⟨rfl, by simpa using HC.out.of (by (repeat' (first | exact Below.refl _ _ | assumption | (refine Below.alloc ?_ ?_ _) | (refine Below.setCell ?_ ?_ _) | (refine Below.drew ?_) | (refine below_drewN ?_ _) | (refine below_after (Ext.below _) ?_ ?_) | (refine below_after (by assumption) ?_ ?_) | (simp; done) | omega | (simp; omega)))), by (repeat' (first | exact Below.refl _ _ | assumption | (refine Below.alloc ?_ ?_ _) | (refine Below.setCell ?_ ?_ _) | (refine Below.drew ?_) | (refine below_drewN ?_ _) | (refine below_after (Ext.below _) ?_ ?_) | (refine below_after (by assumption) ?_ ?_) | (simp; done) | omega | (simp; omega)))⟩
    | false =>
      go_enter Tryd.func42, Tryd.ntmps42
      go_wp2_with ((at_builtin; refine wpList_append_el rfl (.tmp 15) (.tmp 17) 23 rfl encC 3 54 (.agg #[.int .i64 0, .int .i64 0, .int .i64 0]) 24 Tryd.underlying23 (by kernel_rfl) rfl (by decide) encC_len encC_one (B) _ _ _ _ rfl ((((h2.alloc _).alloc _).alloc _)) (x1, x2, x3) ⟨w.heap.size + 1 + 1, 0, none⟩ 1 rfl (by have h := cells_new ((((w.alloc (.cells #[.int .i64 x1, .int .i64 x2, .int .i64 x3] 54)).alloc (.cells #[.int .i64 y1, .int .i64 y2, .int .i64 y3] 54)))) (encC (x1, x2, x3)) 54; simp only [World.size_alloc] at h; exact h) (by omega) (by omega) (by first | omega | (simp; done) | (simp; omega)) ?_; intro A5 c5 w5 hown5 hg5 hb5; obtain ⟨hc5, hf5⟩ := bcell hb5; have hs5 := hb5.size; (try simp only [World.size_alloc, World.size_setCell, World.size_drew] at hc5 hf5); (try simp at hs5)); clear hc5 hf5; have hk := coll_store hB H1.out h2 (by (repeat' (first | exact Below.refl _ _ | assumption | (refine Below.alloc ?_ ?_ _) | (refine Below.setCell ?_ ?_ _) | (refine Below.drew ?_) | (refine below_drewN ?_ _) | (refine below_after (Ext.below _) ?_ ?_) | (refine below_after (by assumption) ?_ ?_) | (simp; done) | omega | (simp; omega)))) hown5 hg5; have j1 := cell_of_one hk.1; have j2 := free_of_one hk.1; have HK := Lib.hid hk.2; clear hk)
      go_end0
      exact ⟨rfl, HK.out, (below_after hb5 (show Below B w _ from by (repeat' (first | exact Below.refl _ _ | assumption | (refine Below.alloc ?_ ?_ _) | (refine Below.setCell ?_ ?_ _) | (refine Below.drew ?_) | (refine below_drewN ?_ _) | (refine below_after (Ext.below _) ?_ ?_) | (refine below_after (by assumption) ?_ ?_) | (simp; done) | omega | (simp; omega)))) (Nat.le_refl _)).setCell (by simpa using hB) _⟩
  | false =>
    cases q with
    | true =>
      go_enter Tryd.func42, Tryd.ntmps42
      go_wp2_with ((at_builtin; refine wpList_append_el rfl (.tmp 25) (.tmp 27) 23 rfl encC 3 54 (.agg #[.int .i64 0, .int .i64 0, .int .i64 0]) 24 Tryd.underlying23 (by kernel_rfl) rfl (by decide) encC_len encC_one (B) _ _ _ _ rfl ((((h2.alloc _).alloc _).alloc _)) (y1, y2, y3) ⟨w.heap.size + 1 + 1, 0, none⟩ 1 rfl (by have h := cells_new ((((w.alloc (.cells #[.int .i64 x1, .int .i64 x2, .int .i64 x3] 54)).alloc (.cells #[.int .i64 y1, .int .i64 y2, .int .i64 y3] 54)))) (encC (y1, y2, y3)) 54; simp only [World.size_alloc] at h; exact h) (by omega) (by omega) (by first | omega | (simp; done) | (simp; omega)) ?_; intro A5 c5 w5 hown5 hg5 hb5; obtain ⟨hc5, hf5⟩ := bcell hb5; have hs5 := hb5.size; (try simp only [World.size_alloc, World.size_setCell, World.size_drew] at hc5 hf5); (try simp at hs5)); clear hc5 hf5; have hk := coll_store hB H1.out h2 (by (repeat' (first | exact Below.refl _ _ | assumption | (refine Below.alloc ?_ ?_ _) | (refine Below.setCell ?_ ?_ _) | (refine Below.drew ?_) | (refine below_drewN ?_ _) | (refine below_after (Ext.below _) ?_ ?_) | (refine below_after (by assumption) ?_ ?_) | (simp; done) | omega | (simp; omega)))) hown5 hg5; have j1 := cell_of_one hk.1; have j2 := free_of_one hk.1; have HK := Lib.hid hk.2; clear hk)
      go_end0
      exact ⟨rfl, HK.out, (below_after hb5 (show Below B w _ from by (repeat' (first | exact Below.refl _ _ | assumption | (refine Below.alloc ?_ ?_ _) | (refine Below.setCell ?_ ?_ _) | (refine Below.drew ?_) | (refine below_drewN ?_ _) | (refine below_after (Ext.below _) ?_ ?_) | (refine below_after (by assumption) ?_ ?_) | (simp; done) | omega | (simp; omega)))) (Nat.le_refl _)).setCell (by simpa using hB) _⟩
    | false =>
      go_enter Tryd.func42, Tryd.ntmps42
      go_wp2_with fail
      go_end0
      exact ⟨rfl, by simpa using HC.out.of (by (repeat' (first | exact Below.refl _ _ | assumption | (refine Below.alloc ?_ ?_ _) | (refine Below.setCell ?_ ?_ _) | (refine Below.drew ?_) | (refine below_drewN ?_ _) | (refine below_after (Ext.below _) ?_ ?_) | (refine below_after (by assumption) ?_ ?_) | (simp; done) | omega | (simp; omega)))), by (repeat' (first | exact Below.refl _ _ | assumption | (refine Below.alloc ?_ ?_ _) | (refine Below.setCell ?_ ?_ _) | (refine Below.drew ?_) | (refine below_drewN ?_ _) | (refine below_after (Ext.below _) ?_ ?_) | (refine below_after (by assumption) ?_ ?_) | (simp; done) | omega | (simp; omega)))⟩
set_option maxHeartbeats 1000000 in
theorem vis_pick_true (B b : Nat) (l : List (Int × Int × Int)) (x y : Int × Int × Int) (p q : Bool) (w : World) (h : Coll B b w l) (hl : l.length ≤ 1000000) (bh : Nat) (hbh : bh < B) (hh : w.heap[bh]? = some (.cells #[.bool true] 4 (0, 0))) :
    Calls Tryd.prog 68 #[.agg #[.int .i64 x.1, .int .i64 x.2.1, .int .i64 x.2.2], .agg #[.int .i64 y.1, .int .i64 y.2.1, .int .i64 y.2.2], .bool p, .bool q, .pointer (some ⟨bh, 0, none⟩), .pointer (some ⟨b, 0, none⟩)] w fun e w' => e = .returned (.tuple #[]) ∧ Coll B b w' (l ++ (if p = true then (if q = true then [x] else []) else [])) ∧ Below B w w' := by
  have HC := Lib.hid h
  obtain ⟨hB, A, n, c, h1, h2⟩ := h
  obtain ⟨x1, x2, x3⟩ := x
  obtain ⟨y1, y2, y3⟩ := y
  have hlt := lt_of_block h1
  have hlen := h2.len
  have hBw : B ≤ w.heap.size := by omega
  have g1 := cell_of_one h1
  have g2 := free_of_one h1
  have H1 := Lib.hid h1
  clear h1
  have k1 := cell_of_one hh
  have hbw : bh < w.heap.size := by omega
  clear hh
  cases p with
  | true =>
    cases q with
    | true =>
      go_enter Tryd.func68, Tryd.ntmps68
      go_wp2_with ((at_builtin; refine wpList_append_el rfl (.tmp 16) (.tmp 18) 23 rfl encC 3 54 (.agg #[.int .i64 0, .int .i64 0, .int .i64 0]) 24 Tryd.underlying23 (by kernel_rfl) rfl (by decide) encC_len encC_one (B) _ _ _ _ rfl ((((h2.alloc _).alloc _).alloc _)) (x1, x2, x3) ⟨w.heap.size + 1 + 1, 0, none⟩ 1 rfl (by have h := cells_new ((((w.alloc (.cells #[.int .i64 x1, .int .i64 x2, .int .i64 x3] 54)).alloc (.cells #[.int .i64 y1, .int .i64 y2, .int .i64 y3] 54)))) (encC (x1, x2, x3)) 54; simp only [World.size_alloc] at h; exact h) (by omega) (by omega) (by first | omega | (simp; done) | (simp; omega)) ?_; intro A5 c5 w5 hown5 hg5 hb5; obtain ⟨hc5, hf5⟩ := bcell hb5; have hs5 := hb5.size; (try simp only [World.size_alloc, World.size_setCell, World.size_drew] at hc5 hf5); (try simp at hs5)); clear hc5 hf5; have hk := coll_store hB H1.out h2 (by (repeat' (first | exact Below.refl _ _ | assumption | (refine Below.alloc ?_ ?_ _) | (refine Below.setCell ?_ ?_ _) | (refine Below.drew ?_) | (refine below_drewN ?_ _) | (refine below_after (Ext.below _) ?_ ?_) | (refine below_after (by assumption) ?_ ?_) | (simp; done) | omega | (simp; omega)))) hown5 hg5; have j1 := cell_of_one hk.1; have j2 := free_of_one hk.1; have HK := Lib.hid hk.2; clear hk)
      go_end0
      exact ⟨rfl, HK.out, (below_after hb5 (show Below B w _ from by (repeat' (first | exact Below.refl _ _ | assumption | (refine Below.alloc ?_ ?_ _) | (refine Below.setCell ?_ ?_ _) | (refine Below.drew ?_) | (refine below_drewN ?_ _) | (refine below_after (Ext.below _) ?_ ?_) | (refine below_after (by assumption) ?_ ?_) | (simp; done) | omega | (simp; omega)))) (Nat.le_refl _)).setCell (by simpa using hB) _⟩
    | false =>
      go_enter Tryd.func68, Tryd.ntmps68
      go_wp2_with fail
      go_end0
      exact ⟨rfl, by simpa using HC.out.of (by (repeat' (first | exact Below.refl _ _ | assumption | (refine Below.alloc ?_ ?_ _) | (refine Below.setCell ?_ ?_ _) | (refine Below.drew ?_) | (refine below_drewN ?_ _) | (refine below_after (Ext.below _) ?_ ?_) | (refine below_after (by assumption) ?_ ?_) | (simp; done) | omega | (simp; omega)))), by (repeat' (first | exact Below.refl _ _ | assumption | (refine Below.alloc ?_ ?_ _) | (refine Below.setCell ?_ ?_ _) | (refine Below.drew ?_) | (refine below_drewN ?_ _) | (refine below_after (Ext.below _) ?_ ?_) | (refine below_after (by assumption) ?_ ?_) | (simp; done) | omega | (simp; omega)))⟩
  | false =>
    cases q with
    | true =>
      go_enter Tryd.func68, Tryd.ntmps68
      go_wp2_with fail
      go_end0
      exact ⟨rfl, by simpa using HC.out.of (by (repeat' (first | exact Below.refl _ _ | assumption | (refine Below.alloc ?_ ?_ _) | (refine Below.setCell ?_ ?_ _) | (refine Below.drew ?_) | (refine below_drewN ?_ _) | (refine below_after (Ext.below _) ?_ ?_) | (refine below_after (by assumption) ?_ ?_) | (simp; done) | omega | (simp; omega)))), by (repeat' (first | exact Below.refl _ _ | assumption | (refine Below.alloc ?_ ?_ _) | (refine Below.setCell ?_ ?_ _) | (refine Below.drew ?_) | (refine below_drewN ?_ _) | (refine below_after (Ext.below _) ?_ ?_) | (refine below_after (by assumption) ?_ ?_) | (simp; done) | omega | (simp; omega)))⟩
    | false =>
      go_enter Tryd.func68, Tryd.ntmps68
      go_wp2_with fail
      go_end0
      exact ⟨rfl, by simpa using HC.out.of (by (repeat' (first | exact Below.refl _ _ | assumption | (refine Below.alloc ?_ ?_ _) | (refine Below.setCell ?_ ?_ _) | (refine Below.drew ?_) | (refine below_drewN ?_ _) | (refine below_after (Ext.below _) ?_ ?_) | (refine below_after (by assumption) ?_ ?_) | (simp; done) | omega | (simp; omega)))), by (repeat' (first | exact Below.refl _ _ | assumption | (refine Below.alloc ?_ ?_ _) | (refine Below.setCell ?_ ?_ _) | (refine Below.drew ?_) | (refine below_drewN ?_ _) | (refine below_after (Ext.below _) ?_ ?_) | (refine below_after (by assumption) ?_ ?_) | (simp; done) | omega | (simp; omega)))⟩
set_option maxHeartbeats 1000000 in
theorem vis_pick_false (B b : Nat) (l : List (Int × Int × Int)) (x y : Int × Int × Int) (p q : Bool) (w : World) (h : Coll B b w l) (hl : l.length ≤ 1000000) (bh : Nat) (hbh : bh < B) (hh : w.heap[bh]? = some (.cells #[.bool false] 4 (0, 0))) :
    Calls Tryd.prog 68 #[.agg #[.int .i64 x.1, .int .i64 x.2.1, .int .i64 x.2.2], .agg #[.int .i64 y.1, .int .i64 y.2.1, .int .i64 y.2.2], .bool p, .bool q, .pointer (some ⟨bh, 0, none⟩), .pointer (some ⟨b, 0, none⟩)] w fun e w' => e = .returned (.tuple #[]) ∧ Coll B b w' (l ++ (if p = true then (if q = false then [x] else []) else [])) ∧ Below B w w' := by
  have HC := Lib.hid h
  obtain ⟨hB, A, n, c, h1, h2⟩ := h
  obtain ⟨x1, x2, x3⟩ := x
  obtain ⟨y1, y2, y3⟩ := y
  have hlt := lt_of_block h1
  have hlen := h2.len
  have hBw : B ≤ w.heap.size := by omega
  have g1 := cell_of_one h1
  have g2 := free_of_one h1
  have H1 := Lib.hid h1
  clear h1
  have k1 := cell_of_one hh
  have hbw : bh < w.heap.size := by omega
  clear hh
  cases p with
  | true =>
    cases q with
    | true =>
      go_enter Tryd.func68, Tryd.ntmps68
      go_wp2_with fail
      go_end0
      exact ⟨rfl, by simpa using HC.out.of (by (repeat' (first | exact Below.refl _ _ | assumption | (refine Below.alloc ?_ ?_ _) | (refine Below.setCell ?_ ?_ _) | (refine Below.drew ?_) | (refine below_drewN ?_ _) | (refine below_after (Ext.below _) ?_ ?_) | (refine below_after (by assumption) ?_ ?_) | (simp; done) | omega | (simp; omega)))), by (repeat' (first | exact Below.refl _ _ | assumption | (refine Below.alloc ?_ ?_ _) | (refine Below.setCell ?_ ?_ _) | (refine Below.drew ?_) | (refine below_drewN ?_ _) | (refine below_after (Ext.below _) ?_ ?_) | (refine below_after (by assumption) ?_ ?_) | (simp; done) | omega | (simp; omega)))⟩
    | false =>
      go_enter Tryd.func68, Tryd.ntmps68
      go_wp2_with ((at_builtin; refine wpList_append_el rfl (.tmp 16) (.tmp 18) 23 rfl encC 3 54 (.agg #[.int .i64 0, .int .i64 0, .int .i64 0]) 24 Tryd.underlying23 (by kernel_rfl) rfl (by decide) encC_len encC_one (B) _ _ _ _ rfl ((((h2.alloc _).alloc _).alloc _)) (x1, x2, x3) ⟨w.heap.size + 1 + 1, 0, none⟩ 1 rfl (by have h := cells_new ((((w.alloc (.cells #[.int .i64 x1, .int .i64 x2, .int .i64 x3] 54)).alloc (.cells #[.int .i64 y1, .int .i64 y2, .int .i64 y3] 54)))) (encC (x1, x2, x3)) 54; simp only [World.size_alloc] at h; exact h) (by omega) (by omega) (by first | omega | (simp; done) | (simp; omega)) ?_; intro A5 c5 w5 hown5 hg5 hb5; obtain ⟨hc5, hf5⟩ := bcell hb5; have hs5 := hb5.size; (try simp only [World.size_alloc, World.size_setCell, World.size_drew] at hc5 hf5); (try simp at hs5)); clear hc5 hf5; have hk := coll_store hB H1.out h2 (by (repeat' (first | exact Below.refl _ _ | assumption | (refine Below.alloc ?_ ?_ _) | (refine Below.setCell ?_ ?_ _) | (refine Below.drew ?_) | (refine below_drewN ?_ _) | (refine below_after (Ext.below _) ?_ ?_) | (refine below_after (by assumption) ?_ ?_) | (simp; done) | omega | (simp; omega)))) hown5 hg5; have j1 := cell_of_one hk.1; have j2 := free_of_one hk.1; have HK := Lib.hid hk.2; clear hk)
      go_end0
      exact ⟨rfl, HK.out, (below_after hb5 (show Below B w _ from by (repeat' (first | exact Below.refl _ _ | assumption | (refine Below.alloc ?_ ?_ _) | (refine Below.setCell ?_ ?_ _) | (refine Below.drew ?_) | (refine below_drewN ?_ _) | (refine below_after (Ext.below _) ?_ ?_) | (refine below_after (by assumption) ?_ ?_) | (simp; done) | omega | (simp; omega)))) (Nat.le_refl _)).setCell (by simpa using hB) _⟩
  | false =>
    cases q with
    | true =>
      go_enter Tryd.func68, Tryd.ntmps68
      go_wp2_with fail
      go_end0
      exact ⟨rfl, by simpa using HC.out.of (by (repeat' (first | exact Below.refl _ _ | assumption | (refine Below.alloc ?_ ?_ _) | (refine Below.setCell ?_ ?_ _) | (refine Below.drew ?_) | (refine below_drewN ?_ _) | (refine below_after (Ext.below _) ?_ ?_) | (refine below_after (by assumption) ?_ ?_) | (simp; done) | omega | (simp; omega)))), by (repeat' (first | exact Below.refl _ _ | assumption | (refine Below.alloc ?_ ?_ _) | (refine Below.setCell ?_ ?_ _) | (refine Below.drew ?_) | (refine below_drewN ?_ _) | (refine below_after (Ext.below _) ?_ ?_) | (refine below_after (by assumption) ?_ ?_) | (simp; done) | omega | (simp; omega)))⟩
    | false =>
      go_enter Tryd.func68, Tryd.ntmps68
      go_wp2_with fail
      go_end0
      exact ⟨rfl, by simpa using HC.out.of (by (repeat' (first | exact Below.refl _ _ | assumption | (refine Below.alloc ?_ ?_ _) | (refine Below.setCell ?_ ?_ _) | (refine Below.drew ?_) | (refine below_drewN ?_ _) | (refine below_after (Ext.below _) ?_ ?_) | (refine below_after (by assumption) ?_ ?_) | (simp; done) | omega | (simp; omega)))), by (repeat' (first | exact Below.refl _ _ | assumption | (refine Below.alloc ?_ ?_ _) | (refine Below.setCell ?_ ?_ _) | (refine Below.drew ?_) | (refine below_drewN ?_ _) | (refine below_after (Ext.below _) ?_ ?_) | (refine below_after (by assumption) ?_ ?_) | (simp; done) | omega | (simp; omega)))⟩
end Go.Proofs.YtenckggfgbkfnaaDoor
