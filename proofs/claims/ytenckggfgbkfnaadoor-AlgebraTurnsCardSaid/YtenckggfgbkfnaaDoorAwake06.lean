/- The contracts of chapter 06 at known lists, and its awake. -/
import Derived.Test.YtenckggfgbkfnaaDoorTil1
import Derived.Test.YtenckggfgbkfnaaDoorAlg7
import Derived.Test.YtenckggfgbkfnaaDoorAlg2
import Derived.Test.YtenckggfgbkfnaaDoorCellS
namespace Go.Proofs.YtenckggfgbkfnaaDoor
open Go Go.RowKit
set_option linter.unusedSimpArgs false
set_option linter.unusedVariables false
set_option maxRecDepth 100000
attribute [local go_sem ↓ high] eq_cl neq_cl eq_pt neq_pt eq_box neq_box
section
variable {l r s : List (Int × Int × Int)} {q : Int} {p : Nat} (A B : Option Addr) (n m c d : Nat) (w : World)
theorem alg_OverV (hE : alE 0 l r = q) (hL : alL 0 l r = s) (hp : s.length = p) (hR : Rd encC 3 w A n l) (hS : Rd encC 3 w B m r) (hnc : n ≤ c) (hmd : m ≤ d) (hnm : n + m ≤ 1000000) :
    Calls Tryd.prog 12 #[.slice A n c, .slice B m d] w fun e w' => ∃ A2 c2, e = .returned (.tuple #[.slice A2 p c2, .int .i64 q]) ∧ Rd encC 3 w' A2 p s ∧ p ≤ c2 ∧ Below w.heap.size w w' := by
  refine (alg_Over A B n m c d l r w hR hS hnc hmd hnm).mono ?_
  rintro e w' ⟨A2, n2, c2, rfl, h2, _, h3, hb⟩
  rw [hL] at h2
  obtain rfl : n2 = p := by rw [← h2.len, hp]
  exact ⟨A2, c2, by rw [hE], h2, h3, hb⟩
theorem alg_XorV (hE : alE 3 l r = q) (hL : alL 3 l r = s) (hp : s.length = p) (hR : Rd encC 3 w A n l) (hS : Rd encC 3 w B m r) (hnc : n ≤ c) (hmd : m ≤ d) (hnm : n + m ≤ 1000000) :
    Calls Tryd.prog 14 #[.slice A n c, .slice B m d] w fun e w' => ∃ A2 c2, e = .returned (.tuple #[.slice A2 p c2, .int .i64 q]) ∧ Rd encC 3 w' A2 p s ∧ p ≤ c2 ∧ Below w.heap.size w w' := by
  refine (alg_Xor A B n m c d l r w hR hS hnc hmd hnm).mono ?_
  rintro e w' ⟨A2, n2, c2, rfl, h2, _, h3, hb⟩
  rw [hL] at h2
  obtain rfl : n2 = p := by rw [← h2.len, hp]
  exact ⟨A2, c2, by rw [hE], h2, h3, hb⟩
theorem alg_AndV (hL : pkL 1 l r = s) (hp : s.length = p) (hR : Rd encC 3 w A n l) (hS : Rd encC 3 w B m r) (hnc : n ≤ c) (hmd : m ≤ d) (hnm : n + m ≤ 1000000) :
    Calls Tryd.prog 25 #[.slice A n c, .slice B m d] w fun e w' => ∃ A2 c2, e = .returned (.slice A2 p c2) ∧ Rd encC 3 w' A2 p s ∧ p ≤ c2 ∧ Below w.heap.size w w' := by
  refine (alg_And A B n m c d l r w hR hS hnc hmd hnm).mono ?_
  rintro e w' ⟨A2, n2, c2, rfl, h2, _, h3, hb⟩
  rw [hL] at h2
  obtain rfl : n2 = p := by rw [← h2.len, hp]
  exact ⟨A2, c2, rfl, h2, h3, hb⟩
theorem alg_WithoutV (hL : pkL 2 l r = s) (hp : s.length = p) (hR : Rd encC 3 w A n l) (hS : Rd encC 3 w B m r) (hnc : n ≤ c) (hmd : m ≤ d) (hnm : n + m ≤ 1000000) :
    Calls Tryd.prog 24 #[.slice A n c, .slice B m d] w fun e w' => ∃ A2 c2, e = .returned (.slice A2 p c2) ∧ Rd encC 3 w' A2 p s ∧ p ≤ c2 ∧ Below w.heap.size w w' := by
  refine (alg_Without A B n m c d l r w hR hS hnc hmd hnm).mono ?_
  rintro e w' ⟨A2, n2, c2, rfl, h2, _, h3, hb⟩
  rw [hL] at h2
  obtain rfl : n2 = p := by rw [← h2.len, hp]
  exact ⟨A2, c2, rfl, h2, h3, hb⟩
theorem alg_DisjointV {v : Bool} (hL : djB l r = v) (hR : Rd encC 3 w A n l) (hS : Rd encC 3 w B m r) (hnc : n ≤ c) (hmd : m ≤ d) (hnm : n + m ≤ 1000000) :
    Calls Tryd.prog 26 #[.slice A n c, .slice B m d] w fun e w' => e = .returned (.bool v) ∧ Below w.heap.size w w' := by
  rw [← hL]; exact alg_Disjoint A B n m c d l r w hR hS hnc hmd hnm
theorem alg_TurnV {k : Int} (hE : tuE l = q) (hL : tuL k l = s) (hp : s.length = p) (hM : Mx w) (hR : Rd encC 3 w A n l) (hn : n ≤ 1000000) :
    Calls Tryd.prog 17 #[.int .i64 k, .slice A n c] w fun e w' => ∃ A2 c2, e = .returned (.tuple #[.slice A2 p c2, .int .i64 q]) ∧ Rd encC 3 w' A2 p s ∧ p ≤ c2 ∧ Below w.heap.size w w' := by
  refine (alg_Turn k A n c l w hM hR hn).mono ?_
  rintro e w' ⟨A2, n2, c2, rfl, h2, _, h3, hb⟩
  rw [hL] at h2
  obtain rfl : n2 = p := by rw [← h2.len, hp]
  exact ⟨A2, c2, by rw [hE], h2, h3, hb⟩
theorem alg_HomeV (hL : hmL l = s) (hR : Rd encC 3 w A n l) (hn : n ≤ 1000000) (hnc : n ≤ c) :
    Calls Tryd.prog 19 #[.slice A n c] w fun e w' => ∃ A2 c2, e = .returned (.slice A2 n c2) ∧ Rd encC 3 w' A2 n s ∧ n ≤ c2 ∧ Below w.heap.size w w' := by
  rw [← hL]; exact alg_Home A n c l w hR hn hnc
theorem alg_TileV {dx dy nx ny : Int} (hE : tlE l dx dy nx ny = q) (hL : tlL l dx dy nx ny = s) (hp : s.length = p) (hR : Rd encC 3 w A n l) (hn : n ≤ 1000000) :
    Calls Tryd.prog 21 #[.slice A n c, .int .i64 dx, .int .i64 dy, .int .i64 nx, .int .i64 ny] w fun e w' => ∃ A2 c2, e = .returned (.tuple #[.slice A2 p c2, .int .i64 q]) ∧ Rd encC 3 w' A2 p s ∧ p ≤ c2 ∧ Below w.heap.size w w' := by
  refine (alg_Tile A n c l dx dy nx ny w hR hn).mono ?_
  rintro e w' ⟨A2, n2, c2, rfl, h2, _, h3, hb⟩
  rw [hL] at h2
  obtain rfl : n2 = p := by rw [← h2.len, hp]
  exact ⟨A2, c2, by rw [hE], h2, h3, hb⟩
end
def a06 : List (Int × Int × Int) := [(0, 0, 1), (1, 0, 1)]
def b06 : List (Int × Int × Int) := [(1, 0, 2), (2, 0, 2)]
def o06 : List (Int × Int × Int) := [(0, 0, 1), (1, 0, 1), (2, 0, 2)]
def x06 : List (Int × Int × Int) := [(0, 0, 1), (2, 0, 2)]
def n06 : List (Int × Int × Int) := [(1, 0, 1)]
def t06 : List (Int × Int × Int) := [(0, 1, 1), (0, 2, 1)]
def h06 : List (Int × Int × Int) := [(0, 0, 1), (0, 1, 1)]
def l06 : List (Int × Int × Int) := [(0, 0, 1), (2, 0, 1), (0, 3, 1), (2, 3, 1)]
theorem ra06 : rightC a06 = true := by decide +kernel
theorem rb06 : rightC b06 = true := by decide +kernel
theorem v06o : alE 0 a06 b06 = 0 ∧ alL 0 a06 b06 = o06 := by
  rw [← (ov_ref ra06 rb06).1, ← (ov_ref ra06 rb06).2]; exact ⟨by decide +kernel, by decide +kernel⟩
theorem v06x : alE 3 a06 b06 = 0 ∧ alL 3 a06 b06 = x06 := by
  rw [← (xo_ref ra06 rb06).1, ← (xo_ref ra06 rb06).2]; exact ⟨by decide +kernel, by decide +kernel⟩
theorem v06n : pkL 1 a06 b06 = n06 := by
  rw [pkL_yes 1 ra06 rb06, ← (pick_res ra06 rb06).1]; decide +kernel
theorem v06d : djB a06 b06 = false := by
  unfold djB; rw [ra06, rb06, ← (pick_res ra06 rb06).1]; decide +kernel
set_option maxHeartbeats 8000000 in
theorem awake_06 (w : World) (hM : Mx w) : Calls Tryd.prog 11 #[] w fun e w' => e = .returned (.bool true) ∧ Below w.heap.size w w' := by
  go_enter Tryd.func11, Tryd.ntmps11
  have hA : Rd encC 3 ((w.alloc (.cells #[.int .i64 0, .int .i64 0, .int .i64 1, .int .i64 1, .int .i64 0, .int .i64 1] 54)).alloc (.cells #[.int .i64 1, .int .i64 0, .int .i64 2, .int .i64 2, .int .i64 0, .int .i64 2] 54)) (some ⟨w.heap.size, 0, none⟩) 2 a06 := (rd_litC w a06 #[.int .i64 0, .int .i64 0, .int .i64 1, .int .i64 1, .int .i64 0, .int .i64 1] 2 rfl (by omega) rfl).of (by (repeat' (first | exact Below.refl _ _ | assumption | (refine Below.alloc ?_ ?_ _) | (refine Below.setCell ?_ ?_ _) | (refine Below.drew ?_) | (refine below_drewN ?_ _) | (refine below_after (Ext.below _) ?_ ?_) | (refine below_after (by assumption) ?_ ?_) | (simp; done) | omega | (simp; omega))))
  have hB := rd_litC (w.alloc (.cells #[.int .i64 0, .int .i64 0, .int .i64 1, .int .i64 1, .int .i64 0, .int .i64 1] 54)) b06 #[.int .i64 1, .int .i64 0, .int .i64 2, .int .i64 2, .int .i64 0, .int .i64 2] 2 rfl (by omega) rfl
  rw [World.size_alloc] at hB
  go_wp2_with fail; go_at_call 12; refine (alg_OverV _ _ _ _ _ _ _ v06o.1 v06o.2 (p := 3) rfl hA hB (by omega) (by omega) (by omega)).mono ?_; rintro e w1 ⟨A1, c1, rfl, hO, hc1, hb1⟩; have hs1 := hb1.size; (try simp only [World.size_alloc, World.size_drew, World.size_setCell] at hs1)
  have hA := hA.of hb1
  have hB := hB.of hb1
  go_wp2_with fail; go_at_call 14; refine (alg_XorV _ _ _ _ _ _ _ v06x.1 v06x.2 (p := 2) rfl hA hB (by omega) (by omega) (by omega)).mono ?_; rintro e w2 ⟨A2, c2, rfl, hX, hc2, hb2⟩; have hs2 := hb2.size; (try simp only [World.size_alloc, World.size_drew, World.size_setCell] at hs2)
  have hA := hA.of hb2
  have hB := hB.of hb2
  have hO := hO.of hb2
  go_wp2_with fail; go_at_call 17; refine (alg_TurnV _ _ _ _ (k := 1) (l := [(1, 0, 1), (2, 0, 1)]) (q := 0) (s := t06) (by decide +kernel) (by decide +kernel) (p := 2) rfl (hM.of (by (repeat' (first | exact Below.refl _ _ | assumption | (refine Below.alloc ?_ ?_ _) | (refine Below.setCell ?_ ?_ _) | (refine Below.drew ?_) | (refine below_drewN ?_ _) | (refine below_after (Ext.below _) ?_ ?_) | (refine below_after (by assumption) ?_ ?_) | (simp; done) | omega | (simp; omega))))) (rd_litC w2 [(1, 0, 1), (2, 0, 1)] #[.int .i64 1, .int .i64 0, .int .i64 1, .int .i64 2, .int .i64 0, .int .i64 1] 2 rfl (by omega) rfl) (by omega)).mono ?_; rintro e w3 ⟨A3, c3, rfl, hT, hc3, hb3⟩; have hs3 := hb3.size; (try simp only [World.size_alloc, World.size_drew, World.size_setCell] at hs3)
  have hA := hA.of (show Below w2.heap.size w2 w3 from by (repeat' (first | exact Below.refl _ _ | assumption | (refine Below.alloc ?_ ?_ _) | (refine Below.setCell ?_ ?_ _) | (refine Below.drew ?_) | (refine below_drewN ?_ _) | (refine below_after (Ext.below _) ?_ ?_) | (refine below_after (by assumption) ?_ ?_) | (simp; done) | omega | (simp; omega))))
  have hB := hB.of (show Below w2.heap.size w2 w3 from by (repeat' (first | exact Below.refl _ _ | assumption | (refine Below.alloc ?_ ?_ _) | (refine Below.setCell ?_ ?_ _) | (refine Below.drew ?_) | (refine below_drewN ?_ _) | (refine below_after (Ext.below _) ?_ ?_) | (refine below_after (by assumption) ?_ ?_) | (simp; done) | omega | (simp; omega))))
  have hO := hO.of (show Below w2.heap.size w2 w3 from by (repeat' (first | exact Below.refl _ _ | assumption | (refine Below.alloc ?_ ?_ _) | (refine Below.setCell ?_ ?_ _) | (refine Below.drew ?_) | (refine below_drewN ?_ _) | (refine below_after (Ext.below _) ?_ ?_) | (refine below_after (by assumption) ?_ ?_) | (simp; done) | omega | (simp; omega))))
  have hX := hX.of (show Below w2.heap.size w2 w3 from by (repeat' (first | exact Below.refl _ _ | assumption | (refine Below.alloc ?_ ?_ _) | (refine Below.setCell ?_ ?_ _) | (refine Below.drew ?_) | (refine below_drewN ?_ _) | (refine below_after (Ext.below _) ?_ ?_) | (refine below_after (by assumption) ?_ ?_) | (simp; done) | omega | (simp; omega))))
  go_wp2_with fail; go_at_call 21; refine (alg_TileV _ _ _ _ (l := [(0, 0, 1)]) (q := 0) (s := l06) (by decide +kernel) (by decide +kernel) (p := 4) rfl (rd_litC w3 [(0, 0, 1)] #[.int .i64 0, .int .i64 0, .int .i64 1] 1 rfl (by omega) rfl) (by omega)).mono ?_; rintro e w4 ⟨A4, c4, rfl, hL, hc4, hb4⟩; have hs4 := hb4.size; (try simp only [World.size_alloc, World.size_drew, World.size_setCell] at hs4)
  have hA := hA.of (show Below w3.heap.size w3 w4 from by (repeat' (first | exact Below.refl _ _ | assumption | (refine Below.alloc ?_ ?_ _) | (refine Below.setCell ?_ ?_ _) | (refine Below.drew ?_) | (refine below_drewN ?_ _) | (refine below_after (Ext.below _) ?_ ?_) | (refine below_after (by assumption) ?_ ?_) | (simp; done) | omega | (simp; omega))))
  have hB := hB.of (show Below w3.heap.size w3 w4 from by (repeat' (first | exact Below.refl _ _ | assumption | (refine Below.alloc ?_ ?_ _) | (refine Below.setCell ?_ ?_ _) | (refine Below.drew ?_) | (refine below_drewN ?_ _) | (refine below_after (Ext.below _) ?_ ?_) | (refine below_after (by assumption) ?_ ?_) | (simp; done) | omega | (simp; omega))))
  have hO := hO.of (show Below w3.heap.size w3 w4 from by (repeat' (first | exact Below.refl _ _ | assumption | (refine Below.alloc ?_ ?_ _) | (refine Below.setCell ?_ ?_ _) | (refine Below.drew ?_) | (refine below_drewN ?_ _) | (refine below_after (Ext.below _) ?_ ?_) | (refine below_after (by assumption) ?_ ?_) | (simp; done) | omega | (simp; omega))))
  have hX := hX.of (show Below w3.heap.size w3 w4 from by (repeat' (first | exact Below.refl _ _ | assumption | (refine Below.alloc ?_ ?_ _) | (refine Below.setCell ?_ ?_ _) | (refine Below.drew ?_) | (refine below_drewN ?_ _) | (refine below_after (Ext.below _) ?_ ?_) | (refine below_after (by assumption) ?_ ?_) | (simp; done) | omega | (simp; omega))))
  have hT := hT.of (show Below w3.heap.size w3 w4 from by (repeat' (first | exact Below.refl _ _ | assumption | (refine Below.alloc ?_ ?_ _) | (refine Below.setCell ?_ ?_ _) | (refine Below.drew ?_) | (refine below_drewN ?_ _) | (refine below_after (Ext.below _) ?_ ?_) | (refine below_after (by assumption) ?_ ?_) | (simp; done) | omega | (simp; omega))))
  have hB4 : Below w.heap.size w w4 := by (repeat' (first | exact Below.refl _ _ | assumption | (refine Below.alloc ?_ ?_ _) | (refine Below.setCell ?_ ?_ _) | (refine Below.drew ?_) | (refine below_drewN ?_ _) | (refine below_after (Ext.below _) ?_ ?_) | (refine below_after (by assumption) ?_ ?_) | (simp; done) | omega | (simp; omega)))
  clear hb1 hb2 hb3 hb4 hs1 hs2 hs3 hs4
  have hs0 := hB4.size
  go_wp2_with fail; go_at_call 16; refine (ref05_SameV (sameL_self o06) _ _ _ _ _ _ _ (hO.of (by (repeat' (first | exact Below.refl _ _ | assumption | (refine Below.alloc ?_ ?_ _) | (refine Below.setCell ?_ ?_ _) | (refine Below.drew ?_) | (refine below_drewN ?_ _) | (refine below_after (Ext.below _) ?_ ?_) | (refine below_after (by assumption) ?_ ?_) | (simp; done) | omega | (simp; omega))))) (rd_litC w4 o06 #[.int .i64 0, .int .i64 0, .int .i64 1, .int .i64 1, .int .i64 0, .int .i64 1, .int .i64 2, .int .i64 0, .int .i64 2] 3 rfl (by omega) rfl) (by omega) (by omega)).mono ?_; rintro e w5 ⟨rfl, hb5⟩; have hs5 := hb5.size; (try simp only [World.size_alloc, World.size_drew, World.size_setCell] at hs5)
  have hA := hA.of (show Below w4.heap.size w4 w5 from by (repeat' (first | exact Below.refl _ _ | assumption | (refine Below.alloc ?_ ?_ _) | (refine Below.setCell ?_ ?_ _) | (refine Below.drew ?_) | (refine below_drewN ?_ _) | (refine below_after (Ext.below _) ?_ ?_) | (refine below_after (by assumption) ?_ ?_) | (simp; done) | omega | (simp; omega))))
  have hB := hB.of (show Below w4.heap.size w4 w5 from by (repeat' (first | exact Below.refl _ _ | assumption | (refine Below.alloc ?_ ?_ _) | (refine Below.setCell ?_ ?_ _) | (refine Below.drew ?_) | (refine below_drewN ?_ _) | (refine below_after (Ext.below _) ?_ ?_) | (refine below_after (by assumption) ?_ ?_) | (simp; done) | omega | (simp; omega))))
  have hX := hX.of (show Below w4.heap.size w4 w5 from by (repeat' (first | exact Below.refl _ _ | assumption | (refine Below.alloc ?_ ?_ _) | (refine Below.setCell ?_ ?_ _) | (refine Below.drew ?_) | (refine below_drewN ?_ _) | (refine below_after (Ext.below _) ?_ ?_) | (refine below_after (by assumption) ?_ ?_) | (simp; done) | omega | (simp; omega))))
  have hT := hT.of (show Below w4.heap.size w4 w5 from by (repeat' (first | exact Below.refl _ _ | assumption | (refine Below.alloc ?_ ?_ _) | (refine Below.setCell ?_ ?_ _) | (refine Below.drew ?_) | (refine below_drewN ?_ _) | (refine below_after (Ext.below _) ?_ ?_) | (refine below_after (by assumption) ?_ ?_) | (simp; done) | omega | (simp; omega))))
  have hL := hL.of (show Below w4.heap.size w4 w5 from by (repeat' (first | exact Below.refl _ _ | assumption | (refine Below.alloc ?_ ?_ _) | (refine Below.setCell ?_ ?_ _) | (refine Below.drew ?_) | (refine below_drewN ?_ _) | (refine below_after (Ext.below _) ?_ ?_) | (refine below_after (by assumption) ?_ ?_) | (simp; done) | omega | (simp; omega))))
  go_wp2_with fail; go_at_call 16; refine (ref05_SameV (sameL_self x06) _ _ _ _ _ _ _ (hX.of (by (repeat' (first | exact Below.refl _ _ | assumption | (refine Below.alloc ?_ ?_ _) | (refine Below.setCell ?_ ?_ _) | (refine Below.drew ?_) | (refine below_drewN ?_ _) | (refine below_after (Ext.below _) ?_ ?_) | (refine below_after (by assumption) ?_ ?_) | (simp; done) | omega | (simp; omega))))) (rd_litC w5 x06 #[.int .i64 0, .int .i64 0, .int .i64 1, .int .i64 2, .int .i64 0, .int .i64 2] 2 rfl (by omega) rfl) (by omega) (by omega)).mono ?_; rintro e w6 ⟨rfl, hb6⟩; have hs6 := hb6.size; (try simp only [World.size_alloc, World.size_drew, World.size_setCell] at hs6)
  have hA := hA.of (show Below w5.heap.size w5 w6 from by (repeat' (first | exact Below.refl _ _ | assumption | (refine Below.alloc ?_ ?_ _) | (refine Below.setCell ?_ ?_ _) | (refine Below.drew ?_) | (refine below_drewN ?_ _) | (refine below_after (Ext.below _) ?_ ?_) | (refine below_after (by assumption) ?_ ?_) | (simp; done) | omega | (simp; omega))))
  have hB := hB.of (show Below w5.heap.size w5 w6 from by (repeat' (first | exact Below.refl _ _ | assumption | (refine Below.alloc ?_ ?_ _) | (refine Below.setCell ?_ ?_ _) | (refine Below.drew ?_) | (refine below_drewN ?_ _) | (refine below_after (Ext.below _) ?_ ?_) | (refine below_after (by assumption) ?_ ?_) | (simp; done) | omega | (simp; omega))))
  have hT := hT.of (show Below w5.heap.size w5 w6 from by (repeat' (first | exact Below.refl _ _ | assumption | (refine Below.alloc ?_ ?_ _) | (refine Below.setCell ?_ ?_ _) | (refine Below.drew ?_) | (refine below_drewN ?_ _) | (refine below_after (Ext.below _) ?_ ?_) | (refine below_after (by assumption) ?_ ?_) | (simp; done) | omega | (simp; omega))))
  have hL := hL.of (show Below w5.heap.size w5 w6 from by (repeat' (first | exact Below.refl _ _ | assumption | (refine Below.alloc ?_ ?_ _) | (refine Below.setCell ?_ ?_ _) | (refine Below.drew ?_) | (refine below_drewN ?_ _) | (refine below_after (Ext.below _) ?_ ?_) | (refine below_after (by assumption) ?_ ?_) | (simp; done) | omega | (simp; omega))))
  go_wp2_with fail; go_at_call 25; refine (alg_AndV _ _ _ _ _ _ _ v06n (p := 1) rfl hA hB (by omega) (by omega) (by omega)).mono ?_; rintro e w7 ⟨A7, c7, rfl, hN, hc7, hb7⟩; have hs7 := hb7.size; (try simp only [World.size_alloc, World.size_drew, World.size_setCell] at hs7)
  have hA := hA.of hb7
  have hB := hB.of hb7
  have hT := hT.of hb7
  have hL := hL.of hb7
  go_wp2_with fail; go_at_call 16; refine (ref05_SameV (sameL_self n06) _ _ _ _ _ _ _ (hN.of (by (repeat' (first | exact Below.refl _ _ | assumption | (refine Below.alloc ?_ ?_ _) | (refine Below.setCell ?_ ?_ _) | (refine Below.drew ?_) | (refine below_drewN ?_ _) | (refine below_after (Ext.below _) ?_ ?_) | (refine below_after (by assumption) ?_ ?_) | (simp; done) | omega | (simp; omega))))) (rd_litC w7 n06 #[.int .i64 1, .int .i64 0, .int .i64 1] 1 rfl (by omega) rfl) (by omega) (by omega)).mono ?_; rintro e w8 ⟨rfl, hb8⟩; have hs8 := hb8.size; (try simp only [World.size_alloc, World.size_drew, World.size_setCell] at hs8)
  have hA := hA.of (show Below w7.heap.size w7 w8 from by (repeat' (first | exact Below.refl _ _ | assumption | (refine Below.alloc ?_ ?_ _) | (refine Below.setCell ?_ ?_ _) | (refine Below.drew ?_) | (refine below_drewN ?_ _) | (refine below_after (Ext.below _) ?_ ?_) | (refine below_after (by assumption) ?_ ?_) | (simp; done) | omega | (simp; omega))))
  have hB := hB.of (show Below w7.heap.size w7 w8 from by (repeat' (first | exact Below.refl _ _ | assumption | (refine Below.alloc ?_ ?_ _) | (refine Below.setCell ?_ ?_ _) | (refine Below.drew ?_) | (refine below_drewN ?_ _) | (refine below_after (Ext.below _) ?_ ?_) | (refine below_after (by assumption) ?_ ?_) | (simp; done) | omega | (simp; omega))))
  have hT := hT.of (show Below w7.heap.size w7 w8 from by (repeat' (first | exact Below.refl _ _ | assumption | (refine Below.alloc ?_ ?_ _) | (refine Below.setCell ?_ ?_ _) | (refine Below.drew ?_) | (refine below_drewN ?_ _) | (refine below_after (Ext.below _) ?_ ?_) | (refine below_after (by assumption) ?_ ?_) | (simp; done) | omega | (simp; omega))))
  have hL := hL.of (show Below w7.heap.size w7 w8 from by (repeat' (first | exact Below.refl _ _ | assumption | (refine Below.alloc ?_ ?_ _) | (refine Below.setCell ?_ ?_ _) | (refine Below.drew ?_) | (refine below_drewN ?_ _) | (refine below_after (Ext.below _) ?_ ?_) | (refine below_after (by assumption) ?_ ?_) | (simp; done) | omega | (simp; omega))))
  have hB8 : Below w.heap.size w w8 := by (repeat' (first | exact Below.refl _ _ | assumption | (refine Below.alloc ?_ ?_ _) | (refine Below.setCell ?_ ?_ _) | (refine Below.drew ?_) | (refine below_drewN ?_ _) | (refine below_after (Ext.below _) ?_ ?_) | (refine below_after (by assumption) ?_ ?_) | (simp; done) | omega | (simp; omega)))
  clear hb5 hb6 hb7 hb8 hs5 hs6 hs7 hs8 hB4
  have hs0 := hB8.size
  go_wp2_with fail; go_at_call 16; refine (ref05_SameV (sameL_self t06) _ _ _ _ _ _ _ (hT.of (by (repeat' (first | exact Below.refl _ _ | assumption | (refine Below.alloc ?_ ?_ _) | (refine Below.setCell ?_ ?_ _) | (refine Below.drew ?_) | (refine below_drewN ?_ _) | (refine below_after (Ext.below _) ?_ ?_) | (refine below_after (by assumption) ?_ ?_) | (simp; done) | omega | (simp; omega))))) (rd_litC w8 t06 #[.int .i64 0, .int .i64 1, .int .i64 1, .int .i64 0, .int .i64 2, .int .i64 1] 2 rfl (by omega) rfl) (by omega) (by omega)).mono ?_; rintro e w9 ⟨rfl, hb9⟩; have hs9 := hb9.size; (try simp only [World.size_alloc, World.size_drew, World.size_setCell] at hs9)
  have hA := hA.of (show Below w8.heap.size w8 w9 from by (repeat' (first | exact Below.refl _ _ | assumption | (refine Below.alloc ?_ ?_ _) | (refine Below.setCell ?_ ?_ _) | (refine Below.drew ?_) | (refine below_drewN ?_ _) | (refine below_after (Ext.below _) ?_ ?_) | (refine below_after (by assumption) ?_ ?_) | (simp; done) | omega | (simp; omega))))
  have hB := hB.of (show Below w8.heap.size w8 w9 from by (repeat' (first | exact Below.refl _ _ | assumption | (refine Below.alloc ?_ ?_ _) | (refine Below.setCell ?_ ?_ _) | (refine Below.drew ?_) | (refine below_drewN ?_ _) | (refine below_after (Ext.below _) ?_ ?_) | (refine below_after (by assumption) ?_ ?_) | (simp; done) | omega | (simp; omega))))
  have hT := hT.of (show Below w8.heap.size w8 w9 from by (repeat' (first | exact Below.refl _ _ | assumption | (refine Below.alloc ?_ ?_ _) | (refine Below.setCell ?_ ?_ _) | (refine Below.drew ?_) | (refine below_drewN ?_ _) | (refine below_after (Ext.below _) ?_ ?_) | (refine below_after (by assumption) ?_ ?_) | (simp; done) | omega | (simp; omega))))
  have hL := hL.of (show Below w8.heap.size w8 w9 from by (repeat' (first | exact Below.refl _ _ | assumption | (refine Below.alloc ?_ ?_ _) | (refine Below.setCell ?_ ?_ _) | (refine Below.drew ?_) | (refine below_drewN ?_ _) | (refine below_after (Ext.below _) ?_ ?_) | (refine below_after (by assumption) ?_ ?_) | (simp; done) | omega | (simp; omega))))
  go_wp2_with fail; go_at_call 19; refine (alg_HomeV _ _ _ _ (s := h06) (by decide +kernel) hT (by omega) (by omega)).mono ?_; rintro e w10 ⟨A10, c10, rfl, hH, hc10, hb10⟩; have hs10 := hb10.size; (try simp only [World.size_alloc, World.size_drew, World.size_setCell] at hs10)
  have hA := hA.of hb10
  have hB := hB.of hb10
  have hL := hL.of hb10
  go_wp2_with fail; go_at_call 16; refine (ref05_SameV (sameL_self h06) _ _ _ _ _ _ _ (hH.of (by (repeat' (first | exact Below.refl _ _ | assumption | (refine Below.alloc ?_ ?_ _) | (refine Below.setCell ?_ ?_ _) | (refine Below.drew ?_) | (refine below_drewN ?_ _) | (refine below_after (Ext.below _) ?_ ?_) | (refine below_after (by assumption) ?_ ?_) | (simp; done) | omega | (simp; omega))))) (rd_litC w10 h06 #[.int .i64 0, .int .i64 0, .int .i64 1, .int .i64 0, .int .i64 1, .int .i64 1] 2 rfl (by omega) rfl) (by omega) (by omega)).mono ?_; rintro e w11 ⟨rfl, hb11⟩; have hs11 := hb11.size; (try simp only [World.size_alloc, World.size_drew, World.size_setCell] at hs11)
  have hA := hA.of (show Below w10.heap.size w10 w11 from by (repeat' (first | exact Below.refl _ _ | assumption | (refine Below.alloc ?_ ?_ _) | (refine Below.setCell ?_ ?_ _) | (refine Below.drew ?_) | (refine below_drewN ?_ _) | (refine below_after (Ext.below _) ?_ ?_) | (refine below_after (by assumption) ?_ ?_) | (simp; done) | omega | (simp; omega))))
  have hB := hB.of (show Below w10.heap.size w10 w11 from by (repeat' (first | exact Below.refl _ _ | assumption | (refine Below.alloc ?_ ?_ _) | (refine Below.setCell ?_ ?_ _) | (refine Below.drew ?_) | (refine below_drewN ?_ _) | (refine below_after (Ext.below _) ?_ ?_) | (refine below_after (by assumption) ?_ ?_) | (simp; done) | omega | (simp; omega))))
  have hL := hL.of (show Below w10.heap.size w10 w11 from by (repeat' (first | exact Below.refl _ _ | assumption | (refine Below.alloc ?_ ?_ _) | (refine Below.setCell ?_ ?_ _) | (refine Below.drew ?_) | (refine below_drewN ?_ _) | (refine below_after (Ext.below _) ?_ ?_) | (refine below_after (by assumption) ?_ ?_) | (simp; done) | omega | (simp; omega))))
  go_wp2_with fail; go_at_call 16; refine (ref05_SameV (sameL_self l06) _ _ _ _ _ _ _ (hL.of (by (repeat' (first | exact Below.refl _ _ | assumption | (refine Below.alloc ?_ ?_ _) | (refine Below.setCell ?_ ?_ _) | (refine Below.drew ?_) | (refine below_drewN ?_ _) | (refine below_after (Ext.below _) ?_ ?_) | (refine below_after (by assumption) ?_ ?_) | (simp; done) | omega | (simp; omega))))) (rd_litC w11 l06 #[.int .i64 0, .int .i64 0, .int .i64 1, .int .i64 2, .int .i64 0, .int .i64 1, .int .i64 0, .int .i64 3, .int .i64 1, .int .i64 2, .int .i64 3, .int .i64 1] 4 rfl (by omega) rfl) (by omega) (by omega)).mono ?_; rintro e w12 ⟨rfl, hb12⟩; have hs12 := hb12.size; (try simp only [World.size_alloc, World.size_drew, World.size_setCell] at hs12)
  have hA := hA.of (show Below w11.heap.size w11 w12 from by (repeat' (first | exact Below.refl _ _ | assumption | (refine Below.alloc ?_ ?_ _) | (refine Below.setCell ?_ ?_ _) | (refine Below.drew ?_) | (refine below_drewN ?_ _) | (refine below_after (Ext.below _) ?_ ?_) | (refine below_after (by assumption) ?_ ?_) | (simp; done) | omega | (simp; omega))))
  have hB := hB.of (show Below w11.heap.size w11 w12 from by (repeat' (first | exact Below.refl _ _ | assumption | (refine Below.alloc ?_ ?_ _) | (refine Below.setCell ?_ ?_ _) | (refine Below.drew ?_) | (refine below_drewN ?_ _) | (refine below_after (Ext.below _) ?_ ?_) | (refine below_after (by assumption) ?_ ?_) | (simp; done) | omega | (simp; omega))))
  go_wp2_with fail; go_at_call 26; refine (alg_DisjointV _ _ _ _ _ _ _ v06d hA hB (by omega) (by omega) (by omega)).mono ?_; rintro e w13 ⟨rfl, hb13⟩; have hs13 := hb13.size; (try simp only [World.size_alloc, World.size_drew, World.size_setCell] at hs13)
  go_wp2_with fail
  go_ret
  exact ⟨rfl, by (repeat' (first | exact Below.refl _ _ | assumption | (refine Below.alloc ?_ ?_ _) | (refine Below.setCell ?_ ?_ _) | (refine Below.drew ?_) | (refine below_drewN ?_ _) | (refine below_after (Ext.below _) ?_ ?_) | (refine below_after (by assumption) ?_ ?_) | (simp; done) | omega | (simp; omega)))⟩
end Go.Proofs.YtenckggfgbkfnaaDoor
