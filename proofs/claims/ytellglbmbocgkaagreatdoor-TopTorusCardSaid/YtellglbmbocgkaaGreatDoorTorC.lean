/- gridstep.fits and gridstep.run at a torus of 32 by 32. -/
import Derived.Test.YtellglbmbocgkaaGreatDoorTorB
import Derived.Test.YtellglbmbocgkaaGreatDoorTRE
namespace Go.Proofs.YtellglbmbocgkaaGreatDoor
open Go Go.RowKit
set_option linter.unusedSimpArgs false
set_option linter.unusedVariables false
set_option maxRecDepth 100000
set_option linter.unusedSimpArgs false
set_option linter.unusedVariables false
set_option maxHeartbeats 4000000 in
theorem gs_fits (st : Int) (A B D : Option Addr) (n cc m d c : Nat) (H : List (Int × Int)) (N : List (Int × List Int)) (g : List Int) (w : World) (hH : Rd encP 2 w A n H) (hN : RdX ekN w B m N) (hR : Rd encI 1 w D 1024 g) (hr : trR st H N = true) (hg : OkG st g) :
    Calls Tryz.prog 46 #[.agg #[.int .i64 st, .slice A n cc, .slice B m d], .agg #[.int .i64 32, .int .i64 32, .int .i64 1, .slice D 1024 c]] w fun e w' => e = .returned (.int .i64 0) ∧ Below w.heap.size w w' := by
  have kT := fun w1 h1 h2 => tree_Right st A B n cc m d H N w1 h1 h2
  simp only [hr] at kT
  have kR := fun w1 h => grid_Right D c g w1 h (hg.le (trR_parts hr).1.2)
  have kC := fun w1 bt h h2 h3 => containsFunc_gf D 1024 c g st bt w1 h (by omega) (fun x hx => (hg.st x hx).2) h2 h3
  clear hr hg
  go_enter Tryz.func46, Tryz.ntmps46
  go_wp2_with fail
  have tr0 := (TrAt.new w (.int .i64 st) (.slice A n cc) (.slice B m d) 25).of ((Below.refl _ _).alloc (Nat.le_refl _) (.cells #[.int .i64 32, .int .i64 32, .int .i64 1, .slice D 1024 c] 56))
  have bg0 := BxW.new (w.alloc (.cells #[.int .i64 st, .slice A n cc, .slice B m d] 25)) [.int .i64 32, .int .i64 32, .int .i64 1, .slice D 1024 c] 56
  rw [arr4T, World.size_alloc] at bg0
  have hbe : Below w.heap.size w ((w.alloc (.cells #[.int .i64 st, .slice A n cc, .slice B m d] 25)).alloc (.cells #[.int .i64 32, .int .i64 32, .int .i64 1, .slice D 1024 c] 56)) := by (repeat' (first | exact Below.refl _ _ | assumption | (refine Below.alloc ?_ ?_ _) | (refine Below.setCell ?_ ?_ _) | (refine Below.drew ?_) | (refine below_drewN ?_ _) | (refine below_after (Ext.below _) ?_ ?_) | (refine below_after (by assumption) ?_ ?_) | (simp; done) | omega | (simp; omega)))
  obtain ⟨we, hwe⟩ : ∃ we, we = ((w.alloc (.cells #[.int .i64 st, .slice A n cc, .slice B m d] 25)).alloc (.cells #[.int .i64 32, .int .i64 32, .int .i64 1, .slice D 1024 c] 56)) := ⟨_, rfl⟩
  rw [← hwe] at tr0 bg0 hbe ⊢
  clear hwe
  obtain ⟨hbt, t0, t1, t2⟩ := tr0
  go_wp2_with fail; go_at_call 77; refine (kT _ (hH.of hbe) (hN.of hbe)).mono ?_; rintro e w1 ⟨rfl, hb1⟩; have hs1 := hb1.size; (try simp only [World.size_alloc, World.size_drew, World.size_setCell] at hs1)
  have bg1 := bg0.of hb1
  obtain ⟨_, y0, y1, y2, y3, _⟩ := bg1.open4
  have hB1 := hbe.trans (hb1.mono hbe.size)
  go_wp2_with fail; go_at_call 86; refine (kR _ (hR.of hB1)).mono ?_; rintro e w2 ⟨rfl, hb2⟩; have hs2 := hb2.size; (try simp only [World.size_alloc, World.size_drew, World.size_setCell] at hs2)
  have bg2 := bg1.of hb2
  obtain ⟨_, x0, x1, x2, x3, _⟩ := bg2.open4
  have hB2 := hB1.trans (hb2.mono hB1.size)
  have tc : w2.cell? ⟨w.heap.size, 0, none⟩ = some (.int .i64 st) := (hb2.cell (p := ⟨w.heap.size, 0, none⟩) (by show w.heap.size < w1.heap.size; omega)).trans ((hb1.cell (p := ⟨w.heap.size, 0, none⟩) hbt).trans t0)
  go_wp2_with fail; go_at_call 87; refine (kC _ _ (hR.of hB2) tc (by omega)).mono ?_; rintro e w3 ⟨rfl, hb3⟩; have hs3 := hb3.size; (try simp only [World.size_alloc, World.size_drew, World.size_setCell] at hs3)
  go_wp2_with fail
  go_ret
  exact ⟨rfl, hB2.trans (hb3.mono hB2.size)⟩
theorem gs_run (A B D : Option Addr) (st : Int) (n cc m d c : Nat) (w : World) :
    Calls Tryz.prog 47 #[.agg #[.int .i64 st, .slice A n cc, .slice B m d], .agg #[.int .i64 32, .int .i64 32, .int .i64 1, .slice D 1024 c]] w fun e w' => e = .returned (.func (.func 89) #[] #[.pointer (some ⟨w.heap.size + 1, 0, none⟩), .pointer (some ⟨w.heap.size, 0, none⟩)]) ∧ TrAt w' w.heap.size (.int .i64 st) (.slice A n cc) (.slice B m d) ∧ BxW w' (w.heap.size + 1) [.int .i64 32, .int .i64 32, .int .i64 1, .slice D 1024 c] ∧ Below w.heap.size w w' := by
  go_enter Tryz.func47, Tryz.ntmps47
  go_wp2_with fail
  go_ret
  have tr0 := (TrAt.new w (.int .i64 st) (.slice A n cc) (.slice B m d) 25).of ((Below.refl _ _).alloc (Nat.le_refl _) (.cells #[.int .i64 32, .int .i64 32, .int .i64 1, .slice D 1024 c] 56))
  have bg0 := BxW.new (w.alloc (.cells #[.int .i64 st, .slice A n cc, .slice B m d] 25)) [.int .i64 32, .int .i64 32, .int .i64 1, .slice D 1024 c] 56
  rw [arr4T, World.size_alloc] at bg0
  exact ⟨rfl, tr0, bg0, by (repeat' (first | exact Below.refl _ _ | assumption | (refine Below.alloc ?_ ?_ _) | (refine Below.setCell ?_ ?_ _) | (refine Below.drew ?_) | (refine below_drewN ?_ _) | (refine below_after (Ext.below _) ?_ ?_) | (refine below_after (by assumption) ?_ ?_) | (simp; done) | omega | (simp; omega)))⟩
end Go.Proofs.YtellglbmbocgkaaGreatDoor
