/- snapshot's reader: the closures of cells and changes. -/
import Derived.Test.YtmenokhnanghgaaGreatSNE
namespace Go.Proofs.YtmenokhnanghgaaGreat
open Go Go.RowKit
set_option linter.unusedSimpArgs false
set_option linter.unusedVariables false
set_option maxRecDepth 100000
set_option linter.unusedSimpArgs false
set_option linter.unusedVariables false
set_option maxHeartbeats 16000000 in
theorem snp_rcells1 (B1 : Nat) (w0 : World) (br bi bo bc b2 bt bp : Nat) (tf : Value) (lst : List Cel) (x y : Int) (OA : Option Addr) (on oc : Nat) (A : Option Addr) (n c : Nat) (l : List Int) (s : RS) (w : World)
    (hB : LsB w0.heap.size B1 br bi bo bc b2 bt bp) (hA : 0 < n → ∀ b o, A = some ⟨b, o, none⟩ → b < w0.heap.size) (hP : LsP encC 3 63 B1 w0 br bi bo bc b2 bt bp tf lst x y OA on oc w) (hS : RdS w br bi A n c l s) (hon : on ≤ 1000000) :
    Calls Tryz.prog 90 #[.agg #[.int .i64 x, .int .i64 y], .pointer (some ⟨bo, 0, none⟩), .pointer (some ⟨bc, 0, none⟩)] w fun e w' => e = void ∧ ∃ OA' on' oc', LsP encC 3 63 B1 w0 br bi bo bc b2 bt bp tf (lst ++ [(tkC (unB l) x y s).1]) x y OA' on' oc' w' ∧ RdS w' br bi A n c l (tkC (unB l) x y s).2 := by
  obtain ⟨W, hW⟩ : ∃ W, W = w.alloc (.cells #[.int .i64 x, .int .i64 y] 66) := ⟨_, rfl⟩
  have hb : Below w.heap.size w W := by rw [hW]; exact (Below.refl _ _).alloc (Nat.le_refl _) _
  have hPW := hP.of hb
  have hSW := hS.of hb
  have hbx : BxW W w.heap.size [.int .i64 x, .int .i64 y] := by rw [hW]; exact BxW.new w [_, _] _
  have hz := hP.z
  have hWs : w.heap.size < W.heap.size := hbx.1
  have hn1 := hB.r1
  have hn2 := hB.r2
  have hno := hB.o
  have hnc := hB.c
  rw [show (tkC (unB l) x y s).1 = (x, y, (bitsR (unB l) 3 s).1) from rfl, show (tkC (unB l) x y s).2 = (bitsR (unB l) 3 s).2 from rfl]
  have kF := fun w1 h1 => snp_fixed br bi A n c l s w1 3 h1 (by omega)
  generalize bitsR (unB l) 3 s = g at kF ⊢
  obtain ⟨v, s2⟩ := g
  simp only at kF ⊢
  have hrow : ∀ q, (Value.slice OA on oc).ownBlock = some q → B1 ≤ q ∧ q < w.heap.size := fun q hq => hP.row.row.lt q hq
  obtain ⟨_, o0, fo⟩ := hPW.o.open1
  obtain ⟨_, c0, fc⟩ := hPW.c.open1
  obtain ⟨_, p0, p1, fp0, fp1⟩ := hbx.open2
  have hSd := hSW.of (Below.refl _ _).drew
  have hPd := hPW.of (Below.refl _ _).drew
  have kF' : Calls Tryz.prog 55 #[.pointer (some ⟨br, 0, none⟩), .int .i64 3] W.drew fun e w7 => e = .returned (.int .i64 v) ∧ RdS w7 br bi A n c l s2 ∧ LsP encC 3 63 B1 w0 br bi bo bc b2 bt bp tf lst x y OA on oc w7 ∧ bo < w7.heap.size ∧ w7.cell? ⟨bo, 0, none⟩ = some (.slice OA on oc) ∧ w7.cell? ⟨w.heap.size, 0, none⟩ = some (.int .i64 x) ∧ w7.cell? ⟨w.heap.size, 1, none⟩ = some (.int .i64 y) := by
    refine (kF _ hSd).mono ?_
    rintro e w7 ⟨rfl, hS7, hf7⟩
    have hP7 := hPd.read hB hf7
    have hx7 := (hbx.drew).frR hf7 (by rintro (k | k) <;> omega)
    obtain ⟨hbo7, o7, _⟩ := hP7.o.open1
    obtain ⟨_, p70, p71, _, _⟩ := hx7.open2
    exact ⟨rfl, hS7, hP7, hbo7, o7, p70, p71⟩
  have kA : ∀ (w7 : World), RdS w7 br bi A n c l s2 → LsP encC 3 63 B1 w0 br bi bo bc b2 bt bp tf lst x y OA on oc w7 → ∀ (A5 : Option Addr) (c5 : Nat) (w5 : World), Own encC 3 63 B1 w5 A5 (on + 1) c5 (lst ++ [(x, y, v)]) → (w7.alloc (.cells #[.int .i64 x, .int .i64 y, .int .i64 v] 63)).grownBy w5 (Value.slice OA on oc).ownBlock →
      w5.cell? ⟨bo, 0, none⟩ = some (.slice OA on oc) ∧ w5.frozen? ⟨bo, 0, none⟩ = false ∧ Hid (LsP encC 3 63 B1 w0 br bi bo bc b2 bt bp tf (lst ++ [(x, y, v)]) x y A5 (on + 1) c5 (w5.setCell ⟨bo, 0, none⟩ (.slice A5 (on + 1) c5)) ∧ RdS (w5.setCell ⟨bo, 0, none⟩ (.slice A5 (on + 1) c5)) br bi A n c l s2) := by
    intro w7 hS7 hP7 A5 c5 w5 hown5 hg5
    obtain ⟨_, o5, fo5⟩ := (((hP7.o.of ((Below.refl _ _).alloc (Nat.le_refl _) _)).grown hg5 (fun e => by have := (hP7.row.row.lt _ e.symm).1; omega)).open1)
    exact ⟨o5, fo5, Lib.hid ⟨hP7.app hB hown5 hg5, hS7.app hP7 hB hA hg5⟩⟩
  clear hP hS hPW hSW hbx kF hSd hPd hb
  go_enter Tryz.func90, Tryz.ntmps90
  go_upto_region 1 with (fail)
  rw [← hW]
  clear hW
  go_region_law
    (first
    | (go_simp; go_at_call 55; refine kF'.mono ?_; rintro e w7 ⟨rfl, hS7, hP7, hbo7, o7, p70, p71⟩)
    | (refine step_append_el (by rfl) (.tmp 4) (.tmp 12) 23 (by rfl) encC 3 63 (.agg #[.int .i64 0, .int .i64 0, .int .i64 0]) 24 Tryz.underlying23 (by kernel_rfl) rfl (by decide) encC_len encC_one B1 _ _ _ lst (by rfl) (Own.alloc (LsP.row hP7) _) (x, y, v) ⟨w7.heap.size, 0, none⟩ 1 (by rfl) (cells_new w7 (encC (x, y, v)) 63) (by omega) (by omega) (by simp only [World.size_alloc]; have := hP7.z; omega) ?_; intro A5 c5 w5 hown5 hg5 hb5; obtain ⟨o5, fo5, hfin⟩ := kA w7 hS7 hP7 A5 c5 w5 hown5 hg5))
  all_goals
    go_wp2_with fail
    go_end0
    exact ⟨rfl, A5, on + 1, c5, hfin.out⟩
end Go.Proofs.YtmenokhnanghgaaGreat
