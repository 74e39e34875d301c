/- The reference's form of a pattern, and its reading. By mkrgb.py. -/
import Derived.Test.YtmenokhnanghgaaGreatRFE
import Derived.Test.YtmenokhnanghgaaGreatRFX
import Derived.Test.YtmenokhnanghgaaGreatSnp5
import Derived.Test.YtmenokhnanghgaaGreatCEL
namespace Go.Proofs.YtmenokhnanghgaaGreat
open Go Go.RowKit
set_option linter.unusedSimpArgs false
set_option linter.unusedVariables false
set_option maxRecDepth 100000
set_option linter.unusedSimpArgs false
set_option linter.unusedVariables false
theorem offQ_old {α : Type} {enc : α → List Value} {k : Nat} {w w1 : World} {bw : Nat} {WA : Option Addr} {wn wc : Nat} {X T : List Bool} {er : Bool} {PA : Option Addr} {n : Nat} {l : List α} (hR : Rd enc k w PA n l) (hX : WqX w1 bw WA wn wc X T er) (hw : w.heap.size ≤ bw) : 0 < n → ∀ b o, PA = some ⟨b, o, none⟩ → b ≠ bw ∧ (Value.slice WA wn wc).ownBlock ≠ some b ∧ b < w1.heap.size := by
  intro hn b o e
  obtain ⟨b', o', e', hb, _⟩ := hR.2 hn
  rw [e] at e'
  injection e' with e'
  injection e' with e' _
  subst e'
  have := hX.s.box.1
  exact ⟨by omega, fun k => by have := hX.s.above _ k; omega, by omega⟩
theorem WqX.go {w0 w w' : World} {bw : Nat} {A A' : Option Addr} {n c n' c' : Nat} {X T : List Bool} {b : Bool} (hX : WqX w bw A n c X T b) (hB : Below w0.heap.size w0 w) (hK : WrK w bw A n c w' A' n' c') (hwb : w0.heap.size ≤ bw) : Below w0.heap.size w0 w' := hB.trans (hK.belowQ hX.s hwb)
set_option maxHeartbeats 4000000 in
theorem ref55_Pattern (PA : Option Addr) (n c : Nat) (l : List Cel) (w : World) (hR : Rd encC 3 w PA n l) (hn : n ≤ 9223372036854775807) :
    Calls Tryz.prog 11 #[.slice PA n c] w fun e w' => ∃ A' n' c', e = .returned (.tuple #[.slice A' n' c', .int .i64 (fpE l)]) ∧ Rd encU 1 w' A' n' (fpL l) ∧ Below w.heap.size w w' := by
  have hRh := Lib.hid hR
  cases hr : rightC l with
  | false =>
    have kR := fun w1 h => ref05_RightV (A := PA) (n := n) (c := c) hr w1 h hn
    obtain ⟨h1, h2⟩ := fp_bad hr
    rw [h1, h2]
    clear hr h1 h2 hR
    go_enter Tryz.func11, Tryz.ntmps11
    go_wp2_with fail; go_at_call 38; refine (kR _ hRh.out).mono ?_; rintro e w1 ⟨rfl, hb1⟩; have hs1 := hb1.size; (try simp only [World.size_alloc, World.size_drew, World.size_setCell] at hs1)
    go_wp2_with fail
    refine bodyPost_ret (v := .tuple #[.slice none 0 0, .int .i64 2]) (by simp [results, Tryz.results11, go_sem, *, ↓IntWalk.iteOmega]) rfl ?_
    exact ⟨none, 0, 0, rfl, Rd.nil_, hb1⟩
  | true =>
    have kR := fun w1 h => ref05_RightV (A := PA) (n := n) (c := c) hr w1 h hn
    obtain ⟨h1, h2⟩ := fp_ok hr
    rw [h1, h2]
    have hrh := Lib.hid hr
    clear hr h1 h2 hR
    go_enter Tryz.func11, Tryz.ntmps11
    go_wp2_with fail; go_at_call 38; refine (kR _ hRh.out).mono ?_; rintro e w1 ⟨rfl, hb1⟩; have hs1 := hb1.size; (try simp only [World.size_alloc, World.size_drew, World.size_setCell] at hs1)
    go_wp2_with fail
    go_at_call 39
    refine (ref55_begin 1 (by omega) _).mono ?_
    rintro e w2 ⟨bw, A2, n2, c2, T2, e2, rfl, hX2, hbw, hb2⟩
    have hR2 := Lib.hid ((hRh.out.of hb1).of hb2)
    have hB2 := Lib.hid (below_thru hb1 hb2)
    replace hX2 := Lib.hid hX2
    clear hb1 hb2
    go_wp2_with fail
    go_at_call 40
    refine (ref55_cells bw A2 n2 c2 _ T2 e2 PA n c l _ hX2.out hR2.out hrh.out (offQ_old hRh.out hX2.out (by omega))).mono ?_
    rintro e w3 ⟨A3, n3, c3, T3, e3, rfl, hX3, hK3⟩
    replace hX3 := Lib.hid hX3
    have hB3 := Lib.hid (hX2.out.go hB2.out hK3 (by omega))
    clear hK3
    go_wp2_with fail
    go_at_call 41
    refine (ref55_done bw A3 n3 c3 _ T3 e3 _ hX3.out).mono ?_
    rintro e w4 ⟨A4, n4, c4, rfl, hR4, hb4⟩
    have hB4 := Lib.hid (below_thru hB3.out hb4)
    replace hR4 := Lib.hid hR4
    rw [show hdB 1 ++ lstB psC cdC l = patB l from rfl] at hR4 ⊢
    go_wp2_with fail
    refine bodyPost_ret (v := .tuple #[.slice A4 n4 c4, .int .i64 (endE (patB l))]) (by simp [results, Tryz.results11, go_sem, *, ↓IntWalk.iteOmega]) rfl ?_
    exact ⟨A4, n4, c4, rfl, hR4.out, hB4.out⟩
set_option maxHeartbeats 4000000 in
theorem ref55_TakePattern (A : Option Addr) (n c : Nat) (l : List Int) (w : World) (hR : Rd encU 1 w A n l) (hl : ByL l) (hn : n ≤ 65536) :
    Calls Tryz.prog 13 #[.slice A n c] w fun e w' => ∃ OA on oc, e = .returned (.tuple #[.slice OA on oc, .int .i64 (tpE (unB l))]) ∧ Rd encC 3 w' OA on (tpL (unB l)) ∧ on ≤ 1000000 ∧ Below w.heap.size w w' := by
  have kT := ref55_take 1 A n c l w hR hl hn (by omega)
  obtain ⟨hE, hL⟩ := tpQ_same (unB l)
  have hEm := tpE (unB l)
  have hno : tpE (unB l) ≠ 0 → tpL (unB l) = [] := fun h => by unfold tpL; rw [if_neg h]
  rw [show opnR (unB l) ((1 : Nat) : Int) = opnR (unB l) 1 from rfl] at kT
  have hq : tpQ (unB l) = clsQ (unB l) (tkC (unB l)) (opnR (unB l) 1) := rfl
  obtain ⟨P, hP⟩ : ∃ P, P = tpL (unB l) := ⟨_, rfl⟩
  rw [← hP] at hno hL ⊢
  clear hP hEm
  generalize tpE (unB l) = E at hE hL hno ⊢
  replace hE := Lib.hid hE
  replace hL := Lib.hid hL
  replace hno := Lib.hid hno
  replace hq := Lib.hid hq
  clear hR
  go_enter Tryz.func13, Tryz.ntmps13
  go_wp2_with fail
  go_at_call 46
  refine kT.mono ?_
  rintro e w1 ⟨br, bi, A1, k1, c1, rfl, hS1, hbr, hbi, hb1⟩
  have hL1 := hS1.low
  have hz1 := hb1.size
  replace hb1 := Lib.hid hb1
  clear kT
  go_wp2_with fail
  go_at_call 47
  refine (ref55_Rcells br bi A1 k1 c1 (unB l) _ _ hS1).mono ?_
  rw [← hq.out]
  rintro e w2 ⟨OA, on, oc, rfl, hO2, hon, hS2, hF2⟩
  have hR2 := Lib.hid (hO2.rd encC_len)
  have hB2 := Lib.hid (hb1.out.trans (hF2.below (B := w.heap.size) hz1 (fun q hq => by rcases hq with rfl | rfl <;> omega)))
  obtain ⟨rc, hrc⟩ : ∃ rc, rc = rightC (tpQ (unB l)).1.1 := ⟨_, rfl⟩
  have hE2 := hE.out
  rw [← hrc] at hE2
  have kR := fun w1 h => ref05_RightV (A := OA) (n := on) (c := oc) hrc.symm w1 h (by omega)
  clear hF2 hO2 hS1 hrc hE
  go_wp2_with fail
  go_at_call 38
  refine (kR _ hR2.out).mono ?_
  rintro e w3 ⟨rfl, hb3⟩
  have hS3 := hS2.of hb3
  have hB3 := Lib.hid (below_thru hB2.out hb3)
  have hR3 := Lib.hid (hR2.out.of hb3)
  have kE := ref55_Rend br bi A1 k1 c1 (unB l) _ _ rc hS3
  rw [hE2] at kE
  clear hS2 hS3 hb3 kR hE2 hR2
  go_wp2_with fail
  go_at_call 48
  refine kE.mono ?_
  rintro e w4 ⟨rfl, hb4⟩
  have hB4 := Lib.hid (below_thru hB3.out hb4)
  have hR4 := Lib.hid (hR3.out.of hb4)
  clear kE hR3 hb4
  by_cases h0 : E = 0
  · subst h0
    have hP := Lib.hid (hL.out rfl)
    go_wp2_with fail
    refine bodyPost_ret (v := .tuple #[.slice OA on oc, .int .i64 0]) (by simp [results, Tryz.results13, go_sem, *, ↓IntWalk.iteOmega]) rfl ?_
    exact ⟨OA, on, oc, rfl, by rw [← hP.out]; exact hR4.out, hon, hB4.out⟩
  · have d0 : (E != 0) = true := by simpa using h0
    have hP := Lib.hid (hno.out h0)
    clear h0
    go_wp2_with fail
    refine bodyPost_ret (v := .tuple #[.slice none 0 0, .int .i64 E]) (by simp [results, Tryz.results13, go_sem, *, ↓IntWalk.iteOmega]) rfl ?_
    exact ⟨none, 0, 0, rfl, by rw [hP.out]; exact Rd.nil_, by omega, hB4.out⟩
end Go.Proofs.YtmenokhnanghgaaGreat
