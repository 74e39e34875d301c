/- snapshot's writer: cells, changes; the form of a pattern. -/
import Derived.Test.YtmenokhnanghgaaGreatSNC
import Derived.Test.YtmenokhnanghgaaGreatCEL
namespace Go.Proofs.YtmenokhnanghgaaGreat
open Go Go.RowKit
set_option linter.unusedSimpArgs false
set_option linter.unusedVariables false
set_option maxRecDepth 100000
set_option linter.unusedSimpArgs false
set_option linter.unusedVariables false
/-- write, of parts in a new block. -/
theorem snp_wr1 {W : World} {bw : Nat} {A : Option Addr} {n c : Nat} {X T : List Bool} {er : Int} (hX : WrX W bw A n c X T er) (l : List PartV) (m : Nat) (hl : l.length = m) (hm : m ≤ 1000) (hok : ∀ p ∈ l, p.ok) (cs : List Value) (hcs : cs = l.flatMap encPt) :
    Calls Tryz.prog 51 #[.pointer (some ⟨bw, 0, none⟩), .slice (some ⟨W.heap.size, 0, none⟩) m m] (W.alloc (.cells cs.toArray 144)) fun e w' => ∃ A' n' c' T' e', e = .returned (.tuple #[]) ∧ WrX w' bw A' n' c' (X ++ ptsB l) T' e' ∧ WrK W bw A n c w' A' n' c' := by
  have hal : Below W.heap.size W (W.alloc (.cells cs.toArray 144)) := (Below.refl _ _).alloc (Nat.le_refl _) _
  refine (snp_write bw A n c X T er _ m m l _ (hX.of hal) (rd_parts W 144 l m hl (by omega) cs hcs) hm hok (fun b o e => ?_)).mono ?_
  · injection e with e; injection e with e _; subst e
    exact hX.new (Nat.le_refl _)
  · rintro e w' ⟨A', n', c', T', e', h1, h2, h3⟩
    exact ⟨A', n', c', T', e', h1, h2, WrK.after hal h3⟩
/-- The same behind another new block. -/
theorem snp_wr2 {W : World} {bw : Nat} {A : Option Addr} {n c : Nat} {X T : List Bool} {er : Int} (hX : WrX W bw A n c X T er) (o : Obj) (l : List PartV) (m : Nat) (hl : l.length = m) (hm : m ≤ 1000) (hok : ∀ p ∈ l, p.ok) (cs : List Value) (hcs : cs = l.flatMap encPt) :
    Calls Tryz.prog 51 #[.pointer (some ⟨bw, 0, none⟩), .slice (some ⟨W.heap.size + 1, 0, none⟩) m m] ((W.alloc o).alloc (.cells cs.toArray 144)) fun e w' => ∃ A' n' c' T' e', e = .returned (.tuple #[]) ∧ WrX w' bw A' n' c' (X ++ ptsB l) T' e' ∧ WrK (W.alloc o) bw A n c w' A' n' c' := by
  have hal : Below W.heap.size W (W.alloc o) := (Below.refl _ _).alloc (Nat.le_refl _) _
  have h := snp_wr1 (hX.of hal) l m hl hm hok cs hcs
  rw [World.size_alloc] at h
  exact h
section
variable (bw : Nat) (WA : Option Addr) (wn wc : Nat) (X T : List Bool) (er : Int) (PA : Option Addr) (n c : Nat) (w : World)
set_option maxHeartbeats 4000000 in
theorem snp_wcells (l : List Cel) (hX : WrX w bw WA wn wc X T er) (hR : Rd encC 3 w PA n l) (hr : rightC l = true) (hPA : 0 < n → ∀ b o, PA = some ⟨b, o, none⟩ → b ≠ bw ∧ (Value.slice WA wn wc).ownBlock ≠ some b ∧ b < w.heap.size) :
    Calls Tryz.prog 36 #[.pointer (some ⟨bw, 0, none⟩), .slice PA n c] w fun e w' => ∃ A' n' c' T' e', e = .returned (.tuple #[]) ∧ WrX w' bw A' n' c' (X ++ lstB psC cdC l) T' e' ∧ WrK w bw WA wn wc w' A' n' c' := by
  have hal : Below w.heap.size w (w.alloc (.cells #[.slice PA n c] 23)) := (Below.refl _ _).alloc (Nat.le_refl _) _
  have hn := hX.new (Nat.le_refl w.heap.size)
  have kL := snp_listC bw WA wn wc X T er w.heap.size PA n c l _ (hX.of hal) (hR.of hal) hr (BxW.new w [.slice PA n c] 23) hn.1 hn.2 (fun h0 b o e => ⟨(hPA h0 b o e).1, (hPA h0 b o e).2.1, by have := (hPA h0 b o e).2.2; simp; omega⟩)
  clear hX hR hr hPA hn
  go_enter Tryz.func36, Tryz.ntmps36
  go_wp2_with fail
  go_at_call 81
  refine kL.mono ?_
  rintro e w1 ⟨A1, n1, c1, T1, e1, rfl, hX1, hK1⟩
  go_wp2_with fail
  go_end0
  exact ⟨A1, n1, c1, T1, e1, rfl, hX1, WrK.after hal hK1⟩
set_option maxHeartbeats 4000000 in
theorem snp_wchanges (l : List Chg) (hX : WrX w bw WA wn wc X T er) (hR : Rd encG 4 w PA n l) (hr : rightG l = true) (hPA : 0 < n → ∀ b o, PA = some ⟨b, o, none⟩ → b ≠ bw ∧ (Value.slice WA wn wc).ownBlock ≠ some b ∧ b < w.heap.size) :
    Calls Tryz.prog 68 #[.pointer (some ⟨bw, 0, none⟩), .slice PA n c] w fun e w' => ∃ A' n' c' T' e', e = .returned (.tuple #[]) ∧ WrX w' bw A' n' c' (X ++ lstB psG cdG l) T' e' ∧ WrK w bw WA wn wc w' A' n' c' := by
  have hal : Below w.heap.size w (w.alloc (.cells #[.slice PA n c] 70)) := (Below.refl _ _).alloc (Nat.le_refl _) _
  have hn := hX.new (Nat.le_refl w.heap.size)
  have kL := snp_listG bw WA wn wc X T er w.heap.size PA n c l _ (hX.of hal) (hR.of hal) hr (BxW.new w [.slice PA n c] 70) hn.1 hn.2 (fun h0 b o e => ⟨(hPA h0 b o e).1, (hPA h0 b o e).2.1, by have := (hPA h0 b o e).2.2; simp; omega⟩)
  clear hX hR hr hPA hn
  go_enter Tryz.func68, Tryz.ntmps68
  go_wp2_with fail
  go_at_call 81
  refine kL.mono ?_
  rintro e w1 ⟨A1, n1, c1, T1, e1, rfl, hX1, hK1⟩
  go_wp2_with fail
  go_end0
  exact ⟨A1, n1, c1, T1, e1, rfl, hX1, WrK.after hal hK1⟩
end
/-- What lies in a slice that an elder world held lies off a new writer. -/
theorem off_old {α : Type} {enc : α → List Value} {k : Nat} {w w1 : World} {bw : Nat} {WA : Option Addr} {wn wc : Nat} {X T : List Bool} {er : Int} {PA : Option Addr} {n : Nat} {l : List α} (hR : Rd enc k w PA n l) (hX : WrX w1 bw WA wn wc X T er) (hw : w.heap.size ≤ bw) : 0 < n → ∀ b o, PA = some ⟨b, o, none⟩ → b ≠ bw ∧ (Value.slice WA wn wc).ownBlock ≠ some b ∧ b < w1.heap.size := by
  intro hn b o e
  obtain ⟨b', o', e', hb, _⟩ := hR.2 hn
  rw [e] at e'
  injection e' with e'
  injection e' with e' _
  subst e'
  have := hX.s.box.1
  exact ⟨by omega, fun k => by have := (hX.row _ k).1; omega, by omega⟩
/-- The form of a pattern. -/
def fpE (l : List Cel) : Int := if rightC l = true then endE (patB l) else 2
def fpL (l : List Cel) : List Int := if rightC l = true then endL (patB l) else []
theorem fp_bad {l : List Cel} (h : rightC l = false) : fpE l = 2 ∧ fpL l = [] := by unfold fpE fpL; rw [h]; exact ⟨rfl, rfl⟩
theorem fp_ok {l : List Cel} (h : rightC l = true) : fpE l = endE (patB l) ∧ fpL l = endL (patB l) := by unfold fpE fpL; rw [h]; exact ⟨rfl, rfl⟩
set_option maxHeartbeats 4000000 in
theorem snp_Pattern (PA : Option Addr) (n c : Nat) (l : List Cel) (w : World) (hR : Rd encC 3 w PA n l) (hn : n ≤ 9223372036854775807) :
    Calls Tryz.prog 10 #[.slice PA n c] w fun e w' => ∃ A' n' c', e = .returned (.tuple #[.slice A' n' c', .int .i64 (fpE l)]) ∧ Rd encU 1 w' A' n' (fpL l) ∧ Below w.heap.size w w' := by
  have kR := fun w1 h => pat_Right PA n c l w1 h hn
  have hRh := Lib.hid hR
  cases hr : rightC l with
  | false =>
    obtain ⟨h1, h2⟩ := fp_bad hr
    rw [hr] at kR
    rw [h1, h2]
    clear hr h1 h2 hR
    go_enter Tryz.func10, Tryz.ntmps10
    go_wp2_with fail; go_at_call 34; refine (kR _ hRh.out).mono ?_; rintro e w1 ⟨rfl, hb1⟩; have hs1 := hb1.size; (try simp only [World.size_alloc, World.size_drew, World.size_setCell] at hs1)
    go_wp2_with fail
    refine bodyPost_ret (v := .tuple #[.slice none 0 0, .int .i64 2]) (by simp [results, Tryz.results10, go_sem, *, ↓IntWalk.iteOmega]) rfl ?_
    exact ⟨none, 0, 0, rfl, Rd.nil_, hb1⟩
  | true =>
    obtain ⟨h1, h2⟩ := fp_ok hr
    rw [hr] at kR
    rw [h1, h2]
    have hrh := Lib.hid hr
    clear hr h1 h2 hR
    go_enter Tryz.func10, Tryz.ntmps10
    go_wp2_with fail; go_at_call 34; refine (kR _ hRh.out).mono ?_; rintro e w1 ⟨rfl, hb1⟩; have hs1 := hb1.size; (try simp only [World.size_alloc, World.size_drew, World.size_setCell] at hs1)
    go_wp2_with fail
    go_at_call 35
    refine (snp_start 1 (by omega) _).mono ?_
    rintro e w2 ⟨bw, A2, n2, c2, T2, e2, rfl, hX2, hbw, hb2⟩
    have hR2 := Lib.hid ((hRh.out.of hb1).of hb2)
    have hB2 := Lib.hid (below_thru hb1 hb2)
    replace hX2 := Lib.hid hX2
    clear hb1 hb2
    go_wp2_with fail
    go_at_call 36
    refine (snp_wcells bw A2 n2 c2 _ T2 e2 PA n c _ l hX2.out hR2.out hrh.out (off_old hRh.out hX2.out (by omega))).mono ?_
    rintro e w3 ⟨A3, n3, c3, T3, e3, rfl, hX3, hK3⟩
    replace hX3 := Lib.hid hX3
    have hB3 := Lib.hid (hB2.out.trans (hK3.below hX2.out.s (by omega)))
    clear hK3
    go_wp2_with fail
    go_at_call 37
    refine (snp_end bw A3 n3 c3 _ T3 e3 _ hX3.out).mono ?_
    rintro e w4 ⟨A4, n4, c4, rfl, hR4, hb4⟩
    have hB4 := Lib.hid (below_thru hB3.out hb4)
    replace hR4 := Lib.hid hR4
    rw [show hdB 1 ++ lstB psC cdC l = patB l from rfl] at hR4 ⊢
    go_wp2_with fail
    refine bodyPost_ret (v := .tuple #[.slice A4 n4 c4, .int .i64 (endE (patB l))]) (by simp [results, Tryz.results10, go_sem, *, ↓IntWalk.iteOmega]) rfl ?_
    exact ⟨A4, n4, c4, rfl, hR4.out, hB4.out⟩
end Go.Proofs.YtmenokhnanghgaaGreat
