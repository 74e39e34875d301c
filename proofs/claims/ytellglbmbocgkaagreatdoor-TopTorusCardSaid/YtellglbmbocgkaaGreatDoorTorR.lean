/- A range over a function whose iterator keeps what it hands out in a box of its own (the block bg): the rounds 0 .. nn, of which the last one returns. Over any program. -/
import Derived.Test.YtellglbmbocgkaaGreatDoorMEM
import Derived.RangeFuncKeeps
import Derived.RangeFuncLeaves
import Derived.RangeFuncRecord
namespace Go.Proofs.YtellglbmbocgkaaGreatDoor
open Go Go.RowKit
set_option linter.unusedSimpArgs false
set_option linter.unusedVariables false
theorem gb_below {W0 W W' : World} {bg : Nat} (h : W0.grownBy W (some bg)) (hb : Below W.heap.size W W') : W0.grownBy W' (some bg) :=
  ⟨hb.os.trans h.os, hb.tape.trans h.tape, hb.output.trans h.output, Nat.le_trans h.size hb.size, fun k hk hne => (hb.block k (Nat.lt_of_lt_of_le hk h.size)).trans (h.block k hk hne)⟩
theorem gb_trans {W0 W W' : World} {row : Option Nat} (h : W0.grownBy W row) (h' : W.grownBy W' row) : W0.grownBy W' row :=
  ⟨h'.1.trans h.os, h'.tape.trans h.tape, h'.output.trans h.output, Nat.le_trans h.size h'.size, fun k hk hne => (h'.block k (Nat.lt_of_lt_of_le hk h.size) hne).trans (h.block k hk hne)⟩
theorem gb_of {W0 W : World} {row : Option Nat} (h : Below W0.heap.size W0 W) : W0.grownBy W row :=
  ⟨h.os, h.tape, h.output, h.size, fun k hk _ => h.block k hk⟩
variable {F : Fence} {n : Nat} {P : Program}
/-- How the body of round k of nn may be left. -/
def tPost (nn k l D : Nat) (Zb : World → Prop) (W : World) : Exit → Act → World → Prop
  | .normal, _, W' => k < nn ∧ Below W.heap.size W W'
  | .ret, _, W' => k = nn ∧ Zb W' ∧ W'.heap[l]? = W.heap[l]? ∧ W'.heap[D]? = W.heap[D]?
  | _, _, _ => False
theorem wpIn_rangeT {g : Operand} {ps : Array Tmp} {assign body : Code} {Q : Exit → Act → World → Prop} {a : Act} {w : World}
    (hro : F.round = none) (h1 : 1 ≤ n) {gf : Nat} {lb : Array Value} (hg : a.eval g = .func (.func gf) #[] lb) (hFg : F.fn gf) (eg : ∀ args w, (callFunc gf args).run P w = .ok (.enter gf args) w)
    (bg nn : Nat) (T : Nat → World → Array Value → Prop)
    (hseq : ∀ (l : Nat) (Z : World → Prop) (W0 : World), Below w.heap.size w W0 →
      (∀ k W vs, k ≤ nn → W0.grownBy W (some bg) → T k W vs → YieldAt F (n - 1 - 1) P l vs W fun e W' => (k < nn ∧ e = .returned (.bool true) ∧ Below W.heap.size W W') ∨ (k = nn ∧ e = .returned (.bool false) ∧ Z W')) →
      CallsIn F (n - 1) P gf (#[.func (.yield l) #[] #[]] ++ lb) W0 fun e W' => (∃ v, e = .returned v) ∧ Z W')
    (hbg : bg < w.heap.size) (hps : ∀ k W vs, T k W vs → vs.size = ps.size)
    (A1 : Nat → Array Value → World → Act → World → Prop) (Zb : World → Prop)
    (hassign : ∀ (l k : Nat) (vs : Array Value) (W : World) (K : Act → World → Prop), k ≤ nn → w.grownBy W (some bg) → T k W vs → (∀ a1 W1, Below W.heap.size W W1 → A1 k vs W a1 W1 → K a1 W1) →
      assign.wpIn (F.inRound l) (n - 1 - 1) P (Exit.then K (fun _ _ _ => False)) { tmps := (ps.zip vs).foldl (fun t (p, v) => t.setIfInBounds p v) a.tmps, defers := [] } W)
    (hbody : ∀ (k : Nat) (vs : Array Value) (W : World) (a1 : Act) (W1 W2 : World), k ≤ nn → w.grownBy W (some bg) → w.heap.size + 2 ≤ W.heap.size → T k W vs → Below W.heap.size W W1 → A1 k vs W a1 W1 → W1.grownBy W2 (some (w.heap.size + 1)) → (∃ r : Loop, W1.heap[w.heap.size + 1]? = some (.loop r)) → (∃ r : Loop, W2.heap[w.heap.size + 1]? = some (.loop r)) →
      body.wpIn (F.inRound (w.heap.size + 1)) (n - 1 - 1) P (tPost nn k (w.heap.size + 1) w.heap.size Zb W2) a1 W2)
    (hstop : ∀ (W3 W5 : World), Zb W3 → W3.grownBy W5 (some (w.heap.size + 1)) → W5.heap[w.heap.size]? = some (.deferred (some [])) → Code.ret.wpIn F n P Q { a with defers := { target := .collected w.heap.size, args := #[] } :: a.defers } W5) :
    (Code.rangeFunc g ps assign body).wpIn F n P Q a w := by
  refine wpIn_rangeFunc ?_
  intro fn hfn
  rw [hro]
  obtain ⟨rec, hrec⟩ : ∃ rec : LoopState → Option Code → Loop, rec = fun st pe => { state := st, pending := pe, fn, tmps := a.tmps, params := ps, assign, body, defers := w.heap.size } := ⟨_, rfl⟩
  obtain ⟨W1, hW1⟩ : ∃ W1, (w.alloc (.deferred (some []))).alloc (.loop (rec .ready none)) = W1 := ⟨_, rfl⟩
  have hs1 : W1.heap.size = w.heap.size + 2 := by rw [← hW1]; simp
  have hL1 : W1.heap[w.heap.size + 1]? = some (.loop (rec .ready none)) := by
    rw [← hW1]; have := World.alloc_heap_new (w.alloc (.deferred (some []))) (.loop (rec .ready none)); rwa [World.size_alloc] at this
  have hK1 : W1.heap[w.heap.size]? = some (.deferred (some [])) := by
    rw [← hW1]; exact (Below.heap_alloc _ _ _ (by simp)).trans (World.alloc_heap_new w _)
  have hb1 : Below w.heap.size w W1 := by
    rw [← hW1]; exact (((Below.refl _ w).alloc (Nat.le_refl _) _).alloc (by simp) _)
  refine ⟨w.heap.size + 1, [{ target := .collected w.heap.size, args := #[] }], W1, { target := .fn (.func gf) lb, args := #[.func (.yield (w.heap.size + 1)) #[] #[]] }, W1, gf,
    #[.func (.yield (w.heap.size + 1)) #[] #[]] ++ lb, W1, ?_, ?_, ?_, ?_, fun _ => h1, ?_⟩
  · rw [← hW1, hrec]; exact run_enterLoop_outer _ _ _ _ _
  · simp only [resolve, hg]
    simp [go_sem]
  · intro f' hf'; simp [Target.leads] at hf'; subst hf'; exact hFg
  · simp [invoke, go_sem, eg]
  · refine (hseq (w.heap.size + 1) (fun W' => ∃ W3 : World, Zb W3 ∧ W3.grownBy W' (some (w.heap.size + 1)) ∧ W'.heap[w.heap.size + 1]? = some (.loop (rec .done (some .ret))) ∧ W'.heap[w.heap.size]? = some (.deferred (some []))) W1 hb1 ?_).mono ?_
    · intro k W vs hk hgW hT
      have hl : W.heap[w.heap.size + 1]? = some (.loop (rec .ready none)) := (hgW.block _ (by omega) (fun e => by injection e with e; omega)).trans hL1
      have hd : W.heap[w.heap.size]? = some (.deferred (some [])) := (hgW.block _ (by omega) (fun e => by injection e with e; omega)).trans hK1
      have hsW : w.heap.size + 2 ≤ W.heap.size := by have := hgW.size; omega
      have hwW : w.grownBy W (some bg) := gb_trans (gb_of hb1) hgW
      have hy := run_yield (P := P) (args := vs) hl (by rw [hrec]; exact hps k W vs hT)
      rw [hrec] at hy
      refine ⟨fn, _, assign, body, hy, roundIn_of_wpIn hfn (hassign _ k vs W _ hk hwW hT fun a1 Wa hba hA => ?_)⟩
      have hla : Wa.heap[w.heap.size + 1]? = some (.loop (rec .ready none)) := (hba.block _ (by omega)).trans hl
      have hda : Wa.heap[w.heap.size]? = some (.deferred (some [])) := (hba.block _ (by omega)).trans hd
      have hlt : w.heap.size + 1 < Wa.heap.size := (Array.getElem?_eq_some_iff.1 hla).1
      refine ⟨_, run_beginRound hla (by rw [hrec]), ?_⟩
      have hl2 : (Wa.putObj (w.heap.size + 1) (.loop { rec .ready none with state := .busy })).heap[w.heap.size + 1]? = some (.loop { rec .ready none with state := .busy }) := World.putObj_heap_same hlt
      have hd2 : (Wa.putObj (w.heap.size + 1) (.loop { rec .ready none with state := .busy })).heap[w.heap.size]? = some (.deferred (some [])) := (World.putObj_heap_other (by omega)).trans hda
      have hg2 := grownBy_putObj' Wa (w.heap.size + 1) (.loop { rec .ready none with state := .busy })
      refine wpIn_mono (hbody k vs W a1 Wa _ hk hwW hsW hT hba hA hg2 ⟨_, hla⟩ ⟨_, hl2⟩) ?_
      rintro e a3 W3 hp
      cases e with
      | normal =>
        obtain ⟨hkn, hb3⟩ := hp
        have hl3 := (hb3.block _ (by rw [World.putObj_size]; exact hlt)).trans hl2
        have he := run_endRound (P := P) none hl3
        refine ⟨_, _, he, .inl ⟨hkn, rfl, ?_⟩⟩
        have hg3 : Wa.grownBy (W3.putObj (w.heap.size + 1) (.loop { rec .ready none with state := .ready, pending := none })) (some (w.heap.size + 1)) :=
          gb_trans (gb_trans hg2 (gb_of hb3)) (grownBy_putObj' _ _ _)
        refine ⟨hg3.1.trans hba.os, hg3.tape.trans hba.tape, hg3.output.trans hba.output, Nat.le_trans hba.size hg3.size, fun i hi => ?_⟩
        by_cases hil : i = w.heap.size + 1
        · subst hil
          rw [World.putObj_heap_same (Array.getElem?_eq_some_iff.1 hl3).1, hl]
          rw [hrec]; rfl
        · exact (hg3.block i (Nat.lt_of_lt_of_le hi hba.size) (fun e => hil (by injection e))).trans (hba.block i hi)
      | ret =>
        obtain ⟨hkn, hz, hl3, hd3⟩ := hp
        have hl3 := hl3.trans hl2
        have hd3 := hd3.trans hd2
        have he := run_endRound (P := P) (some .ret) hl3
        refine ⟨_, _, he, .inr ⟨hkn, rfl, W3, hz, grownBy_putObj' _ _ _, ?_, ?_⟩⟩
        · rw [World.putObj_heap_same (Array.getElem?_eq_some_iff.1 hl3).1, hrec]; rfl
        · exact (World.putObj_heap_other (by omega)).trans hd3
      | exit id => exact hp.elim
      | goto t => exact hp.elim
      | panic ch => exact hp.elim
      | outgrown => exact hp.elim
    · rintro e W2 ⟨⟨v, rfl⟩, W3, hz, hg3, hl, hd⟩
      refine ⟨some .ret, _, by have := run_endLoop (P := P) hl (by rw [hrec]; simp); rw [hrec] at this; exact this, ?_⟩
      exact hstop W3 _ hz (gb_trans hg3 (grownBy_putObj' _ _ _)) ((World.putObj_heap_other (by omega)).trans hd)
end Go.Proofs.YtellglbmbocgkaaGreatDoor
