/- Slices whose elements lead to memory, where the elements' blocks keep away from blocks that are still written. Over any program. -/
import Derived.Test.YtellglbmbocgkaaGreatDoorMEM
namespace Go.Proofs.YtellglbmbocgkaaGreatDoor
open Go Go.RowKit
set_option linter.unusedSimpArgs false
set_option linter.unusedVariables false
section
variable {α β : Type} {K : EK α β} {w w' : World} {bs : List β} {A : Option Addr} {n c B : Nat} {e : TypeId} {row : Option Nat} {P P' : Nat → Prop}
def OwnO (K : EK α β) (e : TypeId) (B : Nat) (P : Nat → Prop) (w : World) (A : Option Addr) (n c : Nat) (bs : List β) : Prop := ∃ xs0, Own K.enc K.k e B w A n c xs0 ∧ K.All w xs0 bs ∧ ∀ a ∈ xs0, ∀ q ∈ K.blk a, some q ≠ (Value.slice A n c).ownBlock ∧ ¬ P q ∧ B ≤ q
theorem OwnO.toX (g : OwnO K e B P w A n c bs) : OwnX K e B w A n c bs := by
  obtain ⟨xs0, h1, h2, h3⟩ := g
  exact ⟨xs0, h1, h2, fun a ha q hq => (h3 a ha q hq).1⟩
theorem OwnO.nil_ : OwnO K e B P w none 0 0 ([] : List β) := ⟨[], Own.nil_, EK.All.nil_, fun a ha => by cases ha⟩
theorem OwnO.of (g : OwnO K e B P w A n c bs) (hb : Below w.heap.size w w') : OwnO K e B P w' A n c bs := by
  obtain ⟨xs0, h1, h2, h3⟩ := g
  exact ⟨xs0, h1.of hb, h2.of hb, h3⟩
theorem OwnO.len (g : OwnO K e B P w A n c bs) : bs.length = n := g.toX.len
theorem OwnO.rd (g : OwnO K e B P w A n c bs) : RdX K w A n bs := g.toX.rd
theorem OwnO.lt (g : OwnO K e B P w A n c bs) : ∀ q, (Value.slice A n c).ownBlock = some q → B ≤ q ∧ q < w.heap.size := by
  obtain ⟨xs0, h1, _, _⟩ := g
  intro q hq
  exact h1.row.lt q hq
theorem OwnO.weak (g : OwnO K e B P w A n c bs) (h : ∀ q, q < w.heap.size → P' q → P q) : OwnO K e B P' w A n c bs := by
  obtain ⟨xs0, h1, h2, h3⟩ := g
  exact ⟨xs0, h1, h2, fun a ha q hq => ⟨(h3 a ha q hq).1, fun hp => (h3 a ha q hq).2.1 (h q (h2.lt a ha q hq) hp), (h3 a ha q hq).2.2⟩⟩
theorem OwnO.grow (g : OwnO K e B P w A n c bs) (hg : w.grownBy w' row) (hne : ∀ q, (Value.slice A n c).ownBlock = some q → row ≠ some q) (hP : ∀ q, row = some q → P q ∨ q < B) (hP' : ∀ q, q < w.heap.size → P' q → P q) : OwnO K e B P' w' A n c bs := by
  obtain ⟨xs0, h1, h2, h3⟩ := g
  refine ⟨xs0, ⟨h1.row.kept hg ?_, h1.len⟩, h2.keep hg fun a ha q hq er => ?_, fun a ha q hq => ⟨(h3 a ha q hq).1, fun hp => (h3 a ha q hq).2.1 (hP' q (h2.lt a ha q hq) hp), (h3 a ha q hq).2.2⟩⟩
  · cases ho : (Value.slice A n c).ownBlock with
    | none => exact .inl rfl
    | some q => exact .inr fun e1 => hne q ho e1.symm
  · rcases hP q er.symm with h | h
    · exact (h3 a ha q hq).2.1 h
    · have := (h3 a ha q hq).2.2; omega
theorem Own.apart {γ δ : Type} {enc : γ → List Value} {enc' : δ → List Value} {k k' : Nat} {e e' : TypeId} {B B' n n' c c' : Nat} {A A' : Option Addr} {l : List γ} {l' : List δ} (h : Own enc k e B w A n c l) (h' : Own enc' k' e' B' w A' n' c' l') (hee : e ≠ e') :
    ∀ q, (Value.slice A n c).ownBlock = some q → (Value.slice A' n' c').ownBlock ≠ some q := by
  intro q h1 h2
  rcases h.row.2 with ⟨h0, _⟩ | ⟨g, cap, cur, hv, _, hh, _⟩
  · rw [h0] at h1; cases h1
  · rcases h'.row.2 with ⟨h0, _⟩ | ⟨g', cap', cur', hv', _, hh', _⟩
    · rw [h0] at h2; cases h2
    · rw [hv] at h1; rw [hv'] at h2
      have e1 : g = q := by injection h1
      have e2 : g' = q := by injection h2
      subst e1 e2
      rw [hh] at hh'
      injection hh' with hh'
      injection hh' with _ h5
      exact hee h5
theorem OwnO.apart {γ : Type} {enc' : γ → List Value} {k' : Nat} {e' : TypeId} {B' n' c' : Nat} {A' : Option Addr} {l' : List γ} (h : OwnO K e B P w A n c bs) (h' : Own enc' k' e' B' w A' n' c' l') (hee : e ≠ e') :
    (∀ q, (Value.slice A n c).ownBlock = some q → (Value.slice A' n' c').ownBlock ≠ some q) ∧ ∀ q, (Value.slice A' n' c').ownBlock = some q → (Value.slice A n c).ownBlock ≠ some q := by
  obtain ⟨xs0, h1, _, _⟩ := h
  exact ⟨h1.apart h' hee, h'.apart h1 (fun e1 => hee e1.symm)⟩
theorem Own.over2 {γ : Type} {enc : γ → List Value} {k : Nat} {e : TypeId} {B n c : Nat} {A : Option Addr} {l : List γ} (h : Own enc k e B w A n c l) (hg : w.grownBy w' row) (hne : ∀ q, (Value.slice A n c).ownBlock = some q → row ≠ some q) : Own enc k e B w' A n c l := by
  refine ⟨h.row.kept hg ?_, h.len⟩
  cases ho : (Value.slice A n c).ownBlock with
  | none => exact .inl rfl
  | some q => exact .inr fun e1 => hne q ho e1.symm
theorem Own.capO {γ : Type} {enc : γ → List Value} {k : Nat} {e : TypeId} {B n c : Nat} {A : Option Addr} {l : List γ} (h : Own enc k e B w A n c l) : n ≤ c := by
  rcases h.row.2 with ⟨h0, h1⟩ | ⟨g, cap, cur, hv, _, _, h1, _⟩
  · injection h0 with _ h2 h3; omega
  · injection hv with _ h2 h3; omega
theorem OwnO.cap (g : OwnO K e B P w A n c bs) : n ≤ c := by
  obtain ⟨xs0, h1, _, _⟩ := g
  rcases h1.row.2 with ⟨h0, h⟩ | ⟨g, cap, cur, hv, _, _, h, _⟩
  · injection h0 with _ h2 h3; omega
  · injection hv with _ h2 h3; omega
end
section
variable {α β : Type} {K : EK α β} {P : Program} {w : World} {ops : Array Oper} {rest : List Oper} {o : Oper} {a : Act} {Q : Exit → Act → World → Prop}
theorem wpList_append_o {Pr : Nat → Prop} (hgd : o.guard = none) (s x : Operand) (t : TypeId)
    (ho : o.op = .call { callee := .builtin .append, args := #[s, x], argTypes := #[t, t] })
    (e : TypeId) (z : Value) (bytes : Nat) (ht : P.underlying t = some (.slice e)) (hi : (P.info? e).map (fun i => (i.zero, i.size, i.bytes)) = some (some z, K.k, bytes)) (hzs : z.cells.size = K.k)
    (B : Nat) (A : Option Addr) (n c : Nat) (bs : List β) (hs : a.eval s = .slice A n c) (hown : OwnO K e B Pr w A n c bs)
    (y : α) (b : β) (hrel : K.rel w y b) (hoff : ∀ q ∈ K.blk y, some q ≠ (Value.slice A n c).ownBlock ∧ ¬ Pr q ∧ B ≤ q) (ad : Addr) (m : Nat) (hx : a.eval x = .slice (some ad) 1 m) (hnews : ∀ j u, (K.enc y)[j]? = some u → w.cell? (ad.add j) = some u)
    (hbytes : (n + 1) * bytes ≤ 140737488355328) (hn : n + 1 ≤ 4611686018427387904) (hbase : B ≤ w.heap.size)
    (h : ∀ A' c' w', OwnO K e B Pr w' A' (n + 1) c' (bs ++ [b]) → w.grownBy w' (Value.slice A n c).ownBlock → Below B w w' → ((Value.slice A' (n + 1) c').ownBlock = (Value.slice A n c).ownBlock ∨ (Value.slice A' (n + 1) c').ownBlock = some w.heap.size) → wpList P ops Q rest (a.put o.dst (.slice A' (n + 1) c')) w') : wpList P ops Q (o :: rest) a w := by
  obtain ⟨xs0, h1, h2, h3⟩ := hown
  refine wpList_append_elL hgd s x t ho K.enc K.k e z bytes ht hi hzs K.pos K.len K.one B A n c xs0 hs h1 y ad m hx hnews hbytes hn hbase ?_
  intro A' c' w' hv hg hgB hloc
  refine h A' c' w' ⟨xs0 ++ [y], hv, (h2.keep hg fun a' ha' q hq => (h3 a' ha' q hq).1).snoc (K.keep hrel hg fun q hq => (hoff q hq).1), ?_⟩ hg hgB hloc
  intro a' ha' q hq
  have key : some q ≠ (Value.slice A n c).ownBlock ∧ ¬ Pr q ∧ B ≤ q ∧ q < w.heap.size := by
    rcases List.mem_append.1 ha' with hm | hm
    · have h4 := h3 a' hm q hq
      exact ⟨h4.1, h4.2.1, h4.2.2, h2.lt a' hm q hq⟩
    · obtain rfl : a' = y := by simpa using hm
      have h4 := hoff q hq
      exact ⟨h4.1, h4.2.1, h4.2.2, K.lt hrel q hq⟩
  refine ⟨?_, key.2.1, key.2.2.1⟩
  rcases hloc with hl | hl
  · rw [hl]; exact key.1
  · rw [hl]; intro e1; injection e1 with e1; have := key.2.2.2; omega
end
theorem Own.blk {γ : Type} {enc : γ → List Value} {k : Nat} {e : TypeId} {B n c : Nat} {w : World} {A : Option Addr} {l : List γ} (h : Own enc k e B w A n c l) : ∀ q ∈ blkH (A, n, c), (Value.slice A n c).ownBlock = some q ∧ B ≤ q ∧ q < w.heap.size := by
  intro q hq
  unfold blkH at hq
  split at hq
  · cases hq
  · rcases h.row.2 with ⟨h0, _⟩ | ⟨g, cap, cur, hv, _, _, _⟩
    · injection h0 with h1; subst h1; simp at hq
    · injection hv with h1 h2 h3
      subst h1
      have hq' : q = g := by simpa using hq
      subst hq'
      have h9 : (Value.slice (some (⟨q, 0, none⟩ : Addr)) n c).ownBlock = some q := rfl
      exact ⟨h9, h.row.lt q h9⟩
structure Fr2 (R : Nat → Prop) (w w' : World) : Prop where
  os : w'.os = w.os
  tape : w'.tape = w.tape
  output : w'.output = w.output
  size : w.heap.size ≤ w'.heap.size
  block : ∀ q, q < w.heap.size → ¬ R q → w'.heap[q]? = w.heap[q]?
section
variable {w w' w'' : World} {R R' : Nat → Prop} {row : Option Nat} {A : Option Addr} {n c B : Nat} {e : TypeId}
theorem Fr2.here (w : World) (R : Nat → Prop) : Fr2 R w w := ⟨rfl, rfl, rfl, Nat.le_refl _, fun _ _ _ => rfl⟩
theorem Fr2.grown (h : Fr2 R w w') (hg : w'.grownBy w'' row) (hr : ∀ q, row = some q → R q ∨ w.heap.size ≤ q) : Fr2 R w w'' :=
  ⟨hg.os.trans h.os, hg.tape.trans h.tape, hg.output.trans h.output, Nat.le_trans h.size hg.size, fun q hq hn => (hg.block q (Nat.lt_of_lt_of_le hq h.size) (fun e => by rcases hr q e.symm with h1 | h1; exact hn h1; omega)).trans (h.block q hq hn)⟩
theorem Fr2.then (h : Fr2 R w w') (h2 : Fr2 R' w' w'') (hr : ∀ q, q < w.heap.size → R' q → R q) : Fr2 R w w'' :=
  ⟨h2.os.trans h.os, h2.tape.trans h.tape, h2.output.trans h.output, Nat.le_trans h.size h2.size, fun q hq hn => (h2.block q (Nat.lt_of_lt_of_le hq h.size) (fun e => hn (hr q hq e))).trans (h.block q hq hn)⟩
theorem Fr2.of (h : Fr2 R w w') (hb : Below w'.heap.size w' w'') : Fr2 R w w'' := h.grown (grown_of_below hb) (fun q e => by cases e)
theorem Fr2.below (h : Fr2 R w w') (hB : B ≤ w.heap.size) (hr : ∀ q, R q → B ≤ q) : Below B w w' :=
  ⟨h.os, h.tape, h.output, h.size, fun q hq => h.block q (by omega) (fun e => by have := hr q e; omega)⟩
theorem Own.fr2 {γ : Type} {enc : γ → List Value} {k : Nat} {l : List γ} (h : Own enc k e B w A n c l) (hf : Fr2 R w w') (hr : ∀ q, (Value.slice A n c).ownBlock = some q → ¬ R q) : Own enc k e B w' A n c l := by
  refine ⟨⟨h.row.1, ?_⟩, h.len⟩
  rcases h.row.2 with h0 | ⟨g, cap, cur, hv, hg, hh, r⟩
  · exact .inl h0
  · exact .inr ⟨g, cap, cur, hv, hg, (hf.block g (Array.getElem?_eq_some_iff.1 hh).1 (hr g (by rw [hv]; rfl))).trans hh, r⟩
end
end Go.Proofs.YtellglbmbocgkaaGreatDoor
