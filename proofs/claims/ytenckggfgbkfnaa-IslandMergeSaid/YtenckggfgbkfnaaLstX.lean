/- Slices whose elements lead to memory (patterns, frames): a list of things, each of which reads as a datum; such slices of the call's own, appended to. Over any program. -/
import Derived.Test.YtenckggfgbkfnaaMEM
import Derived.Maps.AppendAt
namespace Go.Proofs.Ytenckggfgbkfnaa
open Go Go.RowKit
set_option linter.unusedSimpArgs false
set_option linter.unusedVariables false
/-- A kind of elements: an element's cells; what it reads as in a world; the blocks in which that lies. -/
structure EK (α β : Type) where
  enc : α → List Value
  k : Nat
  len : ∀ a, (enc a).length = k
  one : ∀ a, ∀ u ∈ enc a, u.oneCell' = true
  pos : 0 < k
  rel : World → α → β → Prop
  blk : α → List Nat
  keep : ∀ {w w' : World} {a : α} {b : β} {row : Option Nat}, rel w a b → w.grownBy w' row → (∀ q ∈ blk a, some q ≠ row) → rel w' a b
  lt : ∀ {w : World} {a : α} {b : β}, rel w a b → ∀ q ∈ blk a, q < w.heap.size
section
variable {α β : Type} (K : EK α β)
/-- Each element reads as its datum. -/
def EK.All (w : World) (xs0 : List α) (bs : List β) : Prop := xs0.length = bs.length ∧ ∀ (i : Nat) a b, xs0[i]? = some a → bs[i]? = some b → K.rel w a b
/-- The slice '.slice A n c' reads as the list bs. -/
def RdX (w : World) (A : Option Addr) (n : Nat) (bs : List β) : Prop := ∃ xs0, Rd K.enc K.k w A n xs0 ∧ K.All w xs0 bs
/-- The same slice in a row of the call's own, which no element leads to. -/
def OwnX (e : TypeId) (B : Nat) (w : World) (A : Option Addr) (n c : Nat) (bs : List β) : Prop := ∃ xs0, Own K.enc K.k e B w A n c xs0 ∧ K.All w xs0 bs ∧ ∀ a ∈ xs0, ∀ q ∈ K.blk a, some q ≠ (Value.slice A n c).ownBlock
variable {K} {w w' : World} {xs0 : List α} {bs : List β} {a : α} {b : β} {A : Option Addr} {n c B : Nat} {e : TypeId} {row : Option Nat}
theorem grown_of_below (h : Below w.heap.size w w') : w.grownBy w' none := ⟨h.os, h.tape, h.output, h.size, fun i hi _ => h.block i hi⟩
theorem EK.All.keep (g : K.All w xs0 bs) (hg : w.grownBy w' row) (hr : ∀ a ∈ xs0, ∀ q ∈ K.blk a, some q ≠ row) : K.All w' xs0 bs := ⟨g.1, fun i a b h1 h2 => K.keep (g.2 i a b h1 h2) hg (hr a (List.mem_of_getElem? h1))⟩
theorem EK.All.of (g : K.All w xs0 bs) (hb : Below w.heap.size w w') : K.All w' xs0 bs := g.keep (grown_of_below hb) (fun _ _ _ _ h => by cases h)
theorem EK.All.nil_ : K.All w [] [] := ⟨rfl, fun i a b h1 _ => by simp at h1⟩
theorem EK.All.snoc (g : K.All w xs0 bs) (k : K.rel w a b) : K.All w (xs0 ++ [a]) (bs ++ [b]) := by
  refine ⟨by simp [g.1], fun i h' l' h1 h2 => ?_⟩
  rcases Nat.lt_or_ge i xs0.length with hi | hi
  · rw [List.getElem?_append_left hi] at h1
    rw [List.getElem?_append_left (by rw [← g.1]; exact hi)] at h2
    exact g.2 i h' l' h1 h2
  · rw [List.getElem?_append_right hi] at h1
    rw [List.getElem?_append_right (by rw [← g.1]; exact hi), ← g.1] at h2
    have e : i - xs0.length = 0 := by
      have := (List.getElem?_eq_some_iff.1 h1).1
      simp at this; omega
    rw [e] at h1 h2
    simp at h1 h2
    subst h1 h2
    exact k
theorem EK.All.lt (g : K.All w xs0 bs) : ∀ a ∈ xs0, ∀ q ∈ K.blk a, q < w.heap.size := by
  intro a ha q hq
  obtain ⟨i, hi, rfl⟩ := List.getElem_of_mem ha
  have hb : i < bs.length := by rw [← g.1]; exact hi
  exact K.lt (g.2 i xs0[i] bs[i] (List.getElem?_eq_getElem hi) (List.getElem?_eq_getElem hb)) q hq
theorem RdX.of (g : RdX K w A n bs) (hb : Below w.heap.size w w') : RdX K w' A n bs := by
  obtain ⟨xs0, h1, h2⟩ := g
  exact ⟨xs0, h1.of hb, h2.of hb⟩
theorem RdX.nil_ : RdX K w A 0 ([] : List β) := ⟨[], Rd.nil_, EK.All.nil_⟩
theorem RdX.len (g : RdX K w A n bs) : bs.length = n := by
  obtain ⟨xs0, h1, h2⟩ := g
  rw [← h2.1, h1.len]
theorem RdX.elem (g : RdX K w A n bs) {i : Nat} (hi : i < n) : ∃ a b bo o, bs[i]? = some b ∧ A = some ⟨bo, o, none⟩ ∧ bo < w.heap.size ∧ (∀ (j : Nat) (u : Value), (K.enc a)[j]? = some u → w.cell? ⟨bo, o + i * K.k + j, none⟩ = some u) ∧ K.rel w a b := by
  obtain ⟨xs0, h1, h2⟩ := g
  obtain ⟨x, b, o, h3, h4, h5, h6⟩ := h1.elem hi
  have hl : i < bs.length := by rw [← h2.1, h1.len]; exact hi
  exact ⟨x, bs[i], b, o, List.getElem?_eq_getElem hl, h4, h5, h6, h2.2 i x bs[i] h3 (List.getElem?_eq_getElem hl)⟩
theorem OwnX.nil_ : OwnX K e B w none 0 0 ([] : List β) := ⟨[], Own.nil_, EK.All.nil_, fun a ha => by cases ha⟩
theorem OwnX.of (g : OwnX K e B w A n c bs) (hb : Below w.heap.size w w') : OwnX K e B w' A n c bs := by
  obtain ⟨xs0, h1, h2, h3⟩ := g
  exact ⟨xs0, h1.of hb, h2.of hb, h3⟩
theorem OwnX.alloc (g : OwnX K e B w A n c bs) (o : Obj) : OwnX K e B (w.alloc o) A n c bs := g.of ((Below.refl _ _).alloc (Nat.le_refl _) o)
theorem OwnX.more {B' : Nat} (g : OwnX K e B w A n c bs) (hB : B' ≤ B) : OwnX K e B' w A n c bs := by
  obtain ⟨xs0, h1, h2, h3⟩ := g
  exact ⟨xs0, h1.more hB, h2, h3⟩
theorem OwnX.rd (g : OwnX K e B w A n c bs) : RdX K w A n bs := by
  obtain ⟨xs0, h1, h2, h3⟩ := g
  exact ⟨xs0, h1.rd K.len, h2⟩
theorem OwnX.len (g : OwnX K e B w A n c bs) : bs.length = n := g.rd.len
theorem OwnX.lt (g : OwnX K e B w A n c bs) : ∀ q, (Value.slice A n c).ownBlock = some q → q < w.heap.size := by
  obtain ⟨xs0, h1, _, _⟩ := g
  intro q hq
  exact (h1.row.lt q hq).2
end
section
variable {α β : Type} {K : EK α β} {P : Program} {w : World} {ops : Array Oper} {rest : List Oper} {o : Oper} {a : Act} {Q : Exit → Act → World → Prop}
/-- append of ONE element onto such a row. The element's cells lie in a block of their own; the element leads to blocks other than the row's. -/
theorem wpList_append_x (hgd : o.guard = none) (s x : Operand) (t : TypeId)
    (ho : o.op = .call { callee := .builtin .append, args := #[s, x], argTypes := #[t, t] })
    (e : TypeId) (z : Value) (bytes : Nat) (ht : P.underlying t = some (.slice e)) (hi : (P.info? e).map (fun i => (i.zero, i.size, i.bytes)) = some (some z, K.k, bytes)) (hzs : z.cells.size = K.k)
    (B : Nat) (A : Option Addr) (n c : Nat) (bs : List β) (hs : a.eval s = .slice A n c) (hown : OwnX K e B w A n c bs)
    (y : α) (b : β) (hrel : K.rel w y b) (hoff : ∀ q ∈ K.blk y, some q ≠ (Value.slice A n c).ownBlock) (ad : Addr) (m : Nat) (hx : a.eval x = .slice (some ad) 1 m) (hnews : ∀ j u, (K.enc y)[j]? = some u → w.cell? (ad.add j) = some u)
    (hbytes : (n + 1) * bytes ≤ 140737488355328) (hn : n + 1 ≤ 4611686018427387904) (hbase : B ≤ w.heap.size)
    (h : ∀ A' c' w', OwnX K e B w' A' (n + 1) c' (bs ++ [b]) → w.grownBy w' (Value.slice A n c).ownBlock → Below B w w' → wpList P ops Q rest (a.put o.dst (.slice A' (n + 1) c')) w') : wpList P ops Q (o :: rest) a w := by
  obtain ⟨xs0, h1, h2, h3⟩ := hown
  obtain ⟨i, hi0, hz0, hz1, hz2⟩ := info_parts hi
  refine wpList_append_own_at w hgd s x t ho B e i z K.k bytes ht hi0 hz0 hz1 hz2 hzs K.pos (.slice A n c) n (xs0.flatMap K.enc) hs h1.row ad 1 m (K.enc y) hx (by rw [K.len]; omega) hnews (K.one y)
    (by unfold maxLen; omega) hbytes hbase ?_
  intro v' w' hv hg _ hloc
  have hgB : Below B w w' := (Below.refl _ _).grown hg hbase h1.above
  rcases hv.2 with ⟨_, h0⟩ | ⟨g, cap, cur, rfl, hr⟩
  · omega
  · refine h _ _ w' ⟨xs0 ++ [y], ⟨by simpa using ⟨hv.1, Or.inr ⟨g, cap, cur, rfl, hr⟩⟩, by simp [h1.len]⟩, (h2.keep hg h3).snoc (K.keep hrel hg hoff), ?_⟩ hg hgB
    intro a' ha' q hq
    rcases List.mem_append.1 ha' with hm | hm
    · rcases hloc with hl | hl
      · rw [hl]; exact h3 a' hm q hq
      · rw [hl]; intro e1; injection e1 with e1; have := h2.lt a' hm q hq; omega
    · obtain rfl : a' = y := by simpa using hm
      rcases hloc with hl | hl
      · rw [hl]; exact hoff q hq
      · rw [hl]; intro e1; injection e1 with e1; have := K.lt hrel q hq; omega
end
/-- The head of a slice as one cell. -/
def encH (h : Option Addr × Nat × Nat) : List Value := [.slice h.1 h.2.1 h.2.2]
theorem encH_len (x : Option Addr × Nat × Nat) : (encH x).length = 1 := rfl
theorem encH_one : ∀ y, ∀ u ∈ encH y, u.oneCell' = true := by intro y u hu; simp [encH] at hu; subst hu; rfl
/-- The block in which a slice's elements lie. -/
def blkH (h : Option Addr × Nat × Nat) : List Nat := if h.2.1 = 0 then [] else match h.1 with
  | some a => [a.block]
  | none => []
theorem Rd.grown {α : Type} {enc : α → List Value} {k : Nat} {w w' : World} {h : Option Addr × Nat × Nat} {l : List α} {row : Option Nat} (g : Rd enc k w h.1 h.2.1 l) (hg : w.grownBy w' row) (hr : ∀ q ∈ blkH h, some q ≠ row) : Rd enc k w' h.1 h.2.1 l :=
  ⟨g.1, fun hn => by
    obtain ⟨b, o, e, hb, hc⟩ := g.2 hn
    have hq : some b ≠ row := hr b (by unfold blkH; rw [if_neg (by omega), e]; simp)
    refine ⟨b, o, e, Nat.lt_of_lt_of_le hb hg.size, fun i x hi j u hu => ?_⟩
    have hbl := hg.block b hb hq
    have h0 := hc i x hi j u hu
    rw [← h0]
    exact World.cell?_of_block hbl⟩
theorem Rd.blk_lt {α : Type} {enc : α → List Value} {k : Nat} {w : World} {h : Option Addr × Nat × Nat} {l : List α} (g : Rd enc k w h.1 h.2.1 l) : ∀ q ∈ blkH h, q < w.heap.size := by
  intro q hq
  unfold blkH at hq
  split at hq
  · cases hq
  · obtain ⟨b, o, e, hb, _⟩ := g.2 (by omega)
    rw [e] at hq
    simp at hq
    omega
/-- Patterns as elements: each a slice of cells, no longer than its room. -/
def ekC : EK (Option Addr × Nat × Nat) (List (Int × Int × Int)) where
  enc := encH
  k := 1
  len := encH_len
  one := encH_one
  pos := by omega
  rel w h l := Rd encC 3 w h.1 h.2.1 l ∧ h.2.1 ≤ h.2.2
  blk := blkH
  keep h hg hr := ⟨h.1.grown hg hr, h.2⟩
  lt h := h.1.blk_lt
/-- The element at i of a list of patterns. -/
theorem RdX.pat {w : World} {A : Option Addr} {n : Nat} {ls : List (List (Int × Int × Int))} (g : RdX ekC w A n ls) {i : Nat} (hi : i < n) : ∃ E m c l b o, Hid (ls[i]? = some l) ∧ A = some ⟨b, o, none⟩ ∧ b < w.heap.size ∧ w.cell? ⟨b, o + i, none⟩ = some (.slice E m c) ∧ Rd encC 3 w E m l ∧ m ≤ c := by
  obtain ⟨x, l, b, o, h1, h2, h3, h4, h5⟩ := g.elem hi
  exact ⟨x.1, x.2.1, x.2.2, l, b, o, h1, h2, h3, by simpa [ekC, encH] using h4 0 _ rfl, h5.1, h5.2⟩
/-- A slice of the call's own from base B on lies in no block of a slice from an elder base. -/
theorem Own.off {α : Type} {enc : α → List Value} {k : Nat} {e : TypeId} {B n c : Nat} {w : World} {A : Option Addr} {l : List α} (h : Own enc k e B w A n c l) {b : Option Nat} (hb : ∀ q, b = some q → q < B) : ∀ q ∈ blkH (A, n, c), some q ≠ b := by
  intro q hq e1
  unfold blkH at hq
  split at hq
  · cases hq
  · cases A with
    | none => simp at hq
    | some a =>
      simp at hq
      rcases h.row.2 with ⟨h0, _⟩ | ⟨g, cap, cur, hv, hg, _⟩
      · cases h0
      · injection hv with hA _ _
        injection hA with hA
        subst hA
        simp only at hq
        have := hb q e1.symm
        omega
end Go.Proofs.Ytenckggfgbkfnaa
