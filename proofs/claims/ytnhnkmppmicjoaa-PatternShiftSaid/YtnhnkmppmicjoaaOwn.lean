/- A slice of the call's own that grows element by element. -/
import Derived.Test.YtnhnkmppmicjoaaRd
namespace Go.Proofs.Ytnhnkmppmicjoaa
open Go Go.RowKit
set_option linter.unusedSimpArgs false
set_option linter.unusedVariables false

/-- The slice '.slice A n c' lies in a row of the call's own (from block B on) and holds the list l, k cells an element. -/
structure Own {α : Type} (enc : α → List Value) (k : Nat) (e : TypeId) (B : Nat) (w : World) (A : Option Addr) (n c : Nat) (l : List α) : Prop where
  row : w.ownsRow B e k (.slice A n c) n (l.flatMap enc)
  len : l.length = n

section
variable {α : Type} {enc : α → List Value} {k : Nat} {e : TypeId} {B : Nat} {w w' : World} {A : Option Addr} {n c : Nat} {l : List α}
theorem Own.nil_ : Own enc k e B w none 0 0 [] := ⟨World.ownsRow_nil _ _ _ _, rfl⟩
theorem Own.of (h : Own enc k e B w A n c l) (hb : Below w.heap.size w w') : Own enc k e B w' A n c l := by
  refine ⟨⟨h.row.1, ?_⟩, h.len⟩
  rcases h.row.2 with h0 | ⟨g, cap, cur, hv, hg, hh, r⟩
  · exact .inl h0
  · exact .inr ⟨g, cap, cur, hv, hg, (hb.block g (Array.getElem?_eq_some_iff.1 hh).1).trans hh, r⟩
theorem Own.drew (h : Own enc k e B w A n c l) : Own enc k e B w.drew A n c l := ⟨h.row, h.len⟩
theorem Own.alloc (h : Own enc k e B w A n c l) (o : Obj) : Own enc k e B (w.alloc o) A n c l := h.of ((Below.refl _ _).alloc (Nat.le_refl _) o)
theorem Own.more {B' : Nat} (h : Own enc k e B w A n c l) (hB : B' ≤ B) : Own enc k e B' w A n c l := by
  refine ⟨⟨h.row.1, ?_⟩, h.len⟩
  rcases h.row.2 with h0 | ⟨g, cap, cur, hv, hg, hh, r⟩
  · exact .inl h0
  · exact .inr ⟨g, cap, cur, hv, by omega, hh, r⟩
/-- Below the base nothing of it is written: a world that agrees from the base on (but for other rows) keeps it. -/
theorem Own.setBelow (h : Own enc k e B w A n c l) {b i : Nat} (hb : b < B) (u : Value) : Own enc k e B (w.setCell ⟨b, i, none⟩ u) A n c l :=
  ⟨ownsRow_setCell_below h.row (a := ⟨b, i, none⟩) hb u, h.len⟩
theorem flatMap_get (hk : ∀ x, (enc x).length = k) : ∀ (l : List α) (i : Nat) (x : α), l[i]? = some x → ∀ (j : Nat) (u : Value), (enc x)[j]? = some u → (l.flatMap enc)[i * k + j]? = some u
  | [], i, x, hi, _, _, _ => by simp at hi
  | y :: l, 0, x, hi, j, u, hu => by
    have e : y = x := by simpa using hi
    subst e
    have hj := (List.getElem?_eq_some_iff.1 hu).1
    rw [List.flatMap_cons, Nat.zero_mul, Nat.zero_add, List.getElem?_append_left hj]
    exact hu
  | y :: l, i + 1, x, hi, j, u, hu => by
    have h1 := flatMap_get hk l i x (by simpa using hi) j u hu
    rw [List.flatMap_cons, List.getElem?_append_right (by rw [hk, Nat.add_mul, Nat.one_mul]; omega), hk, show (i + 1) * k + j - k = i * k + j by rw [Nat.add_mul, Nat.one_mul]; omega]
    exact h1
theorem flatMap_len (hk : ∀ x, (enc x).length = k) (l : List α) : (l.flatMap enc).length = l.length * k := by
  induction l with
  | nil => simp
  | cons y l ih => rw [List.flatMap_cons, List.length_append, hk, ih, List.length_cons, Nat.add_mul, Nat.one_mul, Nat.add_comm]
theorem Own.rd (h : Own enc k e B w A n c l) (hk : ∀ x, (enc x).length = k) : Rd enc k w A n l := by
  refine ⟨h.len, fun hn => ?_⟩
  rcases h.row.2 with ⟨_, h0⟩ | ⟨g, cap, cur, hv, hg, hh, h1, h2, h3, h4⟩
  · omega
  · injection hv with hA hn' hc'
    subst hA
    refine ⟨g, 0, rfl, (Array.getElem?_eq_some_iff.1 hh).1, fun i x hi j u hu => ?_⟩
    have hf := flatMap_get hk l i x hi j u hu
    have hlt := (List.getElem?_eq_some_iff.1 hf).1
    rw [flatMap_len hk, h.len] at hlt
    rw [Nat.zero_add, cell_of_row w g (i * k + j) cur e (0, 0) hh, ← hf, ← h4, List.getElem?_take, if_pos hlt]
    simp
theorem Own.above (h : Own enc k e B w A n c l) : ∀ g, (Value.slice A n c).ownBlock = some g → B ≤ g := fun g hg => (h.row.lt g hg).1
end

/-- append of ONE element onto a row of the call's own. -/
theorem wpList_append_el {α : Type} {P : Program} {w : World} {ops : Array Oper} {rest : List Oper} {o : Oper} {a : Act} {Q : Exit → Act → World → Prop} (hgd : o.guard = none) (s x : Operand) (t : TypeId)
    (ho : o.op = .call { callee := .builtin .append, args := #[s, x], argTypes := #[t, t] })
    (enc : α → List Value) (k : Nat) (e : TypeId) (z : Value) (bytes : Nat) (ht : P.underlying t = some (.slice e)) (hi : (P.info? e).map (fun i => (i.zero, i.size, i.bytes)) = some (some z, k, bytes)) (hzs : z.cells.size = k) (hk0 : 0 < k)
    (hk : ∀ y, (enc y).length = k) (h1c : ∀ y, ∀ u ∈ enc y, u.oneCell' = true)
    (B : Nat) (A : Option Addr) (n c : Nat) (l : List α) (hs : a.eval s = .slice A n c) (hown : Own enc k e B w A n c l)
    (y : α) (ad : Addr) (m : Nat) (hx : a.eval x = .slice (some ad) 1 m) (hnews : ∀ j u, (enc y)[j]? = some u → w.cell? (ad.add j) = some u)
    (hbytes : (n + 1) * bytes ≤ 140737488355328) (hn : n + 1 ≤ 4611686018427387904) (hbase : B ≤ w.heap.size)
    (h : ∀ A' c' w', Own enc k e B w' A' (n + 1) c' (l ++ [y]) → w.grownBy w' (Value.slice A n c).ownBlock → Below B w w' → wpList P ops Q rest (a.put o.dst (.slice A' (n + 1) c')) w') : wpList P ops Q (o :: rest) a w := by
  obtain ⟨i, hi0, hz0, hz1, hz2⟩ := info_parts hi
  refine wpList_append_own w hgd s x t ho B e i z k bytes ht hi0 hz0 hz1 hz2 hzs hk0 (.slice A n c) n (l.flatMap enc) hs hown.row ad 1 m (enc y) hx (by rw [hk]; omega) hnews (h1c y)
    (by unfold maxLen; omega) hbytes hbase ?_
  intro v' w' hv hg _
  have hgB : Below B w w' := (Below.refl _ _).grown hg hbase hown.above
  rcases hv.2 with ⟨_, h0⟩ | ⟨g, cap, cur, rfl, hr⟩
  · omega
  · exact h _ _ w' ⟨by simpa using ⟨hv.1, Or.inr ⟨g, cap, cur, rfl, hr⟩⟩, by simp [hown.len]⟩ hg hgB
/-- The same at a step of a region that draws its order. -/
theorem step_append_el {α : Type} {P : Program} {w : World} {ops : Array Oper} {o : Oper} {a : Act} {K : Act → World → Prop} {Q : Exit → Act → World → Prop} {E : Prop} (hgd : o.guard = none) (s x : Operand) (t : TypeId)
    (ho : o.op = .call { callee := .builtin .append, args := #[s, x], argTypes := #[t, t] })
    (enc : α → List Value) (k : Nat) (e : TypeId) (z : Value) (bytes : Nat) (ht : P.underlying t = some (.slice e)) (hi : (P.info? e).map (fun i => (i.zero, i.size, i.bytes)) = some (some z, k, bytes)) (hzs : z.cells.size = k) (hk0 : 0 < k)
    (hk : ∀ y, (enc y).length = k) (h1c : ∀ y, ∀ u ∈ enc y, u.oneCell' = true)
    (B : Nat) (A : Option Addr) (n c : Nat) (l : List α) (hs : a.eval s = .slice A n c) (hown : Own enc k e B w A n c l)
    (y : α) (ad : Addr) (m : Nat) (hx : a.eval x = .slice (some ad) 1 m) (hnews : ∀ j u, (enc y)[j]? = some u → w.cell? (ad.add j) = some u)
    (hbytes : (n + 1) * bytes ≤ 140737488355328) (hn : n + 1 ≤ 4611686018427387904) (hbase : B ≤ w.heap.size)
    (h : ∀ A' c' w', Own enc k e B w' A' (n + 1) c' (l ++ [y]) → w.grownBy w' (Value.slice A n c).ownBlock → Below B w w' → K (a.put o.dst (.slice A' (n + 1) c')) w') :
    if Region.wanted o (yielded ops a.tmps) = true then Oper.wp P o a w K Q else E := by
  obtain ⟨i, hi0, hz0, hz1, hz2⟩ := info_parts hi
  refine step_append_lies _ hgd s x t ho B e i z k bytes ht hi0 hz0 hz1 hz2 hzs hk0 (.slice A n c) n (l.flatMap enc) hs hown.row ad 1 m (enc y) hx (by rw [hk]; omega) hnews (h1c y)
    (by omega) (by unfold maxLen; omega) hbytes hbase w.heap.size rfl ?_
  intro g cap w' hv hg _ _
  have hgB : Below B w w' := (Below.refl _ _).grown hg hbase hown.above
  exact h _ _ w' ⟨by simpa using hv, by simp [hown.len]⟩ hg hgB
/-- make([]T, 0, n): a row of the call's own with room for n. -/
theorem wpList_make_el {α : Type} {P : Program} {w : World} {ops : Array Oper} {rest : List Oper} {o : Oper} {a : Act} {Q : Exit → Act → World → Prop} (hgd : o.guard = none) (s x : Operand) (t : TypeId)
    (ho : o.op = Op.makeSlice t s x) (enc : α → List Value) (k : Nat) (e : TypeId) (z : Value) (bytes : Nat) (ht : P.underlying t = some (.slice e)) (hi : (P.info? e).map (fun i => (i.zero, i.size, i.bytes)) = some (some z, k, bytes))
    (B : Nat) (C : Int) (n : Nat) (hs : a.eval s = .int .i64 0) (hx : a.eval x = .int .i64 C) (hC : C = (n : Int)) (hbytes : bytes * n ≤ 281474976710656) (hn : n ≤ 4611686018427387904) (hbase : B ≤ w.heap.size)
    (h : ∀ w', Own enc k e B w' (some ⟨w.heap.size, 0, none⟩) 0 n [] → Below w.heap.size w w' → wpList P ops Q rest (a.put o.dst (.slice (some ⟨w.heap.size, 0, none⟩) 0 n)) w') : wpList P ops Q (o :: rest) a w := by
  obtain ⟨i, hi0, hz0, hz1, hz2⟩ := info_parts hi
  refine wpList_make_own w hgd s x t ho B e i z k ht hi0 hz0 hz1 .i64 .i64 C n hs hx hC (by rw [hz2]; exact hbytes) (by unfold maxLen; omega) hbase ?_
  intro w' h1 h2
  exact h w' ⟨h1, rfl⟩ ((Below.refl _ _).grown h2 (Nat.le_refl _) (by simp))
/-- A new block's cells. -/
theorem cells_new (w : World) (vs : List Value) (t : TypeId) : ∀ j u, vs[j]? = some u → (w.alloc (.cells vs.toArray t)).cell? ((⟨w.heap.size, 0, none⟩ : Addr).add j) = some u := by
  intro j u hu
  have e : (⟨w.heap.size, 0, none⟩ : Addr).add j = ⟨w.heap.size, j, none⟩ := by unfold Addr.add; split <;> simp_all
  rw [e, cell_alloc_if, if_neg (by omega), if_pos rfl]
  simpa using hu
/-- A literal's new block is a row of the call's own. -/
theorem Own.lit {α : Type} {enc : α → List Value} {k : Nat} (hk : ∀ x, (enc x).length = k) (w : World) (e : TypeId) (B : Nat) (hB : B ≤ w.heap.size) (l : List α) (n : Nat) (hn : l.length = n) (hm : n ≤ 4611686018427387904) (cs : List Value) (hcs : cs = l.flatMap enc) :
    Own enc k e B (w.alloc (.cells cs.toArray e)) (some ⟨w.heap.size, 0, none⟩) n n l := by
  subst hcs
  refine ⟨?_, hn⟩
  have h := World.ownsRow_lit (base := B) (e := e) (size := k) w (l.flatMap enc).toArray n hB (by unfold maxLen; omega) (by simp [flatMap_len hk, hn])
  simpa using h
theorem encI_len (x : Int) : (encI x).length = 1 := rfl
theorem encP_len (x : Int × Int) : (encP x).length = 2 := rfl
theorem encC_len (x : Int × Int × Int) : (encC x).length = 3 := rfl
theorem encI_one : ∀ y, ∀ u ∈ encI y, u.oneCell' = true := by intro y u hu; simp [encI] at hu; subst hu; rfl
theorem encP_one : ∀ y, ∀ u ∈ encP y, u.oneCell' = true := by
  intro y u hu
  simp only [encP, List.mem_cons, List.not_mem_nil, or_false] at hu
  rcases hu with rfl | rfl <;> rfl
theorem encC_one : ∀ y, ∀ u ∈ encC y, u.oneCell' = true := by
  intro y u hu
  simp only [encC, List.mem_cons, List.not_mem_nil, or_false] at hu
  rcases hu with rfl | rfl | rfl <;> rfl
end Go.Proofs.Ytnhnkmppmicjoaa
