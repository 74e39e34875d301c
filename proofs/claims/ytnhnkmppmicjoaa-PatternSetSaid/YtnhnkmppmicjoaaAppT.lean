/- Append where the source's type is another name of the same slice type. -/
import Derived.Test.YtnhnkmppmicjoaaOwn
namespace Go.Proofs.Ytnhnkmppmicjoaa
open Go Go.RowKit
set_option linter.unusedSimpArgs false
set_option linter.unusedVariables false
theorem run_append_twin {P : Program} (w : World) (t t' e ty : TypeId) (ht : P.underlying t = some (.slice e)) (ht' : P.underlying t' = some (.slice e)) (u v : Value) : (Builtin.append_ #[t, t'] ty #[u, v]).run P w = (Builtin.append_ #[t, t] ty #[u, v]).run P w := by
  cases u <;> simp [Builtin.append_, run_underlying ht, run_underlying ht', Sem.run_bind]
/-- One element appended where the source's type is another name of the slice's type. -/
theorem wpList_append_el2 {α : Type} {P : Program} {w : World} {ops : Array Oper} {rest : List Oper} {o : Oper} {a : Act} {Q : Exit → Act → World → Prop} (hgd : o.guard = none) (s x : Operand) (t t' : TypeId)
    (ho : o.op = .call { callee := .builtin .append, args := #[s, x], argTypes := #[t, t'] })
    (enc : α → List Value) (k : Nat) (e : TypeId) (z : Value) (bytes : Nat) (ht : P.underlying t = some (.slice e)) (ht' : P.underlying t' = some (.slice e)) (hi : (P.info? e).map (fun i => (i.zero, i.size, i.bytes)) = some (some z, k, bytes)) (hzs : z.cells.size = k) (hk0 : 0 < k)
    (hk : ∀ y, (enc y).length = k) (h1c : ∀ y, ∀ u ∈ enc y, u.oneCell' = true)
    (B : Nat) (A : Option Addr) (n c : Nat) (l : List α) (hs : a.eval s = .slice A n c) (hown : Own enc k e B w A n c l)
    (y : α) (ad : Addr) (m : Nat) (hx : a.eval x = .slice (some ad) 1 m) (hnews : ∀ j u, (enc y)[j]? = some u → w.cell? (ad.add j) = some u)
    (hbytes : (n + 1) * bytes ≤ 140737488355328) (hn : n + 1 ≤ 4611686018427387904) (hbase : B ≤ w.heap.size)
    (h : ∀ A' c' w', Own enc k e B w' A' (n + 1) c' (l ++ [y]) → w.grownBy w' (Value.slice A n c).ownBlock → Below B w w' → wpList P ops Q rest (a.put o.dst (.slice A' (n + 1) c')) w') : wpList P ops Q (o :: rest) a w := by
  obtain ⟨i, hi0, hz0, hz1, hz2⟩ := info_parts hi
  refine wpList_plain hgd fun K hK => ?_
  obtain ⟨v', w', hr, hv, hg, _⟩ := run_append_own (P := P) w B t o.type e i z k bytes ht hi0 hz0 hz1 hz2 hzs hk0 (.slice A n c) n (l.flatMap enc) hown.row ad 1 m (enc y) (by rw [hk]; omega) hnews (h1c y) (by unfold maxLen; omega) hbytes hbase
  rw [← run_append_twin w t t' e o.type ht ht'] at hr
  have hgB : Below B w w' := (Below.refl _ _).grown hg hbase hown.above
  unfold Oper.wp execOp
  simp only [ho, resolve, invoke, builtin, Sem.run_bind, Sem.run_pure, Result.andThen_ok, List.map_toArray, List.map_cons, List.map_nil, hs, hx, hr]
  refine hK _ _ ?_
  rcases hv.2 with ⟨_, h0⟩ | ⟨g, cap, cur, rfl, hq⟩
  · omega
  · exact h _ _ w' ⟨by simpa using ⟨hv.1, Or.inr ⟨g, cap, cur, rfl, hq⟩⟩, by simp [hown.len]⟩ hg hgB
end Go.Proofs.Ytnhnkmppmicjoaa
