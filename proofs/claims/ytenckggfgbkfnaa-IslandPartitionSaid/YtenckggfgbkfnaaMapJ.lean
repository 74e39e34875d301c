/- The laws on maps with the values written out: sets of positions, maps from numbers to slices' heads. -/
import Derived.Test.YtenckggfgbkfnaaMapI
namespace Go.Proofs.Ytenckggfgbkfnaa
open Go Go.RowKit
set_option linter.unusedSimpArgs false
set_option linter.unusedVariables false
set_option maxRecDepth 100000
section
variable {w : World} {ops : Array Oper} {rest : List Oper} {o : Oper} {a : Act} {Q : Exit → Act → World → Prop}
/-- '_, ok := set[p]'. -/
theorem wpList_pu_ok (hg : o.guard = none) (m x : Operand) (t : TypeId) (hop : o.op = Op.lookup t m x true) (ht : Try.prog.underlying t = some (.map 46 58)) (b n : Nat) (f : Int × Int → Option Unit) (hm : a.eval m = .map (some b)) (h : mkPU.At b n f w)
    (u v : Int) (hu : I64 u) (hv : I64 v) (hx : a.eval x = .agg #[.int .i64 u, .int .i64 v]) (q : Bool) (hr : (f (u, v)).isSome = q)
    (hK : wpList Try.prog ops Q rest (a.put o.dst (.tuple #[.agg #[], .bool q])) w) : wpList Try.prog ops Q (o :: rest) a w :=
  wpList_mg_ok (M := mkPU) hg m x t hop ht b n f hm h (u, v) ⟨hu, hv⟩ hx _ rfl (by rw [hr]; exact hK)
/-- 'set[p] = struct{}{}'. -/
theorem wpList_pu_put (hg : o.guard = none) (m x v : Operand) (t : TypeId) (hop : o.op = Op.mapUpdate t m x v) (ht : Try.prog.underlying t = some (.map 46 58)) (b n : Nat) (f : Int × Int → Option Unit) (hm : a.eval m = .map (some b)) (h : mkPU.At b n f w) (hn : n < 1000000000)
    (p q : Int) (hp : I64 p) (hq : I64 q) (hx : a.eval x = .agg #[.int .i64 p, .int .i64 q]) (hv : a.eval v = .agg #[])
    (hK : ∀ w', mkPU.At b (n + 1) (putG f (p, q) ()) w' → w.grownBy w' (some b) → wpList Try.prog ops Q rest (a.put o.dst undef) w') : wpList Try.prog ops Q (o :: rest) a w :=
  wpList_mg_put (M := mkPU) hg m x v t hop ht b n f hm h hn (p, q) ⟨hp, hq⟩ () hx hv hK
/-- 'm[i]', a slice's head. -/
theorem wpList_is_get (hg : o.guard = none) (m x : Operand) (t : TypeId) (hop : o.op = Op.lookup t m x false) (ht : Try.prog.underlying t = some (.map 3 23)) (b n : Nat) (f : Int → Option (Option Addr × Nat × Nat)) (hm : a.eval m = .map (some b)) (h : mkIS.At b n f w)
    (u : Int) (hu : I64 u) (hx : a.eval x = .int .i64 u) (A : Option Addr) (p c : Nat) (hr : (f u).getD (none, 0, 0) = (A, p, c))
    (hK : wpList Try.prog ops Q rest (a.put o.dst (.slice A p c)) w) : wpList Try.prog ops Q (o :: rest) a w :=
  wpList_mg_get (M := mkIS) hg m x t hop ht b n f hm h u hu hx _ rfl (by show wpList _ _ _ _ (a.put o.dst (hdV ((f u).getD (none, 0, 0)))) _; rw [hr]; exact hK)
/-- 'm[i] = s'. -/
theorem wpList_is_put (hg : o.guard = none) (m x v : Operand) (t : TypeId) (hop : o.op = Op.mapUpdate t m x v) (ht : Try.prog.underlying t = some (.map 3 23)) (b n : Nat) (f : Int → Option (Option Addr × Nat × Nat)) (hm : a.eval m = .map (some b)) (h : mkIS.At b n f w) (hn : n < 1000000000)
    (u : Int) (hu : I64 u) (A : Option Addr) (p c : Nat) (hx : a.eval x = .int .i64 u) (hv : a.eval v = .slice A p c)
    (hK : ∀ w', mkIS.At b (n + 1) (putG f u (A, p, c)) w' → w.grownBy w' (some b) → wpList Try.prog ops Q rest (a.put o.dst undef) w') : wpList Try.prog ops Q (o :: rest) a w :=
  wpList_mg_put (M := mkIS) hg m x v t hop ht b n f hm h hn u hu (A, p, c) hx hv hK
theorem wpList_is_range (hg : o.guard = none) (m : Operand) (t : TypeId) (hop : o.op = Op.range t m) (ht : Try.prog.underlying t = some (.map 3 23)) (b n : Nat) (f : Int → Option (Option Addr × Nat × Nat)) (hm : a.eval m = .map (some b)) (h : mkIS.At b n f w)
    (hK : ∀ w' cnt, mkIS.Rg b w.heap.size n f (fun x => (f x).isSome) cnt w' → w.grownBy w' none → w'.heap.size = w.heap.size + 1 → wpList Try.prog ops Q rest (a.put o.dst (.pointer (some ⟨w.heap.size, 0, none⟩))) w') : wpList Try.prog ops Q (o :: rest) a w :=
  wpList_mg_range (M := mkIS) hg m t hop ht b n f hm h hK
theorem wpList_is_next (hg : o.guard = none) (it : Operand) (hop : o.op = Op.next it false) (b r n : Nat) (f : Int → Option (Option Addr × Nat × Nat)) (lf : Int → Bool) (cnt : Nat) (hit : a.eval it = .pointer (some ⟨r, 0, none⟩)) (h : mkIS.Rg b r n f lf cnt w)
    (hDone : (∀ x, I64 x → lf x = false) → wpList Try.prog ops Q rest (a.put o.dst (.tuple #[.bool false])) w)
    (hMore : ∀ (x : Int) (A : Option Addr) (p c : Nat) (w' : World) (cnt' : Nat), I64 x → lf x = true → f x = some (A, p, c) → mkIS.Rg b r n f (fun y => lf y && decide (y ≠ x)) cnt' w' → cnt' < cnt →
      w.grownBy w' (some r) → w'.heap.size = w.heap.size → (Instr.entry (.pointer (some ⟨r, 0, none⟩))).run Try.prog w' = .ok (.tuple #[.int .i64 x, .slice A p c]) w' → wpList Try.prog ops Q rest (a.put o.dst (.tuple #[.bool true, .int .i64 x, .slice A p c])) w') :
    wpList Try.prog ops Q (o :: rest) a w :=
  wpList_mg_next (M := mkIS) hg it hop b r n f lf cnt hit h hDone fun x c w' cnt' h1 h2 h3 h4 h5 h6 h7 h8 => hMore x c.1 c.2.1 c.2.2 w' cnt' h1 h2 h3 h4 h5 h6 h7 h8
end
end Go.Proofs.Ytenckggfgbkfnaa
