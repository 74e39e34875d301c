/- Slices of cells: literals, parts of a slice, contracts at known lists. -/
import Derived.Test.YtnhapgbjaeaamaaDoorFromS
import Derived.Test.YtnhapgbjaeaamaaDoorCell5
import Derived.Test.YtnhapgbjaeaamaaDoorCell8
import Derived.Test.YtnhapgbjaeaamaaDoorBoxAt
namespace Go.Proofs.YtnhapgbjaeaamaaDoor
open Go Go.RowKit
set_option linter.unusedSimpArgs false
set_option linter.unusedVariables false
set_option maxRecDepth 100000
theorem rd_litC (w : World) (l : List (Int × Int × Int)) (cs : Array Value) (n : Nat) (hn : l.length = n) (hm : n ≤ 4611686018427387904) (hcs : cs.toList = l.flatMap encC) : Rd encC 3 (w.alloc (.cells cs 40)) (some ⟨w.heap.size, 0, none⟩) n l := by
  have h := (Own.lit encC_len w 40 w.heap.size (Nat.le_refl _) l n hn hm cs.toList hcs).rd encC_len
  simpa using h
section
variable {α : Type} {enc : α → List Value} {k : Nat} {w : World} {n : Nat} {l : List α}
theorem Rd.take {A : Option Addr} (h : Rd enc k w A n l) {i : Nat} (hi : i ≤ n) : Rd enc k w A i (l.take i) := by
  refine ⟨by rw [List.length_take, h.1]; omega, fun h0 => ?_⟩
  obtain ⟨b, o, e, hb, hc⟩ := h.2 (by omega)
  refine ⟨b, o, e, hb, fun r x hr j u hu => hc r x ?_ j u hu⟩
  rw [List.getElem?_take] at hr
  split at hr
  · exact hr
  · cases hr
theorem Rd.drop {b o : Nat} (h : Rd enc k w (some ⟨b, o, none⟩) n l) {i : Nat} (hi : i ≤ n) : Rd enc k w (some ⟨b, o + i * k, none⟩) (n - i) (l.drop i) := by
  refine ⟨by rw [List.length_drop, h.1], fun h0 => ?_⟩
  obtain ⟨b', o', e, hb, hc⟩ := h.2 (by omega)
  injection e with e
  injection e with e1 e2 e3
  subst e1 e2
  refine ⟨b, o + i * k, rfl, hb, fun r x hr j u hu => ?_⟩
  rw [List.getElem?_drop] at hr
  have := hc (i + r) x hr j u hu
  rwa [show o + (i + r) * k + j = o + i * k + r * k + j by rw [Nat.add_mul]; omega] at this
end
theorem pat_FromV {l r : List (Int × Int × Int)} {q : Int} {m : Nat} (hE : frE l = q) (hL : frL l = r) (hm : r.length = m) (A : Option Addr) (n c : Nat) (w : World) (hR : Rd encC 3 w A n l) (hn : n ≤ 1000000) :
    Calls Tryd.prog 58 #[.slice A n c] w fun e w' => ∃ A' c', e = .returned (.tuple #[.slice A' m c', .int .i64 q]) ∧ Rd encC 3 w' A' m r ∧ Below w.heap.size w w' := by
  refine (pat_From A n c l w hR hn).mono ?_
  rintro e w' ⟨A', n', c', rfl, hR', _, hb⟩
  rw [hL] at hR'
  obtain rfl : n' = m := by rw [← hR'.len, hm]
  exact ⟨A', c', by rw [hE], hR', hb⟩
theorem pat_ShiftV {l r : List (Int × Int × Int)} {x y q : Int} {m : Nat} (hE : shE l x y = q) (hL : shL l x y = r) (hm : r.length = m) (A : Option Addr) (n c : Nat) (w : World) (hR : Rd encC 3 w A n l) (hn : n ≤ 1000000) :
    Calls Tryd.prog 31 #[.slice A n c, .int .i64 x, .int .i64 y] w fun e w' => ∃ A' c', e = .returned (.tuple #[.slice A' m c', .int .i64 q]) ∧ Rd encC 3 w' A' m r ∧ Below w.heap.size w w' := by
  refine (pat_Shift A n c l x y w hR hn).mono ?_
  rintro e w' ⟨A', n', c', rfl, hR', _, hb⟩
  rw [hL] at hR'
  obtain rfl : n' = m := by rw [← hR'.len, hm]
  exact ⟨A', c', by rw [hE], hR', hb⟩
theorem ref05_SameV {l r : List (Int × Int × Int)} {q : Bool} (hq : sameL l r = q) (A B : Option Addr) (n m c d : Nat) (w : World) (hR : Rd encC 3 w A n l) (hS : Rd encC 3 w B m r) (hn : n ≤ 1000000) (hm : m ≤ 1000000) :
    Calls Tryd.prog 14 #[.slice A n c, .slice B m d] w fun e w' => e = .returned (.bool q) ∧ Below w.heap.size w w' := by
  rw [← hq]; exact ref05_Same A B n m c d l r w hR hS hn hm
theorem sameL_self {α : Type} [DecidableEq α] (l : List α) : sameL l l = true := by unfold sameL; exact decide_eq_true rfl
end Go.Proofs.YtnhapgbjaeaamaaDoor
