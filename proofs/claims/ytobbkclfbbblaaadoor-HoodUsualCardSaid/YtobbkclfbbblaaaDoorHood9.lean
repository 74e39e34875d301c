/- The contracts of hood.Syms and of the library functions that it calls. -/
import Derived.Test.YtobbkclfbbblaaaDoorHood4
import Derived.Test.YtobbkclfbbblaaaDoorSym5
namespace Go.Proofs.YtobbkclfbbblaaaDoor
open Go Go.RowKit
set_option linter.unusedSimpArgs false
set_option linter.unusedVariables false
set_option maxRecDepth 100000
/-- The image of the position under k is no element. -/
def outP (l : List (Int × Int)) (k x y : Int) : Bool := !hasP l (app k x y).1 (app k x y).2
set_option maxHeartbeats 1000000 in
theorem syms1 (A : Option Addr) (n c : Nat) (l : List (Int × Int)) (k x y : Int) (ba bk : Nat) (w : World) (hM : Mx w) (hR : Rd encP 2 w A n l) (hn : n ≤ 1000000) (h1 : w.cell? ⟨ba, 0, none⟩ = some (.slice A n c)) (h2 : w.cell? ⟨bk, 0, none⟩ = some (.int .i64 k)) (hba : ba < w.heap.size) (hbk : bk < w.heap.size) :
    Calls Tryd.prog 65 #[.agg #[.int .i64 x, .int .i64 y], .pointer (some ⟨ba, 0, none⟩), .pointer (some ⟨bk, 0, none⟩)] w fun e w' => e = .returned (.bool (outP l k x y)) ∧ Below w.heap.size w w' := by
  have hz := hM.1
  go_enter Tryd.func65, Tryd.ntmps65
  go_wp2
  (refine wp_region_ext_lit (by kernel_rfl) (by kernel_rfl) ?_; (repeat (go_big_quiet_step (first | (go_at_call 12; exact calls_ext (sym_Apply _ _ _ _ (hM.of (by (repeat' (first | exact Below.refl _ _ | assumption | (refine Below.alloc ?_ ?_ _) | (refine Below.setCell ?_ ?_ _) | (refine Below.drew ?_) | (refine below_drewN ?_ _) | (refine below_after (Ext.below _) ?_ ?_) | (refine below_after (by assumption) ?_ ?_) | (simp; done) | omega | (simp; omega))))))) | (go_at_call 66; exact calls_ext (slices_ContainsP _ _ _ _ _ _ _ (hR.of (by (repeat' (first | exact Below.refl _ _ | assumption | (refine Below.alloc ?_ ?_ _) | (refine Below.setCell ?_ ?_ _) | (refine Below.drew ?_) | (refine below_drewN ?_ _) | (refine below_after (Ext.below _) ?_ ?_) | (refine below_after (by assumption) ?_ ?_) | (simp; done) | omega | (simp; omega))))) hn))))); refine wpQuiet_nil ?_; intro _ hw'; obtain ⟨z1, hw''⟩ := hw'; subst hw''; have hs1 := z1.size; obtain ⟨hc1, hf1⟩ := bcell z1.below; (try simp only [World.size_alloc, World.size_setCell, World.size_drew] at hc1 hf1); (try simp at hs1))
  go_wp2
  go_ret
  exact ⟨rfl, by (repeat' (first | exact Below.refl _ _ | assumption | (refine Below.alloc ?_ ?_ _) | (refine Below.setCell ?_ ?_ _) | (refine Below.drew ?_) | (refine below_drewN ?_ _) | (refine below_after (Ext.below _) ?_ ?_) | (refine below_after (by assumption) ?_ ?_) | (simp; done) | omega | (simp; omega)))⟩
def anyOut (l : List (Int × Int)) (k : Int) : Bool := l.any fun p => outP l k p.1 p.2
theorem anyOut_some {l : List (Int × Int)} {k : Int} {i : Nat} {x y : Int} (hx : l[i]? = some (x, y)) (h : outP l k x y = true) : anyOut l k = true :=
  List.any_eq_true.2 ⟨(x, y), List.mem_of_getElem? hx, h⟩
theorem anyOut_none {l : List (Int × Int)} {n : Nat} {k : Int} (hl : l.length = n) (h : ∀ i x y, i < n → l[i]? = some (x, y) → outP l k x y = false) : anyOut l k = false := by
  unfold anyOut
  rw [List.any_eq_false]
  intro p hp
  obtain ⟨i, hi, e⟩ := List.getElem_of_mem hp
  have := h i p.1 p.2 (by omega) (by rw [List.getElem?_eq_getElem hi, e])
  simp [this]
theorem out_step {l : List (Int × Int)} {k : Int} {j : Nat} {a b : Int} (h : ∀ i x y, i < j → l[i]? = some (x, y) → outP l k x y = false) (hx : l[j]? = some (a, b)) (ho : outP l k a b = false) : ∀ i x y, i < j + 1 → l[i]? = some (x, y) → outP l k x y = false := by
  intro i x y hi hy
  by_cases e : i = j
  · rw [e, hx] at hy; cases hy; exact ho
  · exact h i x y (by omega) hy
set_option maxHeartbeats 1000000 in
theorem indexFunc_out (A : Option Addr) (n c : Nat) (l : List (Int × Int)) (k : Int) (ba bk : Nat) (w : World) (hM : Mx w) (hR : Rd encP 2 w A n l) (hn : n ≤ 1000000) (h1 : w.cell? ⟨ba, 0, none⟩ = some (.slice A n c)) (h2 : w.cell? ⟨bk, 0, none⟩ = some (.int .i64 k)) (hba : ba < w.heap.size) (hbk : bk < w.heap.size) :
    Calls Tryd.prog 74 #[.slice A n c, .func (.func 65) #[] #[.pointer (some ⟨ba, 0, none⟩), .pointer (some ⟨bk, 0, none⟩)]] w fun e w' => ∃ r : Int, e = .returned (.int .i64 r) ∧ Hid (anyOut l k = decide (0 ≤ r)) ∧ Below w.heap.size w w' := by
  go_enter Tryd.func74, Tryd.ntmps74
  go_wp2
  go_loopw [8] (fun i wr => ∃ j : Nat, j ≤ n ∧ i = .int .i64 j ∧ Below w.heap.size w wr ∧ Hid (∀ i x y, i < j → l[i]? = some (x, y) → outP l k x y = false)) (fun i _ => n - (intOf i).toNat)
  case atStart => exact ⟨0, by omega, rfl, Below.refl _ _, fun r x y hr => absurd hr (by omega)⟩
  case round =>
    obtain ⟨j, hj, rfl, hb, hno⟩ := hrel
    obtain ⟨hc, hf⟩ := bcell hb
    have hs := hb.size
    by_cases hlt : j < n
    · obtain ⟨x, y, b, o, hx, rfl, hbl, hcell, hcell2⟩ := hR.pt hlt
      have hsy := syms1 (some ⟨b, o, none⟩) n c l k x y ba bk wr (hM.of hb) (hR.of hb) hn (by rw [hb.cell (p := ⟨ba, 0, none⟩) hba]; exact h1) (by rw [hb.cell (p := ⟨bk, 0, none⟩) hbk]; exact h2) (by omega) (by omega)
      cases hq : outP l k x y with
      | true =>
        rw [hq] at hsy
        go_wp2_with (first | (go_at_call 65; refine (hsy).mono ?_; rintro e w1 ⟨rfl, hb1⟩; obtain ⟨hc1, hf1⟩ := bcell hb1; have hs1 := hb1.size; (try simp only [World.size_alloc, World.size_setCell, World.size_drew] at hc1 hf1); (try simp at hs1)))
        go_ret
        exact ⟨_, rfl, by show _ = _; rw [anyOut_some hx.out hq]; simp, by (repeat' (first | exact Below.refl _ _ | assumption | (refine Below.alloc ?_ ?_ _) | (refine Below.setCell ?_ ?_ _) | (refine Below.drew ?_) | (refine below_drewN ?_ _) | (refine below_after (Ext.below _) ?_ ?_) | (refine below_after (by assumption) ?_ ?_) | (simp; done) | omega | (simp; omega)))⟩
      | false =>
        rw [hq] at hsy
        go_wp2_with (first | (go_at_call 65; refine (hsy).mono ?_; rintro e w1 ⟨rfl, hb1⟩; obtain ⟨hc1, hf1⟩ := bcell hb1; have hs1 := hb1.size; (try simp only [World.size_alloc, World.size_setCell, World.size_drew] at hc1 hf1); (try simp at hs1)))
        go_roundw
        case rel => exact ⟨j + 1, by omega, by go_num, (by (repeat' (first | exact Below.refl _ _ | assumption | (refine Below.alloc ?_ ?_ _) | (refine Below.setCell ?_ ?_ _) | (refine Below.drew ?_) | (refine below_drewN ?_ _) | (refine below_after (Ext.below _) ?_ ?_) | (refine below_after (by assumption) ?_ ?_) | (simp; done) | omega | (simp; omega)))), out_step hno.out hx.out hq⟩
        case measure => simp [intOf]; omega
    · obtain rfl : j = n := by omega
      go_wp2
      go_ret
      exact ⟨_, rfl, by show _ = _; rw [anyOut_none hR.len hno.out]; simp, hb⟩
theorem containsFunc_out (A : Option Addr) (n c : Nat) (l : List (Int × Int)) (k : Int) (ba bk : Nat) (w : World) (hM : Mx w) (hR : Rd encP 2 w A n l) (hn : n ≤ 1000000) (h1 : w.cell? ⟨ba, 0, none⟩ = some (.slice A n c)) (h2 : w.cell? ⟨bk, 0, none⟩ = some (.int .i64 k)) (hba : ba < w.heap.size) (hbk : bk < w.heap.size) :
    Calls Tryd.prog 64 #[.slice A n c, .func (.func 65) #[] #[.pointer (some ⟨ba, 0, none⟩), .pointer (some ⟨bk, 0, none⟩)]] w fun e w' => e = .returned (.bool (anyOut l k)) ∧ Below w.heap.size w w' := by
  go_enter Tryd.func64, Tryd.ntmps64
  go_wp2_with (first | (go_at_call 74; refine (indexFunc_out _ _ _ _ _ _ _ _ hM hR hn h1 h2 hba hbk).mono ?_; rintro e w' ⟨r, rfl, hr, hbr⟩))
  go_ret
  exact ⟨ret_bool hr.out.symm, hbr⟩
end Go.Proofs.YtobbkclfbbblaaaDoor
