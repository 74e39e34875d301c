/- The contract of the reference's Syms. -/
import Derived.Test.YtobbkclfbbblaaaDoorHood10
import Derived.Test.YtobbkclfbbblaaaDoorInvP
namespace Go.Proofs.YtobbkclfbbblaaaDoor
open Go Go.RowKit
set_option linter.unusedSimpArgs false
set_option linter.unusedVariables false
set_option maxRecDepth 100000
/-- No element ahead of j goes out. -/
def noOut (l : List (Int × Int)) (k : Int) (j : Nat) : Bool := (l.take j).all fun p => !outP l k p.1 p.2
theorem noOut_step {l : List (Int × Int)} {k : Int} {j : Nat} {x y : Int} (hx : l[j]? = some (x, y)) : noOut l k (j + 1) = (noOut l k j && !outP l k x y) := by
  unfold noOut
  rw [List.take_add_one, List.all_append, hx]
  simp
theorem noOut_end {l : List (Int × Int)} {n : Nat} {k : Int} (hl : l.length = n) : noOut l k n = !anyOut l k := by
  unfold noOut anyOut
  rw [List.take_of_length_le (by omega)]
  rw [Bool.eq_iff_iff]
  simp [List.all_eq_true]
theorem rightL_elem {l : List (Int × Int)} {j : Nat} {x y : Int} (h : rightL l = true) (hx : l[j]? = some (x, y)) : -2 ≤ x ∧ x ≤ 2 ∧ -2 ≤ y ∧ y ≤ 2 := by
  unfold rightL at h
  rw [Bool.and_eq_true, List.all_eq_true] at h
  have hj := h.2 j (by have := (List.getElem?_eq_some_iff.1 hx).1; simpa using this)
  unfold okAt at hj
  rw [hx] at hj
  simp only [Bool.and_eq_true, inR, decide_eq_true_eq] at hj
  omega
theorem refApplyS (k x y : Int) (w : World) (hx : I64 x) (hy : I64 y) : Calls Tryd.prog 13 #[.int .i64 k, .agg #[.int .i64 x, .int .i64 y]] w fun e w' => e = .returned (.agg #[.int .i64 (app k x y).1, .int .i64 (app k x y).2]) ∧ Below w.heap.size w w' := by
  rw [app_eq k x y hx hy]; exact ref_Apply k x y w
set_option maxHeartbeats 1000000 in
theorem ref_Syms (A : Option Addr) (n c : Nat) (l : List (Int × Int)) (w : World) (hR : Rd encP 2 w A n l) (hn : n ≤ 1000000) :
    Calls Tryd.prog 49 #[.slice A n c] w fun e w' => ∃ A n c, e = .returned (.slice A n c) ∧ Rd encI 1 w' A n (symsL l) ∧ n ≤ 8 ∧ Below w.heap.size w w' := by
  cases hr : rightL l with
  | false =>
    have hcl := Lib.hid (show symsL l = [] by unfold symsL; rw [hr]; rfl)
    go_enter Tryd.func49, Tryd.ntmps49
    go_wp2_with (first | (go_at_call 45; refine (ref_Right7 _ _ _ _ _ hR).mono ?_; rintro e w1 ⟨rfl, hb1⟩; obtain ⟨hc1, hf1⟩ := bcell hb1; have hs1 := hb1.size; (try simp only [World.size_alloc, World.size_setCell, World.size_drew] at hc1 hf1); (try simp at hs1)))
    go_ret
    exact ⟨none, 0, 0, rfl, by rw [hcl.out]; exact Rd.nil_, by omega, by (repeat' (first | exact Below.refl _ _ | assumption | (refine Below.alloc ?_ ?_ _) | (refine Below.setCell ?_ ?_ _) | (refine Below.drew ?_) | (refine below_drewN ?_ _) | (refine below_after (Ext.below _) ?_ ?_) | (refine below_after (by assumption) ?_ ?_) | (simp; done) | omega | (simp; omega)))⟩
  | true =>
    have hcl := Lib.hid (show symsL l = upTo (keepS l) 8 by unfold symsL; rw [hr]; rfl)
    go_enter Tryd.func49, Tryd.ntmps49
    go_wp2_with (first | (go_at_call 45; refine (ref_Right7 _ _ _ _ _ hR).mono ?_; rintro e w1 ⟨rfl, hb1⟩; obtain ⟨hc1, hf1⟩ := bcell hb1; have hs1 := hb1.size; (try simp only [World.size_alloc, World.size_setCell, World.size_drew] at hc1 hf1); (try simp at hs1)))
    go_loopw [3, 4] (fun v i wr => ∃ (B : Option Addr) (m d k : Nat), v = .slice B m d ∧ i = .int .i64 k ∧ k ≤ 8 ∧ m ≤ k ∧ Own encI 1 3 w.heap.size wr B m d (upTo (keepS l) k) ∧ Below w.heap.size w wr) (fun _ i _ => 8 - (intOf i).toNat)
    case atStart => exact ⟨none, 0, 0, 0, rfl, rfl, by omega, by omega, Own.nil_, by (repeat' (first | exact Below.refl _ _ | assumption | (refine Below.alloc ?_ ?_ _) | (refine Below.setCell ?_ ?_ _) | (refine Below.drew ?_) | (refine below_drewN ?_ _) | (refine below_after (Ext.below _) ?_ ?_) | (refine below_after (by assumption) ?_ ?_) | (simp; done) | omega | (simp; omega)))⟩
    case round =>
      obtain ⟨B, m, d, k, rfl, rfl, hk, hmk, hown, hb⟩ := hrel
      have hs := hb.size
      by_cases hlt : k < 8
      · have dk : decide ((k : Int) < 8) = true := decide_eq_true (by omega)
        go_wp2
        go_loopw [5, 6] (fun v i wq => ∃ j : Nat, v = .bool (noOut l (k : Int) j) ∧ i = .int .i64 j ∧ j ≤ n ∧ Own encI 1 3 w.heap.size wq B m d (upTo (keepS l) k) ∧ Below w.heap.size w wq) (fun _ i _ => n - (intOf i).toNat)
        case atStart => exact ⟨0, rfl, rfl, by omega, hown, hb⟩
        case round =>
          clear hown hb hs
          obtain ⟨j, rfl, rfl, hj, hown, hb⟩ := hrel
          have hs := hb.size
          obtain ⟨hc, hf⟩ := bcell hb
          by_cases hltj : j < n
          · obtain ⟨x, y, bo, o, hx, rfl, hbl, hcell, hcell2⟩ := hR.pt hltj
            have hst := Lib.hid (noOut_step (k := (k : Int)) hx.out)
            have hel := rightL_elem hr hx.out
            have hix : I64 x := by unfold I64; omega
            have hiy : I64 y := by unfold I64; omega
            clear hel
            cases hq : noOut l (k : Int) j with
            | true =>
              go_wp2_with (first | (go_at_call 13; refine (refApplyS _ _ _ _ hix hiy).mono ?_; rintro e w2 ⟨rfl, hb2⟩; obtain ⟨hc2, hf2⟩ := bcell hb2; have hs2 := hb2.size; (try simp only [World.size_alloc, World.size_setCell, World.size_drew] at hc2 hf2); (try simp at hs2)) | (go_at_call 40; refine (ref_IndexP _ _ _ _ _ _ _ (hR.of (by (repeat' (first | exact Below.refl _ _ | assumption | (refine Below.alloc ?_ ?_ _) | (refine Below.setCell ?_ ?_ _) | (refine Below.drew ?_) | (refine below_drewN ?_ _) | (refine below_after (Ext.below _) ?_ ?_) | (refine below_after (by assumption) ?_ ?_) | (simp; done) | omega | (simp; omega))))) hn).mono ?_; rintro e w3 ⟨rfl, hb3⟩; obtain ⟨hc3, hf3⟩ := bcell hb3; have hs3 := hb3.size; (try simp only [World.size_alloc, World.size_setCell, World.size_drew] at hc3 hf3); (try simp at hs3)))
              go_roundw
              case rel => exact ⟨j + 1, by rw [hst.out, hq]; simp [outP, hasP], by go_num, by omega, (hown.of hb2).of hb3, by (repeat' (first | exact Below.refl _ _ | assumption | (refine Below.alloc ?_ ?_ _) | (refine Below.setCell ?_ ?_ _) | (refine Below.drew ?_) | (refine below_drewN ?_ _) | (refine below_after (Ext.below _) ?_ ?_) | (refine below_after (by assumption) ?_ ?_) | (simp; done) | omega | (simp; omega)))⟩
              case measure => simp [intOf]; omega
            | false =>
              go_wp2
              go_roundw
              case rel => exact ⟨j + 1, by rw [hst.out, hq]; simp, by go_num, by omega, hown, hb⟩
              case measure => simp [intOf]; omega
          · obtain rfl : j = n := by omega
            have he := Lib.hid (noOut_end (l := l) (k := (k : Int)) hR.len)
            cases hq : noOut l (k : Int) j with
            | true =>
              have hu := Lib.hid (upTo_yes (S := keepS l) (i := k) (by unfold keepS; rw [← he.out]; exact hq))
              go_wp2_with (first | (at_builtin; refine wpList_append_el rfl (.tmp 33) (.tmp 35) 38 rfl encI 1 3 (.int .i64 0) 8 Tryd.underlying38 (by kernel_rfl) rfl (by decide) encI_len encI_one (w.heap.size) _ _ _ _ rfl (hown.alloc _) (k : Int) ⟨(wr).heap.size, 0, none⟩ 1 rfl (cells_new (wr) _ _) (by omega) (by omega) (by simp; omega) ?_; intro A3 c3 w3 hown3 hg3 hb3; obtain ⟨hc3, hf3⟩ := bcell hb3; have hs3 := hb3.size; (try simp only [World.size_alloc, World.size_setCell, World.size_drew] at hc3 hf3); (try simp at hs3)))
              go_roundw
              case rel => exact ⟨A3, m + 1, c3, k + 1, rfl, by go_num, by omega, by omega, by rw [hu.out]; exact hown3, by (repeat' (first | exact Below.refl _ _ | assumption | (refine Below.alloc ?_ ?_ _) | (refine Below.setCell ?_ ?_ _) | (refine Below.drew ?_) | (refine below_drewN ?_ _) | (refine below_after (Ext.below _) ?_ ?_) | (refine below_after (by assumption) ?_ ?_) | (simp; done) | omega | (simp; omega)))⟩
              case measure => simp [intOf]; omega
            | false =>
              have hu := Lib.hid (upTo_no (S := keepS l) (i := k) (by unfold keepS; rw [← he.out]; exact hq))
              go_wp2
              go_roundw
              case rel => exact ⟨B, m, d, k + 1, rfl, by go_num, by omega, by omega, by rw [hu.out]; exact hown, hb⟩
              case measure => simp [intOf]; omega
      · obtain rfl : k = 8 := by omega
        go_wp2
        go_ret
        exact ⟨B, m, d, rfl, by rw [hcl.out]; exact hown.rd encI_len, hmk, hb⟩
end Go.Proofs.YtobbkclfbbblaaaDoor
