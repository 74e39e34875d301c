/- The contract of hood.Syms. -/
import Derived.Test.YtobbkclfbbblaaaDoorHood9
import Derived.Test.YtobbkclfbbblaaaDoorOwn
import Derived.Test.YtobbkclfbbblaaaDoorGrpQ
namespace Go.Proofs.YtobbkclfbbblaaaDoor
open Go Go.RowKit
set_option linter.unusedSimpArgs false
set_option linter.unusedVariables false
set_option maxRecDepth 100000
def keepS (l : List (Int × Int)) (k : Nat) : Bool := !anyOut l (k : Int)
def symsL (l : List (Int × Int)) : List Int := if rightL l = true then upTo (keepS l) 8 else []
set_option maxHeartbeats 1000000 in
theorem hood_Syms (A : Option Addr) (n c : Nat) (l : List (Int × Int)) (w : World) (hM : Mx w) (hR : Rd encP 2 w A n l) (hn : n ≤ 1000000) :
    Calls Tryd.prog 43 #[.slice A n c] w fun e w' => ∃ A n c, e = .returned (.slice A n c) ∧ Rd encI 1 w' A n (symsL l) ∧ n ≤ 8 ∧ Below w.heap.size w w' := by
  have hz := hM.1
  cases hr : rightL l with
  | false =>
    have hcl := Lib.hid (show symsL l = [] by unfold symsL; rw [hr]; rfl)
    go_enter Tryd.func43, Tryd.ntmps43
    go_wp2_with (first | (go_at_call 41; refine (hood_Right _ _ _ _ _ (hR.of (by (repeat' (first | exact Below.refl _ _ | assumption | (refine Below.alloc ?_ ?_ _) | (refine Below.setCell ?_ ?_ _) | (refine Below.drew ?_) | (refine below_drewN ?_ _) | (refine below_after (Ext.below _) ?_ ?_) | (refine below_after (by assumption) ?_ ?_) | (simp; done) | omega | (simp; omega)))))).mono ?_; rintro e w1 ⟨rfl, hb1⟩; obtain ⟨hc1, hf1⟩ := bcell hb1; have hs1 := hb1.size; (try simp only [World.size_alloc, World.size_setCell, World.size_drew] at hc1 hf1); (try simp at hs1)))
    go_ret
    exact ⟨none, 0, 0, rfl, by rw [hcl.out]; exact Rd.nil_, by omega, by (repeat' (first | exact Below.refl _ _ | assumption | (refine Below.alloc ?_ ?_ _) | (refine Below.setCell ?_ ?_ _) | (refine Below.drew ?_) | (refine below_drewN ?_ _) | (refine below_after (Ext.below _) ?_ ?_) | (refine below_after (by assumption) ?_ ?_) | (simp; done) | omega | (simp; omega)))⟩
  | true =>
    have hcl := Lib.hid (show symsL l = upTo (keepS l) 8 by unfold symsL; rw [hr]; rfl)
    go_enter Tryd.func43, Tryd.ntmps43
    go_wp2_with (first | (go_at_call 41; refine (hood_Right _ _ _ _ _ (hR.of (by (repeat' (first | exact Below.refl _ _ | assumption | (refine Below.alloc ?_ ?_ _) | (refine Below.setCell ?_ ?_ _) | (refine Below.drew ?_) | (refine below_drewN ?_ _) | (refine below_after (Ext.below _) ?_ ?_) | (refine below_after (by assumption) ?_ ?_) | (simp; done) | omega | (simp; omega)))))).mono ?_; rintro e w1 ⟨rfl, hb1⟩; obtain ⟨hc1, hf1⟩ := bcell hb1; have hs1 := hb1.size; (try simp only [World.size_alloc, World.size_setCell, World.size_drew] at hc1 hf1); (try simp at hs1)))
    go_loopw [3, 8] (fun v i wr => ∃ (B : Option Addr) (m d k : Nat), v = .slice B m d ∧ i = .int .i64 k ∧ k ≤ 8 ∧ m ≤ k ∧ Own encI 1 3 (w.heap.size + 1) wr B m d (upTo (keepS l) k) ∧ Below (w.heap.size + 1) (w.alloc (.cells #[.slice A n c] 47)) wr) (fun _ i _ => 8 - (intOf i).toNat)
    case atStart => exact ⟨none, 0, 0, 0, rfl, rfl, by omega, by omega, Own.nil_, by (repeat' (first | exact Below.refl _ _ | assumption | (refine Below.alloc ?_ ?_ _) | (refine Below.setCell ?_ ?_ _) | (refine Below.drew ?_) | (refine below_drewN ?_ _) | (refine below_after (Ext.below _) ?_ ?_) | (refine below_after (by assumption) ?_ ?_) | (simp; done) | omega | (simp; omega)))⟩
    case round =>
      obtain ⟨B, m, d, k, rfl, rfl, hk, hmk, hown, hb⟩ := hrel
      obtain ⟨hc, hf⟩ := bcell hb
      have hs := hb.size
      (try simp at hs)
      by_cases hlt : k < 8
      · have hcell : wr.cell? ⟨w.heap.size, 0, none⟩ = some (.slice A n c) := by rw [hb.cell (p := ⟨w.heap.size, 0, none⟩) (by show w.heap.size < _; omega)]; simp [cell_alloc_if, cellOf]
        have hbw : Below w.heap.size w wr := below_after hb ((Below.refl _ _).alloc (Nat.le_refl _) _) (by omega)
        have hba := (Below.refl wr.heap.size wr).alloc (Nat.le_refl _) (.cells #[.int .i64 (k : Int)] 3)
        have hcf := containsFunc_out A n c l (k : Int) w.heap.size wr.heap.size (wr.alloc (.cells #[.int .i64 (k : Int)] 3)) ((hM.of hbw).of hba) ((hR.of hbw).of hba) hn
          (by rw [hba.cell (p := ⟨w.heap.size, 0, none⟩) (by show w.heap.size < _; omega)]; exact hcell) (by simp [cell_alloc_if, cellOf]) (by rw [World.size_alloc]; omega) (by rw [World.size_alloc]; omega)
        cases hq : anyOut l (k : Int) with
        | true =>
          rw [hq] at hcf
          have hu := Lib.hid (upTo_no (S := keepS l) (i := k) (by unfold keepS; rw [hq]; rfl))
          go_wp2_with (first | (go_at_call 64; refine (hcf).mono ?_; rintro e w2 ⟨rfl, hb2⟩; obtain ⟨hc2, hf2⟩ := bcell hb2; have hs2 := hb2.size; (try simp only [World.size_alloc, World.size_setCell, World.size_drew] at hc2 hf2); (try simp at hs2)))
          go_roundw
          case rel => exact ⟨B, m, d, k + 1, rfl, by go_num, by omega, by omega, by rw [hu.out]; exact (hown.alloc _).of hb2, by (repeat' (first | exact Below.refl _ _ | assumption | (refine Below.alloc ?_ ?_ _) | (refine Below.setCell ?_ ?_ _) | (refine Below.drew ?_) | (refine below_drewN ?_ _) | (refine below_after (Ext.below _) ?_ ?_) | (refine below_after (by assumption) ?_ ?_) | (simp; done) | omega | (simp; omega)))⟩
          case measure => simp [intOf]; omega
        | false =>
          rw [hq] at hcf
          have hu := Lib.hid (upTo_yes (S := keepS l) (i := k) (by unfold keepS; rw [hq]; rfl))
          go_wp2_with (first | (go_at_call 64; refine (hcf).mono ?_; rintro e w2 ⟨rfl, hb2⟩; obtain ⟨hc2, hf2⟩ := bcell hb2; have hs2 := hb2.size; (try simp only [World.size_alloc, World.size_setCell, World.size_drew] at hc2 hf2); (try simp at hs2)) | (at_builtin; refine wpList_append_el rfl (.tmp 15) (.tmp 17) 38 rfl encI 1 3 (.int .i64 0) 8 Tryd.underlying38 (by kernel_rfl) rfl (by decide) encI_len encI_one (w.heap.size + 1) _ _ _ _ rfl (((hown.alloc _).of hb2).alloc _) (k : Int) ⟨(w2).heap.size, 0, none⟩ 1 rfl (cells_new (w2) _ _) (by omega) (by omega) (by simp; omega) ?_; intro A3 c3 w3 hown3 hg3 hb3; obtain ⟨hc3, hf3⟩ := bcell hb3; have hs3 := hb3.size; (try simp only [World.size_alloc, World.size_setCell, World.size_drew] at hc3 hf3); (try simp at hs3)))
          go_roundw
          case rel => exact ⟨A3, m + 1, c3, k + 1, rfl, by go_num, by omega, by omega, by rw [hu.out]; exact hown3, by (repeat' (first | exact Below.refl _ _ | assumption | (refine Below.alloc ?_ ?_ _) | (refine Below.setCell ?_ ?_ _) | (refine Below.drew ?_) | (refine below_drewN ?_ _) | (refine below_after (Ext.below _) ?_ ?_) | (refine below_after (by assumption) ?_ ?_) | (simp; done) | omega | (simp; omega)))⟩
          case measure => simp [intOf]; omega
      · obtain rfl : k = 8 := by omega
        go_wp2
        go_ret
        exact ⟨B, m, d, rfl, by rw [hcl.out]; exact hown.rd encI_len, hmk, by (repeat' (first | exact Below.refl _ _ | assumption | (refine Below.alloc ?_ ?_ _) | (refine Below.setCell ?_ ?_ _) | (refine Below.drew ?_) | (refine below_drewN ?_ _) | (refine below_after (Ext.below _) ?_ ?_) | (refine below_after (by assumption) ?_ ?_) | (simp; done) | omega | (simp; omega)))⟩
end Go.Proofs.YtobbkclfbbblaaaDoor
