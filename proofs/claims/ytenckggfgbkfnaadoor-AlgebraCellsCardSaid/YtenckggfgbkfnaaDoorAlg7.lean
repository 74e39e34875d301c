/- The contract of Turn's reference. -/
import Derived.Test.YtenckggfgbkfnaaDoorAlg6
namespace Go.Proofs.YtenckggfgbkfnaaDoor
open Go Go.RowKit
set_option linter.unusedSimpArgs false
set_option linter.unusedVariables false
set_option maxRecDepth 100000
attribute [local go_sem ↓ high] eq_cl neq_cl eq_pt neq_pt
set_option maxHeartbeats 4000000 in
theorem ref06_Turn (k : Int) (A : Option Addr) (n c : Nat) (l : List (Int × Int × Int)) (w : World) (hR : Rd encC 3 w A n l) (hn : n ≤ 1000000) :
    Calls Tryd.prog 18 #[.int .i64 k, .slice A n c] w fun e w' => ∃ A2 n2 c2, e = .returned (.tuple #[.slice A2 n2 c2, .int .i64 (tuE l)]) ∧ Rd encC 3 w' A2 n2 (tuL k l) ∧ n2 ≤ n ∧ Below w.heap.size w w' := by
  cases hr : rightC l with
  | false =>
    have HE := Lib.hid (show tuE l = 2 ∧ tuL k l = [] by unfold tuE tuL; rw [hr]; exact ⟨rfl, rfl⟩)
    have kR := fun w1 (h : Rd encC 3 w1 A n l) => ref05_RightV (A := A) (n := n) (c := c) hr w1 h (by omega)
    clear hr
    go_enter Tryd.func18, Tryd.ntmps18
    go_wp2_with fail; go_at_call 23; refine (kR _ hR).mono ?_; rintro e w1 ⟨rfl, hb1⟩; have hs1 := hb1.size; (try simp only [World.size_alloc, World.size_drew, World.size_setCell] at hs1)
    go_wp2_with fail
    go_ret2
    exact ⟨none, 0, 0, ret_pe HE.out.1.symm, by rw [HE.out.2]; exact Rd.nil_, by omega, by (repeat' (first | exact Below.refl _ _ | assumption | (refine Below.alloc ?_ ?_ _) | (refine Below.setCell ?_ ?_ _) | (refine Below.drew ?_) | (refine below_drewN ?_ _) | (refine below_after (Ext.below _) ?_ ?_) | (refine below_after (by assumption) ?_ ?_) | (simp; done) | omega | (simp; omega)))⟩
  | true =>
    have HE := Lib.hid (show tuE l = 0 ∧ tuL k l = trL k l by unfold tuE tuL; rw [hr]; exact ⟨rfl, rfl⟩)
    have HT := Lib.hid (tr_ref k hr)
    have hel := Lib.hid (okCells_right hr)
    have kR := fun w1 (h : Rd encC 3 w1 A n l) => ref05_RightV (A := A) (n := n) (c := c) hr w1 h (by omega)
    clear hr
    go_enter Tryd.func18, Tryd.ntmps18
    go_wp2_with fail; go_at_call 23; refine (kR _ hR).mono ?_; rintro e w1 ⟨rfl, hb1⟩; have hs1 := hb1.size; (try simp only [World.size_alloc, World.size_drew, World.size_setCell] at hs1)
    have hR1 := hR.of hb1
    have hB1 := hb1
    clear hb1 kR hR
    go_wp2_with fail
    go_loopw [6, 7] (fun v i wr => ∃ (E : Option Addr) (d j : Nat), v = .slice E j d ∧ i = .int .i64 j ∧ j ≤ n ∧ Own encC 3 54 w1.heap.size wr E j d ((l.take j).map (trn k)) ∧ Below w1.heap.size w1 wr) (fun _ i _ => n - (intOf i).toNat)
    case atStart => exact ⟨none, 0, 0, rfl, rfl, by omega, Own.nil_, Below.refl _ _⟩
    case round =>
      obtain ⟨E, d, j, rfl, rfl, hj, hown, hb⟩ := hrel
      obtain ⟨hc, hf⟩ := bcell hb
      have hs := hb.size
      by_cases hlt : j < n
      · have dj : decide ((j : Int) < n) = true := decide_eq_true (by omega)
        obtain ⟨x', y', s', bo, o, hx, rfl, hbl, g1, g2, g3⟩ := hR1.cell hlt
        have hpt := pt_i64 (hel.out _ (List.mem_of_getElem? hx.out)).1
        have kA := fun w9 => refApplyS k x' y' w9 hpt.1 hpt.2
        have hst := Lib.hid (show (l.take (j + 1)).map (trn k) = (l.take j).map (trn k) ++ [((app k x' y').1, (app k x' y').2, s')] from map_step (trn k) hx.out)
        clear hpt
        generalize (app k x' y').1 = u1 at hst kA
        generalize (app k x' y').2 = u2 at hst kA
        go_wp2_with fail
        (refine' wp_region_fresh1 [false, false, false, false, false, false, false, false, false, false, false, false, false, true, true] 13 14 8 30 39 (.agg #[.int .i64 0, .int .i64 0]) _ (fun u hu => ?hq) (by kernel_rfl) (by kernel_rfl) (by kernel_rfl) (by kernel_rfl) rfl rfl Tryd.zeroValue39 ?s1 ?s2 ?s3 ?s4 ?s5 ?s6 ?fin; (case hq => (obtain ⟨hcu, hfu⟩ := bcell hu; have hsu := hu.size; simp only [stripM, blankO]; (repeat (go_big_quiet_step ((go_at_call 47; exact calls_ext (kA _))))); refine wpQuiet_nil ?_; rfl)); (case s1 => rfl); (case s2 => simp); (case s3 => rfl); (case s4 => kernel_rfl); (case s5 => rfl); (case s6 => simp [Value.oneCell']); intro bk5 w5 hbl5 hbh5 hb5 hh5; obtain ⟨hc5, hf5⟩ := bcell hb5; have hs5 := hb5.size; have hk5 := cellOf_row hh5; have hl5 := frozenOf_row hh5; clear hh5; (try simp only [World.size_alloc, World.size_setCell, World.size_drew] at hc5 hf5); (try simp at hs5 hbl5); simp only [Act.put, List.setIfInBounds_toArray, List.set_cons_zero, List.set_cons_succ])
        have q1 : w5.cell? ⟨bk5, 0, none⟩ = some (.int .i64 u1) := hk5 0
        have q2 : w5.cell? ⟨bk5, 1, none⟩ = some (.int .i64 u2) := hk5 1
        have q3 : w5.cell? ⟨bo, o + j * 3 + 2, none⟩ = some (.int .i64 s') := by rw [hb5.cell (p := ⟨_, _, none⟩) (by show bo < _; omega), hb.cell (p := ⟨_, _, none⟩) hbl]; exact g3
        have hown5 := hown.of hb5
        have hrow : ∀ g, (Value.slice E j d).ownBlock = some g → g < wr.heap.size := fun g hg => (hown.row.lt g hg).2
        have hB5 : Below w1.heap.size w1 w5 := below_after hb5 hb (by omega)
        have i0 : (0 : Int) ≤ j := by omega
        have i1 : (j : Int) < n := by omega
        clear hc hf hc5 hf5 hk5 hl5 g1 g2 g3
        go_wp2_with fail
        (go_region_held3 (fun w' => w'.cell? ⟨bk5, 0, none⟩ = some (.int .i64 u1) ∧ w'.cell? ⟨bk5, 1, none⟩ = some (.int .i64 u2) ∧ w'.cell? ⟨bo, o + j * 3 + 2, none⟩ = some (.int .i64 s')) (first | go_keep | (go_split_ands; refine ⟨?_, ?_, ?_⟩ <;> first | go_keep | (exact (World.cell?_of_block (hg4.block _ (by simp; omega) (fun e => by have := hrow _ e.symm; simp only at this; omega))).trans (by go_keep)) | (rw [hb4.cell (p := ⟨_, _, none⟩) (by first | omega | (simp; done) | (simp; omega))]; go_keep))) ((refine step_append_el (by rfl) (.tmp 31) (.tmp 42) 22 (by rfl) encC 3 54 (.agg #[.int .i64 0, .int .i64 0, .int .i64 0]) 24 Tryd.underlying22 (by kernel_rfl) rfl (by decide) encC_len encC_one (w1.heap.size) _ _ _ _ (by rfl) (hown5.drew.alloc _) (u1, u2, s') ⟨(w5.drew).heap.size, 0, none⟩ 1 (by rfl) (cells_new (w5.drew) _ _) (by omega) (by omega) (by first | omega | (simp; done) | (simp; omega)) ?_; intro A4 c4 w4 hown4 hg4 hb4)))
        go_wp2
        go_roundw
        case rel => exact ⟨A4, c4, j + 1, rfl, by go_num, by omega, by rw [hst.out]; exact hown4, below_after hb4 (bl_of_drew_alloc hB5 _) (by have := hB5.size; first | omega | (simp; done) | (simp; omega))⟩
        case measure => simp [intOf]; omega
      · obtain rfl : j = n := by omega
        have dj : decide ((j : Int) < j) = false := decide_eq_false (by omega)
        rw [List.take_of_length_le (by rw [hR1.len]; omega)] at hown
        have hO := hown.rd encC_len
        clear hc hf
        go_wp2_with fail; go_at_call 41; refine (ref06_sorted _ _ _ _ _ hO (by omega)).mono ?_; rintro e w9 ⟨A9, n9, c9, rfl, hR9, hn9, hb9⟩; have hs9 := hb9.size; (try simp only [World.size_alloc, World.size_drew, World.size_setCell] at hs9)
        rw [HT.out.2] at hR9
        go_wp2_with fail
        go_ret2
        exact ⟨A9, n9, c9, ret_pe (by rw [HT.out.1, HE.out.1]), by rw [HE.out.2]; exact hR9, hn9, below_after hb9 (below_after hb hB1 hB1.size) (by omega)⟩
end Go.Proofs.YtenckggfgbkfnaaDoor
