/- The reference's Pattern at a torus of 32 by 32. -/
import Derived.Test.YtellglbmbocgkaaGreatDoorTorF
import Derived.Test.YtellglbmbocgkaaGreatDoorCell8
namespace Go.Proofs.YtellglbmbocgkaaGreatDoor
open Go Go.RowKit
set_option linter.unusedSimpArgs false
set_option linter.unusedVariables false
set_option maxRecDepth 100000
set_option linter.unusedSimpArgs false
set_option linter.unusedVariables false
theorem wr_small {x : Int} {q : Nat} (e : x = (q : Int)) (h : q < 4096) : IntKind.i64.wrap x = (q : Int) ∧ wrap64 x = (q : Int) := by
  subst e
  exact ⟨IntWalk.i64_in _ (by omega), by unfold wrap64; omega⟩
set_option maxHeartbeats 8000000 in
theorem r21_Pattern (A : Option Addr) (c : Nat) (g : List Int) (w : World) (hR : Rd encI 1 w A 1024 g) (hg : OkG 8 g) :
    Calls Tryz.prog 21 #[.agg #[.int .i64 32, .int .i64 32, .int .i64 1, .slice A 1024 c]] w fun e w' => ∃ P k d, e = .returned (.slice P k d) ∧ Rd encC 3 w' P k (patG g 1024) ∧ k ≤ 1024 ∧ Below w.heap.size w w' := by
  have kR := fun w1 h => r21_Right A c g w1 h hg
  clear hg
  go_enter Tryz.func21, Tryz.ntmps21
  go_wp2_with fail
  have hbx := BxW.new w [.int .i64 32, .int .i64 32, .int .i64 1, .slice A 1024 c] 56
  rw [arr4T] at hbx
  have hbe : Below w.heap.size w (w.alloc (.cells #[.int .i64 32, .int .i64 32, .int .i64 1, .slice A 1024 c] 56)) := (Below.refl _ _).alloc (Nat.le_refl _) _
  obtain ⟨we, hwe⟩ : ∃ we, we = w.alloc (.cells #[.int .i64 32, .int .i64 32, .int .i64 1, .slice A 1024 c] 56) := ⟨_, rfl⟩
  rw [← hwe] at hbx hbe ⊢
  clear hwe
  obtain ⟨hbl, g0, g1, g2, g3, _⟩ := hbx.open4
  go_wp2_with fail; go_at_call 48; refine (kR _ (hR.of hbe)).mono ?_; rintro e w1 ⟨rfl, hb1⟩; have hs1 := hb1.size; (try simp only [World.size_alloc, World.size_drew, World.size_setCell] at hs1)
  have hbx1 := hbx.of hb1
  have hB1 := hbe.trans (hb1.mono hbe.size)
  have hR1 := hR.of hB1
  have hbl1 := hbx1.1
  clear hbx g0 g1 g2 g3 hR hb1
  go_wp2_with fail
  go_loopw [3, 4] (fun v t wr => ∃ (E : Option Addr) (n e j : Nat), v = .slice E n e ∧ t = .int .i64 j ∧ j ≤ 1024 ∧ n ≤ j ∧ Own encC 3 79 w1.heap.size wr E n e (patG g j) ∧ Below w1.heap.size w1 wr) (fun _ t _ => 1024 - (intOf t).toNat)
  case atStart => exact ⟨none, 0, 0, 0, rfl, rfl, by omega, by omega, Own.nil_, Below.refl _ _⟩
  case round =>
    obtain ⟨E, n, e, j, rfl, rfl, hj, hnj, hown, hb⟩ := hrel
    have hsz := hb.size
    obtain ⟨_, x0, x1, x2, x3, _⟩ := (hbx1.of hb).open4
    by_cases hlt : j < 1024
    · have dj : decide ((j : Int) < 1024) = true := decide_eq_true (by omega)
      have dj' : decide (j < 1024) = true := decide_eq_true hlt
      obtain ⟨s, b, o, hx, rfl, hblk, gv0⟩ := hR1.int hlt
      have gv := (hb.cell (p := ⟨_, _, none⟩) hblk).trans gv0
      clear gv0
      have hgd : g.getD j 0 = s := by rw [List.getD_eq_getElem?_getD, hx.out]; rfl
      by_cases hs : s = 0
      · have hst := Lib.hid (show patG g (j + 1) = patG g j by rw [patG_succ, hgd, if_pos hs, List.append_nil])
        subst hs
        clear hgd hx
        go_wp2_with fail
        go_roundw
        case rel => exact ⟨E, n, e, j + 1, rfl, by go_num, by omega, by omega, by rw [hst.out]; exact hown, hb⟩
        case measure => simp [intOf]; omega
      · have hst := Lib.hid (show patG g (j + 1) = patG g j ++ [(((j % 32 : Nat) : Int), ((j / 32 : Nat) : Int), s)] by rw [patG_succ, hgd, if_neg hs])
        have ds : (s == 0) = false := by simpa using hs
        have ds' : decide (s = 0) = false := decide_eq_false hs
        obtain ⟨m, hm⟩ : ∃ m, m = j % 32 := ⟨_, rfl⟩
        obtain ⟨q, hq⟩ : ∃ q, q = j / 32 := ⟨_, rfl⟩
        have hm2 : m < 32 := by omega
        have hq2 : q < 32 := by omega
        obtain ⟨K, hK⟩ : ∃ K : Int, K = 32 := ⟨_, rfl⟩
        have kz : (K == 0) = false := by rw [hK]; rfl
        have kz1 : ¬ K = 0 := by omega
        have i0 : (0 : Int) ≤ (j : Int) := by omega
        have i1 : (j : Int) < 1024 := by omega
        have em : (j : Int).tmod K = (m : Int) := by rw [hK, hm]; rfl
        have ed : (j : Int).tdiv K = (q : Int) := by rw [hK, hq]; rfl
        rw [← hm, ← hq] at hst
        obtain ⟨ed', ed2⟩ := wr_small ed (Nat.lt_trans hq2 (by decide))
        have wq : IntKind.i64.wrap (q : Int) = (q : Int) := (wr_small rfl (Nat.lt_trans hq2 (by decide))).1
        obtain ⟨em', em2⟩ := wr_small em (Nat.lt_trans hm2 (by decide))
        rw [← hK] at x0
        replace hK := Lib.hid hK
        replace hm := Lib.hid hm
        replace hq := Lib.hid hq
        clear hgd hx
        go_wp2_with fail
        (go_region_held3 (fun w' => w'.cell? ⟨w.heap.size, 0, none⟩ = some (.int .i64 K) ∧ w'.cell? ⟨w.heap.size, 3, none⟩ = some (.slice (some ⟨b, o, none⟩) 1024 c) ∧ w'.cell? ⟨b, o + j, none⟩ = some (.int .i64 s)) (first | go_keep | (go_split_ands; refine ⟨?_, ?_, ?_⟩ <;> first | go_keep | (rw [hb4.cell (p := ⟨_, _, none⟩) (by first | omega | (simp; done) | (simp; omega))]; go_keep))) ((refine step_append_el (by rfl) (.tmp 21) (.tmp 36) 27 (by rfl) encC 3 79 (.agg #[.int .i64 0, .int .i64 0, .int .i64 0]) 24 Tryz.underlying27 (by kernel_rfl) rfl (by decide) encC_len encC_one (w1.heap.size) _ _ _ _ (by rfl) ((hown.alloc _).drew) ((m : Int), (q : Int), s) ⟨(wr).heap.size, 0, none⟩ 1 (by rfl) (cells_new (wr) _ _) (by omega) (by omega) (by first | omega | (simp; done) | (simp; omega)) ?_; intro A4 c4 w4 hown4 hg4 hb4)))
        (try go_split_ands)
        go_wp2_with fail
        go_roundw
        case rel => exact ⟨A4, n + 1, c4, j + 1, rfl, by go_num, by omega, by omega, by rw [hst.out]; exact hown4, below_after hb4 ((hb.alloc hsz _).drew) (Nat.le_refl _)⟩
        case measure => simp [intOf]; omega
    · obtain rfl : j = 1024 := by omega
      go_wp2_with fail
      go_ret
      exact ⟨E, n, e, rfl, hown.rd encC_len, by omega, hB1.trans (hb.mono hB1.size)⟩
end Go.Proofs.YtellglbmbocgkaaGreatDoor
