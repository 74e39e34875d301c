/- The reference's From and Pattern at a torus of 32 by 32. -/
import Derived.Test.YtellglbmbocgkaaGreatDoorTorF
import Derived.Test.YtellglbmbocgkaaGreatDoorTorB
namespace Go.Proofs.YtellglbmbocgkaaGreatDoor
open Go Go.RowKit
set_option linter.unusedSimpArgs false
set_option linter.unusedVariables false
set_option maxRecDepth 100000
set_option linter.unusedSimpArgs false
set_option linter.unusedVariables false
theorem stoG_zero (l : List (Int × Int × Int)) : stoG l 0 = List.replicate 1024 0 := rfl
set_option maxHeartbeats 8000000 in
theorem r21_From (P : Option Addr) (k e : Nat) (p : List (Int × Int × Int)) (w : World) (hR : Rd encC 3 w P k p) (hr : rightC p = true) (hin : ∀ c ∈ p, (0 ≤ c.1 ∧ c.1 < 32) ∧ 0 ≤ c.2.1 ∧ c.2.1 < 32) :
    Calls Tryz.prog 19 #[.slice P k e, .int .i64 32, .int .i64 32, .int .i64 1] w fun e' w' => ∃ G, e' = .returned (.tuple #[.agg #[.int .i64 32, .int .i64 32, .int .i64 1, .slice (some ⟨G, 0, none⟩) 1024 1024], .int .i64 0]) ∧ Rd encI 1 w' (some ⟨G, 0, none⟩) 1024 (grF fun x y => getC p (x : Int) (y : Int)) ∧ Below w.heap.size w w' := by
  have hk5 : k ≤ 5000 := by rw [← hR.len]; exact (rightC_ok hr).1
  have kR := fun w1 h1 => ref05_Right P k e p w1 h1 (by omega)
  simp only [hr] at kR
  have hsto := sto_grid (rightC_sorted hr) hin
  have hpl := hR.len
  rw [hpl] at hsto
  rw [← hsto]
  replace hin := Lib.hid hin
  clear hr hpl hsto
  have hmk : ∀ w : World, (Instr.makeSlice 54 (.int .i64 1024) (.int .i64 1024)).run Tryz.prog w = .ok (.slice (some ⟨w.heap.size, 0, none⟩) 1024 1024) (w.alloc (.cells (madeCells #[.int .i64 0] 1024) 3)) := fun w => run_make_ints Tryz.underlying54 1024 (by omega) w
  have hO := fun w0 : World => own_made w0 3 w0.heap.size (Nat.le_refl _) 1024 (by omega)
  rw [← stoG_zero p] at hO
  obtain ⟨mc, hmc⟩ : ∃ mc, mc = madeCells #[(.int .i64 0 : Value)] 1024 := ⟨_, rfl⟩
  rw [← hmc] at hmk hO
  clear hmc
  go_enter Tryz.func19, Tryz.ntmps19
  go_wp2_with fail
  have br0 := BxW.new w [.int .i64 0, .int .i64 0, .int .i64 0, .slice none 0 0] 56
  rw [arr4T] at br0
  have hbe : Below w.heap.size w (w.alloc (.cells #[.int .i64 0, .int .i64 0, .int .i64 0, .slice none 0 0] 56)) := (Below.refl _ _).alloc (Nat.le_refl _) _
  have hse : (w.alloc (.cells #[.int .i64 0, .int .i64 0, .int .i64 0, .slice none 0 0] 56)).heap.size = w.heap.size + 1 := by simp
  obtain ⟨we, hwe⟩ : ∃ we, we = w.alloc (.cells #[.int .i64 0, .int .i64 0, .int .i64 0, .slice none 0 0] 56) := ⟨_, rfl⟩
  rw [← hwe] at br0 hbe hse ⊢
  clear hwe
  go_wp2_with fail; go_at_call 43; refine (kR _ (hR.of hbe)).mono ?_; rintro e w1 ⟨rfl, hb1⟩; have hs1 := hb1.size; (try simp only [World.size_alloc, World.size_drew, World.size_setCell] at hs1)
  go_wp2_with fail; go_at_call 45; refine (r21_Size _).mono ?_; rintro e w2 ⟨rfl, hb2⟩; have hs2 := hb2.size; (try simp only [World.size_alloc, World.size_drew, World.size_setCell] at hs2)
  have br2 := (br0.of hb1).of hb2
  have hB2 : Below w.heap.size w w2 := (hbe.trans (hb1.mono hbe.size)).trans (hb2.mono (hbe.trans (hb1.mono hbe.size)).size)
  have hs2 : w.heap.size < w2.heap.size := by omega
  go_wp2_with fail
  have bo0 := BxW.new (w2.alloc (.cells mc 3)) [.int .i64 32, .int .i64 32, .int .i64 1, .slice (some ⟨w2.heap.size, 0, none⟩) 1024 1024] 56
  rw [arr4T, World.size_alloc] at bo0
  have hO0 := (hO w2).alloc (.cells #[.int .i64 32, .int .i64 32, .int .i64 1, .slice (some ⟨w2.heap.size, 0, none⟩) 1024 1024] 56)
  have hbl : Below w2.heap.size w2 ((w2.alloc (.cells mc 3)).alloc (.cells #[.int .i64 32, .int .i64 32, .int .i64 1, .slice (some ⟨w2.heap.size, 0, none⟩) 1024 1024] 56)) := (((Below.refl _ _).alloc (Nat.le_refl _) _).alloc (by simp) _)
  obtain ⟨wl, hwl⟩ : ∃ wl, wl = ((w2.alloc (.cells mc 3)).alloc (.cells #[.int .i64 32, .int .i64 32, .int .i64 1, .slice (some ⟨w2.heap.size, 0, none⟩) 1024 1024] 56)) := ⟨_, rfl⟩
  have hsl : wl.heap.size = w2.heap.size + 2 := by rw [hwl]; simp
  rw [← hwl] at bo0 hO0 hbl ⊢
  clear hwl hO hmk
  have hwr := Lib.hid (fun (wr : World) (hb : Below w2.heap.size wl wr) => ((hB2.trans (hbl.mono hB2.size)).trans (hb.mono hB2.size) : Below w.heap.size w wr))
  have br2w := Lib.hid (fun (wr : World) (hb : Below w2.heap.size wl wr) => ((br2.of hbl).ofB hb hs2 : BxW wr w.heap.size [.int .i64 0, .int .i64 0, .int .i64 0, .slice none 0 0]))
  clear br0 br2 hbl hbe hB2 hb1 hb2 hs1 hse
  obtain ⟨G, hG⟩ : ∃ G, G = w2.heap.size := ⟨_, rfl⟩
  rw [← hG] at bo0 hO0 hwr br2w hs2 hsl ⊢
  clear hG
  go_loopw [11] (fun t wr => ∃ j : Nat, t = .int .i64 j ∧ j ≤ k ∧ Own encI 1 3 G wr (some ⟨G, 0, none⟩) 1024 1024 (stoG p j) ∧ BxW wr (G + 1) [.int .i64 32, .int .i64 32, .int .i64 1, .slice (some ⟨G, 0, none⟩) 1024 1024] ∧ Below G wl wr) (fun t _ => k - (intOf t).toNat)
  case atStart => exact ⟨0, rfl, by omega, hO0, bo0, Below.refl _ _⟩
  case round =>
    clear hO0 bo0
    obtain ⟨j, rfl, hj, hO, hbo, hb⟩ := hrel
    have hsz : G + 2 ≤ wr.heap.size := by have := hb.size; omega
    by_cases hlj : j < k
    · have dj : decide ((j : Int) < k) = true := decide_eq_true (by omega)
      have dj' : decide (j < k) = true := decide_eq_true hlj
      obtain ⟨x, y, s, b, o, hx, rfl, hblk, g1, g2, g3⟩ := (hR.of (hwr.out wr hb)).cell hlj
      have hxy := hin.out _ (List.mem_of_getElem? hx.out)
      simp only at hxy
      obtain ⟨i, rfl⟩ : ∃ i : Nat, x = (i : Int) := ⟨x.toNat, by omega⟩
      obtain ⟨q, rfl⟩ : ∃ q : Nat, y = (q : Int) := ⟨y.toNat, by omega⟩
      obtain ⟨K, hK⟩ : ∃ K : Nat, K = q * 32 + i := ⟨_, rfl⟩
      have eK : (q : Int) * 32 + (i : Int) = (K : Int) := by omega
      have hKq : K < 1024 := by omega
      have hset := Lib.hid (show stoG p (j + 1) = (stoG p j).set K s by rw [stoG_succ hx.out, hK]; rfl)
      have d1 : decide ((i : Int) < 0) = false := decide_eq_false (by omega)
      have d2 : decide ((32 : Int) ≤ i) = false := decide_eq_false (by omega)
      have d3 : decide ((q : Int) < 0) = false := decide_eq_false (by omega)
      have d4 : decide ((32 : Int) ≤ q) = false := decide_eq_false (by omega)
      have d5 : decide (32 ≤ i) = false := decide_eq_false (by omega)
      have d6 : decide (32 ≤ q) = false := decide_eq_false (by omega)
      replace hK := Lib.hid hK
      clear hx
      have hba : Below wr.heap.size wr (wr.alloc (.cells #[.int .i64 (i : Int), .int .i64 (q : Int), .int .i64 s] 79)) := (Below.refl _ _).alloc (Nat.le_refl _) _
      have hOa := hO.of hba
      have hboa := hbo.of hba
      have hca := TrAt.new wr (.int .i64 (i : Int)) (.int .i64 (q : Int)) (.int .i64 s) 79
      have hbw := hb.trans (hba.mono (by omega))
      obtain ⟨hbl4, k0, k1, k2, k3, _⟩ := hboa.open4
      obtain ⟨v, hg0, hc0, hz0⟩ := own_intT hOa hKq
      go_wp2_with fail
      go_roundw
      case rel => exact ⟨j + 1, by go_num, by omega, by rw [hset.out]; exact own_setI hOa hKq s, hboa.off _ _ (by omega), hbw.setCell (Nat.le_refl _) _⟩
      case measure => simp [intOf]; omega
    · obtain rfl : j = k := by omega
      have dj : decide ((j : Int) < j) = false := decide_eq_false (by omega)
      have dj' : decide (j < j) = false := decide_eq_false hlj
      obtain ⟨_, p0, p1, p2, p3, _⟩ := hbo.open4
      obtain ⟨_, y0, y1, y2, y3, f0, f1, f2, f3⟩ := (br2w.out wr hb).open4
      have hRo := hO.rd encI_len
      have hbw := hwr.out wr hb
      go_wp2_with fail
      refine bodyPost_ret (v := .tuple #[.agg #[.int .i64 32, .int .i64 32, .int .i64 1, .slice (some ⟨G, 0, none⟩) 1024 1024], .int .i64 0]) (by simp [results, Tryz.results19, go_sem, *, ↓IntWalk.iteOmega]) rfl ?_
      refine ⟨G, rfl, rd_set4T hRo hs2, ?_⟩
      exact (((hbw.setCell (Nat.le_refl _) _).setCell (Nat.le_refl _) _).setCell (Nat.le_refl _) _).setCell (Nat.le_refl _) _
end Go.Proofs.YtellglbmbocgkaaGreatDoor
