/- The contract of chapter 03's awake. -/
import Derived.Test.YtnhnkmppmicjoaaBoxAt
import Derived.Test.YtnhnkmppmicjoaaBox2
import Derived.Test.YtnhnkmppmicjoaaBox3
import Derived.Test.YtnhnkmppmicjoaaBox4
import Derived.Test.YtnhnkmppmicjoaaPoints2
import Derived.Test.YtnhnkmppmicjoaaAround2
import Derived.Test.YtnhnkmppmicjoaaSortR
import Derived.Test.YtnhnkmppmicjoaaSame3
import Derived.Deep.RegionHeld3
namespace Go.Proofs.Ytnhnkmppmicjoaa
open Go Go.RowKit
set_option linter.unusedSimpArgs false
set_option linter.unusedVariables false
set_option maxRecDepth 100000
attribute [local go_sem ↓ high] eq_pt neq_pt eq_box neq_box
def ptsE : List (Int × Int) := [(1, 2), (2, 2), (1, 3), (2, 3)]
def srtE : List (Int × Int) := [(5, 0), (2, 1)]
theorem pointsV (w : World) : Calls Try.prog 25 #[.agg #[.int .i64 1, .int .i64 2, .int .i64 2, .int .i64 2]] w fun e w' => ∃ A c, e = .returned (.slice A 4 c) ∧ Rd encP 2 w' A 4 ptsE ∧ Below w.heap.size w w' := by
  refine (point_Points 1 2 2 2 w).mono ?_
  rintro e w1 ⟨A, n, c, rfl, hR, hn, hb⟩
  rw [show ptsL 1 2 2 2 = ptsE by decide +kernel] at hR
  obtain rfl : n = 4 := by rw [← hR.len]; rfl
  exact ⟨A, c, rfl, hR, hb⟩
theorem meetV (w : World) : Calls Try.prog 31 #[.agg #[.int .i64 0, .int .i64 0, .int .i64 4, .int .i64 4], .agg #[.int .i64 2, .int .i64 3, .int .i64 5, .int .i64 5]] w fun e w' => e = .returned (.tuple #[.agg #[.int .i64 2, .int .i64 3, .int .i64 2, .int .i64 1], .bool true]) ∧ Below w.heap.size w w' := by
  have h := point_Meet 0 0 4 4 2 3 5 5 w
  unfold meetVal at h
  rw [show meetX 0 0 4 4 2 3 5 5 = 2 by decide +kernel, show meetY 0 0 4 4 2 3 5 5 = 3 by decide +kernel, show meetW 0 0 4 4 2 3 5 5 = 2 by decide +kernel, show meetH 0 0 4 4 2 3 5 5 = 1 by decide +kernel, show meetOk 0 0 4 4 2 3 5 5 = true by decide +kernel] at h
  exact h
theorem joinVV (w : World) : Calls Try.prog 33 #[.agg #[.int .i64 0, .int .i64 0, .int .i64 4, .int .i64 4], .agg #[.int .i64 2, .int .i64 3, .int .i64 5, .int .i64 5]] w fun e w' => e = .returned (.agg #[.int .i64 0, .int .i64 0, .int .i64 7, .int .i64 8]) ∧ Below w.heap.size w w' := by
  have h := point_Join 0 0 4 4 2 3 5 5 w
  unfold joinVal at h
  rw [show joinX 0 0 4 4 2 3 5 5 = 0 by decide +kernel, show joinY 0 0 4 4 2 3 5 5 = 0 by decide +kernel, show joinW 0 0 4 4 2 3 5 5 = 7 by decide +kernel, show joinH 0 0 4 4 2 3 5 5 = 8 by decide +kernel] at h
  exact h
theorem growV1 (w : World) : Calls Try.prog 29 #[.agg #[.int .i64 0, .int .i64 0, .int .i64 3, .int .i64 1], .int .i64 1] w fun e w' => e = .returned (.tuple #[.agg #[.int .i64 (-1), .int .i64 (-1), .int .i64 5, .int .i64 3], .int .i64 0]) ∧ Below w.heap.size w w' := by
  have h := point_Grow 0 0 3 1 1 w
  unfold growVal at h
  rw [show growX 0 0 3 1 1 = -1 by decide +kernel, show growY 0 0 3 1 1 = -1 by decide +kernel, show growW 0 0 3 1 1 = 5 by decide +kernel, show growH 0 0 3 1 1 = 3 by decide +kernel, show growE 0 0 3 1 1 = 0 by decide +kernel] at h
  exact h
theorem growV2 (w : World) : Calls Try.prog 29 #[.agg #[.int .i64 0, .int .i64 0, .int .i64 3, .int .i64 1], .int .i64 (-1)] w fun e w' => e = .returned (.tuple #[.agg #[.int .i64 0, .int .i64 0, .int .i64 0, .int .i64 0], .int .i64 6]) ∧ Below w.heap.size w w' := by
  have h := point_Grow 0 0 3 1 (-1) w
  unfold growVal at h
  rw [show growX 0 0 3 1 (-1) = 0 by decide +kernel, show growY 0 0 3 1 (-1) = 0 by decide +kernel, show growW 0 0 3 1 (-1) = 0 by decide +kernel, show growH 0 0 3 1 (-1) = 0 by decide +kernel, show growE 0 0 3 1 (-1) = 6 by decide +kernel] at h
  exact h
theorem aroundV (A : Option Addr) (c : Nat) (w : World) (hR : Rd encP 2 w A 4 ptsE) : Calls Try.prog 27 #[.slice A 4 c] w fun e w' => e = .returned (.tuple #[.agg #[.int .i64 1, .int .i64 2, .int .i64 2, .int .i64 2], .bool true]) ∧ Below w.heap.size w w' := by
  have h := point_Around A 4 c ptsE w hR (by omega)
  unfold arVal at h
  rw [show arX ptsE = 1 by decide +kernel, show arY ptsE = 2 by decide +kernel, show arW ptsE = 2 by decide +kernel, show arH ptsE = 2 by decide +kernel, show arOk ptsE = true by decide +kernel] at h
  exact h
theorem sortV (A : Option Addr) (c : Nat) (w : World) (hR : Rd encP 2 w A 3 [(2, 1), (5, 0), (2, 1)]) : Calls Try.prog 16 #[.slice A 3 c] w fun e w' => ∃ A c, e = .returned (.slice A 2 c) ∧ Rd encP 2 w' A 2 srtE ∧ Below w.heap.size w w' := by
  refine (point_Sort A 3 c _ w hR (by omega)).mono ?_
  rintro e w1 ⟨A, n, c, rfl, hR, hn, hb⟩
  rw [show sortL befQ [(2, 1), (5, 0), (2, 1)] = srtE by decide +kernel] at hR
  obtain rfl : n = 2 := by rw [← hR.len]; rfl
  exact ⟨A, c, rfl, hR, hb⟩
theorem compareV (w : World) : Calls Try.prog 17 #[.agg #[.int .i64 5, .int .i64 0], .agg #[.int .i64 2, .int .i64 1]] w fun e w' => e = .returned (.int .i64 (-1)) ∧ Below w.heap.size w w' := by
  have h := point_Compare 5 0 2 1 w
  rw [show cmpP 5 0 2 1 = -1 by decide +kernel] at h; exact h
theorem inV (w : World) : Calls Try.prog 23 #[.agg #[.int .i64 0, .int .i64 0, .int .i64 4, .int .i64 4], .agg #[.int .i64 3, .int .i64 3]] w fun e w' => e = .returned (.bool true) ∧ Below w.heap.size w w' := by
  have h := point_In 0 0 4 4 3 3 w
  rw [show boxInB 0 0 4 4 3 3 = true by decide +kernel] at h; exact h
theorem sameV (A B : Option Addr) (n m c d : Nat) (l : List (Int × Int)) (w : World) (hR : Rd encP 2 w A n l) (hS : Rd encP 2 w B m l) (hn : n ≤ 1000000) :
    Calls Try.prog 19 #[.slice A n c, .slice B m d] w fun e w' => e = .returned (.bool true) ∧ Below w.heap.size w w' := by
  have h := ref03_Same A B n m c d l l w hR hS hn
  rw [show sameL l l = true by unfold sameL; simp] at h; exact h
set_option maxHeartbeats 16000000 in
theorem awake_03 (w : World) : Calls Try.prog 15 #[] w fun e w' => e = .returned (.bool true) ∧ Below w.heap.size w w' := by
  go_enter Try.func15, Try.ntmps15
  go_wp2_with fail
  go_at_call 25
  refine (pointsV _).mono ?_
  rintro e w1 ⟨A1, c1, rfl, hR1, hB1⟩
  go_wp2_with fail
  go_at_call 31
  refine (meetV _).mono ?_
  rintro e w2 ⟨rfl, hb⟩
  have xa := ((BoxAt.new w1 0 0 4 4 31).alloc (.cells #[.int .i64 2, .int .i64 3, .int .i64 5, .int .i64 5] 31)).of hb
  have xb := (BoxAt.new (w1.alloc (.cells #[.int .i64 0, .int .i64 0, .int .i64 4, .int .i64 4] 31)) 2 3 5 5 31).of hb
  have hR1 := hR1.of (below_thruA2 hb)
  have hB2 := below_thru hB1 (below_thruA2 hb)
  rw [World.size_alloc] at xb
  clear hb hB1
  go_wp2_with fail
  go_at_call 29
  refine (growV1 _).mono ?_
  rintro e w3 ⟨rfl, hb⟩
  have xm := (BoxAt.new w2 2 3 2 1 31).of hb
  have xa := (xa.alloc _).of hb
  have xb := (xb.alloc _).of hb
  have hR1 := hR1.of (below_thruA (Below.refl _ _) hb)
  have hB3 := below_thruA hB2 hb
  clear hb hB2
  go_wp2_with fail
  go_at_call 29
  refine (growV2 _).mono ?_
  rintro e w4 ⟨rfl, hb⟩
  have xg := (BoxAt.new w3 (-1) (-1) 5 3 31).of hb
  have xm := (xm.alloc _).of hb
  have xa := (xa.alloc _).of hb
  have xb := (xb.alloc _).of hb
  have hR1 := hR1.of (below_thruA (Below.refl _ _) hb)
  have hB4 := below_thruA hB3 hb
  clear hb hB3
  go_wp2_with fail
  go_at_call 27
  refine (aroundV _ _ _ (hR1.of ((Below.refl _ _).alloc (Nat.le_refl _) _))).mono ?_
  rintro e w5 ⟨rfl, hb⟩
  have xg := (xg.alloc _).of hb
  have xm := (xm.alloc _).of hb
  have xa := (xa.alloc _).of hb
  have xb := (xb.alloc _).of hb
  have hR1 := hR1.of (below_thruA (Below.refl _ _) hb)
  have hB5 := below_thruA hB4 hb
  clear hb hB4
  go_wp2_with fail
  go_at_call 16
  have hl := rd_litP (w5.alloc (.cells #[.int .i64 1, .int .i64 2, .int .i64 2, .int .i64 2] 31)) [(2, 1), (5, 0), (2, 1)] #[.int .i64 2, .int .i64 1, .int .i64 5, .int .i64 0, .int .i64 2, .int .i64 1] 3 rfl (by omega) rfl
  rw [World.size_alloc] at hl
  refine (sortV _ _ _ hl).mono ?_
  clear hl
  rintro e w6 ⟨A6, c6, rfl, hR6, hb⟩
  have xr := ((BoxAt.new w5 1 2 2 2 31).alloc _).of hb
  have xg := ((xg.alloc _).alloc _).of hb
  have xm := ((xm.alloc _).alloc _).of hb
  have xa := ((xa.alloc _).alloc _).of hb
  have xb := ((xb.alloc _).alloc _).of hb
  have hR1 := hR1.of (below_thruA2 hb)
  have hB6 := below_thru hB5 (below_thruA2 hb)
  clear hb hB5
  obtain ⟨a0, a1, a2, a3, a4⟩ := xa
  obtain ⟨b0, b1, b2, b3, b4⟩ := xb
  obtain ⟨m0, m1, m2, m3, m4⟩ := xm
  obtain ⟨g0, g1, g2, g3, g4⟩ := xg
  obtain ⟨r0, r1, r2, r3, r4⟩ := xr
  go_wp2_with fail
  obtain ⟨x, y, bk, o, hx, rfl, hbl, hcell, hcell2⟩ := hR6.pt (i := 0) (by omega)
  obtain ⟨x', y', b', o', hx', he, hbl', hcell', hcell2'⟩ := hR6.pt (i := 1) (by omega)
  obtain ⟨rfl, rfl⟩ : bk = b' ∧ o = o' := by injection he with he; injection he with e1 e2; exact ⟨e1, e2⟩
  obtain ⟨rfl, rfl⟩ : (5 : Int) = x ∧ (0 : Int) = y := by have := hx.out; simp [srtE] at this; exact this
  obtain ⟨rfl, rfl⟩ : (2 : Int) = x' ∧ (1 : Int) = y' := by have := hx'.out; simp [srtE] at this; exact this
  rw [Nat.zero_mul, Nat.add_zero] at hcell hcell2
  rw [Nat.one_mul] at hcell' hcell2'
  clear he hx hx'
  have H1 : HRd encP 2 w6 A1 4 ptsE := ⟨hR1⟩
  have H6 : HRd encP 2 w6 (some ⟨bk, o, none⟩) 2 srtE := ⟨hR6⟩
  clear hR1 hR6
  simp only [List.append_eq, List.cons_append, List.nil_append]
  go_region_held3 (fun w' => w'.cell? ⟨bk, o, none⟩ = some (.int .i64 5) ∧ w'.cell? ⟨bk, o + 1, none⟩ = some (.int .i64 0) ∧ w'.cell? ⟨bk, o + 2, none⟩ = some (.int .i64 2) ∧ w'.cell? ⟨bk, o + 2 + 1, none⟩ = some (.int .i64 1) ∧ w'.cell? ⟨w1.heap.size, 0, none⟩ = some (.int .i64 0) ∧ w'.cell? ⟨w1.heap.size, 1, none⟩ = some (.int .i64 0) ∧ w'.cell? ⟨w1.heap.size, 2, none⟩ = some (.int .i64 4) ∧ w'.cell? ⟨w1.heap.size, 3, none⟩ = some (.int .i64 4) ∧ w'.cell? ⟨w1.heap.size + 1, 0, none⟩ = some (.int .i64 2) ∧ w'.cell? ⟨w1.heap.size + 1, 1, none⟩ = some (.int .i64 3) ∧ w'.cell? ⟨w1.heap.size + 1, 2, none⟩ = some (.int .i64 5) ∧ w'.cell? ⟨w1.heap.size + 1, 3, none⟩ = some (.int .i64 5) ∧ w'.cell? ⟨w2.heap.size, 0, none⟩ = some (.int .i64 2) ∧ w'.cell? ⟨w2.heap.size, 1, none⟩ = some (.int .i64 3) ∧ w'.cell? ⟨w2.heap.size, 2, none⟩ = some (.int .i64 2) ∧ w'.cell? ⟨w2.heap.size, 3, none⟩ = some (.int .i64 1) ∧ w'.cell? ⟨w3.heap.size, 0, none⟩ = some (.int .i64 (-1)) ∧ w'.cell? ⟨w3.heap.size, 1, none⟩ = some (.int .i64 (-1)) ∧ w'.cell? ⟨w3.heap.size, 2, none⟩ = some (.int .i64 5) ∧ w'.cell? ⟨w3.heap.size, 3, none⟩ = some (.int .i64 3) ∧ w'.cell? ⟨w5.heap.size, 0, none⟩ = some (.int .i64 1) ∧ w'.cell? ⟨w5.heap.size, 1, none⟩ = some (.int .i64 2) ∧ w'.cell? ⟨w5.heap.size, 2, none⟩ = some (.int .i64 2) ∧ w'.cell? ⟨w5.heap.size, 3, none⟩ = some (.int .i64 2) ∧ HRd encP 2 w' A1 4 ptsE ∧ HRd encP 2 w' (some ⟨bk, o, none⟩) 2 srtE ∧ RowKit.Below w.heap.size w w') (((try go_split_ands); refine ⟨?_, ?_, ?_, ?_, ?_, ?_, ?_, ?_, ?_, ?_, ?_, ?_, ?_, ?_, ?_, ?_, ?_, ?_, ?_, ?_, ?_, ?_, ?_, ?_, ?_, ?_, ?_⟩ <;> first | go_keep | exact HRd.drew ‹_› | exact bl_drew ‹_› | exact bl_alloc ‹_› _ | exact bl_drew (bl_alloc ‹_› _) | exact below_thru ‹_› hb | exact HRd.alloc ‹_› _ | exact (HRd.alloc ‹_› _).drew | exact HRd.of ‹_› hb | exact (HRd.of ‹_› hb).drew | (rw [hb.cell (p := ⟨_, _, none⟩) (by first | omega | (simp; omega))]; go_keep)))
    ((first
    | (go_at_call 19; (try go_split_ands); (first | (with_reducible refine (sameV _ _ 4 4 _ _ ptsE _ (HRd.rd ‹_›) (Rd.drew (rd_litP _ ptsE #[.int .i64 1, .int .i64 2, .int .i64 2, .int .i64 2, .int .i64 1, .int .i64 3, .int .i64 2, .int .i64 3] 4 rfl (by omega) rfl)) (by omega)).mono ?_) | (with_reducible refine (sameV _ _ 2 2 _ _ srtE _ (HRd.rd ‹_›) (rd_litP _ srtE #[.int .i64 5, .int .i64 0, .int .i64 2, .int .i64 1] 2 rfl (by omega) rfl) (by omega)).mono ?_)); rintro e w7 ⟨rfl, hb⟩; have hsz := hb.size; (try simp only [World.size_alloc, World.size_drew] at hsz))
    | (go_at_call 33; refine (joinVV _).mono ?_; rintro e w7 ⟨rfl, hb⟩; have hsz := hb.size; (try simp only [World.size_alloc, World.size_drew] at hsz))
    | (go_at_call 17; refine (compareV _).mono ?_; rintro e w7 ⟨rfl, hb⟩; have hsz := hb.size; (try simp only [World.size_alloc, World.size_drew] at hsz))
    | (go_at_call 21; refine (point_RightV (show rightB 0 0 4 4 = true by decide +kernel) _).mono ?_; rintro e w7 ⟨rfl, hb⟩; have hsz := hb.size; (try simp only [World.size_alloc, World.size_drew] at hsz))
    | (go_at_call 23; refine (inV _).mono ?_; rintro e w7 ⟨rfl, hb⟩; have hsz := hb.size; (try simp only [World.size_alloc, World.size_drew] at hsz))))
  go_wp2_with fail
  go_ret
  (try go_split_ands)
  exact ⟨rfl, by first | assumption | exact below_thru ‹_› hb⟩
end Go.Proofs.Ytnhnkmppmicjoaa
