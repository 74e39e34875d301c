/- The contracts of the reference's image and Solves. -/
import Derived.Test.YtnhapgbjaeaamaaGreatDoorPRZ
import Derived.Test.YtnhapgbjaeaamaaGreatDoorFLD
import Derived.Test.YtnhapgbjaeaamaaGreatDoorCell8
import Derived.Test.YtnhapgbjaeaamaaGreatDoorCellS
namespace Go.Proofs.YtnhapgbjaeaamaaGreatDoor
open Go Go.RowKit
set_option linter.unusedSimpArgs false
set_option linter.unusedVariables false
set_option maxRecDepth 100000
set_option linter.unusedSimpArgs false
set_option linter.unusedVariables false
theorem map_step' {α β : Type} (f : α → β) {l : List α} {j : Nat} {x : α} (h : l[j]? = some x) : (l.take (j + 1)).map f = (l.take j).map f ++ [f x] := by
  rw [List.take_add_one, h]; simp
set_option maxHeartbeats 8000000 in
theorem ref44_image (a b k : Nat) (G DX DY : Int) (P A : Option Addr) (ns cs n c : Nat) (l : List (Int × Int × Int)) (w : World) (ha : 1 ≤ a ∧ a ≤ 16) (hb : 1 ≤ b ∧ b ≤ 16) (hk : okK a b k) (hR : Rd encC 3 w A n l) (hr : rightC l = true) (hi : inPB a b l = true) :
    Calls Tryz.prog 36 #[.agg #[.int .i64 a, .int .i64 b, .int .i64 G, .int .i64 DX, .int .i64 DY, .slice P ns cs], .int .i64 (k : Int), .slice A n c] w fun e w' => ∃ A2 n2 c2, e = .returned (.slice A2 n2 c2) ∧ Rd encC 3 w' A2 n2 (frL (l.map (pic a b k))) ∧ n2 ≤ 5000 ∧ Below w.heap.size w w' := by
  have hn5 : n ≤ 5000 := by rw [← hR.len]; exact (rightC_ok hr).1
  have hin := Lib.hid (fun c hc => in_nat hi (c := c) hc)
  have hko := Lib.hid hk
  have hRl := Lib.hid hR.len
  have hk8 := hk.1
  clear hr hi hk
  go_enter Tryz.func36, Tryz.ntmps36
  go_wp2_with fail
  have hbx := PbAt.new w (a : Int) (b : Int) G DX DY (.slice P ns cs) 28
  have hbe : Below w.heap.size w (w.alloc (.cells #[.int .i64 (a : Int), .int .i64 (b : Int), .int .i64 G, .int .i64 DX, .int .i64 DY, .slice P ns cs] 28)) := (Below.refl _ _).alloc (Nat.le_refl _) _
  obtain ⟨w1, hwe⟩ : ∃ we, we = w.alloc (.cells #[.int .i64 (a : Int), .int .i64 (b : Int), .int .i64 G, .int .i64 DX, .int .i64 DY, .slice P ns cs] 28) := ⟨_, rfl⟩
  have hsw : w1.heap.size = w.heap.size + 1 := by rw [hwe]; simp
  rw [← hwe] at hbx hbe ⊢
  clear hwe
  have hR1 := hR.of hbe
  clear hR
  go_loopw [7, 8] (fun v i wr => ∃ (E : Option Addr) (d j : Nat), v = .slice E j d ∧ i = .int .i64 j ∧ j ≤ n ∧ Own encC 3 49 w1.heap.size wr E j d ((l.take j).map (pic a b k)) ∧ Below w1.heap.size w1 wr) (fun _ i _ => n - (intOf i).toNat)
  case atStart => exact ⟨none, 0, 0, rfl, rfl, by omega, Own.nil_, Below.refl _ _⟩
  case round =>
    obtain ⟨E, d, j, rfl, rfl, hj, hown, hb0⟩ := hrel
    have hs := hb0.size
    obtain ⟨_, p0, p1, _, _, _, _⟩ := (hbx.of hb0).open
    by_cases hlt : j < n
    · have dj : decide ((j : Int) < n) = true := decide_eq_true (by omega)
      have dj' : decide (j < n) = true := decide_eq_true hlt
      obtain ⟨x', y', s', bo, o, hx, rfl, hbl, o1, o2, o3⟩ := hR1.cell hlt
      obtain ⟨hx1, hy1, hx2, hy2⟩ := hin.out _ (List.mem_of_getElem? hx.out)
      have hst := Lib.hid (map_step' (pic a b k) hx.out)
      have hp : pic a b k (x', y', s') = ((((plc a b k x'.toNat y'.toNat).1 : Nat) : Int), (((plc a b k x'.toNat y'.toNat).2 : Nat) : Int), s') := rfl
      simp only at hx1 hy1 hx2 hy2
      obtain ⟨u1, hu1⟩ : ∃ u, (plc a b k x'.toNat y'.toNat).1 = u := ⟨_, rfl⟩
      obtain ⟨u2, hu2⟩ : ∃ u, (plc a b k x'.toNat y'.toNat).2 = u := ⟨_, rfl⟩
      have kW := fun w9 => ref_WithinP (a := a) (b := b) (k := k) (by omega) (by omega) hx1 hy1 hko.out hu1 hu2 w9
      rw [hu1, hu2] at hp
      rw [hx2, hy2] at kW
      replace hst : Hid ((l.take (j + 1)).map (pic a b k) = (l.take j).map (pic a b k) ++ [((u1 : Int), (u2 : Int), s')]) := by rw [← hp]; exact hst
      have g1 : wr.cell? ⟨bo, o + j * 3, none⟩ = some (.int .i64 x') := by rw [hb0.cell (p := ⟨_, _, none⟩) hbl]; exact o1
      have g2 : wr.cell? ⟨bo, o + j * 3 + 1, none⟩ = some (.int .i64 y') := by rw [hb0.cell (p := ⟨_, _, none⟩) hbl]; exact o2
      have g3 : wr.cell? ⟨bo, o + j * 3 + 2, none⟩ = some (.int .i64 s') := by rw [hb0.cell (p := ⟨_, _, none⟩) hbl]; exact o3
      have i0 : (0 : Int) ≤ j := by omega
      have i1 : (j : Int) < n := by omega
      clear hx1 hy1 hx2 hy2 hu1 hu2 hp o1 o2 o3 hx
      go_wp2_with fail
      (refine' wp_region_fresh1 [false, false, false, false, false, false, false, false, false, false, false, false, false, false, false, false, false, false, true, true] 18 19 9 35 75 (.agg #[.int .i64 0, .int .i64 0]) _ (fun u hu => ?hqh5) (by kernel_rfl) (by kernel_rfl) (by kernel_rfl) (by kernel_rfl) rfl rfl Tryz.zeroValue75 ?s1h5 ?s2h5 ?s3h5 ?s4h5 ?s5h5 ?s6h5 ?finh5; (case hqh5 => (obtain ⟨hcu, hfu⟩ := bcell hu; have hsu := hu.size; simp only [stripM, blankO]; (repeat (go_big_quiet_step ((go_at_call 55; exact calls_ext (kW _))))); refine wpQuiet_nil ?_; rfl)); (case s1h5 => rfl); (case s2h5 => simp); (case s3h5 => rfl); (case s4h5 => kernel_rfl); (case s5h5 => rfl); (case s6h5 => simp [Value.oneCell']); intro bk5 w5 hbl5 hbh5 hb5 hh5; obtain ⟨hc5, hf5⟩ := bcell hb5; have hs5 := hb5.size; have hk5 := cellOf_row hh5; have hl5 := frozenOf_row hh5; clear hh5; (try simp only [World.size_alloc, World.size_setCell, World.size_drew] at hc5 hf5); (try simp at hs5 hbl5); simp only [Act.put, List.setIfInBounds_toArray, List.set_cons_zero, List.set_cons_succ])
      have q1 : w5.cell? ⟨bk5, 0, none⟩ = some (.int .i64 (u1 : Int)) := hk5 0
      have q2 : w5.cell? ⟨bk5, 1, none⟩ = some (.int .i64 (u2 : Int)) := hk5 1
      have q3 : w5.cell? ⟨bo, o + j * 3 + 2, none⟩ = some (.int .i64 s') := by rw [hb5.cell (p := ⟨_, _, none⟩) (by show bo < _; omega)]; exact g3
      have hown5 := hown.of hb5
      have hrow : ∀ g, (Value.slice E j d).ownBlock = some g → g < wr.heap.size := fun g hg => (hown.row.lt g hg).2
      have hB5 : Below w1.heap.size w1 w5 := below_after hb5 hb0 (by omega)
      clear hc5 hf5 hk5 hl5 g1 g2 g3 p0 p1
      go_wp2_with fail
      (go_region_held3 (fun w' => w'.cell? ⟨bk5, 0, none⟩ = some (.int .i64 (u1 : Int)) ∧ w'.cell? ⟨bk5, 1, none⟩ = some (.int .i64 (u2 : Int)) ∧ w'.cell? ⟨bo, o + j * 3 + 2, none⟩ = some (.int .i64 s')) (first | go_keep | (go_split_ands; refine ⟨?_, ?_, ?_⟩ <;> first | go_keep | (exact (World.cell?_of_block (hg4.block _ (by simp; omega) (fun e => by have := hrow _ e.symm; simp only at this; omega))).trans (by go_keep)) | (rw [hb4.cell (p := ⟨_, _, none⟩) (by first | omega | (simp; done) | (simp; omega))]; go_keep))) ((refine step_append_el (by rfl) (.tmp 36) (.tmp 47) 35 (by rfl) encC 3 49 (.agg #[.int .i64 0, .int .i64 0, .int .i64 0]) 24 Tryz.underlying35 (by kernel_rfl) rfl (by decide) encC_len encC_one (w1.heap.size) _ _ _ _ (by rfl) (hown5.drew.alloc _) ((u1 : Int), (u2 : Int), s') ⟨(w5.drew).heap.size, 0, none⟩ 1 (by rfl) (cells_new (w5.drew) _ _) (by omega) (by omega) (by first | omega | (simp; done) | (simp; omega)) ?_; intro A4 c4 w4 hown4 hg4 hb4)))
      (try go_split_ands)
      go_wp2_with fail
      go_roundw
      case rel => exact ⟨A4, c4, j + 1, rfl, by go_num, by omega, by rw [hst.out]; exact hown4, below_after hb4 (bl_of_drew_alloc hB5 _) (by have := hB5.size; first | omega | (simp; done) | (simp; omega))⟩
      case measure => simp [intOf]; omega
    · obtain rfl : j = n := by omega
      have dj : decide ((j : Int) < j) = false := decide_eq_false (by omega)
      have dj' : decide (j < j) = false := decide_eq_false (by omega)
      rw [List.take_of_length_le (by rw [hRl.out]; exact Nat.le_refl _)] at hown
      have hO := hown.rd encC_len
      go_wp2_with fail; go_at_call 66; refine (ref05_FromN _ _ _ _ _ hO (by omega)).mono ?_; rintro e w9 ⟨A9, n9, c9, rfl, hR9, hn9, hb9⟩; have hs9 := hb9.size; (try simp only [World.size_alloc, World.size_drew, World.size_setCell] at hs9)
      go_wp2_with fail
      go_ret
      exact ⟨A9, n9, c9, rfl, hR9.rd, by omega, below_after hb9 (below_after hb0 hbe (by omega)) (by omega)⟩
theorem it_nil {H : List (Int × Int)} {N : List (Int × List Int)} : ∀ k, itS H N [] k = (0, [])
  | 0 => rfl
  | k + 1 => by
    have h := it_nil (H := H) (N := N) k
    rw [it_step (by rw [h]), h]
    rfl
theorem run_nil {st : Int} {H : List (Int × Int)} {N : List (Int × List Int)} {GG : Nat} (h : trQ st H N = true) (hg : GG ≤ 10000) : runE st H N [] GG = 0 := by
  unfold runE
  rw [if_pos (fit_iff.2 (nil_fits h)), if_neg (by omega), it_nil]
theorem sol_ref {st : Int} {Hd : List (Int × Int)} {N : List (Int × List Int)} {a b GG : Nat} {DX DY : Int} {S : List Int} {p : List (Int × Int × Int)} (hf : FitsR st Hd N p) (hg : GG ≤ 10000) (hs : shE p DX DY = 0) (h1 : inPB a b p = true) (h2 : S.any (symX a b (gridL p 0 0 a b)) = false) : solB st Hd N a b GG DX DY S p = sameL (runL st Hd N p GG) (shL p DX DY) := by
  by_cases h0 : runE st Hd N p GG = 0
  · exact sol_all h1 h2 h0
  · rw [sol_err h0, run_err h0, shL_ok hs]
    cases p with
    | nil => exact absurd (run_nil hf.rule hg) h0
    | cons x l => unfold sameL; symm; exact decide_eq_false (by simp)
/-- The reference's test of a symmetry. -/
theorem sym_ref {a b : Nat} {p : List (Int × Int × Int)} {s : Int} (hr : rightC p = true) (hi : inPB a b p = true) (hs : 0 ≤ s ∧ s ≤ 7 ∧ (s % 2 = 1 → (a : Int) = b)) (ha : a ≤ 16) (hb : b ≤ 16) : symX a b (gridL p 0 0 a b) s = !sameL (frL (p.map (pic a b s.toNat))) p := by
  unfold symX; rw [img_same hr hi (okK_of hs) ha hb]
theorem FrW.pbc {W w' : World} {b b2 i : Nat} {X Y G DX DY : Int} {v u : Value} (h : FrW W w') (t : PbAt W b X Y G DX DY v) (hb : b2 < W.heap.size) (s : W.cell? ⟨b2, i, none⟩ = some u) : FrW W w' ∧ w'.cell? ⟨b, 0, none⟩ = some (.int .i64 X) ∧ w'.cell? ⟨b, 1, none⟩ = some (.int .i64 Y) ∧ w'.cell? ⟨b, 2, none⟩ = some (.int .i64 G) ∧ w'.cell? ⟨b, 3, none⟩ = some (.int .i64 DX) ∧ w'.cell? ⟨b, 4, none⟩ = some (.int .i64 DY) ∧ w'.cell? ⟨b, 5, none⟩ = some v ∧ w'.cell? ⟨b2, i, none⟩ = some u :=
  have o := (t.of h.below).open
  ⟨h, o.2.1, o.2.2.1, o.2.2.2.1, o.2.2.2.2.1, o.2.2.2.2.2.1, o.2.2.2.2.2.2, by rw [h.below.cell (p := ⟨_, _, none⟩) hb]; exact s⟩
section
variable (st : Int) (A B P D : Option Addr) (n c m d ns cs k e : Nat) (Hd : List (Int × Int)) (N : List (Int × List Int)) (W H G DX DY : Int) (S : List Int) (p : List (Int × Int × Int)) (w : World)
set_option maxHeartbeats 16000000 in
theorem ref44_Solves (hH : Rd encP 2 w A n Hd) (hN : RdX ekN w B m N) (hR : Rd encI 1 w P ns S) (hns : ns ≤ 1000000) (hP : Rd encC 3 w D k p) (hk : k ≤ 1000000) (hke : k ≤ e) :
    Calls Tryz.prog 20 #[.agg #[.int .i64 st, .slice A n c, .slice B m d], .agg #[.int .i64 W, .int .i64 H, .int .i64 G, .int .i64 DX, .int .i64 DY, .slice P ns cs], .slice D k e] w fun e w' => e = .returned (.tuple #[.bool (slvB st Hd N W H G DX DY S p), .int .i64 (begE st Hd N W H G DX DY S p)]) ∧ Below w.heap.size w w' := by
  have kC := fun w1 h1 h2 h3 => ref44_Check st A B P n c m d ns cs Hd N W H G DX DY S w1 h1 h2 h3 hns
  have kF := fun w1 h1 h2 h3 => ref20_Fits st A B D n c m d k e Hd N p w1 h1 h2 h3 hk
  by_cases h0 : begE st Hd N W H G DX DY S p = 0
  · obtain ⟨ho, hf⟩ := beg_zero h0
    have hc0 : chkE st Hd N W H G DX DY S = 0 := by
      unfold begE at h0
      by_cases h1 : chkE st Hd N W H G DX DY S = 0
      · exact h1
      · rw [if_neg h1] at h0; exact absurd h0 h1
    have hf0 := fit_iff.2 hf
    have hk5 : k ≤ 5000 := by rw [← hP.len]; exact (rightC_ok hf.pat).1
    obtain ⟨a, rfl⟩ := Int.eq_ofNat_of_zero_le (show 0 ≤ W by have := ho.w; omega)
    obtain ⟨b, rfl⟩ := Int.eq_ofNat_of_zero_le (show 0 ≤ H by have := ho.h; omega)
    obtain ⟨GG, rfl⟩ := Int.eq_ofNat_of_zero_le (show 0 ≤ G by have := ho.g; omega)
    have ha : 1 ≤ a ∧ a ≤ 16 := by have := ho.w; omega
    have hb : 1 ≤ b ∧ b ≤ 16 := by have := ho.h; omega
    have hg : GG ≤ 6 := by have := ho.g; omega
    have hq : slvB st Hd N a b GG DX DY S p = solB st Hd N a b GG DX DY S p := by unfold slvB; rw [decide_eq_true h0]; rfl
    rw [hq, h0]
    rw [hc0] at kC
    rw [hf0] at kF
    have hso := Lib.hid (fun h => sol_out (st := st) (Hd := Hd) (N := N) (a := a) (b := b) (G := GG) (DX := DX) (DY := DY) (S := S) (p := p) h)
    have hss := Lib.hid (fun h => sol_sym (st := st) (Hd := Hd) (N := N) (a := a) (b := b) (G := GG) (DX := DX) (DY := DY) (S := S) (p := p) h)
    have hsr := Lib.hid (fun hs h1 h2 => sol_ref (st := st) (Hd := Hd) (N := N) (a := a) (b := b) (GG := GG) (DX := DX) (DY := DY) (S := S) hf (by omega) hs h1 h2)
    have hsy := Lib.hid (fun s hs => syms_ok ho.s (s := s) hs)
    have hpr := Lib.hid hf.pat
    have hdd := Lib.hid (show (-24 ≤ DX ∧ DX ≤ 24) ∧ (-24 ≤ DY ∧ DY ≤ 24) from ⟨ho.dx, ho.dy⟩)
    have hPl := Lib.hid hP.len
    have hRl := Lib.hid hR.len
    have kR := fun w1 h1 h2 h3 => ref20_Run st A B D n c m d k e Hd N p w1 GG h1 h2 h3 hk hke
    have kT := fun w1 h1 => ref05_Shift D k e p DX DY w1 h1 (by omega)
    have hfl := Lib.hid (show (runL st Hd N p GG).length ≤ 1000000 by
      unfold runL; split
      · exact Nat.le_trans (rightC_ok (it_fits hf _).pat).1 (by omega)
      · simp)
    generalize solB st Hd N a b GG DX DY S p = q at hso hss hsr ⊢
    clear hq h0 hc0 hf0 ho hf
    go_enter Tryz.func20, Tryz.ntmps20
    go_wp2_with fail
    obtain ⟨we, hwe, hbt, hbp, hB, hsw⟩ := two_boxes w (.int .i64 st) (.slice A n c) (.slice B m d) 25 28 a b GG DX DY (.slice P ns cs)
    rw [← hwe]
    clear hwe
    replace hH := hH.of hB
    replace hN := hN.of hB
    replace hR := hR.of hB
    replace hP := hP.of hB
    go_at_call 15
    refine (kC _ hH hN hR).mono ?_
    rintro e1 w1 ⟨rfl, hb1⟩
    replace hbt := hbt.of hb1
    replace hbp := hbp.of hb1
    replace hH := hH.of hb1
    replace hN := hN.of hb1
    replace hR := hR.of hb1
    replace hP := hP.of hb1
    replace hB := below_thru hB hb1
    clear hb1 kC
    have ⟨_, t0, t1, t2⟩ := hbt.open
    go_wp2_with fail
    go_at_call 23
    refine (kF _ hH hN hP).mono ?_
    rintro e2 w2 ⟨rfl, hb2⟩
    clear t0 t1 t2
    replace hbt := hbt.of hb2
    replace hbp := hbp.of hb2
    replace hH := hH.of hb2
    replace hN := hN.of hb2
    replace hR := hR.of hb2
    replace hP := hP.of hb2
    replace hB := below_thru hB hb2
    clear hb2 kF
    have hBs := hB.size
    go_wp2_with fail
    go_loopw [10] (fun t wr => ∃ j : Nat, t = .int .i64 j ∧ j ≤ k ∧ Hid (∀ (i : Nat) c, i < j → p[i]? = some c → 0 ≤ c.1 ∧ c.1 < (a : Int) ∧ 0 ≤ c.2.1 ∧ c.2.1 < (b : Int)) ∧ Below w2.heap.size w2 wr) (fun t _ => k - (intOf t).toNat)
    case atStart => exact ⟨0, rfl, by omega, Lib.hid (fun i c h => absurd h (by omega)), Below.refl _ _⟩
    case round =>
      obtain ⟨j, rfl, hj, hal, hb0⟩ := hrel
      have hsz := hb0.size
      by_cases hlj : j < k
      · have ⟨_, p0, p1, _, _, _, _⟩ := (hbp.of hb0).open
        have dj : decide ((j : Int) < k) = true := decide_eq_true (by omega)
        have dj' : decide (j < k) = true := decide_eq_true hlj
        obtain ⟨x, y, s, bo, o, hx, rfl, hbo, g1, g2, g3⟩ := (hP.of hb0).cell hlj
        have i0 : (0 : Int) ≤ (j : Int) := by omega
        have i1 : (j : Int) < (k : Int) := by omega
        by_cases hno : ¬(0 ≤ x ∧ x < (a : Int) ∧ 0 ≤ y ∧ y < (b : Int))
        · have hE := Lib.hid (hso.out (inPB_no hx.out hno))
          have hways : decide (x < 0) = true ∨ (decide (x < 0) = false ∧ decide ((a : Int) ≤ x) = true) ∨ (decide (x < 0) = false ∧ decide ((a : Int) ≤ x) = false ∧ decide (y < 0) = true) ∨ (decide (x < 0) = false ∧ decide ((a : Int) ≤ x) = false ∧ decide (y < 0) = false ∧ decide ((b : Int) ≤ y) = true) := by
            simp only [decide_eq_true_eq, decide_eq_false_iff_not]; omega
          clear hno
          rcases hways with d1 | ⟨d1, d2⟩ | ⟨d1, d2, d3⟩ | ⟨d1, d2, d3, d4⟩
          all_goals
            go_wp2_with fail
            (refine wp_region_ext_lit (by kernel_rfl) (by kernel_rfl) ?_; (repeat (go_big_quiet_step (fail))); refine wpQuiet_nil ?_; intro _ hw'; obtain ⟨z3, hw''⟩ := hw'; subst hw''; have hs3 := z3.size; obtain ⟨hc3, hf3⟩ := bcell z3.below; (try simp only [World.size_alloc, World.size_setCell, World.size_drew] at hc3 hf3); (try simp at hs3))
            go_wp2_with fail
            go_ret2
            exact ⟨by rw [hE.out]; rfl, by (repeat' (first | exact Below.refl _ _ | assumption | (refine Below.alloc ?_ ?_ _) | (refine Below.setCell ?_ ?_ _) | (refine Below.drew ?_) | (refine below_drewN ?_ _) | (refine below_after (Ext.below _) ?_ ?_) | (refine below_after (by assumption) ?_ ?_) | (simp; done) | omega | (simp; omega)))⟩
        · have hic : 0 ≤ x ∧ x < (a : Int) ∧ 0 ≤ y ∧ y < (b : Int) := Decidable.not_not.1 hno
          have hals := Lib.hid (show ∀ (i : Nat) c, i < j + 1 → p[i]? = some c → 0 ≤ c.1 ∧ c.1 < (a : Int) ∧ 0 ≤ c.2.1 ∧ c.2.1 < (b : Int) from fun i c hi hc => by
            by_cases e : i = j
            · subst e; rw [hx.out] at hc; cases hc; exact hic
            · exact hal.out i c (by omega) hc)
          have d1 : decide (x < 0) = false := decide_eq_false (by omega)
          have d2 : decide ((a : Int) ≤ x) = false := decide_eq_false (by omega)
          have d3 : decide (y < 0) = false := decide_eq_false (by omega)
          have d4 : decide ((b : Int) ≤ y) = false := decide_eq_false (by omega)
          clear hno hic
          go_wp2_with fail
          (refine wp_region_ext_lit (by kernel_rfl) (by kernel_rfl) ?_; (repeat (go_big_quiet_step (fail))); refine wpQuiet_nil ?_; intro _ hw'; obtain ⟨z3, hw''⟩ := hw'; subst hw''; have hs3 := z3.size; obtain ⟨hc3, hf3⟩ := bcell z3.below; (try simp only [World.size_alloc, World.size_setCell, World.size_drew] at hc3 hf3); (try simp at hs3))
          go_wp2_with fail
          go_roundw
          case rel => exact ⟨j + 1, by go_num, by omega, hals, by (repeat' (first | exact Below.refl _ _ | assumption | (refine Below.alloc ?_ ?_ _) | (refine Below.setCell ?_ ?_ _) | (refine Below.drew ?_) | (refine below_drewN ?_ _) | (refine below_after (Ext.below _) ?_ ?_) | (refine below_after (by assumption) ?_ ?_) | (simp; done) | omega | (simp; omega)))⟩
          case measure => simp [intOf]; omega
      · obtain rfl : j = k := by omega
        have dj : decide ((j : Int) < j) = false := decide_eq_false (by omega)
        have dj' : decide (j < j) = false := decide_eq_false (by omega)
        have hin : inPB a b p = true := inPB_yes (fun i c hc => hal.out i c (by have := (List.getElem?_eq_some_iff.1 hc).1; rw [hPl.out] at this; exact this) hc)
        have hsh := box_shift hpr.out hin ha.2 hb.2 hdd.out.1 hdd.out.2
        rw [hsh] at kT
        replace hsh := Lib.hid hsh
        replace hin := Lib.hid hin
        replace hbt := hbt.of hb0
        replace hbp := hbp.of hb0
        replace hH := hH.of hb0
        replace hN := hN.of hb0
        replace hR := hR.of hb0
        replace hP := hP.of hb0
        replace hB := below_thru hB hb0
        clear hb0 hsz hal
        go_wp2_with fail
        clear dj dj'
        go_loopw [11] (fun t wv => ∃ i : Nat, t = .int .i64 i ∧ i ≤ ns ∧ Hid (∀ (r : Nat) s, r < i → S[r]? = some s → symX a b (gridL p 0 0 a b) s = false) ∧ Below wr.heap.size wr wv) (fun t _ => ns - (intOf t).toNat)
        case atStart => exact ⟨0, rfl, by omega, Lib.hid (fun r s h => absurd h (by omega)), Below.refl _ _⟩
        case round =>
          obtain ⟨i, rfl, hi, hno, hb0⟩ := hrel
          have hsz := hb0.size
          have hbp0 := hbp.of hb0
          have ⟨_, p0, p1, p2, p3, p4, p5⟩ := hbp0.open
          by_cases hli : i < ns
          · have di : decide ((i : Int) < ns) = true := decide_eq_true (by omega)
            have di' : decide (i < ns) = true := decide_eq_true hli
            obtain ⟨s, bo, o, hx, rfl, hbo, g1⟩ := (hR.of hb0).int hli
            have hso7 := hsy.out _ (List.mem_of_getElem? hx.out)
            have hrf := sym_ref hpr.out hin.out hso7 ha.2 hb.2
            have hko := okK_of hso7
            obtain ⟨kk, rfl⟩ : ∃ kk : Nat, s = (kk : Int) := ⟨s.toNat, by omega⟩
            rw [Int.toNat_natCast] at hko hrf
            have i0 : (0 : Int) ≤ (i : Int) := by omega
            have i1 : (i : Int) < (ns : Int) := by omega
            have kI := fun w9 h9 => ref44_image a b kk GG DX DY (some ⟨bo, o, none⟩) D ns cs j e p w9 ha hb hko h9 hpr.out hin.out
            have kS := fun A9 n9 c9 w9 h8 h9 h7 => ref05_Same A9 D n9 j c9 e (frL (p.map (pic a b kk))) p w9 h8 h9 h7 (by omega)
            have hyes := Lib.hid (fun h => hss.out (any_yes' (p := symX a b (gridL p 0 0 a b)) hx.out h))
            have hstep := Lib.hid (fun h => none_step' (p := symX a b (gridL p 0 0 a b)) hno.out hx.out h)
            have hPv := hP.of hb0
            clear hso7 hko hx
            generalize symX a b (gridL p 0 0 a b) (kk : Int) = z at hrf hyes hstep
            generalize sameL (frL (p.map (pic a b kk))) p = z2 at hrf kS
            generalize frL (p.map (pic a b kk)) = fl at kI kS
            cases z2 with
            | true =>
              have hst := Lib.hid (hstep.out hrf)
              clear hyes hstep hrf
              go_wp2_with fail
              go_region_held3 (fun w' => FrW wr w' ∧ w'.cell? ⟨w.heap.size + 1, 0, none⟩ = some (.int .i64 (a : Int)) ∧ w'.cell? ⟨w.heap.size + 1, 1, none⟩ = some (.int .i64 (b : Int)) ∧ w'.cell? ⟨w.heap.size + 1, 2, none⟩ = some (.int .i64 (GG : Int)) ∧ w'.cell? ⟨w.heap.size + 1, 3, none⟩ = some (.int .i64 DX) ∧ w'.cell? ⟨w.heap.size + 1, 4, none⟩ = some (.int .i64 DY) ∧ w'.cell? ⟨w.heap.size + 1, 5, none⟩ = some (.slice (some ⟨bo, o, none⟩) ns cs) ∧ w'.cell? ⟨bo, o + i, none⟩ = some (.int .i64 (kk : Int)))
                (((try go_split_ands); refine FrW.pbc ?_ hbp0 hbo g1; first | exact FrW.drew (FrW.here _) | exact FrW.of ‹_› hb7 | exact FrW.of ‹_› hb8 | exact FrW.drew ‹_› | exact FrW.here _ | fail))
                ((first
                | (go_at_call 36; (try go_split_ands); refine (kI _ (hPv.of (FrW.below ‹_›))).mono ?_; rintro e7 w7 ⟨A7, n7, c7, rfl, hR7, hn7, hb7⟩)
                | (go_at_call 17; (try go_split_ands); refine (kS _ _ _ _ hR7 (hPv.of (FrW.below ‹_›)) (by omega)).mono ?_; rintro e8 w8 ⟨rfl, hb8⟩)
                | fail))
              (try go_split_ands)
              have hfw : Below wr.heap.size wr w8 := FrW.below ‹_›
              go_wp2_with fail
              go_roundw
              case rel => exact ⟨i + 1, by go_num, by omega, hst, hb0.trans (hfw.mono hsz)⟩
              case measure => simp [intOf]; omega
            | false =>
              have hE := Lib.hid (hyes.out hrf)
              clear hyes hstep hrf
              go_wp2_with fail
              go_region_held3 (fun w' => FrW wr w' ∧ w'.cell? ⟨w.heap.size + 1, 0, none⟩ = some (.int .i64 (a : Int)) ∧ w'.cell? ⟨w.heap.size + 1, 1, none⟩ = some (.int .i64 (b : Int)) ∧ w'.cell? ⟨w.heap.size + 1, 2, none⟩ = some (.int .i64 (GG : Int)) ∧ w'.cell? ⟨w.heap.size + 1, 3, none⟩ = some (.int .i64 DX) ∧ w'.cell? ⟨w.heap.size + 1, 4, none⟩ = some (.int .i64 DY) ∧ w'.cell? ⟨w.heap.size + 1, 5, none⟩ = some (.slice (some ⟨bo, o, none⟩) ns cs) ∧ w'.cell? ⟨bo, o + i, none⟩ = some (.int .i64 (kk : Int)))
                (((try go_split_ands); refine FrW.pbc ?_ hbp0 hbo g1; first | exact FrW.drew (FrW.here _) | exact FrW.of ‹_› hb7 | exact FrW.of ‹_› hb8 | exact FrW.drew ‹_› | exact FrW.here _ | fail))
                ((first
                | (go_at_call 36; (try go_split_ands); refine (kI _ (hPv.of (FrW.below ‹_›))).mono ?_; rintro e7 w7 ⟨A7, n7, c7, rfl, hR7, hn7, hb7⟩)
                | (go_at_call 17; (try go_split_ands); refine (kS _ _ _ _ hR7 (hPv.of (FrW.below ‹_›)) (by omega)).mono ?_; rintro e8 w8 ⟨rfl, hb8⟩)
                | fail))
              (try go_split_ands)
              have hfw : Below wr.heap.size wr w8 := FrW.below ‹_›
              have hfin := below_thru hB (hb0.trans (hfw.mono hsz))
              go_wp2_with fail
              go_ret2
              exact ⟨by rw [hE.out]; rfl, hfin⟩
          · obtain rfl : i = ns := by omega
            have di : decide ((i : Int) < i) = false := decide_eq_false (by omega)
            have di' : decide (i < i) = false := decide_eq_false (by omega)
            have hE := Lib.hid (hsr.out hsh.out hin.out (any_none' hRl.out hno.out))
            have kSS := fun A9 n9 c9 A8 n8 c8 w9 h8 h9 h7 h6 => ref05_Same A9 A8 n9 n8 c9 c8 (runL st Hd N p GG) (shL p DX DY) w9 h8 h9 h7 h6
            generalize sameL (runL st Hd N p GG) (shL p DX DY) = z at hE kSS
            have ⟨_, t0, t1, t2⟩ := (hbt.of hb0).open
            go_wp2_with fail
            go_at_call 37
            refine (kR _ (hH.of hb0) (hN.of hb0) (hP.of hb0)).mono ?_
            rintro e3 w3 ⟨A3, n3, c3, rfl, hR3, hc3, hb3⟩
            have hn3 : n3 ≤ 1000000 := by rw [← hR3.len]; exact hfl.out
            have hs3 := hb3.size
            clear p0 p1 p2 p3 p4 p5 t0 t1 t2
            have ⟨_, p0, p1, p2, p3, p4, p5⟩ := (hbp0.of hb3).open
            go_wp2_with fail
            go_at_call 38
            refine (kT _ ((hP.of hb0).of hb3)).mono ?_
            rintro e4 w4 ⟨A4, n4, c4, rfl, hR4, hn4, hb4⟩
            have hs4 := hb4.size
            go_wp2_with fail
            go_at_call 17
            refine (kSS _ _ _ _ _ _ _ (hR3.of hb4) hR4 hn3 (by omega)).mono ?_
            rintro e5 w5 ⟨rfl, hb5⟩
            have hfin := below_thru hB (hb0.trans (((hb3.trans (hb4.mono hs3)).trans (hb5.mono (by omega))).mono hsz))
            go_wp2_with fail
            go_ret2
            exact ⟨by rw [hE.out]; rfl, hfin⟩
  · have hq : slvB st Hd N W H G DX DY S p = false := by unfold slvB; rw [decide_eq_false h0]; rfl
    rw [hq]
    by_cases h1 : chkE st Hd N W H G DX DY S = 0
    · have h2 : begE st Hd N W H G DX DY S p = fitE st Hd N p := by unfold begE; rw [if_pos h1]
      rw [h1] at kC
      rw [h2] at h0 ⊢
      generalize fitE st Hd N p = r at h0 kF ⊢
      have t0 : (r != 0) = true := by simpa using h0
      clear h0 hq h1 h2
      go_enter Tryz.func20, Tryz.ntmps20
      go_wp2_with fail; go_at_call 15; refine (kC _ (hH.of (by (repeat' (first | exact Below.refl _ _ | assumption | (refine Below.alloc ?_ ?_ _) | (refine Below.setCell ?_ ?_ _) | (refine Below.drew ?_) | (refine below_drewN ?_ _) | (refine below_after (Ext.below _) ?_ ?_) | (refine below_after (by assumption) ?_ ?_) | (simp; done) | omega | (simp; omega))))) (hN.of (by (repeat' (first | exact Below.refl _ _ | assumption | (refine Below.alloc ?_ ?_ _) | (refine Below.setCell ?_ ?_ _) | (refine Below.drew ?_) | (refine below_drewN ?_ _) | (refine below_after (Ext.below _) ?_ ?_) | (refine below_after (by assumption) ?_ ?_) | (simp; done) | omega | (simp; omega))))) (hR.of (by (repeat' (first | exact Below.refl _ _ | assumption | (refine Below.alloc ?_ ?_ _) | (refine Below.setCell ?_ ?_ _) | (refine Below.drew ?_) | (refine below_drewN ?_ _) | (refine below_after (Ext.below _) ?_ ?_) | (refine below_after (by assumption) ?_ ?_) | (simp; done) | omega | (simp; omega)))))).mono ?_; rintro e w1 ⟨rfl, hb1⟩; have hs1 := hb1.size; (try simp only [World.size_alloc, World.size_drew, World.size_setCell] at hs1); obtain ⟨hc1, hf1⟩ := bcell hb1; (try simp only [World.size_alloc, World.size_setCell, World.size_drew] at hc1 hf1)
      go_wp2_with fail; go_at_call 23; refine (kF _ (hH.of (by (repeat' (first | exact Below.refl _ _ | assumption | (refine Below.alloc ?_ ?_ _) | (refine Below.setCell ?_ ?_ _) | (refine Below.drew ?_) | (refine below_drewN ?_ _) | (refine below_after (Ext.below _) ?_ ?_) | (refine below_after (by assumption) ?_ ?_) | (simp; done) | omega | (simp; omega))))) (hN.of (by (repeat' (first | exact Below.refl _ _ | assumption | (refine Below.alloc ?_ ?_ _) | (refine Below.setCell ?_ ?_ _) | (refine Below.drew ?_) | (refine below_drewN ?_ _) | (refine below_after (Ext.below _) ?_ ?_) | (refine below_after (by assumption) ?_ ?_) | (simp; done) | omega | (simp; omega))))) (hP.of (by (repeat' (first | exact Below.refl _ _ | assumption | (refine Below.alloc ?_ ?_ _) | (refine Below.setCell ?_ ?_ _) | (refine Below.drew ?_) | (refine below_drewN ?_ _) | (refine below_after (Ext.below _) ?_ ?_) | (refine below_after (by assumption) ?_ ?_) | (simp; done) | omega | (simp; omega)))))).mono ?_; rintro e w2 ⟨rfl, hb2⟩; have hs2 := hb2.size; (try simp only [World.size_alloc, World.size_drew, World.size_setCell] at hs2); obtain ⟨hc2, hf2⟩ := bcell hb2; (try simp only [World.size_alloc, World.size_setCell, World.size_drew] at hc2 hf2)
      go_wp2_with fail
      go_ret2
      exact ⟨rfl, by (repeat' (first | exact Below.refl _ _ | assumption | (refine Below.alloc ?_ ?_ _) | (refine Below.setCell ?_ ?_ _) | (refine Below.drew ?_) | (refine below_drewN ?_ _) | (refine below_after (Ext.below _) ?_ ?_) | (refine below_after (by assumption) ?_ ?_) | (simp; done) | omega | (simp; omega)))⟩
    · have h2 : begE st Hd N W H G DX DY S p = chkE st Hd N W H G DX DY S := by unfold begE; rw [if_neg h1]
      rw [h2]
      generalize chkE st Hd N W H G DX DY S = r at h1 kC ⊢
      have t0 : (r != 0) = true := by simpa using h1
      clear h0 hq h1 h2
      go_enter Tryz.func20, Tryz.ntmps20
      go_wp2_with fail; go_at_call 15; refine (kC _ (hH.of (by (repeat' (first | exact Below.refl _ _ | assumption | (refine Below.alloc ?_ ?_ _) | (refine Below.setCell ?_ ?_ _) | (refine Below.drew ?_) | (refine below_drewN ?_ _) | (refine below_after (Ext.below _) ?_ ?_) | (refine below_after (by assumption) ?_ ?_) | (simp; done) | omega | (simp; omega))))) (hN.of (by (repeat' (first | exact Below.refl _ _ | assumption | (refine Below.alloc ?_ ?_ _) | (refine Below.setCell ?_ ?_ _) | (refine Below.drew ?_) | (refine below_drewN ?_ _) | (refine below_after (Ext.below _) ?_ ?_) | (refine below_after (by assumption) ?_ ?_) | (simp; done) | omega | (simp; omega))))) (hR.of (by (repeat' (first | exact Below.refl _ _ | assumption | (refine Below.alloc ?_ ?_ _) | (refine Below.setCell ?_ ?_ _) | (refine Below.drew ?_) | (refine below_drewN ?_ _) | (refine below_after (Ext.below _) ?_ ?_) | (refine below_after (by assumption) ?_ ?_) | (simp; done) | omega | (simp; omega)))))).mono ?_; rintro e w1 ⟨rfl, hb1⟩; have hs1 := hb1.size; (try simp only [World.size_alloc, World.size_drew, World.size_setCell] at hs1); obtain ⟨hc1, hf1⟩ := bcell hb1; (try simp only [World.size_alloc, World.size_setCell, World.size_drew] at hc1 hf1)
      go_wp2_with fail
      go_ret2
      exact ⟨rfl, by (repeat' (first | exact Below.refl _ _ | assumption | (refine Below.alloc ?_ ?_ _) | (refine Below.setCell ?_ ?_ _) | (refine Below.drew ?_) | (refine below_drewN ?_ _) | (refine below_after (Ext.below _) ?_ ?_) | (refine below_after (by assumption) ?_ ?_) | (simp; done) | omega | (simp; omega)))⟩
end
end Go.Proofs.YtnhapgbjaeaamaaGreatDoor
