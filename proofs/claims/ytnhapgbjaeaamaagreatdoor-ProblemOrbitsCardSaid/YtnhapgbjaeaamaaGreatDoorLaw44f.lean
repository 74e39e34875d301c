/- The walk of ProblemOrbits. -/
import Derived.Test.YtnhapgbjaeaamaaGreatDoorLaw44b
import Derived.Test.YtnhapgbjaeaamaaGreatDoorLaw20a
import Derived.Test.YtnhapgbjaeaamaaGreatDoorPrb17
import Derived.Test.YtnhapgbjaeaamaaGreatDoorPrbO
namespace Go.Proofs.YtnhapgbjaeaamaaGreatDoor
open Go Go.RowKit
set_option linter.unusedSimpArgs false
set_option linter.unusedVariables false
set_option maxRecDepth 100000
set_option linter.unusedSimpArgs false
set_option linter.unusedVariables false
theorem FrW.prb {W0 w' : World} {b : Nat} {W H G DX DY : Int} {v : Value} (h : FrW W0 w') (s : PbAt W0 b W H G DX DY v) : FrW W0 w' ∧ w'.cell? ⟨b, 0, none⟩ = some (.int .i64 W) ∧ w'.cell? ⟨b, 1, none⟩ = some (.int .i64 H) ∧ w'.cell? ⟨b, 2, none⟩ = some (.int .i64 G) ∧ w'.cell? ⟨b, 3, none⟩ = some (.int .i64 DX) ∧ w'.cell? ⟨b, 4, none⟩ = some (.int .i64 DY) ∧ w'.cell? ⟨b, 5, none⟩ = some v := by
  obtain ⟨_, h0, h1, h2, h3, h4, h5⟩ := (s.of h.below).open
  exact ⟨h, h0, h1, h2, h3, h4, h5⟩
set_option maxHeartbeats 16000000 in
theorem law_porbits (st : Int) (A B P D : Option Addr) (n c m d ns cs k e : Nat) (Hd : List (Int × Int)) (N : List (Int × List Int)) (W H G DX DY : Int) (S l : List Int) (w : World) (hM : Mx w) (hH : Rd encP 2 w A n Hd) (hN : RdX ekN w B m N) (hR : Rd encI 1 w P ns S) (hL : Rd encI 1 w D k l) (hke : k ≤ e) :
    Calls Tryz.prog 6 #[.agg #[.int .i64 st, .slice A n c, .slice B m d], .agg #[.int .i64 W, .int .i64 H, .int .i64 G, .int .i64 DX, .int .i64 DY, .slice P ns cs], .slice D k e] w fun e w' => e = .returned (.bool true) ∧ Below w.heap.size w w' := by
  obtain ⟨v, hv⟩ : ∃ v, fewT Hd N = v := ⟨_, rfl⟩
  have kF := fun w1 h1 h2 => law_Few st A B n c m d Hd N w1 h1 h2
  rw [hv] at kF
  clear hv
  cases v with
  | false =>
    go_enter Tryz.func6, Tryz.ntmps6
    go_wp2_with fail
    obtain ⟨we, hwe, hbt, hbp, hB, hsw⟩ := two_boxes w (.int .i64 st) (.slice A n c) (.slice B m d) 25 28 W H G DX DY (.slice P ns cs)
    rw [← hwe]
    clear hwe
    replace hM := hM.of hB
    replace hH := hH.of hB
    replace hN := hN.of hB
    have ⟨_, t0, t1, t2⟩ := hbt.open
    have ⟨_, p0, p1, p2, p3, p4, p5⟩ := hbp.open
    go_wp2_with fail
    go_at_call 7
    refine (kF _ hH hN).mono ?_
    rintro e1 w1 ⟨rfl, hb1⟩
    clear t0 t1 t2 p0 p1 p2 p3 p4 p5
    replace hM := hM.of hb1
    replace hH := hH.of hb1
    replace hN := hN.of hb1
    replace hbt := hbt.of hb1
    replace hbp := hbp.of hb1
    replace hB := below_thru hB hb1
    clear hb1
    have ⟨_, t0, t1, t2⟩ := hbt.open
    have ⟨_, p0, p1, p2, p3, p4, p5⟩ := hbp.open
    go_wp2_with fail
    go_at_call 9
    refine (awake_44 _ hM).mono ?_
    rintro ez wz ⟨rfl, hbz⟩
    have hfin := below_thru hB hbz
    go_wp2_with fail
    go_ret
    exact ⟨rfl, hfin⟩
  | true =>
    by_cases h20 : ns ≤ 20
    · have kf := fun w1 => law_few W H G DX DY P ns cs true (decide_eq_true h20) w1
      by_cases h40 : k ≤ 40
      · have d40 : decide (40 < (k : Int)) = false := decide_eq_false (by omega)
        have d40' : decide (40 < k) = false := decide_eq_false (by omega)
        have kC := fun w1 h1 h2 h3 => ref44_Check st A B P n c m d ns cs Hd N W H G DX DY S w1 h1 h2 h3 (by omega)
        by_cases hc0 : chkE st Hd N W H G DX DY S = 0
        · rw [hc0] at kC
          have ho := (chk_zero hc0).2
          obtain ⟨a, rfl⟩ := Int.eq_ofNat_of_zero_le (show 0 ≤ W by have := ho.w; omega)
          obtain ⟨b, rfl⟩ := Int.eq_ofNat_of_zero_le (show 0 ≤ H by have := ho.h; omega)
          have kP := fun w1 h1 h2 h3 h4 => prb_Solves st A B P none n c m d ns cs 0 0 Hd N a b G DX DY S [] w1 h1 h2 h3 h4 (by omega) Rd.nil_ (by omega) (by omega)
          have kR := fun w1 h1 h2 h3 h4 => prb_Exact st A B P none n c m d ns cs 0 0 Hd N a b G DX DY S [] w1 h1 h2 h3 h4 (by omega) Rd.nil_ (by omega) (by omega)
          rw [beg_empty hc0, slv_empty hc0] at kP
          rw [beg_empty hc0, exc_empty] at kR
          have kFr := fun w1 h1 h2 => prb_Free a b G DX DY S P ns cs w1 h1 h2 (by omega)
          rw [box_iff.2 ho] at kFr
          obtain ⟨nf, hnf⟩ : ∃ nf, (freL a b G DX DY S).length = nf := ⟨_, rfl⟩
          have kS := fun D e l w1 h1 h2 h3 => ref44_Spread a b G DX DY S l P D ns cs nf e w1 h1 h2 (by omega) h3 ho hnf
          have kL := fun X cl l2 w1 h1 h2 => prb_Cells a b G DX DY S P X ns cs (b * a) cl l2 w1 h1 (by omega) h2 (by have := ho.a.2; rw [← Int.natCast_mul, Nat.mul_comm] at this; omega)
          have kU := fun Q n9 c9 p w1 h1 h2 h3 h4 h5 h6 h7 => prb_Solves st A B P Q n c m d ns cs n9 c9 Hd N a b G DX DY S p w1 h1 h2 h3 h4 (by omega) h5 h6 h7
          have kV := fun Q n9 c9 p w1 h1 h2 h3 h5 h6 h7 => prb_Solves st A B none Q n c m d 0 0 n9 c9 Hd N a b G DX DY [] p w1 h1 h2 h3 Rd.nil_ (by omega) h5 h6 h7
          have hba := Lib.hid (show b * a ≤ 16 by have := ho.a.2; rw [← Int.natCast_mul, Nat.mul_comm] at this; omega)
          have hlaw := Lib.hid (fun F l => orbits_law (st := st) (Hd := Hd) (N := N) (a := a) (b := b) (n := nf) (F := F) (l := l) hc0)
          have hten := Lib.hid (fun F l => cel_two (st := st) (Hd := Hd) (N := N) (a := a) (b := b) (n := nf) (F := F) (l := l) hc0)
          generalize freL a b G DX DY S = F at kFr kS hnf
          replace hnf := Lib.hid hnf
          clear hc0 ho h20 h40
          go_enter Tryz.func6, Tryz.ntmps6
          go_wp2_with fail
          obtain ⟨we, hwe, hbt, hbp, hB, hsw⟩ := two_boxes w (.int .i64 st) (.slice A n c) (.slice B m d) 25 28 a b G DX DY (.slice P ns cs)
          rw [← hwe]
          clear hwe
          replace hM := hM.of hB
          replace hH := hH.of hB
          replace hN := hN.of hB
          replace hR := hR.of hB
          replace hL := hL.of hB
          have ⟨_, t0, t1, t2⟩ := hbt.open
          have ⟨_, p0, p1, p2, p3, p4, p5⟩ := hbp.open
          go_wp2_with fail
          go_at_call 7
          refine (kF _ hH hN).mono ?_
          rintro e1 w1 ⟨rfl, hb1⟩
          clear t0 t1 t2 p0 p1 p2 p3 p4 p5
          replace hM := hM.of hb1
          replace hH := hH.of hb1
          replace hN := hN.of hb1
          replace hR := hR.of hb1
          replace hL := hL.of hb1
          replace hbt := hbt.of hb1
          replace hbp := hbp.of hb1
          replace hB := below_thru hB hb1
          clear hb1
          have ⟨_, t0, t1, t2⟩ := hbt.open
          have ⟨_, p0, p1, p2, p3, p4, p5⟩ := hbp.open
          go_wp2_with fail
          go_at_call 8
          refine (kf _).mono ?_
          rintro e2 w2 ⟨rfl, hb2⟩
          clear t0 t1 t2 p0 p1 p2 p3 p4 p5
          replace hM := hM.of hb2
          replace hH := hH.of hb2
          replace hN := hN.of hb2
          replace hR := hR.of hb2
          replace hL := hL.of hb2
          replace hbt := hbt.of hb2
          replace hbp := hbp.of hb2
          replace hB := below_thru hB hb2
          clear hb2
          have ⟨_, t0, t1, t2⟩ := hbt.open
          have ⟨_, p0, p1, p2, p3, p4, p5⟩ := hbp.open
          go_wp2_with fail
          go_at_call 15
          refine (kC _ hH hN hR).mono ?_
          rintro e3 w3 ⟨rfl, hb3⟩
          clear t0 t1 t2 p0 p1 p2 p3 p4 p5
          replace hM := hM.of hb3
          replace hH := hH.of hb3
          replace hN := hN.of hb3
          replace hR := hR.of hb3
          replace hL := hL.of hb3
          replace hbt := hbt.of hb3
          replace hbp := hbp.of hb3
          replace hB := below_thru hB hb3
          clear hb3
          have ⟨_, t0, t1, t2⟩ := hbt.open
          have ⟨_, p0, p1, p2, p3, p4, p5⟩ := hbp.open
          go_wp2_with fail
          go_at_call 19
          refine (kP _ hM hH hN hR).mono ?_
          rintro e4 w4 ⟨rfl, hb4⟩
          clear t0 t1 t2 p0 p1 p2 p3 p4 p5
          replace hM := hM.of hb4
          replace hH := hH.of hb4
          replace hN := hN.of hb4
          replace hR := hR.of hb4
          replace hL := hL.of hb4
          replace hbt := hbt.of hb4
          replace hbp := hbp.of hb4
          replace hB := below_thru hB hb4
          clear hb4
          have ⟨_, t0, t1, t2⟩ := hbt.open
          have ⟨_, p0, p1, p2, p3, p4, p5⟩ := hbp.open
          go_wp2_with fail
          go_at_call 21
          refine (kR _ hM hH hN hR).mono ?_
          rintro e5 w5 ⟨rfl, hb5⟩
          clear t0 t1 t2 p0 p1 p2 p3 p4 p5
          replace hM := hM.of hb5
          replace hH := hH.of hb5
          replace hN := hN.of hb5
          replace hR := hR.of hb5
          replace hL := hL.of hb5
          replace hbt := hbt.of hb5
          replace hbp := hbp.of hb5
          replace hB := below_thru hB hb5
          clear hb5
          have ⟨_, t0, t1, t2⟩ := hbt.open
          have ⟨_, p0, p1, p2, p3, p4, p5⟩ := hbp.open
          go_wp2_with fail
          go_at_call 10
          refine (kFr _ hM hR).mono ?_
          rintro e6 w6 ⟨E, n2, c2, rfl, hE, hn2, hc2, hb6⟩
          clear t0 t1 t2 p0 p1 p2 p3 p4 p5
          replace hM := hM.of hb6
          replace hH := hH.of hb6
          replace hN := hN.of hb6
          replace hR := hR.of hb6
          replace hL := hL.of hb6
          replace hbt := hbt.of hb6
          replace hbp := hbp.of hb6
          replace hB := below_thru hB hb6
          clear hb6
          have ⟨_, t0, t1, t2⟩ := hbt.open
          have ⟨_, p0, p1, p2, p3, p4, p5⟩ := hbp.open
          obtain rfl : n2 = nf := by rw [← hE.len]; exact hnf.out
          by_cases hz : n2 = 0
          · subst hz
            go_wp2_with fail
            go_at_call 9
            refine (awake_44 _ hM).mono ?_
            rintro ez wz ⟨rfl, hbz⟩
            have hfin := below_thru hB hbz
            go_wp2_with fail
            go_ret
            exact ⟨rfl, hfin⟩
          · have z0 : ((n2 : Int) == 0) = false := by simpa using hz
            have z0' : (n2 == 0) = false := by simpa using hz
            obtain ⟨x0, bo, o, hx0, rfl, hbo, g0⟩ := hE.int (i := 0) (by omega)
            rw [Nat.add_zero] at g0
            have l0 : (0 : Int) < (n2 : Int) := by omega
            clear hz
            by_cases hx : x0 = 0
            · subst hx
              clear hx0
              by_cases hkn : k < n2
              · have dk : decide ((k : Int) < (n2 : Int)) = true := decide_eq_true (by omega)
                have dk' : decide (k < n2) = true := decide_eq_true hkn
                go_wp2_with fail
                go_at_call 9
                refine (awake_44 _ hM).mono ?_
                rintro ez wz ⟨rfl, hbz⟩
                have hfin := below_thru hB hbz
                go_wp2_with fail
                go_ret
                exact ⟨rfl, hfin⟩
              · have dk : decide ((k : Int) < (n2 : Int)) = false := decide_eq_false (by omega)
                have dk' : decide (k < n2) = false := decide_eq_false hkn
                have l1 : n2 ≤ e := by omega
                have l2 : (n2 : Int) ≤ (e : Int) := by omega
                have l3 : (0 : Int) ≤ (n2 : Int) := by omega
                have hL2 : Rd encI 1 w6 D n2 (l.take n2) := hL.take (by omega)
                go_wp2_with fail
                go_region_held3 (fun w' => FrW w6 w' ∧ w'.cell? ⟨w.heap.size + 1, 0, none⟩ = some (.int .i64 (a : Int)) ∧ w'.cell? ⟨w.heap.size + 1, 1, none⟩ = some (.int .i64 (b : Int)) ∧ w'.cell? ⟨w.heap.size + 1, 2, none⟩ = some (.int .i64 G) ∧ w'.cell? ⟨w.heap.size + 1, 3, none⟩ = some (.int .i64 DX) ∧ w'.cell? ⟨w.heap.size + 1, 4, none⟩ = some (.int .i64 DY) ∧ w'.cell? ⟨w.heap.size + 1, 5, none⟩ = some (.slice P ns cs))
                  (((try go_split_ands); refine FrW.prb ?_ hbp; first | exact FrW.drew (FrW.here _) | exact FrW.drew ‹_› | exact FrW.alloc ‹_› _ | exact FrW.here _ | exact FrW.of ‹_› hb | fail))
                  ((first | (go_at_call 25; (try go_split_ands); refine (kS D _ (l.take n2) _ (hM.of (FrW.below ‹_›)) (hR.of (FrW.below ‹_›)) (hL2.of (FrW.below ‹_›))).mono ?_; rintro e7 w7 ⟨X, rfl, hX, hb⟩) | fail))
                (try go_split_ands)
                have hb7 : Below w6.heap.size w6 w7 := FrW.below ‹_›
                clear t0 t1 t2 p0 p1 p2 p3 p4 p5
                clear g0
                replace hM := hM.of hb7
                replace hH := hH.of hb7
                replace hN := hN.of hb7
                replace hR := hR.of hb7
                replace hL := hL.of hb7
                replace hbt := hbt.of hb7
                replace hbp := hbp.of hb7
                replace hB := below_thru hB hb7
                clear hb7 hE hL2
                have ⟨_, t0, t1, t2⟩ := hbt.open
                have ⟨_, p0, p1, p2, p3, p4, p5⟩ := hbp.open
                replace hlaw := Lib.hid (hlaw.out F (l.take n2))
                replace hten := Lib.hid (hten.out F (l.take n2))
                generalize sprL a b S F (l.take n2) n2 (orbP a b S) = cells at hX hlaw hten
                have hcl := Lib.hid (cel_short (W := a) (H := b) (G := G) (DX := DX) (DY := DY) (S := S) (l := cells))
                go_wp2_with fail
                go_at_call 12
                refine (kL X _ cells _ hR hX).mono ?_
                rintro e8 w8 ⟨Y, n8, c8, rfl, hY, hb8⟩
                clear t0 t1 t2 p0 p1 p2 p3 p4 p5
                replace hM := hM.of hb8
                replace hH := hH.of hb8
                replace hN := hN.of hb8
                replace hR := hR.of hb8
                replace hL := hL.of hb8
                replace hX := hX.of hb8
                replace hbt := hbt.of hb8
                replace hbp := hbp.of hb8
                replace hB := below_thru hB hb8
                clear hb8
                have ⟨_, t0, t1, t2⟩ := hbt.open
                have ⟨_, p0, p1, p2, p3, p4, p5⟩ := hbp.open
                generalize celE a b G DX DY S cells = ce at hlaw hten ⊢
                generalize celL a b G DX DY S cells = cp at hY hlaw hcl
                by_cases hce : ce = 0
                · subst hce
                  obtain ⟨e1, e2⟩ := hlaw.out rfl
                  have kU2 := fun w1 h1 h2 h3 h4 h5 h6 => kU Y n8 c8 cp w1 h1 h2 h3 h4 h5 h6 hY.cap
                  have kV2 := fun w1 h1 h2 h3 h5 h6 => kV Y n8 c8 cp w1 h1 h2 h3 h5 h6 hY.cap
                  rw [e1, e2] at kU2
                  generalize slvB st Hd N a b G DX DY [] cp = b0 at kU2 kV2
                  generalize begE st Hd N a b G DX DY [] cp = q0 at kU2 kV2
                  have hYR := hY.rd
                  have hY6 : n8 ≤ 1000000 := by have := hYR.len; have := hcl.out; have := hX.len; have := hba.out; omega
                  clear e1 e2 hlaw hten hY hX kU kV kL kS kFr kP kR kC kf kF
                  have q0e : (q0 == q0) = true := beq_self_eq_true _
                  have b0e : (b0 == b0) = true := beq_self_eq_true _
                  go_wp2_with fail
                  clear t0 t1 t2 p0 p1 p2 p3 p4 p5
                  have hby := PbAt.new w8 (a : Int) (b : Int) G DX DY (.slice none 0 0) 28
                  have hbe : Below w8.heap.size w8 (w8.alloc (.cells #[.int .i64 (a : Int), .int .i64 (b : Int), .int .i64 G, .int .i64 DX, .int .i64 DY, .slice none 0 0] 28)) := (Below.refl _ _).alloc (Nat.le_refl _) _
                  obtain ⟨wy, hwy⟩ : ∃ wy, wy = w8.alloc (.cells #[.int .i64 (a : Int), .int .i64 (b : Int), .int .i64 G, .int .i64 DX, .int .i64 DY, .slice none 0 0] 28) := ⟨_, rfl⟩
                  rw [← hwy] at hby hbe ⊢
                  clear hwy
                  replace hM := hM.of hbe
                  replace hH := hH.of hbe
                  replace hN := hN.of hbe
                  replace hR := hR.of hbe
                  replace hL := hL.of hbe
                  replace hYR := hYR.of hbe
                  replace hbt := hbt.of hbe
                  replace hbp := hbp.of hbe
                  replace hB := below_thru hB hbe
                  clear hbe
                  obtain ⟨yb, hyb⟩ : ∃ yb, yb = w8.heap.size := ⟨_, rfl⟩
                  rw [← hyb] at hby ⊢
                  clear hyb
                  have ⟨_, t0, t1, t2⟩ := hbt.open
                  have ⟨_, p0, p1, p2, p3, p4, p5⟩ := hbp.open
                  have ⟨_, r0, r1, r2, r3, r4, r5⟩ := hby.open
                  go_at_call 19
                  refine (kU2 _ hM hH hN hR hYR hY6).mono ?_
                  rintro e9 w9 ⟨rfl, hb9⟩
                  clear t0 t1 t2 p0 p1 p2 p3 p4 p5
                  replace hM := hM.of hb9
                  replace hH := hH.of hb9
                  replace hN := hN.of hb9
                  replace hR := hR.of hb9
                  replace hL := hL.of hb9
                  replace hYR := hYR.of hb9
                  replace hby := hby.of hb9
                  replace hbt := hbt.of hb9
                  replace hbp := hbp.of hb9
                  replace hB := below_thru hB hb9
                  clear hb9
                  have ⟨_, t0, t1, t2⟩ := hbt.open
                  have ⟨_, p0, p1, p2, p3, p4, p5⟩ := hbp.open
                  clear r0 r1 r2 r3 r4 r5
                  have ⟨_, r0, r1, r2, r3, r4, r5⟩ := hby.open
                  go_wp2_with fail
                  go_at_call 19
                  refine (kV2 _ hM hH hN hYR hY6).mono ?_
                  rintro e10 w10 ⟨rfl, hb10⟩
                  clear t0 t1 t2 p0 p1 p2 p3 p4 p5
                  replace hM := hM.of hb10
                  replace hH := hH.of hb10
                  replace hN := hN.of hb10
                  replace hR := hR.of hb10
                  replace hL := hL.of hb10
                  replace hYR := hYR.of hb10
                  replace hby := hby.of hb10
                  replace hbt := hbt.of hb10
                  replace hbp := hbp.of hb10
                  replace hB := below_thru hB hb10
                  clear hb10
                  have ⟨_, t0, t1, t2⟩ := hbt.open
                  have ⟨_, p0, p1, p2, p3, p4, p5⟩ := hbp.open
                  clear r0 r1 r2 r3 r4 r5
                  go_wp2_with fail
                  go_at_call 9
                  refine (awake_44 _ hM).mono ?_
                  rintro ez wz ⟨rfl, hbz⟩
                  have hfin := below_thru hB hbz
                  go_wp2_with fail
                  go_ret
                  exact ⟨rfl, hfin⟩
                · have t9 : (ce != 0) = true := by simpa using hce
                  obtain rfl := hten.out hce
                  go_wp2_with fail
                  go_at_call 9
                  refine (awake_44 _ hM).mono ?_
                  rintro ez wz ⟨rfl, hbz⟩
                  have hfin := below_thru hB hbz
                  go_wp2_with fail
                  go_ret
                  exact ⟨rfl, hfin⟩
            · have z1 : (x0 != 0) = true := by simpa using hx
              go_wp2_with fail
              go_at_call 9
              refine (awake_44 _ hM).mono ?_
              rintro ez wz ⟨rfl, hbz⟩
              have hfin := below_thru hB hbz
              go_wp2_with fail
              go_ret
              exact ⟨rfl, hfin⟩
        · generalize chkE st Hd N W H G DX DY S = r at hc0 kC
          have t0' : (r != 0) = true := by simpa using hc0
          clear hc0
          go_enter Tryz.func6, Tryz.ntmps6
          go_wp2_with fail
          obtain ⟨we, hwe, hbt, hbp, hB, hsw⟩ := two_boxes w (.int .i64 st) (.slice A n c) (.slice B m d) 25 28 W H G DX DY (.slice P ns cs)
          rw [← hwe]
          clear hwe
          replace hM := hM.of hB
          replace hH := hH.of hB
          replace hN := hN.of hB
          replace hR := hR.of hB
          have ⟨_, t0, t1, t2⟩ := hbt.open
          have ⟨_, p0, p1, p2, p3, p4, p5⟩ := hbp.open
          go_wp2_with fail
          go_at_call 7
          refine (kF _ hH hN).mono ?_
          rintro e1 w1 ⟨rfl, hb1⟩
          clear t0 t1 t2 p0 p1 p2 p3 p4 p5
          replace hM := hM.of hb1
          replace hH := hH.of hb1
          replace hN := hN.of hb1
          replace hR := hR.of hb1
          replace hbt := hbt.of hb1
          replace hbp := hbp.of hb1
          replace hB := below_thru hB hb1
          clear hb1
          have ⟨_, t0, t1, t2⟩ := hbt.open
          have ⟨_, p0, p1, p2, p3, p4, p5⟩ := hbp.open
          go_wp2_with fail
          go_at_call 8
          refine (kf _).mono ?_
          rintro e2 w2 ⟨rfl, hb2⟩
          clear t0 t1 t2 p0 p1 p2 p3 p4 p5
          replace hM := hM.of hb2
          replace hH := hH.of hb2
          replace hN := hN.of hb2
          replace hR := hR.of hb2
          replace hbt := hbt.of hb2
          replace hbp := hbp.of hb2
          replace hB := below_thru hB hb2
          clear hb2
          have ⟨_, t0, t1, t2⟩ := hbt.open
          have ⟨_, p0, p1, p2, p3, p4, p5⟩ := hbp.open
          go_wp2_with fail
          go_at_call 15
          refine (kC _ hH hN hR).mono ?_
          rintro e3 w3 ⟨rfl, hb3⟩
          clear t0 t1 t2 p0 p1 p2 p3 p4 p5
          replace hM := hM.of hb3
          replace hH := hH.of hb3
          replace hN := hN.of hb3
          replace hR := hR.of hb3
          replace hbt := hbt.of hb3
          replace hbp := hbp.of hb3
          replace hB := below_thru hB hb3
          clear hb3
          have ⟨_, t0, t1, t2⟩ := hbt.open
          have ⟨_, p0, p1, p2, p3, p4, p5⟩ := hbp.open
          go_wp2_with fail
          go_at_call 9
          refine (awake_44 _ hM).mono ?_
          rintro ez wz ⟨rfl, hbz⟩
          have hfin := below_thru hB hbz
          go_wp2_with fail
          go_ret
          exact ⟨rfl, hfin⟩
      · have d40 : decide (40 < (k : Int)) = true := decide_eq_true (by omega)
        have d40' : decide (40 < k) = true := decide_eq_true (by omega)
        go_enter Tryz.func6, Tryz.ntmps6
        go_wp2_with fail
        obtain ⟨we, hwe, hbt, hbp, hB, hsw⟩ := two_boxes w (.int .i64 st) (.slice A n c) (.slice B m d) 25 28 W H G DX DY (.slice P ns cs)
        rw [← hwe]
        clear hwe
        replace hM := hM.of hB
        replace hH := hH.of hB
        replace hN := hN.of hB
        have ⟨_, t0, t1, t2⟩ := hbt.open
        have ⟨_, p0, p1, p2, p3, p4, p5⟩ := hbp.open
        go_wp2_with fail
        go_at_call 7
        refine (kF _ hH hN).mono ?_
        rintro e1 w1 ⟨rfl, hb1⟩
        clear t0 t1 t2 p0 p1 p2 p3 p4 p5
        replace hM := hM.of hb1
        replace hH := hH.of hb1
        replace hN := hN.of hb1
        replace hbt := hbt.of hb1
        replace hbp := hbp.of hb1
        replace hB := below_thru hB hb1
        clear hb1
        have ⟨_, t0, t1, t2⟩ := hbt.open
        have ⟨_, p0, p1, p2, p3, p4, p5⟩ := hbp.open
        go_wp2_with fail
        go_at_call 8
        refine (kf _).mono ?_
        rintro e2 w2 ⟨rfl, hb2⟩
        clear t0 t1 t2 p0 p1 p2 p3 p4 p5
        replace hM := hM.of hb2
        replace hH := hH.of hb2
        replace hN := hN.of hb2
        replace hbt := hbt.of hb2
        replace hbp := hbp.of hb2
        replace hB := below_thru hB hb2
        clear hb2
        have ⟨_, t0, t1, t2⟩ := hbt.open
        have ⟨_, p0, p1, p2, p3, p4, p5⟩ := hbp.open
        go_wp2_with fail
        go_at_call 9
        refine (awake_44 _ hM).mono ?_
        rintro ez wz ⟨rfl, hbz⟩
        have hfin := below_thru hB hbz
        go_wp2_with fail
        go_ret
        exact ⟨rfl, hfin⟩
    · have kf := fun w1 => law_few W H G DX DY P ns cs false (decide_eq_false h20) w1
      go_enter Tryz.func6, Tryz.ntmps6
      go_wp2_with fail
      obtain ⟨we, hwe, hbt, hbp, hB, hsw⟩ := two_boxes w (.int .i64 st) (.slice A n c) (.slice B m d) 25 28 W H G DX DY (.slice P ns cs)
      rw [← hwe]
      clear hwe
      replace hM := hM.of hB
      replace hH := hH.of hB
      replace hN := hN.of hB
      have ⟨_, t0, t1, t2⟩ := hbt.open
      have ⟨_, p0, p1, p2, p3, p4, p5⟩ := hbp.open
      go_wp2_with fail
      go_at_call 7
      refine (kF _ hH hN).mono ?_
      rintro e1 w1 ⟨rfl, hb1⟩
      clear t0 t1 t2 p0 p1 p2 p3 p4 p5
      replace hM := hM.of hb1
      replace hH := hH.of hb1
      replace hN := hN.of hb1
      replace hbt := hbt.of hb1
      replace hbp := hbp.of hb1
      replace hB := below_thru hB hb1
      clear hb1
      have ⟨_, t0, t1, t2⟩ := hbt.open
      have ⟨_, p0, p1, p2, p3, p4, p5⟩ := hbp.open
      go_wp2_with fail
      go_at_call 8
      refine (kf _).mono ?_
      rintro e2 w2 ⟨rfl, hb2⟩
      clear t0 t1 t2 p0 p1 p2 p3 p4 p5
      replace hM := hM.of hb2
      replace hH := hH.of hb2
      replace hN := hN.of hb2
      replace hbt := hbt.of hb2
      replace hbp := hbp.of hb2
      replace hB := below_thru hB hb2
      clear hb2
      have ⟨_, t0, t1, t2⟩ := hbt.open
      have ⟨_, p0, p1, p2, p3, p4, p5⟩ := hbp.open
      go_wp2_with fail
      go_at_call 9
      refine (awake_44 _ hM).mono ?_
      rintro ez wz ⟨rfl, hbz⟩
      have hfin := below_thru hB hbz
      go_wp2_with fail
      go_ret
      exact ⟨rfl, hfin⟩
end Go.Proofs.YtnhapgbjaeaamaaGreatDoor
