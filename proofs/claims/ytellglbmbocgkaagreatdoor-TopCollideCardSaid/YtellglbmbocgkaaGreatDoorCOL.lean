/- The contracts of period.moved, Find and Has. The contracts of ship.Right, Phase and Place. The contract of ship.Place. -/
import Derived.Test.YtellglbmbocgkaaGreatDoorColP
import Derived.Test.YtellglbmbocgkaaGreatDoorDIR
import Derived.Test.YtellglbmbocgkaaGreatDoorBxP
import Derived.Test.YtellglbmbocgkaaGreatDoorCEL
import Derived.Test.YtellglbmbocgkaaGreatDoorColM
import Derived.Test.YtellglbmbocgkaaGreatDoorALB
import Derived.Test.YtellglbmbocgkaaGreatDoorTRE
set_option linter.unusedSimpArgs false
set_option linter.unusedVariables false
section
namespace Go.Proofs.YtellglbmbocgkaaGreatDoor
open Go Go.RowKit
set_option maxRecDepth 100000
set_option linter.unusedSimpArgs false
set_option linter.unusedVariables false
attribute [local go_sem ↓ high] eq_cl neq_cl eq_pt neq_pt
theorem arr3M (a b c : Value) : [a, b, c].toArray = #[a, b, c] := rfl
theorem BxW.open3 {w : World} {b : Nat} {v0 v1 v2 : Value} (h : BxW w b [v0, v1, v2]) : b < w.heap.size ∧ w.cell? ⟨b, 0, none⟩ = some v0 ∧ w.cell? ⟨b, 1, none⟩ = some v1 ∧ w.cell? ⟨b, 2, none⟩ = some v2 ∧ w.frozen? ⟨b, 0, none⟩ = false ∧ w.frozen? ⟨b, 1, none⟩ = false ∧ w.frozen? ⟨b, 2, none⟩ = false :=
  ⟨h.1, h.2.1 0, h.2.1 1, h.2.1 2, h.2.2 0, h.2.2 1, h.2.2 2⟩
theorem eq_mot (x y z x' y' z' : Int) (w : World) : (binOp .eql 103 (.agg #[.int .i64 x, .int .i64 y, .int .i64 z]) (.agg #[.int .i64 x', .int .i64 y', .int .i64 z'])).run Tryz.prog w = .ok (.bool (decide (x = x' ∧ y = y' ∧ z = z'))) w := by
  have u3 := Tryz.underlying3
  have a3 := Tryz.isAgg3
  have z3 := Tryz.sizeOf3
  have hS : Tryz.prog.underlying 103 = some (.struct (Tryz.prog.fieldsOf 103)) := by kernel_rfl
  have hp : Tryz.prog.stoodInHeld 103 = false := by kernel_rfl
  rw [run_eql_struct, show (10000 : Nat) = 9999 + 1 from rfl, run_equalIn_agg w 9999 103 _ _ hS hp]
  simp only [Program.fieldsOf, Tryz.underlying103]
  go_simp
  by_cases h1 : x = x' <;> by_cases h2 : y = y' <;> by_cases h3 : z = z' <;> simp [h1, h2, h3]
def mvI (o : Bool) (x : Int) : Int := if o = true then x else 0
def mvV (a b : List Cel) : Value := .tuple #[.int .i64 (mvI (mvO a b) (mvX a b)), .int .i64 (mvI (mvO a b) (mvY a b)), .bool (mvO a b)]
theorem mv_no {a b : List Cel} (h : mvO a b = false) : Ending.returned (.tuple #[.int .i64 0, .int .i64 0, .bool false]) = .returned (mvV a b) := by unfold mvV mvI; rw [h]; rfl
theorem mv_yes {a b : List Cel} {x y : Int} (h : mvO a b = true) (hx : mvX a b = x) (hy : mvY a b = y) : Ending.returned (.tuple #[.int .i64 x, .int .i64 y, .bool true]) = .returned (mvV a b) := by unfold mvV mvI; rw [h, hx, hy]; rfl
set_option maxHeartbeats 8000000 in
theorem per_moved (A B : Option Addr) (n m c d : Nat) (a b : List Cel) (w : World) (hA : Rd encC 3 w A n a) (hB : Rd encC 3 w B m b) (ha : rightC a = true) (hb0 : rightC b = true) :
    Calls Tryz.prog 247 #[.slice A n c, .slice B m d] w fun e w' => e = .returned (mvV a b) ∧ Below w.heap.size w w' := by
  have hn5 : n ≤ 5000 := by rw [← hA.len]; exact (rightC_ok ha).1
  have hla := Lib.hid hA.len
  have hlb := Lib.hid hB.len
  by_cases hnm : n = m
  · subst hnm
    have t1 : ((n : Int) != (n : Int)) = false := by simp
    rcases Nat.eq_zero_or_pos n with h0 | h0
    · subst h0
      have hE := Lib.hid (mvO_nil (b := b) hla.out)
      go_enter Tryz.func247, Tryz.ntmps247
      go_wp2_with fail
      go_ret3
      exact ⟨mv_no hE.out, by (repeat' (first | exact Below.refl _ _ | assumption | (refine Below.alloc ?_ ?_ _) | (refine Below.setCell ?_ ?_ _) | (refine Below.drew ?_) | (refine below_drewN ?_ _) | (refine below_after (Ext.below _) ?_ ?_) | (refine below_after (by assumption) ?_ ?_) | (simp; done) | omega | (simp; omega)))⟩
    · have t0 : ((n : Int) == 0) = false := by simp; omega
      have hka := Lib.hid (okCells_right ha)
      have hkb := Lib.hid (okCells_right hb0)
      obtain ⟨x0, y0, s0, bo, o, hx0, hAe, hbl, g1, g2, _⟩ := hA.cell h0
      obtain ⟨x1, y1, s1, bo', o', hx1, hBe, hbl', g1', g2', _⟩ := hB.cell h0
      have hp0 := (hka.out _ (List.mem_of_getElem? hx0.out)).1
      have hp1 := (hkb.out _ (List.mem_of_getElem? hx1.out)).1
      unfold Pt at hp0 hp1
      simp only at hp0 hp1
      obtain ⟨dx, hdx⟩ : ∃ v, x1 - x0 = v := ⟨_, rfl⟩
      obtain ⟨dy, hdy⟩ : ∃ v, y1 - y0 = v := ⟨_, rfl⟩
      have hX := Lib.hid (show mvX a b = dx by unfold mvX; rw [hdC_at hx0.out, hdC_at hx1.out]; exact hdx)
      have hY := Lib.hid (show mvY a b = dy by unfold mvY; rw [hdC_at hx0.out, hdC_at hx1.out]; exact hdy)
      have bx : -2097152 ≤ dx ∧ dx ≤ 2097152 := by omega
      have by' : -2097152 ≤ dy ∧ dy ≤ 2097152 := by omega
      have u1 : IntKind.i64.wrap (x1 - x0) = dx := by rw [IntWalk.i64_in _ (by omega)]; exact hdx
      have u1' : wrap64 (x1 - x0) = dx := by clear u1; unfold wrap64; omega
      have u2 : IntKind.i64.wrap (y1 - y0) = dy := by clear u1 u1'; rw [IntWalk.i64_in _ (by omega)]; exact hdy
      have u2' : wrap64 (y1 - y0) = dy := by clear u1 u1' u2; unfold wrap64; omega
      rw [Nat.zero_mul, Nat.add_zero] at g1 g2 g1' g2'
      have i1 : (0 : Int) < (n : Int) := by omega
      have i2 : decide (0 < n) = true := decide_eq_true h0
      subst hAe hBe
      replace hdx := Lib.hid hdx
      replace hdy := Lib.hid hdy
      replace bx := Lib.hid bx
      replace by' := Lib.hid by'
      clear hp0 hp1 hx0 hx1
      go_enter Tryz.func247, Tryz.ntmps247
      go_wp2_with fail
      (refine wp_region_ext_lit (by kernel_rfl) (by kernel_rfl) ?_; (repeat (go_big_quiet_step (fail))); refine wpQuiet_nil ?_; intro _ hw'; obtain ⟨z1, hw''⟩ := hw'; subst hw''; have hs1 := z1.size; obtain ⟨hc1, hf1⟩ := bcell z1.below; (try simp only [World.size_alloc, World.size_setCell, World.size_drew] at hc1 hf1); (try simp at hs1))
      go_wp2_with fail
      have hb1 := z1.below
      generalize z1.world = w1 at hb1 ⊢
      clear u1 u1' u2 u2' g1 g2 g1' g2' hc1 hf1 hs1
      have hA1 := hA.of hb1
      have hB1 := hB.of hb1
      go_loopw [4, 5, 38] (fun t4 t5 t wr => ∃ j : Nat, t4 = .int .i64 dx ∧ t5 = .int .i64 dy ∧ j ≤ n ∧ t = .int .i64 j ∧ Below w1.heap.size w1 wr ∧ Hid (∀ i c d, i < j → a[i]? = some c → b[i]? = some d → d = mv5 (mvX a b) (mvY a b) c)) (fun _ _ t _ => n - (intOf t).toNat)
      case atStart => exact ⟨0, rfl, rfl, by omega, rfl, Below.refl _ _, Lib.hid fun i c d hi => absurd hi (by omega)⟩
      case round =>
        obtain ⟨j, rfl, rfl, hj, rfl, hb, hno⟩ := hrel
        have hBw := below_thru hb1 hb
        have hs := hb.size
        by_cases hlt : j < n
        · have dj : decide ((j : Int) < n) = true := decide_eq_true (by omega)
          have dj' : decide (j < n) = true := decide_eq_true hlt
          obtain ⟨x, y, s, b2, o2, hx, hA2, hbl2, k1, k2, k3⟩ := (hA1.of hb).cell hlt
          obtain ⟨x', y', s', b3, o3, hy, hB2, hbl3, k1', k2', k3'⟩ := (hB1.of hb).cell hlt
          injection hA2 with hA2
          injection hA2 with hA3 hA4
          subst hA3 hA4
          injection hB2 with hB2
          injection hB2 with hB3 hB4
          subst hB3 hB4
          have hp := (hka.out _ (List.mem_of_getElem? hx.out)).1
          unfold Pt at hp
          simp only at hp
          have bx' := bx.out
          have by2 := by'.out
          obtain ⟨ux, hux⟩ : ∃ v, x + dx = v := ⟨_, rfl⟩
          obtain ⟨uy, huy⟩ : ∃ v, y + dy = v := ⟨_, rfl⟩
          have e1 : IntKind.i64.wrap (x + dx) = ux := by rw [IntWalk.i64_in _ (by omega)]; exact hux
          have e1' : wrap64 (x + dx) = ux := by clear e1; unfold wrap64; omega
          have e2 : IntKind.i64.wrap (y + dy) = uy := by clear e1 e1'; rw [IntWalk.i64_in _ (by omega)]; exact huy
          have e2' : wrap64 (y + dy) = uy := by clear e1 e1' e2; unfold wrap64; omega
          have hm := Lib.hid (show mv5 (mvX a b) (mvY a b) (x, y, s) = (ux, uy, s) by rw [hX.out, hY.out, ← hux, ← huy]; rfl)
          clear hux huy hp bx' by2
          by_cases hq : x' = ux ∧ y' = uy ∧ s' = s
          · have dq : decide (x' = ux ∧ y' = uy ∧ s' = s) = true := decide_eq_true hq
            have hst := Lib.hid (show ∀ i c d, i < j + 1 → a[i]? = some c → b[i]? = some d → d = mv5 (mvX a b) (mvY a b) c from fun i c d hi h1 h2 => by
              by_cases ei : i = j
              · subst ei
                rw [hx.out] at h1
                rw [hy.out] at h2
                injection h1 with h1
                injection h2 with h2
                subst h1 h2
                obtain ⟨q1, q2, q3⟩ := hq
                rw [hm.out, q1, q2, q3]
              · exact hno.out i c d (by omega) h1 h2)
            clear hq hx hy
            go_wp2_with fail
            (refine wp_region_ext_lit (by kernel_rfl) (by kernel_rfl) ?_; (repeat (go_big_quiet_step (fail))); refine wpQuiet_nil ?_; intro _ hw'; obtain ⟨z2, hw''⟩ := hw'; subst hw''; have hs2 := z2.size; obtain ⟨hc2, hf2⟩ := bcell z2.below; (try simp only [World.size_alloc, World.size_setCell, World.size_drew] at hc2 hf2); (try simp at hs2))
            go_wp2_with fail
            go_roundw
            case rel => exact ⟨j + 1, rfl, rfl, by omega, by go_num, below_thru hb z2.below, hst⟩
            case measure => simp [intOf]; omega
          · have dq : decide (x' = ux ∧ y' = uy ∧ s' = s) = false := decide_eq_false hq
            have hE := Lib.hid (mvO_bad hx.out hy.out (by rw [hm.out]; intro e; injection e with q1 q2; injection q2 with q2 q3; exact hq ⟨q1, q2, q3⟩))
            clear hq hx hy
            go_wp2_with fail
            (refine wp_region_ext_lit (by kernel_rfl) (by kernel_rfl) ?_; (repeat (go_big_quiet_step (fail))); refine wpQuiet_nil ?_; intro _ hw'; obtain ⟨z2, hw''⟩ := hw'; subst hw''; have hs2 := z2.size; obtain ⟨hc2, hf2⟩ := bcell z2.below; (try simp only [World.size_alloc, World.size_setCell, World.size_drew] at hc2 hf2); (try simp at hs2))
            go_wp2_with fail
            go_ret3
            exact ⟨mv_no hE.out, below_thru hBw z2.below⟩
        · obtain rfl : j = n := by omega
          have dj : decide ((j : Int) < j) = false := decide_eq_false (by omega)
          have dj' : decide (j < j) = false := decide_eq_false hlt
          have hE := Lib.hid (mvO_good hla.out hlb.out h0 hno.out)
          go_wp2_with fail
          go_ret3
          exact ⟨mv_yes hE.out hX.out hY.out, hBw⟩
  · have hq : ((n : Int) != (m : Int)) = true := by simp; omega
    have hq2 : ((n : Int) == (m : Int)) = false := by simp; omega
    have hE := Lib.hid (mvO_len (show a.length ≠ b.length by rw [hla.out, hlb.out]; exact hnm))
    clear hnm
    go_enter Tryz.func247, Tryz.ntmps247
    go_wp2_with fail
    go_ret3
    exact ⟨mv_no hE.out, by (repeat' (first | exact Below.refl _ _ | assumption | (refine Below.alloc ?_ ?_ _) | (refine Below.setCell ?_ ?_ _) | (refine Below.drew ?_) | (refine below_drewN ?_ _) | (refine below_after (Ext.below _) ?_ ?_) | (refine below_after (by assumption) ?_ ?_) | (simp; done) | omega | (simp; omega)))⟩
def prB (n : Int) : Bool := decide (1 ≤ n) && decide (n ≤ 64)
theorem per_proper (n : Int) (w : World) : Calls Tryz.prog 246 #[.int .i64 n] w fun e w' => e = .returned (.bool (prB n)) ∧ Below w.heap.size w w' := by
  by_cases h1 : 1 ≤ n
  · have d1 : decide (1 ≤ n) = true := decide_eq_true h1
    have hE := Lib.hid (show prB n = decide (n ≤ 64) by unfold prB; rw [d1]; rfl)
    clear h1
    go_enter Tryz.func246, Tryz.ntmps246
    go_wp2_with fail
    go_ret
    exact ⟨ret_bool hE.out.symm, by (repeat' (first | exact Below.refl _ _ | assumption | (refine Below.alloc ?_ ?_ _) | (refine Below.setCell ?_ ?_ _) | (refine Below.drew ?_) | (refine below_drewN ?_ _) | (refine below_after (Ext.below _) ?_ ?_) | (refine below_after (by assumption) ?_ ?_) | (simp; done) | omega | (simp; omega)))⟩
  · have d1 : decide (1 ≤ n) = false := decide_eq_false h1
    have hE := Lib.hid (show prB n = false by unfold prB; rw [d1]; rfl)
    clear h1
    go_enter Tryz.func246, Tryz.ntmps246
    go_wp2_with fail
    go_ret
    exact ⟨ret_bool hE.out.symm, by (repeat' (first | exact Below.refl _ _ | assumption | (refine Below.alloc ?_ ?_ _) | (refine Below.setCell ?_ ?_ _) | (refine Below.drew ?_) | (refine below_drewN ?_ _) | (refine below_after (Ext.below _) ?_ ?_) | (refine below_after (by assumption) ?_ ?_) | (simp; done) | omega | (simp; omega)))⟩
def fnV (r : Int × Bool × Mot) : Value := .tuple #[.agg #[.int .i64 r.2.2.1, .int .i64 r.2.2.2.1, .int .i64 r.2.2.2.2], .bool r.2.1, .int .i64 r.1]
theorem fn_ret {r : Int × Bool × Mot} {e a b c : Int} {o : Bool} (h : r = (e, o, a, b, c)) : Ending.returned (.tuple #[.agg #[.int .i64 a, .int .i64 b, .int .i64 c], .bool o, .int .i64 e]) = .returned (fnV r) := by subst h; rfl
section
variable (st : Int) (A B D : Option Addr) (n c m d k e : Nat) (H : List (Int × Int)) (N : List (Int × List Int)) (p : List Cel) (w : World)
theorem run_at0 : runE st H N p 0 = fitE st H N p := by
  unfold runE
  by_cases h : fitE st H N p = 0
  · rw [if_pos h, if_neg (by omega), h]; rfl
  · rw [if_neg h]
set_option maxHeartbeats 16000000 in
theorem per_Find (most : Int) (hH : Rd encP 2 w A n H) (hN : RdX ekN w B m N) (hR : Rd encC 3 w D k p) (hk : k ≤ 1000000) (hke : k ≤ e) :
    Calls Tryz.prog 202 #[.agg #[.int .i64 st, .slice A n c, .slice B m d], .slice D k e, .int .i64 most] w fun e' w' => e' = .returned (fnV (fndF st H N p most)) ∧ Below w.heap.size w w' := by
  have kI := fun w1 h1 h2 h3 => direct_Run st A B D n c m d k e H N p w1 0 h1 h2 h3 hk hke
  rw [run_at0] at kI
  obtain ⟨q, hq⟩ : ∃ q, fitE st H N p = q := ⟨_, rfl⟩
  rw [hq] at kI
  replace hq := Lib.hid hq
  obtain ⟨pm, hpm⟩ : ∃ v, prB most = v := ⟨_, rfl⟩
  have kP := fun w1 => per_proper most w1
  rw [hpm] at kP
  replace hpm := Lib.hid hpm
  go_enter Tryz.func202, Tryz.ntmps202
  go_wp2_with fail
  have hbt := (TrAt.new w (.int .i64 st) (.slice A n c) (.slice B m d) 25).of ((Below.refl _ _).alloc (Nat.le_refl _) (.cells #[.int .i64 0, .int .i64 0, .int .i64 0] 103))
  have hbm := BxW.new (w.alloc (.cells #[.int .i64 st, .slice A n c, .slice B m d] 25)) [.int .i64 0, .int .i64 0, .int .i64 0] 103
  rw [arr3M, World.size_alloc] at hbm
  have hB : Below w.heap.size w ((w.alloc (.cells #[.int .i64 st, .slice A n c, .slice B m d] 25)).alloc (.cells #[.int .i64 0, .int .i64 0, .int .i64 0] 103)) := by (repeat' (first | exact Below.refl _ _ | assumption | (refine Below.alloc ?_ ?_ _) | (refine Below.setCell ?_ ?_ _) | (refine Below.drew ?_) | (refine below_drewN ?_ _) | (refine below_after (Ext.below _) ?_ ?_) | (refine below_after (by assumption) ?_ ?_) | (simp; done) | omega | (simp; omega)))
  obtain ⟨we, hwe⟩ : ∃ we, we = (w.alloc (.cells #[.int .i64 st, .slice A n c, .slice B m d] 25)).alloc (.cells #[.int .i64 0, .int .i64 0, .int .i64 0] 103) := ⟨_, rfl⟩
  have hsw : we.heap.size = w.heap.size + 2 := by rw [hwe]; simp
  rw [← hwe] at hbt hbm hB ⊢
  clear hwe
  obtain ⟨bm, hbmE⟩ : ∃ b, b = w.heap.size + 1 := ⟨_, rfl⟩
  rw [← hbmE] at hbm ⊢
  have hbm1 : w.heap.size ≤ bm := by omega
  have hbm2 : bm < we.heap.size := by omega
  clear hbmE
  replace hH := hH.of hB
  replace hN := hN.of hB
  replace hR := hR.of hB
  go_at_call 17
  refine (kI _ hH hN hR).mono ?_
  rintro e1 w1 ⟨A1, n1, c1, rfl, _, _, hb1⟩
  have hs1 := hb1.size
  have hB1 := below_thru hB hb1
  by_cases h0 : q = 0
  · subst h0
    go_wp2_with fail
    go_at_call 246
    refine (kP _).mono ?_
    rintro e2 w2 ⟨rfl, hb2⟩
    have hs2 := hb2.size
    have hB2 := below_thru hB1 hb2
    have hw2 := below_thru hb1 hb2
    cases pm with
    | false =>
      have hE := Lib.hid (fnd_arg (most := most) hq.out (fun h => by have := hpm.out; unfold prB at this; rw [decide_eq_true h.1, decide_eq_true h.2] at this; cases this))
      obtain ⟨_, m0, m1, m2, f0, f1, f2⟩ := (hbm.of hw2).open3
      go_wp2_with fail
      refine bodyPost_ret (v := .tuple #[.agg #[.int .i64 0, .int .i64 0, .int .i64 0], .bool false, .int .i64 2]) (by simp [results, Tryz.results202, go_sem, *, ↓IntWalk.iteOmega]) rfl ?_
      exact ⟨fn_ret hE.out, by (repeat' (first | exact Below.refl _ _ | assumption | (refine Below.alloc ?_ ?_ _) | (refine Below.setCell ?_ ?_ _) | (refine Below.drew ?_) | (refine below_drewN ?_ _) | (refine below_after (Ext.below _) ?_ ?_) | (refine below_after (by assumption) ?_ ?_) | (simp; done) | omega | (simp; omega)))⟩
    | true =>
      have hms : 1 ≤ most ∧ most ≤ 64 := by
        have := hpm.out
        unfold prB at this
        rw [Bool.and_eq_true, decide_eq_true_eq, decide_eq_true_eq] at this
        exact this
      obtain ⟨M, rfl⟩ := Int.eq_ofNat_of_zero_le (show 0 ≤ most by omega)
      have hM1 : 1 ≤ M := by omega
      have hM2 : M ≤ 64 := by omega
      have hFN := Lib.hid (fnd_go hq.out hM1 hM2)
      have hfit := Lib.hid (fit_iff.1 hq.out)
      have hpr := Lib.hid hfit.out.pat
      clear hms hpm
      go_wp2_with fail
      go_loopw [11, 12] (fun v t wr => ∃ (E : Option Addr) (q g j : Nat) (pj : List Cel), v = .slice E q g ∧ t = .int .i64 j ∧ 1 ≤ j ∧ j ≤ M + 1 ∧ q ≤ g ∧ q ≤ 1000000 ∧ Hid (FitsR st H N pj) ∧ Rd encC 3 wr E q pj ∧ Hid (fndF st H N p (M : Int) = finG H N p (M + 1 - j) j pj) ∧ Below we.heap.size we wr) (fun _ t _ => M + 1 - (intOf t).toNat)
      case atStart => exact ⟨D, k, e, 1, p, rfl, rfl, by omega, by omega, hke, hk, hfit, hR.of hw2, Lib.hid (by rw [hFN.out, show M + 1 - 1 = M by omega]), hw2⟩
      case round =>
        clear hb1 hs1 hb2 hs2 hB1 hB2 hw2
        obtain ⟨E, q, g, j, pj, rfl, rfl, hj1, hj2, hqg, hq6, hfj, hRj, hF, hb⟩ := hrel
        have hsz := hb.size
        have hBr := below_thru hB hb
        obtain ⟨_, t0, t1, t2⟩ := hbt.of hb
        obtain ⟨_, m0, m1, m2, f0, f1, f2⟩ := (hbm.of hb).open3
        have hbr : bm < wr.heap.size := by omega
        by_cases hlj : j ≤ M
        · have dj : decide ((j : Int) ≤ M) = true := decide_eq_true (by omega)
          have dj' : decide (j ≤ M) = true := decide_eq_true hlj
          rcases Nat.eq_zero_or_pos q with h0 | h0
          · subst h0
            have hE := Lib.hid (hF.out.trans (fin_nil hRj.len))
            go_wp2_with fail
            refine bodyPost_ret (v := .tuple #[.agg #[.int .i64 0, .int .i64 0, .int .i64 0], .bool false, .int .i64 0]) (by simp [results, Tryz.results202, go_sem, *, ↓IntWalk.iteOmega]) rfl ?_
            exact ⟨fn_ret hE.out, by (repeat' (first | exact Below.refl _ _ | assumption | (refine Below.alloc ?_ ?_ _) | (refine Below.setCell ?_ ?_ _) | (refine Below.drew ?_) | (refine below_drewN ?_ _) | (refine below_after (Ext.below _) ?_ ?_) | (refine below_after (by assumption) ?_ ?_) | (simp; done) | omega | (simp; omega)))⟩
          · have d0 : decide ((0 : Int) < (q : Int)) = true := decide_eq_true (by omega)
            have d0' : decide (0 < q) = true := decide_eq_true h0
            have hql : pj.length ≠ 0 := by rw [hRj.len]; omega
            have kS := fun w1 h1 h2 h3 => direct_Step st A B E n c m d q g H N pj w1 h1 h2 h3 hq6
            rw [show stpE st H N pj = stE H N pj by unfold stpE; rw [if_pos (fit_iff.2 hfj.out)], show stpL st H N pj = stL H N pj by unfold stpL; rw [if_pos (fit_iff.2 hfj.out)]] at kS
            have hfn := st_fits hfj.out
            by_cases he : stE H N pj = 0
            · by_cases hmo : mvO p (stL H N pj) = true
              · have hE := Lib.hid (show fndF st H N p (M : Int) = (0, true, (j : Int), mvX p (stL H N pj), mvY p (stL H N pj)) by rw [hF.out, show M + 1 - j = (M - j) + 1 by omega]; exact fin_hit hql he hmo)
                have kM := fun A2 n2 c2 w1 h1 h2 => per_moved D A2 k n2 e c2 p (stL H N pj) w1 h1 h2 hpr.out hfn.pat
                unfold mvV mvI at kM
                rw [hmo] at kM
                rw [he] at kS
                generalize stL H N pj = ql at kS kM hE
                generalize mvX p ql = vx at kM hE
                generalize mvY p ql = vy at kM hE
                clear hmo he hql hfn
                go_wp2_with fail
                go_at_call 52
                refine (kS _ (hH.of hb) (hN.of hb) hRj).mono ?_
                rintro e3 w3 ⟨A2, n2, c2, rfl, hX, hb3⟩
                have hb3' := below_thru hb hb3
                go_wp2_with fail
                go_at_call 247
                refine (kM _ _ _ _ (hR.of hb3') hX.rd).mono ?_
                rintro e4 w4 ⟨rfl, hb4⟩
                have hb4' := below_thru hb3' hb4
                have hBz := below_thru hB hb4'
                have hs4 := hb4'.size
                clear m0 m1 m2 f0 f1 f2
                obtain ⟨_, m0, m1, m2, f0, f1, f2⟩ := (hbm.of hb4').open3
                have hb4r : bm < w4.heap.size := by omega
                go_wp2_with fail
                refine bodyPost_ret (v := .tuple #[.agg #[.int .i64 (j : Int), .int .i64 vx, .int .i64 vy], .bool true, .int .i64 0]) (by simp [results, Tryz.results202, go_sem, *, ↓IntWalk.iteOmega]) rfl ?_
                exact ⟨fn_ret hE.out, by (repeat' (first | exact Below.refl _ _ | assumption | (refine Below.alloc ?_ ?_ _) | (refine Below.setCell ?_ ?_ _) | (refine Below.drew ?_) | (refine below_drewN ?_ _) | (refine below_after (Ext.below _) ?_ ?_) | (refine below_after (by assumption) ?_ ?_) | (simp; done) | omega | (simp; omega)))⟩
              · have hmf : mvO p (stL H N pj) = false := by simpa using hmo
                have hE := Lib.hid (show fndF st H N p (M : Int) = finG H N p (M + 1 - (j + 1)) (j + 1) (stL H N pj) by rw [hF.out, show M + 1 - j = (M + 1 - (j + 1)) + 1 by omega]; exact fin_next hql he hmf)
                have kM := fun A2 n2 c2 w1 h1 h2 => per_moved D A2 k n2 e c2 p (stL H N pj) w1 h1 h2 hpr.out hfn.pat
                have hl5 := Lib.hid (rightC_ok hfn.pat).1
                replace hfn := Lib.hid hfn
                unfold mvV mvI at kM
                rw [hmf] at kM
                rw [he] at kS
                generalize stL H N pj = ql at kS kM hE hfn hl5
                clear hmo hmf he hql
                go_wp2_with fail
                go_at_call 52
                refine (kS _ (hH.of hb) (hN.of hb) hRj).mono ?_
                rintro e3 w3 ⟨A2, n2, c2, rfl, hX, hb3⟩
                have hb3' := below_thru hb hb3
                go_wp2_with fail
                go_at_call 247
                refine (kM _ _ _ _ (hR.of hb3') hX.rd).mono ?_
                rintro e4 w4 ⟨rfl, hb4⟩
                have hb4' := below_thru hb3' hb4
                have hn2 : n2 ≤ 1000000 := by rw [← hX.rd.len]; have := hl5.out; omega
                go_wp2_with fail
                go_roundw
                case rel => exact ⟨A2, n2, c2, j + 1, ql, rfl, by go_num, by omega, by omega, hX.cap, hn2, hfn, hX.rd.of hb4, hE, hb4'⟩
                case measure => simp [intOf]; omega
            · have hE := Lib.hid (show fndF st H N p (M : Int) = (stE H N pj, false, 0, 0, 0) by rw [hF.out, show M + 1 - j = (M - j) + 1 by omega]; exact fin_err hql he)
              generalize stE H N pj = qe at kS hE he
              have r0 : (qe != 0) = true := by simpa using he
              have r1 : (qe == 0) = false := by simpa using he
              clear he hql hfn
              go_wp2_with fail
              go_at_call 52
              refine (kS _ (hH.of hb) (hN.of hb) hRj).mono ?_
              rintro e3 w3 ⟨A2, n2, c2, rfl, hX, hb3⟩
              have hb3' := below_thru hb hb3
              have hBz := below_thru hB hb3'
              have hs3 := hb3'.size
              clear m0 m1 m2 f0 f1 f2
              obtain ⟨_, m0, m1, m2, f0, f1, f2⟩ := (hbm.of hb3').open3
              have hb3r : bm < w3.heap.size := by omega
              go_wp2_with fail
              refine bodyPost_ret (v := .tuple #[.agg #[.int .i64 0, .int .i64 0, .int .i64 0], .bool false, .int .i64 qe]) (by simp [results, Tryz.results202, go_sem, *, ↓IntWalk.iteOmega]) rfl ?_
              exact ⟨fn_ret hE.out, by (repeat' (first | exact Below.refl _ _ | assumption | (refine Below.alloc ?_ ?_ _) | (refine Below.setCell ?_ ?_ _) | (refine Below.drew ?_) | (refine below_drewN ?_ _) | (refine below_after (Ext.below _) ?_ ?_) | (refine below_after (by assumption) ?_ ?_) | (simp; done) | omega | (simp; omega)))⟩
        · obtain rfl : j = M + 1 := by omega
          have dj : decide (((M + 1 : Nat) : Int) ≤ M) = false := decide_eq_false (by omega)
          have dj2 : decide ((M : Int) + 1 ≤ M) = false := decide_eq_false (by omega)
          have dj' : decide (M + 1 ≤ M) = false := decide_eq_false hlj
          have hE := Lib.hid (show fndF st H N p (M : Int) = (0, false, 0, 0, 0) by rw [hF.out, show M + 1 - (M + 1) = 0 by omega]; rfl)
          go_wp2_with fail
          refine bodyPost_ret (v := .tuple #[.agg #[.int .i64 0, .int .i64 0, .int .i64 0], .bool false, .int .i64 0]) (by simp [results, Tryz.results202, go_sem, *, ↓IntWalk.iteOmega]) rfl ?_
          exact ⟨fn_ret hE.out, by (repeat' (first | exact Below.refl _ _ | assumption | (refine Below.alloc ?_ ?_ _) | (refine Below.setCell ?_ ?_ _) | (refine Below.drew ?_) | (refine below_drewN ?_ _) | (refine below_after (Ext.below _) ?_ ?_) | (refine below_after (by assumption) ?_ ?_) | (simp; done) | omega | (simp; omega)))⟩
  · have hE := Lib.hid (show fndF st H N p most = (q, false, 0, 0, 0) by rw [fnd_unfit (by rw [hq.out]; exact h0), hq.out])
    have r0 : (q != 0) = true := by simpa using h0
    have r1 : (q == 0) = false := by simpa using h0
    clear h0
    obtain ⟨_, m0, m1, m2, f0, f1, f2⟩ := (hbm.of hb1).open3
    go_wp2_with fail
    refine bodyPost_ret (v := .tuple #[.agg #[.int .i64 0, .int .i64 0, .int .i64 0], .bool false, .int .i64 q]) (by simp [results, Tryz.results202, go_sem, *, ↓IntWalk.iteOmega]) rfl ?_
    exact ⟨fn_ret hE.out, by (repeat' (first | exact Below.refl _ _ | assumption | (refine Below.alloc ?_ ?_ _) | (refine Below.setCell ?_ ?_ _) | (refine Below.drew ?_) | (refine below_drewN ?_ _) | (refine below_after (Ext.below _) ?_ ?_) | (refine below_after (by assumption) ?_ ?_) | (simp; done) | omega | (simp; omega)))⟩
attribute [local go_sem ↓ high] eq_mot
set_option maxHeartbeats 8000000 in
theorem per_Has (P X Y : Int) (hH : Rd encP 2 w A n H) (hN : RdX ekN w B m N) (hR : Rd encC 3 w D k p) (hk : k ≤ 1000000) (hke : k ≤ e) :
    Calls Tryz.prog 149 #[.agg #[.int .i64 st, .slice A n c, .slice B m d], .slice D k e, .agg #[.int .i64 P, .int .i64 X, .int .i64 Y]] w fun e' w' => e' = .returned (.tuple #[.bool (hasF st H N p (P, X, Y)), .int .i64 (fndF st H N p P).1]) ∧ Below w.heap.size w w' := by
  have kF := fun w1 h1 h2 h3 => per_Find st A B D n c m d k e H N p w1 P h1 h2 h3 hk hke
  obtain ⟨⟨er, ok, a, b, g⟩, hr⟩ : ∃ r, fndF st H N p P = r := ⟨_, rfl⟩
  have hE := Lib.hid (show hasF st H N p (P, X, Y) = (ok && (decide (a = P) && (decide (b = X) && decide (g = Y)))) ∧ (fndF st H N p P).1 = er by
    unfold hasF
    simp only
    rw [hr]
    refine ⟨?_, rfl⟩
    simp only [Prod.mk.injEq, Bool.decide_and])
  rw [hr] at kF
  unfold fnV at kF
  simp only at kF
  clear hr
  rw [show hasF st H N p (P, X, Y) = _ from hE.out.1, show (fndF st H N p P).1 = er from hE.out.2]
  clear hE
  go_enter Tryz.func149, Tryz.ntmps149
  go_wp2_with fail
  have hbt := (TrAt.new w (.int .i64 st) (.slice A n c) (.slice B m d) 25).of ((Below.refl _ _).alloc (Nat.le_refl _) (.cells #[.int .i64 P, .int .i64 X, .int .i64 Y] 103))
  have hbm := TrAt.new (w.alloc (.cells #[.int .i64 st, .slice A n c, .slice B m d] 25)) (.int .i64 P) (.int .i64 X) (.int .i64 Y) 103
  rw [World.size_alloc] at hbm
  have hB : Below w.heap.size w ((w.alloc (.cells #[.int .i64 st, .slice A n c, .slice B m d] 25)).alloc (.cells #[.int .i64 P, .int .i64 X, .int .i64 Y] 103)) := by (repeat' (first | exact Below.refl _ _ | assumption | (refine Below.alloc ?_ ?_ _) | (refine Below.setCell ?_ ?_ _) | (refine Below.drew ?_) | (refine below_drewN ?_ _) | (refine below_after (Ext.below _) ?_ ?_) | (refine below_after (by assumption) ?_ ?_) | (simp; done) | omega | (simp; omega)))
  obtain ⟨we, hwe⟩ : ∃ we, we = (w.alloc (.cells #[.int .i64 st, .slice A n c, .slice B m d] 25)).alloc (.cells #[.int .i64 P, .int .i64 X, .int .i64 Y] 103) := ⟨_, rfl⟩
  have hsw : we.heap.size = w.heap.size + 2 := by rw [hwe]; simp
  rw [← hwe] at hbt hbm hB ⊢
  clear hwe
  replace hH := hH.of hB
  replace hN := hN.of hB
  replace hR := hR.of hB
  go_at_call 202
  refine (kF _ hH hN hR).mono ?_
  rintro e1 w1 ⟨rfl, hb1⟩
  have hs1 := hb1.size
  have hB1 := below_thru hB hb1
  obtain ⟨hbl, m0, m1, m2⟩ := hbm.of hb1
  cases ok with
  | true =>
    go_wp2_with fail
    go_ret2
    exact ⟨rfl, by (repeat' (first | exact Below.refl _ _ | assumption | (refine Below.alloc ?_ ?_ _) | (refine Below.setCell ?_ ?_ _) | (refine Below.drew ?_) | (refine below_drewN ?_ _) | (refine below_after (Ext.below _) ?_ ?_) | (refine below_after (by assumption) ?_ ?_) | (simp; done) | omega | (simp; omega)))⟩
  | false =>
    go_wp2_with fail
    go_ret2
    exact ⟨rfl, by (repeat' (first | exact Below.refl _ _ | assumption | (refine Below.alloc ?_ ?_ _) | (refine Below.setCell ?_ ?_ _) | (refine Below.drew ?_) | (refine below_drewN ?_ _) | (refine below_after (Ext.below _) ?_ ?_) | (refine below_after (by assumption) ?_ ?_) | (simp; done) | omega | (simp; omega)))⟩
end
end Go.Proofs.YtellglbmbocgkaaGreatDoor
end
section
namespace Go.Proofs.YtellglbmbocgkaaGreatDoor
open Go Go.RowKit
set_option maxRecDepth 100000
set_option linter.unusedSimpArgs false
set_option linter.unusedVariables false
theorem arr4S (a b c d : Value) : [a, b, c, d].toArray = #[a, b, c, d] := rfl
theorem arr5S (a b c d e : Value) : [a, b, c, d, e].toArray = #[a, b, c, d, e] := rfl
/-- Behind a region that draws its order. -/
theorem frw_cell {W w' : World} (h : FrW W w') {b i : Nat} {v : Value} (hb : b < W.heap.size) (hc : W.cell? ⟨b, i, none⟩ = some v) : w'.cell? ⟨b, i, none⟩ = some v := (h.below.cell (p := ⟨_, _, none⟩) hb).trans hc
section
variable (st : Int) (A B E : Option Addr) (n c m d q g : Nat) (H : List (Int × Int)) (N : List (Int × List Int)) (l : List Cel) (P X Y : Int) (w : World)
set_option maxHeartbeats 8000000 in
theorem shp_Right (hH : Rd encP 2 w A n H) (hN : RdX ekN w B m N) (hR : Rd encC 3 w E q l) (hq : q ≤ 1000000) (hqg : q ≤ g) :
    Calls Tryz.prog 92 #[.agg #[.int .i64 st, .slice A n c, .slice B m d], .agg #[.slice E q g, .int .i64 P, .int .i64 X, .int .i64 Y]] w fun e' w' => e' = .returned (.bool (shpR st H N (l, P, X, Y))) ∧ Below w.heap.size w w' := by
  have kB := fun w1 (h : Rd encC 3 w1 E q l) => pat_BoxU6 E q g l w1 h hq
  have kH := fun w1 h1 h2 h3 => per_Has st A B E n c m d q g H N l w1 P X Y h1 h2 h3 hq hqg
  have hE := Lib.hid (show shpR st H N (l, P, X, Y) = ((arOk (bxPos l) && (decide (arW (bxPos l) ≤ 10000) && decide (arH (bxPos l) ≤ 10000))) && (hasF st H N l (P, X, Y) && decide ((fndF st H N l P).1 = 0))) from rfl)
  generalize shpR st H N (l, P, X, Y) = V at hE ⊢
  generalize arOk (bxPos l) = ok at kB hE
  generalize arW (bxPos l) = W0 at kB hE
  generalize arH (bxPos l) = H0 at kB hE
  generalize hmX l = X0 at kB
  generalize hmY l = Y0 at kB
  generalize hasF st H N l (P, X, Y) = has at kH hE
  generalize (fndF st H N l P).1 = er at kH hE
  go_enter Tryz.func92, Tryz.ntmps92
  go_wp2_with fail
  have hbt := (TrAt.new w (.int .i64 st) (.slice A n c) (.slice B m d) 25).of ((Below.refl _ _).alloc (Nat.le_refl _) (.cells #[.slice E q g, .int .i64 P, .int .i64 X, .int .i64 Y] 105))
  have hbs := BxW.new (w.alloc (.cells #[.int .i64 st, .slice A n c, .slice B m d] 25)) [.slice E q g, .int .i64 P, .int .i64 X, .int .i64 Y] 105
  rw [arr4S, World.size_alloc] at hbs
  have hB : Below w.heap.size w ((w.alloc (.cells #[.int .i64 st, .slice A n c, .slice B m d] 25)).alloc (.cells #[.slice E q g, .int .i64 P, .int .i64 X, .int .i64 Y] 105)) := by (repeat' (first | exact Below.refl _ _ | assumption | (refine Below.alloc ?_ ?_ _) | (refine Below.setCell ?_ ?_ _) | (refine Below.drew ?_) | (refine below_drewN ?_ _) | (refine below_after (Ext.below _) ?_ ?_) | (refine below_after (by assumption) ?_ ?_) | (simp; done) | omega | (simp; omega)))
  obtain ⟨we, hwe⟩ : ∃ we, we = (w.alloc (.cells #[.int .i64 st, .slice A n c, .slice B m d] 25)).alloc (.cells #[.slice E q g, .int .i64 P, .int .i64 X, .int .i64 Y] 105) := ⟨_, rfl⟩
  have hsw : we.heap.size = w.heap.size + 2 := by rw [hwe]; simp
  rw [← hwe] at hbt hbs hB ⊢
  clear hwe
  replace hH := hH.of hB
  replace hN := hN.of hB
  replace hR := hR.of hB
  go_at_call 99
  refine (kB _ hR).mono ?_
  rintro e1 w1 ⟨rfl, hb1⟩
  have hs1 := hb1.size
  have hB1 := below_thru hB hb1
  have hbt1 := hbt.of hb1
  have hbs1 := hbs.of hb1
  replace hH := hH.of hb1
  replace hN := hN.of hb1
  replace hR := hR.of hb1
  clear hbt hbs hB hb1 kB
  obtain ⟨_, t0, t1, t2⟩ := hbt1
  obtain ⟨_, s0, s1, s2, s3, -, -, -, -⟩ := hbs1.open4
  cases ok with
  | false =>
    have hV := Lib.hid (show V = false by rw [hE.out]; rfl)
    go_wp2_with fail
    go_ret
    exact ⟨ret_bool hV.out.symm, by (repeat' (first | exact Below.refl _ _ | assumption | (refine Below.alloc ?_ ?_ _) | (refine Below.setCell ?_ ?_ _) | (refine Below.drew ?_) | (refine below_drewN ?_ _) | (refine below_after (Ext.below _) ?_ ?_) | (refine below_after (by assumption) ?_ ?_) | (simp; done) | omega | (simp; omega)))⟩
  | true =>
    by_cases hW : W0 ≤ 10000
    · have d1 : decide (10000 < W0) = false := decide_eq_false (by omega)
      by_cases hh : H0 ≤ 10000
      · have d2 : decide (10000 < H0) = false := decide_eq_false (by omega)
        have hE2 := Lib.hid (show V = (has && decide (er = 0)) by rw [hE.out, decide_eq_true hW, decide_eq_true hh]; rfl)
        clear hW hh hE
        cases has with
        | false =>
          have hV := Lib.hid (show V = false by rw [hE2.out]; rfl)
          go_wp2_with fail; go_at_call 149; refine (kH _ (hH.of (by (repeat' (first | exact Below.refl _ _ | assumption | (refine Below.alloc ?_ ?_ _) | (refine Below.setCell ?_ ?_ _) | (refine Below.drew ?_) | (refine below_drewN ?_ _) | (refine below_after (Ext.below _) ?_ ?_) | (refine below_after (by assumption) ?_ ?_) | (simp; done) | omega | (simp; omega))))) (hN.of (by (repeat' (first | exact Below.refl _ _ | assumption | (refine Below.alloc ?_ ?_ _) | (refine Below.setCell ?_ ?_ _) | (refine Below.drew ?_) | (refine below_drewN ?_ _) | (refine below_after (Ext.below _) ?_ ?_) | (refine below_after (by assumption) ?_ ?_) | (simp; done) | omega | (simp; omega))))) (hR.of (by (repeat' (first | exact Below.refl _ _ | assumption | (refine Below.alloc ?_ ?_ _) | (refine Below.setCell ?_ ?_ _) | (refine Below.drew ?_) | (refine below_drewN ?_ _) | (refine below_after (Ext.below _) ?_ ?_) | (refine below_after (by assumption) ?_ ?_) | (simp; done) | omega | (simp; omega)))))).mono ?_; rintro e w2 ⟨rfl, hb2⟩; have hs2 := hb2.size; (try simp only [World.size_alloc, World.size_drew, World.size_setCell] at hs2)
          go_wp2_with fail
          go_ret
          exact ⟨ret_bool hV.out.symm, by (repeat' (first | exact Below.refl _ _ | assumption | (refine Below.alloc ?_ ?_ _) | (refine Below.setCell ?_ ?_ _) | (refine Below.drew ?_) | (refine below_drewN ?_ _) | (refine below_after (Ext.below _) ?_ ?_) | (refine below_after (by assumption) ?_ ?_) | (simp; done) | omega | (simp; omega)))⟩
        | true =>
          have hV := Lib.hid (show (er == 0) = V by rw [hE2.out, Bool.true_and]; rfl)
          go_wp2_with fail; go_at_call 149; refine (kH _ (hH.of (by (repeat' (first | exact Below.refl _ _ | assumption | (refine Below.alloc ?_ ?_ _) | (refine Below.setCell ?_ ?_ _) | (refine Below.drew ?_) | (refine below_drewN ?_ _) | (refine below_after (Ext.below _) ?_ ?_) | (refine below_after (by assumption) ?_ ?_) | (simp; done) | omega | (simp; omega))))) (hN.of (by (repeat' (first | exact Below.refl _ _ | assumption | (refine Below.alloc ?_ ?_ _) | (refine Below.setCell ?_ ?_ _) | (refine Below.drew ?_) | (refine below_drewN ?_ _) | (refine below_after (Ext.below _) ?_ ?_) | (refine below_after (by assumption) ?_ ?_) | (simp; done) | omega | (simp; omega))))) (hR.of (by (repeat' (first | exact Below.refl _ _ | assumption | (refine Below.alloc ?_ ?_ _) | (refine Below.setCell ?_ ?_ _) | (refine Below.drew ?_) | (refine below_drewN ?_ _) | (refine below_after (Ext.below _) ?_ ?_) | (refine below_after (by assumption) ?_ ?_) | (simp; done) | omega | (simp; omega)))))).mono ?_; rintro e w2 ⟨rfl, hb2⟩; have hs2 := hb2.size; (try simp only [World.size_alloc, World.size_drew, World.size_setCell] at hs2)
          go_wp2_with fail
          go_ret
          exact ⟨ret_bool hV.out, by (repeat' (first | exact Below.refl _ _ | assumption | (refine Below.alloc ?_ ?_ _) | (refine Below.setCell ?_ ?_ _) | (refine Below.drew ?_) | (refine below_drewN ?_ _) | (refine below_after (Ext.below _) ?_ ?_) | (refine below_after (by assumption) ?_ ?_) | (simp; done) | omega | (simp; omega)))⟩
      · have d2 : decide (10000 < H0) = true := decide_eq_true (by omega)
        have hV := Lib.hid (show V = false by rw [hE.out, decide_eq_false hh]; simp)
        clear hW hh hE
        go_wp2_with fail
        go_ret
        exact ⟨ret_bool hV.out.symm, by (repeat' (first | exact Below.refl _ _ | assumption | (refine Below.alloc ?_ ?_ _) | (refine Below.setCell ?_ ?_ _) | (refine Below.drew ?_) | (refine below_drewN ?_ _) | (refine below_after (Ext.below _) ?_ ?_) | (refine below_after (by assumption) ?_ ?_) | (simp; done) | omega | (simp; omega)))⟩
    · have d1 : decide (10000 < W0) = true := decide_eq_true (by omega)
      have hV := Lib.hid (show V = false by rw [hE.out, decide_eq_false hW]; simp)
      clear hW hE
      go_wp2_with fail
      go_ret
      exact ⟨ret_bool hV.out.symm, by (repeat' (first | exact Below.refl _ _ | assumption | (refine Below.alloc ?_ ?_ _) | (refine Below.setCell ?_ ?_ _) | (refine Below.drew ?_) | (refine below_drewN ?_ _) | (refine below_after (Ext.below _) ?_ ?_) | (refine below_after (by assumption) ?_ ?_) | (simp; done) | omega | (simp; omega)))⟩
set_option maxHeartbeats 16000000 in
theorem shp_Phase (nn : Int) (hH : Rd encP 2 w A n H) (hN : RdX ekN w B m N) (hR : Rd encC 3 w E q l) (hq : q ≤ 1000000) (hqg : q ≤ g) :
    Calls Tryz.prog 54 #[.agg #[.int .i64 st, .slice A n c, .slice B m d], .agg #[.slice E q g, .int .i64 P, .int .i64 X, .int .i64 Y], .int .i64 nn] w fun e' w' => ∃ A2 n2 c2, e' = .returned (.tuple #[.slice A2 n2 c2, .int .i64 (phaE st H N (l, P, X, Y) nn)]) ∧ Rd encC 3 w' A2 n2 (phaL st H N (l, P, X, Y) nn) ∧ n2 ≤ c2 ∧ Below w.heap.size w w' := by
  have kQ := fun w1 h1 h2 => tree_Quiet st A B n c m d H N w1 h1 h2
  have kS := fun w1 h1 h2 h3 => shp_Right st A B E n c m d q g H N l P X Y w1 h1 h2 h3 hq hqg
  obtain ⟨tq, htq⟩ : ∃ v, trQ st H N = v := ⟨_, rfl⟩
  obtain ⟨sr, hsr⟩ : ∃ v, shpR st H N (l, P, X, Y) = v := ⟨_, rfl⟩
  rw [htq] at kQ
  rw [hsr] at kS
  replace htq := Lib.hid htq
  replace hsr := Lib.hid hsr
  go_enter Tryz.func54, Tryz.ntmps54
  go_wp2_with fail
  have hbt := (TrAt.new w (.int .i64 st) (.slice A n c) (.slice B m d) 25).of ((Below.refl _ _).alloc (Nat.le_refl _) (.cells #[.slice E q g, .int .i64 P, .int .i64 X, .int .i64 Y] 105))
  have hbs := BxW.new (w.alloc (.cells #[.int .i64 st, .slice A n c, .slice B m d] 25)) [.slice E q g, .int .i64 P, .int .i64 X, .int .i64 Y] 105
  rw [arr4S, World.size_alloc] at hbs
  have hB : Below w.heap.size w ((w.alloc (.cells #[.int .i64 st, .slice A n c, .slice B m d] 25)).alloc (.cells #[.slice E q g, .int .i64 P, .int .i64 X, .int .i64 Y] 105)) := by (repeat' (first | exact Below.refl _ _ | assumption | (refine Below.alloc ?_ ?_ _) | (refine Below.setCell ?_ ?_ _) | (refine Below.drew ?_) | (refine below_drewN ?_ _) | (refine below_after (Ext.below _) ?_ ?_) | (refine below_after (by assumption) ?_ ?_) | (simp; done) | omega | (simp; omega)))
  obtain ⟨we, hwe⟩ : ∃ we, we = (w.alloc (.cells #[.int .i64 st, .slice A n c, .slice B m d] 25)).alloc (.cells #[.slice E q g, .int .i64 P, .int .i64 X, .int .i64 Y] 105) := ⟨_, rfl⟩
  have hsw : we.heap.size = w.heap.size + 2 := by rw [hwe]; simp
  rw [← hwe] at hbt hbs hB ⊢
  clear hwe
  obtain ⟨tb, htb⟩ : ∃ b, b = w.heap.size := ⟨_, rfl⟩
  rw [← htb] at hbt hbs ⊢
  obtain ⟨sb, hsb⟩ : ∃ b, b = tb + 1 := ⟨_, rfl⟩
  rw [← hsb] at hbs ⊢
  clear htb hsb
  replace hH := hH.of hB
  replace hN := hN.of hB
  replace hR := hR.of hB
  go_at_call 36
  refine (kQ _ hH hN).mono ?_
  rintro e1 w1 ⟨rfl, hb1⟩
  have hs1 := hb1.size
  have hB1 := below_thru hB hb1
  have hbt1 := hbt.of hb1
  have hbs1 := hbs.of hb1
  replace hH := hH.of hb1
  replace hN := hN.of hb1
  replace hR := hR.of hb1
  clear hbt hbs hB hb1 kQ
  cases tq with
  | false =>
    have hE := Lib.hid (show phaE st H N (l, P, X, Y) nn = 11 ∧ phaL st H N (l, P, X, Y) nn = [] by unfold phaE phaL; rw [htq.out]; exact ⟨rfl, rfl⟩)
    go_wp2_with fail
    go_ret2
    exact ⟨none, 0, 0, ret_pe hE.out.1.symm, by rw [hE.out.2]; exact Rd.nil_, Nat.le_refl _, by (repeat' (first | exact Below.refl _ _ | assumption | (refine Below.alloc ?_ ?_ _) | (refine Below.setCell ?_ ?_ _) | (refine Below.drew ?_) | (refine below_drewN ?_ _) | (refine below_after (Ext.below _) ?_ ?_) | (refine below_after (by assumption) ?_ ?_) | (simp; done) | omega | (simp; omega)))⟩
  | true =>
    have hbad := Lib.hid (fun (h : phaO st H N (l, P, X, Y) nn = false) => show phaE st H N (l, P, X, Y) nn = 2 ∧ phaL st H N (l, P, X, Y) nn = [] by unfold phaE phaL; rw [htq.out, h]; exact ⟨rfl, rfl⟩)
    have ⟨_, t0, t1, t2⟩ := hbt1
    obtain ⟨_, s0, s1, s2, s3, -, -, -, -⟩ := hbs1.open4
    by_cases h0 : nn < 0
    · have d0 : decide (nn < 0) = true := decide_eq_true h0
      have hE := Lib.hid (hbad.out (by unfold phaO; rw [decide_eq_false (by omega)]; rfl))
      clear h0
      go_wp2_with fail
      go_ret2
      exact ⟨none, 0, 0, ret_pe hE.out.1.symm, by rw [hE.out.2]; exact Rd.nil_, Nat.le_refl _, by (repeat' (first | exact Below.refl _ _ | assumption | (refine Below.alloc ?_ ?_ _) | (refine Below.setCell ?_ ?_ _) | (refine Below.drew ?_) | (refine below_drewN ?_ _) | (refine below_after (Ext.below _) ?_ ?_) | (refine below_after (by assumption) ?_ ?_) | (simp; done) | omega | (simp; omega)))⟩
    have d0 : decide (nn < 0) = false := decide_eq_false h0
    by_cases h1 : 10000 < nn
    · have d1 : decide (10000 < nn) = true := decide_eq_true h1
      have hE := Lib.hid (hbad.out (by unfold phaO; rw [decide_eq_false (by omega)]; rfl))
      clear h0 h1
      go_wp2_with fail
      go_ret2
      exact ⟨none, 0, 0, ret_pe hE.out.1.symm, by rw [hE.out.2]; exact Rd.nil_, Nat.le_refl _, by (repeat' (first | exact Below.refl _ _ | assumption | (refine Below.alloc ?_ ?_ _) | (refine Below.setCell ?_ ?_ _) | (refine Below.drew ?_) | (refine below_drewN ?_ _) | (refine below_after (Ext.below _) ?_ ?_) | (refine below_after (by assumption) ?_ ?_) | (simp; done) | omega | (simp; omega)))⟩
    have d1 : decide (10000 < nn) = false := decide_eq_false h1
    have hO := Lib.hid (show phaO st H N (l, P, X, Y) nn = sr by unfold phaO; rw [decide_eq_true (by omega), hsr.out]; rfl)
    cases sr with
    | false =>
      have hE := Lib.hid (hbad.out hO.out)
      clear h0 h1
      go_wp2_with fail
      go_at_call 92
      refine (kS _ hH hN hR).mono ?_
      rintro e2 w2 ⟨rfl, hb2⟩
      have hs2 := hb2.size
      go_wp2_with fail
      go_ret2
      exact ⟨none, 0, 0, ret_pe hE.out.1.symm, by rw [hE.out.2]; exact Rd.nil_, Nat.le_refl _, by (repeat' (first | exact Below.refl _ _ | assumption | (refine Below.alloc ?_ ?_ _) | (refine Below.setCell ?_ ?_ _) | (refine Below.drew ?_) | (refine below_drewN ?_ _) | (refine below_after (Ext.below _) ?_ ?_) | (refine below_after (by assumption) ?_ ?_) | (simp; done) | omega | (simp; omega)))⟩
    | true =>
      obtain ⟨p1, p2⟩ := has_period hsr.out
      simp only at p1 p2
      have hE := Lib.hid (show phaE st H N (l, P, X, Y) nn = runE st H N l (nn.tmod P) ∧ phaL st H N (l, P, X, Y) nn = hmL (runL st H N l (nn.tmod P)) by unfold phaE phaL; rw [htq.out, hO.out]; exact ⟨rfl, rfl⟩)
      have hr0 : 0 ≤ nn.tmod P := Int.tmod_nonneg P (by omega)
      have hr1 : nn.tmod P < P := Int.tmod_lt_of_pos nn (by omega)
      have er : IntKind.i64.wrap (nn.tmod P) = nn.tmod P := IntWalk.i64_in _ (by omega)
      have kR := fun w1 h1 h2 h3 => direct_Run st A B E n c m d q g H N l w1 (nn.tmod P) h1 h2 h3 hq hqg
      have hl5 := Lib.hid (run_small (st := st) (H := H) (N := N) (p := l) (nn := nn.tmod P))
      have pz : (P == 0) = false := by simp; omega
      have pz1 : ¬ P = 0 := by omega
      have pz2 : decide (P = 0) = false := decide_eq_false pz1
      have pz3 : wrap64 (nn.tmod P) = nn.tmod P := by unfold wrap64; omega
      obtain ⟨rk, hrk⟩ : ∃ r, nn.tmod P = r := ⟨_, rfl⟩
      rw [hrk] at er hE hl5 hr0 hr1 pz3
      simp only [hrk] at kR
      generalize runE st H N l rk = qe at kR hE
      generalize runL st H N l rk = ql at kR hE hl5
      clear h0 h1 hr0 hr1 p1 p2 hbad
      go_wp2_with fail
      go_at_call 92
      refine (kS _ hH hN hR).mono ?_
      rintro e2 w2 ⟨rfl, hb2⟩
      have hs2 := hb2.size
      have hB2 := below_thru hB1 hb2
      have hQ := Lib.hid (fun (w' : World) (h : FrW w2 w') => show FrW w2 w' ∧ w'.cell? ⟨tb, 0, none⟩ = some (.int .i64 st) ∧ w'.cell? ⟨tb, 1, none⟩ = some (.slice A n c) ∧ w'.cell? ⟨tb, 2, none⟩ = some (.slice B m d) ∧ w'.cell? ⟨sb, 0, none⟩ = some (.slice E q g) ∧ w'.cell? ⟨sb, 1, none⟩ = some (.int .i64 P) from
        ⟨h, frw_cell h (by have := hbt1.1; omega) ((hbt1.of hb2).2.1), frw_cell h (by have := hbt1.1; omega) ((hbt1.of hb2).2.2.1), frw_cell h (by have := hbt1.1; omega) ((hbt1.of hb2).2.2.2), frw_cell h (by have := hbs1.1; omega) ((hbs1.of hb2).2.1 0), frw_cell h (by have := hbs1.1; omega) ((hbs1.of hb2).2.1 1)⟩)
      replace hH := hH.of hb2
      replace hN := hN.of hb2
      replace hR := hR.of hb2
      clear t0 t1 t2 s0 s1 s2 s3 hbt1 hbs1 hb2
      go_wp2_with fail
      go_region_held3 (fun w' => FrW w2 w' ∧ w'.cell? ⟨tb, 0, none⟩ = some (.int .i64 st) ∧ w'.cell? ⟨tb, 1, none⟩ = some (.slice A n c) ∧ w'.cell? ⟨tb, 2, none⟩ = some (.slice B m d) ∧ w'.cell? ⟨sb, 0, none⟩ = some (.slice E q g) ∧ w'.cell? ⟨sb, 1, none⟩ = some (.int .i64 P))
        (((try go_split_ands); refine hQ.out _ ?_; with_reducible (first | assumption | exact FrW.drew (FrW.here _) | exact FrW.drew ‹_› | exact FrW.of ‹_› hb8 | exact FrW.here _ | fail)))
        ((first | (go_at_call 17; (try go_split_ands); refine (kR _ (hH.of (FrW.below ‹_›)) (hN.of (FrW.below ‹_›)) (hR.of (FrW.below ‹_›))).mono ?_; rintro e5 w5 ⟨A5, n5, c5, rfl, hR5, hc5, hb8⟩) | fail))
      (try go_split_ands)
      have hf5 : Below w2.heap.size w2 w5 := (by first | exact FrW.below (FrW.of ‹_› hb8) | exact FrW.below ‹_›)
      have hB5 : Below w.heap.size w w5 := below_thru hB2 hf5
      have hn5 : n5 ≤ 1000000 := by rw [← hR5.len]; have := hl5.out; omega
      have kHm := alg_Home A5 n5 c5 ql w5 hR5 hn5 hc5
      go_wp2_with fail
      go_at_call 57
      refine kHm.mono ?_
      rintro e6 w6 ⟨A6, c6, rfl, hR6, hc6, hb6⟩
      have hs6 := hb6.size
      go_wp2_with fail
      go_ret2
      exact ⟨A6, n5, c6, ret_pe hE.out.1.symm, by rw [hE.out.2]; exact hR6, hc6, below_thru hB5 hb6⟩
end
end Go.Proofs.YtellglbmbocgkaaGreatDoor
end
section
namespace Go.Proofs.YtellglbmbocgkaaGreatDoor
open Go Go.RowKit
set_option maxRecDepth 100000
set_option linter.unusedSimpArgs false
set_option linter.unusedVariables false
section
variable (st : Int) (A B S : Option Addr) (n c m d k u : Nat) (H : List (Int × Int)) (N : List (Int × List Int)) (SL : List ShpT) (a f s X Y : Int) (w : World)
set_option maxHeartbeats 16000000 in
theorem shp_Place (hM : Mx w) (hH : Rd encP 2 w A n H) (hN : RdX ekN w B m N) (hS : RdX ekSh w S k SL) (hsm : ∀ x ∈ SL, x.1.length ≤ 1000000) :
    Calls Tryz.prog 26 #[.agg #[.int .i64 st, .slice A n c, .slice B m d], .slice S k u, .agg #[.int .i64 a, .int .i64 f, .int .i64 s, .int .i64 X, .int .i64 Y]] w fun e' w' => ∃ A2 n2 c2, e' = .returned (.tuple #[.slice A2 n2 c2, .int .i64 (plcE st H N SL (a, f, s, X, Y))]) ∧ NewP w.heap.size w' A2 n2 c2 (plcL st H N SL (a, f, s, X, Y)) ∧ Below w.heap.size w w' := by
  have kQ := fun w1 h1 h2 => tree_Quiet st A B n c m d H N w1 h1 h2
  obtain ⟨tq, htq⟩ : ∃ v, trQ st H N = v := ⟨_, rfl⟩
  rw [htq] at kQ
  have hkl := hS.len
  have hPL := Lib.hid (fun (h : plcE st H N SL (a, f, s, X, Y) ≠ 0) => show plcL st H N SL (a, f, s, X, Y) = [] by unfold plcL; rw [if_neg h])
  have hE0 := Lib.hid (show plcE st H N SL (a, f, s, X, Y) = if trQ st H N = true then (if 0 ≤ a ∧ a < (k : Int) then (if 0 ≤ s ∧ s ≤ 7 then (if phaE st H N (shpAt SL a) f = 0 then (if tuE (phaL st H N (shpAt SL a) f) = 0 then shE (hmL (tuL s (phaL st H N (shpAt SL a) f))) X Y else tuE (phaL st H N (shpAt SL a) f)) else phaE st H N (shpAt SL a) f) else 2) else 13) else 11 by unfold plcE; rw [hkl])
  have hL0 := Lib.hid (fun (h : plcE st H N SL (a, f, s, X, Y) = 0) => show plcL st H N SL (a, f, s, X, Y) = shL (hmL (tuL s (phaL st H N (shpAt SL a) f))) X Y by unfold plcL; rw [if_pos h])
  generalize plcL st H N SL (a, f, s, X, Y) = VL at hPL hL0 ⊢
  generalize plcE st H N SL (a, f, s, X, Y) = V at hE0 hPL hL0 ⊢
  replace htq := Lib.hid htq
  replace hsm := Lib.hid hsm
  clear hkl
  go_enter Tryz.func26, Tryz.ntmps26
  go_wp2_with fail
  have hbt := (TrAt.new w (.int .i64 st) (.slice A n c) (.slice B m d) 25).of ((Below.refl _ _).alloc (Nat.le_refl _) (.cells #[.int .i64 a, .int .i64 f, .int .i64 s, .int .i64 X, .int .i64 Y] 72))
  have hbs := BxW.new (w.alloc (.cells #[.int .i64 st, .slice A n c, .slice B m d] 25)) [.int .i64 a, .int .i64 f, .int .i64 s, .int .i64 X, .int .i64 Y] 72
  rw [arr5S, World.size_alloc] at hbs
  have hB : Below w.heap.size w ((w.alloc (.cells #[.int .i64 st, .slice A n c, .slice B m d] 25)).alloc (.cells #[.int .i64 a, .int .i64 f, .int .i64 s, .int .i64 X, .int .i64 Y] 72)) := by (repeat' (first | exact Below.refl _ _ | assumption | (refine Below.alloc ?_ ?_ _) | (refine Below.setCell ?_ ?_ _) | (refine Below.drew ?_) | (refine below_drewN ?_ _) | (refine below_after (Ext.below _) ?_ ?_) | (refine below_after (by assumption) ?_ ?_) | (simp; done) | omega | (simp; omega)))
  obtain ⟨we, hwe⟩ : ∃ we, we = (w.alloc (.cells #[.int .i64 st, .slice A n c, .slice B m d] 25)).alloc (.cells #[.int .i64 a, .int .i64 f, .int .i64 s, .int .i64 X, .int .i64 Y] 72) := ⟨_, rfl⟩
  have hsw : we.heap.size = w.heap.size + 2 := by rw [hwe]; simp
  rw [← hwe] at hbt hbs hB ⊢
  clear hwe
  obtain ⟨tb, htb⟩ : ∃ b, b = w.heap.size := ⟨_, rfl⟩
  rw [← htb] at hbt hbs ⊢
  obtain ⟨sb, hsb⟩ : ∃ b, b = tb + 1 := ⟨_, rfl⟩
  rw [← hsb] at hbs ⊢
  clear htb hsb
  replace hH := hH.of hB
  replace hN := hN.of hB
  replace hS := hS.of hB
  replace hM := hM.of hB
  go_at_call 36
  refine (kQ _ hH hN).mono ?_
  rintro e1 w1 ⟨rfl, hb1⟩
  have hs1 := hb1.size
  have hB1 := below_thru hB hb1
  have hbt1 := hbt.of hb1
  have hbs1 := hbs.of hb1
  replace hH := hH.of hb1
  replace hN := hN.of hb1
  replace hS := hS.of hb1
  replace hM := hM.of hb1
  clear hbt hbs hB hb1 kQ
  cases tq with
  | false =>
    have hE := Lib.hid (show V = 11 by rw [hE0.out, htq.out]; rfl)
    have hL := Lib.hid (hPL.out (by rw [hE.out]; omega))
    go_wp2_with fail
    go_ret2
    exact ⟨none, 0, 0, ret_pe hE.out.symm, by rw [hL.out]; exact NewP.nil_, by (repeat' (first | exact Below.refl _ _ | assumption | (refine Below.alloc ?_ ?_ _) | (refine Below.setCell ?_ ?_ _) | (refine Below.drew ?_) | (refine below_drewN ?_ _) | (refine below_after (Ext.below _) ?_ ?_) | (refine below_after (by assumption) ?_ ?_) | (simp; done) | omega | (simp; omega)))⟩
  | true =>
    replace hE0 := Lib.hid (hE0.out.trans (if_pos htq.out))
    have hc0 : w1.cell? ⟨sb, 0, none⟩ = some (.int .i64 a) := hbs1.2.1 0
    have hc2 : w1.cell? ⟨sb, 2, none⟩ = some (.int .i64 s) := hbs1.2.1 2
    have hbl := hbs1.1
    by_cases h0 : a < 0
    · have d0 : decide (a < 0) = true := decide_eq_true h0
      have hE := Lib.hid (show V = 13 by rw [hE0.out, if_neg (by omega)])
      have hL := Lib.hid (hPL.out (by rw [hE.out]; omega))
      clear h0
      go_wp2_with fail
      go_ret2
      exact ⟨none, 0, 0, ret_pe hE.out.symm, by rw [hL.out]; exact NewP.nil_, by (repeat' (first | exact Below.refl _ _ | assumption | (refine Below.alloc ?_ ?_ _) | (refine Below.setCell ?_ ?_ _) | (refine Below.drew ?_) | (refine below_drewN ?_ _) | (refine below_after (Ext.below _) ?_ ?_) | (refine below_after (by assumption) ?_ ?_) | (simp; done) | omega | (simp; omega)))⟩
    have d0 : decide (a < 0) = false := decide_eq_false h0
    by_cases h1 : (k : Int) ≤ a
    · have d1 : decide ((k : Int) ≤ a) = true := decide_eq_true h1
      have hE := Lib.hid (show V = 13 by rw [hE0.out, if_neg (by omega)])
      have hL := Lib.hid (hPL.out (by rw [hE.out]; omega))
      clear h0 h1
      go_wp2_with fail
      go_ret2
      exact ⟨none, 0, 0, ret_pe hE.out.symm, by rw [hL.out]; exact NewP.nil_, by (repeat' (first | exact Below.refl _ _ | assumption | (refine Below.alloc ?_ ?_ _) | (refine Below.setCell ?_ ?_ _) | (refine Below.drew ?_) | (refine below_drewN ?_ _) | (refine below_after (Ext.below _) ?_ ?_) | (refine below_after (by assumption) ?_ ?_) | (simp; done) | omega | (simp; omega)))⟩
    have d1 : decide ((k : Int) ≤ a) = false := decide_eq_false h1
    replace hE0 := Lib.hid (hE0.out.trans (if_pos (by omega)))
    by_cases h2 : s < 0
    · have d2 : decide (s < 0) = true := decide_eq_true h2
      have hE := Lib.hid (show V = 2 by rw [hE0.out, if_neg (by omega)])
      have hL := Lib.hid (hPL.out (by rw [hE.out]; omega))
      clear h0 h1 h2
      go_wp2_with fail
      go_ret2
      exact ⟨none, 0, 0, ret_pe hE.out.symm, by rw [hL.out]; exact NewP.nil_, by (repeat' (first | exact Below.refl _ _ | assumption | (refine Below.alloc ?_ ?_ _) | (refine Below.setCell ?_ ?_ _) | (refine Below.drew ?_) | (refine below_drewN ?_ _) | (refine below_after (Ext.below _) ?_ ?_) | (refine below_after (by assumption) ?_ ?_) | (simp; done) | omega | (simp; omega)))⟩
    have d2 : decide (s < 0) = false := decide_eq_false h2
    by_cases h3 : 7 < s
    · have d3 : decide (7 < s) = true := decide_eq_true h3
      have hE := Lib.hid (show V = 2 by rw [hE0.out, if_neg (by omega)])
      have hL := Lib.hid (hPL.out (by rw [hE.out]; omega))
      clear h0 h1 h2 h3
      go_wp2_with fail
      go_ret2
      exact ⟨none, 0, 0, ret_pe hE.out.symm, by rw [hL.out]; exact NewP.nil_, by (repeat' (first | exact Below.refl _ _ | assumption | (refine Below.alloc ?_ ?_ _) | (refine Below.setCell ?_ ?_ _) | (refine Below.drew ?_) | (refine below_drewN ?_ _) | (refine below_after (Ext.below _) ?_ ?_) | (refine below_after (by assumption) ?_ ?_) | (simp; done) | omega | (simp; omega)))⟩
    have d3 : decide (7 < s) = false := decide_eq_false h3
    replace hE0 := Lib.hid (hE0.out.trans (if_pos (by omega)))
    obtain ⟨i, rfl⟩ : ∃ i : Nat, a = (i : Int) := ⟨a.toNat, by omega⟩
    have hik : i < k := by omega
    have d1' : decide (k ≤ i) = false := decide_eq_false (by omega)
    obtain ⟨l, P, DX, DY, E, q, g, bo, o, hx, rfl, hbo, g0, g1, g2, g3, hR, hqg⟩ := hS.shp hik
    rw [shp_at hx.out] at hE0 hL0
    have hq6 : q ≤ 1000000 := by rw [← hR.len]; exact hsm.out _ (List.mem_of_getElem? hx.out)
    have kP := fun w1 h1 h2 h3 => shp_Phase st A B E n c m d q g H N l P DX DY w1 f h1 h2 h3 hq6 hqg
    have hl5 := Lib.hid (pha_small (st := st) (H := H) (N := N) (s := (l, P, DX, DY)) (n := f))
    generalize phaE st H N (l, P, DX, DY) f = qe at kP hE0
    generalize phaL st H N (l, P, DX, DY) f = ql at kP hE0 hL0 hl5
    have hQ := Lib.hid (fun (w' : World) (h : FrW w1 w') => show FrW w1 w' ∧ w'.cell? ⟨tb, 0, none⟩ = some (.int .i64 st) ∧ w'.cell? ⟨tb, 1, none⟩ = some (.slice A n c) ∧ w'.cell? ⟨tb, 2, none⟩ = some (.slice B m d) ∧ w'.cell? ⟨sb, 0, none⟩ = some (.int .i64 (i : Int)) ∧ w'.cell? ⟨sb, 1, none⟩ = some (.int .i64 f) ∧ w'.cell? ⟨bo, o + i * 4, none⟩ = some (.slice E q g) ∧ w'.cell? ⟨bo, o + i * 4 + 1, none⟩ = some (.int .i64 P) ∧ w'.cell? ⟨bo, o + i * 4 + 2, none⟩ = some (.int .i64 DX) ∧ w'.cell? ⟨bo, o + i * 4 + 3, none⟩ = some (.int .i64 DY) from
      ⟨h, frw_cell h hbt1.1 hbt1.2.1, frw_cell h hbt1.1 hbt1.2.2.1, frw_cell h hbt1.1 hbt1.2.2.2, frw_cell h hbs1.1 (hbs1.2.1 0), frw_cell h hbs1.1 (hbs1.2.1 1), frw_cell h hbo g0, frw_cell h hbo g1, frw_cell h hbo g2, frw_cell h hbo g3⟩)
    have i0 : (0 : Int) ≤ (i : Int) := by omega
    have i1 : (i : Int) < (k : Int) := by omega
    clear h0 h1 h2 h3 g0 g1 g2 g3 hx
    go_wp2_with fail
    go_region_held3 (fun w' => FrW w1 w' ∧ w'.cell? ⟨tb, 0, none⟩ = some (.int .i64 st) ∧ w'.cell? ⟨tb, 1, none⟩ = some (.slice A n c) ∧ w'.cell? ⟨tb, 2, none⟩ = some (.slice B m d) ∧ w'.cell? ⟨sb, 0, none⟩ = some (.int .i64 (i : Int)) ∧ w'.cell? ⟨sb, 1, none⟩ = some (.int .i64 f) ∧ w'.cell? ⟨bo, o + i * 4, none⟩ = some (.slice E q g) ∧ w'.cell? ⟨bo, o + i * 4 + 1, none⟩ = some (.int .i64 P) ∧ w'.cell? ⟨bo, o + i * 4 + 2, none⟩ = some (.int .i64 DX) ∧ w'.cell? ⟨bo, o + i * 4 + 3, none⟩ = some (.int .i64 DY))
      (((try go_split_ands); refine hQ.out _ ?_; with_reducible (first | assumption | exact FrW.drew (FrW.here _) | exact FrW.drew ‹_› | exact FrW.of ‹_› hb8 | exact FrW.here _ | fail)))
      ((first | (go_at_call 54; (try go_split_ands); refine (kP _ (hH.of (FrW.below ‹_›)) (hN.of (FrW.below ‹_›)) (hR.of (FrW.below ‹_›))).mono ?_; rintro e5 w5 ⟨A5, n5, c5, rfl, hR5, hc5, hb8⟩) | fail))
    (try go_split_ands)
    have hf5 : Below w1.heap.size w1 w5 := (by first | exact FrW.below (FrW.of ‹_› hb8) | exact FrW.below ‹_›)
    have hB5 : Below w.heap.size w w5 := below_thru hB1 hf5
    have hs5 := hf5.size
    have hM5 := hM.of hf5
    have hn5 : n5 ≤ 1000000 := by rw [← hR5.len]; have := hl5.out; omega
    have hbs5 := hbs1.of hf5
    clear hQ
    by_cases he : qe = 0
    · subst he
      replace hE0 := Lib.hid (hE0.out.trans (if_pos rfl))
      have e0 : w5.cell? ⟨sb, 2, none⟩ = some (.int .i64 s) := hbs5.2.1 2
      have hbl5 := hbs5.1
      have kT := alg_Turn s A5 n5 c5 ql w5 hM5 hR5 hn5
      have htl := Lib.hid (tu_small (k := s) hl5.out)
      generalize tuL s ql = tl at kT hE0 hL0 htl
      by_cases ht : tuE ql = 0
      · rw [ht] at kT
        replace hE0 := Lib.hid (hE0.out.trans (if_pos ht))
        clear ht
        go_wp2_with fail
        go_at_call 55
        refine kT.mono ?_
        rintro e6 w6 ⟨A6, n6, c6, rfl, hR6, hn6, hc6, hb6⟩
        have hs6 := hb6.size
        have hB6 := below_thru hB5 hb6
        have hbs6 := hbs5.of hb6
        have hn6' : n6 ≤ 1000000 := by omega
        have kHm := fun w1 h1 => alg_Home A6 n6 c6 tl w1 h1 hn6' hc6
        have hsw6 : w.heap.size ≤ w6.heap.size := hB6.size
        have kSh := fun A7 c7 w1 h1 (hz : w6.heap.size ≤ w1.heap.size) => (pat_ShiftN A7 n6 c7 (hmL tl) X Y w1 h1 hn6').mono (R' := fun e w' => ∃ A' n' c', e = .returned (.tuple #[.slice A' n' c', .int .i64 (shE (hmL tl) X Y)]) ∧ NewP w.heap.size w' A' n' c' (shL (hmL tl) X Y) ∧ Below w1.heap.size w1 w') fun _ _ ⟨A', n', c', h1, h2, _, h4⟩ => ⟨A', n', c', h1, h2.more (Nat.le_trans hsw6 hz), h4⟩
        have hE1 := Lib.hid (show V = shE (hmL tl) X Y ∧ VL = shL (hmL tl) X Y by
          refine ⟨hE0.out, ?_⟩
          by_cases hv : V = 0
          · exact hL0.out hv
          · rw [hPL.out hv]
            unfold shL
            rw [if_neg (by rw [← hE0.out]; exact hv)])
        generalize shE (hmL tl) X Y = sE at kSh hE1
        generalize shL (hmL tl) X Y = sL at kSh hE1
        have hQ := Lib.hid (fun (w' : World) (h : FrW w6 w') => show FrW w6 w' ∧ w'.cell? ⟨sb, 3, none⟩ = some (.int .i64 X) ∧ w'.cell? ⟨sb, 4, none⟩ = some (.int .i64 Y) from
          ⟨h, frw_cell h hbs6.1 (hbs6.2.1 3), frw_cell h hbs6.1 (hbs6.2.1 4)⟩)
        clear e0 hbs1 hbs5 hbs6 kT hE0 hL0 hPL
        go_wp2_with fail
        go_region_held3 (fun w' => FrW w6 w' ∧ w'.cell? ⟨sb, 3, none⟩ = some (.int .i64 X) ∧ w'.cell? ⟨sb, 4, none⟩ = some (.int .i64 Y))
          (((try go_split_ands); refine hQ.out _ ?_; with_reducible (first | assumption | exact FrW.drew (FrW.here _) | exact FrW.drew ‹_› | exact FrW.of ‹_› hb7 | exact FrW.of ‹_› hb9 | exact FrW.here _ | fail)))
          ((first
          | (go_at_call 57; (try go_split_ands); refine (kHm _ (hR6.of (FrW.below ‹_›))).mono ?_; rintro e7 w7 ⟨A7, c7, rfl, hR7, hc7, hb7⟩)
          | (go_at_call 56; (try go_split_ands); refine (kSh A7 c7 _ (by first | exact hR7 | exact hR7.of ‹_›) (FrW.below ‹_›).size).mono ?_; rintro e9 w9 ⟨A9, n9, c9, rfl, hR9, hb9⟩)
          | fail))
        all_goals
          (try go_split_ands)
          have hf9 : Below w6.heap.size w6 w9 := (by first | exact FrW.below (FrW.of ‹_› hb9) | exact FrW.below ‹_›)
          go_wp2_with fail
          go_ret2
          exact ⟨A9, n9, c9, ret_pe hE1.out.1.symm, by rw [hE1.out.2]; exact hR9, below_thru hB6 hf9⟩
      · have hE := Lib.hid (show V = tuE ql by rw [hE0.out, if_neg ht])
        have hL := Lib.hid (hPL.out (by rw [hE.out]; exact ht))
        generalize tuE ql = te at kT hE ht
        have r0 : (te != 0) = true := by simpa using ht
        have r1 : (te == 0) = false := by simpa using ht
        clear ht hE0 hL0 hPL
        go_wp2_with fail
        go_at_call 55
        refine kT.mono ?_
        rintro e6 w6 ⟨A6, n6, c6, rfl, hR6, hn6, hc6, hb6⟩
        have hs6 := hb6.size
        go_wp2_with fail
        go_ret2
        exact ⟨none, 0, 0, ret_pe hE.out.symm, by rw [hL.out]; exact NewP.nil_, below_thru hB5 hb6⟩
    · have hE := Lib.hid (show V = qe by rw [hE0.out, if_neg he])
      have hL := Lib.hid (hPL.out (by rw [hE.out]; exact he))
      have r0 : (qe != 0) = true := by simpa using he
      have r1 : (qe == 0) = false := by simpa using he
      clear he hE0 hL0 hPL
      go_wp2_with fail
      go_ret2
      exact ⟨none, 0, 0, ret_pe hE.out.symm, by rw [hL.out]; exact NewP.nil_, hB5⟩
end
end Go.Proofs.YtellglbmbocgkaaGreatDoor
end
