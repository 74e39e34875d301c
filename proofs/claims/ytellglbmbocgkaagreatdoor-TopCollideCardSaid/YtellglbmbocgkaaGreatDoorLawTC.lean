/- The walk of TopCollide. By mktopc.py. -/
import Derived.Test.YtellglbmbocgkaaGreatDoorLifT
import Derived.Test.YtellglbmbocgkaaGreatDoorFewT
import Derived.Test.YtellglbmbocgkaaGreatDoorCOF
import Derived.Test.YtellglbmbocgkaaGreatDoorColH
import Derived.Test.YtellglbmbocgkaaGreatDoorSRT
namespace Go.Proofs.YtellglbmbocgkaaGreatDoor
open Go Go.RowKit
set_option linter.unusedSimpArgs false
set_option linter.unusedVariables false
set_option maxRecDepth 100000
set_option linter.unusedSimpArgs false
set_option linter.unusedVariables false
theorem runL_ok {st : Int} {H : List (Int × Int)} {N : List (Int × List Int)} {p : List Cel} {a : Nat} (h : runE st H N p (a : Int) = 0) : runL st H N p (a : Int) = (itS H N p a).2 := by
  unfold runL; rw [if_pos h, Int.toNat_natCast]
theorem its_step {H : List (Int × Int)} {N : List (Int × List Int)} {ps : List (List Cel)} {p : List Cel} {j a : Nat} (h : ps[j]? = some p) : (itsG H N (ps.take (j + 1)) a).flatten = (itsG H N (ps.take j) a).flatten ++ (itS H N p a).2 := by
  unfold itsG
  rw [List.take_add_one, h]; simp
set_option maxHeartbeats 64000000 in
theorem law_topcol (st G : Int) (A B S D Q : Option Addr) (n c m d k u nl v x y : Nat) (H : List (Int × Int)) (N : List (Int × List Int)) (SL : List ShpT) (L : List ShtT) (a : Nat) (w : World) (hH : Rd encP 2 w A n H) (hN : RdX ekN w B m N) (hS : RdX ekSh w S k SL) (hL : Rd encSt 5 w D nl L) (ha8 : a ≤ 255) (hX : Mx w) (hM : Mlx w) :
    Calls Tryz.prog 5 #[.agg #[.int .i64 st, .slice A n c, .slice B m d], .agg #[.slice S k u, .slice D nl v, .int .i64 G, .slice Q x y], .int .u8 (a : Int)] w fun e w' => e = .returned (.bool true) ∧ Below w.heap.size w w' := by
  obtain ⟨v0, hv⟩ : ∃ v0, fewT H N = v0 := ⟨_, rfl⟩
  have kF := fun w1 h1 h2 => law_Few st A B n c m d H N w1 h1 h2
  rw [hv] at kF
  clear hv
  have kR := fun w1 h1 h2 => law52_Few S D Q k u nl v x y G SL L w1 h1 h2
  have c0 : IntKind.i64.wrap (a : Int) = (a : Int) := IntWalk.i64_in _ (by omega)
  go_enter Tryz.func5, Tryz.ntmps5
  go_wp2_with fail
  have hB : Below w.heap.size w w := Below.refl _ _
  have hbt := (TrAt.new w (.int .i64 st) (.slice A n c) (.slice B m d) 25).of ((Below.refl _ _).alloc (Nat.le_refl _) (.cells #[.slice S k u, .slice D nl v, .int .i64 G, .slice Q x y] 65))
  have hbr := BxW.new (w.alloc (.cells #[.int .i64 st, .slice A n c, .slice B m d] 25)) [.slice S k u, .slice D nl v, .int .i64 G, .slice Q x y] 65
  rw [arr4S, World.size_alloc] at hbr
  have hal : Below w.heap.size w ((w.alloc (.cells #[.int .i64 st, .slice A n c, .slice B m d] 25)).alloc (.cells #[.slice S k u, .slice D nl v, .int .i64 G, .slice Q x y] 65)) := by (repeat' (first | exact Below.refl _ _ | assumption | (refine Below.alloc ?_ ?_ _) | (refine Below.setCell ?_ ?_ _) | (refine Below.drew ?_) | (refine below_drewN ?_ _) | (refine below_after (Ext.below _) ?_ ?_) | (refine below_after (by assumption) ?_ ?_) | (simp; done) | omega | (simp; omega)))
  obtain ⟨wn, hwn⟩ : ∃ wn, wn = (w.alloc (.cells #[.int .i64 st, .slice A n c, .slice B m d] 25)).alloc (.cells #[.slice S k u, .slice D nl v, .int .i64 G, .slice Q x y] 65) := ⟨_, rfl⟩
  have hsz2 : w.heap.size + 1 < wn.heap.size := by rw [hwn]; simp
  rw [← hwn] at hbt hbr hal ⊢
  obtain ⟨btb, hn⟩ : ∃ btb, btb = w.heap.size := ⟨_, rfl⟩
  rw [← hn] at hbt hbr ⊢
  clear hn
  obtain ⟨brb, hn⟩ : ∃ brb, brb = btb + 1 := ⟨_, rfl⟩
  rw [← hn] at hbr ⊢
  clear hn
  replace hH := hH.of hal
  replace hN := hN.of hal
  replace hS := hS.of hal
  replace hL := hL.of hal
  replace hX := hX.of hal
  replace hM := hM.of hal
  replace hB := below_thru hB hal
  clear hwn hal hsz2
  obtain ⟨w1, hwn⟩ : ∃ q, q = wn := ⟨_, rfl⟩
  subst hwn
  have ⟨_, bt0, bt1, bt2⟩ := hbt
  obtain ⟨_, br0, br1, br2, br3, -, -, -, -⟩ := hbr.open4
  go_wp2_with fail
  go_at_call 22
  refine (kF _ hH hN).mono ?_
  rintro e2 w2 ⟨rfl, hb2⟩
  clear bt0 bt1 bt2
  clear br0 br1 br2 br3
  replace hH := hH.of hb2
  replace hN := hN.of hb2
  replace hS := hS.of hb2
  replace hL := hL.of hb2
  replace hX := hX.of hb2
  replace hM := hM.of hb2
  replace hbt := hbt.of hb2
  replace hbr := hbr.of hb2
  replace hB := below_thru hB hb2
  have hz2 := hb2.size
  clear hb2
  by_cases hv0 : v0 = true
  case neg =>
    obtain rfl : v0 = false := by simpa using hv0
    have ⟨_, bt0, bt1, bt2⟩ := hbt
    obtain ⟨_, br0, br1, br2, br3, -, -, -, -⟩ := hbr.open4
    go_wp2_with fail
    go_at_call 7
    refine (lif_life _ hM).mono ?_
    rintro e3 w3 ⟨rfl, hb3⟩
    clear bt0 bt1 bt2
    clear br0 br1 br2 br3
    replace hH := hH.of hb3
    replace hN := hN.of hb3
    replace hS := hS.of hb3
    replace hL := hL.of hb3
    replace hX := hX.of hb3
    replace hM := hM.of hb3
    replace hbt := hbt.of hb3
    replace hbr := hbr.of hb3
    replace hB := below_thru hB hb3
    have hz3 := hb3.size
    clear hb3
    go_wp2_with fail
    go_ret
    exact ⟨rfl, hB⟩
  subst hv0
  have ⟨_, bt0, bt1, bt2⟩ := hbt
  obtain ⟨_, br0, br1, br2, br3, -, -, -, -⟩ := hbr.open4
  go_wp2_with fail
  go_at_call 23
  refine (kR _ hS hL).mono ?_
  rintro e3 w3 ⟨v1, rfl, hfr, hb3⟩
  clear bt0 bt1 bt2
  clear br0 br1 br2 br3
  replace hH := hH.of hb3
  replace hN := hN.of hb3
  replace hS := hS.of hb3
  replace hL := hL.of hb3
  replace hX := hX.of hb3
  replace hM := hM.of hb3
  replace hbt := hbt.of hb3
  replace hbr := hbr.of hb3
  replace hB := below_thru hB hb3
  have hz3 := hb3.size
  clear hb3
  by_cases hv1 : v1 = true
  case neg =>
    obtain rfl : v1 = false := by simpa using hv1
    have ⟨_, bt0, bt1, bt2⟩ := hbt
    obtain ⟨_, br0, br1, br2, br3, -, -, -, -⟩ := hbr.open4
    go_wp2_with fail
    go_at_call 7
    refine (lif_life _ hM).mono ?_
    rintro e4 w4 ⟨rfl, hb4⟩
    clear bt0 bt1 bt2
    clear br0 br1 br2 br3
    replace hH := hH.of hb4
    replace hN := hN.of hb4
    replace hS := hS.of hb4
    replace hL := hL.of hb4
    replace hX := hX.of hb4
    replace hM := hM.of hb4
    replace hbt := hbt.of hb4
    replace hbr := hbr.of hb4
    replace hB := below_thru hB hb4
    have hz4 := hb4.size
    clear hb4
    go_wp2_with fail
    go_ret
    exact ⟨rfl, hB⟩
  obtain ⟨hk4, hl5, hsm⟩ := hfr hv1
  subst hv1
  clear hfr kF kR
  by_cases h3 : nl ≤ 3
  case neg =>
    have d3 : decide (3 < (nl : Int)) = true := decide_eq_true (by omega)
    have d3' : decide (3 < nl) = true := decide_eq_true (by omega)
    clear hsm
    have ⟨_, bt0, bt1, bt2⟩ := hbt
    obtain ⟨_, br0, br1, br2, br3, -, -, -, -⟩ := hbr.open4
    go_wp2_with fail
    go_at_call 7
    refine (lif_life _ hM).mono ?_
    rintro e4 w4 ⟨rfl, hb4⟩
    clear bt0 bt1 bt2
    clear br0 br1 br2 br3
    replace hH := hH.of hb4
    replace hN := hN.of hb4
    replace hS := hS.of hb4
    replace hL := hL.of hb4
    replace hX := hX.of hb4
    replace hM := hM.of hb4
    replace hbt := hbt.of hb4
    replace hbr := hbr.of hb4
    replace hB := below_thru hB hb4
    have hz4 := hb4.size
    clear hb4
    go_wp2_with fail
    go_ret
    exact ⟨rfl, hB⟩
  have d3 : decide (3 < (nl : Int)) = false := decide_eq_false (by omega)
  have d3' : decide (3 < nl) = false := decide_eq_false (by omega)
  by_cases h10 : a ≤ 10
  case neg =>
    have d10 : decide (10 < (a : Int)) = true := decide_eq_true (by omega)
    have d10' : decide (10 < a) = true := decide_eq_true (by omega)
    clear hsm
    have ⟨_, bt0, bt1, bt2⟩ := hbt
    obtain ⟨_, br0, br1, br2, br3, -, -, -, -⟩ := hbr.open4
    go_wp2_with fail
    go_at_call 7
    refine (lif_life _ hM).mono ?_
    rintro e4 w4 ⟨rfl, hb4⟩
    clear bt0 bt1 bt2
    clear br0 br1 br2 br3
    replace hH := hH.of hb4
    replace hN := hN.of hb4
    replace hS := hS.of hb4
    replace hL := hL.of hb4
    replace hX := hX.of hb4
    replace hM := hM.of hb4
    replace hbt := hbt.of hb4
    replace hbr := hbr.of hb4
    replace hB := below_thru hB hb4
    have hz4 := hb4.size
    clear hb4
    go_wp2_with fail
    go_ret
    exact ⟨rfl, hB⟩
  have d10 : decide (10 < (a : Int)) = false := decide_eq_false (by omega)
  have d10' : decide (10 < a) = false := decide_eq_false (by omega)
  have hsm6 : ∀ x ∈ SL, x.1.length ≤ 1000000 := fun x hx => by have := hsm x hx; omega
  have kM := fun w1 h0 h1 h2 h3 h4 => col_Meet st A B S D n c m d k u nl v H N SL L w1 a (by omega) h0 h1 h2 h3 h4 (by omega) (by omega) hsm6
  have kT := fun w1 h0 h1 h2 h3 h4 => col_Result st A B S D n c m d k u nl v H N SL L w1 a h0 h1 h2 h3 h4 (by omega) (by omega) hsm6
  replace hsm6 := Lib.hid hsm6
  clear hsm
  have ⟨_, bt0, bt1, bt2⟩ := hbt
  obtain ⟨_, br0, br1, br2, br3, -, -, -, -⟩ := hbr.open4
  go_wp2_with fail
  go_at_call 24
  refine (kM _ hX hH hN hS hL).mono ?_
  rintro e4 w4 ⟨kk, er, rfl, hmet, hb4⟩
  clear bt0 bt1 bt2
  clear br0 br1 br2 br3
  replace hH := hH.of hb4
  replace hN := hN.of hb4
  replace hS := hS.of hb4
  replace hL := hL.of hb4
  replace hX := hX.of hb4
  replace hM := hM.of hb4
  replace hbt := hbt.of hb4
  replace hbr := hbr.of hb4
  replace hB := below_thru hB hb4
  have hz4 := hb4.size
  clear hb4
  by_cases her : er = 0
  case neg =>
    have e2 : (er != 0) = true := by simpa using her
    have e3 : (er == 0) = false := by simpa using her
    clear her hmet
    have ⟨_, bt0, bt1, bt2⟩ := hbt
    obtain ⟨_, br0, br1, br2, br3, -, -, -, -⟩ := hbr.open4
    go_wp2_with fail
    go_at_call 7
    refine (lif_life _ hM).mono ?_
    rintro e5 w5 ⟨rfl, hb5⟩
    clear bt0 bt1 bt2
    clear br0 br1 br2 br3
    replace hH := hH.of hb5
    replace hN := hN.of hb5
    replace hS := hS.of hb5
    replace hL := hL.of hb5
    replace hX := hX.of hb5
    replace hM := hM.of hb5
    replace hbt := hbt.of hb5
    replace hbr := hbr.of hb5
    replace hB := below_thru hB hb5
    have hz5 := hb5.size
    clear hb5
    go_wp2_with fail
    go_ret
    exact ⟨rfl, hB⟩
  subst her
  by_cases hkk : kk = -1
  case neg =>
    have e2 : (kk != -1) = true := by simpa using hkk
    have e3 : (kk == -1) = false := by simpa using hkk
    clear hkk hmet
    have ⟨_, bt0, bt1, bt2⟩ := hbt
    obtain ⟨_, br0, br1, br2, br3, -, -, -, -⟩ := hbr.open4
    go_wp2_with fail
    go_at_call 7
    refine (lif_life _ hM).mono ?_
    rintro e5 w5 ⟨rfl, hb5⟩
    clear bt0 bt1 bt2
    clear br0 br1 br2 br3
    replace hH := hH.of hb5
    replace hN := hN.of hb5
    replace hS := hS.of hb5
    replace hL := hL.of hb5
    replace hX := hX.of hb5
    replace hM := hM.of hb5
    replace hbt := hbt.of hb5
    replace hbr := hbr.of hb5
    replace hB := below_thru hB hb5
    have hz5 := hb5.size
    clear hb5
    go_wp2_with fail
    go_ret
    exact ⟨rfl, hB⟩
  subst hkk
  obtain ⟨hq, hpe, hal⟩ := hmet rfl rfl
  replace hpe := Lib.hid hpe
  obtain ⟨z1, z2⟩ := alone_end hal
  have hps := Lib.hid (show (L.map (plcL st H N SL)).length = nl by rw [List.length_map]; exact hL.len)
  have hpa := Lib.hid (fun (j : Nat) (x : ShtT) (h : L[j]? = some x) => show (L.map (plcL st H N SL))[j]? = some (plcL st H N SL x) by rw [List.getElem?_map, h]; rfl)
  generalize hpE : L.map (plcL st H N SL) = ps at kT z1 z2 hps hpa
  have hz := Lib.hid (show frE (itsG H N ps a).flatten = 0 ∧ frL (itsG H N ps a).flatten = (itS H N (frL ps.flatten) a).2 from ⟨z1, z2⟩)
  clear hmet hq hal z1 z2 kM hpE d3 d3' d10 d10'
  have ⟨_, bt0, bt1, bt2⟩ := hbt
  obtain ⟨_, br0, br1, br2, br3, -, -, -, -⟩ := hbr.open4
  go_wp2_with fail
  go_at_call 25
  refine (kT _ hX hH hN hS hL).mono ?_
  rintro e5 w5 ⟨A9, n9, c9, er, rfl, hrs, hc9, hb5⟩
  clear bt0 bt1 bt2
  clear br0 br1 br2 br3
  replace hH := hH.of hb5
  replace hN := hN.of hb5
  replace hS := hS.of hb5
  replace hL := hL.of hb5
  replace hX := hX.of hb5
  replace hM := hM.of hb5
  replace hbt := hbt.of hb5
  replace hbr := hbr.of hb5
  replace hB := below_thru hB hb5
  have hz5 := hb5.size
  clear hb5
  by_cases her : er = 0
  case neg =>
    have e2 : (er != 0) = true := by simpa using her
    have e3 : (er == 0) = false := by simpa using her
    clear her hrs
    have ⟨_, bt0, bt1, bt2⟩ := hbt
    obtain ⟨_, br0, br1, br2, br3, -, -, -, -⟩ := hbr.open4
    go_wp2_with fail
    go_at_call 7
    refine (lif_life _ hM).mono ?_
    rintro e6 w6 ⟨rfl, hb6⟩
    clear bt0 bt1 bt2
    clear br0 br1 br2 br3
    replace hH := hH.of hb6
    replace hN := hN.of hb6
    replace hS := hS.of hb6
    replace hL := hL.of hb6
    replace hX := hX.of hb6
    replace hM := hM.of hb6
    replace hbt := hbt.of hb6
    replace hbr := hbr.of hb6
    replace hB := below_thru hB hb6
    have hz6 := hb6.size
    clear hb6
    go_wp2_with fail
    go_ret
    exact ⟨rfl, hB⟩
  obtain ⟨hr1, hr2⟩ := hrs her
  subst her
  rw [runL_ok hr1] at hr2
  generalize (itS H N (frL ps.flatten) a).2 = al at hr2 hz
  clear hrs hr1 kT
  obtain ⟨WL, hWL⟩ : ∃ q, q = w5 := ⟨_, rfl⟩
  subst hWL
  have ⟨_, bt0, bt1, bt2⟩ := hbt
  obtain ⟨_, br0, br1, br2, br3, -, -, -, -⟩ := hbr.open4
  go_wp2_with fail
  clear bt0 bt1 bt2
  clear br0 br1 br2 br3
  go_loopw [11, 73] (fun t11 t73 wr => ∃ (E : Option Addr) (q g j : Nat), t11 = .slice E q g ∧ t73 = .int .i64 (j : Int) ∧ j ≤ nl ∧ q ≤ 5000 * j ∧ Own encC 3 79 WL.heap.size wr E q g (itsG H N (ps.take j) a).flatten ∧ Below WL.heap.size WL wr) (fun _ t73 _ => nl - (intOf t73).toNat)
  case atStart => exact ⟨none, 0, 0, 0, rfl, rfl, by omega, by omega, Own.nil_, Below.refl _ _⟩
  case round =>
    obtain ⟨E, q, g, j, rfl, rfl, hj, hq, hown, hb⟩ := hrel
    have hLb := hb
    have hLs := hb.size
    replace hH := hH.of hb
    replace hN := hN.of hb
    replace hS := hS.of hb
    replace hL := hL.of hb
    replace hX := hX.of hb
    replace hM := hM.of hb
    replace hr2 := hr2.of hb
    replace hbt := hbt.of hb
    replace hbr := hbr.of hb
    replace hB := below_thru hB hb
    clear hb
    by_cases hlj : j < nl
    · obtain ⟨w40, hw40⟩ : ∃ q, q = wr := ⟨_, rfl⟩
      subst hw40
      have dj : decide ((j : Int) < (nl : Int)) = true := decide_eq_true (by omega)
      have dj' : decide (j < nl) = true := decide_eq_true hlj
      obtain ⟨a1, a2, a3, a4, a5, bo, o, hx, hDe, hbo, g0, g1, g2, g3, g4⟩ := hL.sht hlj
      subst hDe
      have hpe1 := hpe.out _ (List.mem_of_getElem? hx.out)
      have hpa1 := hpa.out j _ hx.out
      have kP := fun w1 h0 h1 h2 h3 => shp_Place st A B S n c m d k u H N SL a1 a2 a3 a4 a5 w1 h0 h1 h2 h3 hsm6.out
      rw [hpe1] at kP
      have hpl5 := plc_small (st := st) (H := H) (N := N) (S := SL) (x := (a1, a2, a3, a4, a5))
      generalize plcL st H N SL (a1, a2, a3, a4, a5) = pl at kP hpa1 hpl5
      have hst := Lib.hid (its_step (H := H) (N := N) (a := a) hpa1)
      replace hpl5 := Lib.hid hpl5
      clear hx hpe1 hpa1
      have i0 : (0 : Int) ≤ (j : Int) := by omega
      have i1 : (j : Int) < (nl : Int) := by omega
      have hQ := Lib.hid (fun (w' : World) (h : FrW w40 w') => show FrW w40 w' ∧ w'.cell? ⟨btb, 0, none⟩ = some (.int .i64 st) ∧ w'.cell? ⟨btb, 1, none⟩ = some (.slice A n c) ∧ w'.cell? ⟨btb, 2, none⟩ = some (.slice B m d) ∧ w'.cell? ⟨brb, 0, none⟩ = some (.slice S k u) ∧ w'.cell? ⟨brb, 1, none⟩ = some (.slice (some ⟨bo, o, none⟩) nl v) ∧ w'.cell? ⟨bo, o + j * 5, none⟩ = some (.int .i64 a1) ∧ w'.cell? ⟨bo, o + j * 5 + 1, none⟩ = some (.int .i64 a2) ∧ w'.cell? ⟨bo, o + j * 5 + 2, none⟩ = some (.int .i64 a3) ∧ w'.cell? ⟨bo, o + j * 5 + 3, none⟩ = some (.int .i64 a4) ∧ w'.cell? ⟨bo, o + j * 5 + 4, none⟩ = some (.int .i64 a5) from
        ⟨h, frw_cell h hbt.1 hbt.2.1, frw_cell h hbt.1 hbt.2.2.1, frw_cell h hbt.1 hbt.2.2.2, frw_cell h hbr.1 (hbr.2.1 0), frw_cell h hbr.1 (hbr.2.1 1), frw_cell h hbo g0, frw_cell h hbo g1, frw_cell h hbo g2, frw_cell h hbo g3, frw_cell h hbo g4⟩)
      clear g0 g1 g2 g3 g4
      go_wp2_with fail
      go_region_held3 (fun w' => FrW w40 w' ∧ w'.cell? ⟨btb, 0, none⟩ = some (.int .i64 st) ∧ w'.cell? ⟨btb, 1, none⟩ = some (.slice A n c) ∧ w'.cell? ⟨btb, 2, none⟩ = some (.slice B m d) ∧ w'.cell? ⟨brb, 0, none⟩ = some (.slice S k u) ∧ w'.cell? ⟨brb, 1, none⟩ = some (.slice (some ⟨bo, o, none⟩) nl v) ∧ w'.cell? ⟨bo, o + j * 5, none⟩ = some (.int .i64 a1) ∧ w'.cell? ⟨bo, o + j * 5 + 1, none⟩ = some (.int .i64 a2) ∧ w'.cell? ⟨bo, o + j * 5 + 2, none⟩ = some (.int .i64 a3) ∧ w'.cell? ⟨bo, o + j * 5 + 3, none⟩ = some (.int .i64 a4) ∧ w'.cell? ⟨bo, o + j * 5 + 4, none⟩ = some (.int .i64 a5))
        (((try go_split_ands); refine hQ.out _ ?_; with_reducible (first | assumption | exact FrW.drew (FrW.here _) | exact FrW.drew ‹_› | exact FrW.of ‹_› hb8 | exact FrW.here _ | fail)))
        ((first | (go_at_call 26; (try go_split_ands); refine (kP _ (hX.of (FrW.below ‹_›)) (hH.of (FrW.below ‹_›)) (hN.of (FrW.below ‹_›)) (hS.of (FrW.below ‹_›))).mono ?_; rintro e8 w8 ⟨A8, n8, c8, rfl, hN8, hb8⟩) | fail))
      (try go_split_ands)
      have hf8 : Below w40.heap.size w40 w8 := (by first | exact FrW.below (FrW.of ‹_› hb8) | exact FrW.below ‹_›)
      obtain ⟨w41, hw41⟩ : ∃ q, q = w8 := ⟨_, rfl⟩
      subst hw41
      have hR8 := hN8.rd
      have hc8 := hN8.cap
      have hn8 : n8 ≤ 1000000 := by rw [← hR8.len]; have := hpl5.out; omega
      replace hown := hown.of hf8
      have hs8 := hf8.size
      replace hLb := hLb.trans (hf8.mono hLs)
      replace hH := hH.of hf8
      replace hN := hN.of hf8
      replace hS := hS.of hf8
      replace hL := hL.of hf8
      replace hX := hX.of hf8
      replace hM := hM.of hf8
      replace hr2 := hr2.of hf8
      replace hbt := hbt.of hf8
      replace hbr := hbr.of hf8
      replace hB := below_thru hB hf8
      clear hf8 hN8 hQ
      have kZ := fun w1 h1 h2 h3 => direct_Run st A B A8 n c m d n8 c8 H N pl w1 (a : Int) h1 h2 h3 hn8 hc8
      by_cases hre : runE st H N pl (a : Int) = 0
      case neg =>
        generalize runE st H N pl (a : Int) = re at kZ hre
        have e2 : (re != 0) = true := by simpa using hre
        have e3 : (re == 0) = false := by simpa using hre
        clear hre
        have ⟨_, bt0, bt1, bt2⟩ := hbt
        obtain ⟨_, br0, br1, br2, br3, -, -, -, -⟩ := hbr.open4
        go_wp2_with fail
        go_at_call 17
        refine (kZ _ hH hN hR8).mono ?_
        rintro e42 w42 ⟨A7, n7, c7, rfl, hR7, hc7, hb42⟩
        clear bt0 bt1 bt2
        clear br0 br1 br2 br3
        replace hH := hH.of hb42
        replace hN := hN.of hb42
        replace hS := hS.of hb42
        replace hL := hL.of hb42
        replace hX := hX.of hb42
        replace hM := hM.of hb42
        replace hr2 := hr2.of hb42
        replace hR8 := hR8.of hb42
        replace hbt := hbt.of hb42
        replace hbr := hbr.of hb42
        replace hB := below_thru hB hb42
        have hz42 := hb42.size
        clear hb42
        have ⟨_, bt0, bt1, bt2⟩ := hbt
        obtain ⟨_, br0, br1, br2, br3, -, -, -, -⟩ := hbr.open4
        go_wp2_with fail
        go_at_call 7
        refine (lif_life _ hM).mono ?_
        rintro e43 w43 ⟨rfl, hb43⟩
        clear bt0 bt1 bt2
        clear br0 br1 br2 br3
        replace hH := hH.of hb43
        replace hN := hN.of hb43
        replace hS := hS.of hb43
        replace hL := hL.of hb43
        replace hX := hX.of hb43
        replace hM := hM.of hb43
        replace hr2 := hr2.of hb43
        replace hR8 := hR8.of hb43
        replace hbt := hbt.of hb43
        replace hbr := hbr.of hb43
        replace hB := below_thru hB hb43
        have hz43 := hb43.size
        clear hb43
        go_wp2_with fail
        go_ret
        exact ⟨rfl, hB⟩
      rw [hre, runL_ok hre] at kZ
      have hl7 := Lib.hid (show (itS H N pl a).2.length ≤ 5000 by rw [← runL_ok hre]; exact run_small)
      generalize (itS H N pl a).2 = pn at kZ hst hl7
      clear hre
      have ⟨_, bt0, bt1, bt2⟩ := hbt
      obtain ⟨_, br0, br1, br2, br3, -, -, -, -⟩ := hbr.open4
      go_wp2_with fail
      go_at_call 17
      refine (kZ _ hH hN hR8).mono ?_
      rintro e42 w42 ⟨A7, n7, c7, rfl, hR7, hc7, hb42⟩
      clear bt0 bt1 bt2
      clear br0 br1 br2 br3
      replace hH := hH.of hb42
      replace hN := hN.of hb42
      replace hS := hS.of hb42
      replace hL := hL.of hb42
      replace hX := hX.of hb42
      replace hM := hM.of hb42
      replace hr2 := hr2.of hb42
      replace hR8 := hR8.of hb42
      replace hbt := hbt.of hb42
      replace hbr := hbr.of hb42
      replace hB := below_thru hB hb42
      replace hown := hown.of hb42
      have hz42 := hb42.size
      replace hLb := hLb.trans (hb42.mono (by omega))
      clear hb42
      have hn7 : n7 ≤ 5000 := by rw [← hR7.len]; have := hl7.out; omega
      go_wp2_with (first | (at_builtin; refine wpList_append_els rfl (.tmp 101) (.tmp 102) 26 27 rfl encC 3 79 (.agg #[.int .i64 0, .int .i64 0, .int .i64 0]) 24 Tryz.underlying26 Tryz.underlying27 (by kernel_rfl) rfl (by decide) encC_len encC_one (WL.heap.size) _ _ _ _ rfl (hown) _ _ _ _ rfl (hR7) (by omega) (by omega) (by first | omega | (simp; done) | (simp; omega)) ?_; intro A5 c5 w5 hown5 hg5 hb5; obtain ⟨hc5, hf5⟩ := bcell hb5; have hs5 := hb5.size; (try simp only [World.size_alloc, World.size_setCell, World.size_drew] at hc5 hf5); (try simp at hs5); (try simp only [Nat.zero_add, List.nil_append] at hown5)))
      go_roundw
      case rel => exact ⟨A5, q + n7, c5, j + 1, by first | rfl | (congr 1 <;> omega), by go_num, by omega, by omega, by rw [hst.out]; exact hown5, below_after hb5 hLb (Nat.le_refl _)⟩
      case measure => simp [intOf]; omega
    · obtain ⟨w60, hw60⟩ : ∃ q, q = wr := ⟨_, rfl⟩
      subst hw60
      obtain rfl : j = nl := by omega
      have dj : decide ((j : Int) < (j : Int)) = false := decide_eq_false (by omega)
      have dj' : decide (j < j) = false := decide_eq_false hlj
      rw [List.take_of_length_le (by rw [hps.out]; exact Nat.le_refl _)] at hown
      have kV := ref05_FromC E q g _ w60 (hown.rd encC_len) (by omega)
      rw [hz.out.1, hz.out.2] at kV
      have ⟨_, bt0, bt1, bt2⟩ := hbt
      obtain ⟨_, br0, br1, br2, br3, -, -, -, -⟩ := hbr.open4
      go_wp2_with fail
      go_at_call 27
      refine (kV).mono ?_
      rintro e61 w61 ⟨A6, n6, c6, rfl, hR6, hn6, hc6, hb61⟩
      clear bt0 bt1 bt2
      clear br0 br1 br2 br3
      replace hH := hH.of hb61
      replace hN := hN.of hb61
      replace hS := hS.of hb61
      replace hL := hL.of hb61
      replace hX := hX.of hb61
      replace hM := hM.of hb61
      replace hr2 := hr2.of hb61
      replace hbt := hbt.of hb61
      replace hbr := hbr.of hb61
      replace hB := below_thru hB hb61
      have hz61 := hb61.size
      clear hb61
      obtain rfl : n6 = n9 := by rw [← hr2.len, ← hR6.len]
      have kY := ref05_SameV (sameL_self al) A9 A6 n6 n6 c9 c6 w61 hr2 hR6 (by omega) (by omega)
      have ⟨_, bt0, bt1, bt2⟩ := hbt
      obtain ⟨_, br0, br1, br2, br3, -, -, -, -⟩ := hbr.open4
      go_wp2_with fail
      go_at_call 12
      refine (kY).mono ?_
      rintro e62 w62 ⟨rfl, hb62⟩
      clear bt0 bt1 bt2
      clear br0 br1 br2 br3
      replace hH := hH.of hb62
      replace hN := hN.of hb62
      replace hS := hS.of hb62
      replace hL := hL.of hb62
      replace hX := hX.of hb62
      replace hM := hM.of hb62
      replace hr2 := hr2.of hb62
      replace hR6 := hR6.of hb62
      replace hbt := hbt.of hb62
      replace hbr := hbr.of hb62
      replace hB := below_thru hB hb62
      have hz62 := hb62.size
      clear hb62
      have ⟨_, bt0, bt1, bt2⟩ := hbt
      obtain ⟨_, br0, br1, br2, br3, -, -, -, -⟩ := hbr.open4
      go_wp2_with fail
      go_at_call 7
      refine (lif_life _ hM).mono ?_
      rintro e63 w63 ⟨rfl, hb63⟩
      clear bt0 bt1 bt2
      clear br0 br1 br2 br3
      replace hH := hH.of hb63
      replace hN := hN.of hb63
      replace hS := hS.of hb63
      replace hL := hL.of hb63
      replace hX := hX.of hb63
      replace hM := hM.of hb63
      replace hr2 := hr2.of hb63
      replace hR6 := hR6.of hb63
      replace hbt := hbt.of hb63
      replace hbr := hbr.of hb63
      replace hB := below_thru hB hb63
      have hz63 := hb63.size
      clear hb63
      go_wp2_with fail
      go_ret
      exact ⟨rfl, hB⟩
end Go.Proofs.YtellglbmbocgkaaGreatDoor
