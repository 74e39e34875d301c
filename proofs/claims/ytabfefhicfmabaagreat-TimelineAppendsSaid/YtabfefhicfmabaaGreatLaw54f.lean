/- The walk of TimelineAppends. By mklaw54.py. -/
import Derived.Test.YtabfefhicfmabaaGreatLWA
import Derived.Test.YtabfefhicfmabaaGreatTim13
import Derived.Test.YtabfefhicfmabaaGreatTMS
namespace Go.Proofs.YtabfefhicfmabaaGreat
open Go Go.RowKit
set_option linter.unusedSimpArgs false
set_option linter.unusedVariables false
set_option maxRecDepth 100000
set_option linter.unusedSimpArgs false
set_option linter.unusedVariables false
set_option maxHeartbeats 32000000 in
theorem law_tappends (key : Int) (X : Option Addr) (k e : Nat) (fs : List TFr) (gen : Int) (D : Option Addr) (n c : Nat) (p : List Cel) (w : World) (hF : RdX ekFr w X k fs) (hke : k ≤ e) (hk63 : k ≤ 9223372036854775807) (hR : Rd encC 3 w D n p) (hc : n ≤ c) :
    Calls Tryz.prog 6 #[.agg #[.int .i64 key, .slice X k e], .int .i64 gen, .slice D n c] w fun e w' => e = .returned (.bool true) ∧ Below w.heap.size w w' := by
  obtain ⟨v, hv⟩ : ∃ v, fewF fs = v := ⟨_, rfl⟩
  have kF := fun w1 h => law_few54 key X k e fs w1 h hk63
  rw [hv] at kF
  cases v with
  | false =>
    clear hv
    go_enter Tryz.func6, Tryz.ntmps6
    go_wp2_with fail
    have hB : Below w.heap.size w w := Below.refl _ _
    have hbx := BxW.new (w) [.int .i64 key, .slice X k e] 34
    rw [show ∀ a b : Value, [a, b].toArray = #[a, b] from fun _ _ => rfl] at hbx
    have hal : Below w.heap.size w ((w).alloc (.cells #[.int .i64 key, .slice X k e] 34)) := by (repeat' (first | exact Below.refl _ _ | assumption | (refine Below.alloc ?_ ?_ _) | (refine Below.setCell ?_ ?_ _) | (refine Below.drew ?_) | (refine below_drewN ?_ _) | (refine below_after (Ext.below _) ?_ ?_) | (refine below_after (by assumption) ?_ ?_) | (simp; done) | omega | (simp; omega)))
    obtain ⟨wn, hwn⟩ : ∃ wn, wn = (w).alloc (.cells #[.int .i64 key, .slice X k e] 34) := ⟨_, rfl⟩
    rw [← hwn] at hbx hal ⊢
    obtain ⟨bxb, hn⟩ : ∃ bxb, bxb = w.heap.size := ⟨_, rfl⟩
    rw [← hn] at hbx ⊢
    clear hn
    replace hF := hF.of hal
    replace hR := hR.of hal
    replace hB := below_thru hB hal
    clear hwn hal
    obtain ⟨w1, hwn⟩ : ∃ q, q = wn := ⟨_, rfl⟩
    subst hwn
    obtain ⟨_, bx0, bx1, -, -⟩ := hbx.open2
    go_wp2_with fail
    go_at_call 25
    refine (kF _ hF).mono ?_
    rintro e2 w2 ⟨rfl, hb2⟩
    clear bx0 bx1
    replace hF := hF.of hb2
    replace hR := hR.of hb2
    replace hbx := hbx.of hb2
    replace hB := below_thru hB hb2
    have hz2 := hb2.size
    clear hb2
    obtain ⟨_, bx0, bx1, -, -⟩ := hbx.open2
    go_wp2_with fail
    go_at_call 16
    refine (alive_54 _).mono ?_
    rintro e3 w3 ⟨rfl, hb3⟩
    clear bx0 bx1
    replace hF := hF.of hb3
    replace hR := hR.of hb3
    replace hbx := hbx.of hb3
    replace hB := below_thru hB hb3
    have hz3 := hb3.size
    clear hb3
    go_wp2_with fail
    go_ret
    exact ⟨rfl, hB⟩
  | true =>
    obtain ⟨hsm, hk40⟩ := few_sm hv
    have hkl : k ≤ 40 := by rw [← hF.len]; exact hk40
    clear hv hk40
    by_cases hp : 100 < n
    · have g0 : decide (100 < (n : Int)) = true := decide_eq_true (by omega)
      have g1 : decide (100 < n) = true := decide_eq_true hp
      go_enter Tryz.func6, Tryz.ntmps6
      go_wp2_with fail
      have hB : Below w.heap.size w w := Below.refl _ _
      have hbx := BxW.new (w) [.int .i64 key, .slice X k e] 34
      rw [show ∀ a b : Value, [a, b].toArray = #[a, b] from fun _ _ => rfl] at hbx
      have hal : Below w.heap.size w ((w).alloc (.cells #[.int .i64 key, .slice X k e] 34)) := by (repeat' (first | exact Below.refl _ _ | assumption | (refine Below.alloc ?_ ?_ _) | (refine Below.setCell ?_ ?_ _) | (refine Below.drew ?_) | (refine below_drewN ?_ _) | (refine below_after (Ext.below _) ?_ ?_) | (refine below_after (by assumption) ?_ ?_) | (simp; done) | omega | (simp; omega)))
      obtain ⟨wn, hwn⟩ : ∃ wn, wn = (w).alloc (.cells #[.int .i64 key, .slice X k e] 34) := ⟨_, rfl⟩
      rw [← hwn] at hbx hal ⊢
      obtain ⟨bxb, hn⟩ : ∃ bxb, bxb = w.heap.size := ⟨_, rfl⟩
      rw [← hn] at hbx ⊢
      clear hn
      replace hF := hF.of hal
      replace hR := hR.of hal
      replace hB := below_thru hB hal
      clear hwn hal
      obtain ⟨w1, hwn⟩ : ∃ q, q = wn := ⟨_, rfl⟩
      subst hwn
      obtain ⟨_, bx0, bx1, -, -⟩ := hbx.open2
      go_wp2_with fail
      go_at_call 25
      refine (kF _ hF).mono ?_
      rintro e2 w2 ⟨rfl, hb2⟩
      clear bx0 bx1
      replace hF := hF.of hb2
      replace hR := hR.of hb2
      replace hbx := hbx.of hb2
      replace hB := below_thru hB hb2
      have hz2 := hb2.size
      clear hb2
      obtain ⟨_, bx0, bx1, -, -⟩ := hbx.open2
      go_wp2_with fail
      go_at_call 16
      refine (alive_54 _).mono ?_
      rintro e3 w3 ⟨rfl, hb3⟩
      clear bx0 bx1
      replace hF := hF.of hb3
      replace hR := hR.of hb3
      replace hbx := hbx.of hb3
      replace hB := below_thru hB hb3
      have hz3 := hb3.size
      clear hb3
      go_wp2_with fail
      go_ret
      exact ⟨rfl, hB⟩
    have g0 : decide (100 < (n : Int)) = false := decide_eq_false (by omega)
    have g1 : decide (100 < n) = false := decide_eq_false hp
    have kP := fun w1 h1 h2 => tl_Append key X D k e n c fs gen p w1 h1 hsm hke h2 (by omega) hc
    have kQ := fun w1 h1 h2 => ref54_Append key X D k e n c fs gen p w1 h1 hsm hke h2 (by omega) hc
    obtain ⟨hs1, hs2⟩ := ad_sm key fs gen p
    replace hs2 := Lib.hid hs2
    by_cases h0 : adE key fs gen p = 0
    · obtain ⟨ha, hb⟩ := ad_at h0
      rw [show adK key fs gen p = key by unfold adK; rw [if_pos h0], h0] at kP kQ
      have hfl := Lib.hid (show (fs.length : Int) = (k : Int) by rw [hF.len])
      rw [hfl.out] at ha hb
      have kA := fun B q g w1 h => tl_At key B q g (adL key fs gen p) (k : Int) w1 h hs1
      rw [ha, hb] at kA
      clear ha hb h0
      generalize adL key fs gen p = L0 at kP kQ kA hs1 hs2
      go_enter Tryz.func6, Tryz.ntmps6
      go_wp2_with fail
      have hB : Below w.heap.size w w := Below.refl _ _
      have hbx := BxW.new (w) [.int .i64 key, .slice X k e] 34
      rw [show ∀ a b : Value, [a, b].toArray = #[a, b] from fun _ _ => rfl] at hbx
      have hal : Below w.heap.size w ((w).alloc (.cells #[.int .i64 key, .slice X k e] 34)) := by (repeat' (first | exact Below.refl _ _ | assumption | (refine Below.alloc ?_ ?_ _) | (refine Below.setCell ?_ ?_ _) | (refine Below.drew ?_) | (refine below_drewN ?_ _) | (refine below_after (Ext.below _) ?_ ?_) | (refine below_after (by assumption) ?_ ?_) | (simp; done) | omega | (simp; omega)))
      obtain ⟨wn, hwn⟩ : ∃ wn, wn = (w).alloc (.cells #[.int .i64 key, .slice X k e] 34) := ⟨_, rfl⟩
      rw [← hwn] at hbx hal ⊢
      obtain ⟨bxb, hn⟩ : ∃ bxb, bxb = w.heap.size := ⟨_, rfl⟩
      rw [← hn] at hbx ⊢
      clear hn
      replace hF := hF.of hal
      replace hR := hR.of hal
      replace hB := below_thru hB hal
      clear hwn hal
      obtain ⟨w1, hwn⟩ : ∃ q, q = wn := ⟨_, rfl⟩
      subst hwn
      obtain ⟨_, bx0, bx1, -, -⟩ := hbx.open2
      go_wp2_with fail
      go_at_call 25
      refine (kF _ hF).mono ?_
      rintro e2 w2 ⟨rfl, hb2⟩
      clear bx0 bx1
      replace hF := hF.of hb2
      replace hR := hR.of hb2
      replace hbx := hbx.of hb2
      replace hB := below_thru hB hb2
      have hz2 := hb2.size
      clear hb2
      obtain ⟨_, bx0, bx1, -, -⟩ := hbx.open2
      go_wp2_with fail
      go_at_call 28
      refine (kP _ hF hR).mono ?_
      rintro e3 w3 ⟨B2, m2, d2, rfl, hX2, hd2, hb3⟩
      clear bx0 bx1
      replace hF := hF.of hb3
      replace hR := hR.of hb3
      replace hbx := hbx.of hb3
      replace hB := below_thru hB hb3
      have hz3 := hb3.size
      clear hb3
      obtain ⟨_, bx0, bx1, -, -⟩ := hbx.open2
      go_wp2_with fail
      clear bx0 bx1
      have hba := BxW.new (w3) [.int .i64 key, .slice B2 m2 d2] 34
      rw [show ∀ a b : Value, [a, b].toArray = #[a, b] from fun _ _ => rfl] at hba
      have hal : Below w3.heap.size w3 ((w3).alloc (.cells #[.int .i64 key, .slice B2 m2 d2] 34)) := by (repeat' (first | exact Below.refl _ _ | assumption | (refine Below.alloc ?_ ?_ _) | (refine Below.setCell ?_ ?_ _) | (refine Below.drew ?_) | (refine below_drewN ?_ _) | (refine below_after (Ext.below _) ?_ ?_) | (refine below_after (by assumption) ?_ ?_) | (simp; done) | omega | (simp; omega)))
      obtain ⟨wn, hwn⟩ : ∃ wn, wn = (w3).alloc (.cells #[.int .i64 key, .slice B2 m2 d2] 34) := ⟨_, rfl⟩
      rw [← hwn] at hba hal ⊢
      obtain ⟨bab, hn⟩ : ∃ bab, bab = w3.heap.size := ⟨_, rfl⟩
      rw [← hn] at hba ⊢
      clear hn
      replace hF := hF.of hal
      replace hR := hR.of hal
      replace hX2 := hX2.of hal
      replace hbx := hbx.of hal
      replace hB := below_thru hB hal
      clear hwn hal
      obtain ⟨w4, hwn⟩ : ∃ q, q = wn := ⟨_, rfl⟩
      subst hwn
      obtain ⟨_, bx0, bx1, -, -⟩ := hbx.open2
      obtain ⟨_, ba0, ba1, -, -⟩ := hba.open2
      go_at_call 29
      refine (kQ _ hF hR).mono ?_
      rintro e5 w5 ⟨B3, m3, d3, rfl, hX3, hd3, hb5⟩
      clear bx0 bx1
      clear ba0 ba1
      replace hF := hF.of hb5
      replace hR := hR.of hb5
      replace hX2 := hX2.of hb5
      replace hbx := hbx.of hb5
      replace hba := hba.of hb5
      replace hB := below_thru hB hb5
      have hz5 := hb5.size
      clear hb5
      obtain ⟨_, bx0, bx1, -, -⟩ := hbx.open2
      obtain ⟨_, ba0, ba1, -, -⟩ := hba.open2
      go_wp2_with fail
      clear bx0 bx1
      clear ba0 ba1
      have hbb := BxW.new (w5) [.int .i64 key, .slice B3 m3 d3] 34
      rw [show ∀ a b : Value, [a, b].toArray = #[a, b] from fun _ _ => rfl] at hbb
      have hal : Below w5.heap.size w5 ((w5).alloc (.cells #[.int .i64 key, .slice B3 m3 d3] 34)) := by (repeat' (first | exact Below.refl _ _ | assumption | (refine Below.alloc ?_ ?_ _) | (refine Below.setCell ?_ ?_ _) | (refine Below.drew ?_) | (refine below_drewN ?_ _) | (refine below_after (Ext.below _) ?_ ?_) | (refine below_after (by assumption) ?_ ?_) | (simp; done) | omega | (simp; omega)))
      obtain ⟨wn, hwn⟩ : ∃ wn, wn = (w5).alloc (.cells #[.int .i64 key, .slice B3 m3 d3] 34) := ⟨_, rfl⟩
      rw [← hwn] at hbb hal ⊢
      obtain ⟨bbb, hn⟩ : ∃ bbb, bbb = w5.heap.size := ⟨_, rfl⟩
      rw [← hn] at hbb ⊢
      clear hn
      replace hF := hF.of hal
      replace hR := hR.of hal
      replace hX2 := hX2.of hal
      replace hX3 := hX3.of hal
      replace hbx := hbx.of hal
      replace hba := hba.of hal
      replace hB := below_thru hB hal
      clear hwn hal
      obtain ⟨w6, hwn⟩ : ∃ q, q = wn := ⟨_, rfl⟩
      subst hwn
      obtain ⟨_, bx0, bx1, -, -⟩ := hbx.open2
      obtain ⟨_, ba0, ba1, -, -⟩ := hba.open2
      obtain ⟨_, bb0, bb1, -, -⟩ := hbb.open2
      have hm2 : m2 ≤ 1000000 := by rw [← hX2.len]; exact hs2.out
      have kS := ref54_Same key key B2 B3 m2 d2 m3 d3 L0 L0 w6 hX2 hX3 hs1 hs1 hm2
      rw [tlS_self] at kS
      go_at_call 19
      refine (kS).mono ?_
      rintro e7 w7 ⟨rfl, hb7⟩
      clear bx0 bx1
      clear ba0 ba1
      clear bb0 bb1
      replace hF := hF.of hb7
      replace hR := hR.of hb7
      replace hX2 := hX2.of hb7
      replace hX3 := hX3.of hb7
      replace hbx := hbx.of hb7
      replace hba := hba.of hb7
      replace hbb := hbb.of hb7
      replace hB := below_thru hB hb7
      have hz7 := hb7.size
      clear hb7
      obtain ⟨_, bx0, bx1, -, -⟩ := hbx.open2
      obtain ⟨_, ba0, ba1, -, -⟩ := hba.open2
      obtain ⟨_, bb0, bb1, -, -⟩ := hbb.open2
      go_wp2_with fail
      go_at_call 20
      refine (kA _ _ _ _ hX2).mono ?_
      rintro e8 w8 ⟨P4, m4, d4, rfl, hR4, hd4, hm4, hb8⟩
      clear bx0 bx1
      clear ba0 ba1
      clear bb0 bb1
      replace hF := hF.of hb8
      replace hR := hR.of hb8
      replace hX2 := hX2.of hb8
      replace hX3 := hX3.of hb8
      replace hbx := hbx.of hb8
      replace hba := hba.of hb8
      replace hbb := hbb.of hb8
      replace hB := below_thru hB hb8
      have hz8 := hb8.size
      clear hb8
      obtain ⟨_, bx0, bx1, -, -⟩ := hbx.open2
      obtain ⟨_, ba0, ba1, -, -⟩ := hba.open2
      obtain ⟨_, bb0, bb1, -, -⟩ := hbb.open2
      go_wp2_with fail
      have kT := ref05_SameV (sameL_self p) D P4 n m4 c d4 w8 hR hR4 (by omega) (by omega)
      go_at_call 22
      refine (kT).mono ?_
      rintro e9 w9 ⟨rfl, hb9⟩
      clear bx0 bx1
      clear ba0 ba1
      clear bb0 bb1
      replace hF := hF.of hb9
      replace hR := hR.of hb9
      replace hX2 := hX2.of hb9
      replace hX3 := hX3.of hb9
      replace hR4 := hR4.of hb9
      replace hbx := hbx.of hb9
      replace hba := hba.of hb9
      replace hbb := hbb.of hb9
      replace hB := below_thru hB hb9
      have hz9 := hb9.size
      clear hb9
      obtain ⟨_, bx0, bx1, -, -⟩ := hbx.open2
      obtain ⟨_, ba0, ba1, -, -⟩ := hba.open2
      obtain ⟨_, bb0, bb1, -, -⟩ := hbb.open2
      go_wp2_with fail
      go_at_call 16
      refine (alive_54 _).mono ?_
      rintro e10 w10 ⟨rfl, hb10⟩
      clear bx0 bx1
      clear ba0 ba1
      clear bb0 bb1
      replace hF := hF.of hb10
      replace hR := hR.of hb10
      replace hX2 := hX2.of hb10
      replace hX3 := hX3.of hb10
      replace hR4 := hR4.of hb10
      replace hbx := hbx.of hb10
      replace hba := hba.of hb10
      replace hbb := hbb.of hb10
      replace hB := below_thru hB hb10
      have hz10 := hb10.size
      clear hb10
      go_wp2_with fail
      go_ret
      exact ⟨rfl, hB⟩
    · generalize adL key fs gen p = L0 at kP kQ hs1 hs2
      generalize adK key fs gen p = k0 at kP kQ
      generalize adE key fs gen p = q0 at kP kQ h0
      have e0 : (q0 != q0) = false := by simp
      have e1 : (q0 == q0) = true := by simp
      have e2 : (q0 != 0) = true := by simpa using h0
      have e3 : (q0 == 0) = false := by simpa using h0
      clear h0
      go_enter Tryz.func6, Tryz.ntmps6
      go_wp2_with fail
      have hB : Below w.heap.size w w := Below.refl _ _
      have hbx := BxW.new (w) [.int .i64 key, .slice X k e] 34
      rw [show ∀ a b : Value, [a, b].toArray = #[a, b] from fun _ _ => rfl] at hbx
      have hal : Below w.heap.size w ((w).alloc (.cells #[.int .i64 key, .slice X k e] 34)) := by (repeat' (first | exact Below.refl _ _ | assumption | (refine Below.alloc ?_ ?_ _) | (refine Below.setCell ?_ ?_ _) | (refine Below.drew ?_) | (refine below_drewN ?_ _) | (refine below_after (Ext.below _) ?_ ?_) | (refine below_after (by assumption) ?_ ?_) | (simp; done) | omega | (simp; omega)))
      obtain ⟨wn, hwn⟩ : ∃ wn, wn = (w).alloc (.cells #[.int .i64 key, .slice X k e] 34) := ⟨_, rfl⟩
      rw [← hwn] at hbx hal ⊢
      obtain ⟨bxb, hn⟩ : ∃ bxb, bxb = w.heap.size := ⟨_, rfl⟩
      rw [← hn] at hbx ⊢
      clear hn
      replace hF := hF.of hal
      replace hR := hR.of hal
      replace hB := below_thru hB hal
      clear hwn hal
      obtain ⟨w1, hwn⟩ : ∃ q, q = wn := ⟨_, rfl⟩
      subst hwn
      obtain ⟨_, bx0, bx1, -, -⟩ := hbx.open2
      go_wp2_with fail
      go_at_call 25
      refine (kF _ hF).mono ?_
      rintro e2 w2 ⟨rfl, hb2⟩
      clear bx0 bx1
      replace hF := hF.of hb2
      replace hR := hR.of hb2
      replace hbx := hbx.of hb2
      replace hB := below_thru hB hb2
      have hz2 := hb2.size
      clear hb2
      obtain ⟨_, bx0, bx1, -, -⟩ := hbx.open2
      go_wp2_with fail
      go_at_call 28
      refine (kP _ hF hR).mono ?_
      rintro e3 w3 ⟨B2, m2, d2, rfl, hX2, hd2, hb3⟩
      clear bx0 bx1
      replace hF := hF.of hb3
      replace hR := hR.of hb3
      replace hbx := hbx.of hb3
      replace hB := below_thru hB hb3
      have hz3 := hb3.size
      clear hb3
      obtain ⟨_, bx0, bx1, -, -⟩ := hbx.open2
      go_wp2_with fail
      clear bx0 bx1
      have hba := BxW.new (w3) [.int .i64 k0, .slice B2 m2 d2] 34
      rw [show ∀ a b : Value, [a, b].toArray = #[a, b] from fun _ _ => rfl] at hba
      have hal : Below w3.heap.size w3 ((w3).alloc (.cells #[.int .i64 k0, .slice B2 m2 d2] 34)) := by (repeat' (first | exact Below.refl _ _ | assumption | (refine Below.alloc ?_ ?_ _) | (refine Below.setCell ?_ ?_ _) | (refine Below.drew ?_) | (refine below_drewN ?_ _) | (refine below_after (Ext.below _) ?_ ?_) | (refine below_after (by assumption) ?_ ?_) | (simp; done) | omega | (simp; omega)))
      obtain ⟨wn, hwn⟩ : ∃ wn, wn = (w3).alloc (.cells #[.int .i64 k0, .slice B2 m2 d2] 34) := ⟨_, rfl⟩
      rw [← hwn] at hba hal ⊢
      obtain ⟨bab, hn⟩ : ∃ bab, bab = w3.heap.size := ⟨_, rfl⟩
      rw [← hn] at hba ⊢
      clear hn
      replace hF := hF.of hal
      replace hR := hR.of hal
      replace hX2 := hX2.of hal
      replace hbx := hbx.of hal
      replace hB := below_thru hB hal
      clear hwn hal
      obtain ⟨w4, hwn⟩ : ∃ q, q = wn := ⟨_, rfl⟩
      subst hwn
      obtain ⟨_, bx0, bx1, -, -⟩ := hbx.open2
      obtain ⟨_, ba0, ba1, -, -⟩ := hba.open2
      go_at_call 29
      refine (kQ _ hF hR).mono ?_
      rintro e5 w5 ⟨B3, m3, d3, rfl, hX3, hd3, hb5⟩
      clear bx0 bx1
      clear ba0 ba1
      replace hF := hF.of hb5
      replace hR := hR.of hb5
      replace hX2 := hX2.of hb5
      replace hbx := hbx.of hb5
      replace hba := hba.of hb5
      replace hB := below_thru hB hb5
      have hz5 := hb5.size
      clear hb5
      obtain ⟨_, bx0, bx1, -, -⟩ := hbx.open2
      obtain ⟨_, ba0, ba1, -, -⟩ := hba.open2
      go_wp2_with fail
      clear bx0 bx1
      clear ba0 ba1
      have hbb := BxW.new (w5) [.int .i64 k0, .slice B3 m3 d3] 34
      rw [show ∀ a b : Value, [a, b].toArray = #[a, b] from fun _ _ => rfl] at hbb
      have hal : Below w5.heap.size w5 ((w5).alloc (.cells #[.int .i64 k0, .slice B3 m3 d3] 34)) := by (repeat' (first | exact Below.refl _ _ | assumption | (refine Below.alloc ?_ ?_ _) | (refine Below.setCell ?_ ?_ _) | (refine Below.drew ?_) | (refine below_drewN ?_ _) | (refine below_after (Ext.below _) ?_ ?_) | (refine below_after (by assumption) ?_ ?_) | (simp; done) | omega | (simp; omega)))
      obtain ⟨wn, hwn⟩ : ∃ wn, wn = (w5).alloc (.cells #[.int .i64 k0, .slice B3 m3 d3] 34) := ⟨_, rfl⟩
      rw [← hwn] at hbb hal ⊢
      obtain ⟨bbb, hn⟩ : ∃ bbb, bbb = w5.heap.size := ⟨_, rfl⟩
      rw [← hn] at hbb ⊢
      clear hn
      replace hF := hF.of hal
      replace hR := hR.of hal
      replace hX2 := hX2.of hal
      replace hX3 := hX3.of hal
      replace hbx := hbx.of hal
      replace hba := hba.of hal
      replace hB := below_thru hB hal
      clear hwn hal
      obtain ⟨w6, hwn⟩ : ∃ q, q = wn := ⟨_, rfl⟩
      subst hwn
      obtain ⟨_, bx0, bx1, -, -⟩ := hbx.open2
      obtain ⟨_, ba0, ba1, -, -⟩ := hba.open2
      obtain ⟨_, bb0, bb1, -, -⟩ := hbb.open2
      have hm2 : m2 ≤ 1000000 := by rw [← hX2.len]; exact hs2.out
      have kS := ref54_Same k0 k0 B2 B3 m2 d2 m3 d3 L0 L0 w6 hX2 hX3 hs1 hs1 hm2
      rw [tlS_self] at kS
      go_at_call 19
      refine (kS).mono ?_
      rintro e7 w7 ⟨rfl, hb7⟩
      clear bx0 bx1
      clear ba0 ba1
      clear bb0 bb1
      replace hF := hF.of hb7
      replace hR := hR.of hb7
      replace hX2 := hX2.of hb7
      replace hX3 := hX3.of hb7
      replace hbx := hbx.of hb7
      replace hba := hba.of hb7
      replace hbb := hbb.of hb7
      replace hB := below_thru hB hb7
      have hz7 := hb7.size
      clear hb7
      obtain ⟨_, bx0, bx1, -, -⟩ := hbx.open2
      obtain ⟨_, ba0, ba1, -, -⟩ := hba.open2
      obtain ⟨_, bb0, bb1, -, -⟩ := hbb.open2
      go_wp2_with fail
      go_at_call 16
      refine (alive_54 _).mono ?_
      rintro e8 w8 ⟨rfl, hb8⟩
      clear bx0 bx1
      clear ba0 ba1
      clear bb0 bb1
      replace hF := hF.of hb8
      replace hR := hR.of hb8
      replace hX2 := hX2.of hb8
      replace hX3 := hX3.of hb8
      replace hbx := hbx.of hb8
      replace hba := hba.of hb8
      replace hbb := hbb.of hb8
      replace hB := below_thru hB hb8
      have hz8 := hb8.size
      clear hb8
      go_wp2_with fail
      go_ret
      exact ⟨rfl, hB⟩
end Go.Proofs.YtabfefhicfmabaaGreat
