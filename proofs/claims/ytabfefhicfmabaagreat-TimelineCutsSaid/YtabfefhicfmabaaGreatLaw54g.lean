/- The walk of TimelineCuts. By mklaw54.py. -/
import Derived.Test.YtabfefhicfmabaaGreatLWA
import Derived.Test.YtabfefhicfmabaaGreatTim11
import Derived.Test.YtabfefhicfmabaaGreatTMS
namespace Go.Proofs.YtabfefhicfmabaaGreat
open Go Go.RowKit
set_option linter.unusedSimpArgs false
set_option linter.unusedVariables false
set_option maxRecDepth 100000
set_option linter.unusedSimpArgs false
set_option linter.unusedVariables false
set_option maxHeartbeats 32000000 in
theorem law_tcuts (key : Int) (X : Option Addr) (k e : Nat) (fs : List TFr) (a b : Int) (w : World) (hF : RdX ekFr w X k fs) (hke : k ≤ e) (hk63 : k ≤ 9223372036854775807) :
    Calls Tryz.prog 7 #[.agg #[.int .i64 key, .slice X k e], .int .i64 a, .int .i64 b] w fun e w' => e = .returned (.bool true) ∧ Below w.heap.size w w' := by
  obtain ⟨v, hv⟩ : ∃ v, fewF fs = v := ⟨_, rfl⟩
  have kF := fun w1 h => law_few54 key X k e fs w1 h hk63
  rw [hv] at kF
  cases v with
  | false =>
    clear hv
    go_enter Tryz.func7, Tryz.ntmps7
    go_wp2_with fail
    have hB : Below w.heap.size w w := Below.refl _ _
    have hbx := BxW.new (w) [.int .i64 key, .slice X k e] 34
    rw [show ∀ a b : Value, [a, b].toArray = #[a, b] from fun _ _ => rfl] at hbx
    have hal : Below w.heap.size w ((w).alloc (.cells #[.int .i64 key, .slice X k e] 34)) := by (repeat' (first | exact Below.refl _ _ | assumption | (refine Below.alloc ?_ ?_ _) | (refine Below.setCell ?_ ?_ _) | (refine Below.drew ?_) | (refine below_drewN ?_ _) | (refine below_after (Ext.below _) ?_ ?_) | (refine below_after (by assumption) ?_ ?_) | (simp; done) | omega | (simp; omega)))
    obtain ⟨wn, hwn⟩ : ∃ wn, wn = (w).alloc (.cells #[.int .i64 key, .slice X k e] 34) := ⟨_, rfl⟩
    rw [← hwn] at hbx hal ⊢
    obtain ⟨bxb, hn⟩ : ∃ bxb, bxb = w.heap.size := ⟨_, rfl⟩
    rw [← hn] at hbx ⊢
    clear hn
    replace hF := hF.of hal
    replace hB := below_thru hB hal
    clear hwn hal
    obtain ⟨w1, hwn⟩ : ∃ q, q = wn := ⟨_, rfl⟩
    subst hwn
    obtain ⟨_, bx0, bx1, -, -⟩ := hbx.open2
    go_wp2_with fail
    go_at_call 25
    refine (kF _ hF).mono ?_
    rintro e2 w2 ⟨rfl, hb2⟩
    clear bx0 bx1
    replace hF := hF.of hb2
    replace hbx := hbx.of hb2
    replace hB := below_thru hB hb2
    have hz2 := hb2.size
    clear hb2
    obtain ⟨_, bx0, bx1, -, -⟩ := hbx.open2
    go_wp2_with fail
    go_at_call 16
    refine (alive_54 _).mono ?_
    rintro e3 w3 ⟨rfl, hb3⟩
    clear bx0 bx1
    replace hF := hF.of hb3
    replace hbx := hbx.of hb3
    replace hB := below_thru hB hb3
    have hz3 := hb3.size
    clear hb3
    go_wp2_with fail
    go_ret
    exact ⟨rfl, hB⟩
  | true =>
    obtain ⟨hsm, hk40⟩ := few_sm hv
    have hkl : k ≤ 40 := by rw [← hF.len]; exact hk40
    clear hv hk40
    have kP := fun w1 h1 => tl_Cut key X k e fs a b w1 h1 hsm hke
    have kQ := fun w1 h1 => ref54_Cut key X k e fs a b w1 h1 hsm hke
    obtain ⟨hs1, hs2⟩ := cu_sm key fs a b
    generalize cuL key fs a b = L0 at kP kQ hs1 hs2
    generalize cuK key fs a b = k0 at kP kQ
    generalize cuE key fs a b = q0 at kP kQ
    replace hs2 := Lib.hid hs2
    have e1 : (q0 == q0) = true := by simp
    go_enter Tryz.func7, Tryz.ntmps7
    go_wp2_with fail
    have hB : Below w.heap.size w w := Below.refl _ _
    have hbx := BxW.new (w) [.int .i64 key, .slice X k e] 34
    rw [show ∀ a b : Value, [a, b].toArray = #[a, b] from fun _ _ => rfl] at hbx
    have hal : Below w.heap.size w ((w).alloc (.cells #[.int .i64 key, .slice X k e] 34)) := by (repeat' (first | exact Below.refl _ _ | assumption | (refine Below.alloc ?_ ?_ _) | (refine Below.setCell ?_ ?_ _) | (refine Below.drew ?_) | (refine below_drewN ?_ _) | (refine below_after (Ext.below _) ?_ ?_) | (refine below_after (by assumption) ?_ ?_) | (simp; done) | omega | (simp; omega)))
    obtain ⟨wn, hwn⟩ : ∃ wn, wn = (w).alloc (.cells #[.int .i64 key, .slice X k e] 34) := ⟨_, rfl⟩
    rw [← hwn] at hbx hal ⊢
    obtain ⟨bxb, hn⟩ : ∃ bxb, bxb = w.heap.size := ⟨_, rfl⟩
    rw [← hn] at hbx ⊢
    clear hn
    replace hF := hF.of hal
    replace hB := below_thru hB hal
    clear hwn hal
    obtain ⟨w1, hwn⟩ : ∃ q, q = wn := ⟨_, rfl⟩
    subst hwn
    obtain ⟨_, bx0, bx1, -, -⟩ := hbx.open2
    go_wp2_with fail
    go_at_call 25
    refine (kF _ hF).mono ?_
    rintro e2 w2 ⟨rfl, hb2⟩
    clear bx0 bx1
    replace hF := hF.of hb2
    replace hbx := hbx.of hb2
    replace hB := below_thru hB hb2
    have hz2 := hb2.size
    clear hb2
    obtain ⟨_, bx0, bx1, -, -⟩ := hbx.open2
    go_wp2_with fail
    go_at_call 30
    refine (kP _ hF).mono ?_
    rintro e3 w3 ⟨B2, m2, d2, rfl, hX2, hd2, hb3⟩
    clear bx0 bx1
    replace hF := hF.of hb3
    replace hbx := hbx.of hb3
    replace hB := below_thru hB hb3
    have hz3 := hb3.size
    clear hb3
    obtain ⟨_, bx0, bx1, -, -⟩ := hbx.open2
    go_wp2_with fail
    clear bx0 bx1
    have hba := BxW.new (w3) [.int .i64 k0, .slice B2 m2 d2] 34
    rw [show ∀ a b : Value, [a, b].toArray = #[a, b] from fun _ _ => rfl] at hba
    have hal : Below w3.heap.size w3 ((w3).alloc (.cells #[.int .i64 k0, .slice B2 m2 d2] 34)) := by (repeat' (first | exact Below.refl _ _ | assumption | (refine Below.alloc ?_ ?_ _) | (refine Below.setCell ?_ ?_ _) | (refine Below.drew ?_) | (refine below_drewN ?_ _) | (refine below_after (Ext.below _) ?_ ?_) | (refine below_after (by assumption) ?_ ?_) | (simp; done) | omega | (simp; omega)))
    obtain ⟨wn, hwn⟩ : ∃ wn, wn = (w3).alloc (.cells #[.int .i64 k0, .slice B2 m2 d2] 34) := ⟨_, rfl⟩
    rw [← hwn] at hba hal ⊢
    obtain ⟨bab, hn⟩ : ∃ bab, bab = w3.heap.size := ⟨_, rfl⟩
    rw [← hn] at hba ⊢
    clear hn
    replace hF := hF.of hal
    replace hX2 := hX2.of hal
    replace hbx := hbx.of hal
    replace hB := below_thru hB hal
    clear hwn hal
    obtain ⟨w4, hwn⟩ : ∃ q, q = wn := ⟨_, rfl⟩
    subst hwn
    obtain ⟨_, bx0, bx1, -, -⟩ := hbx.open2
    obtain ⟨_, ba0, ba1, -, -⟩ := hba.open2
    go_at_call 31
    refine (kQ _ hF).mono ?_
    rintro e5 w5 ⟨B3, m3, d3, rfl, hX3, hd3, hb5⟩
    clear bx0 bx1
    clear ba0 ba1
    replace hF := hF.of hb5
    replace hX2 := hX2.of hb5
    replace hbx := hbx.of hb5
    replace hba := hba.of hb5
    replace hB := below_thru hB hb5
    have hz5 := hb5.size
    clear hb5
    obtain ⟨_, bx0, bx1, -, -⟩ := hbx.open2
    obtain ⟨_, ba0, ba1, -, -⟩ := hba.open2
    go_wp2_with fail
    clear bx0 bx1
    clear ba0 ba1
    have hbb := BxW.new (w5) [.int .i64 k0, .slice B3 m3 d3] 34
    rw [show ∀ a b : Value, [a, b].toArray = #[a, b] from fun _ _ => rfl] at hbb
    have hal : Below w5.heap.size w5 ((w5).alloc (.cells #[.int .i64 k0, .slice B3 m3 d3] 34)) := by (repeat' (first | exact Below.refl _ _ | assumption | (refine Below.alloc ?_ ?_ _) | (refine Below.setCell ?_ ?_ _) | (refine Below.drew ?_) | (refine below_drewN ?_ _) | (refine below_after (Ext.below _) ?_ ?_) | (refine below_after (by assumption) ?_ ?_) | (simp; done) | omega | (simp; omega)))
    obtain ⟨wn, hwn⟩ : ∃ wn, wn = (w5).alloc (.cells #[.int .i64 k0, .slice B3 m3 d3] 34) := ⟨_, rfl⟩
    rw [← hwn] at hbb hal ⊢
    obtain ⟨bbb, hn⟩ : ∃ bbb, bbb = w5.heap.size := ⟨_, rfl⟩
    rw [← hn] at hbb ⊢
    clear hn
    replace hF := hF.of hal
    replace hX2 := hX2.of hal
    replace hX3 := hX3.of hal
    replace hbx := hbx.of hal
    replace hba := hba.of hal
    replace hB := below_thru hB hal
    clear hwn hal
    obtain ⟨w6, hwn⟩ : ∃ q, q = wn := ⟨_, rfl⟩
    subst hwn
    obtain ⟨_, bx0, bx1, -, -⟩ := hbx.open2
    obtain ⟨_, ba0, ba1, -, -⟩ := hba.open2
    obtain ⟨_, bb0, bb1, -, -⟩ := hbb.open2
    have hm2 : m2 ≤ 1000000 := by rw [← hX2.len]; exact hs2.out
    have kS := ref54_Same k0 k0 B2 B3 m2 d2 m3 d3 L0 L0 w6 hX2 hX3 hs1 hs1 hm2
    rw [tlS_self] at kS
    go_at_call 19
    refine (kS).mono ?_
    rintro e7 w7 ⟨rfl, hb7⟩
    clear bx0 bx1
    clear ba0 ba1
    clear bb0 bb1
    replace hF := hF.of hb7
    replace hX2 := hX2.of hb7
    replace hX3 := hX3.of hb7
    replace hbx := hbx.of hb7
    replace hba := hba.of hb7
    replace hbb := hbb.of hb7
    replace hB := below_thru hB hb7
    have hz7 := hb7.size
    clear hb7
    obtain ⟨_, bx0, bx1, -, -⟩ := hbx.open2
    obtain ⟨_, ba0, ba1, -, -⟩ := hba.open2
    obtain ⟨_, bb0, bb1, -, -⟩ := hbb.open2
    go_wp2_with fail
    go_at_call 16
    refine (alive_54 _).mono ?_
    rintro e8 w8 ⟨rfl, hb8⟩
    clear bx0 bx1
    clear ba0 ba1
    clear bb0 bb1
    replace hF := hF.of hb8
    replace hX2 := hX2.of hb8
    replace hX3 := hX3.of hb8
    replace hbx := hbx.of hb8
    replace hba := hba.of hb8
    replace hbb := hbb.of hb8
    replace hB := below_thru hB hb8
    have hz8 := hb8.size
    clear hb8
    go_wp2_with fail
    go_ret
    exact ⟨rfl, hB⟩
end Go.Proofs.YtabfefhicfmabaaGreat
