/- The walks of TimelineRight, TimelineAppends, TimelineCuts and TimelineDiffs. By mklaw54.py. -/
import Derived.Test.YtabfefhicfmabaaGreatLWA
namespace Go.Proofs.YtabfefhicfmabaaGreat
open Go Go.RowKit
set_option linter.unusedSimpArgs false
set_option linter.unusedVariables false
set_option maxRecDepth 100000
set_option linter.unusedSimpArgs false
set_option linter.unusedVariables false
set_option maxHeartbeats 32000000 in
theorem law_tright (key : Int) (X : Option Addr) (k e : Nat) (fs : List TFr) (kk : Int) (w : World) (hF : RdX ekFr w X k fs) (hke : k ≤ e) (hk63 : k ≤ 9223372036854775807) :
    Calls Tryz.prog 5 #[.agg #[.int .i64 key, .slice X k e], .int .i64 kk] w fun e w' => e = .returned (.bool true) ∧ Below w.heap.size w w' := by
  obtain ⟨v, hv⟩ : ∃ v, fewF fs = v := ⟨_, rfl⟩
  have kF := fun w1 h => law_few54 key X k e fs w1 h hk63
  rw [hv] at kF
  cases v with
  | false =>
    clear hv
    go_enter Tryz.func5, Tryz.ntmps5
    go_wp2_with fail
    have hB : Below w.heap.size w w := Below.refl _ _
    have hbx := BxW.new (w) [.int .i64 key, .slice X k e] 34
    rw [show ∀ a b : Value, [a, b].toArray = #[a, b] from fun _ _ => rfl] at hbx
    have hal : Below w.heap.size w ((w).alloc (.cells #[.int .i64 key, .slice X k e] 34)) := by (repeat' (first | exact Below.refl _ _ | assumption | (refine Below.alloc ?_ ?_ _) | (refine Below.setCell ?_ ?_ _) | (refine Below.drew ?_) | (refine below_drewN ?_ _) | (refine below_after (Ext.below _) ?_ ?_) | (refine below_after (by assumption) ?_ ?_) | (simp; done) | omega | (simp; omega)))
    obtain ⟨wn, hwn⟩ : ∃ wn, wn = (w).alloc (.cells #[.int .i64 key, .slice X k e] 34) := ⟨_, rfl⟩
    rw [← hwn] at hbx hal ⊢
    obtain ⟨bxb, hn⟩ : ∃ bxb, bxb = w.heap.size := ⟨_, rfl⟩
    rw [← hn] at hbx ⊢
    clear hn
    replace hF := hF.of hal
    replace hB := below_thru hB hal
    clear hwn hal
    obtain ⟨w1, hwn⟩ : ∃ q, q = wn := ⟨_, rfl⟩
    subst hwn
    obtain ⟨_, bx0, bx1, -, -⟩ := hbx.open2
    go_wp2_with fail
    go_at_call 25
    refine (kF _ hF).mono ?_
    rintro e2 w2 ⟨rfl, hb2⟩
    clear bx0 bx1
    replace hF := hF.of hb2
    replace hbx := hbx.of hb2
    replace hB := below_thru hB hb2
    have hz2 := hb2.size
    clear hb2
    obtain ⟨_, bx0, bx1, -, -⟩ := hbx.open2
    go_wp2_with fail
    go_at_call 16
    refine (alive_54 _).mono ?_
    rintro e3 w3 ⟨rfl, hb3⟩
    clear bx0 bx1
    replace hF := hF.of hb3
    replace hbx := hbx.of hb3
    replace hB := below_thru hB hb3
    have hz3 := hb3.size
    clear hb3
    go_wp2_with fail
    go_ret
    exact ⟨rfl, hB⟩
  | true =>
    obtain ⟨hsm, hk40⟩ := few_sm hv
    have hkl : k ≤ 40 := by rw [← hF.len]; exact hk40
    clear hv hk40
    have kP := fun w1 h => tl_At key X k e fs kk w1 h hsm
    have kQ := fun w1 h => ref54_At key X k e fs kk w1 h hsm
    have kR := fun w1 h => tl_Right key X k e fs w1 h hsm
    have kT := fun w1 h => ref54_Right key X k e fs w1 h hsm
    generalize atE key fs kk = q0 at kP kQ
    generalize atL key fs kk = s0 at kP kQ
    generalize tlB key fs = b0 at kR kT
    have e0 : (q0 == q0) = true := beq_self_eq_true _
    have e1 : (b0 == b0) = true := beq_self_eq_true _
    go_enter Tryz.func5, Tryz.ntmps5
    go_wp2_with fail
    have hB : Below w.heap.size w w := Below.refl _ _
    have hbx := BxW.new (w) [.int .i64 key, .slice X k e] 34
    rw [show ∀ a b : Value, [a, b].toArray = #[a, b] from fun _ _ => rfl] at hbx
    have hal : Below w.heap.size w ((w).alloc (.cells #[.int .i64 key, .slice X k e] 34)) := by (repeat' (first | exact Below.refl _ _ | assumption | (refine Below.alloc ?_ ?_ _) | (refine Below.setCell ?_ ?_ _) | (refine Below.drew ?_) | (refine below_drewN ?_ _) | (refine below_after (Ext.below _) ?_ ?_) | (refine below_after (by assumption) ?_ ?_) | (simp; done) | omega | (simp; omega)))
    obtain ⟨wn, hwn⟩ : ∃ wn, wn = (w).alloc (.cells #[.int .i64 key, .slice X k e] 34) := ⟨_, rfl⟩
    rw [← hwn] at hbx hal ⊢
    obtain ⟨bxb, hn⟩ : ∃ bxb, bxb = w.heap.size := ⟨_, rfl⟩
    rw [← hn] at hbx ⊢
    clear hn
    replace hF := hF.of hal
    replace hB := below_thru hB hal
    clear hwn hal
    obtain ⟨w1, hwn⟩ : ∃ q, q = wn := ⟨_, rfl⟩
    subst hwn
    obtain ⟨_, bx0, bx1, -, -⟩ := hbx.open2
    go_wp2_with fail
    go_at_call 25
    refine (kF _ hF).mono ?_
    rintro e2 w2 ⟨rfl, hb2⟩
    clear bx0 bx1
    replace hF := hF.of hb2
    replace hbx := hbx.of hb2
    replace hB := below_thru hB hb2
    have hz2 := hb2.size
    clear hb2
    obtain ⟨_, bx0, bx1, -, -⟩ := hbx.open2
    go_wp2_with fail
    go_at_call 20
    refine (kP _ hF).mono ?_
    rintro e3 w3 ⟨P2, m2, d2, rfl, hR2, hd2, hm2, hb3⟩
    clear bx0 bx1
    replace hF := hF.of hb3
    replace hbx := hbx.of hb3
    replace hB := below_thru hB hb3
    have hz3 := hb3.size
    clear hb3
    obtain ⟨_, bx0, bx1, -, -⟩ := hbx.open2
    go_wp2_with fail
    go_at_call 26
    refine (kQ _ hF).mono ?_
    rintro e4 w4 ⟨P3, m3, d3, rfl, hR3, hd3, hm3, hb4⟩
    clear bx0 bx1
    replace hF := hF.of hb4
    replace hR2 := hR2.of hb4
    replace hbx := hbx.of hb4
    replace hB := below_thru hB hb4
    have hz4 := hb4.size
    clear hb4
    obtain ⟨_, bx0, bx1, -, -⟩ := hbx.open2
    go_wp2_with fail
    have kS := fun w1 h1 h2 => ref05_SameV (sameL_self s0) P2 P3 m2 m3 d2 d3 w1 h1 h2 (show m2 ≤ 1000000 by omega) (show m3 ≤ 1000000 by omega)
    (refine wp_region_ext_lit (by kernel_rfl) (by kernel_rfl) ?_; (repeat (go_big_quiet_step ((first | (go_at_call 24; exact calls_ext (kR _ (hF.of (Ext.below _)))) | (go_at_call 27; exact calls_ext (kT _ (hF.of (Ext.below _)))) | (go_at_call 22; exact calls_ext (kS _ (hR2.of (Ext.below _)) (hR3.of (Ext.below _)))) | (go_at_call 16; exact calls_ext (alive_54 _)))))); refine wpQuiet_nil ?_; intro _ hw'; obtain ⟨z9, hw''⟩ := hw'; subst hw''; have hs9 := z9.size; obtain ⟨hc9, hf9⟩ := bcell z9.below; (try simp only [World.size_alloc, World.size_setCell, World.size_drew] at hc9 hf9); (try simp at hs9))
    go_wp2_with fail
    go_ret
    exact ⟨rfl, below_thru hB z9.below⟩
end Go.Proofs.YtabfefhicfmabaaGreat
