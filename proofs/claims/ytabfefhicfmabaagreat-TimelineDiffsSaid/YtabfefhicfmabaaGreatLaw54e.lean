/- The walk of TimelineDiffs. By mklaw54.py. -/
import Derived.Test.YtabfefhicfmabaaGreatLWA
import Derived.Test.YtabfefhicfmabaaGreatTim19
import Derived.Test.YtabfefhicfmabaaGreatTMS
namespace Go.Proofs.YtabfefhicfmabaaGreat
open Go Go.RowKit
set_option linter.unusedSimpArgs false
set_option linter.unusedVariables false
set_option maxRecDepth 100000
set_option linter.unusedSimpArgs false
set_option linter.unusedVariables false
theorem FrW.bb {W w' : World} {b b2 : Nat} {x y u v : Value} (h : FrW W w') (t : BxW W b [x, y]) (s : BxW W b2 [u, v]) : FrW W w' ∧ w'.cell? ⟨b, 0, none⟩ = some x ∧ w'.cell? ⟨b, 1, none⟩ = some y ∧ w'.cell? ⟨b2, 0, none⟩ = some u ∧ w'.cell? ⟨b2, 1, none⟩ = some v :=
  ⟨h, (t.of h.below).2.1 0, (t.of h.below).2.1 1, (s.of h.below).2.1 0, (s.of h.below).2.1 1⟩
set_option maxHeartbeats 32000000 in
theorem law_tdiffs (key : Int) (X : Option Addr) (k e : Nat) (fs : List TFr) (key2 : Int) (Y : Option Addr) (k2 e2 : Nat) (gs : List TFr) (w : World) (hF : RdX ekFr w X k fs) (hke : k ≤ e) (hk63 : k ≤ 9223372036854775807) (hG : RdX ekFr w Y k2 gs) (hk2 : k2 ≤ 9223372036854775807) :
    Calls Tryz.prog 9 #[.agg #[.int .i64 key, .slice X k e], .agg #[.int .i64 key2, .slice Y k2 e2]] w fun e w' => e = .returned (.bool true) ∧ Below w.heap.size w w' := by
  have kF := fun w1 h => law_few54 key X k e fs w1 h hk63
  have kG := fun w1 h => law_few54 key2 Y k2 e2 gs w1 h hk2
  cases hv : fewF fs with
  | false =>
    rw [hv] at kF
    clear hv
    go_enter Tryz.func9, Tryz.ntmps9
    go_wp2_with fail
    have hB : Below w.heap.size w w := Below.refl _ _
    have hbx := (BxW.new (w) [.int .i64 key, .slice X k e] 34).of ((Below.refl _ _).alloc (Nat.le_refl _) (.cells #[.int .i64 key2, .slice Y k2 e2] 34))
    rw [show ∀ a b : Value, [a, b].toArray = #[a, b] from fun _ _ => rfl] at hbx
    have hby := BxW.new ((w).alloc (.cells #[.int .i64 key, .slice X k e] 34)) [.int .i64 key2, .slice Y k2 e2] 34
    rw [show ∀ a b : Value, [a, b].toArray = #[a, b] from fun _ _ => rfl] at hby
    rw [World.size_alloc] at hby
    have hal : Below w.heap.size w (((w).alloc (.cells #[.int .i64 key, .slice X k e] 34)).alloc (.cells #[.int .i64 key2, .slice Y k2 e2] 34)) := by (repeat' (first | exact Below.refl _ _ | assumption | (refine Below.alloc ?_ ?_ _) | (refine Below.setCell ?_ ?_ _) | (refine Below.drew ?_) | (refine below_drewN ?_ _) | (refine below_after (Ext.below _) ?_ ?_) | (refine below_after (by assumption) ?_ ?_) | (simp; done) | omega | (simp; omega)))
    obtain ⟨wn, hwn⟩ : ∃ wn, wn = ((w).alloc (.cells #[.int .i64 key, .slice X k e] 34)).alloc (.cells #[.int .i64 key2, .slice Y k2 e2] 34) := ⟨_, rfl⟩
    have hsz2 : w.heap.size + 1 < wn.heap.size := by rw [hwn]; simp
    rw [← hwn] at hbx hby hal ⊢
    obtain ⟨bxb, hn⟩ : ∃ bxb, bxb = w.heap.size := ⟨_, rfl⟩
    rw [← hn] at hbx hby ⊢
    clear hn
    obtain ⟨byb, hn⟩ : ∃ byb, byb = bxb + 1 := ⟨_, rfl⟩
    rw [← hn] at hby ⊢
    clear hn
    replace hF := hF.of hal
    replace hG := hG.of hal
    replace hB := below_thru hB hal
    clear hwn hal hsz2
    obtain ⟨w1, hwn⟩ : ∃ q, q = wn := ⟨_, rfl⟩
    subst hwn
    obtain ⟨_, bx0, bx1, -, -⟩ := hbx.open2
    obtain ⟨_, by0, by1, -, -⟩ := hby.open2
    go_wp2_with fail
    go_at_call 25
    refine (kF _ hF).mono ?_
    rintro e2 w2 ⟨rfl, hb2⟩
    clear bx0 bx1
    clear by0 by1
    replace hF := hF.of hb2
    replace hG := hG.of hb2
    replace hbx := hbx.of hb2
    replace hby := hby.of hb2
    replace hB := below_thru hB hb2
    have hz2 := hb2.size
    clear hb2
    obtain ⟨_, bx0, bx1, -, -⟩ := hbx.open2
    obtain ⟨_, by0, by1, -, -⟩ := hby.open2
    go_wp2_with fail
    go_at_call 16
    refine (alive_54 _).mono ?_
    rintro e3 w3 ⟨rfl, hb3⟩
    clear bx0 bx1
    clear by0 by1
    replace hF := hF.of hb3
    replace hG := hG.of hb3
    replace hbx := hbx.of hb3
    replace hby := hby.of hb3
    replace hB := below_thru hB hb3
    have hz3 := hb3.size
    clear hb3
    go_wp2_with fail
    go_ret
    exact ⟨rfl, hB⟩
  | true =>
    rw [hv] at kF
    obtain ⟨hsm, hk40⟩ := few_sm hv
    have hkl : k ≤ 40 := by rw [← hF.len]; exact hk40
    clear hv hk40
    cases hv : fewF gs with
    | false =>
      rw [hv] at kG
      clear hv
      go_enter Tryz.func9, Tryz.ntmps9
      go_wp2_with fail
      have hB : Below w.heap.size w w := Below.refl _ _
      have hbx := (BxW.new (w) [.int .i64 key, .slice X k e] 34).of ((Below.refl _ _).alloc (Nat.le_refl _) (.cells #[.int .i64 key2, .slice Y k2 e2] 34))
      rw [show ∀ a b : Value, [a, b].toArray = #[a, b] from fun _ _ => rfl] at hbx
      have hby := BxW.new ((w).alloc (.cells #[.int .i64 key, .slice X k e] 34)) [.int .i64 key2, .slice Y k2 e2] 34
      rw [show ∀ a b : Value, [a, b].toArray = #[a, b] from fun _ _ => rfl] at hby
      rw [World.size_alloc] at hby
      have hal : Below w.heap.size w (((w).alloc (.cells #[.int .i64 key, .slice X k e] 34)).alloc (.cells #[.int .i64 key2, .slice Y k2 e2] 34)) := by (repeat' (first | exact Below.refl _ _ | assumption | (refine Below.alloc ?_ ?_ _) | (refine Below.setCell ?_ ?_ _) | (refine Below.drew ?_) | (refine below_drewN ?_ _) | (refine below_after (Ext.below _) ?_ ?_) | (refine below_after (by assumption) ?_ ?_) | (simp; done) | omega | (simp; omega)))
      obtain ⟨wn, hwn⟩ : ∃ wn, wn = ((w).alloc (.cells #[.int .i64 key, .slice X k e] 34)).alloc (.cells #[.int .i64 key2, .slice Y k2 e2] 34) := ⟨_, rfl⟩
      have hsz2 : w.heap.size + 1 < wn.heap.size := by rw [hwn]; simp
      rw [← hwn] at hbx hby hal ⊢
      obtain ⟨bxb, hn⟩ : ∃ bxb, bxb = w.heap.size := ⟨_, rfl⟩
      rw [← hn] at hbx hby ⊢
      clear hn
      obtain ⟨byb, hn⟩ : ∃ byb, byb = bxb + 1 := ⟨_, rfl⟩
      rw [← hn] at hby ⊢
      clear hn
      replace hF := hF.of hal
      replace hG := hG.of hal
      replace hB := below_thru hB hal
      clear hwn hal hsz2
      obtain ⟨w1, hwn⟩ : ∃ q, q = wn := ⟨_, rfl⟩
      subst hwn
      obtain ⟨_, bx0, bx1, -, -⟩ := hbx.open2
      obtain ⟨_, by0, by1, -, -⟩ := hby.open2
      go_wp2_with fail
      go_at_call 25
      refine (kF _ hF).mono ?_
      rintro e2 w2 ⟨rfl, hb2⟩
      clear bx0 bx1
      clear by0 by1
      replace hF := hF.of hb2
      replace hG := hG.of hb2
      replace hbx := hbx.of hb2
      replace hby := hby.of hb2
      replace hB := below_thru hB hb2
      have hz2 := hb2.size
      clear hb2
      obtain ⟨_, bx0, bx1, -, -⟩ := hbx.open2
      obtain ⟨_, by0, by1, -, -⟩ := hby.open2
      go_wp2_with fail
      go_at_call 25
      refine (kG _ hG).mono ?_
      rintro e3 w3 ⟨rfl, hb3⟩
      clear bx0 bx1
      clear by0 by1
      replace hF := hF.of hb3
      replace hG := hG.of hb3
      replace hbx := hbx.of hb3
      replace hby := hby.of hb3
      replace hB := below_thru hB hb3
      have hz3 := hb3.size
      clear hb3
      obtain ⟨_, bx0, bx1, -, -⟩ := hbx.open2
      obtain ⟨_, by0, by1, -, -⟩ := hby.open2
      go_wp2_with fail
      go_at_call 16
      refine (alive_54 _).mono ?_
      rintro e4 w4 ⟨rfl, hb4⟩
      clear bx0 bx1
      clear by0 by1
      replace hF := hF.of hb4
      replace hG := hG.of hb4
      replace hbx := hbx.of hb4
      replace hby := hby.of hb4
      replace hB := below_thru hB hb4
      have hz4 := hb4.size
      clear hb4
      go_wp2_with fail
      go_ret
      exact ⟨rfl, hB⟩
    | true =>
      rw [hv] at kG
      obtain ⟨hsn, hk40⟩ := few_sm hv
      have hkl2 : k2 ≤ 40 := by rw [← hG.len]; exact hk40
      clear hv hk40
      have kP := fun w1 h1 h2 => tl_Diff key key2 X Y k e k2 e2 fs gs w1 h1 h2 hsm hsn
      have kQ := fun w1 h1 h2 => ref54_Diff key key2 X Y k e k2 e2 fs gs w1 h1 h2 hsm hsn
      have kR := fun w1 h1 h2 => tl_Same key key2 X Y k e k2 e2 fs gs w1 h1 h2 hsm hsn (by omega)
      have kT := fun w1 h1 h2 => ref54_Same key key2 X Y k e k2 e2 fs gs w1 h1 h2 hsm hsn (by omega)
      have kU := fun w1 h1 => tl_Same key key X X k e k e fs fs w1 h1 h1 hsm hsm (by omega)
      rw [tlS_self] at kU
      generalize dfE key fs key2 gs = q0 at kP kQ
      generalize (dfL key fs key2 gs).1 = a0 at kP kQ
      generalize (dfL key fs key2 gs).2.1 = s0 at kP kQ
      generalize (dfL key fs key2 gs).2.2 = b0 at kP kQ
      generalize tlS key fs key2 gs = b1 at kR kT
      have y0 : (q0 == q0) = true := by simp
      have y1 : (a0 == a0) = true := by simp
      have y2 : (b0 == b0) = true := by simp
      have y3 : (b1 == b1) = true := by simp
      go_enter Tryz.func9, Tryz.ntmps9
      go_wp2_with fail
      have hB : Below w.heap.size w w := Below.refl _ _
      have hbx := (BxW.new (w) [.int .i64 key, .slice X k e] 34).of ((Below.refl _ _).alloc (Nat.le_refl _) (.cells #[.int .i64 key2, .slice Y k2 e2] 34))
      rw [show ∀ a b : Value, [a, b].toArray = #[a, b] from fun _ _ => rfl] at hbx
      have hby := BxW.new ((w).alloc (.cells #[.int .i64 key, .slice X k e] 34)) [.int .i64 key2, .slice Y k2 e2] 34
      rw [show ∀ a b : Value, [a, b].toArray = #[a, b] from fun _ _ => rfl] at hby
      rw [World.size_alloc] at hby
      have hal : Below w.heap.size w (((w).alloc (.cells #[.int .i64 key, .slice X k e] 34)).alloc (.cells #[.int .i64 key2, .slice Y k2 e2] 34)) := by (repeat' (first | exact Below.refl _ _ | assumption | (refine Below.alloc ?_ ?_ _) | (refine Below.setCell ?_ ?_ _) | (refine Below.drew ?_) | (refine below_drewN ?_ _) | (refine below_after (Ext.below _) ?_ ?_) | (refine below_after (by assumption) ?_ ?_) | (simp; done) | omega | (simp; omega)))
      obtain ⟨wn, hwn⟩ : ∃ wn, wn = ((w).alloc (.cells #[.int .i64 key, .slice X k e] 34)).alloc (.cells #[.int .i64 key2, .slice Y k2 e2] 34) := ⟨_, rfl⟩
      have hsz2 : w.heap.size + 1 < wn.heap.size := by rw [hwn]; simp
      rw [← hwn] at hbx hby hal ⊢
      obtain ⟨bxb, hn⟩ : ∃ bxb, bxb = w.heap.size := ⟨_, rfl⟩
      rw [← hn] at hbx hby ⊢
      clear hn
      obtain ⟨byb, hn⟩ : ∃ byb, byb = bxb + 1 := ⟨_, rfl⟩
      rw [← hn] at hby ⊢
      clear hn
      replace hF := hF.of hal
      replace hG := hG.of hal
      replace hB := below_thru hB hal
      clear hwn hal hsz2
      obtain ⟨w1, hwn⟩ : ∃ q, q = wn := ⟨_, rfl⟩
      subst hwn
      obtain ⟨_, bx0, bx1, -, -⟩ := hbx.open2
      obtain ⟨_, by0, by1, -, -⟩ := hby.open2
      go_wp2_with fail
      go_at_call 25
      refine (kF _ hF).mono ?_
      rintro e2 w2 ⟨rfl, hb2⟩
      clear bx0 bx1
      clear by0 by1
      replace hF := hF.of hb2
      replace hG := hG.of hb2
      replace hbx := hbx.of hb2
      replace hby := hby.of hb2
      replace hB := below_thru hB hb2
      have hz2 := hb2.size
      clear hb2
      obtain ⟨_, bx0, bx1, -, -⟩ := hbx.open2
      obtain ⟨_, by0, by1, -, -⟩ := hby.open2
      go_wp2_with fail
      go_at_call 25
      refine (kG _ hG).mono ?_
      rintro e3 w3 ⟨rfl, hb3⟩
      clear bx0 bx1
      clear by0 by1
      replace hF := hF.of hb3
      replace hG := hG.of hb3
      replace hbx := hbx.of hb3
      replace hby := hby.of hb3
      replace hB := below_thru hB hb3
      have hz3 := hb3.size
      clear hb3
      obtain ⟨_, bx0, bx1, -, -⟩ := hbx.open2
      obtain ⟨_, by0, by1, -, -⟩ := hby.open2
      go_wp2_with fail
      go_at_call 32
      refine (kP _ hF hG).mono ?_
      rintro e4 w4 ⟨P2, m2, d2, rfl, hR2, hd2, hm2, hb4⟩
      clear bx0 bx1
      clear by0 by1
      replace hF := hF.of hb4
      replace hG := hG.of hb4
      replace hbx := hbx.of hb4
      replace hby := hby.of hb4
      replace hB := below_thru hB hb4
      have hz4 := hb4.size
      clear hb4
      obtain ⟨_, bx0, bx1, -, -⟩ := hbx.open2
      obtain ⟨_, by0, by1, -, -⟩ := hby.open2
      go_wp2_with fail
      go_at_call 33
      refine (kQ _ hF hG).mono ?_
      rintro e5 w5 ⟨P3, m3, d3, rfl, hR3, hd3, hm3, hb5⟩
      clear bx0 bx1
      clear by0 by1
      replace hF := hF.of hb5
      replace hG := hG.of hb5
      replace hR2 := hR2.of hb5
      replace hbx := hbx.of hb5
      replace hby := hby.of hb5
      replace hB := below_thru hB hb5
      have hz5 := hb5.size
      clear hb5
      obtain ⟨_, bx0, bx1, -, -⟩ := hbx.open2
      obtain ⟨_, by0, by1, -, -⟩ := hby.open2
      go_wp2_with fail
      have kS := fun w1 h1 h2 => ref54_SameChanges P2 P3 m2 d2 m3 d3 s0 s0 w1 h1 h2 (by omega) (by omega)
      rw [show decide (s0 = s0) = true from decide_eq_true rfl] at kS
      go_region_held3 (fun w' => FrW w5 w' ∧ w'.cell? ⟨bxb, 0, none⟩ = some (.int .i64 key) ∧ w'.cell? ⟨bxb, 1, none⟩ = some (.slice X k e) ∧ w'.cell? ⟨byb, 0, none⟩ = some (.int .i64 key2) ∧ w'.cell? ⟨byb, 1, none⟩ = some (.slice Y k2 e2)) (((try go_split_ands); refine FrW.bb ?_ hbx hby; with_reducible (first | assumption | exact FrW.drew (FrW.here _) | exact FrW.drew ‹_› | exact FrW.of ‹_› hb9 | fail))) ((first | (go_at_call 34; (try go_split_ands); refine (kS _ (hR2.of (FrW.below ‹_›)) (hR3.of (FrW.below ‹_›))).mono ?_; rintro e9 w9 ⟨rfl, hb9⟩) | (go_at_call 35; (try go_split_ands); (first | (with_reducible refine (kU _ (hF.of (FrW.below ‹_›))).mono ?_) | (with_reducible refine (kR _ (hF.of (FrW.below ‹_›)) (hG.of (FrW.below ‹_›))).mono ?_)); rintro e9 w9 ⟨rfl, hb9⟩) | (go_at_call 19; (try go_split_ands); refine (kT _ (hF.of (FrW.below ‹_›)) (hG.of (FrW.below ‹_›))).mono ?_; rintro e9 w9 ⟨rfl, hb9⟩) | (go_at_call 16; (try go_split_ands); refine (alive_54 _).mono ?_; rintro e9 w9 ⟨rfl, hb9⟩) | fail))
      all_goals
        (try go_split_ands)
        have hfin := (by first | exact FrW.below (FrW.of ‹_› hb9) | exact FrW.below ‹_›)
        go_wp2_with fail
        go_ret
        exact ⟨rfl, below_thru hB hfin⟩
end Go.Proofs.YtabfefhicfmabaaGreat
