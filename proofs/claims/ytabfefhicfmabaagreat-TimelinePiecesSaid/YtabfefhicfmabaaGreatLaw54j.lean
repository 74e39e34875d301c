/- The walk of TimelinePieces. By mklaw54.py. -/
import Derived.Test.YtabfefhicfmabaaGreatLWA
import Derived.Test.YtabfefhicfmabaaGreatTmpQ
import Derived.Test.YtabfefhicfmabaaGreatTMS
namespace Go.Proofs.YtabfefhicfmabaaGreat
open Go Go.RowKit
set_option linter.unusedSimpArgs false
set_option linter.unusedVariables false
set_option maxRecDepth 100000
set_option linter.unusedSimpArgs false
set_option linter.unusedVariables false
theorem at_in {key : Int} {fs : List TFr} {j : Nat} (h : tlB key fs = true) (hj : j < fs.length) : atE key fs (j : Int) = 0 ∧ atL key fs (j : Int) = (tlP key fs).getD j [] := by
  have hE : atE key fs (j : Int) = 0 := by unfold atE; rw [if_pos h, if_pos (by omega)]
  refine ⟨hE, ?_⟩
  unfold atL; rw [if_pos hE, Int.toNat_natCast]
theorem sm_take {fs : List TFr} (h : SmT fs) (j : Nat) : SmT (fs.take j) := fun f hf => h f (List.mem_of_mem_take hf)
theorem FrW.pcs {W w' : World} {b1 b2 b3 i1 i3 : Nat} {v1 v2 v3 v4 : Value} (h : FrW W w') (hb1 : b1 < W.heap.size) (c1 : W.cell? ⟨b1, i1, none⟩ = some v1) (hb2 : b2 < W.heap.size) (c2 : W.cell? ⟨b2, 0, none⟩ = some v2) (c3 : W.cell? ⟨b2, 1, none⟩ = some v3) (hb3 : b3 < W.heap.size) (c4 : W.cell? ⟨b3, i3, none⟩ = some v4) :
    FrW W w' ∧ w'.cell? ⟨b1, i1, none⟩ = some v1 ∧ w'.cell? ⟨b2, 0, none⟩ = some v2 ∧ w'.cell? ⟨b2, 1, none⟩ = some v3 ∧ w'.cell? ⟨b3, i3, none⟩ = some v4 :=
  ⟨h, (h.below.cell (p := ⟨_, _, none⟩) hb1).trans c1, (h.below.cell (p := ⟨_, _, none⟩) hb2).trans c2, (h.below.cell (p := ⟨_, _, none⟩) hb2).trans c3, (h.below.cell (p := ⟨_, _, none⟩) hb3).trans c4⟩
theorem FrW.zset {W w : World} {b : Nat} (h : FrW W w) (hb : W.heap.size ≤ b) (x y : Value) : FrW W ((w.setCell ⟨b, 0, none⟩ x).setCell ⟨b, 1, none⟩ y) := ⟨(h.below.setCell hb x).setCell hb y⟩
set_option maxHeartbeats 32000000 in
theorem law_tpieces (key : Int) (X : Option Addr) (k e : Nat) (fs : List TFr) (w : World) (hF : RdX ekFr w X k fs) (hke : k ≤ e) (hk63 : k ≤ 9223372036854775807) :
    Calls Tryz.prog 8 #[.agg #[.int .i64 key, .slice X k e]] w fun e w' => e = .returned (.bool true) ∧ Below w.heap.size w w' := by
  obtain ⟨v, hv⟩ : ∃ v, fewF fs = v := ⟨_, rfl⟩
  have kF := fun w1 h => law_few54 key X k e fs w1 h hk63
  rw [hv] at kF
  cases v with
  | false =>
    clear hv
    go_enter Tryz.func8, Tryz.ntmps8
    go_wp2_with fail
    have hB : Below w.heap.size w w := Below.refl _ _
    have hbx := BxW.new (w) [.int .i64 key, .slice X k e] 34
    rw [show ∀ a b : Value, [a, b].toArray = #[a, b] from fun _ _ => rfl] at hbx
    have hal : Below w.heap.size w ((w).alloc (.cells #[.int .i64 key, .slice X k e] 34)) := by (repeat' (first | exact Below.refl _ _ | assumption | (refine Below.alloc ?_ ?_ _) | (refine Below.setCell ?_ ?_ _) | (refine Below.drew ?_) | (refine below_drewN ?_ _) | (refine below_after (Ext.below _) ?_ ?_) | (refine below_after (by assumption) ?_ ?_) | (simp; done) | omega | (simp; omega)))
    obtain ⟨wn, hwn⟩ : ∃ wn, wn = (w).alloc (.cells #[.int .i64 key, .slice X k e] 34) := ⟨_, rfl⟩
    rw [← hwn] at hbx hal ⊢
    obtain ⟨bxb, hn⟩ : ∃ bxb, bxb = w.heap.size := ⟨_, rfl⟩
    rw [← hn] at hbx ⊢
    clear hn
    replace hF := hF.of hal
    replace hB := below_thru hB hal
    clear hwn hal
    obtain ⟨w1, hwn⟩ : ∃ q, q = wn := ⟨_, rfl⟩
    subst hwn
    obtain ⟨_, bx0, bx1, -, -⟩ := hbx.open2
    go_wp2_with fail
    go_at_call 25
    refine (kF _ hF).mono ?_
    rintro e2 w2 ⟨rfl, hb2⟩
    clear bx0 bx1
    replace hF := hF.of hb2
    replace hbx := hbx.of hb2
    replace hB := below_thru hB hb2
    have hz2 := hb2.size
    clear hb2
    obtain ⟨_, bx0, bx1, -, -⟩ := hbx.open2
    go_wp2_with fail
    go_at_call 16
    refine (alive_54 _).mono ?_
    rintro e3 w3 ⟨rfl, hb3⟩
    clear bx0 bx1
    replace hF := hF.of hb3
    replace hbx := hbx.of hb3
    replace hB := below_thru hB hb3
    have hz3 := hb3.size
    clear hb3
    go_wp2_with fail
    go_ret
    exact ⟨rfl, hB⟩
  | true =>
    obtain ⟨hsm, hk40⟩ := few_sm hv
    have hkl : k ≤ 40 := by rw [← hF.len]; exact hk40
    clear hv hk40
    have kR := fun w1 h => tl_Right key X k e fs w1 h hsm
    cases hB0 : tlB key fs with
    | false =>
      rw [hB0] at kR
      clear hB0
      go_enter Tryz.func8, Tryz.ntmps8
      go_wp2_with fail
      have hB : Below w.heap.size w w := Below.refl _ _
      have hbx := BxW.new (w) [.int .i64 key, .slice X k e] 34
      rw [show ∀ a b : Value, [a, b].toArray = #[a, b] from fun _ _ => rfl] at hbx
      have hal : Below w.heap.size w ((w).alloc (.cells #[.int .i64 key, .slice X k e] 34)) := by (repeat' (first | exact Below.refl _ _ | assumption | (refine Below.alloc ?_ ?_ _) | (refine Below.setCell ?_ ?_ _) | (refine Below.drew ?_) | (refine below_drewN ?_ _) | (refine below_after (Ext.below _) ?_ ?_) | (refine below_after (by assumption) ?_ ?_) | (simp; done) | omega | (simp; omega)))
      obtain ⟨wn, hwn⟩ : ∃ wn, wn = (w).alloc (.cells #[.int .i64 key, .slice X k e] 34) := ⟨_, rfl⟩
      rw [← hwn] at hbx hal ⊢
      obtain ⟨bxb, hn⟩ : ∃ bxb, bxb = w.heap.size := ⟨_, rfl⟩
      rw [← hn] at hbx ⊢
      clear hn
      replace hF := hF.of hal
      replace hB := below_thru hB hal
      clear hwn hal
      obtain ⟨w1, hwn⟩ : ∃ q, q = wn := ⟨_, rfl⟩
      subst hwn
      obtain ⟨_, bx0, bx1, -, -⟩ := hbx.open2
      go_wp2_with fail
      go_at_call 25
      refine (kF _ hF).mono ?_
      rintro e2 w2 ⟨rfl, hb2⟩
      clear bx0 bx1
      replace hF := hF.of hb2
      replace hbx := hbx.of hb2
      replace hB := below_thru hB hb2
      have hz2 := hb2.size
      clear hb2
      obtain ⟨_, bx0, bx1, -, -⟩ := hbx.open2
      go_wp2_with fail
      go_at_call 24
      refine (kR _ hF).mono ?_
      rintro e3 w3 ⟨rfl, hb3⟩
      clear bx0 bx1
      replace hF := hF.of hb3
      replace hbx := hbx.of hb3
      replace hB := below_thru hB hb3
      have hz3 := hb3.size
      clear hb3
      obtain ⟨_, bx0, bx1, -, -⟩ := hbx.open2
      go_wp2_with fail
      go_at_call 16
      refine (alive_54 _).mono ?_
      rintro e4 w4 ⟨rfl, hb4⟩
      clear bx0 bx1
      replace hF := hF.of hb4
      replace hbx := hbx.of hb4
      replace hB := below_thru hB hb4
      have hz4 := hb4.size
      clear hb4
      go_wp2_with fail
      go_ret
      exact ⟨rfl, hB⟩
    | true =>
      rw [hB0] at kR
      rcases Nat.eq_zero_or_pos k with rfl | hk0
      · clear hB0
        go_enter Tryz.func8, Tryz.ntmps8
        go_wp2_with fail
        have hB : Below w.heap.size w w := Below.refl _ _
        have hbx := BxW.new (w) [.int .i64 key, .slice X 0 e] 34
        rw [show ∀ a b : Value, [a, b].toArray = #[a, b] from fun _ _ => rfl] at hbx
        have hal : Below w.heap.size w ((w).alloc (.cells #[.int .i64 key, .slice X 0 e] 34)) := by (repeat' (first | exact Below.refl _ _ | assumption | (refine Below.alloc ?_ ?_ _) | (refine Below.setCell ?_ ?_ _) | (refine Below.drew ?_) | (refine below_drewN ?_ _) | (refine below_after (Ext.below _) ?_ ?_) | (refine below_after (by assumption) ?_ ?_) | (simp; done) | omega | (simp; omega)))
        obtain ⟨wn, hwn⟩ : ∃ wn, wn = (w).alloc (.cells #[.int .i64 key, .slice X 0 e] 34) := ⟨_, rfl⟩
        rw [← hwn] at hbx hal ⊢
        obtain ⟨bxb, hn⟩ : ∃ bxb, bxb = w.heap.size := ⟨_, rfl⟩
        rw [← hn] at hbx ⊢
        clear hn
        replace hF := hF.of hal
        replace hB := below_thru hB hal
        clear hwn hal
        obtain ⟨w1, hwn⟩ : ∃ q, q = wn := ⟨_, rfl⟩
        subst hwn
        obtain ⟨_, bx0, bx1, -, -⟩ := hbx.open2
        go_wp2_with fail
        go_at_call 25
        refine (kF _ hF).mono ?_
        rintro e2 w2 ⟨rfl, hb2⟩
        clear bx0 bx1
        replace hF := hF.of hb2
        replace hbx := hbx.of hb2
        replace hB := below_thru hB hb2
        have hz2 := hb2.size
        clear hb2
        obtain ⟨_, bx0, bx1, -, -⟩ := hbx.open2
        go_wp2_with fail
        go_at_call 24
        refine (kR _ hF).mono ?_
        rintro e3 w3 ⟨rfl, hb3⟩
        clear bx0 bx1
        replace hF := hF.of hb3
        replace hbx := hbx.of hb3
        replace hB := below_thru hB hb3
        have hz3 := hb3.size
        clear hb3
        obtain ⟨_, bx0, bx1, -, -⟩ := hbx.open2
        go_wp2_with fail
        go_at_call 16
        refine (alive_54 _).mono ?_
        rintro e4 w4 ⟨rfl, hb4⟩
        clear bx0 bx1
        replace hF := hF.of hb4
        replace hbx := hbx.of hb4
        replace hB := below_thru hB hb4
        have hz4 := hb4.size
        clear hb4
        go_wp2_with fail
        go_ret
        exact ⟨rfl, hB⟩
      have hFl := Lib.hid hF.len
      have dk : ((k : Int) == 0) = false := by simp only [beq_eq_false_iff_ne, ne_eq]; omega
      have wk : IntKind.i64.wrap ((k : Int) - 1) = (k : Int) - 1 := IntWalk.i64_in _ (by omega)
      obtain ⟨c1, c2⟩ := cu_all hB0 (by rw [hFl.out]; exact hk0)
      rw [hFl.out] at c1 c2
      obtain ⟨d1, d2⟩ := df_self hB0
      have kC := fun w1 h => tl_Cut key X k e fs 0 ((k : Int) - 1) w1 h hsm hke
      rw [show cuK key fs 0 ((k : Int) - 1) = key by unfold cuK; rw [if_pos c1], c1, c2] at kC
      have kD := fun Y q w1 h1 h2 => tl_Diff key key X Y k e k q fs fs w1 h1 h2 hsm hsm
      rw [d1, d2] at kD
      (try dsimp only at kD)
      have kS := fun Z Y z q w1 h1 h2 => ref54_Same key key Z Y k z k q fs fs w1 h1 h2 hsm hsm (by omega)
      rw [tlS_self] at kS
      have kT := fun Y q w1 h => tl_Right key Y k q fs w1 h hsm
      rw [hB0] at kT
      have hAt := Lib.hid (fun (j : Nat) (hj : j < k) => at_in hB0 (show j < fs.length by rw [hFl.out]; exact hj))
      have hAd := Lib.hid (fun (j : Nat) g fu C D (h : fs[j]? = some (g, fu, C, D)) => ad_take hB0 (List.getElem?_eq_some_iff.1 h).1 h)
      have kA := fun (j : Nat) w1 h => tl_At key X k e fs (j : Int) w1 h hsm
      have kP := fun (j : Nat) Y q P m d g p w1 h1 h2 h3 h4 h5 => tl_Append key Y P j q m d (fs.take j) g p w1 h1 (sm_take hsm j) h2 h3 h4 h5
      have hRi := Lib.hid (tlP_right hB0)
      clear c1 c2 d1 d2 hB0
      go_enter Tryz.func8, Tryz.ntmps8
      go_wp2_with fail
      have hB : Below w.heap.size w w := Below.refl _ _
      have hbx := BxW.new (w) [.int .i64 key, .slice X k e] 34
      rw [show ∀ a b : Value, [a, b].toArray = #[a, b] from fun _ _ => rfl] at hbx
      have hal : Below w.heap.size w ((w).alloc (.cells #[.int .i64 key, .slice X k e] 34)) := by (repeat' (first | exact Below.refl _ _ | assumption | (refine Below.alloc ?_ ?_ _) | (refine Below.setCell ?_ ?_ _) | (refine Below.drew ?_) | (refine below_drewN ?_ _) | (refine below_after (Ext.below _) ?_ ?_) | (refine below_after (by assumption) ?_ ?_) | (simp; done) | omega | (simp; omega)))
      obtain ⟨wn, hwn⟩ : ∃ wn, wn = (w).alloc (.cells #[.int .i64 key, .slice X k e] 34) := ⟨_, rfl⟩
      rw [← hwn] at hbx hal ⊢
      obtain ⟨bxb, hn⟩ : ∃ bxb, bxb = w.heap.size := ⟨_, rfl⟩
      rw [← hn] at hbx ⊢
      clear hn
      replace hF := hF.of hal
      replace hB := below_thru hB hal
      clear hwn hal
      obtain ⟨w1, hwn⟩ : ∃ q, q = wn := ⟨_, rfl⟩
      subst hwn
      obtain ⟨_, bx0, bx1, -, -⟩ := hbx.open2
      go_wp2_with fail
      go_at_call 25
      refine (kF _ hF).mono ?_
      rintro e2 w2 ⟨rfl, hb2⟩
      clear bx0 bx1
      replace hF := hF.of hb2
      replace hbx := hbx.of hb2
      replace hB := below_thru hB hb2
      have hz2 := hb2.size
      clear hb2
      obtain ⟨_, bx0, bx1, -, -⟩ := hbx.open2
      go_wp2_with fail
      go_at_call 24
      refine (kR _ hF).mono ?_
      rintro e3 w3 ⟨rfl, hb3⟩
      clear bx0 bx1
      replace hF := hF.of hb3
      replace hbx := hbx.of hb3
      replace hB := below_thru hB hb3
      have hz3 := hb3.size
      clear hb3
      obtain ⟨_, bx0, bx1, -, -⟩ := hbx.open2
      go_upto_region 4 with (fail)
      clear bx0 bx1
      have hby := BxW.new w3 [.int .i64 key, .slice none 0 0] 34
      rw [show ∀ a b : Value, [a, b].toArray = #[a, b] from fun _ _ => rfl] at hby
      have hal : Below w3.heap.size w3 (w3.alloc (.cells #[.int .i64 key, .slice none 0 0] 34)) := (Below.refl _ _).alloc (Nat.le_refl _) _
      obtain ⟨wy, hwy⟩ : ∃ wy, wy = w3.alloc (.cells #[.int .i64 key, .slice none 0 0] 34) := ⟨_, rfl⟩
      obtain ⟨yb, hyb⟩ : ∃ yb, yb = w3.heap.size := ⟨_, rfl⟩
      rw [← hwy] at hby hal ⊢
      rw [← hyb] at hby ⊢
      have hyg : w3.heap.size ≤ yb := by omega
      have hbl := hbx.1
      have hxy : bxb ≠ yb := by omega
      clear hwy hyb
      obtain ⟨_, bx0, bx1, -, -⟩ := (hbx.of hal).open2
      go_upto_region 5 with (fail)
      clear bx0 bx1
      go_wp2_with fail
      go_loopw [36] (fun t wr => ∃ (Y : Option Addr) (q j : Nat), t = .int .i64 j ∧ j ≤ k ∧ BxW wr yb [.int .i64 key, .slice Y j q] ∧ RdX ekFr wr Y j (fs.take j) ∧ j ≤ q ∧ Below w3.heap.size w3 wr) (fun t _ => k - (intOf t).toNat)
      case atStart => exact ⟨none, 0, 0, rfl, by omega, hby, RdX.nil_, by omega, hal⟩
      case round =>
        clear hby hal
        obtain ⟨Y, q, j, rfl, hj, hby, hY, hjq, hb⟩ := hrel
        have hF1 := hF.of hb
        have hbx1 := hbx.of hb
        have hB1 := below_thru hB hb
        have hbs := hb.size
        obtain ⟨_, bx0, bx1, -, -⟩ := hbx1.open2
        obtain ⟨_, by0, by1, byf0, byf1⟩ := hby.open2
        by_cases hlj : j < k
        · have dj : decide ((j : Int) < (k : Int)) = true := decide_eq_true (by omega)
          have dj' : decide (j < k) = true := decide_eq_true hlj
          have j0 : (0 : Int) ≤ (j : Int) := by omega
          have j1 : (j : Int) < (k : Int) := by omega
          obtain ⟨g, fu, C, D, CA, cn, cc, DA, dn, dc, xo, oo, hx, rfl, hxl, u0, -, -, -, -, -, -, -⟩ := hF1.frm hlj
          obtain ⟨a1, a2⟩ := hAt.out j hlj
          obtain ⟨a3, a4⟩ := hAd.out j g fu C D hx.out
          have kA1 := kA j
          rw [a1, a2] at kA1
          have kP1 := fun Y q P m d w1 h1 h2 h3 h4 h5 => kP j Y q P m d g ((tlP key fs).getD j []) w1 h1 h2 h3 h4 h5
          rw [show adK key (fs.take j) g ((tlP key fs).getD j []) = key by unfold adK; rw [if_pos a3], a3, a4] at kP1
          generalize (tlP key fs).getD j [] = p0 at kA1 kP1
          clear a1 a2 a3 a4 hx kA kP kC kD kS kT
          go_wp2_with fail
          go_at_call 20
          refine (kA1 _ hF1).mono ?_
          rintro e20 w20 ⟨P, m, d, rfl, hP, hmd, hm5, hb4⟩
          have u04 : w20.cell? ⟨xo, oo + j * 4, none⟩ = some (.int .i64 g) := (hb4.cell (p := ⟨xo, _, none⟩) hxl).trans u0
          have hxl4 : xo < w20.heap.size := Nat.lt_of_lt_of_le hxl hb4.size
          clear bx0 bx1 by0 by1 byf0 byf1 u0
          have hbx4 := hbx1.of hb4
          have hby4 := hby.of hb4
          have hY4 := hY.of hb4
          have hL4 : Below w3.heap.size w3 w20 := below_thru hb hb4
          have hs4 := hL4.size
          obtain ⟨bxl, bx0, bx1, -, -⟩ := hbx4.open2
          obtain ⟨byl, by0, by1, byf0, byf1⟩ := hby4.open2
          go_wp2_with fail
          go_region_held3 (fun w' => FrW w20 w' ∧ w'.cell? ⟨bxb, 1, none⟩ = some (.slice (some ⟨xo, oo, none⟩) k e) ∧ w'.cell? ⟨yb, 0, none⟩ = some (.int .i64 key) ∧ w'.cell? ⟨yb, 1, none⟩ = some (.slice Y j q) ∧ w'.cell? ⟨xo, oo + j * 4, none⟩ = some (.int .i64 g))
            (((try go_split_ands); refine FrW.pcs ?_ bxl bx1 byl by0 by1 hxl4 u04; with_reducible (first | assumption | exact FrW.drew (FrW.here _) | exact FrW.drew ‹_› | exact FrW.of ‹_› hb9 | exact FrW.alloc ‹_› _ | exact FrW.drew (FrW.alloc ‹_› _) | exact FrW.alloc (FrW.of ‹_› hb9) _ | exact FrW.drew (FrW.alloc (FrW.here _) _) | exact FrW.alloc (FrW.here _) _ | exact FrW.zset (FrW.of ‹_› hb9) (Nat.le_refl _) _ _ | fail)))
            ((first | (go_at_call 28; (try go_split_ands); refine (kP1 _ _ _ _ _ _ (hY4.of (FrW.below ‹_›)) hjq (hP.of (FrW.below ‹_›)) (by omega) hmd).mono ?_; rintro e9 w9 ⟨Y9, m9, q9, rfl, hY9, hm9, hb9⟩; (try (have hz9 : BxW w9 w20.heap.size [.int .i64 0, .slice none 0 0] := BxW.of (BxW.drew (BxW.new _ [_, _] _)) hb9)); (try have ⟨_, zc0, zc1, zf0, zf1⟩ := hz9.open2)) | fail))
          · obtain rfl : m9 = j + 1 := by rw [← hY9.len, List.length_take, hFl.out]; omega
            have hzb := BxW.new w9 [.int .i64 key, .slice Y9 (j + 1) q9] 34
            rw [show ∀ a b : Value, [a, b].toArray = #[a, b] from fun _ _ => rfl] at hzb
            have hal : Below w9.heap.size w9 (w9.alloc (.cells #[.int .i64 key, .slice Y9 (j + 1) q9] 34)) := (Below.refl _ _).alloc (Nat.le_refl _) _
            have hb49 : Below w20.heap.size w20 w9 := FrW.below (FrW.of ‹_› hb9)
            have hyz := (hby4.of hb49).of hal
            have hYz := hY9.of hal
            have hLz := below_thru (below_thru hL4 hb49) hal
            have hne : w9.heap.size ≠ yb := by have := hb49.size; omega
            obtain ⟨wz, hwz⟩ : ∃ wz, wz = w9.alloc (.cells #[.int .i64 key, .slice Y9 (j + 1) q9] 34) := ⟨_, rfl⟩
            rw [← hwz] at hzb hyz hYz hLz ⊢
            obtain ⟨zb, hzbe⟩ : ∃ zb, zb = w9.heap.size := ⟨_, rfl⟩
            rw [← hzbe] at hzb hne ⊢
            clear bx0 bx1 by0 by1 byf0 byf1 u04 hwz hzbe
            obtain ⟨_, z0, z1, -, -⟩ := hzb.open2
            obtain ⟨_, by0, by1, byf0, byf1⟩ := hyz.open2
            go_wp2_with fail
            go_roundw
            case rel => exact ⟨Y9, q9, j + 1, by go_num, by omega, (hyz.put 0 _ (by simp)).put 1 _ (by simp), hYz.set2 hyz _ _, hm9, (hLz.setCell hyg _).setCell hyg _⟩
            case measure => simp [intOf]; omega
          · obtain rfl : m9 = j + 1 := by rw [← hY9.len, List.length_take, hFl.out]; omega
            have hb49 : Below w20.heap.size w20 w9 := FrW.below (FrW.of ‹_› hb9)
            have hzb : BxW ((w9.setCell ⟨w20.heap.size, 0, none⟩ (.int .i64 key)).setCell ⟨w20.heap.size, 1, none⟩ (.slice Y9 (j + 1) q9)) w20.heap.size [.int .i64 key, .slice Y9 (j + 1) q9] := (hz9.put 0 _ (by simp)).put 1 _ (by simp)
            have hne : w20.heap.size ≠ yb := by omega
            have hyz := ((hby4.of hb49).off 0 (.int .i64 key) hne).off 1 (.slice Y9 (j + 1) q9) hne
            have hYz := hY9.set2 hz9 (.int .i64 key) (.slice Y9 (j + 1) q9)
            have hLz : Below w3.heap.size w3 ((w9.setCell ⟨w20.heap.size, 0, none⟩ (.int .i64 key)).setCell ⟨w20.heap.size, 1, none⟩ (.slice Y9 (j + 1) q9)) := ((below_thru hL4 hb49).setCell hs4 _).setCell hs4 _
            obtain ⟨wz, hwz⟩ : ∃ wz, wz = (w9.setCell ⟨w20.heap.size, 0, none⟩ (.int .i64 key)).setCell ⟨w20.heap.size, 1, none⟩ (.slice Y9 (j + 1) q9) := ⟨_, rfl⟩
            rw [← hwz] at hyz hYz hLz hzb ⊢
            obtain ⟨zb, hzbe⟩ : ∃ zb, zb = w20.heap.size := ⟨_, rfl⟩
            rw [← hzbe] at hzb hne ⊢
            clear bx0 bx1 by0 by1 byf0 byf1 u04 hwz hzbe
            obtain ⟨_, z0, z1, -, -⟩ := hzb.open2
            obtain ⟨_, by0, by1, byf0, byf1⟩ := hyz.open2
            go_wp2_with fail
            go_roundw
            case rel => exact ⟨Y9, q9, j + 1, by go_num, by omega, (hyz.put 0 _ (by simp)).put 1 _ (by simp), hYz.set2 hyz _ _, hm9, (hLz.setCell hyg _).setCell hyg _⟩
            case measure => simp [intOf]; omega
        · obtain rfl : j = k := by omega
          have dj : decide ((j : Int) < j) = false := decide_eq_false (by omega)
          have dj' : decide (j < j) = false := decide_eq_false (by omega)
          rw [List.take_of_length_le (by rw [hFl.out]; exact Nat.le_refl _)] at hY
          clear hAt hAd kA kP hb hbx hF
          go_wp2_with fail
          go_at_call 30
          refine (kC _ hF1).mono ?_
          rintro e30 w30 ⟨Z, m, d, rfl, hZ, hmd, hb5⟩
          obtain rfl : m = j := by rw [← hZ.len, hFl.out]
          clear bx0 bx1 by0 by1 byf0 byf1 kC
          replace hF1 := hF1.of hb5
          replace hbx1 := hbx1.of hb5
          replace hby := hby.of hb5
          replace hY := hY.of hb5
          replace hB1 := below_thru hB1 hb5
          clear hb5
          obtain ⟨_, bx0, bx1, -, -⟩ := hbx1.open2
          obtain ⟨_, by0, by1, -, -⟩ := hby.open2
          go_wp2_with fail
          have hcb := BxW.new w30 [.int .i64 key, .slice Z m d] 34
          rw [show ∀ a b : Value, [a, b].toArray = #[a, b] from fun _ _ => rfl] at hcb
          have hal : Below w30.heap.size w30 (w30.alloc (.cells #[.int .i64 key, .slice Z m d] 34)) := (Below.refl _ _).alloc (Nat.le_refl _) _
          obtain ⟨w31, hw31⟩ : ∃ q, q = w30.alloc (.cells #[.int .i64 key, .slice Z m d] 34) := ⟨_, rfl⟩
          obtain ⟨cb, hcbe⟩ : ∃ cb, cb = w30.heap.size := ⟨_, rfl⟩
          rw [← hw31] at hcb hal ⊢
          rw [← hcbe] at hcb ⊢
          clear bx0 bx1 by0 by1 hw31 hcbe
          replace hF1 := hF1.of hal
          replace hbx1 := hbx1.of hal
          replace hby := hby.of hal
          replace hY := hY.of hal
          replace hZ := hZ.of hal
          replace hB1 := below_thru hB1 hal
          clear hal
          obtain ⟨_, bx0, bx1, -, -⟩ := hbx1.open2
          obtain ⟨_, by0, by1, -, -⟩ := hby.open2
          obtain ⟨_, cb0, cb1, -, -⟩ := hcb.open2
          go_at_call 32
          refine (kD _ _ _ hF1 hY).mono ?_
          rintro e32 w32 ⟨G, gm, gc, rfl, -, -, -, hb6⟩
          clear bx0 bx1 by0 by1 cb0 cb1
          replace hbx1 := hbx1.of hb6
          replace hby := hby.of hb6
          replace hcb := hcb.of hb6
          replace hY := hY.of hb6
          replace hZ := hZ.of hb6
          replace hB1 := below_thru hB1 hb6
          clear hb6
          obtain ⟨_, bx0, bx1, -, -⟩ := hbx1.open2
          obtain ⟨_, by0, by1, -, -⟩ := hby.open2
          obtain ⟨_, cb0, cb1, -, -⟩ := hcb.open2
          go_wp2_with fail
          go_at_call 19
          refine (kS _ _ _ _ _ hZ hY).mono ?_
          rintro e33 w33 ⟨rfl, hb6⟩
          clear bx0 bx1 by0 by1 cb0 cb1
          replace hbx1 := hbx1.of hb6
          replace hby := hby.of hb6
          replace hcb := hcb.of hb6
          replace hY := hY.of hb6
          replace hZ := hZ.of hb6
          replace hB1 := below_thru hB1 hb6
          clear hb6
          obtain ⟨_, bx0, bx1, -, -⟩ := hbx1.open2
          obtain ⟨_, by0, by1, -, -⟩ := hby.open2
          obtain ⟨_, cb0, cb1, -, -⟩ := hcb.open2
          go_wp2_with fail
          go_at_call 24
          refine (kT _ _ _ hY).mono ?_
          rintro e34 w34 ⟨rfl, hb6⟩
          clear bx0 bx1 by0 by1 cb0 cb1
          replace hbx1 := hbx1.of hb6
          replace hby := hby.of hb6
          replace hcb := hcb.of hb6
          replace hY := hY.of hb6
          replace hZ := hZ.of hb6
          replace hB1 := below_thru hB1 hb6
          clear hb6
          obtain ⟨_, bx0, bx1, -, -⟩ := hbx1.open2
          obtain ⟨_, by0, by1, -, -⟩ := hby.open2
          obtain ⟨_, cb0, cb1, -, -⟩ := hcb.open2
          go_wp2_with fail
          go_at_call 16
          refine (alive_54 _).mono ?_
          rintro e35 w35 ⟨rfl, hb6⟩
          replace hB1 := below_thru hB1 hb6
          go_wp2_with fail
          go_ret
          exact ⟨rfl, hB1⟩
end Go.Proofs.YtabfefhicfmabaaGreat
