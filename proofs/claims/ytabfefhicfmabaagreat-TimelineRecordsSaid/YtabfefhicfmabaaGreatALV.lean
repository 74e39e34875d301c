/- The fixed examples of chapter 54: each call's answer. The walk of chapter 54's fixed examples. By mkalv54.py. -/
import Derived.Test.YtabfefhicfmabaaGreatTOT
import Derived.Test.YtabfefhicfmabaaGreatTMT
import Derived.Test.YtabfefhicfmabaaGreatTMS
import Derived.Test.YtabfefhicfmabaaGreatTMD
import Derived.Test.YtabfefhicfmabaaGreatTim8
set_option linter.unusedSimpArgs false
set_option linter.unusedVariables false
section
namespace Go.Proofs.YtabfefhicfmabaaGreat
open Go Go.RowKit
set_option maxRecDepth 100000
theorem sm_X : SmT frsX := by intro f hf; simp only [frsX, List.mem_cons, List.not_mem_nil, or_false] at hf; rcases hf with rfl | rfl | rfl <;> (simp [patH, chgV])
theorem sm_Y : SmT frsY := by
  intro f hf
  rcases List.mem_append.1 hf with h | h
  · exact sm_X f h
  · simp only [List.mem_cons, List.not_mem_nil, or_false] at h; subst h; simp
theorem sm_C : SmT frsC := by
  intro f hf
  simp only [frsC, List.mem_cons, List.not_mem_nil, or_false] at hf
  rcases hf with rfl | rfl
  · simp [patV]
  · exact ⟨by simp, by decide +kernel⟩
theorem rd_litG (w : World) (l : List Chg) (cs : Array Value) (n : Nat) (hn : l.length = n) (hm : n ≤ 4611686018427387904) (hcs : cs.toList = l.flatMap encG) : Rd encG 4 (w.alloc (.cells cs 90)) (some ⟨w.heap.size, 0, none⟩) n l := by
  have h := (Own.lit (enc := encG) (k := 4) encG_len w 90 w.heap.size (Nat.le_refl _) l n hn hm cs.toList hcs).rd encG_len
  simpa using h
section
variable {A B D X Y C Q E : Option Addr} {c d e m xc yc cc : Nat} {w : World}
theorem recV (hH : Rd encP 2 w A 9 mooH) (hN : RdX ekN w B m lifeN) (hR : Rd encC 3 w D 3 patH) (he : 3 ≤ e) :
    Calls Tryz.prog 17 #[.agg #[.int .i64 2, .slice A 9 c, .slice B m d], .slice D 3 e, .int .i64 2, .int .i64 2] w fun e w' => ∃ X xc, e = .returned (.tuple #[.agg #[.int .i64 2, .slice X 3 xc], .int .i64 0]) ∧ RdX ekFr w' X 3 frsX ∧ 3 ≤ xc ∧ Below w.heap.size w w' := by
  refine (tl_Record 2 A B D 9 c m d 3 e mooH lifeN patH 2 2 w hH hN hR (by omega) he).mono ?_
  rintro e w' ⟨B', m', d', rfl, h1, h2, h3⟩
  rw [ev54_8] at h1
  obtain rfl : 3 = m' := by rw [← h1.len]; rfl
  rw [show rcK 2 mooH lifeN patH 2 2 = 2 by unfold rcK; rw [ev54_7]; rfl, ev54_7]
  exact ⟨B', d', rfl, h1, h2, h3⟩
theorem atV1 (hF : RdX ekFr w X 3 frsX) :
    Calls Tryz.prog 20 #[.agg #[.int .i64 2, .slice X 3 xc], .int .i64 1] w fun e w' => ∃ Q qc, e = .returned (.tuple #[.slice Q 3 qc, .int .i64 0]) ∧ Rd encC 3 w' Q 3 patV ∧ Below w.heap.size w w' := by
  refine (tl_At 2 X 3 xc frsX 1 w hF sm_X).mono ?_
  rintro e w' ⟨B', m', d', rfl, h1, h2, h3, h4⟩
  rw [ev54_10] at h1
  obtain rfl : 3 = m' := by rw [← h1.len]; rfl
  rw [ev54_9]
  exact ⟨B', d', rfl, h1, h4⟩
theorem atV3 (hF : RdX ekFr w X 3 frsX) :
    Calls Tryz.prog 20 #[.agg #[.int .i64 2, .slice X 3 xc], .int .i64 3] w fun e w' => ∃ Q qm qc, e = .returned (.tuple #[.slice Q qm qc, .int .i64 13]) ∧ Below w.heap.size w w' := by
  refine (tl_At 2 X 3 xc frsX 3 w hF sm_X).mono ?_
  rintro e w' ⟨B', m', d', rfl, h1, h2, h3, h4⟩
  rw [ev54_20]
  exact ⟨B', m', d', rfl, h4⟩
theorem apV1 (hF : RdX ekFr w X 3 frsX) (hx : 3 ≤ xc) (hR : Rd encC 3 w D 3 patH) (he : 3 ≤ e) :
    Calls Tryz.prog 28 #[.agg #[.int .i64 2, .slice X 3 xc], .int .i64 2, .slice D 3 e] w fun e w' => ∃ K B m d, e = .returned (.tuple #[.agg #[.int .i64 K, .slice B m d], .int .i64 9]) ∧ Below w.heap.size w w' := by
  refine (tl_Append 2 X D 3 xc 3 e frsX 2 patH w hF sm_X hx hR (by omega) he).mono ?_
  rintro e w' ⟨B', m', d', rfl, h1, h2, h3⟩
  rw [ev54_11]
  exact ⟨_, B', m', d', rfl, h3⟩
theorem apV2 (hF : RdX ekFr w X 3 frsX) (hx : 3 ≤ xc) (hR : Rd encC 3 w D 3 patH) (he : 3 ≤ e) :
    Calls Tryz.prog 28 #[.agg #[.int .i64 2, .slice X 3 xc], .int .i64 4, .slice D 3 e] w fun e w' => ∃ Y yc, e = .returned (.tuple #[.agg #[.int .i64 2, .slice Y 4 yc], .int .i64 0]) ∧ RdX ekFr w' Y 4 frsY ∧ Below w.heap.size w w' := by
  refine (tl_Append 2 X D 3 xc 3 e frsX 4 patH w hF sm_X hx hR (by omega) he).mono ?_
  rintro e w' ⟨B', m', d', rfl, h1, h2, h3⟩
  rw [ev54_13] at h1
  obtain rfl : 4 = m' := by rw [← h1.len]; rfl
  rw [show adK 2 frsX 4 patH = 2 by unfold adK; rw [ev54_12]; rfl, ev54_12]
  exact ⟨B', d', rfl, h1, h3⟩
theorem cuV (hF : RdX ekFr w X 3 frsX) (hx : 3 ≤ xc) :
    Calls Tryz.prog 30 #[.agg #[.int .i64 2, .slice X 3 xc], .int .i64 1, .int .i64 2] w fun e w' => ∃ C cc, e = .returned (.tuple #[.agg #[.int .i64 2, .slice C 2 cc], .int .i64 0]) ∧ RdX ekFr w' C 2 frsC ∧ Below w.heap.size w w' := by
  refine (tl_Cut 2 X 3 xc frsX 1 2 w hF sm_X hx).mono ?_
  rintro e w' ⟨B', m', d', rfl, h1, h2, h3⟩
  rw [ev54_15] at h1
  obtain rfl : 2 = m' := by rw [← h1.len]; rfl
  rw [show cuK 2 frsX 1 2 = 2 by unfold cuK; rw [ev54_14]; rfl, ev54_14]
  exact ⟨B', d', rfl, h1, h3⟩
theorem dfV (hF : RdX ekFr w X 3 frsX) (hG : RdX ekFr w C 2 frsC) :
    Calls Tryz.prog 32 #[.agg #[.int .i64 2, .slice X 3 xc], .agg #[.int .i64 2, .slice C 2 cc]] w fun e w' => ∃ G gm gc, e = .returned (.tuple #[.int .i64 0, .slice G gm gc, .bool true, .int .i64 0]) ∧ Below w.heap.size w w' := by
  refine (tl_Diff 2 2 X C 3 xc 2 cc frsX frsC w hF hG sm_X sm_C).mono ?_
  rintro e w' ⟨B', m', d', rfl, h1, h2, h3, h4⟩
  rw [ev54_16, ev54_17, ev54_18]
  exact ⟨B', m', d', rfl, h4⟩
theorem foV (hH : Rd encP 2 w A 9 mooH) (hN : RdX ekN w B m lifeN) (hF : RdX ekFr w Y 4 frsY) :
    Calls Tryz.prog 23 #[.agg #[.int .i64 2, .slice A 9 c, .slice B m d], .agg #[.int .i64 2, .slice Y 4 yc]] w fun e w' => e = .returned (.tuple #[.int .i64 (-1), .int .i64 0]) ∧ Below w.heap.size w w' := by
  have h := tl_Follows 2 A B Y 9 c m d 4 yc mooH lifeN 2 frsY w hH hN hF sm_Y
  rw [ev54_19] at h
  exact h
theorem riV (hF : RdX ekFr w X 3 frsX) : Calls Tryz.prog 24 #[.agg #[.int .i64 2, .slice X 3 xc]] w fun e w' => e = .returned (.bool true) ∧ Below w.heap.size w w' := by
  have h := tl_Right 2 X 3 xc frsX w hF sm_X
  rw [ev54_21] at h
  exact h
theorem riV0 : Calls Tryz.prog 24 #[.agg #[.int .i64 0, .slice none 0 0]] w fun e w' => e = .returned (.bool false) ∧ Below w.heap.size w w' := by
  have h := tl_Right 0 none 0 0 [] w RdX.nil_ (by intro f hf; cases hf)
  rw [ev54_22] at h
  exact h
theorem tlS_self (k : Int) (fs : List TFr) : tlS k fs k fs = true := @decide_eq_true _ (Classical.propDecidable _) ⟨rfl, rfl⟩
theorem saV (hF : RdX ekFr w X 3 frsX) : Calls Tryz.prog 35 #[.agg #[.int .i64 2, .slice X 3 xc], .agg #[.int .i64 2, .slice X 3 xc]] w fun e w' => e = .returned (.bool true) ∧ Below w.heap.size w w' := by
  have h := tl_Same 2 2 X X 3 xc 3 xc frsX frsX w hF hF sm_X sm_X (by omega)
  rw [tlS_self] at h
  exact h
theorem saV0 (hF : RdX ekFr w X 3 frsX) (hG : RdX ekFr w Y 4 frsY) : Calls Tryz.prog 35 #[.agg #[.int .i64 2, .slice X 3 xc], .agg #[.int .i64 2, .slice Y 4 yc]] w fun e w' => e = .returned (.bool false) ∧ Below w.heap.size w w' := by
  have h := tl_Same 2 2 X Y 3 xc 4 yc frsX frsY w hF hG sm_X sm_Y (by omega)
  rw [tlS_len (n := 3) (m := 4) rfl rfl (by omega)] at h
  exact h
theorem scV (hR : Rd encG 4 w A 4 chgV) (hS : Rd encG 4 w B 4 chgV) : Calls Tryz.prog 34 #[.slice A 4 c, .slice B 4 d] w fun e w' => e = .returned (.bool true) ∧ Below w.heap.size w w' := by
  have h := ref54_SameChanges A B 4 c 4 d chgV chgV w hR hS (by omega) (by omega)
  rw [show decide (chgV = chgV) = true from decide_eq_true rfl] at h
  exact h
theorem spV (hR : Rd encC 3 w A 3 patV) (hS : Rd encC 3 w B 3 patV) : Calls Tryz.prog 22 #[.slice A 3 c, .slice B 3 d] w fun e w' => e = .returned (.bool true) ∧ Below w.heap.size w w' := by
  have h := ref05_Same A B 3 3 c d patV patV w hR hS (by omega) (by omega)
  rw [show sameL patV patV = true from decide_eq_true rfl] at h
  exact h
end
end Go.Proofs.YtabfefhicfmabaaGreat
end
section
namespace Go.Proofs.YtabfefhicfmabaaGreat
open Go Go.RowKit
set_option maxRecDepth 100000
theorem frm_X {w : World} {X : Option Addr} (h : RdX ekFr w X 3 frsX) : ∃ b o DA dc, X = some ⟨b, o, none⟩ ∧ b < w.heap.size ∧ w.cell? ⟨b, o + 1, none⟩ = some (.bool true) ∧ (w.cell? ⟨b, o + 8 + 1, none⟩ = some (.bool true) ∧ w.cell? ⟨b, o + 9, none⟩ = some (.bool true)) ∧ (w.cell? ⟨b, o + 4 + 3, none⟩ = some (.slice DA 4 dc) ∧ w.cell? ⟨b, o + 7, none⟩ = some (.slice DA 4 dc)) ∧ Rd encG 4 w DA 4 chgV := by
  obtain ⟨g0, fu0, C0, D0, CA0, cn0, cc0, DA0, dn0, dc0, b, o, hx0, rfl, hbl, _, a1, _, _, _, _, _, _⟩ := h.frm (i := 0) (by omega)
  obtain ⟨g1, fu1, C1, D1, CA1, cn1, cc1, DA1, dn1, dc1, b1, o1, hx1, he1, _, _, _, _, a2, _, _, hD, _⟩ := h.frm (i := 1) (by omega)
  obtain ⟨g2, fu2, C2, D2, CA2, cn2, cc2, DA2, dn2, dc2, b2, o2, hx2, he2, _, _, a3, _, _, _, _, _, _⟩ := h.frm (i := 2) (by omega)
  injection he1 with he1
  injection he1 with e1 e2
  injection he2 with he2
  injection he2 with e3 e4
  subst e1 e2 e3 e4
  have q0 : fu0 = true := by have := hx0.out; simp [frsX] at this; exact this.2.1
  have q1 : D1 = chgV := by have := hx1.out; simp [frsX] at this; exact this.2.2.2.symm
  have q2 : fu2 = true := by have := hx2.out; simp [frsX] at this; exact this.2.1
  subst q0 q1 q2
  obtain rfl : dn1 = 4 := by rw [← hD.len]; rfl
  exact ⟨b, o, DA1, dc1, rfl, hbl, by simpa using a1, ⟨a3, a3⟩, ⟨a2, a2⟩, hD⟩
set_option maxHeartbeats 32000000 in
theorem alive_54 (w : World) : Calls Tryz.prog 16 #[] w fun e w' => e = .returned (.bool true) ∧ Below w.heap.size w w' := by
  go_enter Tryz.func16, Tryz.ntmps16
  go_wp2_with fail
  have hB : Below w.heap.size w w := Below.refl _ _
  go_at_call 60
  refine (ref_Moore1 _).mono ?_
  rintro e1 w1 ⟨A, c, rfl, hH, hb1⟩
  replace hB := below_thru hB hb1
  clear hb1
  go_wp2_with fail
  have l1 := (rd_litI w1 [3] #[.int .i64 3] 1 rfl (by omega) rfl).of ((Below.refl _ _).alloc (Nat.le_refl _) (.cells #[.int .i64 2, .int .i64 3] 3))
  have l2 := rd_litI (w1.alloc (.cells #[.int .i64 3] 3)) [2, 3] #[.int .i64 2, .int .i64 3] 2 rfl (by omega) rfl
  have hal : Below w1.heap.size w1 ((w1.alloc (.cells #[.int .i64 3] 3)).alloc (.cells #[.int .i64 2, .int .i64 3] 3)) := ((Below.refl _ _).alloc (Nat.le_refl _) _).alloc (by simp) _
  rw [World.size_alloc] at l2
  obtain ⟨w2, hw2⟩ : ∃ w2, w2 = (w1.alloc (.cells #[.int .i64 3] 3)).alloc (.cells #[.int .i64 2, .int .i64 3] 3) := ⟨_, rfl⟩
  rw [← hw2] at l1 l2 hal ⊢
  clear hw2
  replace hH := hH.of hal
  replace hB := below_thru hB hal
  clear hal
  go_at_call 59
  refine (ref14_Totals A _ _ c _ _ _ hH l1 l2).mono ?_
  rintro e3 w3 ⟨N, nm, nc, rfl, hH, hN, hb3⟩
  replace hB := below_thru hB hb3
  clear hb3
  clear l1 l2
  go_wp2_with fail
  have hbt := (TrAt.new w3 (.int .i64 2) (.slice A 9 c) (.slice N nm nc) 25).of ((Below.refl _ _).alloc (Nat.le_refl _) (.cells #[.int .i64 0, .int .i64 0, .int .i64 1, .int .i64 1, .int .i64 0, .int .i64 1, .int .i64 2, .int .i64 0, .int .i64 1] 88))
  have lp := rd_litC (w3.alloc (.cells #[.int .i64 2, .slice A 9 c, .slice N nm nc] 25)) patH #[.int .i64 0, .int .i64 0, .int .i64 1, .int .i64 1, .int .i64 0, .int .i64 1, .int .i64 2, .int .i64 0, .int .i64 1] 3 rfl (by omega) rfl
  have hal : Below w3.heap.size w3 ((w3.alloc (.cells #[.int .i64 2, .slice A 9 c, .slice N nm nc] 25)).alloc (.cells #[.int .i64 0, .int .i64 0, .int .i64 1, .int .i64 1, .int .i64 0, .int .i64 1, .int .i64 2, .int .i64 0, .int .i64 1] 88)) := ((Below.refl _ _).alloc (Nat.le_refl _) _).alloc (by simp) _
  rw [World.size_alloc] at lp
  obtain ⟨w4, hw4⟩ : ∃ w4, w4 = (w3.alloc (.cells #[.int .i64 2, .slice A 9 c, .slice N nm nc] 25)).alloc (.cells #[.int .i64 0, .int .i64 0, .int .i64 1, .int .i64 1, .int .i64 0, .int .i64 1, .int .i64 2, .int .i64 0, .int .i64 1] 88) := ⟨_, rfl⟩
  obtain ⟨tb, htb⟩ : ∃ tb, tb = w3.heap.size := ⟨_, rfl⟩
  rw [← hw4] at hbt lp hal ⊢
  rw [← htb] at hbt lp ⊢
  obtain ⟨pb, hpb⟩ : ∃ pb, pb = tb + 1 := ⟨_, rfl⟩
  rw [← hpb] at lp ⊢
  clear hw4 htb hpb
  replace hH := hH.of hal
  replace hN := hN.of hal
  replace hB := below_thru hB hal
  clear hal
  have ⟨_, bt0, bt1, bt2⟩ := hbt
  go_at_call 17
  refine (recV hH hN lp (by omega)).mono ?_
  rintro e5 w5 ⟨X, xc, rfl, hX, hxc, hb5⟩
  clear bt0 bt1 bt2
  replace hH := hH.of hb5
  replace hN := hN.of hb5
  replace lp := lp.of hb5
  replace hbt := hbt.of hb5
  replace hB := below_thru hB hb5
  clear hb5
  have ⟨_, bt0, bt1, bt2⟩ := hbt
  go_wp2_with fail
  clear bt0 bt1 bt2
  have hbx := BxW.new w5 [.int .i64 2, .slice X 3 xc] 34
  rw [show ∀ a b : Value, [a, b].toArray = #[a, b] from fun _ _ => rfl] at hbx
  have hal : Below w5.heap.size w5 (w5.alloc (.cells #[.int .i64 2, .slice X 3 xc] 34)) := (Below.refl _ _).alloc (Nat.le_refl _) _
  obtain ⟨wn, hwn⟩ : ∃ wn, wn = w5.alloc (.cells #[.int .i64 2, .slice X 3 xc] 34) := ⟨_, rfl⟩
  obtain ⟨bxb, hn⟩ : ∃ bxb, bxb = w5.heap.size := ⟨_, rfl⟩
  rw [← hwn] at hbx hal ⊢
  rw [← hn] at hbx ⊢
  replace hH := hH.of hal
  replace hN := hN.of hal
  replace lp := lp.of hal
  replace hX := hX.of hal
  replace hbt := hbt.of hal
  replace hB := below_thru hB hal
  clear hwn hn hal
  obtain ⟨w6, hwn⟩ : ∃ w6, w6 = wn := ⟨_, rfl⟩
  subst hwn
  have ⟨_, bt0, bt1, bt2⟩ := hbt
  have ⟨_, bx0, bx1, bxf0, bxf1⟩ := hbx.open2
  go_at_call 20
  refine (atV1 hX).mono ?_
  rintro e7 w7 ⟨Q, qc, rfl, hQ, hb7⟩
  clear bt0 bt1 bt2
  clear bx0 bx1 bxf0 bxf1
  replace hH := hH.of hb7
  replace hN := hN.of hb7
  replace lp := lp.of hb7
  replace hX := hX.of hb7
  replace hbt := hbt.of hb7
  replace hbx := hbx.of hb7
  replace hB := below_thru hB hb7
  clear hb7
  have ⟨_, bt0, bt1, bt2⟩ := hbt
  have ⟨_, bx0, bx1, bxf0, bxf1⟩ := hbx.open2
  go_wp2_with fail
  go_at_call 28
  refine (apV1 hX hxc lp (by omega)).mono ?_
  rintro e8 w8 ⟨K9, B9, m9, d9, rfl, hb8⟩
  clear bt0 bt1 bt2
  clear bx0 bx1 bxf0 bxf1
  replace hH := hH.of hb8
  replace hN := hN.of hb8
  replace lp := lp.of hb8
  replace hX := hX.of hb8
  replace hQ := hQ.of hb8
  replace hbt := hbt.of hb8
  replace hbx := hbx.of hb8
  replace hB := below_thru hB hb8
  clear hb8
  have ⟨_, bt0, bt1, bt2⟩ := hbt
  have ⟨_, bx0, bx1, bxf0, bxf1⟩ := hbx.open2
  go_wp2_with fail
  clear bt0 bt1 bt2
  clear bx0 bx1 bxf0 bxf1
  have hbz := BxW.new w8 [.int .i64 K9, .slice B9 m9 d9] 34
  rw [show ∀ a b : Value, [a, b].toArray = #[a, b] from fun _ _ => rfl] at hbz
  have hal : Below w8.heap.size w8 (w8.alloc (.cells #[.int .i64 K9, .slice B9 m9 d9] 34)) := (Below.refl _ _).alloc (Nat.le_refl _) _
  obtain ⟨wn, hwn⟩ : ∃ wn, wn = w8.alloc (.cells #[.int .i64 K9, .slice B9 m9 d9] 34) := ⟨_, rfl⟩
  obtain ⟨bzb, hn⟩ : ∃ bzb, bzb = w8.heap.size := ⟨_, rfl⟩
  rw [← hwn] at hbz hal ⊢
  rw [← hn] at hbz ⊢
  replace hH := hH.of hal
  replace hN := hN.of hal
  replace lp := lp.of hal
  replace hX := hX.of hal
  replace hQ := hQ.of hal
  replace hbt := hbt.of hal
  replace hbx := hbx.of hal
  replace hB := below_thru hB hal
  clear hwn hn hal
  obtain ⟨w9, hwn⟩ : ∃ w9, w9 = wn := ⟨_, rfl⟩
  subst hwn
  clear hbz
  have ⟨_, bt0, bt1, bt2⟩ := hbt
  have ⟨_, bx0, bx1, bxf0, bxf1⟩ := hbx.open2
  go_at_call 28
  refine (apV2 hX hxc lp (by omega)).mono ?_
  rintro e10 w10 ⟨Y, yc, rfl, hY, hb10⟩
  clear bt0 bt1 bt2
  clear bx0 bx1 bxf0 bxf1
  replace hH := hH.of hb10
  replace hN := hN.of hb10
  replace lp := lp.of hb10
  replace hX := hX.of hb10
  replace hQ := hQ.of hb10
  replace hbt := hbt.of hb10
  replace hbx := hbx.of hb10
  replace hB := below_thru hB hb10
  clear hb10
  have ⟨_, bt0, bt1, bt2⟩ := hbt
  have ⟨_, bx0, bx1, bxf0, bxf1⟩ := hbx.open2
  go_wp2_with fail
  clear bt0 bt1 bt2
  clear bx0 bx1 bxf0 bxf1
  have hby := BxW.new w10 [.int .i64 2, .slice Y 4 yc] 34
  rw [show ∀ a b : Value, [a, b].toArray = #[a, b] from fun _ _ => rfl] at hby
  have hal : Below w10.heap.size w10 (w10.alloc (.cells #[.int .i64 2, .slice Y 4 yc] 34)) := (Below.refl _ _).alloc (Nat.le_refl _) _
  obtain ⟨wn, hwn⟩ : ∃ wn, wn = w10.alloc (.cells #[.int .i64 2, .slice Y 4 yc] 34) := ⟨_, rfl⟩
  obtain ⟨byb, hn⟩ : ∃ byb, byb = w10.heap.size := ⟨_, rfl⟩
  rw [← hwn] at hby hal ⊢
  rw [← hn] at hby ⊢
  replace hH := hH.of hal
  replace hN := hN.of hal
  replace lp := lp.of hal
  replace hX := hX.of hal
  replace hQ := hQ.of hal
  replace hY := hY.of hal
  replace hbt := hbt.of hal
  replace hbx := hbx.of hal
  replace hB := below_thru hB hal
  clear hwn hn hal
  obtain ⟨w11, hwn⟩ : ∃ w11, w11 = wn := ⟨_, rfl⟩
  subst hwn
  have ⟨_, bt0, bt1, bt2⟩ := hbt
  have ⟨_, bx0, bx1, bxf0, bxf1⟩ := hbx.open2
  have ⟨_, by0, by1, byf0, byf1⟩ := hby.open2
  go_at_call 30
  refine (cuV hX hxc).mono ?_
  rintro e12 w12 ⟨C, cc, rfl, hC, hb12⟩
  clear bt0 bt1 bt2
  clear bx0 bx1 bxf0 bxf1
  clear by0 by1 byf0 byf1
  replace hH := hH.of hb12
  replace hN := hN.of hb12
  replace lp := lp.of hb12
  replace hX := hX.of hb12
  replace hQ := hQ.of hb12
  replace hY := hY.of hb12
  replace hbt := hbt.of hb12
  replace hbx := hbx.of hb12
  replace hby := hby.of hb12
  replace hB := below_thru hB hb12
  clear hb12
  have ⟨_, bt0, bt1, bt2⟩ := hbt
  have ⟨_, bx0, bx1, bxf0, bxf1⟩ := hbx.open2
  have ⟨_, by0, by1, byf0, byf1⟩ := hby.open2
  go_wp2_with fail
  clear bt0 bt1 bt2
  clear bx0 bx1 bxf0 bxf1
  clear by0 by1 byf0 byf1
  have hbc := BxW.new w12 [.int .i64 2, .slice C 2 cc] 34
  rw [show ∀ a b : Value, [a, b].toArray = #[a, b] from fun _ _ => rfl] at hbc
  have hal : Below w12.heap.size w12 (w12.alloc (.cells #[.int .i64 2, .slice C 2 cc] 34)) := (Below.refl _ _).alloc (Nat.le_refl _) _
  obtain ⟨wn, hwn⟩ : ∃ wn, wn = w12.alloc (.cells #[.int .i64 2, .slice C 2 cc] 34) := ⟨_, rfl⟩
  obtain ⟨bcb, hn⟩ : ∃ bcb, bcb = w12.heap.size := ⟨_, rfl⟩
  rw [← hwn] at hbc hal ⊢
  rw [← hn] at hbc ⊢
  replace hH := hH.of hal
  replace hN := hN.of hal
  replace lp := lp.of hal
  replace hX := hX.of hal
  replace hQ := hQ.of hal
  replace hY := hY.of hal
  replace hC := hC.of hal
  replace hbt := hbt.of hal
  replace hbx := hbx.of hal
  replace hby := hby.of hal
  replace hB := below_thru hB hal
  clear hwn hn hal
  obtain ⟨w13, hwn⟩ : ∃ w13, w13 = wn := ⟨_, rfl⟩
  subst hwn
  have ⟨_, bt0, bt1, bt2⟩ := hbt
  have ⟨_, bx0, bx1, bxf0, bxf1⟩ := hbx.open2
  have ⟨_, by0, by1, byf0, byf1⟩ := hby.open2
  have ⟨_, bc0, bc1, bcf0, bcf1⟩ := hbc.open2
  go_at_call 32
  refine (dfV hX hC).mono ?_
  rintro e14 w14 ⟨G, gm, gc, rfl, hb14⟩
  clear bt0 bt1 bt2
  clear bx0 bx1 bxf0 bxf1
  clear by0 by1 byf0 byf1
  clear bc0 bc1 bcf0 bcf1
  replace hH := hH.of hb14
  replace hN := hN.of hb14
  replace lp := lp.of hb14
  replace hX := hX.of hb14
  replace hQ := hQ.of hb14
  replace hY := hY.of hb14
  replace hC := hC.of hb14
  replace hbt := hbt.of hb14
  replace hbx := hbx.of hb14
  replace hby := hby.of hb14
  replace hbc := hbc.of hb14
  replace hB := below_thru hB hb14
  clear hb14
  have ⟨_, bt0, bt1, bt2⟩ := hbt
  have ⟨_, bx0, bx1, bxf0, bxf1⟩ := hbx.open2
  have ⟨_, by0, by1, byf0, byf1⟩ := hby.open2
  have ⟨_, bc0, bc1, bcf0, bcf1⟩ := hbc.open2
  go_wp2_with fail
  go_at_call 23
  refine (foV hH hN hY).mono ?_
  rintro e15 w15 ⟨rfl, hb15⟩
  clear bt0 bt1 bt2
  clear bx0 bx1 bxf0 bxf1
  clear by0 by1 byf0 byf1
  clear bc0 bc1 bcf0 bcf1
  replace hH := hH.of hb15
  replace hN := hN.of hb15
  replace lp := lp.of hb15
  replace hX := hX.of hb15
  replace hQ := hQ.of hb15
  replace hY := hY.of hb15
  replace hC := hC.of hb15
  replace hbt := hbt.of hb15
  replace hbx := hbx.of hb15
  replace hby := hby.of hb15
  replace hbc := hbc.of hb15
  replace hB := below_thru hB hb15
  clear hb15
  have ⟨_, bt0, bt1, bt2⟩ := hbt
  have ⟨_, bx0, bx1, bxf0, bxf1⟩ := hbx.open2
  have ⟨_, by0, by1, byf0, byf1⟩ := hby.open2
  have ⟨_, bc0, bc1, bcf0, bcf1⟩ := hbc.open2
  go_wp2_with fail
  go_at_call 20
  refine (atV3 hX).mono ?_
  rintro e16 w16 ⟨Q3, qm, qc3, rfl, hb16⟩
  clear bt0 bt1 bt2
  clear bx0 bx1 bxf0 bxf1
  clear by0 by1 byf0 byf1
  clear bc0 bc1 bcf0 bcf1
  replace hH := hH.of hb16
  replace hN := hN.of hb16
  replace lp := lp.of hb16
  replace hX := hX.of hb16
  replace hQ := hQ.of hb16
  replace hY := hY.of hb16
  replace hC := hC.of hb16
  replace hbt := hbt.of hb16
  replace hbx := hbx.of hb16
  replace hby := hby.of hb16
  replace hbc := hbc.of hb16
  replace hB := below_thru hB hb16
  clear hb16
  obtain ⟨xo, oo, DA, dc, rfl, hxo, f1, f2, f3, hDc⟩ := frm_X hX
  obtain ⟨ff1, ff2⟩ := f2
  obtain ⟨ff3, ff4⟩ := f3
  have ⟨_, bt0, bt1, bt2⟩ := hbt
  have ⟨_, bx0, bx1, bxf0, bxf1⟩ := hbx.open2
  have ⟨_, by0, by1, byf0, byf1⟩ := hby.open2
  have ⟨_, bc0, bc1, bcf0, bcf1⟩ := hbc.open2
  go_wp2_with fail
  clear bt0 bt1 bt2
  clear bx0 bx1 bxf0 bxf1
  clear by0 by1 byf0 byf1
  clear bc0 bc1 bcf0 bcf1
  have lg := rd_litG w16 chgV #[.int .i64 1, .int .i64 (-1), .int .i64 0, .int .i64 1, .int .i64 0, .int .i64 0, .int .i64 1, .int .i64 0, .int .i64 2, .int .i64 0, .int .i64 1, .int .i64 0, .int .i64 1, .int .i64 1, .int .i64 0, .int .i64 1] 4 rfl (by omega) rfl
  have hal : Below w16.heap.size w16 (w16.alloc (.cells #[.int .i64 1, .int .i64 (-1), .int .i64 0, .int .i64 1, .int .i64 0, .int .i64 0, .int .i64 1, .int .i64 0, .int .i64 2, .int .i64 0, .int .i64 1, .int .i64 0, .int .i64 1, .int .i64 1, .int .i64 0, .int .i64 1] 90)) := (Below.refl _ _).alloc (Nat.le_refl _) _
  obtain ⟨wn, hwn⟩ : ∃ wn, wn = w16.alloc (.cells #[.int .i64 1, .int .i64 (-1), .int .i64 0, .int .i64 1, .int .i64 0, .int .i64 0, .int .i64 1, .int .i64 0, .int .i64 2, .int .i64 0, .int .i64 1, .int .i64 0, .int .i64 1, .int .i64 1, .int .i64 0, .int .i64 1] 90) := ⟨_, rfl⟩
  rw [← hwn] at lg hal ⊢
  clear hwn f1 ff1 ff2 ff3 ff4
  replace hH := hH.of hal
  replace hN := hN.of hal
  replace lp := lp.of hal
  replace hX := hX.of hal
  replace hQ := hQ.of hal
  replace hY := hY.of hal
  replace hC := hC.of hal
  replace hDc := hDc.of hal
  replace hbt := hbt.of hal
  replace hbx := hbx.of hal
  replace hby := hby.of hal
  replace hbc := hbc.of hal
  replace hB := below_thru hB hal
  clear hal
  have ⟨_, bt0, bt1, bt2⟩ := hbt
  have ⟨_, bx0, bx1, bxf0, bxf1⟩ := hbx.open2
  have ⟨_, by0, by1, byf0, byf1⟩ := hby.open2
  have ⟨_, bc0, bc1, bcf0, bcf1⟩ := hbc.open2
  go_at_call 34
  refine (scV hDc lg).mono ?_
  rintro e17 w17 ⟨rfl, hb17⟩
  clear bt0 bt1 bt2
  clear bx0 bx1 bxf0 bxf1
  clear by0 by1 byf0 byf1
  clear bc0 bc1 bcf0 bcf1
  replace hH := hH.of hb17
  replace hN := hN.of hb17
  replace lp := lp.of hb17
  replace hX := hX.of hb17
  replace hQ := hQ.of hb17
  replace hY := hY.of hb17
  replace hC := hC.of hb17
  replace hDc := hDc.of hb17
  replace hbt := hbt.of hb17
  replace hbx := hbx.of hb17
  replace hby := hby.of hb17
  replace hbc := hbc.of hb17
  replace hB := below_thru hB hb17
  clear hb17
  have ⟨_, bt0, bt1, bt2⟩ := hbt
  have ⟨_, bx0, bx1, bxf0, bxf1⟩ := hbx.open2
  have ⟨_, by0, by1, byf0, byf1⟩ := hby.open2
  have ⟨_, bc0, bc1, bcf0, bcf1⟩ := hbc.open2
  go_wp2_with fail
  clear bt0 bt1 bt2
  clear bx0 bx1 bxf0 bxf1
  clear by0 by1 byf0 byf1
  clear bc0 bc1 bcf0 bcf1
  have lv := rd_litC w17 patV #[.int .i64 1, .int .i64 (-1), .int .i64 1, .int .i64 1, .int .i64 0, .int .i64 1, .int .i64 1, .int .i64 1, .int .i64 1] 3 rfl (by omega) rfl
  have hal : Below w17.heap.size w17 (w17.alloc (.cells #[.int .i64 1, .int .i64 (-1), .int .i64 1, .int .i64 1, .int .i64 0, .int .i64 1, .int .i64 1, .int .i64 1, .int .i64 1] 88)) := (Below.refl _ _).alloc (Nat.le_refl _) _
  obtain ⟨wn2, hwn⟩ : ∃ wn, wn = w17.alloc (.cells #[.int .i64 1, .int .i64 (-1), .int .i64 1, .int .i64 1, .int .i64 0, .int .i64 1, .int .i64 1, .int .i64 1, .int .i64 1] 88) := ⟨_, rfl⟩
  rw [← hwn] at lv hal ⊢
  clear hwn
  replace hH := hH.of hal
  replace hN := hN.of hal
  replace lp := lp.of hal
  replace hX := hX.of hal
  replace hQ := hQ.of hal
  replace hY := hY.of hal
  replace hC := hC.of hal
  replace hDc := hDc.of hal
  replace hbt := hbt.of hal
  replace hbx := hbx.of hal
  replace hby := hby.of hal
  replace hbc := hbc.of hal
  replace hB := below_thru hB hal
  clear hal
  have ⟨_, bt0, bt1, bt2⟩ := hbt
  have ⟨_, bx0, bx1, bxf0, bxf1⟩ := hbx.open2
  have ⟨_, by0, by1, byf0, byf1⟩ := hby.open2
  have ⟨_, bc0, bc1, bcf0, bcf1⟩ := hbc.open2
  go_at_call 22
  refine (spV hQ lv).mono ?_
  rintro e18 w18 ⟨rfl, hb18⟩
  clear bt0 bt1 bt2
  clear bx0 bx1 bxf0 bxf1
  clear by0 by1 byf0 byf1
  clear bc0 bc1 bcf0 bcf1
  replace hH := hH.of hb18
  replace hN := hN.of hb18
  replace lp := lp.of hb18
  replace hX := hX.of hb18
  replace hQ := hQ.of hb18
  replace hY := hY.of hb18
  replace hC := hC.of hb18
  replace hDc := hDc.of hb18
  replace hbt := hbt.of hb18
  replace hbx := hbx.of hb18
  replace hby := hby.of hb18
  replace hbc := hbc.of hb18
  replace hB := below_thru hB hb18
  clear hb18
  have ⟨_, bt0, bt1, bt2⟩ := hbt
  have ⟨_, bx0, bx1, bxf0, bxf1⟩ := hbx.open2
  have ⟨_, by0, by1, byf0, byf1⟩ := hby.open2
  have ⟨_, bc0, bc1, bcf0, bcf1⟩ := hbc.open2
  go_wp2_with fail
  go_at_call 24
  refine (riV hX).mono ?_
  rintro e19 w19 ⟨rfl, hb19⟩
  clear bt0 bt1 bt2
  clear bx0 bx1 bxf0 bxf1
  clear by0 by1 byf0 byf1
  clear bc0 bc1 bcf0 bcf1
  replace hH := hH.of hb19
  replace hN := hN.of hb19
  replace lp := lp.of hb19
  replace hX := hX.of hb19
  replace hQ := hQ.of hb19
  replace hY := hY.of hb19
  replace hC := hC.of hb19
  replace hDc := hDc.of hb19
  replace hbt := hbt.of hb19
  replace hbx := hbx.of hb19
  replace hby := hby.of hb19
  replace hbc := hbc.of hb19
  replace hB := below_thru hB hb19
  clear hb19
  have ⟨_, bt0, bt1, bt2⟩ := hbt
  have ⟨_, bx0, bx1, bxf0, bxf1⟩ := hbx.open2
  have ⟨_, by0, by1, byf0, byf1⟩ := hby.open2
  have ⟨_, bc0, bc1, bcf0, bcf1⟩ := hbc.open2
  go_wp2_with fail
  go_at_call 24
  refine (riV0).mono ?_
  rintro e20 w20 ⟨rfl, hb20⟩
  clear bt0 bt1 bt2
  clear bx0 bx1 bxf0 bxf1
  clear by0 by1 byf0 byf1
  clear bc0 bc1 bcf0 bcf1
  replace hH := hH.of hb20
  replace hN := hN.of hb20
  replace lp := lp.of hb20
  replace hX := hX.of hb20
  replace hQ := hQ.of hb20
  replace hY := hY.of hb20
  replace hC := hC.of hb20
  replace hDc := hDc.of hb20
  replace hbt := hbt.of hb20
  replace hbx := hbx.of hb20
  replace hby := hby.of hb20
  replace hbc := hbc.of hb20
  replace hB := below_thru hB hb20
  clear hb20
  have ⟨_, bt0, bt1, bt2⟩ := hbt
  have ⟨_, bx0, bx1, bxf0, bxf1⟩ := hbx.open2
  have ⟨_, by0, by1, byf0, byf1⟩ := hby.open2
  have ⟨_, bc0, bc1, bcf0, bcf1⟩ := hbc.open2
  go_wp2_with fail
  go_at_call 35
  refine (saV hX).mono ?_
  rintro e21 w21 ⟨rfl, hb21⟩
  clear bt0 bt1 bt2
  clear bx0 bx1 bxf0 bxf1
  clear by0 by1 byf0 byf1
  clear bc0 bc1 bcf0 bcf1
  replace hH := hH.of hb21
  replace hN := hN.of hb21
  replace lp := lp.of hb21
  replace hX := hX.of hb21
  replace hQ := hQ.of hb21
  replace hY := hY.of hb21
  replace hC := hC.of hb21
  replace hDc := hDc.of hb21
  replace hbt := hbt.of hb21
  replace hbx := hbx.of hb21
  replace hby := hby.of hb21
  replace hbc := hbc.of hb21
  replace hB := below_thru hB hb21
  clear hb21
  have ⟨_, bt0, bt1, bt2⟩ := hbt
  have ⟨_, bx0, bx1, bxf0, bxf1⟩ := hbx.open2
  have ⟨_, by0, by1, byf0, byf1⟩ := hby.open2
  have ⟨_, bc0, bc1, bcf0, bcf1⟩ := hbc.open2
  go_wp2_with fail
  go_at_call 35
  refine (saV0 hX hY).mono ?_
  rintro e22 w22 ⟨rfl, hb22⟩
  clear bt0 bt1 bt2
  clear bx0 bx1 bxf0 bxf1
  clear by0 by1 byf0 byf1
  clear bc0 bc1 bcf0 bcf1
  replace hH := hH.of hb22
  replace hN := hN.of hb22
  replace lp := lp.of hb22
  replace hX := hX.of hb22
  replace hQ := hQ.of hb22
  replace hY := hY.of hb22
  replace hC := hC.of hb22
  replace hDc := hDc.of hb22
  replace hbt := hbt.of hb22
  replace hbx := hbx.of hb22
  replace hby := hby.of hb22
  replace hbc := hbc.of hb22
  replace hB := below_thru hB hb22
  clear hb22
  go_wp2_with fail
  go_ret
  exact ⟨rfl, hB⟩
end Go.Proofs.YtabfefhicfmabaaGreat
end
