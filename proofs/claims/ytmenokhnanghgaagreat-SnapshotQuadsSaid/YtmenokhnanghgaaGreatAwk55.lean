/- Chapter 55's fixed examples: awake. By mkawk55.py. -/
import Derived.Test.YtmenokhnanghgaaGreatBckP
import Derived.Test.YtmenokhnanghgaaGreatRfS
import Derived.Test.YtmenokhnanghgaaGreatRfV
import Derived.Test.YtmenokhnanghgaaGreatSRT
import Derived.Test.YtmenokhnanghgaaGreatCEL
namespace Go.Proofs.YtmenokhnanghgaaGreat
open Go Go.RowKit
set_option linter.unusedSimpArgs false
set_option linter.unusedVariables false
set_option maxRecDepth 100000
set_option linter.unusedSimpArgs false
set_option linter.unusedVariables false
theorem rd_litU (w : World) (l : List Int) (cs : Array Value) (n : Nat) (hn : l.length = n) (hm : n ≤ 4611686018427387904) (hcs : cs.toList = l.flatMap encU) : Rd encU 1 (w.alloc (.cells cs 5)) (some ⟨w.heap.size, 0, none⟩) n l := by
  have h := (Own.lit encU_len w 5 0 (Nat.zero_le _) l n hn hm cs.toList hcs).rd encU_len
  simpa using h
theorem rd_litQ (w : World) (l : List Qd) (cs : Array Value) (n : Nat) (hn : l.length = n) (hm : n ≤ 4611686018427387904) (hcs : cs.toList = l.flatMap encQd) : Rd encQd 4 (w.alloc (.cells cs 69)) (some ⟨w.heap.size, 0, none⟩) n l := by
  have h := (Own.lit encQd_len w 69 0 (Nat.zero_le _) l n hn hm cs.toList hcs).rd encQd_len
  simpa using h
theorem rd_litH (w : World) (l : List Chg) (cs : Array Value) (n : Nat) (hn : l.length = n) (hm : n ≤ 4611686018427387904) (hcs : cs.toList = l.flatMap encG) : Rd encG 4 (w.alloc (.cells cs 74)) (some ⟨w.heap.size, 0, none⟩) n l := by
  have h := (Own.lit encG_len w 74 0 (Nat.zero_le _) l n hn hm cs.toList hcs).rd encG_len
  simpa using h
theorem rdx_fr2 (w : World) (PA GA : Option Addr) (h1 : Rd encC 3 w PA 2 twoC) (h2 : Rd encG 4 w GA 1 [(0, 0, 1, 0)]) :
    RdX ekFr (w.alloc (.cells #[.int .i64 0, .bool true, .slice PA 2 2, .slice none 0 0, .int .i64 3, .bool false, .slice none 0 0, .slice GA 1 1] 72)) (some ⟨w.heap.size, 0, none⟩) 2 frsS := by
  have hal : Below w.heap.size w (w.alloc (.cells #[.int .i64 0, .bool true, .slice PA 2 2, .slice none 0 0, .int .i64 3, .bool false, .slice none 0 0, .slice GA 1 1] 72)) := (Below.refl _ _).alloc (Nat.le_refl _) _
  refine ⟨[(0, true, (PA, 2, 2), (none, 0, 0)), (3, false, (none, 0, 0), (GA, 1, 1))], (Own.lit encFr_len w 72 0 (Nat.zero_le _) _ 2 rfl (by omega) _ rfl).rd encFr_len, rfl, ?_⟩
  intro i a b ha hb
  rcases i with _ | _ | i
  · simp at ha
    have hb' : b = (0, true, twoC, []) := by simpa [frsS] using hb.symm
    subst ha hb'
    exact ⟨rfl, rfl, ⟨h1.of hal, Nat.le_refl _⟩, Rd.nil_, Nat.le_refl _⟩
  · simp at ha
    have hb' : b = (3, false, [], [(0, 0, 1, 0)]) := by simpa [frsS] using hb.symm
    subst ha hb'
    exact ⟨rfl, rfl, ⟨Rd.nil_, Nat.le_refl _⟩, h2.of hal, Nat.le_refl _⟩
  · simp at ha
theorem smT_frs : SmT frsS := by
  intro f hf
  simp only [frsS, List.mem_cons, List.not_mem_nil, or_false] at hf
  rcases hf with rfl | rfl <;> exact ⟨by decide, by decide⟩
theorem tlS_selfA (key : Int) (fs : List TFr) : tlS key fs key fs = true := @decide_eq_true _ (Classical.propDecidable _) ⟨rfl, rfl⟩
theorem sameL_selfA (l : List Cel) : sameL l l = true := by unfold sameL; exact decide_eq_true rfl
section
variable {w : World} {A B : Option Addr} {n m c d : Nat}
theorem patV0 (w : World) : Calls Tryz.prog 10 #[.slice none 0 0] w fun e w' => ∃ A' n' c', e = .returned (.tuple #[.slice A' n' c', .int .i64 0]) ∧ Rd encU 1 w' A' n' [17, 128] ∧ Below w.heap.size w w' := by
  have h := snp_Pattern none 0 0 [] w Rd.nil_ (by omega)
  rwa [ev_p0.1, ev_p0.2] at h
theorem patV1 (hR : Rd encC 3 w A 2 twoC) : Calls Tryz.prog 10 #[.slice A 2 c] w fun e w' => ∃ A' n' c', e = .returned (.tuple #[.slice A' n' c', .int .i64 0]) ∧ Rd encU 1 w' A' n' [17, 121, 200] ∧ Below w.heap.size w w' := by
  have h := snp_Pattern A 2 c twoC w hR (by omega)
  rwa [ev_p1.1, ev_p1.2] at h
theorem takV3 (hR : Rd encU 1 w A 2 [18, 128]) : Calls Tryz.prog 12 #[.slice A 2 c] w fun e w' => ∃ OA on oc, e = .returned (.tuple #[.slice OA on oc, .int .i64 3]) ∧ Below w.heap.size w w' := by
  have h := snp_TakePattern A 2 c [18, 128] w hR (by unfold ByL; decide) (by omega)
  rw [ev55_3] at h
  refine h.mono ?_
  rintro e w' ⟨OA, on, oc, rfl, _, hb⟩
  exact ⟨OA, on, oc, rfl, hb⟩
theorem takV4 (hR : Rd encU 1 w A 1 [17]) : Calls Tryz.prog 12 #[.slice A 1 c] w fun e w' => ∃ OA on oc, e = .returned (.tuple #[.slice OA on oc, .int .i64 4]) ∧ Below w.heap.size w w' := by
  have h := snp_TakePattern A 1 c [17] w hR (by unfold ByL; decide) (by omega)
  rw [ev55_4] at h
  refine h.mono ?_
  rintro e w' ⟨OA, on, oc, rfl, _, hb⟩
  exact ⟨OA, on, oc, rfl, hb⟩
theorem takV5 (hR : Rd encU 1 w A 3 [17, 121, 200]) : Calls Tryz.prog 12 #[.slice A 3 c] w fun e w' => ∃ OA oc, e = .returned (.tuple #[.slice OA 2 oc, .int .i64 0]) ∧ Rd encC 3 w' OA 2 twoC ∧ Below w.heap.size w w' := by
  have h := snp_TakePattern A 3 c [17, 121, 200] w hR (by unfold ByL; decide) (by omega)
  rw [ev55_5, ev55_6] at h
  refine h.mono ?_
  rintro e w' ⟨OA, on, oc, rfl, hO, hb⟩
  obtain rfl : on = 2 := by rw [← hO.len]; rfl
  exact ⟨OA, oc, rfl, hO, hb⟩
theorem treV (hH : Rd encP 2 w A 1 [(0, 0)]) (hN : RdX ekN w B 1 oneN) : Calls Tryz.prog 17 #[.agg #[.int .i64 2, .slice A 1 c, .slice B 1 d]] w fun e w' => ∃ A' n' c', e = .returned (.tuple #[.slice A' n' c', .int .i64 0]) ∧ Rd encU 1 w' A' n' (ftL 2 [(0, 0)] oneN) ∧ Below w.heap.size w w' := by
  have h := snp_Tree 2 A B 1 c 1 d [(0, 0)] oneN w hH hN (by omega) (by omega)
  rwa [ev_t] at h
theorem takT (hR : Rd encU 1 w A n (ftL 2 [(0, 0)] oneN)) : Calls Tryz.prog 19 #[.slice A n c] w fun e w' => ∃ HA hc NA nc, e = .returned (.tuple #[.agg #[.int .i64 2, .slice HA 1 hc, .slice NA 1 nc], .int .i64 0]) ∧ Rd encP 2 w' HA 1 [(0, 0)] ∧ RdX ekN w' NA 1 oneN ∧ Below w.heap.size w w' := by
  obtain ⟨k1, k2⟩ := ftL_by 2 [(0, 0)] oneN
  obtain ⟨k3, k4⟩ := ft_back ev_t
  have h := snp_TakeTree A n c _ w hR k1 (by rw [← hR.len]; exact k2)
  rw [k3, k4] at h
  refine h.mono ?_
  rintro e w' ⟨HA, hn, hc, NA, nn, nc, rfl, hH, hN, hb⟩
  obtain rfl : hn = 1 := by rw [← hH.len]; rfl
  obtain rfl : nn = 1 := by rw [← hN.len]; rfl
  exact ⟨HA, hc, NA, nc, rfl, hH, hN, hb⟩
theorem quaV (hQ : Rd encQd 4 w A 1 oneQ) : Calls Tryz.prog 22 #[.agg #[.int .i64 2, .slice A 1 c]] w fun e w' => ∃ A' n' c', e = .returned (.tuple #[.slice A' n' c', .int .i64 0]) ∧ Rd encU 1 w' A' n' (fqL 2 oneQ) ∧ Below w.heap.size w w' := by
  have h := snp_Quads 2 A 1 c oneQ w hQ (by omega)
  rwa [ev_q] at h
theorem takQ (hR : Rd encU 1 w A n (fqL 2 oneQ)) : Calls Tryz.prog 24 #[.slice A n c] w fun e w' => ∃ NA nc, e = .returned (.tuple #[.agg #[.int .i64 2, .slice NA 1 nc], .int .i64 0]) ∧ Rd encQd 4 w' NA 1 oneQ ∧ Below w.heap.size w w' := by
  obtain ⟨k1, k2⟩ := fqL_by 2 oneQ
  obtain ⟨k3, k4⟩ := fq_back ev_q
  have h := snp_TakeQuads A n c _ w hR k1 (by rw [← hR.len]; exact k2)
  rw [k3, k4] at h
  refine h.mono ?_
  rintro e w' ⟨NA, nn, nc, rfl, hN, hb⟩
  obtain rfl : nn = 1 := by rw [← hN.len]; rfl
  exact ⟨NA, nc, rfl, hN, hb⟩
theorem timV (hF : RdX ekFr w A 2 frsS) : Calls Tryz.prog 28 #[.agg #[.int .i64 2, .slice A 2 c]] w fun e w' => ∃ A' n' c', e = .returned (.tuple #[.slice A' n' c', .int .i64 0]) ∧ Rd encU 1 w' A' n' (fmL 2 frsS) ∧ Below w.heap.size w w' := by
  have h := snp_Timeline 2 A 2 c frsS w hF smT_frs
  rwa [ev_m] at h
theorem takM (hR : Rd encU 1 w A n (fmL 2 frsS)) : Calls Tryz.prog 30 #[.slice A n c] w fun e w' => ∃ NA nc, e = .returned (.tuple #[.agg #[.int .i64 2, .slice NA 2 nc], .int .i64 0]) ∧ RdX ekFr w' NA 2 frsS ∧ Below w.heap.size w w' := by
  obtain ⟨k1, k2⟩ := fmL_by 2 frsS
  obtain ⟨k3, k4⟩ := fm_back ev_m
  have h := snp_TakeTimeline A n c _ w hR k1 (by rw [← hR.len]; exact k2)
  rw [k3, k4] at h
  refine h.mono ?_
  rintro e w' ⟨NA, nn, nc, rfl, hN, hb⟩
  obtain rfl : nn = 2 := by rw [← hN.len]; rfl
  exact ⟨NA, nc, rfl, hN, hb⟩
theorem nd_oneN : ∀ x ∈ oneN, x.2.length ≤ 1000000 := by
  intro x hx
  simp only [oneN, List.mem_cons, List.not_mem_nil, or_false] at hx
  subst hx; decide
end
set_option maxHeartbeats 64000000 in
theorem awake_55 (w : World) : Calls Tryz.prog 9 #[] w fun e w' => e = .returned (.bool true) ∧ Below w.heap.size w w' := by
  go_enter Tryz.func9, Tryz.ntmps9
  have hB : Below w.heap.size w w := Below.refl _ _
  go_wp2_with fail
  have hp := rd_litC (w) twoC #[.int .i64 0, .int .i64 0, .int .i64 1, .int .i64 1, .int .i64 0, .int .i64 1] 2 rfl (by omega) rfl
  have hal : Below w.heap.size w ((w).alloc (.cells #[.int .i64 0, .int .i64 0, .int .i64 1, .int .i64 1, .int .i64 0, .int .i64 1] 63)) := by (repeat' (first | exact Below.refl _ _ | assumption | (refine Below.alloc ?_ ?_ _) | (refine Below.setCell ?_ ?_ _) | (refine Below.drew ?_) | (refine below_drewN ?_ _) | (refine below_after (Ext.below _) ?_ ?_) | (refine below_after (by assumption) ?_ ?_) | (simp; done) | omega | (simp; omega)))
  obtain ⟨wn, hwn⟩ : ∃ wn, wn = (w).alloc (.cells #[.int .i64 0, .int .i64 0, .int .i64 1, .int .i64 1, .int .i64 0, .int .i64 1] 63) := ⟨_, rfl⟩
  rw [← hwn] at hp hal ⊢
  obtain ⟨pb, hn⟩ : ∃ pb, pb = w.heap.size := ⟨_, rfl⟩
  (try rw [← hn] at hp)
  (try rw [← hn])
  clear hn
  replace hB := below_thru hB hal
  clear hwn hal
  obtain ⟨w1, hwn⟩ : ∃ q, q = wn := ⟨_, rfl⟩
  subst hwn
  go_at_call 10
  refine (patV0 _).mono ?_
  rintro e2 w2 ⟨A1, n1, c1, rfl, hA1, hb2⟩
  replace hp := hp.of hb2
  replace hB := below_thru hB hb2
  clear hb2
  go_wp2_with fail
  go_at_call 10
  refine (patV1 hp).mono ?_
  rintro e3 w3 ⟨A2, n2, c2, rfl, hA2, hb3⟩
  replace hp := hp.of hb3
  replace hA1 := hA1.of hb3
  replace hB := below_thru hB hb3
  clear hb3
  go_wp2_with fail
  have hu3 := rd_litU (w3) [18, 128] #[.int .u8 18, .int .u8 128] 2 rfl (by omega) rfl
  have hal : Below w3.heap.size w3 ((w3).alloc (.cells #[.int .u8 18, .int .u8 128] 5)) := by (repeat' (first | exact Below.refl _ _ | assumption | (refine Below.alloc ?_ ?_ _) | (refine Below.setCell ?_ ?_ _) | (refine Below.drew ?_) | (refine below_drewN ?_ _) | (refine below_after (Ext.below _) ?_ ?_) | (refine below_after (by assumption) ?_ ?_) | (simp; done) | omega | (simp; omega)))
  obtain ⟨wn, hwn⟩ : ∃ wn, wn = (w3).alloc (.cells #[.int .u8 18, .int .u8 128] 5) := ⟨_, rfl⟩
  rw [← hwn] at hu3 hal ⊢
  obtain ⟨u3b, hn⟩ : ∃ u3b, u3b = w3.heap.size := ⟨_, rfl⟩
  (try rw [← hn] at hu3)
  (try rw [← hn])
  clear hn
  replace hp := hp.of hal
  replace hA1 := hA1.of hal
  replace hA2 := hA2.of hal
  replace hB := below_thru hB hal
  clear hwn hal
  obtain ⟨w4, hwn⟩ : ∃ q, q = wn := ⟨_, rfl⟩
  subst hwn
  go_at_call 12
  refine (takV3 hu3).mono ?_
  rintro e5 w5 ⟨A3, n3, c3, rfl, hb5⟩
  replace hp := hp.of hb5
  replace hA1 := hA1.of hb5
  replace hA2 := hA2.of hb5
  replace hu3 := hu3.of hb5
  replace hB := below_thru hB hb5
  clear hb5
  clear hu3
  go_wp2_with fail
  have hu4 := rd_litU (w5) [17] #[.int .u8 17] 1 rfl (by omega) rfl
  have hal : Below w5.heap.size w5 ((w5).alloc (.cells #[.int .u8 17] 5)) := by (repeat' (first | exact Below.refl _ _ | assumption | (refine Below.alloc ?_ ?_ _) | (refine Below.setCell ?_ ?_ _) | (refine Below.drew ?_) | (refine below_drewN ?_ _) | (refine below_after (Ext.below _) ?_ ?_) | (refine below_after (by assumption) ?_ ?_) | (simp; done) | omega | (simp; omega)))
  obtain ⟨wn, hwn⟩ : ∃ wn, wn = (w5).alloc (.cells #[.int .u8 17] 5) := ⟨_, rfl⟩
  rw [← hwn] at hu4 hal ⊢
  obtain ⟨u4b, hn⟩ : ∃ u4b, u4b = w5.heap.size := ⟨_, rfl⟩
  (try rw [← hn] at hu4)
  (try rw [← hn])
  clear hn
  replace hp := hp.of hal
  replace hA1 := hA1.of hal
  replace hA2 := hA2.of hal
  replace hB := below_thru hB hal
  clear hwn hal
  obtain ⟨w6, hwn⟩ : ∃ q, q = wn := ⟨_, rfl⟩
  subst hwn
  go_at_call 12
  refine (takV4 hu4).mono ?_
  rintro e7 w7 ⟨A4, n4, c4, rfl, hb7⟩
  replace hp := hp.of hb7
  replace hA1 := hA1.of hb7
  replace hA2 := hA2.of hb7
  replace hu4 := hu4.of hb7
  replace hB := below_thru hB hb7
  clear hb7
  clear hu4
  go_wp2_with fail
  have hu5 := rd_litU (w7) [17, 121, 200] #[.int .u8 17, .int .u8 121, .int .u8 200] 3 rfl (by omega) rfl
  have hal : Below w7.heap.size w7 ((w7).alloc (.cells #[.int .u8 17, .int .u8 121, .int .u8 200] 5)) := by (repeat' (first | exact Below.refl _ _ | assumption | (refine Below.alloc ?_ ?_ _) | (refine Below.setCell ?_ ?_ _) | (refine Below.drew ?_) | (refine below_drewN ?_ _) | (refine below_after (Ext.below _) ?_ ?_) | (refine below_after (by assumption) ?_ ?_) | (simp; done) | omega | (simp; omega)))
  obtain ⟨wn, hwn⟩ : ∃ wn, wn = (w7).alloc (.cells #[.int .u8 17, .int .u8 121, .int .u8 200] 5) := ⟨_, rfl⟩
  rw [← hwn] at hu5 hal ⊢
  obtain ⟨u5b, hn⟩ : ∃ u5b, u5b = w7.heap.size := ⟨_, rfl⟩
  (try rw [← hn] at hu5)
  (try rw [← hn])
  clear hn
  replace hp := hp.of hal
  replace hA1 := hA1.of hal
  replace hA2 := hA2.of hal
  replace hB := below_thru hB hal
  clear hwn hal
  obtain ⟨w8, hwn⟩ : ∃ q, q = wn := ⟨_, rfl⟩
  subst hwn
  go_at_call 12
  refine (takV5 hu5).mono ?_
  rintro e9 w9 ⟨A5, c5, rfl, hA5, hb9⟩
  replace hp := hp.of hb9
  replace hA1 := hA1.of hb9
  replace hA2 := hA2.of hb9
  replace hu5 := hu5.of hb9
  replace hB := below_thru hB hb9
  clear hb9
  clear hu5
  go_wp2_with fail
  have hh := rd_litP (w9) [(0, 0)] #[.int .i64 0, .int .i64 0] 1 rfl (by omega) rfl
  have hal : Below w9.heap.size w9 ((w9).alloc (.cells #[.int .i64 0, .int .i64 0] 66)) := by (repeat' (first | exact Below.refl _ _ | assumption | (refine Below.alloc ?_ ?_ _) | (refine Below.setCell ?_ ?_ _) | (refine Below.drew ?_) | (refine below_drewN ?_ _) | (refine below_after (Ext.below _) ?_ ?_) | (refine below_after (by assumption) ?_ ?_) | (simp; done) | omega | (simp; omega)))
  obtain ⟨wn, hwn⟩ : ∃ wn, wn = (w9).alloc (.cells #[.int .i64 0, .int .i64 0] 66) := ⟨_, rfl⟩
  rw [← hwn] at hh hal ⊢
  obtain ⟨hb, hn⟩ : ∃ hb, hb = w9.heap.size := ⟨_, rfl⟩
  (try rw [← hn] at hh)
  (try rw [← hn])
  clear hn
  replace hp := hp.of hal
  replace hA1 := hA1.of hal
  replace hA2 := hA2.of hal
  replace hA5 := hA5.of hal
  replace hB := below_thru hB hal
  clear hwn hal
  obtain ⟨w10, hwn⟩ : ∃ q, q = wn := ⟨_, rfl⟩
  subst hwn
  go_at_call 33
  refine (ref12_Constant1 _ _ _ _ hh (by decide)).mono ?_
  rintro e11 w11 ⟨N6, m6, rfl, hN6, hb11⟩
  replace hp := hp.of hb11
  replace hA1 := hA1.of hb11
  replace hA2 := hA2.of hb11
  replace hA5 := hA5.of hb11
  replace hh := hh.of hb11
  replace hB := below_thru hB hb11
  clear hb11
  go_wp2_with fail
  have hbt := TrAt.new (w11) (.int .i64 2) (.slice (some ⟨hb, 0, none⟩) 1 1) (.slice N6 1 m6) 37
  have hal : Below w11.heap.size w11 ((w11).alloc (.cells #[.int .i64 2, .slice (some ⟨hb, 0, none⟩) 1 1, .slice N6 1 m6] 37)) := by (repeat' (first | exact Below.refl _ _ | assumption | (refine Below.alloc ?_ ?_ _) | (refine Below.setCell ?_ ?_ _) | (refine Below.drew ?_) | (refine below_drewN ?_ _) | (refine below_after (Ext.below _) ?_ ?_) | (refine below_after (by assumption) ?_ ?_) | (simp; done) | omega | (simp; omega)))
  obtain ⟨wn, hwn⟩ : ∃ wn, wn = (w11).alloc (.cells #[.int .i64 2, .slice (some ⟨hb, 0, none⟩) 1 1, .slice N6 1 m6] 37) := ⟨_, rfl⟩
  rw [← hwn] at hbt hal ⊢
  obtain ⟨btb, hn⟩ : ∃ btb, btb = w11.heap.size := ⟨_, rfl⟩
  (try rw [← hn] at hbt)
  (try rw [← hn])
  clear hn
  replace hp := hp.of hal
  replace hA1 := hA1.of hal
  replace hA2 := hA2.of hal
  replace hA5 := hA5.of hal
  replace hh := hh.of hal
  replace hN6 := hN6.of hal
  replace hB := below_thru hB hal
  clear hwn hal
  obtain ⟨w12, hwn⟩ : ∃ q, q = wn := ⟨_, rfl⟩
  subst hwn
  have ⟨btz, bt0, bt1, bt2⟩ := hbt
  go_wp2_with fail
  go_at_call 17
  refine (treV hh hN6).mono ?_
  rintro e13 w13 ⟨A7, n7, c7, rfl, hA7, hb13⟩
  clear btz bt0 bt1 bt2
  replace hp := hp.of hb13
  replace hA1 := hA1.of hb13
  replace hA2 := hA2.of hb13
  replace hA5 := hA5.of hb13
  replace hh := hh.of hb13
  replace hN6 := hN6.of hb13
  replace hbt := hbt.of hb13
  replace hB := below_thru hB hb13
  clear hb13
  have ⟨btz, bt0, bt1, bt2⟩ := hbt
  go_wp2_with fail
  go_at_call 19
  refine (takT hA7).mono ?_
  rintro e14 w14 ⟨H8, c8, N8, m8, rfl, hH8, hN8, hb14⟩
  clear btz bt0 bt1 bt2
  replace hp := hp.of hb14
  replace hA1 := hA1.of hb14
  replace hA2 := hA2.of hb14
  replace hA5 := hA5.of hb14
  replace hh := hh.of hb14
  replace hN6 := hN6.of hb14
  replace hA7 := hA7.of hb14
  replace hbt := hbt.of hb14
  replace hB := below_thru hB hb14
  clear hb14
  clear hA7
  have ⟨btz, bt0, bt1, bt2⟩ := hbt
  go_wp2_with fail
  clear btz bt0 bt1 bt2
  have hbu := TrAt.new (w14) (.int .i64 2) (.slice H8 1 c8) (.slice N8 1 m8) 37
  replace hbu := hbu.of ((Below.refl _ _).alloc (Nat.le_refl _) (.cells #[.int .i64 0, .int .i64 1, .int .i64 0, .int .i64 0] 69))
  replace hbu := hbu.of ((Below.refl _ _).alloc (Nat.le_refl _) (.cells #[.int .i64 2, .slice (some ⟨w14.heap.size + 1, 0, none⟩) 1 1] 46))
  have hq := rd_litQ ((w14).alloc (.cells #[.int .i64 2, .slice H8 1 c8, .slice N8 1 m8] 37)) oneQ #[.int .i64 0, .int .i64 1, .int .i64 0, .int .i64 0] 1 rfl (by omega) rfl
  replace hq := hq.of ((Below.refl _ _).alloc (Nat.le_refl _) (.cells #[.int .i64 2, .slice (some ⟨w14.heap.size + 1, 0, none⟩) 1 1] 46))
  simp only [World.size_alloc] at hq
  have hbs := BxW.new (((w14).alloc (.cells #[.int .i64 2, .slice H8 1 c8, .slice N8 1 m8] 37)).alloc (.cells #[.int .i64 0, .int .i64 1, .int .i64 0, .int .i64 0] 69)) [.int .i64 2, .slice (some ⟨w14.heap.size + 1, 0, none⟩) 1 1] 46
  rw [show ∀ a b : Value, [a, b].toArray = #[a, b] from fun _ _ => rfl] at hbs
  simp only [World.size_alloc] at hbs
  have hal : Below w14.heap.size w14 ((((w14).alloc (.cells #[.int .i64 2, .slice H8 1 c8, .slice N8 1 m8] 37)).alloc (.cells #[.int .i64 0, .int .i64 1, .int .i64 0, .int .i64 0] 69)).alloc (.cells #[.int .i64 2, .slice (some ⟨w14.heap.size + 1, 0, none⟩) 1 1] 46)) := by (repeat' (first | exact Below.refl _ _ | assumption | (refine Below.alloc ?_ ?_ _) | (refine Below.setCell ?_ ?_ _) | (refine Below.drew ?_) | (refine below_drewN ?_ _) | (refine below_after (Ext.below _) ?_ ?_) | (refine below_after (by assumption) ?_ ?_) | (simp; done) | omega | (simp; omega)))
  obtain ⟨wn, hwn⟩ : ∃ wn, wn = (((w14).alloc (.cells #[.int .i64 2, .slice H8 1 c8, .slice N8 1 m8] 37)).alloc (.cells #[.int .i64 0, .int .i64 1, .int .i64 0, .int .i64 0] 69)).alloc (.cells #[.int .i64 2, .slice (some ⟨w14.heap.size + 1, 0, none⟩) 1 1] 46) := ⟨_, rfl⟩
  rw [← hwn] at hbu hq hbs hal ⊢
  obtain ⟨bub, hn⟩ : ∃ bub, bub = w14.heap.size := ⟨_, rfl⟩
  (try rw [← hn] at hbu)
  (try rw [← hn] at hq)
  (try rw [← hn] at hbs)
  (try rw [← hn])
  have hn0 := Lib.hid hn
  clear hn
  obtain ⟨qb, hn⟩ : ∃ qb, qb = w14.heap.size + 1 := ⟨_, rfl⟩
  (try rw [← hn] at hbu)
  (try rw [← hn] at hq)
  (try rw [← hn] at hbs)
  (try rw [← hn])
  have hn1 := Lib.hid hn
  clear hn
  obtain ⟨bsb, hn⟩ : ∃ bsb, bsb = w14.heap.size + 1 + 1 := ⟨_, rfl⟩
  (try rw [← hn] at hbu)
  (try rw [← hn] at hq)
  (try rw [← hn] at hbs)
  (try rw [← hn])
  clear hn
  replace hp := hp.of hal
  replace hA1 := hA1.of hal
  replace hA2 := hA2.of hal
  replace hA5 := hA5.of hal
  replace hh := hh.of hal
  replace hN6 := hN6.of hal
  replace hH8 := hH8.of hal
  replace hN8 := hN8.of hal
  replace hbt := hbt.of hal
  replace hB := below_thru hB hal
  clear hwn hal hn0 hn1
  obtain ⟨w15, hwn⟩ : ∃ q, q = wn := ⟨_, rfl⟩
  subst hwn
  have ⟨btz, bt0, bt1, bt2⟩ := hbt
  have ⟨buz, bu0, bu1, bu2⟩ := hbu
  obtain ⟨bsz, bs0, bs1, -, -⟩ := hbs.open2
  go_at_call 22
  refine (quaV hq).mono ?_
  rintro e16 w16 ⟨A9, n9, c9, rfl, hA9, hb16⟩
  clear btz bt0 bt1 bt2
  clear buz bu0 bu1 bu2
  clear bsz bs0 bs1
  replace hp := hp.of hb16
  replace hA1 := hA1.of hb16
  replace hA2 := hA2.of hb16
  replace hA5 := hA5.of hb16
  replace hh := hh.of hb16
  replace hN6 := hN6.of hb16
  replace hH8 := hH8.of hb16
  replace hN8 := hN8.of hb16
  replace hq := hq.of hb16
  replace hbt := hbt.of hb16
  replace hbu := hbu.of hb16
  replace hbs := hbs.of hb16
  replace hB := below_thru hB hb16
  clear hb16
  have ⟨btz, bt0, bt1, bt2⟩ := hbt
  have ⟨buz, bu0, bu1, bu2⟩ := hbu
  obtain ⟨bsz, bs0, bs1, -, -⟩ := hbs.open2
  go_wp2_with fail
  go_at_call 24
  refine (takQ hA9).mono ?_
  rintro e17 w17 ⟨Qx, qc, rfl, hQx, hb17⟩
  clear btz bt0 bt1 bt2
  clear buz bu0 bu1 bu2
  clear bsz bs0 bs1
  replace hp := hp.of hb17
  replace hA1 := hA1.of hb17
  replace hA2 := hA2.of hb17
  replace hA5 := hA5.of hb17
  replace hh := hh.of hb17
  replace hN6 := hN6.of hb17
  replace hH8 := hH8.of hb17
  replace hN8 := hN8.of hb17
  replace hq := hq.of hb17
  replace hA9 := hA9.of hb17
  replace hbt := hbt.of hb17
  replace hbu := hbu.of hb17
  replace hbs := hbs.of hb17
  replace hB := below_thru hB hb17
  clear hb17
  clear hA9
  have ⟨btz, bt0, bt1, bt2⟩ := hbt
  have ⟨buz, bu0, bu1, bu2⟩ := hbu
  obtain ⟨bsz, bs0, bs1, -, -⟩ := hbs.open2
  go_wp2_with fail
  clear btz bt0 bt1 bt2
  clear buz bu0 bu1 bu2
  clear bsz bs0 bs1
  have hbv := BxW.new (w17) [.int .i64 2, .slice Qx 1 qc] 46
  rw [show ∀ a b : Value, [a, b].toArray = #[a, b] from fun _ _ => rfl] at hbv
  replace hbv := hbv.of ((Below.refl _ _).alloc (Nat.le_refl _) (.cells #[.int .i64 0, .int .i64 0, .int .i64 1, .int .i64 0] 74))
  replace hbv := hbv.of ((Below.refl _ _).alloc (Nat.le_refl _) (.cells #[.int .i64 0, .bool true, .slice (some ⟨pb, 0, none⟩) 2 2, .slice none 0 0, .int .i64 3, .bool false, .slice none 0 0, .slice (some ⟨w17.heap.size + 1, 0, none⟩) 1 1] 72))
  replace hbv := hbv.of ((Below.refl _ _).alloc (Nat.le_refl _) (.cells #[.int .i64 2, .slice (some ⟨w17.heap.size + 1 + 1, 0, none⟩) 2 2] 54))
  have hg := rd_litH ((w17).alloc (.cells #[.int .i64 2, .slice Qx 1 qc] 46)) [(0, 0, 1, 0)] #[.int .i64 0, .int .i64 0, .int .i64 1, .int .i64 0] 1 rfl (by omega) rfl
  replace hg := hg.of ((Below.refl _ _).alloc (Nat.le_refl _) (.cells #[.int .i64 0, .bool true, .slice (some ⟨pb, 0, none⟩) 2 2, .slice none 0 0, .int .i64 3, .bool false, .slice none 0 0, .slice (some ⟨w17.heap.size + 1, 0, none⟩) 1 1] 72))
  replace hg := hg.of ((Below.refl _ _).alloc (Nat.le_refl _) (.cells #[.int .i64 2, .slice (some ⟨w17.heap.size + 1 + 1, 0, none⟩) 2 2] 54))
  simp only [World.size_alloc] at hg
  have hf := rdx_fr2 (((w17).alloc (.cells #[.int .i64 2, .slice Qx 1 qc] 46)).alloc (.cells #[.int .i64 0, .int .i64 0, .int .i64 1, .int .i64 0] 74)) (some ⟨pb, 0, none⟩) (some ⟨w17.heap.size + 1, 0, none⟩) (hp.of (((Below.refl _ _).alloc (Nat.le_refl _) _).alloc (by simp) _)) (by have h := rd_litH (w17.alloc (.cells #[.int .i64 2, .slice Qx 1 qc] 46)) [(0, 0, 1, 0)] #[.int .i64 0, .int .i64 0, .int .i64 1, .int .i64 0] 1 rfl (by omega) rfl; simp only [World.size_alloc] at h; exact h)
  replace hf := hf.of ((Below.refl _ _).alloc (Nat.le_refl _) (.cells #[.int .i64 2, .slice (some ⟨w17.heap.size + 1 + 1, 0, none⟩) 2 2] 54))
  simp only [World.size_alloc] at hf
  have hbx := BxW.new ((((w17).alloc (.cells #[.int .i64 2, .slice Qx 1 qc] 46)).alloc (.cells #[.int .i64 0, .int .i64 0, .int .i64 1, .int .i64 0] 74)).alloc (.cells #[.int .i64 0, .bool true, .slice (some ⟨pb, 0, none⟩) 2 2, .slice none 0 0, .int .i64 3, .bool false, .slice none 0 0, .slice (some ⟨w17.heap.size + 1, 0, none⟩) 1 1] 72)) [.int .i64 2, .slice (some ⟨w17.heap.size + 1 + 1, 0, none⟩) 2 2] 54
  rw [show ∀ a b : Value, [a, b].toArray = #[a, b] from fun _ _ => rfl] at hbx
  simp only [World.size_alloc] at hbx
  have hal : Below w17.heap.size w17 (((((w17).alloc (.cells #[.int .i64 2, .slice Qx 1 qc] 46)).alloc (.cells #[.int .i64 0, .int .i64 0, .int .i64 1, .int .i64 0] 74)).alloc (.cells #[.int .i64 0, .bool true, .slice (some ⟨pb, 0, none⟩) 2 2, .slice none 0 0, .int .i64 3, .bool false, .slice none 0 0, .slice (some ⟨w17.heap.size + 1, 0, none⟩) 1 1] 72)).alloc (.cells #[.int .i64 2, .slice (some ⟨w17.heap.size + 1 + 1, 0, none⟩) 2 2] 54)) := by (repeat' (first | exact Below.refl _ _ | assumption | (refine Below.alloc ?_ ?_ _) | (refine Below.setCell ?_ ?_ _) | (refine Below.drew ?_) | (refine below_drewN ?_ _) | (refine below_after (Ext.below _) ?_ ?_) | (refine below_after (by assumption) ?_ ?_) | (simp; done) | omega | (simp; omega)))
  obtain ⟨wn, hwn⟩ : ∃ wn, wn = ((((w17).alloc (.cells #[.int .i64 2, .slice Qx 1 qc] 46)).alloc (.cells #[.int .i64 0, .int .i64 0, .int .i64 1, .int .i64 0] 74)).alloc (.cells #[.int .i64 0, .bool true, .slice (some ⟨pb, 0, none⟩) 2 2, .slice none 0 0, .int .i64 3, .bool false, .slice none 0 0, .slice (some ⟨w17.heap.size + 1, 0, none⟩) 1 1] 72)).alloc (.cells #[.int .i64 2, .slice (some ⟨w17.heap.size + 1 + 1, 0, none⟩) 2 2] 54) := ⟨_, rfl⟩
  rw [← hwn] at hbv hg hf hbx hal ⊢
  obtain ⟨bvb, hn⟩ : ∃ bvb, bvb = w17.heap.size := ⟨_, rfl⟩
  (try rw [← hn] at hbv)
  (try rw [← hn] at hg)
  (try rw [← hn] at hf)
  (try rw [← hn] at hbx)
  (try rw [← hn])
  have hn0 := Lib.hid hn
  clear hn
  obtain ⟨gb, hn⟩ : ∃ gb, gb = w17.heap.size + 1 := ⟨_, rfl⟩
  (try rw [← hn] at hbv)
  (try rw [← hn] at hg)
  (try rw [← hn] at hf)
  (try rw [← hn] at hbx)
  (try rw [← hn])
  have hn1 := Lib.hid hn
  clear hn
  obtain ⟨fb, hn⟩ : ∃ fb, fb = w17.heap.size + 1 + 1 := ⟨_, rfl⟩
  (try rw [← hn] at hbv)
  (try rw [← hn] at hg)
  (try rw [← hn] at hf)
  (try rw [← hn] at hbx)
  (try rw [← hn])
  have hn2 := Lib.hid hn
  clear hn
  obtain ⟨bxb, hn⟩ : ∃ bxb, bxb = w17.heap.size + 1 + 1 + 1 := ⟨_, rfl⟩
  (try rw [← hn] at hbv)
  (try rw [← hn] at hg)
  (try rw [← hn] at hf)
  (try rw [← hn] at hbx)
  (try rw [← hn])
  clear hn
  replace hp := hp.of hal
  replace hA1 := hA1.of hal
  replace hA2 := hA2.of hal
  replace hA5 := hA5.of hal
  replace hh := hh.of hal
  replace hN6 := hN6.of hal
  replace hH8 := hH8.of hal
  replace hN8 := hN8.of hal
  replace hq := hq.of hal
  replace hQx := hQx.of hal
  replace hbt := hbt.of hal
  replace hbu := hbu.of hal
  replace hbs := hbs.of hal
  replace hB := below_thru hB hal
  clear hwn hal hn0 hn1 hn2
  obtain ⟨w18, hwn⟩ : ∃ q, q = wn := ⟨_, rfl⟩
  subst hwn
  have ⟨btz, bt0, bt1, bt2⟩ := hbt
  have ⟨buz, bu0, bu1, bu2⟩ := hbu
  obtain ⟨bsz, bs0, bs1, -, -⟩ := hbs.open2
  obtain ⟨bvz, bv0, bv1, -, -⟩ := hbv.open2
  obtain ⟨bxz, bx0, bx1, -, -⟩ := hbx.open2
  go_at_call 28
  refine (timV hf).mono ?_
  rintro e19 w19 ⟨Aa, na, ca, rfl, hAa, hb19⟩
  clear btz bt0 bt1 bt2
  clear buz bu0 bu1 bu2
  clear bsz bs0 bs1
  clear bvz bv0 bv1
  clear bxz bx0 bx1
  replace hp := hp.of hb19
  replace hA1 := hA1.of hb19
  replace hA2 := hA2.of hb19
  replace hA5 := hA5.of hb19
  replace hh := hh.of hb19
  replace hN6 := hN6.of hb19
  replace hH8 := hH8.of hb19
  replace hN8 := hN8.of hb19
  replace hq := hq.of hb19
  replace hQx := hQx.of hb19
  replace hg := hg.of hb19
  replace hf := hf.of hb19
  replace hbt := hbt.of hb19
  replace hbu := hbu.of hb19
  replace hbs := hbs.of hb19
  replace hbv := hbv.of hb19
  replace hbx := hbx.of hb19
  replace hB := below_thru hB hb19
  clear hb19
  have ⟨btz, bt0, bt1, bt2⟩ := hbt
  have ⟨buz, bu0, bu1, bu2⟩ := hbu
  obtain ⟨bsz, bs0, bs1, -, -⟩ := hbs.open2
  obtain ⟨bvz, bv0, bv1, -, -⟩ := hbv.open2
  obtain ⟨bxz, bx0, bx1, -, -⟩ := hbx.open2
  go_wp2_with fail
  go_at_call 30
  refine (takM hAa).mono ?_
  rintro e20 w20 ⟨Fx, fc, rfl, hFx, hb20⟩
  clear btz bt0 bt1 bt2
  clear buz bu0 bu1 bu2
  clear bsz bs0 bs1
  clear bvz bv0 bv1
  clear bxz bx0 bx1
  replace hp := hp.of hb20
  replace hA1 := hA1.of hb20
  replace hA2 := hA2.of hb20
  replace hA5 := hA5.of hb20
  replace hh := hh.of hb20
  replace hN6 := hN6.of hb20
  replace hH8 := hH8.of hb20
  replace hN8 := hN8.of hb20
  replace hq := hq.of hb20
  replace hQx := hQx.of hb20
  replace hg := hg.of hb20
  replace hf := hf.of hb20
  replace hAa := hAa.of hb20
  replace hbt := hbt.of hb20
  replace hbu := hbu.of hb20
  replace hbs := hbs.of hb20
  replace hbv := hbv.of hb20
  replace hbx := hbx.of hb20
  replace hB := below_thru hB hb20
  clear hb20
  clear hAa
  have ⟨btz, bt0, bt1, bt2⟩ := hbt
  have ⟨buz, bu0, bu1, bu2⟩ := hbu
  obtain ⟨bsz, bs0, bs1, -, -⟩ := hbs.open2
  obtain ⟨bvz, bv0, bv1, -, -⟩ := hbv.open2
  obtain ⟨bxz, bx0, bx1, -, -⟩ := hbx.open2
  go_wp2_with fail
  clear btz bt0 bt1 bt2
  clear buz bu0 bu1 bu2
  clear bsz bs0 bs1
  clear bvz bv0 bv1
  clear bxz bx0 bx1
  have hby := BxW.new (w20) [.int .i64 2, .slice Fx 2 fc] 54
  rw [show ∀ a b : Value, [a, b].toArray = #[a, b] from fun _ _ => rfl] at hby
  replace hby := hby.of ((Below.refl _ _).alloc (Nat.le_refl _) (.cells #[.int .u8 17, .int .u8 128] 5))
  have hu6 := rd_litU ((w20).alloc (.cells #[.int .i64 2, .slice Fx 2 fc] 54)) [17, 128] #[.int .u8 17, .int .u8 128] 2 rfl (by omega) rfl
  simp only [World.size_alloc] at hu6
  have hal : Below w20.heap.size w20 (((w20).alloc (.cells #[.int .i64 2, .slice Fx 2 fc] 54)).alloc (.cells #[.int .u8 17, .int .u8 128] 5)) := by (repeat' (first | exact Below.refl _ _ | assumption | (refine Below.alloc ?_ ?_ _) | (refine Below.setCell ?_ ?_ _) | (refine Below.drew ?_) | (refine below_drewN ?_ _) | (refine below_after (Ext.below _) ?_ ?_) | (refine below_after (by assumption) ?_ ?_) | (simp; done) | omega | (simp; omega)))
  obtain ⟨wn, hwn⟩ : ∃ wn, wn = ((w20).alloc (.cells #[.int .i64 2, .slice Fx 2 fc] 54)).alloc (.cells #[.int .u8 17, .int .u8 128] 5) := ⟨_, rfl⟩
  rw [← hwn] at hby hu6 hal ⊢
  obtain ⟨byb, hn⟩ : ∃ byb, byb = w20.heap.size := ⟨_, rfl⟩
  (try rw [← hn] at hby)
  (try rw [← hn] at hu6)
  (try rw [← hn])
  have hn0 := Lib.hid hn
  clear hn
  obtain ⟨u6b, hn⟩ : ∃ u6b, u6b = w20.heap.size + 1 := ⟨_, rfl⟩
  (try rw [← hn] at hby)
  (try rw [← hn] at hu6)
  (try rw [← hn])
  clear hn
  replace hp := hp.of hal
  replace hA1 := hA1.of hal
  replace hA2 := hA2.of hal
  replace hA5 := hA5.of hal
  replace hh := hh.of hal
  replace hN6 := hN6.of hal
  replace hH8 := hH8.of hal
  replace hN8 := hN8.of hal
  replace hq := hq.of hal
  replace hQx := hQx.of hal
  replace hg := hg.of hal
  replace hf := hf.of hal
  replace hFx := hFx.of hal
  replace hbt := hbt.of hal
  replace hbu := hbu.of hal
  replace hbs := hbs.of hal
  replace hbv := hbv.of hal
  replace hbx := hbx.of hal
  replace hB := below_thru hB hal
  clear hwn hal hn0
  obtain ⟨w21, hwn⟩ : ∃ q, q = wn := ⟨_, rfl⟩
  subst hwn
  have ⟨btz, bt0, bt1, bt2⟩ := hbt
  have ⟨buz, bu0, bu1, bu2⟩ := hbu
  obtain ⟨bsz, bs0, bs1, -, -⟩ := hbs.open2
  obtain ⟨bvz, bv0, bv1, -, -⟩ := hbv.open2
  obtain ⟨bxz, bx0, bx1, -, -⟩ := hbx.open2
  obtain ⟨byz, by0, by1, -, -⟩ := hby.open2
  go_at_call 14
  refine (ref02_SameV _ _ _ _ _ _ _ _ hA1 hu6 (by rw [← hA1.len]; decide)).mono ?_
  rintro e22 w22 ⟨rfl, hb22⟩
  clear btz bt0 bt1 bt2
  clear buz bu0 bu1 bu2
  clear bsz bs0 bs1
  clear bvz bv0 bv1
  clear bxz bx0 bx1
  clear byz by0 by1
  replace hp := hp.of hb22
  replace hA1 := hA1.of hb22
  replace hA2 := hA2.of hb22
  replace hA5 := hA5.of hb22
  replace hh := hh.of hb22
  replace hN6 := hN6.of hb22
  replace hH8 := hH8.of hb22
  replace hN8 := hN8.of hb22
  replace hq := hq.of hb22
  replace hQx := hQx.of hb22
  replace hg := hg.of hb22
  replace hf := hf.of hb22
  replace hFx := hFx.of hb22
  replace hu6 := hu6.of hb22
  replace hbt := hbt.of hb22
  replace hbu := hbu.of hb22
  replace hbs := hbs.of hb22
  replace hbv := hbv.of hb22
  replace hbx := hbx.of hb22
  replace hby := hby.of hb22
  replace hB := below_thru hB hb22
  clear hb22
  clear hu6
  clear hA1
  have ⟨btz, bt0, bt1, bt2⟩ := hbt
  have ⟨buz, bu0, bu1, bu2⟩ := hbu
  obtain ⟨bsz, bs0, bs1, -, -⟩ := hbs.open2
  obtain ⟨bvz, bv0, bv1, -, -⟩ := hbv.open2
  obtain ⟨bxz, bx0, bx1, -, -⟩ := hbx.open2
  obtain ⟨byz, by0, by1, -, -⟩ := hby.open2
  go_wp2_with fail
  clear btz bt0 bt1 bt2
  clear buz bu0 bu1 bu2
  clear bsz bs0 bs1
  clear bvz bv0 bv1
  clear bxz bx0 bx1
  clear byz by0 by1
  have hu7 := rd_litU (w22) [17, 121, 200] #[.int .u8 17, .int .u8 121, .int .u8 200] 3 rfl (by omega) rfl
  have hal : Below w22.heap.size w22 ((w22).alloc (.cells #[.int .u8 17, .int .u8 121, .int .u8 200] 5)) := by (repeat' (first | exact Below.refl _ _ | assumption | (refine Below.alloc ?_ ?_ _) | (refine Below.setCell ?_ ?_ _) | (refine Below.drew ?_) | (refine below_drewN ?_ _) | (refine below_after (Ext.below _) ?_ ?_) | (refine below_after (by assumption) ?_ ?_) | (simp; done) | omega | (simp; omega)))
  obtain ⟨wn, hwn⟩ : ∃ wn, wn = (w22).alloc (.cells #[.int .u8 17, .int .u8 121, .int .u8 200] 5) := ⟨_, rfl⟩
  rw [← hwn] at hu7 hal ⊢
  obtain ⟨u7b, hn⟩ : ∃ u7b, u7b = w22.heap.size := ⟨_, rfl⟩
  (try rw [← hn] at hu7)
  (try rw [← hn])
  clear hn
  replace hp := hp.of hal
  replace hA2 := hA2.of hal
  replace hA5 := hA5.of hal
  replace hh := hh.of hal
  replace hN6 := hN6.of hal
  replace hH8 := hH8.of hal
  replace hN8 := hN8.of hal
  replace hq := hq.of hal
  replace hQx := hQx.of hal
  replace hg := hg.of hal
  replace hf := hf.of hal
  replace hFx := hFx.of hal
  replace hbt := hbt.of hal
  replace hbu := hbu.of hal
  replace hbs := hbs.of hal
  replace hbv := hbv.of hal
  replace hbx := hbx.of hal
  replace hby := hby.of hal
  replace hB := below_thru hB hal
  clear hwn hal
  obtain ⟨w23, hwn⟩ : ∃ q, q = wn := ⟨_, rfl⟩
  subst hwn
  have ⟨btz, bt0, bt1, bt2⟩ := hbt
  have ⟨buz, bu0, bu1, bu2⟩ := hbu
  obtain ⟨bsz, bs0, bs1, -, -⟩ := hbs.open2
  obtain ⟨bvz, bv0, bv1, -, -⟩ := hbv.open2
  obtain ⟨bxz, bx0, bx1, -, -⟩ := hbx.open2
  obtain ⟨byz, by0, by1, -, -⟩ := hby.open2
  go_at_call 14
  refine (ref02_SameV _ _ _ _ _ _ _ _ hA2 hu7 (by rw [← hA2.len]; decide)).mono ?_
  rintro e24 w24 ⟨rfl, hb24⟩
  clear btz bt0 bt1 bt2
  clear buz bu0 bu1 bu2
  clear bsz bs0 bs1
  clear bvz bv0 bv1
  clear bxz bx0 bx1
  clear byz by0 by1
  replace hp := hp.of hb24
  replace hA2 := hA2.of hb24
  replace hA5 := hA5.of hb24
  replace hh := hh.of hb24
  replace hN6 := hN6.of hb24
  replace hH8 := hH8.of hb24
  replace hN8 := hN8.of hb24
  replace hq := hq.of hb24
  replace hQx := hQx.of hb24
  replace hg := hg.of hb24
  replace hf := hf.of hb24
  replace hFx := hFx.of hb24
  replace hu7 := hu7.of hb24
  replace hbt := hbt.of hb24
  replace hbu := hbu.of hb24
  replace hbs := hbs.of hb24
  replace hbv := hbv.of hb24
  replace hbx := hbx.of hb24
  replace hby := hby.of hb24
  replace hB := below_thru hB hb24
  clear hb24
  clear hu7
  clear hA2
  have ⟨btz, bt0, bt1, bt2⟩ := hbt
  have ⟨buz, bu0, bu1, bu2⟩ := hbu
  obtain ⟨bsz, bs0, bs1, -, -⟩ := hbs.open2
  obtain ⟨bvz, bv0, bv1, -, -⟩ := hbv.open2
  obtain ⟨bxz, bx0, bx1, -, -⟩ := hbx.open2
  obtain ⟨byz, by0, by1, -, -⟩ := hby.open2
  go_wp2_with fail
  go_at_call 15
  refine (ref05_SameV (sameL_selfA twoC) _ _ _ _ _ _ _ hp hA5 (by omega) (by omega)).mono ?_
  rintro e25 w25 ⟨rfl, hb25⟩
  clear btz bt0 bt1 bt2
  clear buz bu0 bu1 bu2
  clear bsz bs0 bs1
  clear bvz bv0 bv1
  clear bxz bx0 bx1
  clear byz by0 by1
  replace hp := hp.of hb25
  replace hA5 := hA5.of hb25
  replace hh := hh.of hb25
  replace hN6 := hN6.of hb25
  replace hH8 := hH8.of hb25
  replace hN8 := hN8.of hb25
  replace hq := hq.of hb25
  replace hQx := hQx.of hb25
  replace hg := hg.of hb25
  replace hf := hf.of hb25
  replace hFx := hFx.of hb25
  replace hbt := hbt.of hb25
  replace hbu := hbu.of hb25
  replace hbs := hbs.of hb25
  replace hbv := hbv.of hb25
  replace hbx := hbx.of hb25
  replace hby := hby.of hb25
  replace hB := below_thru hB hb25
  clear hb25
  clear hA5
  have ⟨btz, bt0, bt1, bt2⟩ := hbt
  have ⟨buz, bu0, bu1, bu2⟩ := hbu
  obtain ⟨bsz, bs0, bs1, -, -⟩ := hbs.open2
  obtain ⟨bvz, bv0, bv1, -, -⟩ := hbv.open2
  obtain ⟨bxz, bx0, bx1, -, -⟩ := hbx.open2
  obtain ⟨byz, by0, by1, -, -⟩ := hby.open2
  go_wp2_with fail
  go_at_call 21
  refine (ref12_SameV 2 _ _ _ _ _ _ _ _ _ _ _ _ [(0, 0)] oneN _ hh hN6 hH8 hN8 (by omega) (by omega) nd_oneN).mono ?_
  rintro e26 w26 ⟨rfl, hb26⟩
  clear btz bt0 bt1 bt2
  clear buz bu0 bu1 bu2
  clear bsz bs0 bs1
  clear bvz bv0 bv1
  clear bxz bx0 bx1
  clear byz by0 by1
  replace hp := hp.of hb26
  replace hh := hh.of hb26
  replace hN6 := hN6.of hb26
  replace hH8 := hH8.of hb26
  replace hN8 := hN8.of hb26
  replace hq := hq.of hb26
  replace hQx := hQx.of hb26
  replace hg := hg.of hb26
  replace hf := hf.of hb26
  replace hFx := hFx.of hb26
  replace hbt := hbt.of hb26
  replace hbu := hbu.of hb26
  replace hbs := hbs.of hb26
  replace hbv := hbv.of hb26
  replace hbx := hbx.of hb26
  replace hby := hby.of hb26
  replace hB := below_thru hB hb26
  clear hb26
  have ⟨btz, bt0, bt1, bt2⟩ := hbt
  have ⟨buz, bu0, bu1, bu2⟩ := hbu
  obtain ⟨bsz, bs0, bs1, -, -⟩ := hbs.open2
  obtain ⟨bvz, bv0, bv1, -, -⟩ := hbv.open2
  obtain ⟨bxz, bx0, bx1, -, -⟩ := hbx.open2
  obtain ⟨byz, by0, by1, -, -⟩ := hby.open2
  go_wp2_with fail
  go_at_call 26
  refine (ref25_SameV 2 _ _ _ _ _ _ oneQ _ hq hQx (by omega)).mono ?_
  rintro e27 w27 ⟨rfl, hb27⟩
  clear btz bt0 bt1 bt2
  clear buz bu0 bu1 bu2
  clear bsz bs0 bs1
  clear bvz bv0 bv1
  clear bxz bx0 bx1
  clear byz by0 by1
  replace hp := hp.of hb27
  replace hh := hh.of hb27
  replace hN6 := hN6.of hb27
  replace hH8 := hH8.of hb27
  replace hN8 := hN8.of hb27
  replace hq := hq.of hb27
  replace hQx := hQx.of hb27
  replace hg := hg.of hb27
  replace hf := hf.of hb27
  replace hFx := hFx.of hb27
  replace hbt := hbt.of hb27
  replace hbu := hbu.of hb27
  replace hbs := hbs.of hb27
  replace hbv := hbv.of hb27
  replace hbx := hbx.of hb27
  replace hby := hby.of hb27
  replace hB := below_thru hB hb27
  clear hb27
  have ⟨btz, bt0, bt1, bt2⟩ := hbt
  have ⟨buz, bu0, bu1, bu2⟩ := hbu
  obtain ⟨bsz, bs0, bs1, -, -⟩ := hbs.open2
  obtain ⟨bvz, bv0, bv1, -, -⟩ := hbv.open2
  obtain ⟨bxz, bx0, bx1, -, -⟩ := hbx.open2
  obtain ⟨byz, by0, by1, -, -⟩ := hby.open2
  go_wp2_with fail
  have kS := ref54_Same 2 2 _ _ _ 2 _ fc frsS frsS w27 hf hFx smT_frs smT_frs (by omega)
  rw [tlS_selfA] at kS
  go_at_call 32
  refine (kS).mono ?_
  rintro e28 w28 ⟨rfl, hb28⟩
  clear btz bt0 bt1 bt2
  clear buz bu0 bu1 bu2
  clear bsz bs0 bs1
  clear bvz bv0 bv1
  clear bxz bx0 bx1
  clear byz by0 by1
  replace hp := hp.of hb28
  replace hh := hh.of hb28
  replace hN6 := hN6.of hb28
  replace hH8 := hH8.of hb28
  replace hN8 := hN8.of hb28
  replace hq := hq.of hb28
  replace hQx := hQx.of hb28
  replace hg := hg.of hb28
  replace hf := hf.of hb28
  replace hFx := hFx.of hb28
  replace hbt := hbt.of hb28
  replace hbu := hbu.of hb28
  replace hbs := hbs.of hb28
  replace hbv := hbv.of hb28
  replace hbx := hbx.of hb28
  replace hby := hby.of hb28
  replace hB := below_thru hB hb28
  clear hb28
  go_wp2_with fail
  go_ret
  exact ⟨rfl, hB⟩
end Go.Proofs.YtmenokhnanghgaaGreat
