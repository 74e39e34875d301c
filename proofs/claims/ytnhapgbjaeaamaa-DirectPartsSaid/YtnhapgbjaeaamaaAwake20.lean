/- The fixed examples of chapter 20. -/
import Derived.Test.YtnhapgbjaeaamaaLaw20a
namespace Go.Proofs.Ytnhapgbjaeaamaa
open Go Go.RowKit
set_option linter.unusedSimpArgs false
set_option linter.unusedVariables false
set_option maxRecDepth 100000
set_option linter.unusedSimpArgs false
set_option linter.unusedVariables false
def hood20 : List (Int × Int) := [(0, 0), (1, 0)]
def node20 : List (Int × List Int) := [(1, [0, 1]), (1, [1, 0]), (2, [0, 1])]
theorem ev20_1 : stpE 2 hood20 node20 [(3, 0, 1)] = 0 := by decide +kernel
theorem ev20_2 : stpL 2 hood20 node20 [(3, 0, 1)] = [(2, 0, 1), (3, 0, 1)] := by decide +kernel
theorem ev20_3 : runE 2 hood20 node20 [(3, 0, 1)] 2 = 0 := by decide +kernel
theorem ev20_4 : runL 2 hood20 node20 [(3, 0, 1)] 2 = [(1, 0, 1), (3, 0, 1)] := by decide +kernel
theorem ev20_5 : runE 2 hood20 node20 [] 3 = 0 := by decide +kernel
theorem ev20_6 : (hisL 2 hood20 node20 [] 3).length = 4 := by decide +kernel
theorem ev20_7 : nxE 2 hood20 node20 [(3, 0, 1)] 2 0 = 0 := by decide +kernel
theorem ev20_8 : nxV 2 hood20 node20 [(3, 0, 1)] 2 0 = 1 := by decide +kernel
theorem ev20_9 : stpE 0 [] [] [] = 11 := by decide +kernel
theorem ev20_10 : runE 2 hood20 node20 [] (-1) = 2 := by decide +kernel
theorem rdX_litK {α β : Type} (K : EK α β) (W : World) (t : TypeId) (hs : List α) (ls : List β) (cs : Array Value) (n : Nat) (hn : hs.length = n) (hm : n ≤ 1000000) (hcs : cs.toList = hs.flatMap K.enc) (h : K.All W hs ls) : RdX K (W.alloc (.cells cs t)) (some ⟨W.heap.size, 0, none⟩) n ls := by
  have ho := (Own.lit K.len W t W.heap.size (Nat.le_refl _) hs n hn (by omega) cs.toList hcs).rd K.len
  rw [Array.toArray_toList] at ho
  exact ⟨hs, ho, h.of ((Below.refl _ _).alloc (Nat.le_refl _) _)⟩
theorem all3 {α β : Type} {K : EK α β} {W : World} {a1 a2 a3 : α} {b1 b2 b3 : β} (h1 : K.rel W a1 b1) (h2 : K.rel W a2 b2) (h3 : K.rel W a3 b3) : K.All W [a1, a2, a3] [b1, b2, b3] := ((EK.All.nil_.snoc h1).snoc h2).snoc h3
theorem lit20 (W : World) : Rd encP 2 (((((W.alloc (.cells #[.int .i64 0, .int .i64 0, .int .i64 1, .int .i64 0] 35)).alloc (.cells #[.int .i64 0, .int .i64 1] 3)).alloc (.cells #[.int .i64 1, .int .i64 0] 3)).alloc (.cells #[.int .i64 0, .int .i64 1] 3)).alloc (.cells #[.int .i64 1, .slice (some ⟨W.heap.size + 1, 0, none⟩) 2 2, .int .i64 1, .slice (some ⟨W.heap.size + 1 + 1, 0, none⟩) 2 2, .int .i64 2, .slice (some ⟨W.heap.size + 1 + 1 + 1, 0, none⟩) 2 2] 76)) (some ⟨W.heap.size, 0, none⟩) 2 hood20 ∧
    RdX ekN (((((W.alloc (.cells #[.int .i64 0, .int .i64 0, .int .i64 1, .int .i64 0] 35)).alloc (.cells #[.int .i64 0, .int .i64 1] 3)).alloc (.cells #[.int .i64 1, .int .i64 0] 3)).alloc (.cells #[.int .i64 0, .int .i64 1] 3)).alloc (.cells #[.int .i64 1, .slice (some ⟨W.heap.size + 1, 0, none⟩) 2 2, .int .i64 1, .slice (some ⟨W.heap.size + 1 + 1, 0, none⟩) 2 2, .int .i64 2, .slice (some ⟨W.heap.size + 1 + 1 + 1, 0, none⟩) 2 2] 76)) (some ⟨W.heap.size + 1 + 1 + 1 + 1, 0, none⟩) 3 node20 ∧
    Below W.heap.size W (((((W.alloc (.cells #[.int .i64 0, .int .i64 0, .int .i64 1, .int .i64 0] 35)).alloc (.cells #[.int .i64 0, .int .i64 1] 3)).alloc (.cells #[.int .i64 1, .int .i64 0] 3)).alloc (.cells #[.int .i64 0, .int .i64 1] 3)).alloc (.cells #[.int .i64 1, .slice (some ⟨W.heap.size + 1, 0, none⟩) 2 2, .int .i64 1, .slice (some ⟨W.heap.size + 1 + 1, 0, none⟩) 2 2, .int .i64 2, .slice (some ⟨W.heap.size + 1 + 1 + 1, 0, none⟩) 2 2] 76)) := by
  have k0 := rd_litP W hood20 #[.int .i64 0, .int .i64 0, .int .i64 1, .int .i64 0] 2 rfl (by omega) rfl
  have k1 := rd_litI (W.alloc (.cells #[.int .i64 0, .int .i64 0, .int .i64 1, .int .i64 0] 35)) [0, 1] #[.int .i64 0, .int .i64 1] 2 rfl (by omega) rfl
  have k2 := rd_litI ((W.alloc (.cells #[.int .i64 0, .int .i64 0, .int .i64 1, .int .i64 0] 35)).alloc (.cells #[.int .i64 0, .int .i64 1] 3)) [1, 0] #[.int .i64 1, .int .i64 0] 2 rfl (by omega) rfl
  have k3 := rd_litI (((W.alloc (.cells #[.int .i64 0, .int .i64 0, .int .i64 1, .int .i64 0] 35)).alloc (.cells #[.int .i64 0, .int .i64 1] 3)).alloc (.cells #[.int .i64 1, .int .i64 0] 3)) [0, 1] #[.int .i64 0, .int .i64 1] 2 rfl (by omega) rfl
  simp only [World.size_alloc] at k1 k2 k3
  have h := rdX_litK ekN ((((W.alloc (.cells #[.int .i64 0, .int .i64 0, .int .i64 1, .int .i64 0] 35)).alloc (.cells #[.int .i64 0, .int .i64 1] 3)).alloc (.cells #[.int .i64 1, .int .i64 0] 3)).alloc (.cells #[.int .i64 0, .int .i64 1] 3)) 76 [(1, some ⟨W.heap.size + 1, 0, none⟩, 2, 2), (1, some ⟨W.heap.size + 1 + 1, 0, none⟩, 2, 2), (2, some ⟨W.heap.size + 1 + 1 + 1, 0, none⟩, 2, 2)] node20 #[.int .i64 1, .slice (some ⟨W.heap.size + 1, 0, none⟩) 2 2, .int .i64 1, .slice (some ⟨W.heap.size + 1 + 1, 0, none⟩) 2 2, .int .i64 2, .slice (some ⟨W.heap.size + 1 + 1 + 1, 0, none⟩) 2 2] 3 rfl (by omega) rfl
    (all3 ⟨rfl, k1.of (by (repeat' (first | exact Below.refl _ _ | assumption | (refine Below.alloc ?_ ?_ _) | (refine Below.setCell ?_ ?_ _) | (refine Below.drew ?_) | (refine below_drewN ?_ _) | (refine below_after (Ext.below _) ?_ ?_) | (refine below_after (by assumption) ?_ ?_) | (simp; done) | omega | (simp; omega)))), by simp⟩ ⟨rfl, k2.of (by (repeat' (first | exact Below.refl _ _ | assumption | (refine Below.alloc ?_ ?_ _) | (refine Below.setCell ?_ ?_ _) | (refine Below.drew ?_) | (refine below_drewN ?_ _) | (refine below_after (Ext.below _) ?_ ?_) | (refine below_after (by assumption) ?_ ?_) | (simp; done) | omega | (simp; omega)))), by simp⟩ ⟨rfl, k3.of (by (repeat' (first | exact Below.refl _ _ | assumption | (refine Below.alloc ?_ ?_ _) | (refine Below.setCell ?_ ?_ _) | (refine Below.drew ?_) | (refine below_drewN ?_ _) | (refine below_after (Ext.below _) ?_ ?_) | (refine below_after (by assumption) ?_ ?_) | (simp; done) | omega | (simp; omega)))), by simp⟩)
  simp only [World.size_alloc] at h
  exact ⟨k0.of (by (repeat' (first | exact Below.refl _ _ | assumption | (refine Below.alloc ?_ ?_ _) | (refine Below.setCell ?_ ?_ _) | (refine Below.drew ?_) | (refine below_drewN ?_ _) | (refine below_after (Ext.below _) ?_ ?_) | (refine below_after (by assumption) ?_ ?_) | (simp; done) | omega | (simp; omega)))), h, by (repeat' (first | exact Below.refl _ _ | assumption | (refine Below.alloc ?_ ?_ _) | (refine Below.setCell ?_ ?_ _) | (refine Below.drew ?_) | (refine below_drewN ?_ _) | (refine below_after (Ext.below _) ?_ ?_) | (refine below_after (by assumption) ?_ ?_) | (simp; done) | omega | (simp; omega)))⟩
theorem law_parity (w : World) : Calls Try.prog 27 #[] w fun e w' => ∃ A B, e = .returned (.agg #[.int .i64 2, .slice A 2 2, .slice B 3 3]) ∧ Rd encP 2 w' A 2 hood20 ∧ RdX ekN w' B 3 node20 ∧ Below w.heap.size w w' := by
  go_enter Try.func27, Try.ntmps27
  go_wp2_with fail
  obtain ⟨h1, h2, h3⟩ := lit20 (w.alloc (.cells #[.int .i64 2, .slice (some ⟨w.heap.size + 1, 0, none⟩) 2 2, .slice (some ⟨w.heap.size + 1 + 1 + 1 + 1 + 1, 0, none⟩) 3 3] 25))
  have h4 := below_thru ((Below.refl w.heap.size w).alloc (Nat.le_refl _) (.cells #[.int .i64 2, .slice (some ⟨w.heap.size + 1, 0, none⟩) 2 2, .slice (some ⟨w.heap.size + 1 + 1 + 1 + 1 + 1, 0, none⟩) 3 3] 25)) h3
  refine bodyPost_ret (v := .agg #[.int .i64 2, .slice (some ⟨w.heap.size + 1, 0, none⟩) 2 2, .slice (some ⟨w.heap.size + 1 + 1 + 1 + 1 + 1, 0, none⟩) 3 3]) (by simp [results, Try.results27, go_sem, *, ↓IntWalk.iteOmega]) rfl ?_
  simp only [World.size_alloc] at h1 h2 h4
  exact ⟨_, _, rfl, h1, h2, h4⟩
section
variable {A B D : Option Addr} {c d k e : Nat} {w : World}
theorem step20V (hH : Rd encP 2 w A 2 hood20) (hN : RdX ekN w B 3 node20) (hR : Rd encC 3 w D 1 [(3, 0, 1)]) :
    Calls Try.prog 11 #[.agg #[.int .i64 2, .slice A 2 c, .slice B 3 d], .slice D 1 e] w fun e w' => ∃ A2 c2, e = .returned (.tuple #[.slice A2 2 c2, .int .i64 0]) ∧ Rd encC 3 w' A2 2 [(2, 0, 1), (3, 0, 1)] ∧ Below w.heap.size w w' := by
  refine (direct_Step 2 A B D 2 c 3 d 1 e hood20 node20 [(3, 0, 1)] w hH hN hR (by omega)).mono ?_
  rintro e w' ⟨A2, n2, c2, rfl, h2, hb⟩
  rw [ev20_1]
  rw [ev20_2] at h2
  obtain rfl : n2 = 2 := h2.rd.len.symm
  exact ⟨A2, c2, rfl, h2.rd, hb⟩
theorem run20V (hH : Rd encP 2 w A 2 hood20) (hN : RdX ekN w B 3 node20) (hR : Rd encC 3 w D 1 [(3, 0, 1)]) (he : 1 ≤ e) :
    Calls Try.prog 17 #[.agg #[.int .i64 2, .slice A 2 c, .slice B 3 d], .slice D 1 e, .int .i64 2] w fun e w' => ∃ A2 c2, e = .returned (.tuple #[.slice A2 2 c2, .int .i64 0]) ∧ Rd encC 3 w' A2 2 [(1, 0, 1), (3, 0, 1)] ∧ Below w.heap.size w w' := by
  refine (direct_Run 2 A B D 2 c 3 d 1 e hood20 node20 [(3, 0, 1)] w 2 hH hN hR (by omega) he).mono ?_
  rintro e w' ⟨A2, n2, c2, rfl, h2, _, hb⟩
  rw [ev20_3]
  rw [ev20_4] at h2
  obtain rfl : n2 = 2 := h2.len.symm
  exact ⟨A2, c2, rfl, h2, hb⟩
theorem his20V (hH : Rd encP 2 w A 2 hood20) (hN : RdX ekN w B 3 node20) :
    Calls Try.prog 19 #[.agg #[.int .i64 2, .slice A 2 c, .slice B 3 d], .slice none 0 0, .int .i64 3] w fun e w' => ∃ A2 c2, e = .returned (.tuple #[.slice A2 4 c2, .int .i64 0]) ∧ Below w.heap.size w w' := by
  refine (direct_History 2 A B none 2 c 3 d 0 0 hood20 node20 [] w 3 hH hN Rd.nil_ (by omega) (by omega)).mono ?_
  rintro e w' ⟨A2, n2, c2, rfl, h2, _, hb⟩
  rw [ev20_5]
  obtain rfl : n2 = 4 := by rw [← h2.len, ev20_6]
  exact ⟨A2, c2, rfl, hb⟩
theorem next20V (hH : Rd encP 2 w A 2 hood20) (hN : RdX ekN w B 3 node20) (hR : Rd encC 3 w D 1 [(3, 0, 1)]) :
    Calls Try.prog 14 #[.agg #[.int .i64 2, .slice A 2 c, .slice B 3 d], .slice D 1 e, .int .i64 2, .int .i64 0] w fun e w' => e = .returned (.tuple #[.int .i64 1, .int .i64 0]) ∧ Below w.heap.size w w' := by
  have h := direct_Next 2 A B D 2 c 3 d 1 e hood20 node20 [(3, 0, 1)] w 2 0 hH hN hR (by omega)
  rw [ev20_7, ev20_8] at h
  exact h
theorem bad20V (w : World) :
    Calls Try.prog 11 #[.agg #[.int .i64 0, .slice none 0 0, .slice none 0 0], .slice none 0 0] w fun e w' => ∃ A2 n2 c2, e = .returned (.tuple #[.slice A2 n2 c2, .int .i64 11]) ∧ Below w.heap.size w w' := by
  refine (direct_Step 0 none none none 0 0 0 0 0 0 [] [] [] w Rd.nil_ RdX.nil_ Rd.nil_ (by omega)).mono ?_
  rintro e w' ⟨A2, n2, c2, rfl, h2, hb⟩
  rw [ev20_9]
  exact ⟨A2, n2, c2, rfl, hb⟩
theorem arg20V (hH : Rd encP 2 w A 2 hood20) (hN : RdX ekN w B 3 node20) :
    Calls Try.prog 17 #[.agg #[.int .i64 2, .slice A 2 c, .slice B 3 d], .slice none 0 0, .int .i64 (-1)] w fun e w' => ∃ A2 n2 c2, e = .returned (.tuple #[.slice A2 n2 c2, .int .i64 2]) ∧ Below w.heap.size w w' := by
  refine (direct_Run 2 A B none 2 c 3 d 0 0 hood20 node20 [] w (-1) hH hN Rd.nil_ (by omega) (by omega)).mono ?_
  rintro e w' ⟨A2, n2, c2, rfl, h2, _, hb⟩
  rw [ev20_10]
  exact ⟨A2, n2, c2, rfl, hb⟩
end
theorem life20 (W : World) (x : Int) : Calls Try.prog 28 #[.slice (some ⟨W.heap.size, 0, none⟩) 1 1] (W.alloc (.cells #[.int .i64 x, .int .i64 0] 35)).drew fun e w' => ∃ E g, e = .returned (.slice E 1 g) ∧ Rd encC 3 w' E 1 [(x, 0, 1)] ∧ 1 ≤ g ∧ Below (W.alloc (.cells #[.int .i64 x, .int .i64 0] 35)).drew.heap.size (W.alloc (.cells #[.int .i64 x, .int .i64 0] 35)).drew w' :=
  (law_Life _ 1 1 _ [(x, 0)] ((rd_litP W [(x, 0)] #[.int .i64 x, .int .i64 0] 1 rfl (by omega) rfl).drew) (by omega)).mono fun _ _ ⟨E, g, h1, h2, h3⟩ => ⟨E, g, h1, h2.rd, h2.cap, h3⟩
theorem life20B (W : World) (x y : Int) : Calls Try.prog 28 #[.slice (some ⟨W.heap.size, 0, none⟩) 2 2] (W.alloc (.cells #[.int .i64 x, .int .i64 0, .int .i64 y, .int .i64 0] 35)) fun e w' => ∃ E g, e = .returned (.slice E 2 g) ∧ Rd encC 3 w' E 2 [(x, 0, 1), (y, 0, 1)] ∧ Below W.heap.size W w' :=
  (law_Life _ 2 2 _ [(x, 0), (y, 0)] (rd_litP W [(x, 0), (y, 0)] #[.int .i64 x, .int .i64 0, .int .i64 y, .int .i64 0] 2 rfl (by omega) rfl) (by omega)).mono fun _ _ ⟨E, g, h1, h2, h3⟩ => ⟨E, g, h1, h2.rd, below_thru ((Below.refl _ _).alloc (Nat.le_refl _) _) h3⟩
set_option maxHeartbeats 8000000 in
theorem awake_20 (w : World) : Calls Try.prog 10 #[] w fun e w' => e = .returned (.bool true) ∧ Below w.heap.size w w' := by
  go_enter Try.func10, Try.ntmps10
  go_wp2_with fail
  go_at_call 27
  refine (law_parity w).mono ?_
  rintro e1 w1 ⟨A, B, rfl, hH1, hN1, hB1⟩
  go_wp2_with fail
  have hbx := TrAt.new w1 (.int .i64 2) (.slice A 2 2) (.slice B 3 3) 25
  have hbe : Below w1.heap.size w1 (w1.alloc (.cells #[.int .i64 2, .slice A 2 2, .slice B 3 3] 25)) := (Below.refl _ _).alloc (Nat.le_refl _) _
  obtain ⟨we, hwe⟩ : ∃ we, we = w1.alloc (.cells #[.int .i64 2, .slice A 2 2, .slice B 3 3] 25) := ⟨_, rfl⟩
  rw [← hwe] at hbx hbe ⊢
  have hB : Below w.heap.size w we := below_thru hB1 hbe
  have hH := hH1.of hbe
  have hN := hN1.of hbe
  clear hwe hB1 hbe hH1 hN1
  obtain ⟨bt, hbt⟩ : ∃ bt, bt = w1.heap.size := ⟨_, rfl⟩
  rw [← hbt] at hbx ⊢
  clear hbt
  go_region_held3 (fun w' => FrW we w' ∧ w'.cell? ⟨bt, 0, none⟩ = some (.int .i64 2) ∧ w'.cell? ⟨bt, 1, none⟩ = some (.slice A 2 2) ∧ w'.cell? ⟨bt, 2, none⟩ = some (.slice B 3 3))
    (((try go_split_ands); refine FrW.tr ?_ hbx; first | exact FrW.drew (FrW.here _) | exact FrW.drew (FrW.alloc (FrW.here _) _) | exact FrW.of ‹_› hb | exact FrW.drew ‹_› | exact FrW.alloc ‹_› _ | fail))
    ((first
    | (go_at_call 28; (try go_split_ands); refine (life20 we 3).mono ?_; rintro e7 w7 ⟨E7, g7, rfl, hL7, hg7, hb⟩)
    | (go_at_call 11; (try go_split_ands); refine (step20V (hH.of (FrW.below ‹_›)) (hN.of (FrW.below ‹_›)) hL7).mono ?_; rintro e2 w2 ⟨A2, c2, rfl, hR2, hb⟩)
    | fail))
  (try go_split_ands)
  have hB2 : Below we.heap.size we w2 := FrW.below ‹_›
  replace hbx := hbx.of hB2
  replace hH := hH.of hB2
  replace hN := hN.of hB2
  replace hB := below_thru hB hB2
  clear hL7 hg7
  go_wp2_with fail
  go_region_held3 (fun w' => FrW w2 w' ∧ w'.cell? ⟨bt, 0, none⟩ = some (.int .i64 2) ∧ w'.cell? ⟨bt, 1, none⟩ = some (.slice A 2 2) ∧ w'.cell? ⟨bt, 2, none⟩ = some (.slice B 3 3))
    (((try go_split_ands); refine FrW.tr ?_ hbx; first | exact FrW.drew (FrW.here _) | exact FrW.drew (FrW.alloc (FrW.here _) _) | exact FrW.of ‹_› hb | exact FrW.drew ‹_› | exact FrW.alloc ‹_› _ | fail))
    ((first
    | (go_at_call 28; (try go_split_ands); refine (life20 w2 3).mono ?_; rintro e7 w7 ⟨E7, g7, rfl, hL7, hg7, hb⟩)
    | (go_at_call 17; (try go_split_ands); refine (run20V (hH.of (FrW.below ‹_›)) (hN.of (FrW.below ‹_›)) hL7 hg7).mono ?_; rintro e2 w3 ⟨A3, c3, rfl, hR3, hb⟩)
    | fail))
  (try go_split_ands)
  have hB3 : Below w2.heap.size w2 w3 := FrW.below ‹_›
  replace hbx := hbx.of hB3
  replace hH := hH.of hB3
  replace hN := hN.of hB3
  replace hB := below_thru hB hB3
  clear hL7 hg7
  replace hR2 := hR2.of hB3
  clear hB2 hB3
  obtain ⟨_, t0, t1, t2⟩ := hbx
  go_wp2_with fail
  go_at_call 19
  refine (his20V hH hN).mono ?_
  rintro e4 w4 ⟨A4, c4, rfl, hB4⟩
  have hbx := TrAt.of ⟨‹_›, t0, t1, t2⟩ hB4
  replace hH := hH.of hB4
  replace hN := hN.of hB4
  replace hR2 := hR2.of hB4
  replace hR3 := hR3.of hB4
  replace hB := below_thru hB hB4
  clear t0 t1 t2 hB4
  go_wp2_with fail
  go_region_held3 (fun w' => FrW w4 w' ∧ w'.cell? ⟨bt, 0, none⟩ = some (.int .i64 2) ∧ w'.cell? ⟨bt, 1, none⟩ = some (.slice A 2 2) ∧ w'.cell? ⟨bt, 2, none⟩ = some (.slice B 3 3))
    (((try go_split_ands); refine FrW.tr ?_ hbx; first | exact FrW.drew (FrW.here _) | exact FrW.drew (FrW.alloc (FrW.here _) _) | exact FrW.of ‹_› hb | exact FrW.drew ‹_› | exact FrW.alloc ‹_› _ | fail))
    ((first
    | (go_at_call 28; (try go_split_ands); refine (life20 w4 3).mono ?_; rintro e7 w7 ⟨E7, g7, rfl, hL7, hg7, hb⟩)
    | (go_at_call 14; (try go_split_ands); refine (next20V (hH.of (FrW.below ‹_›)) (hN.of (FrW.below ‹_›)) hL7).mono ?_; rintro e2 w5 ⟨rfl, hb⟩)
    | fail))
  (try go_split_ands)
  have hB5 : Below w4.heap.size w4 w5 := FrW.below ‹_›
  replace hbx := hbx.of hB5
  replace hH := hH.of hB5
  replace hN := hN.of hB5
  replace hB := below_thru hB hB5
  clear hL7 hg7
  replace hR2 := hR2.of hB5
  replace hR3 := hR3.of hB5
  clear hB5
  go_wp2_with fail
  go_at_call 11
  refine (bad20V _).mono ?_
  rintro e6 w6 ⟨A6, n6, c6, rfl, hB6⟩
  obtain ⟨_, t0, t1, t2⟩ := hbx.of hB6
  go_wp2_with fail
  go_at_call 17
  refine (arg20V (hH.of hB6) (hN.of hB6)).mono ?_
  rintro e8 w8 ⟨A8, n8, c8, rfl, hB8⟩
  have hB68 := below_thru hB6 hB8
  replace hR2 := hR2.of hB68
  replace hR3 := hR3.of hB68
  replace hB := below_thru hB hB68
  clear hB6 hB8 hB68 t0 t1 t2 hbx hH hN
  go_wp2_with fail
  go_at_call 28
  refine (life20B w8 2 3).mono ?_
  rintro e9 w9 ⟨E9, g9, rfl, hL9, hB9⟩
  go_wp2_with fail
  go_at_call 13
  refine (ref05_SameV (q := true) (by decide) _ _ 2 2 _ _ _ (hR2.of hB9) hL9 (by omega) (by omega)).mono ?_
  rintro ea wa ⟨rfl, hBa⟩
  have hB9a := below_thru hB9 hBa
  go_wp2_with fail
  go_at_call 28
  refine (life20B wa 1 3).mono ?_
  rintro eb wb ⟨Eb, gb, rfl, hLb, hBb⟩
  go_wp2_with fail
  go_at_call 13
  refine (ref05_SameV (q := true) (by decide) _ _ 2 2 _ _ _ ((hR3.of hB9a).of hBb) hLb (by omega) (by omega)).mono ?_
  rintro ec wc ⟨rfl, hBc⟩
  have hfin := below_thru hB (below_thru hB9a (below_thru hBb hBc))
  go_wp2_with fail
  go_ret
  exact ⟨rfl, hfin⟩
end Go.Proofs.Ytnhapgbjaeaamaa
