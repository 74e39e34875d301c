/- The contracts of slices.Clone, slices.SortFunc, slices.Compact at positions, and of point.Sort. -/
import Derived.Test.YtnhnkmppmicjoaaProg
import Derived.Test.YtnhnkmppmicjoaaCmp
import Derived.Test.YtnhnkmppmicjoaaEq
import Derived.Test.YtnhnkmppmicjoaaSortB
import Derived.Test.YtnhnkmppmicjoaaClear
import Derived.Shelf.SlGeneric
import Derived.Shelf.SlSortCmp.NoneTotal
import Derived.Ground.SlsfProg
namespace Go.Proofs.Ytnhnkmppmicjoaa
open Go Go.RowKit Go.Shelf Go.Sort
set_option linter.unusedSimpArgs false
set_option linter.unusedVariables false
set_option maxRecDepth 100000
attribute [local go_sem ↓ high] eq_pt neq_pt
shelf_lay_g SlLaysF0.n6 Slsf 6 at Try 56 as Try.sortPt
/-- The order of positions. -/
def befQ (p q : Int × Int) : Bool := befP p.1 p.2 q.1 q.2
def cmpQ (p q : Int × Int) : Int := cmpP p.1 p.2 q.1 q.2
theorem lin_befQ : Lin befQ := by
  refine ⟨fun a => ?_, fun a b c => ?_, fun a b => ?_⟩
  · unfold befQ befP; exact decide_eq_false (by omega)
  · unfold befQ befP; simp only [decide_eq_true_eq]; omega
  · unfold befQ befP; simp only [decide_eq_true_eq]
    obtain ⟨a1, a2⟩ := a
    obtain ⟨b1, b2⟩ := b
    simp only [Prod.mk.injEq]; omega
theorem lt_cmpQ (x y : Int × Int) : ltOf cmpQ x y = befQ x y := by
  unfold ltOf cmpQ cmpP befQ befP orI cmpI
  rw [Bool.eq_iff_iff]
  simp only [decide_eq_true_eq]
  repeat' split
  all_goals omega
theorem swo_of_lin {α : Type} {lt : α → α → Bool} (h : Lin lt) : SWO lt := ⟨h.irr, h.tr, fun x y z h1 h2 => by
  cases h3 : lt x z with
  | false => rfl
  | true =>
    rcases h.tot x y with a | a | a
    · rw [h1] at a; cases a
    · subst a; rw [h2] at h3; cases h3
    · have := h.tr _ _ _ a h3; rw [h2] at this; cases this⟩
theorem swo_cmpQ : SWO (ltOf cmpQ) := by
  have e : ltOf cmpQ = befQ := by funext x y; exact lt_cmpQ x y
  rw [e]; exact swo_of_lin lin_befQ
set_option maxHeartbeats 400000 in
theorem clone_pt (A : Option Addr) (n c : Nat) (l : List (Int × Int)) (w : World) (hR : Rd encP 2 w A n l) (hn : n ≤ 1000000) :
    Calls Try.prog 55 #[.slice A n c] w fun e w' => ∃ A' c', e = .returned (.slice A' n c') ∧ Own encP 2 23 w.heap.size w' A' n c' l ∧ Below w.heap.size w w' := by
  have q22 : ∀ (w : World) (a : Option Addr) (n c n' c' : Nat), (binOp .eql 24 (.slice a n c) (.slice none n' c')).run Try.prog w = .ok (.bool a.isNone) w := fun w a n c n' c' => Lib.run_eql_slice_nil w _ _ a n c n' c' Try.underlying24
  cases A with
  | none =>
    have hz : n = 0 := by
      rcases Nat.eq_zero_or_pos n with h | h
      · exact h
      · obtain ⟨b, o, e, _⟩ := hR.2 h; cases e
    subst hz
    obtain rfl : l = [] := List.length_eq_zero_iff.1 hR.len
    clear hR
    go_enter Try.func55, Try.ntmps55
    go_wp2
    go_ret
    exact ⟨none, 0, rfl, Own.nil_, by (repeat' (first | exact Below.refl _ _ | assumption | (refine Below.alloc ?_ ?_ _) | (refine Below.setCell ?_ ?_ _) | (refine Below.drew ?_) | (refine below_drewN ?_ _) | (refine below_after (Ext.below _) ?_ ?_) | (refine below_after (by assumption) ?_ ?_) | (simp; done) | omega | (simp; omega)))⟩
  | some ad =>
    obtain ⟨i0, hi0, hz0, hz1, hz2⟩ := info_parts (show (Try.prog.info? 23).map (fun i => (i.zero, i.size, i.bytes)) = some (some (.agg #[.int .i64 0, .int .i64 0]), 2, 16) by kernel_rfl)
    have hnews : Hid (∀ j u, (l.flatMap encP)[j]? = some u → w.cell? (ad.add j) = some u) := by
      intro j u hu
      have hj : j < n * 2 := by have := (List.getElem?_eq_some_iff.1 hu).1; rwa [flatMap_len encP_len, hR.len] at this
      obtain ⟨x, b, o, hx, e, hb, hcell⟩ := hR.elem (i := j / 2) (by omega)
      injection e with e
      subst e
      have e1 : (encP x)[j % 2]? = some ((encP x)[j % 2]'(by rw [encP_len]; omega)) := List.getElem?_eq_getElem _
      have e2 := flatMap_get encP_len l (j / 2) x hx (j % 2) _ e1
      rw [show j / 2 * 2 + j % 2 = j by omega, hu] at e2
      injection e2 with e2
      have h3 := hcell (j % 2) _ e1
      rw [show o + j / 2 * 2 + j % 2 = o + j by omega] at h3
      have ha : (⟨b, o, none⟩ : Addr).add j = ⟨b, o + j, none⟩ := by unfold Addr.add; split <;> simp_all
      rw [ha, h3, e2]
    have hlen := hR.len
    clear hR
    go_enter Try.func55, Try.ntmps55
    go_wp2_with (at_builtin; refine wpList_append_own _ rfl _ _ 24 rfl w.heap.size 23 i0 _ 2 16 Try.underlying24 hi0 hz0 hz1 hz2 rfl (by omega) _ _ _ rfl (World.ownsRow_made w #[] 0 (Nat.le_refl _) (Nat.zero_le _) (by simp)) ad n c (l.flatMap encP) rfl ?qc1 ?qc2 ?qc3 ?qc4 ?qc5 ?qc6 ?_)
    case qc1 => rw [flatMap_len encP_len, hlen]
    case qc2 =>
      intro j u hu
      exact Lib.cell?_alloc_some _ (hnews.out j u hu)
    case qc3 =>
      intro u hu
      obtain ⟨x, _, hx⟩ := List.mem_flatMap.1 hu
      exact encP_one x u hx
    case qc4 => unfold maxLen; omega
    case qc5 => omega
    case qc6 => simp
    intro v' w1 hown hgrow hnil
    have hB : Below w.heap.size w w1 := ((Below.refl _ w).alloc (Nat.le_refl _) _).grown hgrow (by simp) (by intro k hk; simp [Value.ownBlock] at hk; omega)
    have hown' : w1.ownsRow w.heap.size 23 2 v' n (l.flatMap encP) := by simpa using hown
    have hex : ∃ A' c', v' = .slice A' n c' := by
      rcases hown'.2 with ⟨h1, h2⟩ | ⟨g, cap, cur, h1, _⟩
      · exact ⟨none, 0, by rw [h1, h2]⟩
      · exact ⟨_, _, h1⟩
    obtain ⟨A', c', rfl⟩ := hex
    go_wp2
    go_ret
    exact ⟨A', c', rfl, ⟨hown', hlen⟩, hB⟩
set_option maxHeartbeats 400000 in
theorem point_CompareG (ax ay bx bx' : Int) (w : World) : Calls Try.prog 17 #[.agg #[.int .i64 ax, .int .i64 ay], .agg #[.int .i64 bx, .int .i64 bx']] w fun e w' => e = .returned (.int .i64 (cmpP ax ay bx bx')) ∧ ∃ q os, w' = grow (w.drewN q) os := by
  go_enter Try.func17, Try.ntmps17
  go_wp2
  refine wp_region_still_tail 10 (by kernel_rfl) (by kernel_rfl) ?_
  simp only [List.take_succ_cons, List.take_zero, List.drop_succ_cons, List.drop_zero]
  change wpStill _ _ (World.drew _) (fun a' => wpList _ _ _ _ a' (World.drew _)) _ _
  have hb : Below (w.heap.size + 2) ((w.alloc (.cells #[.int .i64 ax, .int .i64 ay] 23)).alloc (.cells #[.int .i64 bx, .int .i64 bx'] 23)) ((w.alloc (.cells #[.int .i64 ax, .int .i64 ay] 23)).alloc (.cells #[.int .i64 bx, .int .i64 bx'] 23)).drew := (Below.refl _ _).drew
  have hW : Hid (((w.alloc (.cells #[.int .i64 ax, .int .i64 ay] 23)).alloc (.cells #[.int .i64 bx, .int .i64 bx'] 23)).drew = grow (w.drewN 1) #[.cells #[.int .i64 ax, .int .i64 ay] 23, .cells #[.int .i64 bx, .int .i64 bx'] 23]) := by
    show _ = _
    rw [alloc_eq_grow, alloc_eq_grow, grow_grow]; rfl
  generalize ((w.alloc (.cells #[.int .i64 ax, .int .i64 ay] 23)).alloc (.cells #[.int .i64 bx, .int .i64 bx'] 23)).drew = W at hb hW ⊢
  have hs := hb.size
  simp only [World.size_alloc] at hs
  have c0 : W.cell? ⟨w.heap.size, 0, none⟩ = some (.int .i64 ax) := by rw [hb.cell (p := ⟨w.heap.size, 0, none⟩) (by show w.heap.size < _; omega)]; simp [cell_alloc_if, cellOf]
  have c1 : W.cell? ⟨w.heap.size, 1, none⟩ = some (.int .i64 ay) := by rw [hb.cell (p := ⟨w.heap.size, 1, none⟩) (by show w.heap.size < _; omega)]; simp [cell_alloc_if, cellOf]
  have c2 : W.cell? ⟨w.heap.size + 1, 0, none⟩ = some (.int .i64 bx) := by rw [hb.cell (p := ⟨w.heap.size + 1, 0, none⟩) (by show w.heap.size + 1 < _; omega)]; simp [cell_alloc_if, cellOf]
  have c3 : W.cell? ⟨w.heap.size + 1, 1, none⟩ = some (.int .i64 bx') := by rw [hb.cell (p := ⟨w.heap.size + 1, 1, none⟩) (by show w.heap.size + 1 < _; omega)]; simp [cell_alloc_if, cellOf]
  repeat still_step
  still_call (cmp_CompareS _ _ _)
  repeat still_step
  still_call (cmp_CompareS _ _ _)
  refine wpStill_nil ?_
  have hl := (Own.lit encI_len W 3 W.heap.size (Nat.le_refl _) [cmpI ay bx', cmpI ax bx] 2 rfl (by omega) [.int .i64 (cmpI ay bx'), .int .i64 (cmpI ax bx)] rfl).rd encI_len
  show wpList _ _ _ _ _ _
  go_wp2_with fail
  go_at_call 58
  refine (cmp_Or2 _ _ _ _ _ hl).mono ?_
  rintro e w' ⟨rfl, rfl⟩
  go_wp2_with fail
  go_ret
  exact ⟨rfl, 1, _, by rw [hW.out, alloc_eq_grow, grow_grow]⟩
/-- slices.SortFunc at a row of the call's own, with a comparison that is a strict weak order. -/
theorem sortFunc_pt (g : Nat) (cf : Int × Int → Int × Int → Int) (hO : SWO (ltOf cf)) (eg : ∀ args w, (callFunc g args).run Try.prog w = .ok (.enter g args) w)
    (hcmp : ∀ (x y : Int × Int) (W : World), Calls Try.prog g #[.agg (encP x).toArray, .agg (encP y).toArray] W fun e w' => e = .returned (.int .i64 (cf x y)) ∧ ∃ q os, w' = grow (W.drewN q) os)
    (B : Nat) (A : Option Addr) (n c : Nat) (l : List (Int × Int)) (w : World) (hown : Own encP 2 23 B w A n c l) (hB : B ≤ w.heap.size) (hn : n ≤ 1000000) :
    Calls Try.prog 56 #[.slice A n c, .func (.func g) #[] #[]] w fun e w' => e = .returned (.tuple #[]) ∧ ∃ l', Own encP 2 23 B w' A n c l' ∧ l'.Perm l ∧ (l'.Pairwise fun a b => ltOf cf b a = false) ∧ Below B w w' := by
  rcases hown.row.2 with ⟨h0, hz⟩ | ⟨gb, cap, cur, hv, hg, hrest⟩
  · injection h0 with h1 h2 h3
    subst h1 hz h3
    obtain rfl : l = [] := List.length_eq_zero_iff.1 hown.len
    have h := AnyF.slices_SortFunc_none (P := Try.prog) { Try.sortPt with } none 0 (.func (.func g) #[] #[]) w
    refine Calls.mono h ?_
    rintro e w' ⟨rfl, rfl⟩
    exact ⟨rfl, [], hown, List.Perm.refl _, List.Pairwise.nil, Below.refl _ _⟩
  · injection hv with h1 _ h3
    subst h1 h3
    obtain ⟨hbg, hlt⟩ := own_lt hown
    have hl : l.toArray.size = n := by simpa using hown.len
    have h := AnyQ.slices_SortFunc Try.sortPt 2 Try.isAgg23 Try.sizeOf23 encP encP_len encP_one cf hO g #[] gb 0 c l.toArray w eg
      (fun _ _ _ _ x y => hcmp x y _) (own_holdsK encP_len (by omega) hown) hlt (by omega)
    change Calls Try.prog 56 _ _ _ at h
    rw [hl] at h
    refine h.mono ?_
    rintro e w' ⟨rfl, d', m, os, hp, hs, rfl⟩
    rw [← hl] at hp hs
    obtain ⟨l', rfl, hperm, hpw⟩ := sorted_list hp hs
    have hl' : l'.length = n := by rw [hperm.length_eq, hown.len]
    exact ⟨rfl, l', own_sorted encP_len (by omega) hown hl' m os, hperm, hpw, below_sorted l'.toArray hbg hlt m os⟩
end Go.Proofs.Ytnhnkmppmicjoaa
