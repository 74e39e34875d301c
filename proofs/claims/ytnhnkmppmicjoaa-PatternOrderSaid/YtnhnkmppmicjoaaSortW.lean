/- The contracts of slices.Clone, slices.SortFunc, slices.Compact at positions, and of point.Sort. -/
import Derived.Test.YtnhnkmppmicjoaaProg
import Derived.Test.YtnhnkmppmicjoaaCmp
import Derived.Test.YtnhnkmppmicjoaaEq
import Derived.Test.YtnhnkmppmicjoaaSortB
import Derived.Test.YtnhnkmppmicjoaaClear
import Derived.Shelf.SlGeneric
import Derived.Shelf.SlSortCmp.NoneTotal
import Derived.Ground.SlsfProg
namespace Go.Proofs.Ytnhnkmppmicjoaa
open Go Go.RowKit Go.Shelf Go.Sort
set_option linter.unusedSimpArgs false
set_option linter.unusedVariables false
set_option maxRecDepth 100000
attribute [local go_sem ↓ high] eq_pt neq_pt
def Try.sortPt_ren : Go.Shelf.Ren := ⟨fun | 6 => 56 | 15 => 79 | 14 => 78 | 28 => 92 | 29 => 93 | 20 => 84 | 21 => 85 | 22 => 86 | 23 => 87 | 24 => 88 | 25 => 89 | 26 => 90 | 27 => 91 | 46 => 103 | 47 => 104 | 48 => 105 | 49 => 106 | 50 => 107 | 57 => 112 | n => n, fun | 22 => 24 | 24 => 23 | 25 => 27 | 3 => 3 | 39 => 85 | 0 => 0 | 53 => 98 | 55 => 100 | 4 => 4 | 46 => 92 | 45 => 91 | 50 => 78 | 5 => 5 | 9 => 9 | 66 => 106 | 70 => 110 | 76 => 115 | 77 => 116 | n => n, fun | n => n⟩
theorem Try.sortPt : Go.Proofs.SlLaysF0.n6 Try.prog Try.sortPt_ren := {
  mixed := by kernel_rfl
  f6 := ⟨Try.f56.name, by decide, Try.func56.trans (congrArg some (by kernel_rfl))⟩
  f14 := ⟨Try.f78.name, by decide, Try.func78.trans (congrArg some (by kernel_rfl))⟩
  f15 := Try.func79.trans (congrArg some (by kernel_rfl))
  f20 := ⟨Try.f84.name, by decide, Try.func84.trans (congrArg some (by kernel_rfl))⟩
  f21 := ⟨Try.f85.name, by decide, Try.func85.trans (congrArg some (by kernel_rfl))⟩
  f22 := ⟨Try.f86.name, by decide, Try.func86.trans (congrArg some (by kernel_rfl))⟩
  f23 := ⟨Try.f87.name, by decide, Try.func87.trans (congrArg some (by kernel_rfl))⟩
  f24 := ⟨Try.f88.name, by decide, Try.func88.trans (congrArg some (by kernel_rfl))⟩
  f25 := ⟨Try.f89.name, by decide, Try.func89.trans (congrArg some (by kernel_rfl))⟩
  f26 := ⟨Try.f90.name, by decide, Try.func90.trans (congrArg some (by kernel_rfl))⟩
  f27 := ⟨Try.f91.name, by decide, Try.func91.trans (congrArg some (by kernel_rfl))⟩
  f28 := Try.func92.trans (congrArg some (by kernel_rfl))
  f29 := Try.func93.trans (congrArg some (by kernel_rfl))
  f46 := ⟨Try.f103.name, by decide, Try.func103.trans (congrArg some (by kernel_rfl))⟩
  f47 := Try.func104.trans (congrArg some (by kernel_rfl))
  f48 := Try.func105.trans (congrArg some (by kernel_rfl))
  f49 := ⟨Try.f106.name, by decide, Try.func106.trans (congrArg some (by kernel_rfl))⟩
  f50 := ⟨Try.f107.name, by decide, Try.func107.trans (congrArg some (by kernel_rfl))⟩
  f57 := ⟨Try.f112.name, by decide, Try.func112.trans (congrArg some (by kernel_rfl))⟩
  t0 := Try.underlying0
  a0 := Try.isAgg0
  z0 := Try.sizeOf0
  v0 := Try.zeroValue0
  t3 := Try.underlying3
  a3 := Try.isAgg3
  z3 := Try.sizeOf3
  v3 := Try.zeroValue3
  t4 := Try.underlying4
  a4 := Try.isAgg4
  z4 := Try.sizeOf4
  v4 := Try.zeroValue4
  t5 := Try.underlying5
  a5 := Try.isAgg5
  z5 := Try.sizeOf5
  v5 := Try.zeroValue5
  t9 := Try.underlying9
  a9 := Try.isAgg9
  z9 := Try.sizeOf9
  v9 := Try.zeroValue9
  t22 := Try.underlying24
  a22 := Try.isAgg24
  z22 := Try.sizeOf24
  v22 := Try.zeroValue24
  t25 := Try.underlying27
  a25 := Try.isAgg27
  z25 := Try.sizeOf27
  v25 := Try.zeroValue27
  t39 := Try.underlying85
  a39 := Try.isAgg85
  z39 := Try.sizeOf85
  v39 := Try.zeroValue85
  t45 := Try.underlying91
  a45 := Try.isAgg91
  z45 := Try.sizeOf91
  v45 := Try.zeroValue91
  t46 := Try.underlying92
  a46 := Try.isAgg92
  z46 := Try.sizeOf92
  v46 := Try.zeroValue92
  t50 := Try.underlying78
  a50 := Try.isAgg78
  z50 := Try.sizeOf78
  v50 := Try.zeroValue78
  t53 := Try.underlying98
  a53 := Try.isAgg98
  z53 := Try.sizeOf98
  v53 := Try.zeroValue98
  t55 := Try.underlying100
  a55 := Try.isAgg100
  z55 := Try.sizeOf100
  v55 := Try.zeroValue100
  t66 := Try.underlying106
  a66 := Try.isAgg106
  z66 := Try.sizeOf106
  v66 := Try.zeroValue106
  t70 := Try.underlying110
  a70 := Try.isAgg110
  z70 := Try.sizeOf110
  v70 := Try.zeroValue110
  t76 := Try.underlying115
  a76 := Try.isAgg115
  z76 := Try.sizeOf115
  v76 := Try.zeroValue115
  t77 := Try.underlying116
  a77 := Try.isAgg116
  z77 := Try.sizeOf116
  v77 := Try.zeroValue116 }
/-- The order of positions. -/
def befQ (p q : Int × Int) : Bool := befP p.1 p.2 q.1 q.2
def cmpQ (p q : Int × Int) : Int := cmpP p.1 p.2 q.1 q.2
theorem lin_befQ : Lin befQ := by
  refine ⟨fun a => ?_, fun a b c => ?_, fun a b => ?_⟩
  · unfold befQ befP; exact decide_eq_false (by omega)
  · unfold befQ befP; simp only [decide_eq_true_eq]; omega
  · unfold befQ befP; simp only [decide_eq_true_eq]
    obtain ⟨a1, a2⟩ := a
    obtain ⟨b1, b2⟩ := b
    simp only [Prod.mk.injEq]; omega
theorem lt_cmpQ (x y : Int × Int) : ltOf cmpQ x y = befQ x y := by
  unfold ltOf cmpQ cmpP befQ befP orI cmpI
  rw [Bool.eq_iff_iff]
  simp only [decide_eq_true_eq]
  repeat' split
  all_goals omega
theorem swo_of_lin {α : Type} {lt : α → α → Bool} (h : Lin lt) : SWO lt := ⟨h.irr, h.tr, fun x y z h1 h2 => by
  cases h3 : lt x z with
  | false => rfl
  | true =>
    rcases h.tot x y with a | a | a
    · rw [h1] at a; cases a
    · subst a; rw [h2] at h3; cases h3
    · have := h.tr _ _ _ a h3; rw [h2] at this; cases this⟩
theorem swo_cmpQ : SWO (ltOf cmpQ) := by
  have e : ltOf cmpQ = befQ := by funext x y; exact lt_cmpQ x y
  rw [e]; exact swo_of_lin lin_befQ
set_option maxHeartbeats 400000 in
theorem clone_pt (A : Option Addr) (n c : Nat) (l : List (Int × Int)) (w : World) (hR : Rd encP 2 w A n l) (hn : n ≤ 1000000) :
    Calls Try.prog 55 #[.slice A n c] w fun e w' => ∃ A' c', e = .returned (.slice A' n c') ∧ Own encP 2 23 w.heap.size w' A' n c' l ∧ Below w.heap.size w w' := by
  have q22 : ∀ (w : World) (a : Option Addr) (n c n' c' : Nat), (binOp .eql 24 (.slice a n c) (.slice none n' c')).run Try.prog w = .ok (.bool a.isNone) w := fun w a n c n' c' => Lib.run_eql_slice_nil w _ _ a n c n' c' Try.underlying24
  cases A with
  | none =>
    have hz : n = 0 := by
      rcases Nat.eq_zero_or_pos n with h | h
      · exact h
      · obtain ⟨b, o, e, _⟩ := hR.2 h; cases e
    subst hz
    obtain rfl : l = [] := List.length_eq_zero_iff.1 hR.len
    clear hR
    go_enter Try.func55, Try.ntmps55
    go_wp2
    go_ret
    exact ⟨none, 0, rfl, Own.nil_, by (repeat' (first | exact Below.refl _ _ | assumption | (refine Below.alloc ?_ ?_ _) | (refine Below.setCell ?_ ?_ _) | (refine Below.drew ?_) | (refine below_drewN ?_ _) | (refine below_after (Ext.below _) ?_ ?_) | (refine below_after (by assumption) ?_ ?_) | (simp; done) | omega | (simp; omega)))⟩
  | some ad =>
    obtain ⟨i0, hi0, hz0, hz1, hz2⟩ := info_parts (show (Try.prog.info? 23).map (fun i => (i.zero, i.size, i.bytes)) = some (some (.agg #[.int .i64 0, .int .i64 0]), 2, 16) by kernel_rfl)
    have hnews : Hid (∀ j u, (l.flatMap encP)[j]? = some u → w.cell? (ad.add j) = some u) := by
      intro j u hu
      have hj : j < n * 2 := by have := (List.getElem?_eq_some_iff.1 hu).1; rwa [flatMap_len encP_len, hR.len] at this
      obtain ⟨x, b, o, hx, e, hb, hcell⟩ := hR.elem (i := j / 2) (by omega)
      injection e with e
      subst e
      have e1 : (encP x)[j % 2]? = some ((encP x)[j % 2]'(by rw [encP_len]; omega)) := List.getElem?_eq_getElem _
      have e2 := flatMap_get encP_len l (j / 2) x hx (j % 2) _ e1
      rw [show j / 2 * 2 + j % 2 = j by omega, hu] at e2
      injection e2 with e2
      have h3 := hcell (j % 2) _ e1
      rw [show o + j / 2 * 2 + j % 2 = o + j by omega] at h3
      have ha : (⟨b, o, none⟩ : Addr).add j = ⟨b, o + j, none⟩ := by unfold Addr.add; split <;> simp_all
      rw [ha, h3, e2]
    have hlen := hR.len
    clear hR
    go_enter Try.func55, Try.ntmps55
    go_wp2_with (at_builtin; refine wpList_append_own _ rfl _ _ 24 rfl w.heap.size 23 i0 _ 2 16 Try.underlying24 hi0 hz0 hz1 hz2 rfl (by omega) _ _ _ rfl (World.ownsRow_made w #[] 0 (Nat.le_refl _) (Nat.zero_le _) (by simp)) ad n c (l.flatMap encP) rfl ?qc1 ?qc2 ?qc3 ?qc4 ?qc5 ?qc6 ?_)
    case qc1 => rw [flatMap_len encP_len, hlen]
    case qc2 =>
      intro j u hu
      exact Lib.cell?_alloc_some _ (hnews.out j u hu)
    case qc3 =>
      intro u hu
      obtain ⟨x, _, hx⟩ := List.mem_flatMap.1 hu
      exact encP_one x u hx
    case qc4 => unfold maxLen; omega
    case qc5 => omega
    case qc6 => simp
    intro v' w1 hown hgrow hnil
    have hB : Below w.heap.size w w1 := ((Below.refl _ w).alloc (Nat.le_refl _) _).grown hgrow (by simp) (by intro k hk; simp [Value.ownBlock] at hk; omega)
    have hown' : w1.ownsRow w.heap.size 23 2 v' n (l.flatMap encP) := by simpa using hown
    have hex : ∃ A' c', v' = .slice A' n c' := by
      rcases hown'.2 with ⟨h1, h2⟩ | ⟨g, cap, cur, h1, _⟩
      · exact ⟨none, 0, by rw [h1, h2]⟩
      · exact ⟨_, _, h1⟩
    obtain ⟨A', c', rfl⟩ := hex
    go_wp2
    go_ret
    exact ⟨A', c', rfl, ⟨hown', hlen⟩, hB⟩
set_option maxHeartbeats 400000 in
theorem point_CompareG (ax ay bx bx' : Int) (w : World) : Calls Try.prog 17 #[.agg #[.int .i64 ax, .int .i64 ay], .agg #[.int .i64 bx, .int .i64 bx']] w fun e w' => e = .returned (.int .i64 (cmpP ax ay bx bx')) ∧ ∃ q os, w' = grow (w.drewN q) os := by
  go_enter Try.func17, Try.ntmps17
  go_wp2
  refine wp_region_still_tail 10 (by kernel_rfl) (by kernel_rfl) ?_
  simp only [List.take_succ_cons, List.take_zero, List.drop_succ_cons, List.drop_zero]
  change wpStill _ _ (World.drew _) (fun a' => wpList _ _ _ _ a' (World.drew _)) _ _
  have hb : Below (w.heap.size + 2) ((w.alloc (.cells #[.int .i64 ax, .int .i64 ay] 23)).alloc (.cells #[.int .i64 bx, .int .i64 bx'] 23)) ((w.alloc (.cells #[.int .i64 ax, .int .i64 ay] 23)).alloc (.cells #[.int .i64 bx, .int .i64 bx'] 23)).drew := (Below.refl _ _).drew
  have hW : Hid (((w.alloc (.cells #[.int .i64 ax, .int .i64 ay] 23)).alloc (.cells #[.int .i64 bx, .int .i64 bx'] 23)).drew = grow (w.drewN 1) #[.cells #[.int .i64 ax, .int .i64 ay] 23, .cells #[.int .i64 bx, .int .i64 bx'] 23]) := by
    show _ = _
    rw [alloc_eq_grow, alloc_eq_grow, grow_grow]; rfl
  generalize ((w.alloc (.cells #[.int .i64 ax, .int .i64 ay] 23)).alloc (.cells #[.int .i64 bx, .int .i64 bx'] 23)).drew = W at hb hW ⊢
  have hs := hb.size
  simp only [World.size_alloc] at hs
  have c0 : W.cell? ⟨w.heap.size, 0, none⟩ = some (.int .i64 ax) := by rw [hb.cell (p := ⟨w.heap.size, 0, none⟩) (by show w.heap.size < _; omega)]; simp [cell_alloc_if, cellOf]
  have c1 : W.cell? ⟨w.heap.size, 1, none⟩ = some (.int .i64 ay) := by rw [hb.cell (p := ⟨w.heap.size, 1, none⟩) (by show w.heap.size < _; omega)]; simp [cell_alloc_if, cellOf]
  have c2 : W.cell? ⟨w.heap.size + 1, 0, none⟩ = some (.int .i64 bx) := by rw [hb.cell (p := ⟨w.heap.size + 1, 0, none⟩) (by show w.heap.size + 1 < _; omega)]; simp [cell_alloc_if, cellOf]
  have c3 : W.cell? ⟨w.heap.size + 1, 1, none⟩ = some (.int .i64 bx') := by rw [hb.cell (p := ⟨w.heap.size + 1, 1, none⟩) (by show w.heap.size + 1 < _; omega)]; simp [cell_alloc_if, cellOf]
  repeat still_step
  still_call (cmp_CompareS _ _ _)
  repeat still_step
  still_call (cmp_CompareS _ _ _)
  refine wpStill_nil ?_
  have hl := (Own.lit encI_len W 3 W.heap.size (Nat.le_refl _) [cmpI ay bx', cmpI ax bx] 2 rfl (by omega) [.int .i64 (cmpI ay bx'), .int .i64 (cmpI ax bx)] rfl).rd encI_len
  show wpList _ _ _ _ _ _
  go_wp2_with fail
  go_at_call 58
  refine (cmp_Or2 _ _ _ _ _ hl).mono ?_
  rintro e w' ⟨rfl, rfl⟩
  go_wp2_with fail
  go_ret
  exact ⟨rfl, 1, _, by rw [hW.out, alloc_eq_grow, grow_grow]⟩
/-- slices.SortFunc at a row of the call's own, with a comparison that is a strict weak order. -/
theorem sortFunc_pt (g : Nat) (cf : Int × Int → Int × Int → Int) (hO : SWO (ltOf cf)) (eg : ∀ args w, (callFunc g args).run Try.prog w = .ok (.enter g args) w)
    (hcmp : ∀ (x y : Int × Int) (W : World), Calls Try.prog g #[.agg (encP x).toArray, .agg (encP y).toArray] W fun e w' => e = .returned (.int .i64 (cf x y)) ∧ ∃ q os, w' = grow (W.drewN q) os)
    (B : Nat) (A : Option Addr) (n c : Nat) (l : List (Int × Int)) (w : World) (hown : Own encP 2 23 B w A n c l) (hB : B ≤ w.heap.size) (hn : n ≤ 1000000) :
    Calls Try.prog 56 #[.slice A n c, .func (.func g) #[] #[]] w fun e w' => e = .returned (.tuple #[]) ∧ ∃ l', Own encP 2 23 B w' A n c l' ∧ l'.Perm l ∧ (l'.Pairwise fun a b => ltOf cf b a = false) ∧ Below B w w' := by
  rcases hown.row.2 with ⟨h0, hz⟩ | ⟨gb, cap, cur, hv, hg, hrest⟩
  · injection h0 with h1 h2 h3
    subst h1 hz h3
    obtain rfl : l = [] := List.length_eq_zero_iff.1 hown.len
    have h := AnyF.slices_SortFunc_none (P := Try.prog) { Try.sortPt with } none 0 (.func (.func g) #[] #[]) w
    refine Calls.mono h ?_
    rintro e w' ⟨rfl, rfl⟩
    exact ⟨rfl, [], hown, List.Perm.refl _, List.Pairwise.nil, Below.refl _ _⟩
  · injection hv with h1 _ h3
    subst h1 h3
    obtain ⟨hbg, hlt⟩ := own_lt hown
    have hl : l.toArray.size = n := by simpa using hown.len
    have h := AnyQ.slices_SortFunc Try.sortPt 2 Try.isAgg23 Try.sizeOf23 encP encP_len encP_one cf hO g #[] gb 0 c l.toArray w eg
      (fun _ _ _ _ x y => hcmp x y _) (own_holdsK encP_len (by omega) hown) hlt (by omega)
    change Calls Try.prog 56 _ _ _ at h
    rw [hl] at h
    refine h.mono ?_
    rintro e w' ⟨rfl, d', m, os, hp, hs, rfl⟩
    rw [← hl] at hp hs
    obtain ⟨l', rfl, hperm, hpw⟩ := sorted_list hp hs
    have hl' : l'.length = n := by rw [hperm.length_eq, hown.len]
    exact ⟨rfl, l', own_sorted encP_len (by omega) hown hl' m os, hperm, hpw, below_sorted l'.toArray hbg hlt m os⟩
end Go.Proofs.Ytnhnkmppmicjoaa
