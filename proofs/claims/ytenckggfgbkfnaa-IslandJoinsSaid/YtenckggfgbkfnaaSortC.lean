/- The contract of slices.SortFunc at cells; pattern.order as a comparison for it. -/
import Derived.Test.YtenckggfgbkfnaaCell
import Derived.Test.YtenckggfgbkfnaaSortW
import Derived.Test.YtenckggfgbkfnaaPLN
import Derived.Shelf.SlSortCmp.QuietGrown
import Derived.Shelf.Small.Bits
import Derived.Ground.NamesProg
namespace Go.Proofs.Ytenckggfgbkfnaa
open Go Go.RowKit Go.Shelf Go.Sort
set_option linter.unusedSimpArgs false
set_option linter.unusedVariables false
set_option maxRecDepth 100000
attribute [local go_sem ↓ high] eq_cl neq_cl eq_pt neq_pt
def Try.pdqCe_ren : Go.Shelf.Ren := ⟨fun | 14 => 36 | 20 => 47 | 21 => 48 | 22 => 49 | 23 => 50 | 24 => 51 | 25 => 52 | 26 => 53 | 27 => 54 | 46 => 66 | 47 => 67 | 48 => 68 | 49 => 69 | 50 => 70 | 15 => 37 | 57 => 74 | 28 => 55 | 29 => 56 | n => n, fun | 24 => 39 | 22 => 22 | 3 => 3 | 25 => 49 | 4 => 4 | 0 => 0 | 46 => 80 | 45 => 79 | 50 => 47 | 66 => 95 | 39 => 69 | 55 => 88 | 70 => 99 | 76 => 103 | 77 => 104 | 53 => 86 | 5 => 5 | 9 => 9 | n => n, fun | n => n⟩
theorem Try.pdqCe : Go.Proofs.SlLaysF0.n14 Try.prog Try.pdqCe_ren := {
  mixed := by kernel_rfl
  f14 := ⟨Try.f36.name, by decide, Try.func36.trans (congrArg some (by kernel_rfl))⟩
  f15 := Try.func37.trans (congrArg some (by kernel_rfl))
  f20 := ⟨Try.f47.name, by decide, Try.func47.trans (congrArg some (by kernel_rfl))⟩
  f21 := ⟨Try.f48.name, by decide, Try.func48.trans (congrArg some (by kernel_rfl))⟩
  f22 := ⟨Try.f49.name, by decide, Try.func49.trans (congrArg some (by kernel_rfl))⟩
  f23 := ⟨Try.f50.name, by decide, Try.func50.trans (congrArg some (by kernel_rfl))⟩
  f24 := ⟨Try.f51.name, by decide, Try.func51.trans (congrArg some (by kernel_rfl))⟩
  f25 := ⟨Try.f52.name, by decide, Try.func52.trans (congrArg some (by kernel_rfl))⟩
  f26 := ⟨Try.f53.name, by decide, Try.func53.trans (congrArg some (by kernel_rfl))⟩
  f27 := ⟨Try.f54.name, by decide, Try.func54.trans (congrArg some (by kernel_rfl))⟩
  f28 := Try.func55.trans (congrArg some (by kernel_rfl))
  f29 := Try.func56.trans (congrArg some (by kernel_rfl))
  f46 := ⟨Try.f66.name, by decide, Try.func66.trans (congrArg some (by kernel_rfl))⟩
  f47 := Try.func67.trans (congrArg some (by kernel_rfl))
  f48 := Try.func68.trans (congrArg some (by kernel_rfl))
  f49 := ⟨Try.f69.name, by decide, Try.func69.trans (congrArg some (by kernel_rfl))⟩
  f50 := ⟨Try.f70.name, by decide, Try.func70.trans (congrArg some (by kernel_rfl))⟩
  f57 := ⟨Try.f74.name, by decide, Try.func74.trans (congrArg some (by kernel_rfl))⟩
  t0 := Try.underlying0
  a0 := Try.isAgg0
  z0 := Try.sizeOf0
  v0 := Try.zeroValue0
  t3 := Try.underlying3
  a3 := Try.isAgg3
  z3 := Try.sizeOf3
  v3 := Try.zeroValue3
  t4 := Try.underlying4
  a4 := Try.isAgg4
  z4 := Try.sizeOf4
  v4 := Try.zeroValue4
  t5 := Try.underlying5
  a5 := Try.isAgg5
  z5 := Try.sizeOf5
  v5 := Try.zeroValue5
  t9 := Try.underlying9
  a9 := Try.isAgg9
  z9 := Try.sizeOf9
  v9 := Try.zeroValue9
  t22 := Try.underlying22
  a22 := Try.isAgg22
  z22 := Try.sizeOf22
  v22 := Try.zeroValue22
  t25 := Try.underlying49
  a25 := Try.isAgg49
  z25 := Try.sizeOf49
  v25 := Try.zeroValue49
  t39 := Try.underlying69
  a39 := Try.isAgg69
  z39 := Try.sizeOf69
  v39 := Try.zeroValue69
  t45 := Try.underlying79
  a45 := Try.isAgg79
  z45 := Try.sizeOf79
  v45 := Try.zeroValue79
  t46 := Try.underlying80
  a46 := Try.isAgg80
  z46 := Try.sizeOf80
  v46 := Try.zeroValue80
  t50 := Try.underlying47
  a50 := Try.isAgg47
  z50 := Try.sizeOf47
  v50 := Try.zeroValue47
  t53 := Try.underlying86
  a53 := Try.isAgg86
  z53 := Try.sizeOf86
  v53 := Try.zeroValue86
  t55 := Try.underlying88
  a55 := Try.isAgg88
  z55 := Try.sizeOf88
  v55 := Try.zeroValue88
  t66 := Try.underlying95
  a66 := Try.isAgg95
  z66 := Try.sizeOf95
  v66 := Try.zeroValue95
  t70 := Try.underlying99
  a70 := Try.isAgg99
  z70 := Try.sizeOf99
  v70 := Try.zeroValue99
  t76 := Try.underlying103
  a76 := Try.isAgg103
  z76 := Try.sizeOf103
  v76 := Try.zeroValue103
  t77 := Try.underlying104
  a77 := Try.isAgg104
  z77 := Try.sizeOf104
  v77 := Try.zeroValue104 }
def Try.bitsL_ren : Go.Shelf.Ren := ⟨fun | 125 => 37 | 128 => 55 | 129 => 56 | n => n, fun | 46 => 69 | 3 => 3 | 51 => 86 | 53 => 88 | 4 => 4 | 5 => 5 | 9 => 9 | n => n, fun | n => n⟩
theorem Try.bitsL : Go.Proofs.Lays.n125 Try.prog Try.bitsL_ren := {
  mixed := by kernel_rfl
  f125 := Try.func37.trans (congrArg some (by kernel_rfl))
  f128 := Try.func55.trans (congrArg some (by kernel_rfl))
  f129 := Try.func56.trans (congrArg some (by kernel_rfl))
  t3 := Try.underlying3
  a3 := Try.isAgg3
  z3 := Try.sizeOf3
  v3 := Try.zeroValue3
  t4 := Try.underlying4
  a4 := Try.isAgg4
  z4 := Try.sizeOf4
  v4 := Try.zeroValue4
  t5 := Try.underlying5
  a5 := Try.isAgg5
  z5 := Try.sizeOf5
  v5 := Try.zeroValue5
  t9 := Try.underlying9
  a9 := Try.isAgg9
  z9 := Try.sizeOf9
  v9 := Try.zeroValue9
  t46 := Try.underlying69
  a46 := Try.isAgg69
  z46 := Try.sizeOf69
  v46 := Try.zeroValue69
  t51 := Try.underlying86
  a51 := Try.isAgg86
  z51 := Try.sizeOf86
  v51 := Try.zeroValue86
  t53 := Try.underlying88
  a53 := Try.isAgg88
  z53 := Try.sizeOf88
  v53 := Try.zeroValue88 }
theorem pat_atG (x y s : Int) (w : World) : Calls Try.prog 34 #[.agg #[.int .i64 x, .int .i64 y, .int .i64 s]] w fun e w' => e = .returned (.agg #[.int .i64 x, .int .i64 y]) ∧ ∃ q os, w' = grow (w.drewN q) os := by
  go_enter Try.func34, Try.ntmps34
  go_wp2
  refine bodyPost_ret (v := .agg #[.int .i64 x, .int .i64 y]) (by simp [results, Try.results34, go_sem, *, ↓IntWalk.iteOmega]) rfl ?_
  exact ⟨rfl, 0, _, by rw [alloc_eq_grow, alloc_eq_grow, grow_grow]; rfl⟩
theorem pat_orderG (x y s x' y' s' : Int) (w : World) : Calls Try.prog 35 #[.agg #[.int .i64 x, .int .i64 y, .int .i64 s], .agg #[.int .i64 x', .int .i64 y', .int .i64 s']] w fun e w' => e = .returned (.int .i64 (cmpP x y x' y')) ∧ ∃ q os, w' = grow (w.drewN q) os := by
  have mixed : Try.prog.follows .mixedOrders = true := by kernel_rfl
  obtain ⟨W, hW⟩ : ∃ W, W = (w.alloc (.cells #[.int .i64 x, .int .i64 y, .int .i64 s] 39)).alloc (.cells #[.int .i64 x', .int .i64 y', .int .i64 s'] 39) := ⟨_, rfl⟩
  have HG : Hid (W = grow (w.drewN 0) #[.cells #[.int .i64 x, .int .i64 y, .int .i64 s] 39, .cells #[.int .i64 x', .int .i64 y', .int .i64 s'] 39]) := by
    show _ = _
    rw [hW, alloc_eq_grow, alloc_eq_grow, grow_grow]; rfl
  have hs : w.heap.size + 1 < W.heap.size := by rw [hW]; simp
  have a0 := fun n os => cell_grown (w := W) (a := ⟨w.heap.size, 0, none⟩) (v := .int .i64 x) (by show w.heap.size < _; omega) (by rw [hW]; simp [cell_alloc_if]) n os
  have a1 := fun n os => cell_grown (w := W) (a := ⟨w.heap.size, 1, none⟩) (v := .int .i64 y) (by show w.heap.size < _; omega) (by rw [hW]; simp [cell_alloc_if]) n os
  have a2 := fun n os => cell_grown (w := W) (a := ⟨w.heap.size, 2, none⟩) (v := .int .i64 s) (by show w.heap.size < _; omega) (by rw [hW]; simp [cell_alloc_if]) n os
  have b0 := fun n os => cell_grown (w := W) (a := ⟨w.heap.size + 1, 0, none⟩) (v := .int .i64 x') (by show w.heap.size + 1 < _; omega) (by rw [hW]; simp [cell_alloc_if]) n os
  have b1 := fun n os => cell_grown (w := W) (a := ⟨w.heap.size + 1, 1, none⟩) (v := .int .i64 y') (by show w.heap.size + 1 < _; omega) (by rw [hW]; simp [cell_alloc_if]) n os
  have b2 := fun n os => cell_grown (w := W) (a := ⟨w.heap.size + 1, 2, none⟩) (v := .int .i64 s') (by show w.heap.size + 1 < _; omega) (by rw [hW]; simp [cell_alloc_if]) n os
  go_enter Try.func35, Try.ntmps35
  go_wp2
  rw [← hW]
  clear hW
  go_quiet_grown ((first | (go_at_call 34; exact Calls.grown_of (pat_atG _ _ _ _)) | (go_at_call 46; exact Calls.grown_of (point_CompareG _ _ _ _ _))))
  go_wp2
  go_ret
  exact ⟨rfl, 0 + nq, _, by rw [HG.out]; show grow ((grow (w.drewN 0) _).drewN nq) osq = _; rw [show (grow (w.drewN 0) #[.cells #[.int .i64 x, .int .i64 y, .int .i64 s] 39, .cells #[.int .i64 x', .int .i64 y', .int .i64 s'] 39]).drewN nq = grow ((w.drewN 0).drewN nq) _ from rfl, grow_grow, World.drewN_drewN]⟩
theorem lt_cmpO (x y : Int × Int × Int) : ltOf cmpO x y = cBef x y := lt_cmpQ (x.1, x.2.1) (y.1, y.2.1)
theorem swo_cmpO : SWO (ltOf cmpO) := by
  have e : ltOf cmpO = cBef := by funext x y; exact lt_cmpO x y
  rw [e]
  refine ⟨cBef_irr, fun x y z => cBef_tr, fun x y z h1 h2 => ?_⟩
  unfold cBef befP at *; simp only [decide_eq_false_iff_not] at *; omega
theorem grown_sorted {α : Type} [Inhabited α] {enc : α → List Value} {k : Nat} {w : World} {g : Nat} (d : Array α) (m : Nat) (os : Array Obj) : w.grownBy (sortWorldK enc k w g 0 m d os) (some g) :=
  ⟨rfl, rfl, rfl, by simp [sortWorldK, grow, putRowK, putRow, mapBlock, Sort.ahead], fun i hi hne => by
    have hg : g ≠ i := fun e => hne (by rw [e])
    unfold sortWorldK grow
    rw [Array.getElem?_append_left (by simpa [putRowK, putRow, mapBlock, Sort.ahead] using hi)]
    simp [putRowK, putRow, mapBlock, Sort.ahead, Array.getElem?_modify, hg]⟩
/-- slices.SortFunc at a row of the call's own, with a comparison that is a strict weak order. -/
theorem sortFunc_ceG (g : Nat) (cf : Int × Int × Int → Int × Int × Int → Int) (hO : SWO (ltOf cf)) (eg : ∀ args w, (callFunc g args).run Try.prog w = .ok (.enter g args) w)
    (hcmp : ∀ (x y : Int × Int × Int) (W : World), Calls Try.prog g #[.agg (encC x).toArray, .agg (encC y).toArray] W fun e w' => e = .returned (.int .i64 (cf x y)) ∧ ∃ q os, w' = grow (W.drewN q) os)
    (B : Nat) (A : Option Addr) (n c : Nat) (l : List (Int × Int × Int)) (w : World) (hown : Own encC 3 39 B w A n c l) (hB : B ≤ w.heap.size) (hn : n ≤ 1000000) :
    Calls Try.prog 20 #[.slice A n c, .func (.func g) #[] #[]] w fun e w' => e = .returned (.tuple #[]) ∧ ∃ l', Own encC 3 39 B w' A n c l' ∧ l'.Perm l ∧ (l'.Pairwise fun a b => ltOf cf b a = false) ∧ Below B w w' ∧ w.grownBy w' (Value.slice A n c).ownBlock := by
  have hlen : Calls Try.prog 37 #[.int .u64 (n : Int)] w fun e w' => e = .returned (.int .i64 (Lib.bitLen n : Nat)) ∧ w' = w := by
    have h := Any.bits_Len Try.bitsL (n : Int) w (by omega) (by omega)
    rwa [Int.toNat_natCast] at h
  have hcv : IntKind.u64.wrap (n : Int) = n := by simp [IntKind.wrap, IntKind.bits, IntKind.signed]; omega
  rcases hown.row.2 with ⟨h0, hz⟩ | ⟨gb, cap, cur, hv, hg, hrest⟩
  · injection h0 with h1 h2 h3
    subst h1 hz h3
    obtain rfl : l = [] := List.length_eq_zero_iff.1 hown.len
    have h := AnyF.pdqsortCmpFunc_none (P := Try.prog) { Try.pdqCe with } none 0 (Lib.bitLen 0 : Nat) (.func (.func g) #[] #[]) w
    change Calls Try.prog 36 _ _ _ at h
    generalize ((Lib.bitLen 0 : Nat) : Int) = lim at h hlen
    go_enter Try.func20, Try.ntmps20
    go_wp2_with (first | (go_at_call 37; refine hlen.mono ?_; rintro e w' ⟨rfl, rfl⟩) | (go_at_call 36; refine h.mono ?_; rintro e w' ⟨rfl, rfl⟩))
    go_end0
    exact ⟨rfl, [], hown, List.Perm.refl _, List.Pairwise.nil, Go.RowKit.Below.refl _ _, World.grownBy.refl _ _⟩
  · injection hv with h1 _ h3
    subst h1 h3
    obtain ⟨hbg, hlt⟩ := own_lt hown
    have hl : l.toArray.size = n := by simpa using hown.len
    have hlim : Lib.bitLen l.toArray.size < 4611686018427387904 := Nat.lt_of_le_of_lt (Lib.bitLen_le l.toArray.size 62 (by omega) (by omega)) (by omega)
    have hH := own_holdsK encC_len (by omega) hown
    have h := AnyQ.pdqsortCmpFunc_all Try.pdqCe 3 Try.isAgg39 Try.sizeOf39 encC cf g #[] hO gb 0 c l.toArray w eg
      (fun _ _ _ _ x y => hcmp x y _) ⟨encC_len, encC_one, hH, hlt⟩ (l.toArray.size + 1) 0 l.toArray.size (Lib.bitLen l.toArray.size) l.toArray w (by omega) rfl (SWK.start hH) (Nat.zero_le _) (Nat.le_refl _) (by omega) hlim (Or.inl rfl)
    change Calls Try.prog 36 _ _ _ at h
    have hsorts := pdq_sorts (ltOf cf) hO l.toArray 0 l.toArray.size (Lib.bitLen l.toArray.size) true true (Nat.zero_le _) (Nat.le_refl _) (Or.inl rfl)
    generalize pdq (ltOf cf) l.toArray 0 l.toArray.size (Lib.bitLen l.toArray.size) true true = d' at h hsorts
    obtain ⟨l', rfl, hperm, hpw⟩ := sorted_list hsorts.1 hsorts.2
    have hl' : l'.length = n := by rw [hperm.length_eq, hown.len]
    rw [hl] at h
    generalize ((Lib.bitLen n : Nat) : Int) = lim at h hlen
    have HO := Lib.hid hown
    have HL := Lib.hid hl'
    clear hown hH hl hlim hsorts hl'
    go_enter Try.func20, Try.ntmps20
    go_wp2_with (first | (go_at_call 37; refine hlen.mono ?_; rintro e w' ⟨rfl, rfl⟩) | (go_at_call 36; refine h.mono ?_; rintro e w' ⟨rfl, m, os, rfl⟩))
    go_end0
    exact ⟨rfl, l', own_sorted encC_len (by omega) HO.out HL.out m os, hperm, hpw, below_sorted l'.toArray hbg hlt m os, grown_sorted l'.toArray m os⟩
theorem sortFunc_ce (g : Nat) (cf : Int × Int × Int → Int × Int × Int → Int) (hO : SWO (ltOf cf)) (eg : ∀ args w, (callFunc g args).run Try.prog w = .ok (.enter g args) w)
    (hcmp : ∀ (x y : Int × Int × Int) (W : World), Calls Try.prog g #[.agg (encC x).toArray, .agg (encC y).toArray] W fun e w' => e = .returned (.int .i64 (cf x y)) ∧ ∃ q os, w' = grow (W.drewN q) os)
    (B : Nat) (A : Option Addr) (n c : Nat) (l : List (Int × Int × Int)) (w : World) (hown : Own encC 3 39 B w A n c l) (hB : B ≤ w.heap.size) (hn : n ≤ 1000000) :
    Calls Try.prog 20 #[.slice A n c, .func (.func g) #[] #[]] w fun e w' => e = .returned (.tuple #[]) ∧ ∃ l', Own encC 3 39 B w' A n c l' ∧ l'.Perm l ∧ (l'.Pairwise fun a b => ltOf cf b a = false) ∧ Below B w w' :=
  (sortFunc_ceG g cf hO eg hcmp B A n c l w hown hB hn).mono fun _ _ ⟨h0, l', h1, h2, h3, h4, _⟩ => ⟨h0, l', h1, h2, h3, h4⟩
theorem sort_order (B : Nat) (A : Option Addr) (n c : Nat) (l : List (Int × Int × Int)) (w : World) (hown : Own encC 3 39 B w A n c l) (hB : B ≤ w.heap.size) (hn : n ≤ 1000000) :
    Calls Try.prog 20 #[.slice A n c, .func (.func 35) #[] #[]] w fun e w' => e = .returned (.tuple #[]) ∧ ∃ l', Own encC 3 39 B w' A n c l' ∧ l'.Perm l ∧ WC l' ∧ Below B w w' := by
  have eg : ∀ args w, (callFunc 35 args).run Try.prog w = .ok (.enter 35 args) w := enters_of Try.func35 (by kernel_rfl) rfl
  refine (sortFunc_ce 35 cmpO swo_cmpO eg (fun x y W => pat_orderG x.1 x.2.1 x.2.2 y.1 y.2.1 y.2.2 W) B A n c l w hown hB hn).mono ?_
  rintro e w' ⟨rfl, l', h1, h2, h3, h4⟩
  exact ⟨rfl, l', h1, h2, h3.imp fun {a b} h => by rw [lt_cmpO] at h; exact h, h4⟩
end Go.Proofs.Ytenckggfgbkfnaa
