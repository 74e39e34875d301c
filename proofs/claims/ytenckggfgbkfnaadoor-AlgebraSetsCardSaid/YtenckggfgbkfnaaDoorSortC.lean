/- The contract of slices.SortFunc at cells; pattern.order as a comparison for it. -/
import Derived.Test.YtenckggfgbkfnaaDoorCell
import Derived.Test.YtenckggfgbkfnaaDoorSortW
import Derived.Test.YtenckggfgbkfnaaDoorPLN
import Derived.Shelf.SlSortCmp.QuietGrown
import Derived.Shelf.Small.Bits
import Derived.Ground.NamesProg
namespace Go.Proofs.YtenckggfgbkfnaaDoor
open Go Go.RowKit Go.Shelf Go.Sort
set_option linter.unusedSimpArgs false
set_option linter.unusedVariables false
set_option maxRecDepth 100000
attribute [local go_sem ↓ high] eq_cl neq_cl eq_pt neq_pt
def Tryd.pdqCe_ren : Go.Shelf.Ren := ⟨fun | 14 => 63 | 20 => 74 | 21 => 75 | 22 => 76 | 23 => 77 | 24 => 78 | 25 => 79 | 26 => 80 | 27 => 81 | 46 => 86 | 47 => 87 | 48 => 88 | 49 => 89 | 50 => 90 | 15 => 64 | 57 => 91 | 28 => 82 | 29 => 83 | n => n, fun | 24 => 54 | 22 => 22 | 3 => 3 | 25 => 63 | 4 => 4 | 0 => 0 | 46 => 88 | 45 => 87 | 50 => 67 | 66 => 98 | 39 => 82 | 55 => 96 | 70 => 102 | 76 => 104 | 77 => 105 | 53 => 94 | 5 => 5 | 9 => 9 | n => n, fun | n => n⟩
theorem Tryd.pdqCe : Go.Proofs.SlLaysF0.n14 Tryd.prog Tryd.pdqCe_ren := {
  mixed := by kernel_rfl
  f14 := ⟨Tryd.f63.name, by decide, Tryd.func63.trans (congrArg some (by kernel_rfl))⟩
  f15 := Tryd.func64.trans (congrArg some (by kernel_rfl))
  f20 := ⟨Tryd.f74.name, by decide, Tryd.func74.trans (congrArg some (by kernel_rfl))⟩
  f21 := ⟨Tryd.f75.name, by decide, Tryd.func75.trans (congrArg some (by kernel_rfl))⟩
  f22 := ⟨Tryd.f76.name, by decide, Tryd.func76.trans (congrArg some (by kernel_rfl))⟩
  f23 := ⟨Tryd.f77.name, by decide, Tryd.func77.trans (congrArg some (by kernel_rfl))⟩
  f24 := ⟨Tryd.f78.name, by decide, Tryd.func78.trans (congrArg some (by kernel_rfl))⟩
  f25 := ⟨Tryd.f79.name, by decide, Tryd.func79.trans (congrArg some (by kernel_rfl))⟩
  f26 := ⟨Tryd.f80.name, by decide, Tryd.func80.trans (congrArg some (by kernel_rfl))⟩
  f27 := ⟨Tryd.f81.name, by decide, Tryd.func81.trans (congrArg some (by kernel_rfl))⟩
  f28 := Tryd.func82.trans (congrArg some (by kernel_rfl))
  f29 := Tryd.func83.trans (congrArg some (by kernel_rfl))
  f46 := ⟨Tryd.f86.name, by decide, Tryd.func86.trans (congrArg some (by kernel_rfl))⟩
  f47 := Tryd.func87.trans (congrArg some (by kernel_rfl))
  f48 := Tryd.func88.trans (congrArg some (by kernel_rfl))
  f49 := ⟨Tryd.f89.name, by decide, Tryd.func89.trans (congrArg some (by kernel_rfl))⟩
  f50 := ⟨Tryd.f90.name, by decide, Tryd.func90.trans (congrArg some (by kernel_rfl))⟩
  f57 := ⟨Tryd.f91.name, by decide, Tryd.func91.trans (congrArg some (by kernel_rfl))⟩
  t0 := Tryd.underlying0
  a0 := Tryd.isAgg0
  z0 := Tryd.sizeOf0
  v0 := Tryd.zeroValue0
  t3 := Tryd.underlying3
  a3 := Tryd.isAgg3
  z3 := Tryd.sizeOf3
  v3 := Tryd.zeroValue3
  t4 := Tryd.underlying4
  a4 := Tryd.isAgg4
  z4 := Tryd.sizeOf4
  v4 := Tryd.zeroValue4
  t5 := Tryd.underlying5
  a5 := Tryd.isAgg5
  z5 := Tryd.sizeOf5
  v5 := Tryd.zeroValue5
  t9 := Tryd.underlying9
  a9 := Tryd.isAgg9
  z9 := Tryd.sizeOf9
  v9 := Tryd.zeroValue9
  t22 := Tryd.underlying22
  a22 := Tryd.isAgg22
  z22 := Tryd.sizeOf22
  v22 := Tryd.zeroValue22
  t25 := Tryd.underlying63
  a25 := Tryd.isAgg63
  z25 := Tryd.sizeOf63
  v25 := Tryd.zeroValue63
  t39 := Tryd.underlying82
  a39 := Tryd.isAgg82
  z39 := Tryd.sizeOf82
  v39 := Tryd.zeroValue82
  t45 := Tryd.underlying87
  a45 := Tryd.isAgg87
  z45 := Tryd.sizeOf87
  v45 := Tryd.zeroValue87
  t46 := Tryd.underlying88
  a46 := Tryd.isAgg88
  z46 := Tryd.sizeOf88
  v46 := Tryd.zeroValue88
  t50 := Tryd.underlying67
  a50 := Tryd.isAgg67
  z50 := Tryd.sizeOf67
  v50 := Tryd.zeroValue67
  t53 := Tryd.underlying94
  a53 := Tryd.isAgg94
  z53 := Tryd.sizeOf94
  v53 := Tryd.zeroValue94
  t55 := Tryd.underlying96
  a55 := Tryd.isAgg96
  z55 := Tryd.sizeOf96
  v55 := Tryd.zeroValue96
  t66 := Tryd.underlying98
  a66 := Tryd.isAgg98
  z66 := Tryd.sizeOf98
  v66 := Tryd.zeroValue98
  t70 := Tryd.underlying102
  a70 := Tryd.isAgg102
  z70 := Tryd.sizeOf102
  v70 := Tryd.zeroValue102
  t76 := Tryd.underlying104
  a76 := Tryd.isAgg104
  z76 := Tryd.sizeOf104
  v76 := Tryd.zeroValue104
  t77 := Tryd.underlying105
  a77 := Tryd.isAgg105
  z77 := Tryd.sizeOf105
  v77 := Tryd.zeroValue105 }
def Tryd.bitsL_ren : Go.Shelf.Ren := ⟨fun | 125 => 64 | 128 => 82 | 129 => 83 | n => n, fun | 46 => 82 | 3 => 3 | 51 => 94 | 53 => 96 | 4 => 4 | 5 => 5 | 9 => 9 | n => n, fun | n => n⟩
theorem Tryd.bitsL : Go.Proofs.Lays.n125 Tryd.prog Tryd.bitsL_ren := {
  mixed := by kernel_rfl
  f125 := Tryd.func64.trans (congrArg some (by kernel_rfl))
  f128 := Tryd.func82.trans (congrArg some (by kernel_rfl))
  f129 := Tryd.func83.trans (congrArg some (by kernel_rfl))
  t3 := Tryd.underlying3
  a3 := Tryd.isAgg3
  z3 := Tryd.sizeOf3
  v3 := Tryd.zeroValue3
  t4 := Tryd.underlying4
  a4 := Tryd.isAgg4
  z4 := Tryd.sizeOf4
  v4 := Tryd.zeroValue4
  t5 := Tryd.underlying5
  a5 := Tryd.isAgg5
  z5 := Tryd.sizeOf5
  v5 := Tryd.zeroValue5
  t9 := Tryd.underlying9
  a9 := Tryd.isAgg9
  z9 := Tryd.sizeOf9
  v9 := Tryd.zeroValue9
  t46 := Tryd.underlying82
  a46 := Tryd.isAgg82
  z46 := Tryd.sizeOf82
  v46 := Tryd.zeroValue82
  t51 := Tryd.underlying94
  a51 := Tryd.isAgg94
  z51 := Tryd.sizeOf94
  v51 := Tryd.zeroValue94
  t53 := Tryd.underlying96
  a53 := Tryd.isAgg96
  z53 := Tryd.sizeOf96
  v53 := Tryd.zeroValue96 }
theorem pat_atG (x y s : Int) (w : World) : Calls Tryd.prog 54 #[.agg #[.int .i64 x, .int .i64 y, .int .i64 s]] w fun e w' => e = .returned (.agg #[.int .i64 x, .int .i64 y]) ∧ ∃ q os, w' = grow (w.drewN q) os := by
  go_enter Tryd.func54, Tryd.ntmps54
  go_wp2
  refine bodyPost_ret (v := .agg #[.int .i64 x, .int .i64 y]) (by simp [results, Tryd.results54, go_sem, *, ↓IntWalk.iteOmega]) rfl ?_
  exact ⟨rfl, 0, _, by rw [alloc_eq_grow, alloc_eq_grow, grow_grow]; rfl⟩
theorem pat_orderG (x y s x' y' s' : Int) (w : World) : Calls Tryd.prog 55 #[.agg #[.int .i64 x, .int .i64 y, .int .i64 s], .agg #[.int .i64 x', .int .i64 y', .int .i64 s']] w fun e w' => e = .returned (.int .i64 (cmpP x y x' y')) ∧ ∃ q os, w' = grow (w.drewN q) os := by
  have mixed : Tryd.prog.follows .mixedOrders = true := by kernel_rfl
  obtain ⟨W, hW⟩ : ∃ W, W = (w.alloc (.cells #[.int .i64 x, .int .i64 y, .int .i64 s] 54)).alloc (.cells #[.int .i64 x', .int .i64 y', .int .i64 s'] 54) := ⟨_, rfl⟩
  have HG : Hid (W = grow (w.drewN 0) #[.cells #[.int .i64 x, .int .i64 y, .int .i64 s] 54, .cells #[.int .i64 x', .int .i64 y', .int .i64 s'] 54]) := by
    show _ = _
    rw [hW, alloc_eq_grow, alloc_eq_grow, grow_grow]; rfl
  have hs : w.heap.size + 1 < W.heap.size := by rw [hW]; simp
  have a0 := fun n os => cell_grown (w := W) (a := ⟨w.heap.size, 0, none⟩) (v := .int .i64 x) (by show w.heap.size < _; omega) (by rw [hW]; simp [cell_alloc_if]) n os
  have a1 := fun n os => cell_grown (w := W) (a := ⟨w.heap.size, 1, none⟩) (v := .int .i64 y) (by show w.heap.size < _; omega) (by rw [hW]; simp [cell_alloc_if]) n os
  have a2 := fun n os => cell_grown (w := W) (a := ⟨w.heap.size, 2, none⟩) (v := .int .i64 s) (by show w.heap.size < _; omega) (by rw [hW]; simp [cell_alloc_if]) n os
  have b0 := fun n os => cell_grown (w := W) (a := ⟨w.heap.size + 1, 0, none⟩) (v := .int .i64 x') (by show w.heap.size + 1 < _; omega) (by rw [hW]; simp [cell_alloc_if]) n os
  have b1 := fun n os => cell_grown (w := W) (a := ⟨w.heap.size + 1, 1, none⟩) (v := .int .i64 y') (by show w.heap.size + 1 < _; omega) (by rw [hW]; simp [cell_alloc_if]) n os
  have b2 := fun n os => cell_grown (w := W) (a := ⟨w.heap.size + 1, 2, none⟩) (v := .int .i64 s') (by show w.heap.size + 1 < _; omega) (by rw [hW]; simp [cell_alloc_if]) n os
  go_enter Tryd.func55, Tryd.ntmps55
  go_wp2
  rw [← hW]
  clear hW
  go_quiet_grown ((first | (go_at_call 54; exact Calls.grown_of (pat_atG _ _ _ _)) | (go_at_call 69; exact Calls.grown_of (point_CompareG _ _ _ _ _))))
  go_wp2
  go_ret
  exact ⟨rfl, 0 + nq, _, by rw [HG.out]; show grow ((grow (w.drewN 0) _).drewN nq) osq = _; rw [show (grow (w.drewN 0) #[.cells #[.int .i64 x, .int .i64 y, .int .i64 s] 54, .cells #[.int .i64 x', .int .i64 y', .int .i64 s'] 54]).drewN nq = grow ((w.drewN 0).drewN nq) _ from rfl, grow_grow, World.drewN_drewN]⟩
theorem lt_cmpO (x y : Int × Int × Int) : ltOf cmpO x y = cBef x y := lt_cmpQ (x.1, x.2.1) (y.1, y.2.1)
theorem swo_cmpO : SWO (ltOf cmpO) := by
  have e : ltOf cmpO = cBef := by funext x y; exact lt_cmpO x y
  rw [e]
  refine ⟨cBef_irr, fun x y z => cBef_tr, fun x y z h1 h2 => ?_⟩
  unfold cBef befP at *; simp only [decide_eq_false_iff_not] at *; omega
/-- slices.SortFunc at a row of the call's own, with a comparison that is a strict weak order. -/
theorem sortFunc_ce (g : Nat) (cf : Int × Int × Int → Int × Int × Int → Int) (hO : SWO (ltOf cf)) (eg : ∀ args w, (callFunc g args).run Tryd.prog w = .ok (.enter g args) w)
    (hcmp : ∀ (x y : Int × Int × Int) (W : World), Calls Tryd.prog g #[.agg (encC x).toArray, .agg (encC y).toArray] W fun e w' => e = .returned (.int .i64 (cf x y)) ∧ ∃ q os, w' = grow (W.drewN q) os)
    (B : Nat) (A : Option Addr) (n c : Nat) (l : List (Int × Int × Int)) (w : World) (hown : Own encC 3 54 B w A n c l) (hB : B ≤ w.heap.size) (hn : n ≤ 1000000) :
    Calls Tryd.prog 45 #[.slice A n c, .func (.func g) #[] #[]] w fun e w' => e = .returned (.tuple #[]) ∧ ∃ l', Own encC 3 54 B w' A n c l' ∧ l'.Perm l ∧ (l'.Pairwise fun a b => ltOf cf b a = false) ∧ Below B w w' := by
  have hlen : Calls Tryd.prog 64 #[.int .u64 (n : Int)] w fun e w' => e = .returned (.int .i64 (Lib.bitLen n : Nat)) ∧ w' = w := by
    have h := Any.bits_Len Tryd.bitsL (n : Int) w (by omega) (by omega)
    rwa [Int.toNat_natCast] at h
  have hcv : IntKind.u64.wrap (n : Int) = n := by simp [IntKind.wrap, IntKind.bits, IntKind.signed]; omega
  rcases hown.row.2 with ⟨h0, hz⟩ | ⟨gb, cap, cur, hv, hg, hrest⟩
  · injection h0 with h1 h2 h3
    subst h1 hz h3
    obtain rfl : l = [] := List.length_eq_zero_iff.1 hown.len
    have h := AnyF.pdqsortCmpFunc_none (P := Tryd.prog) { Tryd.pdqCe with } none 0 (Lib.bitLen 0 : Nat) (.func (.func g) #[] #[]) w
    change Calls Tryd.prog 63 _ _ _ at h
    generalize ((Lib.bitLen 0 : Nat) : Int) = lim at h hlen
    go_enter Tryd.func45, Tryd.ntmps45
    go_wp2_with (first | (go_at_call 64; refine hlen.mono ?_; rintro e w' ⟨rfl, rfl⟩) | (go_at_call 63; refine h.mono ?_; rintro e w' ⟨rfl, rfl⟩))
    go_end0
    exact ⟨rfl, [], hown, List.Perm.refl _, List.Pairwise.nil, Go.RowKit.Below.refl _ _⟩
  · injection hv with h1 _ h3
    subst h1 h3
    obtain ⟨hbg, hlt⟩ := own_lt hown
    have hl : l.toArray.size = n := by simpa using hown.len
    have hlim : Lib.bitLen l.toArray.size < 4611686018427387904 := Nat.lt_of_le_of_lt (Lib.bitLen_le l.toArray.size 62 (by omega) (by omega)) (by omega)
    have hH := own_holdsK encC_len (by omega) hown
    have h := AnyQ.pdqsortCmpFunc_all Tryd.pdqCe 3 Tryd.isAgg54 Tryd.sizeOf54 encC cf g #[] hO gb 0 c l.toArray w eg
      (fun _ _ _ _ x y => hcmp x y _) ⟨encC_len, encC_one, hH, hlt⟩ (l.toArray.size + 1) 0 l.toArray.size (Lib.bitLen l.toArray.size) l.toArray w (by omega) rfl (SWK.start hH) (Nat.zero_le _) (Nat.le_refl _) (by omega) hlim (Or.inl rfl)
    change Calls Tryd.prog 63 _ _ _ at h
    have hsorts := pdq_sorts (ltOf cf) hO l.toArray 0 l.toArray.size (Lib.bitLen l.toArray.size) true true (Nat.zero_le _) (Nat.le_refl _) (Or.inl rfl)
    generalize pdq (ltOf cf) l.toArray 0 l.toArray.size (Lib.bitLen l.toArray.size) true true = d' at h hsorts
    obtain ⟨l', rfl, hperm, hpw⟩ := sorted_list hsorts.1 hsorts.2
    have hl' : l'.length = n := by rw [hperm.length_eq, hown.len]
    rw [hl] at h
    generalize ((Lib.bitLen n : Nat) : Int) = lim at h hlen
    have HO := Lib.hid hown
    have HL := Lib.hid hl'
    clear hown hH hl hlim hsorts hl'
    go_enter Tryd.func45, Tryd.ntmps45
    go_wp2_with (first | (go_at_call 64; refine hlen.mono ?_; rintro e w' ⟨rfl, rfl⟩) | (go_at_call 63; refine h.mono ?_; rintro e w' ⟨rfl, m, os, rfl⟩))
    go_end0
    exact ⟨rfl, l', own_sorted encC_len (by omega) HO.out HL.out m os, hperm, hpw, below_sorted l'.toArray hbg hlt m os⟩
theorem sort_order (B : Nat) (A : Option Addr) (n c : Nat) (l : List (Int × Int × Int)) (w : World) (hown : Own encC 3 54 B w A n c l) (hB : B ≤ w.heap.size) (hn : n ≤ 1000000) :
    Calls Tryd.prog 45 #[.slice A n c, .func (.func 55) #[] #[]] w fun e w' => e = .returned (.tuple #[]) ∧ ∃ l', Own encC 3 54 B w' A n c l' ∧ l'.Perm l ∧ WC l' ∧ Below B w w' := by
  have eg : ∀ args w, (callFunc 55 args).run Tryd.prog w = .ok (.enter 55 args) w := enters_of Tryd.func55 (by kernel_rfl) rfl
  refine (sortFunc_ce 55 cmpO swo_cmpO eg (fun x y W => pat_orderG x.1 x.2.1 x.2.2 y.1 y.2.1 y.2.2 W) B A n c l w hown hB hn).mono ?_
  rintro e w' ⟨rfl, l', h1, h2, h3, h4⟩
  exact ⟨rfl, l', h1, h2, h3.imp fun {a b} h => by rw [lt_cmpO] at h; exact h, h4⟩
end Go.Proofs.YtenckggfgbkfnaaDoor
