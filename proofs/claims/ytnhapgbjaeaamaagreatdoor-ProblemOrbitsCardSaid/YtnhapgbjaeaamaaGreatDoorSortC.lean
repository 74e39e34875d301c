/- The contract of slices.SortFunc at cells; pattern.order as a comparison for it. -/
import Derived.Test.YtnhapgbjaeaamaaGreatDoorCell
import Derived.Test.YtnhapgbjaeaamaaGreatDoorSortW
import Derived.Test.YtnhapgbjaeaamaaGreatDoorPLN
import Derived.Shelf.SlSortCmp.QuietGrown
import Derived.Shelf.Small.Bits
import Derived.Ground.NamesProg
namespace Go.Proofs.YtnhapgbjaeaamaaGreatDoor
open Go Go.RowKit Go.Shelf Go.Sort
set_option linter.unusedSimpArgs false
set_option linter.unusedVariables false
set_option maxRecDepth 100000
attribute [local go_sem ↓ high] eq_cl neq_cl eq_pt neq_pt
def Tryz.pdqCe_ren : Go.Shelf.Ren := ⟨fun | 14 => 117 | 20 => 121 | 21 => 122 | 22 => 123 | 23 => 124 | 24 => 125 | 25 => 126 | 26 => 127 | 27 => 128 | 46 => 132 | 47 => 133 | 48 => 134 | 49 => 135 | 50 => 136 | 15 => 118 | 57 => 137 | 28 => 129 | 29 => 130 | n => n, fun | 24 => 49 | 22 => 35 | 3 => 3 | 25 => 119 | 4 => 4 | 0 => 0 | 46 => 136 | 45 => 135 | 50 => 140 | 66 => 146 | 39 => 132 | 55 => 145 | 70 => 150 | 76 => 152 | 77 => 153 | 53 => 143 | 5 => 5 | 9 => 9 | n => n, fun | n => n⟩
theorem Tryz.pdqCe : Go.Proofs.SlLaysF0.n14 Tryz.prog Tryz.pdqCe_ren := {
  mixed := by kernel_rfl
  f14 := ⟨Tryz.f117.name, by decide, Tryz.func117.trans (congrArg some (by kernel_rfl))⟩
  f15 := Tryz.func118.trans (congrArg some (by kernel_rfl))
  f20 := ⟨Tryz.f121.name, by decide, Tryz.func121.trans (congrArg some (by kernel_rfl))⟩
  f21 := ⟨Tryz.f122.name, by decide, Tryz.func122.trans (congrArg some (by kernel_rfl))⟩
  f22 := ⟨Tryz.f123.name, by decide, Tryz.func123.trans (congrArg some (by kernel_rfl))⟩
  f23 := ⟨Tryz.f124.name, by decide, Tryz.func124.trans (congrArg some (by kernel_rfl))⟩
  f24 := ⟨Tryz.f125.name, by decide, Tryz.func125.trans (congrArg some (by kernel_rfl))⟩
  f25 := ⟨Tryz.f126.name, by decide, Tryz.func126.trans (congrArg some (by kernel_rfl))⟩
  f26 := ⟨Tryz.f127.name, by decide, Tryz.func127.trans (congrArg some (by kernel_rfl))⟩
  f27 := ⟨Tryz.f128.name, by decide, Tryz.func128.trans (congrArg some (by kernel_rfl))⟩
  f28 := Tryz.func129.trans (congrArg some (by kernel_rfl))
  f29 := Tryz.func130.trans (congrArg some (by kernel_rfl))
  f46 := ⟨Tryz.f132.name, by decide, Tryz.func132.trans (congrArg some (by kernel_rfl))⟩
  f47 := Tryz.func133.trans (congrArg some (by kernel_rfl))
  f48 := Tryz.func134.trans (congrArg some (by kernel_rfl))
  f49 := ⟨Tryz.f135.name, by decide, Tryz.func135.trans (congrArg some (by kernel_rfl))⟩
  f50 := ⟨Tryz.f136.name, by decide, Tryz.func136.trans (congrArg some (by kernel_rfl))⟩
  f57 := ⟨Tryz.f137.name, by decide, Tryz.func137.trans (congrArg some (by kernel_rfl))⟩
  t0 := Tryz.underlying0
  a0 := Tryz.isAgg0
  z0 := Tryz.sizeOf0
  v0 := Tryz.zeroValue0
  t3 := Tryz.underlying3
  a3 := Tryz.isAgg3
  z3 := Tryz.sizeOf3
  v3 := Tryz.zeroValue3
  t4 := Tryz.underlying4
  a4 := Tryz.isAgg4
  z4 := Tryz.sizeOf4
  v4 := Tryz.zeroValue4
  t5 := Tryz.underlying5
  a5 := Tryz.isAgg5
  z5 := Tryz.sizeOf5
  v5 := Tryz.zeroValue5
  t9 := Tryz.underlying9
  a9 := Tryz.isAgg9
  z9 := Tryz.sizeOf9
  v9 := Tryz.zeroValue9
  t22 := Tryz.underlying35
  a22 := Tryz.isAgg35
  z22 := Tryz.sizeOf35
  v22 := Tryz.zeroValue35
  t25 := Tryz.underlying119
  a25 := Tryz.isAgg119
  z25 := Tryz.sizeOf119
  v25 := Tryz.zeroValue119
  t39 := Tryz.underlying132
  a39 := Tryz.isAgg132
  z39 := Tryz.sizeOf132
  v39 := Tryz.zeroValue132
  t45 := Tryz.underlying135
  a45 := Tryz.isAgg135
  z45 := Tryz.sizeOf135
  v45 := Tryz.zeroValue135
  t46 := Tryz.underlying136
  a46 := Tryz.isAgg136
  z46 := Tryz.sizeOf136
  v46 := Tryz.zeroValue136
  t50 := Tryz.underlying140
  a50 := Tryz.isAgg140
  z50 := Tryz.sizeOf140
  v50 := Tryz.zeroValue140
  t53 := Tryz.underlying143
  a53 := Tryz.isAgg143
  z53 := Tryz.sizeOf143
  v53 := Tryz.zeroValue143
  t55 := Tryz.underlying145
  a55 := Tryz.isAgg145
  z55 := Tryz.sizeOf145
  v55 := Tryz.zeroValue145
  t66 := Tryz.underlying146
  a66 := Tryz.isAgg146
  z66 := Tryz.sizeOf146
  v66 := Tryz.zeroValue146
  t70 := Tryz.underlying150
  a70 := Tryz.isAgg150
  z70 := Tryz.sizeOf150
  v70 := Tryz.zeroValue150
  t76 := Tryz.underlying152
  a76 := Tryz.isAgg152
  z76 := Tryz.sizeOf152
  v76 := Tryz.zeroValue152
  t77 := Tryz.underlying153
  a77 := Tryz.isAgg153
  z77 := Tryz.sizeOf153
  v77 := Tryz.zeroValue153 }
def Tryz.bitsL_ren : Go.Shelf.Ren := ⟨fun | 125 => 118 | 128 => 129 | 129 => 130 | n => n, fun | 46 => 132 | 3 => 3 | 51 => 143 | 53 => 145 | 4 => 4 | 5 => 5 | 9 => 9 | n => n, fun | n => n⟩
theorem Tryz.bitsL : Go.Proofs.Lays.n125 Tryz.prog Tryz.bitsL_ren := {
  mixed := by kernel_rfl
  f125 := Tryz.func118.trans (congrArg some (by kernel_rfl))
  f128 := Tryz.func129.trans (congrArg some (by kernel_rfl))
  f129 := Tryz.func130.trans (congrArg some (by kernel_rfl))
  t3 := Tryz.underlying3
  a3 := Tryz.isAgg3
  z3 := Tryz.sizeOf3
  v3 := Tryz.zeroValue3
  t4 := Tryz.underlying4
  a4 := Tryz.isAgg4
  z4 := Tryz.sizeOf4
  v4 := Tryz.zeroValue4
  t5 := Tryz.underlying5
  a5 := Tryz.isAgg5
  z5 := Tryz.sizeOf5
  v5 := Tryz.zeroValue5
  t9 := Tryz.underlying9
  a9 := Tryz.isAgg9
  z9 := Tryz.sizeOf9
  v9 := Tryz.zeroValue9
  t46 := Tryz.underlying132
  a46 := Tryz.isAgg132
  z46 := Tryz.sizeOf132
  v46 := Tryz.zeroValue132
  t51 := Tryz.underlying143
  a51 := Tryz.isAgg143
  z51 := Tryz.sizeOf143
  v51 := Tryz.zeroValue143
  t53 := Tryz.underlying145
  a53 := Tryz.isAgg145
  z53 := Tryz.sizeOf145
  v53 := Tryz.zeroValue145 }
theorem pat_atG (x y s : Int) (w : World) : Calls Tryz.prog 100 #[.agg #[.int .i64 x, .int .i64 y, .int .i64 s]] w fun e w' => e = .returned (.agg #[.int .i64 x, .int .i64 y]) ∧ ∃ q os, w' = grow (w.drewN q) os := by
  go_enter Tryz.func100, Tryz.ntmps100
  go_wp2
  refine bodyPost_ret (v := .agg #[.int .i64 x, .int .i64 y]) (by simp [results, Tryz.results100, go_sem, *, ↓IntWalk.iteOmega]) rfl ?_
  exact ⟨rfl, 0, _, by rw [alloc_eq_grow, alloc_eq_grow, grow_grow]; rfl⟩
theorem pat_orderG (x y s x' y' s' : Int) (w : World) : Calls Tryz.prog 102 #[.agg #[.int .i64 x, .int .i64 y, .int .i64 s], .agg #[.int .i64 x', .int .i64 y', .int .i64 s']] w fun e w' => e = .returned (.int .i64 (cmpP x y x' y')) ∧ ∃ q os, w' = grow (w.drewN q) os := by
  have mixed : Tryz.prog.follows .mixedOrders = true := by kernel_rfl
  obtain ⟨W, hW⟩ : ∃ W, W = (w.alloc (.cells #[.int .i64 x, .int .i64 y, .int .i64 s] 49)).alloc (.cells #[.int .i64 x', .int .i64 y', .int .i64 s'] 49) := ⟨_, rfl⟩
  have HG : Hid (W = grow (w.drewN 0) #[.cells #[.int .i64 x, .int .i64 y, .int .i64 s] 49, .cells #[.int .i64 x', .int .i64 y', .int .i64 s'] 49]) := by
    show _ = _
    rw [hW, alloc_eq_grow, alloc_eq_grow, grow_grow]; rfl
  have hs : w.heap.size + 1 < W.heap.size := by rw [hW]; simp
  have a0 := fun n os => cell_grown (w := W) (a := ⟨w.heap.size, 0, none⟩) (v := .int .i64 x) (by show w.heap.size < _; omega) (by rw [hW]; simp [cell_alloc_if]) n os
  have a1 := fun n os => cell_grown (w := W) (a := ⟨w.heap.size, 1, none⟩) (v := .int .i64 y) (by show w.heap.size < _; omega) (by rw [hW]; simp [cell_alloc_if]) n os
  have a2 := fun n os => cell_grown (w := W) (a := ⟨w.heap.size, 2, none⟩) (v := .int .i64 s) (by show w.heap.size < _; omega) (by rw [hW]; simp [cell_alloc_if]) n os
  have b0 := fun n os => cell_grown (w := W) (a := ⟨w.heap.size + 1, 0, none⟩) (v := .int .i64 x') (by show w.heap.size + 1 < _; omega) (by rw [hW]; simp [cell_alloc_if]) n os
  have b1 := fun n os => cell_grown (w := W) (a := ⟨w.heap.size + 1, 1, none⟩) (v := .int .i64 y') (by show w.heap.size + 1 < _; omega) (by rw [hW]; simp [cell_alloc_if]) n os
  have b2 := fun n os => cell_grown (w := W) (a := ⟨w.heap.size + 1, 2, none⟩) (v := .int .i64 s') (by show w.heap.size + 1 < _; omega) (by rw [hW]; simp [cell_alloc_if]) n os
  go_enter Tryz.func102, Tryz.ntmps102
  go_wp2
  rw [← hW]
  clear hW
  go_quiet_grown ((first | (go_at_call 100; exact Calls.grown_of (pat_atG _ _ _ _)) | (go_at_call 114; exact Calls.grown_of (point_CompareG _ _ _ _ _))))
  go_wp2
  go_ret
  exact ⟨rfl, 0 + nq, _, by rw [HG.out]; show grow ((grow (w.drewN 0) _).drewN nq) osq = _; rw [show (grow (w.drewN 0) #[.cells #[.int .i64 x, .int .i64 y, .int .i64 s] 49, .cells #[.int .i64 x', .int .i64 y', .int .i64 s'] 49]).drewN nq = grow ((w.drewN 0).drewN nq) _ from rfl, grow_grow, World.drewN_drewN]⟩
theorem lt_cmpO (x y : Int × Int × Int) : ltOf cmpO x y = cBef x y := lt_cmpQ (x.1, x.2.1) (y.1, y.2.1)
theorem swo_cmpO : SWO (ltOf cmpO) := by
  have e : ltOf cmpO = cBef := by funext x y; exact lt_cmpO x y
  rw [e]
  refine ⟨cBef_irr, fun x y z => cBef_tr, fun x y z h1 h2 => ?_⟩
  unfold cBef befP at *; simp only [decide_eq_false_iff_not] at *; omega
theorem grown_sorted {α : Type} [Inhabited α] {enc : α → List Value} {k : Nat} {w : World} {g : Nat} (d : Array α) (m : Nat) (os : Array Obj) : w.grownBy (sortWorldK enc k w g 0 m d os) (some g) :=
  ⟨rfl, rfl, rfl, by simp [sortWorldK, grow, putRowK, putRow, mapBlock, Sort.ahead], fun i hi hne => by
    have hg : g ≠ i := fun e => hne (by rw [e])
    unfold sortWorldK grow
    rw [Array.getElem?_append_left (by simpa [putRowK, putRow, mapBlock, Sort.ahead] using hi)]
    simp [putRowK, putRow, mapBlock, Sort.ahead, Array.getElem?_modify, hg]⟩
/-- slices.SortFunc at a row of the call's own, with a comparison that is a strict weak order. -/
theorem sortFunc_ceG (g : Nat) (cf : Int × Int × Int → Int × Int × Int → Int) (hO : SWO (ltOf cf)) (eg : ∀ args w, (callFunc g args).run Tryz.prog w = .ok (.enter g args) w)
    (hcmp : ∀ (x y : Int × Int × Int) (W : World), Calls Tryz.prog g #[.agg (encC x).toArray, .agg (encC y).toArray] W fun e w' => e = .returned (.int .i64 (cf x y)) ∧ ∃ q os, w' = grow (W.drewN q) os)
    (B : Nat) (A : Option Addr) (n c : Nat) (l : List (Int × Int × Int)) (w : World) (hown : Own encC 3 49 B w A n c l) (hB : B ≤ w.heap.size) (hn : n ≤ 1000000) :
    Calls Tryz.prog 112 #[.slice A n c, .func (.func g) #[] #[]] w fun e w' => e = .returned (.tuple #[]) ∧ ∃ l', Own encC 3 49 B w' A n c l' ∧ l'.Perm l ∧ (l'.Pairwise fun a b => ltOf cf b a = false) ∧ Below B w w' ∧ w.grownBy w' (Value.slice A n c).ownBlock := by
  have hlen : Calls Tryz.prog 118 #[.int .u64 (n : Int)] w fun e w' => e = .returned (.int .i64 (Lib.bitLen n : Nat)) ∧ w' = w := by
    have h := Any.bits_Len Tryz.bitsL (n : Int) w (by omega) (by omega)
    rwa [Int.toNat_natCast] at h
  have hcv : IntKind.u64.wrap (n : Int) = n := by simp [IntKind.wrap, IntKind.bits, IntKind.signed]; omega
  rcases hown.row.2 with ⟨h0, hz⟩ | ⟨gb, cap, cur, hv, hg, hrest⟩
  · injection h0 with h1 h2 h3
    subst h1 hz h3
    obtain rfl : l = [] := List.length_eq_zero_iff.1 hown.len
    have h := AnyF.pdqsortCmpFunc_none (P := Tryz.prog) { Tryz.pdqCe with } none 0 (Lib.bitLen 0 : Nat) (.func (.func g) #[] #[]) w
    change Calls Tryz.prog 117 _ _ _ at h
    generalize ((Lib.bitLen 0 : Nat) : Int) = lim at h hlen
    go_enter Tryz.func112, Tryz.ntmps112
    go_wp2_with (first | (go_at_call 118; refine hlen.mono ?_; rintro e w' ⟨rfl, rfl⟩) | (go_at_call 117; refine h.mono ?_; rintro e w' ⟨rfl, rfl⟩))
    go_end0
    exact ⟨rfl, [], hown, List.Perm.refl _, List.Pairwise.nil, Go.RowKit.Below.refl _ _, World.grownBy.refl _ _⟩
  · injection hv with h1 _ h3
    subst h1 h3
    obtain ⟨hbg, hlt⟩ := own_lt hown
    have hl : l.toArray.size = n := by simpa using hown.len
    have hlim : Lib.bitLen l.toArray.size < 4611686018427387904 := Nat.lt_of_le_of_lt (Lib.bitLen_le l.toArray.size 62 (by omega) (by omega)) (by omega)
    have hH := own_holdsK encC_len (by omega) hown
    have h := AnyQ.pdqsortCmpFunc_all Tryz.pdqCe 3 Tryz.isAgg49 Tryz.sizeOf49 encC cf g #[] hO gb 0 c l.toArray w eg
      (fun _ _ _ _ x y => hcmp x y _) ⟨encC_len, encC_one, hH, hlt⟩ (l.toArray.size + 1) 0 l.toArray.size (Lib.bitLen l.toArray.size) l.toArray w (by omega) rfl (SWK.start hH) (Nat.zero_le _) (Nat.le_refl _) (by omega) hlim (Or.inl rfl)
    change Calls Tryz.prog 117 _ _ _ at h
    have hsorts := pdq_sorts (ltOf cf) hO l.toArray 0 l.toArray.size (Lib.bitLen l.toArray.size) true true (Nat.zero_le _) (Nat.le_refl _) (Or.inl rfl)
    generalize pdq (ltOf cf) l.toArray 0 l.toArray.size (Lib.bitLen l.toArray.size) true true = d' at h hsorts
    obtain ⟨l', rfl, hperm, hpw⟩ := sorted_list hsorts.1 hsorts.2
    have hl' : l'.length = n := by rw [hperm.length_eq, hown.len]
    rw [hl] at h
    generalize ((Lib.bitLen n : Nat) : Int) = lim at h hlen
    have HO := Lib.hid hown
    have HL := Lib.hid hl'
    clear hown hH hl hlim hsorts hl'
    go_enter Tryz.func112, Tryz.ntmps112
    go_wp2_with (first | (go_at_call 118; refine hlen.mono ?_; rintro e w' ⟨rfl, rfl⟩) | (go_at_call 117; refine h.mono ?_; rintro e w' ⟨rfl, m, os, rfl⟩))
    go_end0
    exact ⟨rfl, l', own_sorted encC_len (by omega) HO.out HL.out m os, hperm, hpw, below_sorted l'.toArray hbg hlt m os, grown_sorted l'.toArray m os⟩
theorem sortFunc_ce (g : Nat) (cf : Int × Int × Int → Int × Int × Int → Int) (hO : SWO (ltOf cf)) (eg : ∀ args w, (callFunc g args).run Tryz.prog w = .ok (.enter g args) w)
    (hcmp : ∀ (x y : Int × Int × Int) (W : World), Calls Tryz.prog g #[.agg (encC x).toArray, .agg (encC y).toArray] W fun e w' => e = .returned (.int .i64 (cf x y)) ∧ ∃ q os, w' = grow (W.drewN q) os)
    (B : Nat) (A : Option Addr) (n c : Nat) (l : List (Int × Int × Int)) (w : World) (hown : Own encC 3 49 B w A n c l) (hB : B ≤ w.heap.size) (hn : n ≤ 1000000) :
    Calls Tryz.prog 112 #[.slice A n c, .func (.func g) #[] #[]] w fun e w' => e = .returned (.tuple #[]) ∧ ∃ l', Own encC 3 49 B w' A n c l' ∧ l'.Perm l ∧ (l'.Pairwise fun a b => ltOf cf b a = false) ∧ Below B w w' :=
  (sortFunc_ceG g cf hO eg hcmp B A n c l w hown hB hn).mono fun _ _ ⟨h0, l', h1, h2, h3, h4, _⟩ => ⟨h0, l', h1, h2, h3, h4⟩
theorem sort_order (B : Nat) (A : Option Addr) (n c : Nat) (l : List (Int × Int × Int)) (w : World) (hown : Own encC 3 49 B w A n c l) (hB : B ≤ w.heap.size) (hn : n ≤ 1000000) :
    Calls Tryz.prog 112 #[.slice A n c, .func (.func 102) #[] #[]] w fun e w' => e = .returned (.tuple #[]) ∧ ∃ l', Own encC 3 49 B w' A n c l' ∧ l'.Perm l ∧ WC l' ∧ Below B w w' := by
  have eg : ∀ args w, (callFunc 102 args).run Tryz.prog w = .ok (.enter 102 args) w := enters_of Tryz.func102 (by kernel_rfl) rfl
  refine (sortFunc_ce 102 cmpO swo_cmpO eg (fun x y W => pat_orderG x.1 x.2.1 x.2.2 y.1 y.2.1 y.2.2 W) B A n c l w hown hB hn).mono ?_
  rintro e w' ⟨rfl, l', h1, h2, h3, h4⟩
  exact ⟨rfl, l', h1, h2, h3.imp fun {a b} h => by rw [lt_cmpO] at h; exact h, h4⟩
end Go.Proofs.YtnhapgbjaeaamaaGreatDoor
