/- The contracts of slices.Clone, slices.SortFunc, slices.Compact at positions, and of point.Sort. The contract of slices.SortFunc at cells; pattern.order as a comparison for it. The contract of pattern.From. The contracts of the reference's insert and From. The contract of the reference's From. Slices of cells: literals, parts of a slice, contracts at known lists. -/
import Derived.Test.YtfdihjjnlmhibaaGreatProg
import Derived.Test.YtfdihjjnlmhibaaGreatCEL
import Derived.Test.YtfdihjjnlmhibaaGreatMEM
import Derived.Shelf.SlGeneric
import Derived.Shelf.SlSortCmp.NoneTotal
import Derived.Ground.SlsfProg
import Derived.Test.YtfdihjjnlmhibaaGreatPLN
import Derived.Shelf.SlSortCmp.QuietGrown
import Derived.Shelf.Small.Bits
import Derived.Ground.NamesProg
set_option linter.unusedSimpArgs false
set_option linter.unusedVariables false
section
namespace Go.Proofs.YtfdihjjnlmhibaaGreat
open Go Go.RowKit Go.Shelf Go.Sort
set_option maxRecDepth 100000
attribute [local go_sem ↓ high] eq_pt neq_pt
def befQ (p q : Int × Int) : Bool := befP p.1 p.2 q.1 q.2
def cmpQ (p q : Int × Int) : Int := cmpP p.1 p.2 q.1 q.2
theorem lt_cmpQ (x y : Int × Int) : ltOf cmpQ x y = befQ x y := by
  unfold ltOf cmpQ cmpP befQ befP orI cmpI
  rw [Bool.eq_iff_iff]
  simp only [decide_eq_true_eq]
  repeat' split
  all_goals omega
set_option maxHeartbeats 400000 in
theorem point_CompareG (ax ay bx bx' : Int) (w : World) : Calls Tryz.prog 91 #[.agg #[.int .i64 ax, .int .i64 ay], .agg #[.int .i64 bx, .int .i64 bx']] w fun e w' => e = .returned (.int .i64 (cmpP ax ay bx bx')) ∧ ∃ q os, w' = grow (w.drewN q) os := by
  go_enter Tryz.func91, Tryz.ntmps91
  go_wp2
  refine wp_region_still_tail 10 (by kernel_rfl) (by kernel_rfl) ?_
  simp only [List.take_succ_cons, List.take_zero, List.drop_succ_cons, List.drop_zero]
  change wpStill _ _ (World.drew _) (fun a' => wpList _ _ _ _ a' (World.drew _)) _ _
  have hb : Below (w.heap.size + 2) ((w.alloc (.cells #[.int .i64 ax, .int .i64 ay] 74)).alloc (.cells #[.int .i64 bx, .int .i64 bx'] 74)) ((w.alloc (.cells #[.int .i64 ax, .int .i64 ay] 74)).alloc (.cells #[.int .i64 bx, .int .i64 bx'] 74)).drew := (Below.refl _ _).drew
  have hW : Hid (((w.alloc (.cells #[.int .i64 ax, .int .i64 ay] 74)).alloc (.cells #[.int .i64 bx, .int .i64 bx'] 74)).drew = grow (w.drewN 1) #[.cells #[.int .i64 ax, .int .i64 ay] 74, .cells #[.int .i64 bx, .int .i64 bx'] 74]) := by
    show _ = _
    rw [alloc_eq_grow, alloc_eq_grow, grow_grow]; rfl
  generalize ((w.alloc (.cells #[.int .i64 ax, .int .i64 ay] 74)).alloc (.cells #[.int .i64 bx, .int .i64 bx'] 74)).drew = W at hb hW ⊢
  have hs := hb.size
  simp only [World.size_alloc] at hs
  have c0 : W.cell? ⟨w.heap.size, 0, none⟩ = some (.int .i64 ax) := by rw [hb.cell (p := ⟨w.heap.size, 0, none⟩) (by show w.heap.size < _; omega)]; simp [cell_alloc_if, cellOf]
  have c1 : W.cell? ⟨w.heap.size, 1, none⟩ = some (.int .i64 ay) := by rw [hb.cell (p := ⟨w.heap.size, 1, none⟩) (by show w.heap.size < _; omega)]; simp [cell_alloc_if, cellOf]
  have c2 : W.cell? ⟨w.heap.size + 1, 0, none⟩ = some (.int .i64 bx) := by rw [hb.cell (p := ⟨w.heap.size + 1, 0, none⟩) (by show w.heap.size + 1 < _; omega)]; simp [cell_alloc_if, cellOf]
  have c3 : W.cell? ⟨w.heap.size + 1, 1, none⟩ = some (.int .i64 bx') := by rw [hb.cell (p := ⟨w.heap.size + 1, 1, none⟩) (by show w.heap.size + 1 < _; omega)]; simp [cell_alloc_if, cellOf]
  repeat still_step
  still_call (cmp_CompareS _ _ _)
  repeat still_step
  still_call (cmp_CompareS _ _ _)
  refine wpStill_nil ?_
  have hl := (Own.lit encI_len W 3 W.heap.size (Nat.le_refl _) [cmpI ay bx', cmpI ax bx] 2 rfl (by omega) [.int .i64 (cmpI ay bx'), .int .i64 (cmpI ax bx)] rfl).rd encI_len
  show wpList _ _ _ _ _ _
  go_wp2_with fail
  go_at_call 107
  refine (cmp_Or2 _ _ _ _ _ hl).mono ?_
  rintro e w' ⟨rfl, rfl⟩
  go_wp2_with fail
  go_ret
  exact ⟨rfl, 1, _, by rw [hW.out, alloc_eq_grow, grow_grow]⟩
end Go.Proofs.YtfdihjjnlmhibaaGreat
end
section
namespace Go.Proofs.YtfdihjjnlmhibaaGreat
open Go Go.RowKit Go.Shelf Go.Sort
set_option maxRecDepth 100000
attribute [local go_sem ↓ high] eq_cl neq_cl eq_pt neq_pt
def Tryz.pdqCe_ren : Go.Shelf.Ren := ⟨fun | 14 => 119 | 20 => 129 | 21 => 130 | 22 => 131 | 23 => 132 | 24 => 133 | 25 => 134 | 26 => 135 | 27 => 136 | 46 => 138 | 47 => 125 | 48 => 126 | 49 => 139 | 50 => 140 | 15 => 93 | 57 => 141 | 28 => 117 | 29 => 118 | n => n, fun | 24 => 50 | 22 => 32 | 3 => 3 | 25 => 99 | 4 => 4 | 0 => 0 | 46 => 139 | 45 => 138 | 50 => 143 | 66 => 153 | 39 => 123 | 55 => 148 | 70 => 157 | 76 => 164 | 77 => 165 | 53 => 146 | 5 => 5 | 9 => 9 | n => n, fun | n => n⟩
theorem Tryz.pdqCe : Go.Proofs.SlLaysF0.n14 Tryz.prog Tryz.pdqCe_ren := {
  mixed := by kernel_rfl
  f14 := ⟨Tryz.f119.name, by decide, Tryz.func119.trans (congrArg some (by kernel_rfl))⟩
  f15 := Tryz.func93.trans (congrArg some (by kernel_rfl))
  f20 := ⟨Tryz.f129.name, by decide, Tryz.func129.trans (congrArg some (by kernel_rfl))⟩
  f21 := ⟨Tryz.f130.name, by decide, Tryz.func130.trans (congrArg some (by kernel_rfl))⟩
  f22 := ⟨Tryz.f131.name, by decide, Tryz.func131.trans (congrArg some (by kernel_rfl))⟩
  f23 := ⟨Tryz.f132.name, by decide, Tryz.func132.trans (congrArg some (by kernel_rfl))⟩
  f24 := ⟨Tryz.f133.name, by decide, Tryz.func133.trans (congrArg some (by kernel_rfl))⟩
  f25 := ⟨Tryz.f134.name, by decide, Tryz.func134.trans (congrArg some (by kernel_rfl))⟩
  f26 := ⟨Tryz.f135.name, by decide, Tryz.func135.trans (congrArg some (by kernel_rfl))⟩
  f27 := ⟨Tryz.f136.name, by decide, Tryz.func136.trans (congrArg some (by kernel_rfl))⟩
  f28 := Tryz.func117.trans (congrArg some (by kernel_rfl))
  f29 := Tryz.func118.trans (congrArg some (by kernel_rfl))
  f46 := ⟨Tryz.f138.name, by decide, Tryz.func138.trans (congrArg some (by kernel_rfl))⟩
  f47 := Tryz.func125.trans (congrArg some (by kernel_rfl))
  f48 := Tryz.func126.trans (congrArg some (by kernel_rfl))
  f49 := ⟨Tryz.f139.name, by decide, Tryz.func139.trans (congrArg some (by kernel_rfl))⟩
  f50 := ⟨Tryz.f140.name, by decide, Tryz.func140.trans (congrArg some (by kernel_rfl))⟩
  f57 := ⟨Tryz.f141.name, by decide, Tryz.func141.trans (congrArg some (by kernel_rfl))⟩
  t0 := Tryz.underlying0
  a0 := Tryz.isAgg0
  z0 := Tryz.sizeOf0
  v0 := Tryz.zeroValue0
  t3 := Tryz.underlying3
  a3 := Tryz.isAgg3
  z3 := Tryz.sizeOf3
  v3 := Tryz.zeroValue3
  t4 := Tryz.underlying4
  a4 := Tryz.isAgg4
  z4 := Tryz.sizeOf4
  v4 := Tryz.zeroValue4
  t5 := Tryz.underlying5
  a5 := Tryz.isAgg5
  z5 := Tryz.sizeOf5
  v5 := Tryz.zeroValue5
  t9 := Tryz.underlying9
  a9 := Tryz.isAgg9
  z9 := Tryz.sizeOf9
  v9 := Tryz.zeroValue9
  t22 := Tryz.underlying32
  a22 := Tryz.isAgg32
  z22 := Tryz.sizeOf32
  v22 := Tryz.zeroValue32
  t25 := Tryz.underlying99
  a25 := Tryz.isAgg99
  z25 := Tryz.sizeOf99
  v25 := Tryz.zeroValue99
  t39 := Tryz.underlying123
  a39 := Tryz.isAgg123
  z39 := Tryz.sizeOf123
  v39 := Tryz.zeroValue123
  t45 := Tryz.underlying138
  a45 := Tryz.isAgg138
  z45 := Tryz.sizeOf138
  v45 := Tryz.zeroValue138
  t46 := Tryz.underlying139
  a46 := Tryz.isAgg139
  z46 := Tryz.sizeOf139
  v46 := Tryz.zeroValue139
  t50 := Tryz.underlying143
  a50 := Tryz.isAgg143
  z50 := Tryz.sizeOf143
  v50 := Tryz.zeroValue143
  t53 := Tryz.underlying146
  a53 := Tryz.isAgg146
  z53 := Tryz.sizeOf146
  v53 := Tryz.zeroValue146
  t55 := Tryz.underlying148
  a55 := Tryz.isAgg148
  z55 := Tryz.sizeOf148
  v55 := Tryz.zeroValue148
  t66 := Tryz.underlying153
  a66 := Tryz.isAgg153
  z66 := Tryz.sizeOf153
  v66 := Tryz.zeroValue153
  t70 := Tryz.underlying157
  a70 := Tryz.isAgg157
  z70 := Tryz.sizeOf157
  v70 := Tryz.zeroValue157
  t76 := Tryz.underlying164
  a76 := Tryz.isAgg164
  z76 := Tryz.sizeOf164
  v76 := Tryz.zeroValue164
  t77 := Tryz.underlying165
  a77 := Tryz.isAgg165
  z77 := Tryz.sizeOf165
  v77 := Tryz.zeroValue165 }
def Tryz.bitsL_ren : Go.Shelf.Ren := ⟨fun | 125 => 93 | 128 => 117 | 129 => 118 | n => n, fun | 46 => 123 | 3 => 3 | 51 => 146 | 53 => 148 | 4 => 4 | 5 => 5 | 9 => 9 | n => n, fun | n => n⟩
theorem Tryz.bitsL : Go.Proofs.Lays.n125 Tryz.prog Tryz.bitsL_ren := {
  mixed := by kernel_rfl
  f125 := Tryz.func93.trans (congrArg some (by kernel_rfl))
  f128 := Tryz.func117.trans (congrArg some (by kernel_rfl))
  f129 := Tryz.func118.trans (congrArg some (by kernel_rfl))
  t3 := Tryz.underlying3
  a3 := Tryz.isAgg3
  z3 := Tryz.sizeOf3
  v3 := Tryz.zeroValue3
  t4 := Tryz.underlying4
  a4 := Tryz.isAgg4
  z4 := Tryz.sizeOf4
  v4 := Tryz.zeroValue4
  t5 := Tryz.underlying5
  a5 := Tryz.isAgg5
  z5 := Tryz.sizeOf5
  v5 := Tryz.zeroValue5
  t9 := Tryz.underlying9
  a9 := Tryz.isAgg9
  z9 := Tryz.sizeOf9
  v9 := Tryz.zeroValue9
  t46 := Tryz.underlying123
  a46 := Tryz.isAgg123
  z46 := Tryz.sizeOf123
  v46 := Tryz.zeroValue123
  t51 := Tryz.underlying146
  a51 := Tryz.isAgg146
  z51 := Tryz.sizeOf146
  v51 := Tryz.zeroValue146
  t53 := Tryz.underlying148
  a53 := Tryz.isAgg148
  z53 := Tryz.sizeOf148
  v53 := Tryz.zeroValue148 }
theorem pat_atG (x y s : Int) (w : World) : Calls Tryz.prog 63 #[.agg #[.int .i64 x, .int .i64 y, .int .i64 s]] w fun e w' => e = .returned (.agg #[.int .i64 x, .int .i64 y]) ∧ ∃ q os, w' = grow (w.drewN q) os := by
  go_enter Tryz.func63, Tryz.ntmps63
  go_wp2
  refine bodyPost_ret (v := .agg #[.int .i64 x, .int .i64 y]) (by simp [results, Tryz.results63, go_sem, *, ↓IntWalk.iteOmega]) rfl ?_
  exact ⟨rfl, 0, _, by rw [alloc_eq_grow, alloc_eq_grow, grow_grow]; rfl⟩
theorem pat_orderG (x y s x' y' s' : Int) (w : World) : Calls Tryz.prog 64 #[.agg #[.int .i64 x, .int .i64 y, .int .i64 s], .agg #[.int .i64 x', .int .i64 y', .int .i64 s']] w fun e w' => e = .returned (.int .i64 (cmpP x y x' y')) ∧ ∃ q os, w' = grow (w.drewN q) os := by
  have mixed : Tryz.prog.follows .mixedOrders = true := by kernel_rfl
  obtain ⟨W, hW⟩ : ∃ W, W = (w.alloc (.cells #[.int .i64 x, .int .i64 y, .int .i64 s] 50)).alloc (.cells #[.int .i64 x', .int .i64 y', .int .i64 s'] 50) := ⟨_, rfl⟩
  have HG : Hid (W = grow (w.drewN 0) #[.cells #[.int .i64 x, .int .i64 y, .int .i64 s] 50, .cells #[.int .i64 x', .int .i64 y', .int .i64 s'] 50]) := by
    show _ = _
    rw [hW, alloc_eq_grow, alloc_eq_grow, grow_grow]; rfl
  have hs : w.heap.size + 1 < W.heap.size := by rw [hW]; simp
  have a0 := fun n os => cell_grown (w := W) (a := ⟨w.heap.size, 0, none⟩) (v := .int .i64 x) (by show w.heap.size < _; omega) (by rw [hW]; simp [cell_alloc_if]) n os
  have a1 := fun n os => cell_grown (w := W) (a := ⟨w.heap.size, 1, none⟩) (v := .int .i64 y) (by show w.heap.size < _; omega) (by rw [hW]; simp [cell_alloc_if]) n os
  have a2 := fun n os => cell_grown (w := W) (a := ⟨w.heap.size, 2, none⟩) (v := .int .i64 s) (by show w.heap.size < _; omega) (by rw [hW]; simp [cell_alloc_if]) n os
  have b0 := fun n os => cell_grown (w := W) (a := ⟨w.heap.size + 1, 0, none⟩) (v := .int .i64 x') (by show w.heap.size + 1 < _; omega) (by rw [hW]; simp [cell_alloc_if]) n os
  have b1 := fun n os => cell_grown (w := W) (a := ⟨w.heap.size + 1, 1, none⟩) (v := .int .i64 y') (by show w.heap.size + 1 < _; omega) (by rw [hW]; simp [cell_alloc_if]) n os
  have b2 := fun n os => cell_grown (w := W) (a := ⟨w.heap.size + 1, 2, none⟩) (v := .int .i64 s') (by show w.heap.size + 1 < _; omega) (by rw [hW]; simp [cell_alloc_if]) n os
  go_enter Tryz.func64, Tryz.ntmps64
  go_wp2
  rw [← hW]
  clear hW
  go_quiet_grown ((first | (go_at_call 63; exact Calls.grown_of (pat_atG _ _ _ _)) | (go_at_call 91; exact Calls.grown_of (point_CompareG _ _ _ _ _))))
  go_wp2
  go_ret
  exact ⟨rfl, 0 + nq, _, by rw [HG.out]; show grow ((grow (w.drewN 0) _).drewN nq) osq = _; rw [show (grow (w.drewN 0) #[.cells #[.int .i64 x, .int .i64 y, .int .i64 s] 50, .cells #[.int .i64 x', .int .i64 y', .int .i64 s'] 50]).drewN nq = grow ((w.drewN 0).drewN nq) _ from rfl, grow_grow, World.drewN_drewN]⟩
theorem lt_cmpO (x y : Int × Int × Int) : ltOf cmpO x y = cBef x y := lt_cmpQ (x.1, x.2.1) (y.1, y.2.1)
theorem swo_cmpO : SWO (ltOf cmpO) := by
  have e : ltOf cmpO = cBef := by funext x y; exact lt_cmpO x y
  rw [e]
  refine ⟨cBef_irr, fun x y z => cBef_tr, fun x y z h1 h2 => ?_⟩
  unfold cBef befP at *; simp only [decide_eq_false_iff_not] at *; omega
theorem grown_sorted {α : Type} [Inhabited α] {enc : α → List Value} {k : Nat} {w : World} {g : Nat} (d : Array α) (m : Nat) (os : Array Obj) : w.grownBy (sortWorldK enc k w g 0 m d os) (some g) :=
  ⟨rfl, rfl, rfl, by simp [sortWorldK, grow, putRowK, putRow, mapBlock, Sort.ahead], fun i hi hne => by
    have hg : g ≠ i := fun e => hne (by rw [e])
    unfold sortWorldK grow
    rw [Array.getElem?_append_left (by simpa [putRowK, putRow, mapBlock, Sort.ahead] using hi)]
    simp [putRowK, putRow, mapBlock, Sort.ahead, Array.getElem?_modify, hg]⟩
/-- slices.SortFunc at a row of the call's own, with a comparison that is a strict weak order. -/
theorem sortFunc_ceG (g : Nat) (cf : Int × Int × Int → Int × Int × Int → Int) (hO : SWO (ltOf cf)) (eg : ∀ args w, (callFunc g args).run Tryz.prog w = .ok (.enter g args) w)
    (hcmp : ∀ (x y : Int × Int × Int) (W : World), Calls Tryz.prog g #[.agg (encC x).toArray, .agg (encC y).toArray] W fun e w' => e = .returned (.int .i64 (cf x y)) ∧ ∃ q os, w' = grow (W.drewN q) os)
    (B : Nat) (A : Option Addr) (n c : Nat) (l : List (Int × Int × Int)) (w : World) (hown : Own encC 3 50 B w A n c l) (hB : B ≤ w.heap.size) (hn : n ≤ 1000000) :
    Calls Tryz.prog 95 #[.slice A n c, .func (.func g) #[] #[]] w fun e w' => e = .returned (.tuple #[]) ∧ ∃ l', Own encC 3 50 B w' A n c l' ∧ l'.Perm l ∧ (l'.Pairwise fun a b => ltOf cf b a = false) ∧ Below B w w' ∧ w.grownBy w' (Value.slice A n c).ownBlock := by
  have hlen : Calls Tryz.prog 93 #[.int .u64 (n : Int)] w fun e w' => e = .returned (.int .i64 (Lib.bitLen n : Nat)) ∧ w' = w := by
    have h := Any.bits_Len Tryz.bitsL (n : Int) w (by omega) (by omega)
    rwa [Int.toNat_natCast] at h
  have hcv : IntKind.u64.wrap (n : Int) = n := by simp [IntKind.wrap, IntKind.bits, IntKind.signed]; omega
  rcases hown.row.2 with ⟨h0, hz⟩ | ⟨gb, cap, cur, hv, hg, hrest⟩
  · injection h0 with h1 h2 h3
    subst h1 hz h3
    obtain rfl : l = [] := List.length_eq_zero_iff.1 hown.len
    have h := AnyF.pdqsortCmpFunc_none (P := Tryz.prog) { Tryz.pdqCe with } none 0 (Lib.bitLen 0 : Nat) (.func (.func g) #[] #[]) w
    change Calls Tryz.prog 119 _ _ _ at h
    generalize ((Lib.bitLen 0 : Nat) : Int) = lim at h hlen
    go_enter Tryz.func95, Tryz.ntmps95
    go_wp2_with (first | (go_at_call 93; refine hlen.mono ?_; rintro e w' ⟨rfl, rfl⟩) | (go_at_call 119; refine h.mono ?_; rintro e w' ⟨rfl, rfl⟩))
    go_end0
    exact ⟨rfl, [], hown, List.Perm.refl _, List.Pairwise.nil, Go.RowKit.Below.refl _ _, World.grownBy.refl _ _⟩
  · injection hv with h1 _ h3
    subst h1 h3
    obtain ⟨hbg, hlt⟩ := own_lt hown
    have hl : l.toArray.size = n := by simpa using hown.len
    have hlim : Lib.bitLen l.toArray.size < 4611686018427387904 := Nat.lt_of_le_of_lt (Lib.bitLen_le l.toArray.size 62 (by omega) (by omega)) (by omega)
    have hH := own_holdsK encC_len (by omega) hown
    have h := AnyQ.pdqsortCmpFunc_all Tryz.pdqCe 3 Tryz.isAgg50 Tryz.sizeOf50 encC cf g #[] hO gb 0 c l.toArray w eg
      (fun _ _ _ _ x y => hcmp x y _) ⟨encC_len, encC_one, hH, hlt⟩ (l.toArray.size + 1) 0 l.toArray.size (Lib.bitLen l.toArray.size) l.toArray w (by omega) rfl (SWK.start hH) (Nat.zero_le _) (Nat.le_refl _) (by omega) hlim (Or.inl rfl)
    change Calls Tryz.prog 119 _ _ _ at h
    have hsorts := pdq_sorts (ltOf cf) hO l.toArray 0 l.toArray.size (Lib.bitLen l.toArray.size) true true (Nat.zero_le _) (Nat.le_refl _) (Or.inl rfl)
    generalize pdq (ltOf cf) l.toArray 0 l.toArray.size (Lib.bitLen l.toArray.size) true true = d' at h hsorts
    obtain ⟨l', rfl, hperm, hpw⟩ := sorted_list hsorts.1 hsorts.2
    have hl' : l'.length = n := by rw [hperm.length_eq, hown.len]
    rw [hl] at h
    generalize ((Lib.bitLen n : Nat) : Int) = lim at h hlen
    have HO := Lib.hid hown
    have HL := Lib.hid hl'
    clear hown hH hl hlim hsorts hl'
    go_enter Tryz.func95, Tryz.ntmps95
    go_wp2_with (first | (go_at_call 93; refine hlen.mono ?_; rintro e w' ⟨rfl, rfl⟩) | (go_at_call 119; refine h.mono ?_; rintro e w' ⟨rfl, m, os, rfl⟩))
    go_end0
    exact ⟨rfl, l', own_sorted encC_len (by omega) HO.out HL.out m os, hperm, hpw, below_sorted l'.toArray hbg hlt m os, grown_sorted l'.toArray m os⟩
theorem sortFunc_ce (g : Nat) (cf : Int × Int × Int → Int × Int × Int → Int) (hO : SWO (ltOf cf)) (eg : ∀ args w, (callFunc g args).run Tryz.prog w = .ok (.enter g args) w)
    (hcmp : ∀ (x y : Int × Int × Int) (W : World), Calls Tryz.prog g #[.agg (encC x).toArray, .agg (encC y).toArray] W fun e w' => e = .returned (.int .i64 (cf x y)) ∧ ∃ q os, w' = grow (W.drewN q) os)
    (B : Nat) (A : Option Addr) (n c : Nat) (l : List (Int × Int × Int)) (w : World) (hown : Own encC 3 50 B w A n c l) (hB : B ≤ w.heap.size) (hn : n ≤ 1000000) :
    Calls Tryz.prog 95 #[.slice A n c, .func (.func g) #[] #[]] w fun e w' => e = .returned (.tuple #[]) ∧ ∃ l', Own encC 3 50 B w' A n c l' ∧ l'.Perm l ∧ (l'.Pairwise fun a b => ltOf cf b a = false) ∧ Below B w w' :=
  (sortFunc_ceG g cf hO eg hcmp B A n c l w hown hB hn).mono fun _ _ ⟨h0, l', h1, h2, h3, h4, _⟩ => ⟨h0, l', h1, h2, h3, h4⟩
theorem sort_order (B : Nat) (A : Option Addr) (n c : Nat) (l : List (Int × Int × Int)) (w : World) (hown : Own encC 3 50 B w A n c l) (hB : B ≤ w.heap.size) (hn : n ≤ 1000000) :
    Calls Tryz.prog 95 #[.slice A n c, .func (.func 64) #[] #[]] w fun e w' => e = .returned (.tuple #[]) ∧ ∃ l', Own encC 3 50 B w' A n c l' ∧ l'.Perm l ∧ WC l' ∧ Below B w w' := by
  have eg : ∀ args w, (callFunc 64 args).run Tryz.prog w = .ok (.enter 64 args) w := enters_of Tryz.func64 (by kernel_rfl) rfl
  refine (sortFunc_ce 64 cmpO swo_cmpO eg (fun x y W => pat_orderG x.1 x.2.1 x.2.2 y.1 y.2.1 y.2.2 W) B A n c l w hown hB hn).mono ?_
  rintro e w' ⟨rfl, l', h1, h2, h3, h4⟩
  exact ⟨rfl, l', h1, h2, h3.imp fun {a b} h => by rw [lt_cmpO] at h; exact h, h4⟩
end Go.Proofs.YtfdihjjnlmhibaaGreat
end
section
namespace Go.Proofs.YtfdihjjnlmhibaaGreat
open Go Go.RowKit
set_option maxRecDepth 100000
attribute [local go_sem ↓ high] eq_cl neq_cl eq_pt neq_pt
def gdTo (l : List (Int × Int × Int)) (j : Nat) : Prop := ∀ i d, i < j → l[i]? = some d → frBad d = 0
theorem gdTo_step {l : List (Int × Int × Int)} {j : Nat} {c : Int × Int × Int} (h : gdTo l j) (hx : l[j]? = some c) (hb : frBad c = 0) : gdTo l (j + 1) := by
  intro i d hi hd
  by_cases e : i = j
  · rw [e, hx] at hd; cases hd; exact hb
  · exact h i d (by omega) hd
theorem gdTo_all {l : List (Int × Int × Int)} {n : Nat} (hl : l.length = n) (h : gdTo l n) : frFirst l = 0 :=
  frFirst_good fun i d hd => h i d (by rw [← hl]; exact (List.getElem?_eq_some_iff.1 hd).1) hd
theorem frBad_place {x y s : Int} (h : validB x y = false) : frBad (x, y, s) = 5 := by unfold frBad; rw [if_neg (by rw [h]; simp)]
theorem frBad_state {x y s : Int} (h : validB x y = true) (hs : s < 0 ∨ 8 ≤ s) : frBad (x, y, s) = 10 := by unfold frBad; rw [if_pos h, if_neg (by simp only; omega)]
theorem frBad_ok {x y s : Int} (h : validB x y = true) (h1 : 0 ≤ s) (h2 : s ≤ 7) : frBad (x, y, s) = 0 := by unfold frBad; rw [if_pos h, if_pos ⟨h1, h2⟩]
theorem nz_no {l : List (Int × Int × Int)} {j : Nat} {x y s : Int} (h : l[j]? = some (x, y, s)) (hs : ¬ 0 < s) : nz (l.take (j + 1)) = nz (l.take j) := by
  rw [nz_step h, if_neg (by unfold nzC; simpa using hs), List.append_nil]
theorem nz_yes {l : List (Int × Int × Int)} {j : Nat} {x y s : Int} (h : l[j]? = some (x, y, s)) (hs : 0 < s) : nz (l.take (j + 1)) = nz (l.take j) ++ [(x, y, s)] := by
  rw [nz_step h, if_pos (by unfold nzC; simpa using hs)]
def dsTo (l : List (Int × Int × Int)) (k : Nat) : Prop := ∀ j a b, j + 1 < k → l[j]? = some a → l[j + 1]? = some b → posD a ≠ posD b
theorem dsTo_step {l : List (Int × Int × Int)} {k : Nat} {a b : Int × Int × Int} (h : dsTo l k) (hk : 1 ≤ k) (ha : l[k - 1]? = some a) (hb : l[k]? = some b) (hne : posD a ≠ posD b) : dsTo l (k + 1) := by
  intro j p q hj hp hq
  by_cases e : j + 1 = k
  · subst e
    rw [Nat.add_sub_cancel, hp] at ha
    rw [hq] at hb
    cases ha; cases hb; exact hne
  · exact h j p q (by omega) hp hq
theorem own_g {α : Type} {enc : α → List Value} {k : Nat} {e : TypeId} {B : Nat} {w : World} {A : Option Addr} {n c : Nat} {l : List α} (h : Own enc k e B w A n c l) (hn : 0 < n) : ∃ g, A = some ⟨g, 0, none⟩ := by
  rcases h.row.2 with ⟨_, h0⟩ | ⟨g, cap, cur, hv, _⟩
  · omega
  · injection hv with hv; exact ⟨g, hv⟩
set_option maxHeartbeats 4000000 in
theorem pat_FromN (A : Option Addr) (n c : Nat) (l : List (Int × Int × Int)) (w : World) (hR : Rd encC 3 w A n l) (hn : n ≤ 1000000) :
    Calls Tryz.prog 72 #[.slice A n c] w fun e w' => ∃ A' n' c', e = .returned (.tuple #[.slice A' n' c', .int .i64 (frE l)]) ∧ NewP w.heap.size w' A' n' c' (frL l) ∧ n' ≤ n ∧ Below w.heap.size w w' := by
  go_enter Tryz.func72, Tryz.ntmps72
  go_wp2
  go_loopw [4, 10] (fun v i wr => ∃ (B : Option Addr) (m d j : Nat), v = .slice B m d ∧ i = .int .i64 j ∧ j ≤ n ∧ m ≤ j ∧ Own encC 3 50 w.heap.size wr B m d (nz (l.take j)) ∧ Hid (gdTo l j) ∧ Below w.heap.size w wr) (fun _ i _ => n - (intOf i).toNat)
  case atStart => exact ⟨none, 0, 0, 0, rfl, rfl, by omega, by omega, Own.nil_, (fun i d hi => absurd hi (by omega)), Below.refl _ _⟩
  case round =>
    obtain ⟨B, m, d, j, rfl, rfl, hj, hm, hown, hgd, hb⟩ := hrel
    obtain ⟨hc, hf⟩ := bcell hb
    have hs := hb.size
    by_cases hlt : j < n
    · obtain ⟨x, y, s, bo, o, hx, rfl, hbl, g1, g2, g3⟩ := hR.cell hlt
      cases hv : validB x y with
      | false =>
        have HE := Lib.hid (frE_first (frFirst_bad hgd.out hx.out (frBad_place hv) (by omega)) (by omega))
        have kP := fun w1 => pat_placedV hv w1
        clear hv
        go_wp2_with fail
        (go_at_call 63; refine (pat_at _ _ _ _).mono ?_; rintro e w3 ⟨rfl, hb3⟩; obtain ⟨hc3, hf3⟩ := bcell hb3; have hs3 := hb3.size; (try simp only [World.size_alloc, World.size_setCell, World.size_drew] at hc3 hf3); (try simp at hs3))
        go_wp2_with fail
        (go_at_call 62; refine (kP _).mono ?_; rintro e w4 ⟨rfl, hb4⟩; obtain ⟨hc4, hf4⟩ := bcell hb4; have hs4 := hb4.size; (try simp only [World.size_alloc, World.size_setCell, World.size_drew] at hc4 hf4); (try simp at hs4))
        go_wp2_with fail
        go_ret2
        exact ⟨none, 0, 0, ret_pe HE.out.symm, by rw [frL_no HE.out (by omega)]; exact NewP.nil_, by omega, by (repeat' (first | exact Below.refl _ _ | assumption | (refine Below.alloc ?_ ?_ _) | (refine Below.setCell ?_ ?_ _) | (refine Below.drew ?_) | (refine below_drewN ?_ _) | (refine below_after (Ext.below _) ?_ ?_) | (refine below_after (by assumption) ?_ ?_) | (simp; done) | omega | (simp; omega)))⟩
      | true =>
        have kP := fun w1 => pat_placedV hv w1
        have hways : (decide (s < 0) = true ∧ (s < 0 ∨ 8 ≤ s)) ∨ (decide (s < 0) = false ∧ decide (8 ≤ s) = true ∧ (s < 0 ∨ 8 ≤ s)) ∨ (decide (s < 0) = false ∧ decide (8 ≤ s) = false ∧ decide (0 < s) = false ∧ ¬ 0 < s ∧ 0 ≤ s ∧ s ≤ 7) ∨ (decide (s < 0) = false ∧ decide (8 ≤ s) = false ∧ decide (0 < s) = true ∧ 0 < s ∧ s ≤ 7) := by
          simp only [decide_eq_true_eq, decide_eq_false_iff_not]; omega
        rcases hways with ⟨d1, hbad⟩ | ⟨d1, d2, hbad⟩ | ⟨d1, d2, d3, h0, h1, h2⟩ | ⟨d1, d2, d3, h1, h2⟩
        · have HE := Lib.hid (frE_first (frFirst_bad hgd.out hx.out (frBad_state hv hbad) (by omega)) (by omega))
          clear hv hbad
          go_wp2_with fail
          (go_at_call 63; refine (pat_at _ _ _ _).mono ?_; rintro e w3 ⟨rfl, hb3⟩; obtain ⟨hc3, hf3⟩ := bcell hb3; have hs3 := hb3.size; (try simp only [World.size_alloc, World.size_setCell, World.size_drew] at hc3 hf3); (try simp at hs3))
          go_wp2_with fail
          (go_at_call 62; refine (kP _).mono ?_; rintro e w4 ⟨rfl, hb4⟩; obtain ⟨hc4, hf4⟩ := bcell hb4; have hs4 := hb4.size; (try simp only [World.size_alloc, World.size_setCell, World.size_drew] at hc4 hf4); (try simp at hs4))
          go_wp2_with fail
          go_ret2
          exact ⟨none, 0, 0, ret_pe HE.out.symm, by rw [frL_no HE.out (by omega)]; exact NewP.nil_, by omega, by (repeat' (first | exact Below.refl _ _ | assumption | (refine Below.alloc ?_ ?_ _) | (refine Below.setCell ?_ ?_ _) | (refine Below.drew ?_) | (refine below_drewN ?_ _) | (refine below_after (Ext.below _) ?_ ?_) | (refine below_after (by assumption) ?_ ?_) | (simp; done) | omega | (simp; omega)))⟩
        · have HE := Lib.hid (frE_first (frFirst_bad hgd.out hx.out (frBad_state hv hbad) (by omega)) (by omega))
          clear hv hbad
          go_wp2_with fail
          (go_at_call 63; refine (pat_at _ _ _ _).mono ?_; rintro e w3 ⟨rfl, hb3⟩; obtain ⟨hc3, hf3⟩ := bcell hb3; have hs3 := hb3.size; (try simp only [World.size_alloc, World.size_setCell, World.size_drew] at hc3 hf3); (try simp at hs3))
          go_wp2_with fail
          (go_at_call 62; refine (kP _).mono ?_; rintro e w4 ⟨rfl, hb4⟩; obtain ⟨hc4, hf4⟩ := bcell hb4; have hs4 := hb4.size; (try simp only [World.size_alloc, World.size_setCell, World.size_drew] at hc4 hf4); (try simp at hs4))
          go_wp2_with fail
          go_ret2
          exact ⟨none, 0, 0, ret_pe HE.out.symm, by rw [frL_no HE.out (by omega)]; exact NewP.nil_, by omega, by (repeat' (first | exact Below.refl _ _ | assumption | (refine Below.alloc ?_ ?_ _) | (refine Below.setCell ?_ ?_ _) | (refine Below.drew ?_) | (refine below_drewN ?_ _) | (refine below_after (Ext.below _) ?_ ?_) | (refine below_after (by assumption) ?_ ?_) | (simp; done) | omega | (simp; omega)))⟩
        · have hst := Lib.hid (nz_no hx.out h0)
          have hg2 := Lib.hid (gdTo_step hgd.out hx.out (frBad_ok hv h1 h2))
          clear hv h0 h1 h2
          go_wp2_with fail
          (go_at_call 63; refine (pat_at _ _ _ _).mono ?_; rintro e w3 ⟨rfl, hb3⟩; obtain ⟨hc3, hf3⟩ := bcell hb3; have hs3 := hb3.size; (try simp only [World.size_alloc, World.size_setCell, World.size_drew] at hc3 hf3); (try simp at hs3))
          go_wp2_with fail
          (go_at_call 62; refine (kP _).mono ?_; rintro e w4 ⟨rfl, hb4⟩; obtain ⟨hc4, hf4⟩ := bcell hb4; have hs4 := hb4.size; (try simp only [World.size_alloc, World.size_setCell, World.size_drew] at hc4 hf4); (try simp at hs4))
          go_wp2_with fail
          go_roundw
          case rel => exact ⟨B, m, d, j + 1, rfl, by go_num, by omega, by omega, by rw [hst.out]; exact hown.of (show Below wr.heap.size wr w4 from by (repeat' (first | exact Below.refl _ _ | assumption | (refine Below.alloc ?_ ?_ _) | (refine Below.setCell ?_ ?_ _) | (refine Below.drew ?_) | (refine below_drewN ?_ _) | (refine below_after (Ext.below _) ?_ ?_) | (refine below_after (by assumption) ?_ ?_) | (simp; done) | omega | (simp; omega)))), hg2, by (repeat' (first | exact Below.refl _ _ | assumption | (refine Below.alloc ?_ ?_ _) | (refine Below.setCell ?_ ?_ _) | (refine Below.drew ?_) | (refine below_drewN ?_ _) | (refine below_after (Ext.below _) ?_ ?_) | (refine below_after (by assumption) ?_ ?_) | (simp; done) | omega | (simp; omega)))⟩
          case measure => simp [intOf]; omega
        · have hst := Lib.hid (nz_yes hx.out h1)
          have hg2 := Lib.hid (gdTo_step hgd.out hx.out (frBad_ok hv (by omega) h2))
          clear hv h1 h2
          go_wp2_with fail
          (go_at_call 63; refine (pat_at _ _ _ _).mono ?_; rintro e w3 ⟨rfl, hb3⟩; obtain ⟨hc3, hf3⟩ := bcell hb3; have hs3 := hb3.size; (try simp only [World.size_alloc, World.size_setCell, World.size_drew] at hc3 hf3); (try simp at hs3))
          go_wp2_with fail
          (go_at_call 62; refine (kP _).mono ?_; rintro e w4 ⟨rfl, hb4⟩; obtain ⟨hc4, hf4⟩ := bcell hb4; have hs4 := hb4.size; (try simp only [World.size_alloc, World.size_setCell, World.size_drew] at hc4 hf4); (try simp at hs4))
          go_wp2_with (first | (at_builtin; refine wpList_append_el rfl (.tmp 32) (.tmp 34) 33 rfl encC 3 50 (.agg #[.int .i64 0, .int .i64 0, .int .i64 0]) 24 Tryz.underlying33 (by kernel_rfl) rfl (by decide) encC_len encC_one (w.heap.size) _ _ _ _ rfl ((hown.of (show Below wr.heap.size wr w4 from by (repeat' (first | exact Below.refl _ _ | assumption | (refine Below.alloc ?_ ?_ _) | (refine Below.setCell ?_ ?_ _) | (refine Below.drew ?_) | (refine below_drewN ?_ _) | (refine below_after (Ext.below _) ?_ ?_) | (refine below_after (by assumption) ?_ ?_) | (simp; done) | omega | (simp; omega))))).alloc _) (x, y, s) ⟨(w4).heap.size, 0, none⟩ 1 rfl (cells_new (w4) _ _) (by omega) (by omega) (by first | omega | (simp; done) | (simp; omega)) ?_; intro A5 c5 w5 hown5 hg5 hb5; obtain ⟨hc5, hf5⟩ := bcell hb5; have hs5 := hb5.size; (try simp only [World.size_alloc, World.size_setCell, World.size_drew] at hc5 hf5); (try simp at hs5)))
          go_roundw
          case rel => exact ⟨A5, m + 1, c5, j + 1, rfl, by go_num, by omega, by omega, by rw [hst.out]; exact hown5, hg2, by (repeat' (first | exact Below.refl _ _ | assumption | (refine Below.alloc ?_ ?_ _) | (refine Below.setCell ?_ ?_ _) | (refine Below.drew ?_) | (refine below_drewN ?_ _) | (refine below_after (Ext.below _) ?_ ?_) | (refine below_after (by assumption) ?_ ?_) | (simp; done) | omega | (simp; omega)))⟩
          case measure => simp [intOf]; omega
    · obtain rfl : j = n := by omega
      have hF := Lib.hid (gdTo_all hR.len hgd.out)
      have ht : l.take j = l := List.take_of_length_le (by rw [hR.len]; omega)
      rw [ht] at hown
      have hlen := Lib.hid hown.len
      clear ht
      go_wp2_with fail
      go_at_call 95
      refine (sort_order w.heap.size _ _ _ _ _ hown hs (by omega)).mono ?_
      rintro e w2 ⟨rfl, l', hown2, hperm, hwc, hb2⟩
      have hB2 : Below w.heap.size w w2 := hb.trans hb2
      have hP := Lib.hid hperm
      have hW := Lib.hid hwc
      have hl' := Lib.hid hown2.len
      clear hown hb hb2 hc hf hs hperm hwc
      go_wp2
      go_loopw [7] (fun i wr => ∃ k : Nat, i = .int .i64 k ∧ 1 ≤ k ∧ (k ≤ m ∨ k = 1) ∧ Hid (dsTo l' k) ∧ Own encC 3 50 w.heap.size wr B m d l' ∧ Below w.heap.size w wr) (fun i _ => m - (intOf i).toNat)
      case atStart => exact ⟨1, rfl, by omega, by omega, (fun j a b hj => absurd hj (by omega)), hown2, hB2⟩
      case round =>
        obtain ⟨k, rfl, hk1, hkm, hds, hown, hb⟩ := hrel
        have hs := hb.size
        by_cases hlt2 : k < m
        · have dk : decide ((k : Int) < m) = true := decide_eq_true (by omega)
          obtain ⟨g, rfl⟩ := own_g hown (by omega)
          have hgs := (own_lt hown).2
          obtain ⟨p, hp⟩ : ∃ p, l'[k - 1]? = some p := ⟨_, List.getElem?_eq_getElem (by rw [hl'.out]; omega)⟩
          obtain ⟨q, hq⟩ : ∃ q, l'[k]? = some q := ⟨_, List.getElem?_eq_getElem (by rw [hl'.out]; omega)⟩
          obtain ⟨px, py, ps⟩ := p
          obtain ⟨qx, qy, qs⟩ := q
          obtain ⟨p1, p2, p3, _, _, _⟩ := rd_ce_own hown (i := k - 1) (by omega) hp
          obtain ⟨q1, q2, q3, _, _, _⟩ := rd_ce_own hown hlt2 hq
          have hkm : ((k : Int) - 1).toNat = k - 1 := by omega
          have hk0 : (0 : Int) ≤ (k : Int) - 1 := by omega
          have wk : IntKind.i64.wrap ((k : Int) - 1) = (k : Int) - 1 := IntWalk.i64_in _ (by omega)
          by_cases hdup : px = qx ∧ py = qy
          · obtain ⟨rfl, rfl⟩ := hdup
            have HE := Lib.hid (frE_twice hF.out (sorted_twice (a := (px, py, ps)) (b := (px, py, qs)) hP.out hW.out hp (show l'[k - 1 + 1]? = _ by rw [show k - 1 + 1 = k by omega]; exact hq) rfl))
            clear hp hq
            go_wp2_with fail
            (refine wp_region_ext_lit (by kernel_rfl) (by kernel_rfl) ?_; (repeat (go_big_quiet_step ((go_at_call 63; exact calls_ext (pat_at _ _ _ _))))); refine wpQuiet_nil ?_; intro _ hw'; obtain ⟨z1, hw''⟩ := hw'; subst hw''; have hs1 := z1.size; obtain ⟨hc1, hf1⟩ := bcell z1.below; (try simp only [World.size_alloc, World.size_setCell, World.size_drew] at hc1 hf1); (try simp at hs1))
            go_wp2
            go_ret2
            exact ⟨none, 0, 0, ret_pe HE.out.symm, by rw [frL_no HE.out (by omega)]; exact NewP.nil_, by omega, by (repeat' (first | exact Below.refl _ _ | assumption | (refine Below.alloc ?_ ?_ _) | (refine Below.setCell ?_ ?_ _) | (refine Below.drew ?_) | (refine below_drewN ?_ _) | (refine below_after (Ext.below _) ?_ ?_) | (refine below_after (by assumption) ?_ ?_) | (simp; done) | omega | (simp; omega)))⟩
          · have hd : decide (px = qx ∧ py = qy) = false := decide_eq_false hdup
            have HD := Lib.hid (dsTo_step hds.out hk1 hp hq (fun e => hdup (by unfold posD at e; injection e with e1 e2; exact ⟨e1, e2⟩)))
            clear hp hq hdup
            go_wp2_with fail
            (refine wp_region_ext_lit (by kernel_rfl) (by kernel_rfl) ?_; (repeat (go_big_quiet_step ((go_at_call 63; exact calls_ext (pat_at _ _ _ _))))); refine wpQuiet_nil ?_; intro _ hw'; obtain ⟨z1, hw''⟩ := hw'; subst hw''; have hs1 := z1.size; obtain ⟨hc1, hf1⟩ := bcell z1.below; (try simp only [World.size_alloc, World.size_setCell, World.size_drew] at hc1 hf1); (try simp at hs1))
            go_wp2
            go_roundw
            case rel => exact ⟨k + 1, by go_num, by omega, by omega, HD, hown.of z1.below, by (repeat' (first | exact Below.refl _ _ | assumption | (refine Below.alloc ?_ ?_ _) | (refine Below.setCell ?_ ?_ _) | (refine Below.drew ?_) | (refine below_drewN ?_ _) | (refine below_after (Ext.below _) ?_ ?_) | (refine below_after (by assumption) ?_ ?_) | (simp; done) | omega | (simp; omega)))⟩
            case measure => simp [intOf]; omega
        · have dk : decide ((k : Int) < m) = false := decide_eq_false (by omega)
          have hfin := sorted_distinct hP.out hW.out (fun j a b ha hb => hds.out j a b (by have := (List.getElem?_eq_some_iff.1 hb).1; rw [hl'.out] at this; omega) ha hb)
          by_cases h5 : m ≤ 5000
          · have d5 : decide ((5000 : Int) < m) = false := decide_eq_false (by omega)
            have HE := Lib.hid (frE_ok hF.out hfin.1 (by rw [hlen.out]; exact h5))
            have HL := Lib.hid hfin.2
            clear hfin
            go_wp2
            go_ret2
            exact ⟨B, m, d, ret_pe HE.out.symm, by rw [frL_ok HE.out, HL.out]; exact NewP.own hown, hm, hb⟩
          · have d5 : decide ((5000 : Int) < m) = true := decide_eq_true (by omega)
            have HE := Lib.hid (frE_size hF.out hfin.1 (by rw [hlen.out]; omega))
            clear hfin
            go_wp2
            go_ret2
            exact ⟨none, 0, 0, ret_pe HE.out.symm, by rw [frL_no HE.out (by omega)]; exact NewP.nil_, by omega, hb⟩
end Go.Proofs.YtfdihjjnlmhibaaGreat
end
section
namespace Go.Proofs.YtfdihjjnlmhibaaGreat
open Go Go.RowKit
set_option maxRecDepth 100000
attribute [local go_sem ↓ high] eq_cl neq_cl eq_pt neq_pt
theorem insC_done : ∀ {q : List (Int × Int × Int)} {c d : Int × Int × Int} (r : List (Int × Int × Int)), d ∈ q → cBef c d = true → insC (q ++ r) c = insC q c ++ r
  | [], _, _, _, h, _ => by simp at h
  | x :: q, c, d, r, h, hb => by
    show (if cBef c x = true then c :: x :: (q ++ r) else x :: insC (q ++ r) c) = (if cBef c x = true then c :: x :: q else x :: insC q c) ++ r
    by_cases hc : cBef c x = true
    · rw [if_pos hc, if_pos hc]; rfl
    · rw [if_neg hc, if_neg hc]
      rcases List.mem_cons.1 h with rfl | hm
      · exact absurd hb hc
      · rw [insC_done r hm hb]; rfl
theorem insC_none : ∀ {q : List (Int × Int × Int)} {c : Int × Int × Int} (r : List (Int × Int × Int)), (∀ d, d ∈ q → cBef c d = false) → insC (q ++ r) c = q ++ insC r c
  | [], _, _, _ => rfl
  | x :: q, c, r, h => by
    show (if cBef c x = true then c :: x :: (q ++ r) else x :: insC (q ++ r) c) = x :: (q ++ insC r c)
    rw [if_neg (by rw [h x (by simp)]; simp), insC_none r fun d hd => h d (by simp [hd])]
def insAt (p : List (Int × Int × Int)) (c : Int × Int × Int) (q : Bool) (j : Nat) : List (Int × Int × Int) := if q = true then insC (p.take j) c else p.take j
def dnAt (p : List (Int × Int × Int)) (c : Int × Int × Int) (j : Nat) : Bool := (p.take j).any fun d => cBef c d
theorem dnAt_step {p : List (Int × Int × Int)} {c d : Int × Int × Int} {j : Nat} (h : p[j]? = some d) : dnAt p c (j + 1) = (dnAt p c j || cBef c d) := by
  unfold dnAt; rw [List.take_add_one, List.any_append, h]; simp
theorem insAt_done {p : List (Int × Int × Int)} {c d : Int × Int × Int} {j : Nat} (h : p[j]? = some d) (hq : dnAt p c j = true) : insAt p c true (j + 1) = insAt p c true j ++ [d] := by
  unfold insAt
  rw [if_pos rfl, if_pos rfl, List.take_add_one, h]
  unfold dnAt at hq
  obtain ⟨x, hx, hb⟩ := List.any_eq_true.1 hq
  exact insC_done _ hx hb
theorem dnAt_no {p : List (Int × Int × Int)} {c : Int × Int × Int} {j : Nat} (hq : dnAt p c j = false) : ∀ d, d ∈ p.take j → cBef c d = false := by
  intro d hd
  unfold dnAt at hq
  rw [List.any_eq_false] at hq
  simpa using hq d hd
theorem insAt_here {p : List (Int × Int × Int)} {c d : Int × Int × Int} {j : Nat} (h : p[j]? = some d) (hq : dnAt p c j = false) (hb : cBef c d = true) : insAt p c true (j + 1) = (insAt p c false j ++ [c]) ++ [d] := by
  unfold insAt
  rw [if_pos rfl, if_neg (by simp), List.take_add_one, h, insC_none _ (dnAt_no hq)]
  show p.take j ++ (if cBef c d = true then c :: d :: [] else d :: insC [] c) = _
  rw [if_pos hb]; simp
theorem insAt_past {p : List (Int × Int × Int)} {c d : Int × Int × Int} {j : Nat} (h : p[j]? = some d) : insAt p c false (j + 1) = insAt p c false j ++ [d] := by
  unfold insAt
  rw [if_neg (by simp), if_neg (by simp), List.take_add_one, h]; rfl
theorem insAt_end {p : List (Int × Int × Int)} {c : Int × Int × Int} {n : Nat} (hl : p.length = n) (q : Bool) (hq : dnAt p c n = q) : (if q = true then insAt p c true n else insAt p c false n ++ [c]) = insC p c := by
  have ht : p.take n = p := List.take_of_length_le (by omega)
  unfold insAt
  rw [ht]
  cases q with
  | true => rfl
  | false =>
    rw [if_neg (by simp), if_neg (by simp)]
    have := insC_none (q := p) (c := c) [] (by have := dnAt_no hq; rwa [ht] at this)
    rw [List.append_nil] at this
    rw [this]; rfl
set_option maxHeartbeats 4000000 in
theorem ref05_insertN (A : Option Addr) (n c : Nat) (l : List (Int × Int × Int)) (x y s : Int) (w : World) (hR : Rd encC 3 w A n l) (hn : n ≤ 1000000) :
    Calls Tryz.prog 100 #[.slice A n c, .agg #[.int .i64 x, .int .i64 y, .int .i64 s]] w fun e w' => ∃ A' c', e = .returned (.slice A' (n + 1) c') ∧ NewP w.heap.size w' A' (n + 1) c' (insC l (x, y, s)) ∧ Below w.heap.size w w' := by
  go_enter Tryz.func100, Tryz.ntmps100
  go_wp2
  go_loopw [5, 6, 7] (fun v q i wr => ∃ (B : Option Addr) (m d j : Nat), v = .slice B m d ∧ q = .bool (dnAt l (x, y, s) j) ∧ i = .int .i64 j ∧ j ≤ n ∧ m = j + (if dnAt l (x, y, s) j = true then 1 else 0) ∧ Own encC 3 50 (w.heap.size + 1) wr B m d (insAt l (x, y, s) (dnAt l (x, y, s) j) j) ∧ Below (w.heap.size + 1) (w.alloc (.cells #[.int .i64 x, .int .i64 y, .int .i64 s] 50)) wr) (fun _ _ i _ => n - (intOf i).toNat)
  case atStart => exact ⟨none, 0, 0, 0, rfl, rfl, rfl, by omega, rfl, Own.nil_, by (repeat' (first | exact Below.refl _ _ | assumption | (refine Below.alloc ?_ ?_ _) | (refine Below.setCell ?_ ?_ _) | (refine Below.drew ?_) | (refine below_drewN ?_ _) | (refine below_after (Ext.below _) ?_ ?_) | (refine below_after (by assumption) ?_ ?_) | (simp; done) | omega | (simp; omega)))⟩
  case round =>
    obtain ⟨B, m, d, j, rfl, rfl, rfl, hj, hm, hown, hb⟩ := hrel
    obtain ⟨hc, hf⟩ := bcell hb
    have hs := hb.size
    (try simp only [World.size_alloc] at hs)
    by_cases hlt : j < n
    · have dj : decide ((j : Int) < n) = true := decide_eq_true (by omega)
      obtain ⟨x', y', s', bo, o, hx, rfl, hbl, g1, g2, g3⟩ := hR.cell hlt
      have hst := dnAt_step (c := (x, y, s)) hx.out
      cases hq : dnAt l (x, y, s) j with
      | true =>
        rw [hq] at hst hown hm
        rw [Bool.true_or] at hst
        have HD := Lib.hid hst
        have HI := Lib.hid (insAt_done hx.out hq)
        obtain rfl : m = j + 1 := by simpa using hm
        clear hst hq hm
        go_wp2_with fail
        (refine wp_region_ext_lit (by kernel_rfl) (by kernel_rfl) ?_; (repeat (go_big_quiet_step (fail))); refine wpQuiet_nil ?_; intro _ hw'; obtain ⟨z1, hw''⟩ := hw'; subst hw''; have hs1 := z1.size; obtain ⟨hc1, hf1⟩ := bcell z1.below; (try simp only [World.size_alloc, World.size_setCell, World.size_drew] at hc1 hf1); (try simp at hs1))
        go_wp2_with (first | (at_builtin; refine wpList_append_el rfl (.tmp 28) (.tmp 33) 33 rfl encC 3 50 (.agg #[.int .i64 0, .int .i64 0, .int .i64 0]) 24 Tryz.underlying33 (by kernel_rfl) rfl (by decide) encC_len encC_one (w.heap.size + 1) _ _ _ _ rfl ((hown.of z1.below).alloc _) (x', y', s') ⟨(z1.world).heap.size, 0, none⟩ 1 rfl (cells_new (z1.world) _ _) (by omega) (by omega) (by first | omega | (simp; done) | (simp; omega)) ?_; intro A2 c2 w2 hown2 hg2 hb2; obtain ⟨hc2, hf2⟩ := bcell hb2; have hs2 := hb2.size; (try simp only [World.size_alloc, World.size_setCell, World.size_drew] at hc2 hf2); (try simp at hs2)))
        go_roundw
        case rel => exact ⟨A2, j + 1 + 1, c2, j + 1, rfl, by rw [HD.out], by go_num, by omega, by rw [HD.out]; rfl, by rw [HD.out, HI.out]; exact hown2, by (repeat' (first | exact Below.refl _ _ | assumption | (refine Below.alloc ?_ ?_ _) | (refine Below.setCell ?_ ?_ _) | (refine Below.drew ?_) | (refine below_drewN ?_ _) | (refine below_after (Ext.below _) ?_ ?_) | (refine below_after (by assumption) ?_ ?_) | (simp; done) | omega | (simp; omega)))⟩
        case measure => simp [intOf]; omega
      | false =>
        rw [hq] at hst hown hm
        rw [Bool.false_or] at hst
        obtain rfl : m = j := by simpa using hm
        cases hbf : cBef (x, y, s) (x', y', s') with
        | true =>
          rw [hbf] at hst
          have HD := Lib.hid hst
          have HI := Lib.hid (insAt_here hx.out hq hbf)
          have kB := fun w1 => ref05_beforeV (show befP x y x' y' = true from hbf) s s' w1
          clear hst hq hm hbf
          go_wp2_with fail
          (refine wp_region_ext_lit (by kernel_rfl) (by kernel_rfl) ?_; (repeat (go_big_quiet_step ((go_at_call 79; exact calls_ext (kB _))))); refine wpQuiet_nil ?_; intro _ hw'; obtain ⟨z1, hw''⟩ := hw'; subst hw''; have hs1 := z1.size; obtain ⟨hc1, hf1⟩ := bcell z1.below; (try simp only [World.size_alloc, World.size_setCell, World.size_drew] at hc1 hf1); (try simp at hs1))
          go_wp2_with (first | (at_builtin; refine wpList_append_el rfl (.tmp 24) (.tmp 26) 33 rfl encC 3 50 (.agg #[.int .i64 0, .int .i64 0, .int .i64 0]) 24 Tryz.underlying33 (by kernel_rfl) rfl (by decide) encC_len encC_one (w.heap.size + 1) _ _ _ _ rfl ((hown.of z1.below).alloc _) (x, y, s) ⟨(z1.world).heap.size, 0, none⟩ 1 rfl (cells_new (z1.world) _ _) (by omega) (by omega) (by first | omega | (simp; done) | (simp; omega)) ?_; intro A2 c2 w2 hown2 hg2 hb2; obtain ⟨hc2, hf2⟩ := bcell hb2; have hs2 := hb2.size; (try simp only [World.size_alloc, World.size_setCell, World.size_drew] at hc2 hf2); (try simp at hs2)) | (at_builtin; refine wpList_append_el rfl (.tmp 28) (.tmp 33) 33 rfl encC 3 50 (.agg #[.int .i64 0, .int .i64 0, .int .i64 0]) 24 Tryz.underlying33 (by kernel_rfl) rfl (by decide) encC_len encC_one (w.heap.size + 1) _ _ _ _ rfl (hown2.alloc _) (x', y', s') ⟨(w2).heap.size, 0, none⟩ 1 rfl (cells_new (w2) _ _) (by omega) (by omega) (by first | omega | (simp; done) | (simp; omega)) ?_; intro A3 c3 w3 hown3 hg3 hb3; obtain ⟨hc3, hf3⟩ := bcell hb3; have hs3 := hb3.size; (try simp only [World.size_alloc, World.size_setCell, World.size_drew] at hc3 hf3); (try simp at hs3)))
          go_roundw
          case rel => exact ⟨A3, m + 1 + 1, c3, m + 1, rfl, by rw [HD.out], by go_num, by omega, by rw [HD.out]; rfl, by rw [HD.out, HI.out]; exact hown3, by (repeat' (first | exact Below.refl _ _ | assumption | (refine Below.alloc ?_ ?_ _) | (refine Below.setCell ?_ ?_ _) | (refine Below.drew ?_) | (refine below_drewN ?_ _) | (refine below_after (Ext.below _) ?_ ?_) | (refine below_after (by assumption) ?_ ?_) | (simp; done) | omega | (simp; omega)))⟩
          case measure => simp [intOf]; omega
        | false =>
          rw [hbf] at hst
          have HD := Lib.hid hst
          have HI := Lib.hid (insAt_past (c := (x, y, s)) hx.out)
          have kB := fun w1 => ref05_beforeV (show befP x y x' y' = false from hbf) s s' w1
          clear hst hq hm hbf
          go_wp2_with fail
          (refine wp_region_ext_lit (by kernel_rfl) (by kernel_rfl) ?_; (repeat (go_big_quiet_step ((go_at_call 79; exact calls_ext (kB _))))); refine wpQuiet_nil ?_; intro _ hw'; obtain ⟨z1, hw''⟩ := hw'; subst hw''; have hs1 := z1.size; obtain ⟨hc1, hf1⟩ := bcell z1.below; (try simp only [World.size_alloc, World.size_setCell, World.size_drew] at hc1 hf1); (try simp at hs1))
          go_wp2_with (first | (at_builtin; refine wpList_append_el rfl (.tmp 28) (.tmp 33) 33 rfl encC 3 50 (.agg #[.int .i64 0, .int .i64 0, .int .i64 0]) 24 Tryz.underlying33 (by kernel_rfl) rfl (by decide) encC_len encC_one (w.heap.size + 1) _ _ _ _ rfl ((hown.of z1.below).alloc _) (x', y', s') ⟨(z1.world).heap.size, 0, none⟩ 1 rfl (cells_new (z1.world) _ _) (by omega) (by omega) (by first | omega | (simp; done) | (simp; omega)) ?_; intro A3 c3 w3 hown3 hg3 hb3; obtain ⟨hc3, hf3⟩ := bcell hb3; have hs3 := hb3.size; (try simp only [World.size_alloc, World.size_setCell, World.size_drew] at hc3 hf3); (try simp at hs3)))
          go_roundw
          case rel => exact ⟨A3, m + 1, c3, m + 1, rfl, by rw [HD.out], by go_num, by omega, by rw [HD.out]; rfl, by rw [HD.out, HI.out]; exact hown3, by (repeat' (first | exact Below.refl _ _ | assumption | (refine Below.alloc ?_ ?_ _) | (refine Below.setCell ?_ ?_ _) | (refine Below.drew ?_) | (refine below_drewN ?_ _) | (refine below_after (Ext.below _) ?_ ?_) | (refine below_after (by assumption) ?_ ?_) | (simp; done) | omega | (simp; omega)))⟩
          case measure => simp [intOf]; omega
    · obtain rfl : j = n := by omega
      have dj : decide ((j : Int) < j) = false := decide_eq_false (by omega)
      have hend := insAt_end (c := (x, y, s)) hR.len _ rfl
      cases hq : dnAt l (x, y, s) j with
      | true =>
        rw [hq] at hend hown hm
        rw [if_pos rfl] at hend
        obtain rfl : m = j + 1 := by simpa using hm
        have HE := Lib.hid hend
        clear hend hq hm
        go_wp2
        go_ret
        exact ⟨B, d, rfl, by rw [← HE.out]; exact (NewP.own hown).more (by omega), by (repeat' (first | exact Below.refl _ _ | assumption | (refine Below.alloc ?_ ?_ _) | (refine Below.setCell ?_ ?_ _) | (refine Below.drew ?_) | (refine below_drewN ?_ _) | (refine below_after (Ext.below _) ?_ ?_) | (refine below_after (by assumption) ?_ ?_) | (simp; done) | omega | (simp; omega)))⟩
      | false =>
        rw [hq] at hend hown hm
        rw [if_neg (by simp)] at hend
        obtain rfl : m = j := by simpa using hm
        have HE := Lib.hid hend
        clear hend hq hm
        go_wp2_with (first | (at_builtin; refine wpList_append_el rfl (.tmp 37) (.tmp 39) 33 rfl encC 3 50 (.agg #[.int .i64 0, .int .i64 0, .int .i64 0]) 24 Tryz.underlying33 (by kernel_rfl) rfl (by decide) encC_len encC_one (w.heap.size + 1) _ _ _ _ rfl (hown.alloc _) (x, y, s) ⟨(wr).heap.size, 0, none⟩ 1 rfl (cells_new (wr) _ _) (by omega) (by omega) (by first | omega | (simp; done) | (simp; omega)) ?_; intro A3 c3 w3 hown3 hg3 hb3; obtain ⟨hc3, hf3⟩ := bcell hb3; have hs3 := hb3.size; (try simp only [World.size_alloc, World.size_setCell, World.size_drew] at hc3 hf3); (try simp at hs3)))
        go_ret
        exact ⟨A3, c3, rfl, by rw [← HE.out]; exact (NewP.own hown3).more (by omega), by (repeat' (first | exact Below.refl _ _ | assumption | (refine Below.alloc ?_ ?_ _) | (refine Below.setCell ?_ ?_ _) | (refine Below.drew ?_) | (refine below_drewN ?_ _) | (refine below_after (Ext.below _) ?_ ?_) | (refine below_after (by assumption) ?_ ?_) | (simp; done) | omega | (simp; omega)))⟩
end Go.Proofs.YtfdihjjnlmhibaaGreat
end
section
namespace Go.Proofs.YtfdihjjnlmhibaaGreat
open Go Go.RowKit
set_option maxRecDepth 100000
attribute [local go_sem ↓ high] eq_cl neq_cl eq_pt neq_pt
theorem srtC_snoc (l : List (Int × Int × Int)) (c : Int × Int × Int) : srtC (l ++ [c]) = insC (srtC l) c := by unfold srtC; rw [List.foldl_append]; rfl
theorem gd_state {l : List (Int × Int × Int)} {n j : Nat} {x y s : Int} (h : gdTo l n) (hj : j < n) (hx : l[j]? = some (x, y, s)) : 0 ≤ s ∧ s ≤ 7 := by
  have := h j _ hj hx
  unfold frBad at this
  split at this
  · split at this
    · rename_i h2; exact h2
    · omega
  · omega
def asTo (l : List (Int × Int × Int)) (k : Nat) : Prop := ∀ j a b, j + 1 < k → l[j]? = some a → l[j + 1]? = some b → cBef a b = true
theorem asTo_step {l : List (Int × Int × Int)} {k : Nat} {a b : Int × Int × Int} (h : asTo l k) (hk : 1 ≤ k) (ha : l[k - 1]? = some a) (hb : l[k]? = some b) (hne : cBef a b = true) : asTo l (k + 1) := by
  intro j p q hj hp hq
  by_cases e : j + 1 = k
  · subst e
    rw [Nat.add_sub_cancel, hp] at ha
    rw [hq] at hb
    cases ha; cases hb; exact hne
  · exact h j p q (by omega) hp hq
theorem ssB_of {l : List (Int × Int × Int)} {n : Nat} (hl : l.length = n) (h : asTo l n) : ssB l = true :=
  ssB_iff.2 (pairwise_of_next (r := fun a b => cBef a b = true) (fun a b c h1 h2 => cBef_tr h1 h2) l fun j a b ha hb => h j a b (by rw [← hl]; exact (List.getElem?_eq_some_iff.1 hb).1) ha hb)
theorem ssB_not {l : List (Int × Int × Int)} {k : Nat} {a b : Int × Int × Int} (hk : 1 ≤ k) (ha : l[k - 1]? = some a) (hb : l[k]? = some b) (hne : cBef a b = false) : ssB l = false := by
  rw [Bool.eq_false_iff]
  intro h
  have h1 := List.getElem?_eq_some_iff.1 ha
  have h2 := List.getElem?_eq_some_iff.1 hb
  have := (List.pairwise_iff_getElem.1 (ssB_iff.1 h)) (k - 1) k h1.1 h2.1 (by omega)
  rw [h1.2, h2.2, hne] at this; cases this
set_option maxHeartbeats 4000000 in
theorem ref05_FromN (A : Option Addr) (n c : Nat) (l : List (Int × Int × Int)) (w : World) (hR : Rd encC 3 w A n l) (hn : n ≤ 1000000) :
    Calls Tryz.prog 83 #[.slice A n c] w fun e w' => ∃ A' n' c', e = .returned (.tuple #[.slice A' n' c', .int .i64 (frE l)]) ∧ NewP w.heap.size w' A' n' c' (frL l) ∧ n' ≤ n ∧ Below w.heap.size w w' := by
  go_enter Tryz.func83, Tryz.ntmps83
  go_wp2
  go_loopw [5] (fun i wr => ∃ j : Nat, i = .int .i64 j ∧ j ≤ n ∧ Hid (gdTo l j) ∧ Below w.heap.size w wr) (fun i _ => n - (intOf i).toNat)
  case atStart => exact ⟨0, rfl, by omega, (fun i d hi => absurd hi (by omega)), Below.refl _ _⟩
  case round =>
    obtain ⟨j, rfl, hj, hgd, hb⟩ := hrel
    obtain ⟨hc, hf⟩ := bcell hb
    have hs := hb.size
    by_cases hlt : j < n
    · obtain ⟨x, y, s, bo, o, hx, rfl, hbl, g1, g2, g3⟩ := hR.cell hlt
      cases hv : validB x y with
      | false =>
        have HE := Lib.hid (frE_first (frFirst_bad hgd.out hx.out (frBad_place hv) (by omega)) (by omega))
        have kP := fun w1 => ref05_PlaceV hv w1
        clear hv
        go_wp2
        (refine wp_region_ext_lit (by kernel_rfl) (by kernel_rfl) ?_; (repeat (go_big_quiet_step ((go_at_call 78; exact calls_ext_same (kP _))))); refine wpQuiet_nil ?_; intro _ hw'; obtain ⟨z3, hw''⟩ := hw'; subst hw''; have hs3 := z3.size; obtain ⟨hc3, hf3⟩ := bcell z3.below; (try simp only [World.size_alloc, World.size_setCell, World.size_drew] at hc3 hf3); (try simp at hs3))
        go_wp2
        go_ret2
        exact ⟨none, 0, 0, ret_pe HE.out.symm, by rw [frL_no HE.out (by omega)]; exact NewP.nil_, by omega, by (repeat' (first | exact Below.refl _ _ | assumption | (refine Below.alloc ?_ ?_ _) | (refine Below.setCell ?_ ?_ _) | (refine Below.drew ?_) | (refine below_drewN ?_ _) | (refine below_after (Ext.below _) ?_ ?_) | (refine below_after (by assumption) ?_ ?_) | (simp; done) | omega | (simp; omega)))⟩
      | true =>
        have kP := fun w1 => ref05_PlaceV hv w1
        have hways : (decide (s < 0) = true ∧ (s < 0 ∨ 8 ≤ s)) ∨ (decide (s < 0) = false ∧ decide (8 ≤ s) = true ∧ (s < 0 ∨ 8 ≤ s)) ∨ (decide (s < 0) = false ∧ decide (8 ≤ s) = false ∧ 0 ≤ s ∧ s ≤ 7) := by
          simp only [decide_eq_true_eq, decide_eq_false_iff_not]; omega
        rcases hways with ⟨d1, hbad⟩ | ⟨d1, d2, hbad⟩ | ⟨d1, d2, h1, h2⟩
        · have HE := Lib.hid (frE_first (frFirst_bad hgd.out hx.out (frBad_state hv hbad) (by omega)) (by omega))
          clear hv hbad
          go_wp2
          (refine wp_region_ext_lit (by kernel_rfl) (by kernel_rfl) ?_; (repeat (go_big_quiet_step ((go_at_call 78; exact calls_ext_same (kP _))))); refine wpQuiet_nil ?_; intro _ hw'; obtain ⟨z3, hw''⟩ := hw'; subst hw''; have hs3 := z3.size; obtain ⟨hc3, hf3⟩ := bcell z3.below; (try simp only [World.size_alloc, World.size_setCell, World.size_drew] at hc3 hf3); (try simp at hs3))
          go_wp2
          go_ret2
          exact ⟨none, 0, 0, ret_pe HE.out.symm, by rw [frL_no HE.out (by omega)]; exact NewP.nil_, by omega, by (repeat' (first | exact Below.refl _ _ | assumption | (refine Below.alloc ?_ ?_ _) | (refine Below.setCell ?_ ?_ _) | (refine Below.drew ?_) | (refine below_drewN ?_ _) | (refine below_after (Ext.below _) ?_ ?_) | (refine below_after (by assumption) ?_ ?_) | (simp; done) | omega | (simp; omega)))⟩
        · have HE := Lib.hid (frE_first (frFirst_bad hgd.out hx.out (frBad_state hv hbad) (by omega)) (by omega))
          clear hv hbad
          go_wp2
          (refine wp_region_ext_lit (by kernel_rfl) (by kernel_rfl) ?_; (repeat (go_big_quiet_step ((go_at_call 78; exact calls_ext_same (kP _))))); refine wpQuiet_nil ?_; intro _ hw'; obtain ⟨z3, hw''⟩ := hw'; subst hw''; have hs3 := z3.size; obtain ⟨hc3, hf3⟩ := bcell z3.below; (try simp only [World.size_alloc, World.size_setCell, World.size_drew] at hc3 hf3); (try simp at hs3))
          go_wp2
          go_ret2
          exact ⟨none, 0, 0, ret_pe HE.out.symm, by rw [frL_no HE.out (by omega)]; exact NewP.nil_, by omega, by (repeat' (first | exact Below.refl _ _ | assumption | (refine Below.alloc ?_ ?_ _) | (refine Below.setCell ?_ ?_ _) | (refine Below.drew ?_) | (refine below_drewN ?_ _) | (refine below_after (Ext.below _) ?_ ?_) | (refine below_after (by assumption) ?_ ?_) | (simp; done) | omega | (simp; omega)))⟩
        · have hg2 := Lib.hid (gdTo_step hgd.out hx.out (frBad_ok hv h1 h2))
          clear hv h1 h2
          go_wp2
          (refine wp_region_ext_lit (by kernel_rfl) (by kernel_rfl) ?_; (repeat (go_big_quiet_step ((go_at_call 78; exact calls_ext_same (kP _))))); refine wpQuiet_nil ?_; intro _ hw'; obtain ⟨z3, hw''⟩ := hw'; subst hw''; have hs3 := z3.size; obtain ⟨hc3, hf3⟩ := bcell z3.below; (try simp only [World.size_alloc, World.size_setCell, World.size_drew] at hc3 hf3); (try simp at hs3))
          go_wp2
          go_roundw
          case rel => exact ⟨j + 1, by go_num, by omega, hg2, by (repeat' (first | exact Below.refl _ _ | assumption | (refine Below.alloc ?_ ?_ _) | (refine Below.setCell ?_ ?_ _) | (refine Below.drew ?_) | (refine below_drewN ?_ _) | (refine below_after (Ext.below _) ?_ ?_) | (refine below_after (by assumption) ?_ ?_) | (simp; done) | omega | (simp; omega)))⟩
          case measure => simp [intOf]; omega
    · obtain rfl : j = n := by omega
      have hF := Lib.hid (gdTo_all hR.len hgd.out)
      have hR1 := hR.of hb
      have HB1 := Lib.hid hb
      obtain ⟨W1, hW1⟩ : ∃ W1, W1 = wr := ⟨_, rfl⟩
      subst hW1
      clear hc hf
      go_wp2
      go_loopw [4, 6] (fun v i wr => ∃ (B : Option Addr) (m d k : Nat), v = .slice B m d ∧ i = .int .i64 k ∧ k ≤ j ∧ m ≤ k ∧ NewP w.heap.size wr B m d (srtC (nz (l.take k))) ∧ Below W1.heap.size W1 wr) (fun _ i _ => j - (intOf i).toNat)
      case atStart => exact ⟨none, 0, 0, 0, rfl, rfl, by omega, by omega, NewP.nil_, Below.refl _ _⟩
      case round =>
        obtain ⟨B, m, d, k, rfl, rfl, hk, hm, hO, hq⟩ := hrel
        obtain ⟨hcq, hfq⟩ := bcell hq
        have hsq := hq.size
        by_cases hlt : k < j
        · obtain ⟨x, y, s, bo, o, hx, rfl, hbl, g1, g2, g3⟩ := hR1.cell hlt
          obtain ⟨s1, s2⟩ := gd_state hgd.out hlt hx.out
          by_cases h0 : s = 0
          · have hst := Lib.hid (nz_no hx.out (by omega))
            have dz : (s != 0) = false := by simp [h0]
            clear h0
            go_wp2
            go_roundw
            case rel => exact ⟨B, m, d, k + 1, rfl, by go_num, by omega, by omega, by rw [hst.out]; exact hO, hq⟩
            case measure => simp [intOf]; omega
          · have hst := Lib.hid (show srtC (nz (l.take (k + 1))) = insC (srtC (nz (l.take k))) (x, y, s) by rw [nz_yes hx.out (by omega), srtC_snoc])
            have dz : (s != 0) = true := by simpa using h0
            clear h0
            go_wp2_with fail
            go_at_call 100
            refine (ref05_insertN _ _ _ _ _ _ _ _ hO.rd (by omega)).mono ?_
            rintro e w5 ⟨A5, c5, rfl, hR5, hb5⟩
            go_wp2_with fail
            go_roundw
            case rel => exact ⟨A5, m + 1, c5, k + 1, rfl, by go_num, by omega, by omega, by rw [hst.out]; exact hR5.more (by have := HB1.out.size; omega), below_after hb5 hq (by omega)⟩
            case measure => simp [intOf]; omega
        · obtain rfl : k = j := by omega
          have ht : l.take k = l := List.take_of_length_le (by rw [hR1.len]; omega)
          rw [ht] at hO
          have hlen := Lib.hid hO.rd.len
          have HQ : Hid (Below w.heap.size w wr) := below_after hq HB1.out (by have := HB1.out.size; omega)
          obtain ⟨W2, hW2⟩ : ∃ W2, W2 = wr := ⟨_, rfl⟩
          subst hW2
          clear ht hcq hfq
          go_wp2
          go_loopw [7] (fun i wr => ∃ u : Nat, i = .int .i64 u ∧ 1 ≤ u ∧ (u ≤ m ∨ u = 1) ∧ Hid (asTo (srtC (nz l)) u) ∧ Below W2.heap.size W2 wr) (fun i _ => m - (intOf i).toNat)
          case atStart => exact ⟨1, rfl, by omega, by omega, (fun j a b hj => absurd hj (by omega)), Below.refl _ _⟩
          case round =>
            obtain ⟨u, rfl, hu1, hum, has, hz⟩ := hrel
            obtain ⟨hcz, hfz⟩ := bcell hz
            have hsz := hz.size
            by_cases hlt2 : u < m
            · obtain ⟨qx, qy, qs, bo, o, hq', rfl, hbl, q1, q2, q3⟩ := hO.rd.cell hlt2
              obtain ⟨px, py, ps, bo', o', hp', he, hbl', p1, p2, p3⟩ := hO.rd.cell (i := u - 1) (by omega)
              obtain ⟨rfl, rfl⟩ : bo = bo' ∧ o = o' := by injection he with he; injection he with e1 e2; exact ⟨e1, e2⟩
              clear he
              have hkm : ((u : Int) - 1).toNat = u - 1 := by omega
              have hk0 : (0 : Int) ≤ (u : Int) - 1 := by omega
              have wk : IntKind.i64.wrap ((u : Int) - 1) = (u : Int) - 1 := IntWalk.i64_in _ (by omega)
              cases hbf : cBef (px, py, ps) (qx, qy, qs) with
              | false =>
                have HE := Lib.hid (frE_twice hF.out (ssB_not hu1 hp'.out hq'.out hbf))
                have kB := fun w1 => ref05_beforeV (show befP px py qx qy = false from hbf) ps qs w1
                clear hbf
                go_wp2_with fail
                (refine wp_region_ext_lit (by kernel_rfl) (by kernel_rfl) ?_; (repeat (go_big_quiet_step ((go_at_call 79; exact calls_ext (kB _))))); refine wpQuiet_nil ?_; intro _ hw'; obtain ⟨z1, hw''⟩ := hw'; subst hw''; have hs1 := z1.size; obtain ⟨hc1, hf1⟩ := bcell z1.below; (try simp only [World.size_alloc, World.size_setCell, World.size_drew] at hc1 hf1); (try simp at hs1))
                go_wp2
                go_ret2
                exact ⟨none, 0, 0, ret_pe HE.out.symm, by rw [frL_no HE.out (by omega)]; exact NewP.nil_, by omega, below_after z1.below (below_after hz HQ.out (by have := HQ.out.size; omega)) (by have := HQ.out.size; omega)⟩
              | true =>
                have HD := Lib.hid (asTo_step has.out hu1 hp'.out hq'.out hbf)
                have kB := fun w1 => ref05_beforeV (show befP px py qx qy = true from hbf) ps qs w1
                clear hbf
                go_wp2_with fail
                (refine wp_region_ext_lit (by kernel_rfl) (by kernel_rfl) ?_; (repeat (go_big_quiet_step ((go_at_call 79; exact calls_ext (kB _))))); refine wpQuiet_nil ?_; intro _ hw'; obtain ⟨z1, hw''⟩ := hw'; subst hw''; have hs1 := z1.size; obtain ⟨hc1, hf1⟩ := bcell z1.below; (try simp only [World.size_alloc, World.size_setCell, World.size_drew] at hc1 hf1); (try simp at hs1))
                go_wp2
                go_roundw
                case rel => exact ⟨u + 1, by go_num, by omega, by omega, HD, by (repeat' (first | exact Below.refl _ _ | assumption | (refine Below.alloc ?_ ?_ _) | (refine Below.setCell ?_ ?_ _) | (refine Below.drew ?_) | (refine below_drewN ?_ _) | (refine below_after (Ext.below _) ?_ ?_) | (refine below_after (by assumption) ?_ ?_) | (simp; done) | omega | (simp; omega)))⟩
                case measure => simp [intOf]; omega
            · have hfin := ssB_of (n := m) hlen.out (fun j a b hj ha hb => has.out j a b (by omega) ha hb)
              have hnl : (nz l).length = m := by rw [← (srtC_perm (nz l)).length_eq]; exact hlen.out
              have HB := Lib.hid (below_after hz HQ.out (by have := HQ.out.size; omega))
              by_cases h5 : m ≤ 5000
              · have d5 : decide ((5000 : Int) < m) = false := decide_eq_false (by omega)
                have HE := Lib.hid (frE_ok hF.out hfin (by rw [hnl]; exact h5))
                clear hfin hnl
                go_wp2
                go_ret2
                exact ⟨B, m, d, ret_pe HE.out.symm, by rw [frL_ok HE.out]; exact hO.of hz, hm, HB.out⟩
              · have d5 : decide ((5000 : Int) < m) = true := decide_eq_true (by omega)
                have HE := Lib.hid (frE_size hF.out hfin (by rw [hnl]; omega))
                clear hfin hnl
                go_wp2
                go_ret2
                exact ⟨none, 0, 0, ret_pe HE.out.symm, by rw [frL_no HE.out (by omega)]; exact NewP.nil_, by omega, HB.out⟩
end Go.Proofs.YtfdihjjnlmhibaaGreat
end
section
namespace Go.Proofs.YtfdihjjnlmhibaaGreat
open Go Go.RowKit
set_option maxRecDepth 100000
theorem rd_litC (w : World) (l : List (Int × Int × Int)) (cs : Array Value) (n : Nat) (hn : l.length = n) (hm : n ≤ 4611686018427387904) (hcs : cs.toList = l.flatMap encC) : Rd encC 3 (w.alloc (.cells cs 50)) (some ⟨w.heap.size, 0, none⟩) n l := by
  have h := (Own.lit encC_len w 50 w.heap.size (Nat.le_refl _) l n hn hm cs.toList hcs).rd encC_len
  simpa using h
section
variable {α : Type} {enc : α → List Value} {k : Nat} {w : World} {n : Nat} {l : List α}
theorem Rd.take {A : Option Addr} (h : Rd enc k w A n l) {i : Nat} (hi : i ≤ n) : Rd enc k w A i (l.take i) := by
  refine ⟨by rw [List.length_take, h.1]; omega, fun h0 => ?_⟩
  obtain ⟨b, o, e, hb, hc⟩ := h.2 (by omega)
  refine ⟨b, o, e, hb, fun r x hr j u hu => hc r x ?_ j u hu⟩
  rw [List.getElem?_take] at hr
  split at hr
  · exact hr
  · cases hr
theorem Rd.drop {b o : Nat} (h : Rd enc k w (some ⟨b, o, none⟩) n l) {i : Nat} (hi : i ≤ n) : Rd enc k w (some ⟨b, o + i * k, none⟩) (n - i) (l.drop i) := by
  refine ⟨by rw [List.length_drop, h.1], fun h0 => ?_⟩
  obtain ⟨b', o', e, hb, hc⟩ := h.2 (by omega)
  injection e with e
  injection e with e1 e2 e3
  subst e1 e2
  refine ⟨b, o + i * k, rfl, hb, fun r x hr j u hu => ?_⟩
  rw [List.getElem?_drop] at hr
  have := hc (i + r) x hr j u hu
  rwa [show o + (i + r) * k + j = o + i * k + r * k + j by rw [Nat.add_mul]; omega] at this
end
end Go.Proofs.YtfdihjjnlmhibaaGreat
end
