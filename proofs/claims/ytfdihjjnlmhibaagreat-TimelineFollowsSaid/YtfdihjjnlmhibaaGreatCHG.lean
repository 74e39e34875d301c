/- Changes in memory; their comparison. The contract of slices.SortFunc at changes; delta.order as a comparison for it. The contracts of the reference's Compare and Valid of positions. The contracts of delta.at, order, state, of the reference's place; of Right, both. The contract of the reference's Right on changes. -/
import Derived.Test.YtfdihjjnlmhibaaGreatCEL
import Derived.Test.YtfdihjjnlmhibaaGreatPLN
import Derived.Test.YtfdihjjnlmhibaaGreatSRT
set_option linter.unusedSimpArgs false
set_option linter.unusedVariables false
section
namespace Go.Proofs.YtfdihjjnlmhibaaGreat
open Go Go.RowKit
set_option maxRecDepth 100000
def encG (c : Int × Int × Int × Int) : List Value := [.int .i64 c.1, .int .i64 c.2.1, .int .i64 c.2.2.1, .int .i64 c.2.2.2]
theorem encG_len (x : Int × Int × Int × Int) : (encG x).length = 4 := rfl
theorem encG_one : ∀ y, ∀ u ∈ encG y, u.oneCell' = true := by
  intro y u hu
  simp [encG] at hu
  rcases hu with rfl | rfl | rfl | rfl <;> rfl
theorem Rd.chg {w : World} {A : Option Addr} {n : Nat} {l : List (Int × Int × Int × Int)} (h : Rd encG 4 w A n l) {i : Nat} (hi : i < n) :
    ∃ x y s t b o, Hid (l[i]? = some (x, y, s, t)) ∧ A = some ⟨b, o, none⟩ ∧ b < w.heap.size ∧ w.cell? ⟨b, o + i * 4, none⟩ = some (.int .i64 x) ∧ w.cell? ⟨b, o + i * 4 + 1, none⟩ = some (.int .i64 y) ∧ w.cell? ⟨b, o + i * 4 + 2, none⟩ = some (.int .i64 s) ∧ w.cell? ⟨b, o + i * 4 + 3, none⟩ = some (.int .i64 t) := by
  obtain ⟨p, b, o, h1, h2, h3, h4⟩ := h.elem hi
  exact ⟨p.1, p.2.1, p.2.2.1, p.2.2.2, b, o, h1, h2, h3, by simpa using h4 0 _ rfl, h4 1 _ rfl, h4 2 _ rfl, h4 3 _ rfl⟩
theorem eq_cg (x y s t x' y' s' t' : Int) (w : World) : (binOp .eql 60 (.agg #[.int .i64 x, .int .i64 y, .int .i64 s, .int .i64 t]) (.agg #[.int .i64 x', .int .i64 y', .int .i64 s', .int .i64 t'])).run Tryz.prog w = .ok (.bool (decide (x = x' ∧ y = y' ∧ s = s' ∧ t = t'))) w := by
  have u3 := Tryz.underlying3
  have a3 := Tryz.isAgg3
  have z3 := Tryz.sizeOf3
  have hS : Tryz.prog.underlying 60 = some (.struct (Tryz.prog.fieldsOf 60)) := by kernel_rfl
  have hp : Tryz.prog.stoodInHeld 60 = false := by kernel_rfl
  rw [run_eql_struct, show (10000 : Nat) = 9999 + 1 from rfl, run_equalIn_agg w 9999 60 _ _ hS hp]
  simp only [Program.fieldsOf, Tryz.underlying60]
  go_simp
  by_cases h1 : x = x' <;> by_cases h2 : y = y' <;> by_cases h3 : s = s' <;> by_cases h4 : t = t' <;> simp [h1, h2, h3, h4]
theorem neq_cg (x y s t x' y' s' t' : Int) (w : World) : (binOp .neq 60 (.agg #[.int .i64 x, .int .i64 y, .int .i64 s, .int .i64 t]) (.agg #[.int .i64 x', .int .i64 y', .int .i64 s', .int .i64 t'])).run Tryz.prog w = .ok (.bool (!decide (x = x' ∧ y = y' ∧ s = s' ∧ t = t'))) w := by
  have h := eq_cg x y s t x' y' s' t' w
  rw [run_eql_struct] at h
  rw [run_neq_struct]
  generalize (Op.equalIn 10000 60 (.agg #[.int .i64 x, .int .i64 y, .int .i64 s, .int .i64 t]) (.agg #[.int .i64 x', .int .i64 y', .int .i64 s', .int .i64 t'])).run Tryz.prog w = r at *
  cases r <;> simp_all [Result.andThen]
structure NewG (B : Nat) (w : World) (A : Option Addr) (n c : Nat) (l : List (Int × Int × Int × Int)) : Prop where
  rd : Rd encG 4 w A n l
  cap : n ≤ c
  loc : ∀ q ∈ blkH (A, n, c), B ≤ q
theorem NewG.nil_ {B : Nat} {w : World} : NewG B w none 0 0 [] := ⟨Rd.nil_, Nat.le_refl _, fun q hq => by simp [blkH] at hq⟩
theorem NewG.own {e : TypeId} {B n c : Nat} {w : World} {A : Option Addr} {l : List (Int × Int × Int × Int)} (h : Own encG 4 e B w A n c l) : NewG B w A n c l := by
  refine ⟨h.rd encG_len, ?_, fun q hq => ?_⟩
  · rcases h.row.2 with ⟨h0, _⟩ | ⟨g, cap, cur, hv, hg, hh, h1, r⟩
    · injection h0 with _ e1 e2; omega
    · injection hv with _ e1 e2; omega
  · unfold blkH at hq
    split at hq
    · cases hq
    · cases A with
      | none => simp at hq
      | some a =>
        simp at hq
        rcases h.row.2 with ⟨h0, _⟩ | ⟨g, cap, cur, hv, hg, _⟩
        · cases h0
        · injection hv with hA _ _
          injection hA with hA
          subst hA
          simp only at hq
          omega
theorem NewG.of {B n c : Nat} {w w' : World} {A : Option Addr} {l : List (Int × Int × Int × Int)} (h : NewG B w A n c l) (hb : Below w.heap.size w w') : NewG B w' A n c l := ⟨h.rd.of hb, h.cap, h.loc⟩
theorem NewG.more {B B' n c : Nat} {w : World} {A : Option Addr} {l : List (Int × Int × Int × Int)} (h : NewG B w A n c l) (hB : B' ≤ B) : NewG B' w A n c l := ⟨h.rd, h.cap, fun q hq => Nat.le_trans hB (h.loc q hq)⟩
theorem NewG.off {B n c : Nat} {w : World} {A : Option Addr} {l : List (Int × Int × Int × Int)} (h : NewG B w A n c l) {b : Option Nat} (hb : ∀ q, b = some q → q < B) : ∀ q ∈ blkH (A, n, c), some q ≠ b := fun q hq e => by
  have h1 := h.loc q hq
  have h2 := hb q e.symm
  omega
def cmpOG (a b : Int × Int × Int × Int) : Int := cmpP a.1 a.2.1 b.1 b.2.1
end Go.Proofs.YtfdihjjnlmhibaaGreat
end
section
namespace Go.Proofs.YtfdihjjnlmhibaaGreat
open Go Go.RowKit Go.Shelf Go.Sort
set_option maxRecDepth 100000
attribute [local go_sem ↓ high] eq_cl neq_cl eq_pt neq_pt
def Tryz.pdqCg_ren : Go.Shelf.Ren := ⟨fun | 14 => 92 | 20 => 109 | 21 => 110 | 22 => 111 | 23 => 112 | 24 => 113 | 25 => 114 | 26 => 115 | 27 => 116 | 46 => 124 | 47 => 125 | 48 => 126 | 49 => 127 | 50 => 128 | 15 => 93 | 57 => 137 | 28 => 117 | 29 => 118 | n => n, fun | 24 => 60 | 22 => 34 | 3 => 3 | 25 => 103 | 4 => 4 | 0 => 0 | 46 => 139 | 45 => 138 | 50 => 143 | 66 => 153 | 39 => 123 | 55 => 148 | 70 => 157 | 76 => 164 | 77 => 165 | 53 => 146 | 5 => 5 | 9 => 9 | n => n, fun | n => n⟩
theorem Tryz.pdqCg : Go.Proofs.SlLaysF0.n14 Tryz.prog Tryz.pdqCg_ren := {
  mixed := by kernel_rfl
  f14 := ⟨Tryz.f92.name, by decide, Tryz.func92.trans (congrArg some (by kernel_rfl))⟩
  f15 := Tryz.func93.trans (congrArg some (by kernel_rfl))
  f20 := ⟨Tryz.f109.name, by decide, Tryz.func109.trans (congrArg some (by kernel_rfl))⟩
  f21 := ⟨Tryz.f110.name, by decide, Tryz.func110.trans (congrArg some (by kernel_rfl))⟩
  f22 := ⟨Tryz.f111.name, by decide, Tryz.func111.trans (congrArg some (by kernel_rfl))⟩
  f23 := ⟨Tryz.f112.name, by decide, Tryz.func112.trans (congrArg some (by kernel_rfl))⟩
  f24 := ⟨Tryz.f113.name, by decide, Tryz.func113.trans (congrArg some (by kernel_rfl))⟩
  f25 := ⟨Tryz.f114.name, by decide, Tryz.func114.trans (congrArg some (by kernel_rfl))⟩
  f26 := ⟨Tryz.f115.name, by decide, Tryz.func115.trans (congrArg some (by kernel_rfl))⟩
  f27 := ⟨Tryz.f116.name, by decide, Tryz.func116.trans (congrArg some (by kernel_rfl))⟩
  f28 := Tryz.func117.trans (congrArg some (by kernel_rfl))
  f29 := Tryz.func118.trans (congrArg some (by kernel_rfl))
  f46 := ⟨Tryz.f124.name, by decide, Tryz.func124.trans (congrArg some (by kernel_rfl))⟩
  f47 := Tryz.func125.trans (congrArg some (by kernel_rfl))
  f48 := Tryz.func126.trans (congrArg some (by kernel_rfl))
  f49 := ⟨Tryz.f127.name, by decide, Tryz.func127.trans (congrArg some (by kernel_rfl))⟩
  f50 := ⟨Tryz.f128.name, by decide, Tryz.func128.trans (congrArg some (by kernel_rfl))⟩
  f57 := ⟨Tryz.f137.name, by decide, Tryz.func137.trans (congrArg some (by kernel_rfl))⟩
  t0 := Tryz.underlying0
  a0 := Tryz.isAgg0
  z0 := Tryz.sizeOf0
  v0 := Tryz.zeroValue0
  t3 := Tryz.underlying3
  a3 := Tryz.isAgg3
  z3 := Tryz.sizeOf3
  v3 := Tryz.zeroValue3
  t4 := Tryz.underlying4
  a4 := Tryz.isAgg4
  z4 := Tryz.sizeOf4
  v4 := Tryz.zeroValue4
  t5 := Tryz.underlying5
  a5 := Tryz.isAgg5
  z5 := Tryz.sizeOf5
  v5 := Tryz.zeroValue5
  t9 := Tryz.underlying9
  a9 := Tryz.isAgg9
  z9 := Tryz.sizeOf9
  v9 := Tryz.zeroValue9
  t22 := Tryz.underlying34
  a22 := Tryz.isAgg34
  z22 := Tryz.sizeOf34
  v22 := Tryz.zeroValue34
  t25 := Tryz.underlying103
  a25 := Tryz.isAgg103
  z25 := Tryz.sizeOf103
  v25 := Tryz.zeroValue103
  t39 := Tryz.underlying123
  a39 := Tryz.isAgg123
  z39 := Tryz.sizeOf123
  v39 := Tryz.zeroValue123
  t45 := Tryz.underlying138
  a45 := Tryz.isAgg138
  z45 := Tryz.sizeOf138
  v45 := Tryz.zeroValue138
  t46 := Tryz.underlying139
  a46 := Tryz.isAgg139
  z46 := Tryz.sizeOf139
  v46 := Tryz.zeroValue139
  t50 := Tryz.underlying143
  a50 := Tryz.isAgg143
  z50 := Tryz.sizeOf143
  v50 := Tryz.zeroValue143
  t53 := Tryz.underlying146
  a53 := Tryz.isAgg146
  z53 := Tryz.sizeOf146
  v53 := Tryz.zeroValue146
  t55 := Tryz.underlying148
  a55 := Tryz.isAgg148
  z55 := Tryz.sizeOf148
  v55 := Tryz.zeroValue148
  t66 := Tryz.underlying153
  a66 := Tryz.isAgg153
  z66 := Tryz.sizeOf153
  v66 := Tryz.zeroValue153
  t70 := Tryz.underlying157
  a70 := Tryz.isAgg157
  z70 := Tryz.sizeOf157
  v70 := Tryz.zeroValue157
  t76 := Tryz.underlying164
  a76 := Tryz.isAgg164
  z76 := Tryz.sizeOf164
  v76 := Tryz.zeroValue164
  t77 := Tryz.underlying165
  a77 := Tryz.isAgg165
  z77 := Tryz.sizeOf165
  v77 := Tryz.zeroValue165 }
theorem del_atG (x y s t : Int) (w : World) : Calls Tryz.prog 71 #[.agg #[.int .i64 x, .int .i64 y, .int .i64 s, .int .i64 t]] w fun e w' => e = .returned (.agg #[.int .i64 x, .int .i64 y]) ∧ ∃ q os, w' = grow (w.drewN q) os := by
  go_enter Tryz.func71, Tryz.ntmps71
  go_wp2
  refine bodyPost_ret (v := .agg #[.int .i64 x, .int .i64 y]) (by simp [results, Tryz.results71, go_sem, *, ↓IntWalk.iteOmega]) rfl ?_
  exact ⟨rfl, 0, _, by rw [alloc_eq_grow, alloc_eq_grow, grow_grow]; rfl⟩
theorem del_orderG (x y s t x' y' s' t' : Int) (w : World) : Calls Tryz.prog 67 #[.agg #[.int .i64 x, .int .i64 y, .int .i64 s, .int .i64 t], .agg #[.int .i64 x', .int .i64 y', .int .i64 s', .int .i64 t']] w fun e w' => e = .returned (.int .i64 (cmpP x y x' y')) ∧ ∃ q os, w' = grow (w.drewN q) os := by
  have mixed : Tryz.prog.follows .mixedOrders = true := by kernel_rfl
  obtain ⟨W, hW⟩ : ∃ W, W = (w.alloc (.cells #[.int .i64 x, .int .i64 y, .int .i64 s, .int .i64 t] 60)).alloc (.cells #[.int .i64 x', .int .i64 y', .int .i64 s', .int .i64 t'] 60) := ⟨_, rfl⟩
  have HG : Hid (W = grow (w.drewN 0) #[.cells #[.int .i64 x, .int .i64 y, .int .i64 s, .int .i64 t] 60, .cells #[.int .i64 x', .int .i64 y', .int .i64 s', .int .i64 t'] 60]) := by
    show _ = _
    rw [hW, alloc_eq_grow, alloc_eq_grow, grow_grow]; rfl
  have hs : w.heap.size + 1 < W.heap.size := by rw [hW]; simp
  have a0 := fun n os => cell_grown (w := W) (a := ⟨w.heap.size, 0, none⟩) (v := .int .i64 x) (by show w.heap.size < _; omega) (by rw [hW]; simp [cell_alloc_if]) n os
  have a1 := fun n os => cell_grown (w := W) (a := ⟨w.heap.size, 1, none⟩) (v := .int .i64 y) (by show w.heap.size < _; omega) (by rw [hW]; simp [cell_alloc_if]) n os
  have a2 := fun n os => cell_grown (w := W) (a := ⟨w.heap.size, 2, none⟩) (v := .int .i64 s) (by show w.heap.size < _; omega) (by rw [hW]; simp [cell_alloc_if]) n os
  have a3 := fun n os => cell_grown (w := W) (a := ⟨w.heap.size, 3, none⟩) (v := .int .i64 t) (by show w.heap.size < _; omega) (by rw [hW]; simp [cell_alloc_if]) n os
  have b0 := fun n os => cell_grown (w := W) (a := ⟨w.heap.size + 1, 0, none⟩) (v := .int .i64 x') (by show w.heap.size + 1 < _; omega) (by rw [hW]; simp [cell_alloc_if]) n os
  have b1 := fun n os => cell_grown (w := W) (a := ⟨w.heap.size + 1, 1, none⟩) (v := .int .i64 y') (by show w.heap.size + 1 < _; omega) (by rw [hW]; simp [cell_alloc_if]) n os
  have b2 := fun n os => cell_grown (w := W) (a := ⟨w.heap.size + 1, 2, none⟩) (v := .int .i64 s') (by show w.heap.size + 1 < _; omega) (by rw [hW]; simp [cell_alloc_if]) n os
  have b3 := fun n os => cell_grown (w := W) (a := ⟨w.heap.size + 1, 3, none⟩) (v := .int .i64 t') (by show w.heap.size + 1 < _; omega) (by rw [hW]; simp [cell_alloc_if]) n os
  go_enter Tryz.func67, Tryz.ntmps67
  go_wp2
  rw [← hW]
  clear hW
  go_quiet_grown ((first | (go_at_call 71; exact Calls.grown_of (del_atG _ _ _ _ _)) | (go_at_call 91; exact Calls.grown_of (point_CompareG _ _ _ _ _))))
  go_wp2
  go_ret
  exact ⟨rfl, 0 + nq, _, by rw [HG.out]; show grow ((grow (w.drewN 0) _).drewN nq) osq = _; rw [show (grow (w.drewN 0) #[.cells #[.int .i64 x, .int .i64 y, .int .i64 s, .int .i64 t] 60, .cells #[.int .i64 x', .int .i64 y', .int .i64 s', .int .i64 t'] 60]).drewN nq = grow ((w.drewN 0).drewN nq) _ from rfl, grow_grow, World.drewN_drewN]⟩
theorem lt_cmpG (x y : Int × Int × Int × Int) : ltOf cmpOG x y = gBef x y := lt_cmpQ (x.1, x.2.1) (y.1, y.2.1)
theorem swo_cmpG : SWO (ltOf cmpOG) := by
  have e : ltOf cmpOG = gBef := by funext x y; exact lt_cmpG x y
  rw [e]
  refine ⟨gBef_irr, fun x y z => gBef_tr, fun x y z h1 h2 => ?_⟩
  unfold gBef befP at *; simp only [decide_eq_false_iff_not] at *; omega
/-- slices.SortFunc at a row of the call's own, with a comparison that is a strict weak order. -/
theorem sortFunc_cgG (g : Nat) (cf : Int × Int × Int × Int → Int × Int × Int × Int → Int) (hO : SWO (ltOf cf)) (eg : ∀ args w, (callFunc g args).run Tryz.prog w = .ok (.enter g args) w)
    (hcmp : ∀ (x y : Int × Int × Int × Int) (W : World), Calls Tryz.prog g #[.agg (encG x).toArray, .agg (encG y).toArray] W fun e w' => e = .returned (.int .i64 (cf x y)) ∧ ∃ q os, w' = grow (W.drewN q) os)
    (B : Nat) (A : Option Addr) (n c : Nat) (l : List (Int × Int × Int × Int)) (w : World) (hown : Own encG 4 60 B w A n c l) (hB : B ≤ w.heap.size) (hn : n ≤ 1000000) :
    Calls Tryz.prog 66 #[.slice A n c, .func (.func g) #[] #[]] w fun e w' => e = .returned (.tuple #[]) ∧ ∃ l', Own encG 4 60 B w' A n c l' ∧ l'.Perm l ∧ (l'.Pairwise fun a b => ltOf cf b a = false) ∧ Below B w w' ∧ w.grownBy w' (Value.slice A n c).ownBlock := by
  have hlen : Calls Tryz.prog 93 #[.int .u64 (n : Int)] w fun e w' => e = .returned (.int .i64 (Lib.bitLen n : Nat)) ∧ w' = w := by
    have h := Any.bits_Len Tryz.bitsL (n : Int) w (by omega) (by omega)
    rwa [Int.toNat_natCast] at h
  have hcv : IntKind.u64.wrap (n : Int) = n := by simp [IntKind.wrap, IntKind.bits, IntKind.signed]; omega
  rcases hown.row.2 with ⟨h0, hz⟩ | ⟨gb, cap, cur, hv, hg, hrest⟩
  · injection h0 with h1 h2 h3
    subst h1 hz h3
    obtain rfl : l = [] := List.length_eq_zero_iff.1 hown.len
    have h := AnyF.pdqsortCmpFunc_none (P := Tryz.prog) { Tryz.pdqCg with } none 0 (Lib.bitLen 0 : Nat) (.func (.func g) #[] #[]) w
    change Calls Tryz.prog 92 _ _ _ at h
    generalize ((Lib.bitLen 0 : Nat) : Int) = lim at h hlen
    go_enter Tryz.func66, Tryz.ntmps66
    go_wp2_with (first | (go_at_call 93; refine hlen.mono ?_; rintro e w' ⟨rfl, rfl⟩) | (go_at_call 92; refine h.mono ?_; rintro e w' ⟨rfl, rfl⟩))
    go_end0
    exact ⟨rfl, [], hown, List.Perm.refl _, List.Pairwise.nil, Go.RowKit.Below.refl _ _, World.grownBy.refl _ _⟩
  · injection hv with h1 _ h3
    subst h1 h3
    obtain ⟨hbg, hlt⟩ := own_lt hown
    have hl : l.toArray.size = n := by simpa using hown.len
    have hlim : Lib.bitLen l.toArray.size < 4611686018427387904 := Nat.lt_of_le_of_lt (Lib.bitLen_le l.toArray.size 62 (by omega) (by omega)) (by omega)
    have hH := own_holdsK encG_len (by omega) hown
    have h := AnyQ.pdqsortCmpFunc_all Tryz.pdqCg 4 Tryz.isAgg60 Tryz.sizeOf60 encG cf g #[] hO gb 0 c l.toArray w eg
      (fun _ _ _ _ x y => hcmp x y _) ⟨encG_len, encG_one, hH, hlt⟩ (l.toArray.size + 1) 0 l.toArray.size (Lib.bitLen l.toArray.size) l.toArray w (by omega) rfl (SWK.start hH) (Nat.zero_le _) (Nat.le_refl _) (by omega) hlim (Or.inl rfl)
    change Calls Tryz.prog 92 _ _ _ at h
    have hsorts := pdq_sorts (ltOf cf) hO l.toArray 0 l.toArray.size (Lib.bitLen l.toArray.size) true true (Nat.zero_le _) (Nat.le_refl _) (Or.inl rfl)
    generalize pdq (ltOf cf) l.toArray 0 l.toArray.size (Lib.bitLen l.toArray.size) true true = d' at h hsorts
    obtain ⟨l', rfl, hperm, hpw⟩ := sorted_list hsorts.1 hsorts.2
    have hl' : l'.length = n := by rw [hperm.length_eq, hown.len]
    rw [hl] at h
    generalize ((Lib.bitLen n : Nat) : Int) = lim at h hlen
    have HO := Lib.hid hown
    have HL := Lib.hid hl'
    clear hown hH hl hlim hsorts hl'
    go_enter Tryz.func66, Tryz.ntmps66
    go_wp2_with (first | (go_at_call 93; refine hlen.mono ?_; rintro e w' ⟨rfl, rfl⟩) | (go_at_call 92; refine h.mono ?_; rintro e w' ⟨rfl, m, os, rfl⟩))
    go_end0
    exact ⟨rfl, l', own_sorted encG_len (by omega) HO.out HL.out m os, hperm, hpw, below_sorted l'.toArray hbg hlt m os, grown_sorted l'.toArray m os⟩
theorem sort_chg (B : Nat) (A : Option Addr) (n c : Nat) (l : List (Int × Int × Int × Int)) (w : World) (hown : Own encG 4 60 B w A n c l) (hB : B ≤ w.heap.size) (hn : n ≤ 1000000) :
    Calls Tryz.prog 66 #[.slice A n c, .func (.func 67) #[] #[]] w fun e w' => e = .returned (.tuple #[]) ∧ ∃ l', Own encG 4 60 B w' A n c l' ∧ l'.Perm l ∧ WG l' ∧ Below B w w' := by
  have eg : ∀ args w, (callFunc 67 args).run Tryz.prog w = .ok (.enter 67 args) w := enters_of Tryz.func67 (by kernel_rfl) rfl
  refine (sortFunc_cgG 67 cmpOG swo_cmpG eg (fun x y W => del_orderG x.1 x.2.1 x.2.2.1 x.2.2.2 y.1 y.2.1 y.2.2.1 y.2.2.2 W) B A n c l w hown hB hn).mono ?_
  rintro e w' ⟨rfl, l', h1, h2, h3, h4, _⟩
  exact ⟨rfl, l', h1, h2, h3.imp fun {a b} h => by rw [lt_cmpG] at h; exact h, h4⟩
end Go.Proofs.YtfdihjjnlmhibaaGreat
end
section
namespace Go.Proofs.YtfdihjjnlmhibaaGreat
open Go Go.RowKit
set_option maxRecDepth 100000
attribute [local go_sem ↓ high] eq_pt neq_pt
theorem cmpP_waysN (ax ay bx bx' : Int) : (ay < bx' ∧ cmpP ax ay bx bx' = -1) ∨ (ay = bx' ∧ ax < bx ∧ cmpP ax ay bx bx' = -1) ∨ (ay = bx' ∧ ax = bx ∧ cmpP ax ay bx bx' = 0) ∨ (ay = bx' ∧ bx < ax ∧ cmpP ax ay bx bx' = 1) ∨ (bx' < ay ∧ cmpP ax ay bx bx' = 1) := by
  unfold cmpP orI cmpI
  repeat' split
  all_goals omega
set_option maxHeartbeats 1000000 in
theorem ref_CompareN (ax ay bx bx' : Int) (w : World) : Calls Tryz.prog 99 #[.agg #[.int .i64 ax, .int .i64 ay], .agg #[.int .i64 bx, .int .i64 bx']] w fun e w' => e = .returned (.int .i64 (cmpP ax ay bx bx')) ∧ Below w.heap.size w w' := by
  rcases cmpP_waysN ax ay bx bx' with ⟨h1, he⟩ | ⟨h1, h2, he⟩ | ⟨h1, h2, he⟩ | ⟨h1, h2, he⟩ | ⟨h1, he⟩
  · have HE := Lib.hid he
    clear he
    go_enter Tryz.func99, Tryz.ntmps99
    go_wp2
    go_ret
    exact ⟨ret_int HE.out.symm, by (repeat' (first | exact Below.refl _ _ | assumption | (refine Below.alloc ?_ ?_ _) | (refine Below.setCell ?_ ?_ _) | (refine Below.drew ?_) | (refine below_drewN ?_ _) | (refine below_after (Ext.below _) ?_ ?_) | (refine below_after (by assumption) ?_ ?_) | (simp; done) | omega | (simp; omega)))⟩
  · have HE := Lib.hid he
    clear he
    have d1 : decide (ay < bx') = false := decide_eq_false (by omega)
    have d2 : (ay == bx') = true := by simp [h1]
    clear h1
    go_enter Tryz.func99, Tryz.ntmps99
    go_wp2
    go_ret
    exact ⟨ret_int HE.out.symm, by (repeat' (first | exact Below.refl _ _ | assumption | (refine Below.alloc ?_ ?_ _) | (refine Below.setCell ?_ ?_ _) | (refine Below.drew ?_) | (refine below_drewN ?_ _) | (refine below_after (Ext.below _) ?_ ?_) | (refine below_after (by assumption) ?_ ?_) | (simp; done) | omega | (simp; omega)))⟩
  · have HE := Lib.hid he
    clear he
    subst h1 h2
    go_enter Tryz.func99, Tryz.ntmps99
    go_wp2
    go_ret
    exact ⟨ret_int HE.out.symm, by (repeat' (first | exact Below.refl _ _ | assumption | (refine Below.alloc ?_ ?_ _) | (refine Below.setCell ?_ ?_ _) | (refine Below.drew ?_) | (refine below_drewN ?_ _) | (refine below_after (Ext.below _) ?_ ?_) | (refine below_after (by assumption) ?_ ?_) | (simp; done) | omega | (simp; omega)))⟩
  · have HE := Lib.hid he
    clear he
    have d1 : decide (ay < bx') = false := decide_eq_false (by omega)
    have d2 : (ay == bx') = true := by simp [h1]
    have d3 : decide (ax < bx) = false := decide_eq_false (by omega)
    have d4 : decide (ax = bx ∧ ay = bx') = false := decide_eq_false (by omega)
    clear h1
    go_enter Tryz.func99, Tryz.ntmps99
    go_wp2
    go_ret
    exact ⟨ret_int HE.out.symm, by (repeat' (first | exact Below.refl _ _ | assumption | (refine Below.alloc ?_ ?_ _) | (refine Below.setCell ?_ ?_ _) | (refine Below.drew ?_) | (refine below_drewN ?_ _) | (refine below_after (Ext.below _) ?_ ?_) | (refine below_after (by assumption) ?_ ?_) | (simp; done) | omega | (simp; omega)))⟩
  · have HE := Lib.hid he
    clear he
    have d1 : decide (ay < bx') = false := decide_eq_false (by omega)
    have d2 : (ay == bx') = false := by simp; omega
    have d4 : decide (ax = bx ∧ ay = bx') = false := decide_eq_false (by omega)
    go_enter Tryz.func99, Tryz.ntmps99
    go_wp2
    go_ret
    exact ⟨ret_int HE.out.symm, by (repeat' (first | exact Below.refl _ _ | assumption | (refine Below.alloc ?_ ?_ _) | (refine Below.setCell ?_ ?_ _) | (refine Below.drew ?_) | (refine below_drewN ?_ _) | (refine below_after (Ext.below _) ?_ ?_) | (refine below_after (by assumption) ?_ ?_) | (simp; done) | omega | (simp; omega)))⟩
theorem ref_ValidN {x y : Int} {q : Bool} (h : validB x y = q) (w : World) : Calls Tryz.prog 97 #[.agg #[.int .i64 x, .int .i64 y]] w fun e w' => e = .returned (.bool q) ∧ Below w.heap.size w w' := by
  rw [← h]; exact ref_Valid x y w
end Go.Proofs.YtfdihjjnlmhibaaGreat
end
section
namespace Go.Proofs.YtfdihjjnlmhibaaGreat
open Go Go.RowKit
set_option maxRecDepth 100000
set_option linter.unusedSimpArgs false
set_option linter.unusedVariables false
attribute [local go_sem ↓ high] eq_cl neq_cl eq_pt neq_pt eq_cg neq_cg
theorem del_at (x y s t : Int) (w : World) : Calls Tryz.prog 71 #[.agg #[.int .i64 x, .int .i64 y, .int .i64 s, .int .i64 t]] w fun e w' => e = .returned (.agg #[.int .i64 x, .int .i64 y]) ∧ Below w.heap.size w w' := by
  go_enter Tryz.func71, Tryz.ntmps71
  go_wp2
  refine bodyPost_ret (v := .agg #[.int .i64 x, .int .i64 y]) (by simp [results, Tryz.results71, go_sem, *, ↓IntWalk.iteOmega]) rfl ?_
  exact ⟨rfl, by (repeat' (first | exact Below.refl _ _ | assumption | (refine Below.alloc ?_ ?_ _) | (refine Below.setCell ?_ ?_ _) | (refine Below.drew ?_) | (refine below_drewN ?_ _) | (refine below_after (Ext.below _) ?_ ?_) | (refine below_after (by assumption) ?_ ?_) | (simp; done) | omega | (simp; omega)))⟩
theorem ref53_place (x y s t : Int) (w : World) : Calls Tryz.prog 98 #[.agg #[.int .i64 x, .int .i64 y, .int .i64 s, .int .i64 t]] w fun e w' => e = .returned (.agg #[.int .i64 x, .int .i64 y]) ∧ Below w.heap.size w w' := by
  go_enter Tryz.func98, Tryz.ntmps98
  go_wp2
  refine bodyPost_ret (v := .agg #[.int .i64 x, .int .i64 y]) (by simp [results, Tryz.results98, go_sem, *, ↓IntWalk.iteOmega]) rfl ?_
  exact ⟨rfl, by (repeat' (first | exact Below.refl _ _ | assumption | (refine Below.alloc ?_ ?_ _) | (refine Below.setCell ?_ ?_ _) | (refine Below.drew ?_) | (refine below_drewN ?_ _) | (refine below_after (Ext.below _) ?_ ?_) | (refine below_after (by assumption) ?_ ?_) | (simp; done) | omega | (simp; omega)))⟩
def stB (s : Int) : Bool := decide (0 ≤ s ∧ s ≤ 7)
theorem del_state (s : Int) (w : World) : Calls Tryz.prog 94 #[.int .i64 s] w fun e w' => e = .returned (.bool (stB s)) ∧ Below w.heap.size w w' := by
  go_enter Tryz.func94, Tryz.ntmps94
  go_wp2
  all_goals (go_ret; refine ⟨ret_bool ?_, by (repeat' (first | exact Below.refl _ _ | assumption | (refine Below.alloc ?_ ?_ _) | (refine Below.setCell ?_ ?_ _) | (refine Below.drew ?_) | (refine below_drewN ?_ _) | (refine below_after (Ext.below _) ?_ ?_) | (refine below_after (by assumption) ?_ ?_) | (simp; done) | omega | (simp; omega)))⟩; rw [Bool.eq_iff_iff]; simp [stB]; try omega)
theorem del_order (x y s t x' y' s' t' : Int) (w : World) : Calls Tryz.prog 67 #[.agg #[.int .i64 x, .int .i64 y, .int .i64 s, .int .i64 t], .agg #[.int .i64 x', .int .i64 y', .int .i64 s', .int .i64 t']] w fun e w' => e = .returned (.int .i64 (cmpP x y x' y')) ∧ Below w.heap.size w w' := by
  go_enter Tryz.func67, Tryz.ntmps67
  go_wp2
  (refine wp_region_ext_lit (by kernel_rfl) (by kernel_rfl) ?_; (repeat (go_big_quiet_step (first | (go_at_call 71; exact calls_ext (del_at _ _ _ _ _)) | (go_at_call 91; exact calls_ext (point_Compare _ _ _ _ _))))); refine wpQuiet_nil ?_; intro _ hw'; obtain ⟨z1, hw''⟩ := hw'; subst hw''; have hs1 := z1.size; obtain ⟨hc1, hf1⟩ := bcell z1.below; (try simp only [World.size_alloc, World.size_setCell, World.size_drew] at hc1 hf1); (try simp at hs1))
  go_wp2
  go_ret
  exact ⟨rfl, by (repeat' (first | exact Below.refl _ _ | assumption | (refine Below.alloc ?_ ?_ _) | (refine Below.setCell ?_ ?_ _) | (refine Below.drew ?_) | (refine below_drewN ?_ _) | (refine below_after (Ext.below _) ?_ ?_) | (refine below_after (by assumption) ?_ ?_) | (simp; done) | omega | (simp; omega)))⟩
/-- The ways of one change's test. -/
theorem okG_ways {l : List (Int × Int × Int × Int)} {j : Nat} {x y s t : Int} (hx : l[j]? = some (x, y, s, t)) :
    (validB x y = false ∧ okG l j = false) ∨ (validB x y = true ∧ ¬(0 ≤ s ∧ s ≤ 7) ∧ okG l j = false) ∨ (validB x y = true ∧ (0 ≤ s ∧ s ≤ 7) ∧ ¬(0 ≤ t ∧ t ≤ 7) ∧ okG l j = false) ∨ (validB x y = true ∧ (0 ≤ s ∧ s ≤ 7) ∧ (0 ≤ t ∧ t ≤ 7) ∧ s = t ∧ okG l j = false) ∨
    (validB x y = true ∧ (0 ≤ s ∧ s ≤ 7) ∧ (0 ≤ t ∧ t ≤ 7) ∧ s ≠ t ∧ j = 0 ∧ okG l j = true) ∨
    (validB x y = true ∧ (0 ≤ s ∧ s ≤ 7) ∧ (0 ≤ t ∧ t ≤ 7) ∧ s ≠ t ∧ 0 < j ∧ ∃ a b c d, l[j - 1]? = some (a, b, c, d) ∧ okG l j = befP a b x y) := by
  cases hv : validB x y with
  | false => exact .inl ⟨rfl, okG_place hx hv⟩
  | true =>
    by_cases h1 : 0 ≤ s ∧ s ≤ 7
    · by_cases h2 : 0 ≤ t ∧ t ≤ 7
      · by_cases h3 : s = t
        · exact .inr (.inr (.inr (.inl ⟨rfl, h1, h2, h3, okG_state hx (by omega)⟩)))
        · rcases Nat.eq_zero_or_pos j with rfl | h0
          · exact .inr (.inr (.inr (.inr (.inl ⟨rfl, h1, h2, h3, rfl, okG_first hx hv ⟨h1.1, h1.2, h2.1, h2.2, h3⟩⟩))))
          · have hl := (List.getElem?_eq_some_iff.1 hx).1
            refine .inr (.inr (.inr (.inr (.inr ⟨rfl, h1, h2, h3, h0, _, _, _, _, List.getElem?_eq_getElem (by omega), okG_next h0 hx (List.getElem?_eq_getElem (by omega)) hv ⟨h1.1, h1.2, h2.1, h2.2, h3⟩⟩))))
      · exact .inr (.inr (.inl ⟨rfl, h1, h2, okG_state hx (by omega)⟩))
    · exact .inr (.inl ⟨rfl, h1, okG_state hx (by omega)⟩)
theorem valid_max {x y : Int} {q : Bool} (h : validB x y = q) : (q = true → decide (1048576 < max x y) = false ∧ decide (min x y < -1048576) = false) ∧ (q = false → decide (1048576 < max x y) = true ∨ (decide (1048576 < max x y) = false ∧ decide (min x y < -1048576) = true)) := by
  subst h
  unfold validB
  simp only [decide_eq_true_eq, decide_eq_false_iff_not]
  omega
set_option maxHeartbeats 4000000 in
theorem del_Right (A : Option Addr) (n c : Nat) (l : List (Int × Int × Int × Int)) (w : World) (hR : Rd encG 4 w A n l) (hn : n ≤ 9223372036854775807) :
    Calls Tryz.prog 70 #[.slice A n c] w fun e w' => e = .returned (.bool (rightG l)) ∧ Below w.heap.size w w' := by
  rcases Nat.lt_or_ge 10000 n with h5 | h5
  · have HV := Lib.hid (rightG_len hR.len h5)
    go_enter Tryz.func70, Tryz.ntmps70
    go_wp2
    go_ret
    exact ⟨ret_bool HV.out.symm, by (repeat' (first | exact Below.refl _ _ | assumption | (refine Below.alloc ?_ ?_ _) | (refine Below.setCell ?_ ?_ _) | (refine Below.drew ?_) | (refine below_drewN ?_ _) | (refine below_after (Ext.below _) ?_ ?_) | (refine below_after (by assumption) ?_ ?_) | (simp; done) | omega | (simp; omega)))⟩
  · go_enter Tryz.func70, Tryz.ntmps70
    go_wp2
    go_loopw [10] (fun i wr => ∃ j : Nat, j ≤ n ∧ i = .int .i64 j ∧ Below w.heap.size w wr ∧ Hid (∀ r, r < j → okG l r = true)) (fun i _ => n - (intOf i).toNat)
    case atStart => exact ⟨0, by omega, rfl, Below.refl _ _, fun r hr => absurd hr (by omega)⟩
    case round =>
      obtain ⟨j, hj, rfl, hb, hno⟩ := hrel
      obtain ⟨hc, hf⟩ := bcell hb
      have hs := hb.size
      by_cases hlt : j < n
      · have dj : decide ((j : Int) < n) = true := decide_eq_true (by omega)
        obtain ⟨x, y, s, t, bo, o, hx, rfl, hbl, hcell, hcell2, hcell3, hcell4⟩ := hR.chg hlt
        rcases okG_ways hx.out with ⟨hv, ho⟩ | ⟨hv, h1, ho⟩ | ⟨hv, h1, h2, ho⟩ | ⟨hv, h1, h2, h3, ho⟩ | ⟨hv, h1, h2, h3, hj0, ho⟩ | ⟨hv, h1, h2, h3, h0, a, b, c', d, hp, ho⟩
        · have HB := Lib.hid (rightG_bad hR.len hlt ho)
          have hw := (valid_max hv).2 rfl
          clear hv ho
          rcases hw with m1 | ⟨m1, m2⟩
          all_goals
            go_wp2
            (refine wp_region_ext_lit (by kernel_rfl) (by kernel_rfl) ?_; (repeat (go_big_quiet_step (fail))); refine wpQuiet_nil ?_; intro _ hw'; obtain ⟨z1, hw''⟩ := hw'; subst hw''; have hs1 := z1.size; obtain ⟨hc1, hf1⟩ := bcell z1.below; (try simp only [World.size_alloc, World.size_setCell, World.size_drew] at hc1 hf1); (try simp at hs1))
            go_wp2
            go_ret
            exact ⟨ret_bool HB.out.symm, by (repeat' (first | exact Below.refl _ _ | assumption | (refine Below.alloc ?_ ?_ _) | (refine Below.setCell ?_ ?_ _) | (refine Below.drew ?_) | (refine below_drewN ?_ _) | (refine below_after (Ext.below _) ?_ ?_) | (refine below_after (by assumption) ?_ ?_) | (simp; done) | omega | (simp; omega)))⟩
        · have HB := Lib.hid (rightG_bad hR.len hlt ho)
          obtain ⟨m1, m2⟩ := (valid_max hv).1 rfl
          have kS : stB s = false := decide_eq_false h1
          clear hv ho
          go_wp2
          (refine wp_region_ext_lit (by kernel_rfl) (by kernel_rfl) ?_; (repeat (go_big_quiet_step (first | (go_at_call 94; exact calls_ext (del_state _ _))))); refine wpQuiet_nil ?_; intro _ hw'; obtain ⟨z1, hw''⟩ := hw'; subst hw''; have hs1 := z1.size; obtain ⟨hc1, hf1⟩ := bcell z1.below; (try simp only [World.size_alloc, World.size_setCell, World.size_drew] at hc1 hf1); (try simp at hs1))
          go_wp2
          go_ret
          exact ⟨ret_bool HB.out.symm, by (repeat' (first | exact Below.refl _ _ | assumption | (refine Below.alloc ?_ ?_ _) | (refine Below.setCell ?_ ?_ _) | (refine Below.drew ?_) | (refine below_drewN ?_ _) | (refine below_after (Ext.below _) ?_ ?_) | (refine below_after (by assumption) ?_ ?_) | (simp; done) | omega | (simp; omega)))⟩
        · have HB := Lib.hid (rightG_bad hR.len hlt ho)
          obtain ⟨m1, m2⟩ := (valid_max hv).1 rfl
          have kS : stB s = true := decide_eq_true h1
          have kT : stB t = false := decide_eq_false h2
          clear hv ho
          go_wp2
          (refine wp_region_ext_lit (by kernel_rfl) (by kernel_rfl) ?_; (repeat (go_big_quiet_step (first | (go_at_call 94; exact calls_ext (del_state _ _))))); refine wpQuiet_nil ?_; intro _ hw'; obtain ⟨z1, hw''⟩ := hw'; subst hw''; have hs1 := z1.size; obtain ⟨hc1, hf1⟩ := bcell z1.below; (try simp only [World.size_alloc, World.size_setCell, World.size_drew] at hc1 hf1); (try simp at hs1))
          go_wp2
          go_ret
          exact ⟨ret_bool HB.out.symm, by (repeat' (first | exact Below.refl _ _ | assumption | (refine Below.alloc ?_ ?_ _) | (refine Below.setCell ?_ ?_ _) | (refine Below.drew ?_) | (refine below_drewN ?_ _) | (refine below_after (Ext.below _) ?_ ?_) | (refine below_after (by assumption) ?_ ?_) | (simp; done) | omega | (simp; omega)))⟩
        · have HB := Lib.hid (rightG_bad hR.len hlt ho)
          obtain ⟨m1, m2⟩ := (valid_max hv).1 rfl
          have kS : stB s = true := decide_eq_true h1
          have kT : stB t = true := decide_eq_true h2
          have e1 : (s == t) = true := by simpa using h3
          clear h3
          clear hv ho
          go_wp2
          (refine wp_region_ext_lit (by kernel_rfl) (by kernel_rfl) ?_; (repeat (go_big_quiet_step (first | (go_at_call 94; exact calls_ext (del_state _ _))))); refine wpQuiet_nil ?_; intro _ hw'; obtain ⟨z1, hw''⟩ := hw'; subst hw''; have hs1 := z1.size; obtain ⟨hc1, hf1⟩ := bcell z1.below; (try simp only [World.size_alloc, World.size_setCell, World.size_drew] at hc1 hf1); (try simp at hs1))
          go_wp2
          go_ret
          exact ⟨ret_bool HB.out.symm, by (repeat' (first | exact Below.refl _ _ | assumption | (refine Below.alloc ?_ ?_ _) | (refine Below.setCell ?_ ?_ _) | (refine Below.drew ?_) | (refine below_drewN ?_ _) | (refine below_after (Ext.below _) ?_ ?_) | (refine below_after (by assumption) ?_ ?_) | (simp; done) | omega | (simp; omega)))⟩
        · have HO := Lib.hid ho
          obtain ⟨m1, m2⟩ := (valid_max hv).1 rfl
          have kS : stB s = true := decide_eq_true h1
          have kT : stB t = true := decide_eq_true h2
          have e1 : (s == t) = false := by simpa using h3
          have d3 : decide ((0 : Int) < j) = false := decide_eq_false (by omega)
          have d3' : decide (0 < j) = false := decide_eq_false (by omega)
          clear hv ho hj0
          go_wp2
          (refine wp_region_ext_lit (by kernel_rfl) (by kernel_rfl) ?_; (repeat (go_big_quiet_step (first | (go_at_call 94; exact calls_ext (del_state _ _))))); refine wpQuiet_nil ?_; intro _ hw'; obtain ⟨z1, hw''⟩ := hw'; subst hw''; have hs1 := z1.size; obtain ⟨hc1, hf1⟩ := bcell z1.below; (try simp only [World.size_alloc, World.size_setCell, World.size_drew] at hc1 hf1); (try simp at hs1))
          go_wp2
          go_roundw
          case rel => exact ⟨j + 1, by omega, by go_num, (by (repeat' (first | exact Below.refl _ _ | assumption | (refine Below.alloc ?_ ?_ _) | (refine Below.setCell ?_ ?_ _) | (refine Below.drew ?_) | (refine below_drewN ?_ _) | (refine below_after (Ext.below _) ?_ ?_) | (refine below_after (by assumption) ?_ ?_) | (simp; done) | omega | (simp; omega)))), okG_step hno.out HO.out⟩
          case measure => simp [intOf]; omega
        · obtain ⟨m1, m2⟩ := (valid_max hv).1 rfl
          have kS : stB s = true := decide_eq_true h1
          have kT : stB t = true := decide_eq_true h2
          have e1 : (s == t) = false := by simpa using h3
          have d3 : decide ((0 : Int) < j) = true := decide_eq_true (by omega)
          have d3' : decide (0 < j) = true := decide_eq_true (by omega)
          obtain ⟨a', b', c2, d2, bo', o', hp', he, hbl', g1, g2, g3, g4⟩ := hR.chg (i := j - 1) (by omega)
          obtain ⟨rfl, rfl⟩ : bo = bo' ∧ o = o' := by injection he with he; injection he with e1 e2; exact ⟨e1, e2⟩
          obtain ⟨rfl, rfl, rfl, rfl⟩ : a = a' ∧ b = b' ∧ c' = c2 ∧ d = d2 := by have := hp'.out; rw [hp] at this; simpa using this
          have kO := fun w1 => del_order a b c' d x y s t w1
          have jn : ((j : Int) - 1).toNat = j - 1 := by omega
          have j0 : (0 : Int) ≤ (j : Int) - 1 := by omega
          have j1 : (j : Int) - 1 < (n : Int) := by omega
          have wk : IntKind.i64.wrap ((j : Int) - 1) = (j : Int) - 1 := IntWalk.i64_in _ (by omega)
          cases hq : befP a b x y with
          | false =>
            have hcm : decide (0 ≤ cmpP a b x y) = true := by rw [ord_bef hq]; rfl
            rw [hq] at ho
            have HB := Lib.hid (rightG_bad hR.len hlt ho)
            generalize cmpP a b x y = cm at kO hcm
            clear hv ho hq hp hp' h3
            go_wp2
            (refine wp_region_ext_lit (by kernel_rfl) (by kernel_rfl) ?_; (repeat (go_big_quiet_step (first | (go_at_call 94; exact calls_ext (del_state _ _)) | (go_at_call 67; exact calls_ext (kO _))))); refine wpQuiet_nil ?_; intro _ hw'; obtain ⟨z1, hw''⟩ := hw'; subst hw''; have hs1 := z1.size; obtain ⟨hc1, hf1⟩ := bcell z1.below; (try simp only [World.size_alloc, World.size_setCell, World.size_drew] at hc1 hf1); (try simp at hs1))
            go_wp2
            go_ret
            exact ⟨ret_bool HB.out.symm, by (repeat' (first | exact Below.refl _ _ | assumption | (refine Below.alloc ?_ ?_ _) | (refine Below.setCell ?_ ?_ _) | (refine Below.drew ?_) | (refine below_drewN ?_ _) | (refine below_after (Ext.below _) ?_ ?_) | (refine below_after (by assumption) ?_ ?_) | (simp; done) | omega | (simp; omega)))⟩
          | true =>
            have hcm : decide (0 ≤ cmpP a b x y) = false := by rw [ord_bef hq]; rfl
            rw [hq] at ho
            have HO := Lib.hid ho
            generalize cmpP a b x y = cm at kO hcm
            clear hv ho hq hp hp' h3
            go_wp2
            (refine wp_region_ext_lit (by kernel_rfl) (by kernel_rfl) ?_; (repeat (go_big_quiet_step (first | (go_at_call 94; exact calls_ext (del_state _ _)) | (go_at_call 67; exact calls_ext (kO _))))); refine wpQuiet_nil ?_; intro _ hw'; obtain ⟨z1, hw''⟩ := hw'; subst hw''; have hs1 := z1.size; obtain ⟨hc1, hf1⟩ := bcell z1.below; (try simp only [World.size_alloc, World.size_setCell, World.size_drew] at hc1 hf1); (try simp at hs1))
            go_wp2
            go_roundw
            case rel => exact ⟨j + 1, by omega, by go_num, (by (repeat' (first | exact Below.refl _ _ | assumption | (refine Below.alloc ?_ ?_ _) | (refine Below.setCell ?_ ?_ _) | (refine Below.drew ?_) | (refine below_drewN ?_ _) | (refine below_after (Ext.below _) ?_ ?_) | (refine below_after (by assumption) ?_ ?_) | (simp; done) | omega | (simp; omega)))), okG_step hno.out HO.out⟩
            case measure => simp [intOf]; omega
      · obtain rfl : j = n := by omega
        have dj : decide ((j : Int) < j) = false := decide_eq_false (by omega)
        have HT := Lib.hid (rightG_all hR.len h5 hno.out)
        go_wp2
        go_ret
        exact ⟨ret_bool HT.out.symm, by (repeat' (first | exact Below.refl _ _ | assumption | (refine Below.alloc ?_ ?_ _) | (refine Below.setCell ?_ ?_ _) | (refine Below.drew ?_) | (refine below_drewN ?_ _) | (refine below_after (Ext.below _) ?_ ?_) | (refine below_after (by assumption) ?_ ?_) | (simp; done) | omega | (simp; omega)))⟩
end Go.Proofs.YtfdihjjnlmhibaaGreat
end
section
namespace Go.Proofs.YtfdihjjnlmhibaaGreat
open Go Go.RowKit
set_option maxRecDepth 100000
set_option linter.unusedSimpArgs false
set_option linter.unusedVariables false
attribute [local go_sem ↓ high] eq_cl neq_cl eq_pt neq_pt eq_cg neq_cg
set_option maxHeartbeats 4000000 in
theorem ref53_Right (A : Option Addr) (n c : Nat) (l : List (Int × Int × Int × Int)) (w : World) (hR : Rd encG 4 w A n l) (hn : n ≤ 9223372036854775807) :
    Calls Tryz.prog 80 #[.slice A n c] w fun e w' => e = .returned (.bool (rightG l)) ∧ Below w.heap.size w w' := by
  rcases Nat.lt_or_ge 10000 n with h5 | h5
  · have HV := Lib.hid (rightG_len hR.len h5)
    go_enter Tryz.func80, Tryz.ntmps80
    go_wp2
    go_ret
    exact ⟨ret_bool HV.out.symm, by (repeat' (first | exact Below.refl _ _ | assumption | (refine Below.alloc ?_ ?_ _) | (refine Below.setCell ?_ ?_ _) | (refine Below.drew ?_) | (refine below_drewN ?_ _) | (refine below_after (Ext.below _) ?_ ?_) | (refine below_after (by assumption) ?_ ?_) | (simp; done) | omega | (simp; omega)))⟩
  · go_enter Tryz.func80, Tryz.ntmps80
    go_wp2
    go_loopw [3] (fun i wr => ∃ j : Nat, j ≤ n ∧ i = .int .i64 j ∧ Below w.heap.size w wr ∧ Hid (∀ r, r < j → okG l r = true)) (fun i _ => n - (intOf i).toNat)
    case atStart => exact ⟨0, by omega, rfl, Below.refl _ _, fun r hr => absurd hr (by omega)⟩
    case round =>
      obtain ⟨j, hj, rfl, hb, hno⟩ := hrel
      obtain ⟨hc, hf⟩ := bcell hb
      have hs := hb.size
      by_cases hlt : j < n
      · have dj : decide ((j : Int) < n) = true := decide_eq_true (by omega)
        have dj' : decide (j < n) = true := decide_eq_true hlt
        obtain ⟨x, y, s, t, bo, o, hx, rfl, hbl, hcell, hcell2, hcell3, hcell4⟩ := hR.chg hlt
        have kV := fun q h w1 => ref_ValidN (x := x) (y := y) (q := q) h w1
        rcases okG_ways hx.out with ⟨hv, ho⟩ | ⟨hv, h1, ho⟩ | ⟨hv, h1, h2, ho⟩ | ⟨hv, h1, h2, h3, ho⟩ | ⟨hv, h1, h2, h3, hj0, ho⟩ | ⟨hv, h1, h2, h3, h0, a, b, c', d, hp, ho⟩
        · have HB := Lib.hid (rightG_bad hR.len hlt ho)
          have kX := fun w1 => kV _ hv w1
          clear kV hv ho
          go_wp2_with fail
          (go_at_call 98; refine (ref53_place _ _ _ _ _).mono ?_; rintro e w3 ⟨rfl, hb3⟩; obtain ⟨hc3, hf3⟩ := bcell hb3; have hs3 := hb3.size; (try simp only [World.size_alloc, World.size_setCell, World.size_drew] at hc3 hf3); (try simp at hs3))
          go_wp2_with fail
          (go_at_call 97; refine (kX _).mono ?_; rintro e w4 ⟨rfl, hb4⟩; obtain ⟨hc4, hf4⟩ := bcell hb4; have hs4 := hb4.size; (try simp only [World.size_alloc, World.size_setCell, World.size_drew] at hc4 hf4); (try simp at hs4))
          go_wp2_with fail
          go_ret
          exact ⟨ret_bool HB.out.symm, by (repeat' (first | exact Below.refl _ _ | assumption | (refine Below.alloc ?_ ?_ _) | (refine Below.setCell ?_ ?_ _) | (refine Below.drew ?_) | (refine below_drewN ?_ _) | (refine below_after (Ext.below _) ?_ ?_) | (refine below_after (by assumption) ?_ ?_) | (simp; done) | omega | (simp; omega)))⟩
        · have HB := Lib.hid (rightG_bad hR.len hlt ho)
          have kX := fun w1 => kV _ hv w1
          have hways : decide (s < 0) = true ∨ (decide (s < 0) = false ∧ decide (8 ≤ s) = true) := by simp only [decide_eq_true_eq, decide_eq_false_iff_not]; omega
          clear kV hv ho
          rcases hways with d1 | ⟨d1, d2⟩
          all_goals
            go_wp2_with fail
            (go_at_call 98; refine (ref53_place _ _ _ _ _).mono ?_; rintro e w3 ⟨rfl, hb3⟩; obtain ⟨hc3, hf3⟩ := bcell hb3; have hs3 := hb3.size; (try simp only [World.size_alloc, World.size_setCell, World.size_drew] at hc3 hf3); (try simp at hs3))
            go_wp2_with fail
            (go_at_call 97; refine (kX _).mono ?_; rintro e w4 ⟨rfl, hb4⟩; obtain ⟨hc4, hf4⟩ := bcell hb4; have hs4 := hb4.size; (try simp only [World.size_alloc, World.size_setCell, World.size_drew] at hc4 hf4); (try simp at hs4))
            go_wp2_with fail
            go_ret
            exact ⟨ret_bool HB.out.symm, by (repeat' (first | exact Below.refl _ _ | assumption | (refine Below.alloc ?_ ?_ _) | (refine Below.setCell ?_ ?_ _) | (refine Below.drew ?_) | (refine below_drewN ?_ _) | (refine below_after (Ext.below _) ?_ ?_) | (refine below_after (by assumption) ?_ ?_) | (simp; done) | omega | (simp; omega)))⟩
        · have HB := Lib.hid (rightG_bad hR.len hlt ho)
          have kX := fun w1 => kV _ hv w1
          have d1 : decide (s < 0) = false := decide_eq_false (by omega)
          have d2 : decide (8 ≤ s) = false := decide_eq_false (by omega)
          have hways : decide (t < 0) = true ∨ (decide (t < 0) = false ∧ decide (8 ≤ t) = true) := by simp only [decide_eq_true_eq, decide_eq_false_iff_not]; omega
          clear kV hv ho
          rcases hways with d3 | ⟨d3, d4⟩
          all_goals
            go_wp2_with fail
            (go_at_call 98; refine (ref53_place _ _ _ _ _).mono ?_; rintro e w3 ⟨rfl, hb3⟩; obtain ⟨hc3, hf3⟩ := bcell hb3; have hs3 := hb3.size; (try simp only [World.size_alloc, World.size_setCell, World.size_drew] at hc3 hf3); (try simp at hs3))
            go_wp2_with fail
            (go_at_call 97; refine (kX _).mono ?_; rintro e w4 ⟨rfl, hb4⟩; obtain ⟨hc4, hf4⟩ := bcell hb4; have hs4 := hb4.size; (try simp only [World.size_alloc, World.size_setCell, World.size_drew] at hc4 hf4); (try simp at hs4))
            go_wp2_with fail
            go_ret
            exact ⟨ret_bool HB.out.symm, by (repeat' (first | exact Below.refl _ _ | assumption | (refine Below.alloc ?_ ?_ _) | (refine Below.setCell ?_ ?_ _) | (refine Below.drew ?_) | (refine below_drewN ?_ _) | (refine below_after (Ext.below _) ?_ ?_) | (refine below_after (by assumption) ?_ ?_) | (simp; done) | omega | (simp; omega)))⟩
        · have HB := Lib.hid (rightG_bad hR.len hlt ho)
          have kX := fun w1 => kV _ hv w1
          have d1 : decide (s < 0) = false := decide_eq_false (by omega)
          have d2 : decide (8 ≤ s) = false := decide_eq_false (by omega)
          have d3 : decide (t < 0) = false := decide_eq_false (by omega)
          have d4 : decide (8 ≤ t) = false := decide_eq_false (by omega)
          have e1 : (s == t) = true := by simpa using h3
          clear h3
          clear kV hv ho
          go_wp2_with fail
          (go_at_call 98; refine (ref53_place _ _ _ _ _).mono ?_; rintro e w3 ⟨rfl, hb3⟩; obtain ⟨hc3, hf3⟩ := bcell hb3; have hs3 := hb3.size; (try simp only [World.size_alloc, World.size_setCell, World.size_drew] at hc3 hf3); (try simp at hs3))
          go_wp2_with fail
          (go_at_call 97; refine (kX _).mono ?_; rintro e w4 ⟨rfl, hb4⟩; obtain ⟨hc4, hf4⟩ := bcell hb4; have hs4 := hb4.size; (try simp only [World.size_alloc, World.size_setCell, World.size_drew] at hc4 hf4); (try simp at hs4))
          go_wp2_with fail
          go_ret
          exact ⟨ret_bool HB.out.symm, by (repeat' (first | exact Below.refl _ _ | assumption | (refine Below.alloc ?_ ?_ _) | (refine Below.setCell ?_ ?_ _) | (refine Below.drew ?_) | (refine below_drewN ?_ _) | (refine below_after (Ext.below _) ?_ ?_) | (refine below_after (by assumption) ?_ ?_) | (simp; done) | omega | (simp; omega)))⟩
        · have HO := Lib.hid ho
          have kX := fun w1 => kV _ hv w1
          have d1 : decide (s < 0) = false := decide_eq_false (by omega)
          have d2 : decide (8 ≤ s) = false := decide_eq_false (by omega)
          have d3 : decide (t < 0) = false := decide_eq_false (by omega)
          have d4 : decide (8 ≤ t) = false := decide_eq_false (by omega)
          have e1 : (s == t) = false := by simpa using h3
          have g3 : decide ((0 : Int) < j) = false := decide_eq_false (by omega)
          have g3' : decide (0 < j) = false := decide_eq_false (by omega)
          clear kV hv ho hj0
          go_wp2_with fail
          (go_at_call 98; refine (ref53_place _ _ _ _ _).mono ?_; rintro e w3 ⟨rfl, hb3⟩; obtain ⟨hc3, hf3⟩ := bcell hb3; have hs3 := hb3.size; (try simp only [World.size_alloc, World.size_setCell, World.size_drew] at hc3 hf3); (try simp at hs3))
          go_wp2_with fail
          (go_at_call 97; refine (kX _).mono ?_; rintro e w4 ⟨rfl, hb4⟩; obtain ⟨hc4, hf4⟩ := bcell hb4; have hs4 := hb4.size; (try simp only [World.size_alloc, World.size_setCell, World.size_drew] at hc4 hf4); (try simp at hs4))
          go_wp2_with fail
          (refine wp_region_ext_lit (by kernel_rfl) (by kernel_rfl) ?_; (repeat (go_big_quiet_step (fail))); refine wpQuiet_nil ?_; intro _ hw'; obtain ⟨z1, hw''⟩ := hw'; subst hw''; have hs1 := z1.size; obtain ⟨hc1, hf1⟩ := bcell z1.below; (try simp only [World.size_alloc, World.size_setCell, World.size_drew] at hc1 hf1); (try simp at hs1))
          go_wp2
          go_roundw
          case rel => exact ⟨j + 1, by omega, by go_num, (by (repeat' (first | exact Below.refl _ _ | assumption | (refine Below.alloc ?_ ?_ _) | (refine Below.setCell ?_ ?_ _) | (refine Below.drew ?_) | (refine below_drewN ?_ _) | (refine below_after (Ext.below _) ?_ ?_) | (refine below_after (by assumption) ?_ ?_) | (simp; done) | omega | (simp; omega)))), okG_step hno.out HO.out⟩
          case measure => simp [intOf]; omega
        · have kX := fun w1 => kV _ hv w1
          have d1 : decide (s < 0) = false := decide_eq_false (by omega)
          have d2 : decide (8 ≤ s) = false := decide_eq_false (by omega)
          have d3 : decide (t < 0) = false := decide_eq_false (by omega)
          have d4 : decide (8 ≤ t) = false := decide_eq_false (by omega)
          have e1 : (s == t) = false := by simpa using h3
          have g3 : decide ((0 : Int) < j) = true := decide_eq_true (by omega)
          have g3' : decide (0 < j) = true := decide_eq_true (by omega)
          obtain ⟨a', b', c2, d2', bo', o', hp', he, hbl', g5, g6, g7, g8⟩ := hR.chg (i := j - 1) (by omega)
          obtain ⟨rfl, rfl⟩ : bo = bo' ∧ o = o' := by injection he with he; injection he with e1 e2; exact ⟨e1, e2⟩
          obtain ⟨rfl, rfl, rfl, rfl⟩ : a = a' ∧ b = b' ∧ c' = c2 ∧ d = d2' := by have := hp'.out; rw [hp] at this; simpa using this
          have jn : ((j : Int) - 1).toNat = j - 1 := by omega
          have j0 : (0 : Int) ≤ (j : Int) - 1 := by omega
          have wk : IntKind.i64.wrap ((j : Int) - 1) = (j : Int) - 1 := IntWalk.i64_in _ (by omega)
          clear kV he hp hp' hv
          cases hq : befP a b x y with
          | false =>
            have HB := Lib.hid (rightG_bad hR.len hlt (ho.trans hq))
            have hcm : decide (0 ≤ cmpP a b x y) = true := ord_bef hq
            clear ho hq
            go_wp2_with fail
            (go_at_call 98; refine (ref53_place _ _ _ _ _).mono ?_; rintro e w3 ⟨rfl, hb3⟩; obtain ⟨hc3, hf3⟩ := bcell hb3; have hs3 := hb3.size; (try simp only [World.size_alloc, World.size_setCell, World.size_drew] at hc3 hf3); (try simp at hs3))
            go_wp2_with fail
            (go_at_call 97; refine (kX _).mono ?_; rintro e w4 ⟨rfl, hb4⟩; obtain ⟨hc4, hf4⟩ := bcell hb4; have hs4 := hb4.size; (try simp only [World.size_alloc, World.size_setCell, World.size_drew] at hc4 hf4); (try simp at hs4))
            go_wp2_with fail
            (refine wp_region_ext_lit (by kernel_rfl) (by kernel_rfl) ?_; (repeat (go_big_quiet_step (first | (go_at_call 98; exact calls_ext (ref53_place _ _ _ _ _)) | (go_at_call 99; exact calls_ext (ref_CompareN _ _ _ _ _))))); refine wpQuiet_nil ?_; intro _ hw'; obtain ⟨z1, hw''⟩ := hw'; subst hw''; have hs1 := z1.size; obtain ⟨hc1, hf1⟩ := bcell z1.below; (try simp only [World.size_alloc, World.size_setCell, World.size_drew] at hc1 hf1); (try simp at hs1))
            go_wp2
            go_ret
            exact ⟨ret_bool HB.out.symm, by (repeat' (first | exact Below.refl _ _ | assumption | (refine Below.alloc ?_ ?_ _) | (refine Below.setCell ?_ ?_ _) | (refine Below.drew ?_) | (refine below_drewN ?_ _) | (refine below_after (Ext.below _) ?_ ?_) | (refine below_after (by assumption) ?_ ?_) | (simp; done) | omega | (simp; omega)))⟩
          | true =>
            have HO := Lib.hid (ho.trans hq)
            have hcm : decide (0 ≤ cmpP a b x y) = false := ord_bef hq
            clear ho hq
            go_wp2_with fail
            (go_at_call 98; refine (ref53_place _ _ _ _ _).mono ?_; rintro e w3 ⟨rfl, hb3⟩; obtain ⟨hc3, hf3⟩ := bcell hb3; have hs3 := hb3.size; (try simp only [World.size_alloc, World.size_setCell, World.size_drew] at hc3 hf3); (try simp at hs3))
            go_wp2_with fail
            (go_at_call 97; refine (kX _).mono ?_; rintro e w4 ⟨rfl, hb4⟩; obtain ⟨hc4, hf4⟩ := bcell hb4; have hs4 := hb4.size; (try simp only [World.size_alloc, World.size_setCell, World.size_drew] at hc4 hf4); (try simp at hs4))
            go_wp2_with fail
            (refine wp_region_ext_lit (by kernel_rfl) (by kernel_rfl) ?_; (repeat (go_big_quiet_step (first | (go_at_call 98; exact calls_ext (ref53_place _ _ _ _ _)) | (go_at_call 99; exact calls_ext (ref_CompareN _ _ _ _ _))))); refine wpQuiet_nil ?_; intro _ hw'; obtain ⟨z1, hw''⟩ := hw'; subst hw''; have hs1 := z1.size; obtain ⟨hc1, hf1⟩ := bcell z1.below; (try simp only [World.size_alloc, World.size_setCell, World.size_drew] at hc1 hf1); (try simp at hs1))
            go_wp2
            go_roundw
            case rel => exact ⟨j + 1, by omega, by go_num, (by (repeat' (first | exact Below.refl _ _ | assumption | (refine Below.alloc ?_ ?_ _) | (refine Below.setCell ?_ ?_ _) | (refine Below.drew ?_) | (refine below_drewN ?_ _) | (refine below_after (Ext.below _) ?_ ?_) | (refine below_after (by assumption) ?_ ?_) | (simp; done) | omega | (simp; omega)))), okG_step hno.out HO.out⟩
            case measure => simp [intOf]; omega
      · obtain rfl : j = n := by omega
        have dj : decide ((j : Int) < j) = false := decide_eq_false (by omega)
        have dj' : decide (j < j) = false := decide_eq_false (by omega)
        have HT := Lib.hid (rightG_all hR.len h5 hno.out)
        go_wp2
        go_ret
        exact ⟨ret_bool HT.out.symm, by (repeat' (first | exact Below.refl _ _ | assumption | (refine Below.alloc ?_ ?_ _) | (refine Below.setCell ?_ ?_ _) | (refine Below.drew ?_) | (refine below_drewN ?_ _) | (refine below_after (Ext.below _) ?_ ?_) | (refine below_after (by assumption) ?_ ?_) | (simp; done) | omega | (simp; omega)))⟩
end Go.Proofs.YtfdihjjnlmhibaaGreat
end
