/- Sorting patterns by their first cells. -/
import Derived.Test.YtenckggfgbkfnaaIsl4
import Derived.Shelf.SlSortCmp.Pdq1
import Derived.Shelf.SlSortCmp.NoneTotal
namespace Go.Proofs.Ytenckggfgbkfnaa
open Go Go.RowKit Go.Shelf Go.Sort
set_option linter.unusedSimpArgs false
set_option linter.unusedVariables false
set_option maxRecDepth 100000
attribute [local go_sem ↓ high] eq_cl neq_cl eq_pt neq_pt
def Try.pdqPa_ren : Go.Shelf.Ren := ⟨fun | 14 => 43 | 20 => 58 | 21 => 59 | 22 => 60 | 23 => 61 | 24 => 62 | 25 => 63 | 26 => 64 | 27 => 65 | 46 => 71 | 47 => 67 | 48 => 68 | 49 => 72 | 50 => 73 | 15 => 37 | 57 => 75 | 28 => 55 | 29 => 56 | n => n, fun | 24 => 23 | 22 => 25 | 3 => 3 | 25 => 61 | 4 => 4 | 0 => 0 | 46 => 80 | 45 => 79 | 50 => 47 | 66 => 95 | 39 => 69 | 55 => 88 | 70 => 99 | 76 => 103 | 77 => 104 | 53 => 86 | 5 => 5 | 9 => 9 | n => n, fun | n => n⟩
theorem Try.pdqPa : Go.Proofs.SlLaysF.n14 Try.prog Try.pdqPa_ren := {
  mixed := by kernel_rfl
  f14 := ⟨Try.f43.name, by decide, Try.func43.trans (congrArg some (by kernel_rfl))⟩
  f15 := Try.func37.trans (congrArg some (by kernel_rfl))
  f20 := ⟨Try.f58.name, by decide, Try.func58.trans (congrArg some (by kernel_rfl))⟩
  f21 := ⟨Try.f59.name, by decide, Try.func59.trans (congrArg some (by kernel_rfl))⟩
  f22 := ⟨Try.f60.name, by decide, Try.func60.trans (congrArg some (by kernel_rfl))⟩
  f23 := ⟨Try.f61.name, by decide, Try.func61.trans (congrArg some (by kernel_rfl))⟩
  f24 := ⟨Try.f62.name, by decide, Try.func62.trans (congrArg some (by kernel_rfl))⟩
  f25 := ⟨Try.f63.name, by decide, Try.func63.trans (congrArg some (by kernel_rfl))⟩
  f26 := ⟨Try.f64.name, by decide, Try.func64.trans (congrArg some (by kernel_rfl))⟩
  f27 := ⟨Try.f65.name, by decide, Try.func65.trans (congrArg some (by kernel_rfl))⟩
  f28 := Try.func55.trans (congrArg some (by kernel_rfl))
  f29 := Try.func56.trans (congrArg some (by kernel_rfl))
  f46 := ⟨Try.f71.name, by decide, Try.func71.trans (congrArg some (by kernel_rfl))⟩
  f47 := Try.func67.trans (congrArg some (by kernel_rfl))
  f48 := Try.func68.trans (congrArg some (by kernel_rfl))
  f49 := ⟨Try.f72.name, by decide, Try.func72.trans (congrArg some (by kernel_rfl))⟩
  f50 := ⟨Try.f73.name, by decide, Try.func73.trans (congrArg some (by kernel_rfl))⟩
  f57 := ⟨Try.f75.name, by decide, Try.func75.trans (congrArg some (by kernel_rfl))⟩
  t0 := Try.underlying0
  a0 := Try.isAgg0
  z0 := Try.sizeOf0
  v0 := Try.zeroValue0
  t3 := Try.underlying3
  a3 := Try.isAgg3
  z3 := Try.sizeOf3
  v3 := Try.zeroValue3
  t4 := Try.underlying4
  a4 := Try.isAgg4
  z4 := Try.sizeOf4
  v4 := Try.zeroValue4
  t5 := Try.underlying5
  a5 := Try.isAgg5
  z5 := Try.sizeOf5
  v5 := Try.zeroValue5
  t9 := Try.underlying9
  a9 := Try.isAgg9
  z9 := Try.sizeOf9
  v9 := Try.zeroValue9
  t22 := Try.underlying25
  a22 := Try.isAgg25
  z22 := Try.sizeOf25
  v22 := Try.zeroValue25
  a24 := Try.isAgg23
  z24 := Try.sizeOf23
  t25 := Try.underlying61
  a25 := Try.isAgg61
  z25 := Try.sizeOf61
  v25 := Try.zeroValue61
  t39 := Try.underlying69
  a39 := Try.isAgg69
  z39 := Try.sizeOf69
  v39 := Try.zeroValue69
  t45 := Try.underlying79
  a45 := Try.isAgg79
  z45 := Try.sizeOf79
  v45 := Try.zeroValue79
  t46 := Try.underlying80
  a46 := Try.isAgg80
  z46 := Try.sizeOf80
  v46 := Try.zeroValue80
  t50 := Try.underlying47
  a50 := Try.isAgg47
  z50 := Try.sizeOf47
  v50 := Try.zeroValue47
  t53 := Try.underlying86
  a53 := Try.isAgg86
  z53 := Try.sizeOf86
  v53 := Try.zeroValue86
  t55 := Try.underlying88
  a55 := Try.isAgg88
  z55 := Try.sizeOf88
  v55 := Try.zeroValue88
  t66 := Try.underlying95
  a66 := Try.isAgg95
  z66 := Try.sizeOf95
  v66 := Try.zeroValue95
  t70 := Try.underlying99
  a70 := Try.isAgg99
  z70 := Try.sizeOf99
  v70 := Try.zeroValue99
  t76 := Try.underlying103
  a76 := Try.isAgg103
  z76 := Try.sizeOf103
  v76 := Try.zeroValue103
  t77 := Try.underlying104
  a77 := Try.isAgg104
  z77 := Try.sizeOf104
  v77 := Try.zeroValue104 }
theorem isl_place_sortG (B : Nat) (A : Option Addr) (n c : Nat) (l : List (Int × Int × Int)) (w : World) (hown : Own encC 3 39 B w A n c l) (hB : B ≤ w.heap.size) (hn : n ≤ 1000000) :
    Calls Try.prog 20 #[.slice A n c, .func (.func 21) #[] #[]] w fun e w' => e = .returned (.tuple #[]) ∧ ∃ l', Own encC 3 39 B w' A n c l' ∧ l'.Perm l ∧ WC l' ∧ Below B w w' ∧ w.grownBy w' (Value.slice A n c).ownBlock := by
  have eg : ∀ args w, (callFunc 21 args).run Try.prog w = .ok (.enter 21 args) w := enters_of Try.func21 (by kernel_rfl) rfl
  refine (sortFunc_ceG 21 cmpO swo_cmpO eg (fun x y W => isl_placeG x.1 x.2.1 x.2.2 y.1 y.2.1 y.2.2 W) B A n c l w hown hB hn).mono ?_
  rintro e w' ⟨rfl, l', h1, h2, h3, h4, h5⟩
  exact ⟨rfl, l', h1, h2, h3.imp fun {a b} h => by rw [lt_cmpO] at h; exact h, h4, h5⟩
/-- A pattern of at least one cell that lies outside a block. -/
structure PEl (w : World) (blk B0 : Nat) where
  h : Option Addr × Nat × Nat
  l : List (Int × Int × Int)
  rel : (ekB B0).rel w h l
  ne : l ≠ []
  off : ∀ q ∈ blkH h, q ≠ blk
def PEl.v {w : World} {blk B0 : Nat} (p : PEl w blk B0) : Value := .slice p.h.1 p.h.2.1 p.h.2.2
theorem PEl.first {w : World} {blk B0 : Nat} (p : PEl w blk B0) : ∃ b o n c x y s, p.v = .slice (some ⟨b, o, none⟩) n c ∧ 0 < n ∧ b ≠ blk ∧ b < w.heap.size ∧ p.l.headD (0, 0, 0) = (x, y, s) ∧ w.cell? ⟨b, o, none⟩ = some (.int .i64 x) ∧ w.cell? ⟨b, o + 1, none⟩ = some (.int .i64 y) ∧ w.cell? ⟨b, o + 2, none⟩ = some (.int .i64 s) := by
  obtain ⟨h, l, ⟨⟨hR, _⟩, _⟩, ne, off⟩ := p
  have hn : 0 < h.2.1 := by rw [← hR.len]; exact List.length_pos_iff.2 ne
  obtain ⟨x, y, s, b, o, hx, e, hb, c0, c1, c2⟩ := hR.cell hn
  refine ⟨b, o, h.2.1, h.2.2, x, y, s, ?_, hn, ?_, hb, ?_, by simpa using c0, by simpa using c1, by simpa using c2⟩
  · show Value.slice h.1 h.2.1 h.2.2 = _
    rw [e]
  · exact off b (by unfold blkH; rw [if_neg (by omega), e]; simp)
  · have := hx.out
    cases l with
    | nil => exact absurd rfl ne
    | cons a r => simpa using this
theorem isl_Merge1 (b b' o o' n m c d : Nat) (x y s x' y' s' : Int) (w : World) (hn : 0 < n) (hm : 0 < m) (hb : b < w.heap.size) (hb' : b' < w.heap.size)
    (h0 : w.cell? ⟨b, o, none⟩ = some (.int .i64 x)) (h1 : w.cell? ⟨b, o + 1, none⟩ = some (.int .i64 y)) (h2 : w.cell? ⟨b, o + 2, none⟩ = some (.int .i64 s))
    (k0 : w.cell? ⟨b', o', none⟩ = some (.int .i64 x')) (k1 : w.cell? ⟨b', o' + 1, none⟩ = some (.int .i64 y')) (k2 : w.cell? ⟨b', o' + 2, none⟩ = some (.int .i64 s')) :
    Calls Try.prog 29 #[.slice (some ⟨b, o, none⟩) n c, .slice (some ⟨b', o', none⟩) m d] w fun e w' => e = .returned (.int .i64 (cmpP x y x' y')) ∧ ∃ q os, w' = grow (w.drewN q) os := by
  have mixed : Try.prog.follows .mixedOrders = true := by kernel_rfl
  have a0 := fun n os => cell_grown (w := w) (a := ⟨b, o, none⟩) (v := .int .i64 x) hb h0 n os
  have a1 := fun n os => cell_grown (w := w) (a := ⟨b, o + 1, none⟩) (v := .int .i64 y) hb h1 n os
  have a2 := fun n os => cell_grown (w := w) (a := ⟨b, o + 2, none⟩) (v := .int .i64 s) hb h2 n os
  have b0 := fun n os => cell_grown (w := w) (a := ⟨b', o', none⟩) (v := .int .i64 x') hb' k0 n os
  have b1 := fun n os => cell_grown (w := w) (a := ⟨b', o' + 1, none⟩) (v := .int .i64 y') hb' k1 n os
  have b2 := fun n os => cell_grown (w := w) (a := ⟨b', o' + 2, none⟩) (v := .int .i64 s') hb' k2 n os
  go_enter Try.func29, Try.ntmps29
  go_wp2
  go_quiet_grown ((go_at_call 21; exact Calls.grown_of (isl_placeG _ _ _ _ _ _ _)))
  go_wp2
  go_ret
  exact ⟨rfl, nq, osq, rfl⟩
theorem sortWorld_K {α : Type} [Inhabited α] (enc : α → Value) (w : World) (g m : Nat) (d : Array α) (os : Array Obj) : sortWorld enc w g 0 m d os = sortWorldK (fun x => [enc x]) 1 w g 0 m d os := by
  unfold sortWorld sortWorldK putRowK putRow
  congr 1
  have e : ∀ c : Array Value, putCells enc 0 d c = putCells id 0 (flatK (fun x => [enc x]) 1 d) c := by
    intro c
    unfold putCells
    apply Array.ext'
    apply List.ext_getElem?
    intro t
    simp only [Array.getElem?_toList, Array.getElem?_mapIdx, size_flatK, Nat.mul_one]
    cases hc : c[t]? with
    | none => rfl
    | some x =>
      simp only [Option.map_some]
      by_cases ht : 0 ≤ t ∧ t < 0 + d.size
      · rw [if_pos ht, if_pos ht, get_flatK _ _ _ _ (by omega)]
        simp [Nat.mod_one]
      · rw [if_neg ht, if_neg ht]
  rw [show putCells enc 0 d = putCells id 0 (flatK (fun x => [enc x]) 1 d) from funext e]
theorem sort_cell {α : Type} [Inhabited α] {enc : α → Value} {w : World} {g m b o : Nat} {d : Array α} {os : Array Obj} (hb : b < w.heap.size) (hne : b ≠ g) : (sortWorld enc w g 0 m d os).cell? ⟨b, o, none⟩ = w.cell? ⟨b, o, none⟩ := by
  rw [sortWorld_K]
  exact World.cell?_of_block ((grown_sorted d m os).block b hb (fun e => by injection e with e; exact hne e))
theorem sort_size {α : Type} [Inhabited α] {enc : α → Value} {w : World} {g m : Nat} {d : Array α} {os : Array Obj} : w.heap.size ≤ (sortWorld enc w g 0 m d os).heap.size := by
  rw [sortWorld_K]; exact (grown_sorted d m os).size
def cmpE {w : World} {blk B0 : Nat} (p q : PEl w blk B0) : Int := cmpO (p.l.headD (0, 0, 0)) (q.l.headD (0, 0, 0))
theorem lt_cmpE {w : World} {blk B0 : Nat} (p q : PEl w blk B0) : ltOf cmpE p q = hdBef p.l q.l := lt_cmpO _ _
theorem swo_cmpE (w : World) (blk B0 : Nat) : SWO (ltOf (cmpE (w := w) (blk := blk) (B0 := B0))) := by
  have e2 : ltOf (cmpE (w := w) (blk := blk) (B0 := B0)) = fun p q => hdBef p.l q.l := by funext p q; exact lt_cmpE p q
  rw [e2]
  refine ⟨fun p => cBef_irr _, fun x y z => cBef_tr, fun x y z h1 h2 => ?_⟩
  unfold hdBef cBef befP at *; simp only [decide_eq_false_iff_not] at *; omega
theorem lays_Merge1 {w : World} {g B0 n : Nat} [Inhabited (PEl w g B0)] : CmpLays1 Try.prog 29 #[] (PEl.v (w := w) (blk := g) (B0 := B0)) cmpE g 0 n w := by
  intro m os dk _ p q
  obtain ⟨b, o, n, c, x, y, s, hv, hn, hne, hb, hh, c0, c1, c2⟩ := p.first
  obtain ⟨b', o', n', c', x', y', s', hv', hn', hne', hb', hh', c0', c1', c2'⟩ := q.first
  have hz := sort_size (enc := PEl.v) (w := w) (g := g) (m := m) (d := dk) (os := os)
  rw [hv, hv']
  refine (isl_Merge1 b b' o o' n n' c c' x y s x' y' s' _ hn hn' (by omega) (by omega) (by rw [sort_cell hb hne]; exact c0) (by rw [sort_cell hb hne]; exact c1) (by rw [sort_cell hb hne]; exact c2) (by rw [sort_cell hb' hne']; exact c0') (by rw [sort_cell hb' hne']; exact c1') (by rw [sort_cell hb' hne']; exact c2')).mono ?_
  rintro e w' ⟨rfl, h⟩
  refine ⟨?_, h⟩
  unfold cmpE cmpO
  rw [hh, hh']
theorem pels {w : World} {g B0 : Nat} : ∀ (us : List (Option Addr × Nat × Nat)) (L : List (List (Int × Int × Int))), us.length = L.length → (∀ (i : Nat) a b, us[i]? = some a → L[i]? = some b → (ekB B0).rel w a b) → (∀ a ∈ us, ∀ q ∈ blkH a, q ≠ g) → (∀ l ∈ L, l ≠ []) → ∃ ps : List (PEl w g B0), ps.map PEl.h = us ∧ ps.map PEl.l = L
  | [], [], _, _, _, _ => ⟨[], rfl, rfl⟩
  | [], _ :: _, h, _, _, _ => by simp at h
  | _ :: _, [], h, _, _, _ => by simp at h
  | u :: us, l :: L, h, h1, h2, h3 => by
    obtain ⟨ps, e1, e2⟩ := pels us L (by simpa using h) (fun i a b ha hb => h1 (i + 1) a b (by simpa using ha) (by simpa using hb)) (fun a ha => h2 a (by simp [ha])) (fun l hl => h3 l (by simp [hl]))
    exact ⟨⟨u, l, h1 0 u l rfl rfl, h3 l (by simp), h2 u (by simp)⟩ :: ps, by simp [e1], by simp [e2]⟩
theorem pel_flat {w : World} {g B0 : Nat} (ps : List (PEl w g B0)) : ps.flatMap (fun p => [p.v]) = (ps.map PEl.h).flatMap encH := by
  induction ps with
  | nil => rfl
  | cons p ps ih => rw [List.flatMap_cons, ih, List.map_cons, List.flatMap_cons]; rfl
set_option maxHeartbeats 1000000 in
theorem isl_sort_out (B0 B : Nat) (A : Option Addr) (n c : Nat) (L : List (List (Int × Int × Int))) (w : World) (hX : OwnX (ekB B0) 23 B w A n c L) (hne : ∀ l ∈ L, l ≠ []) (hB : B ≤ w.heap.size) (hn : n ≤ 1000000) :
    Calls Try.prog 28 #[.slice A n c, .func (.func 29) #[] #[]] w fun e w' => e = .returned (.tuple #[]) ∧ ∃ L', OwnX (ekB B0) 23 B w' A n c L' ∧ L'.Perm L ∧ (L'.Pairwise fun a b => hdBef b a = false) ∧ Below B w w' := by
  have eg : ∀ args w, (callFunc 29 args).run Try.prog w = .ok (.enter 29 args) w := enters_of Try.func29 (by kernel_rfl) rfl
  have hlen : Calls Try.prog 37 #[.int .u64 (n : Int)] w fun e w' => e = .returned (.int .i64 (Lib.bitLen n : Nat)) ∧ w' = w := by
    have h := Any.bits_Len Try.bitsL (n : Int) w (by omega) (by omega)
    rwa [Int.toNat_natCast] at h
  have hcv : IntKind.u64.wrap (n : Int) = n := by simp [IntKind.wrap, IntKind.bits, IntKind.signed]; omega
  obtain ⟨us, h1, h2, h3⟩ := hX
  rcases h1.row.2 with ⟨h0, hz⟩ | ⟨gb, cap, cur, hv, hg, hrest⟩
  · injection h0 with e1 e2 e3
    subst e1 e2 e3
    obtain rfl : us = [] := List.length_eq_zero_iff.1 h1.len
    obtain rfl : L = [] := List.length_eq_zero_iff.1 h2.1.symm
    have h := AnyF.pdqsortCmpFunc_none (P := Try.prog) { Try.pdqPa with } none 0 (Lib.bitLen 0 : Nat) (.func (.func 29) #[] #[]) w
    change Calls Try.prog 43 _ _ _ at h
    generalize ((Lib.bitLen 0 : Nat) : Int) = lim at h hlen
    go_enter Try.func28, Try.ntmps28
    go_wp2_with (first | (go_at_call 37; refine hlen.mono ?_; rintro e w' ⟨rfl, rfl⟩) | (go_at_call 43; refine h.mono ?_; rintro e w' ⟨rfl, rfl⟩))
    go_end0
    exact ⟨rfl, [], OwnX.nil_, List.Perm.refl _, List.Pairwise.nil, Go.RowKit.Below.refl _ _⟩
  · injection hv with e1 _ e3
    subst e1 e3
    obtain ⟨hbg, hlt⟩ := own_lt h1
    obtain ⟨ps, q1, q2⟩ := pels (g := gb) us L h2.1 h2.2 (fun a ha q hq e => h3 a ha q hq (by rw [e]; rfl)) hne
    have hpl : ps.length = n := by rw [← h1.len, ← q1]; simp
    have hO : Own (fun p : PEl w gb B0 => [p.v]) 1 23 B w (some ⟨gb, 0, none⟩) n c ps := ⟨by rw [pel_flat, q1]; exact h1.row, hpl⟩
    rcases Nat.eq_zero_or_pos n with h0 | hpos
    · subst h0
      obtain rfl : us = [] := List.length_eq_zero_iff.1 h1.len
      obtain rfl : L = [] := List.length_eq_zero_iff.1 h2.1.symm
      have h := AnyF.pdqsortCmpFunc_none (P := Try.prog) { Try.pdqPa with } (some ⟨gb, 0, none⟩) c (Lib.bitLen 0 : Nat) (.func (.func 29) #[] #[]) w
      change Calls Try.prog 43 _ _ _ at h
      generalize ((Lib.bitLen 0 : Nat) : Int) = lim at h hlen
      go_enter Try.func28, Try.ntmps28
      go_wp2_with (first | (go_at_call 37; refine hlen.mono ?_; rintro e w' ⟨rfl, rfl⟩) | (go_at_call 43; refine h.mono ?_; rintro e w' ⟨rfl, rfl⟩))
      go_end0
      exact ⟨rfl, [], ⟨[], h1, h2, h3⟩, List.Perm.refl _, List.Pairwise.nil, Go.RowKit.Below.refl _ _⟩
    · haveI : Inhabited (PEl w gb B0) := ⟨ps[0]'(by omega)⟩
      have hk : ∀ p : PEl w gb B0, ((fun p : PEl w gb B0 => [p.v]) p).length = 1 := fun _ => rfl
      have hl : ps.toArray.size = n := by simpa using hpl
      have hlim : Lib.bitLen ps.toArray.size < 4611686018427387904 := Nat.lt_of_le_of_lt (Lib.bitLen_le ps.toArray.size 62 (by omega) (by omega)) (by omega)
      have hH : Holds (PEl.v (w := w) (blk := gb) (B0 := B0)) w gb 0 ps.toArray := by
        intro j hj
        have hKj := own_holdsK hk (by omega) hO j (by simpa using hj)
        rw [get_flatK _ _ _ _ (by simpa using hj)] at hKj
        simpa [Nat.mod_one] using hKj
      have h := Any.pdqsortCmpFunc_all Try.pdqPa (PEl.v (w := w) (blk := gb) (B0 := B0)) cmpE 29 #[] (swo_cmpE w gb B0) gb 0 c ps.toArray w eg
        lays_Merge1 ⟨fun _ => rfl, hH, hlt⟩ (ps.toArray.size + 1) 0 ps.toArray.size (Lib.bitLen ps.toArray.size) ps.toArray w (by omega) rfl (SW.start hH) (Nat.zero_le _) (Nat.le_refl _) (by omega) hlim (Or.inl rfl)
      change Calls Try.prog 43 _ _ _ at h
      have hsorts := pdq_sorts (ltOf (cmpE (w := w) (blk := gb) (B0 := B0))) (swo_cmpE w gb B0) ps.toArray 0 ps.toArray.size (Lib.bitLen ps.toArray.size) true true (Nat.zero_le _) (Nat.le_refl _) (Or.inl rfl)
      generalize pdq (ltOf (cmpE (w := w) (blk := gb) (B0 := B0))) ps.toArray 0 ps.toArray.size (Lib.bitLen ps.toArray.size) true true = d' at h hsorts
      obtain ⟨l', rfl, hperm, hpw⟩ := sorted_list hsorts.1 hsorts.2
      have hl' : l'.length = n := by rw [hperm.length_eq, hpl]
      rw [hl] at h
      generalize ((Lib.bitLen n : Nat) : Int) = lim at h hlen
      have HO := Lib.hid hO
      have HL := Lib.hid hl'
      have HP := Lib.hid hpos
      clear hO hH hl hlim hsorts hl' hpl hpos
      go_enter Try.func28, Try.ntmps28
      go_wp2_with (first | (go_at_call 37; refine hlen.mono ?_; rintro e w' ⟨rfl, rfl⟩) | (go_at_call 43; refine h.mono ?_; rintro e w' ⟨rfl, m, os, rfl⟩))
      go_end0
      rw [sortWorld_K]
      have hs := own_sorted hk (by omega) HO.out HL.out m os
      have hgr := grown_sorted (enc := fun p : PEl w' gb B0 => [p.v]) (k := 1) (w := w') (g := gb) l'.toArray m os
      refine ⟨rfl, l'.map PEl.l, ⟨l'.map PEl.h, ⟨?_, by simp [HL.out]⟩, ⟨by simp, fun i a b ha hb => ?_⟩, fun a ha q hq e => ?_⟩, ?_, ?_, below_sorted l'.toArray hbg hlt m os⟩
      · have hrow := hs.row
        rw [pel_flat] at hrow
        exact hrow
      · rw [List.getElem?_map] at ha hb
        cases hp : l'[i]? with
        | none => rw [hp] at ha; cases ha
        | some p =>
          rw [hp] at ha hb
          simp only [Option.map_some, Option.some.injEq] at ha hb
          subst ha hb
          exact (ekB B0).keep p.rel hgr fun q hq e => p.off q hq (by injection e)
      · obtain ⟨p, _, rfl⟩ := List.mem_map.1 ha
        exact p.off q hq (by injection e)
      · rw [← q2]; exact hperm.map _
      · rw [List.pairwise_map]
        exact hpw.imp fun {a b} h => by rw [lt_cmpE] at h; exact h
end Go.Proofs.Ytenckggfgbkfnaa
