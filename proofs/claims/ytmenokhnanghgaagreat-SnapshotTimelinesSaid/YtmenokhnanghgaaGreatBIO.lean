/- The contracts of bitio's Reader: one bit, a number, what is left. The state of bitio's Writer in memory, and the contract of put. The contract of bitio's reading of a gamma code; Signed, End, NewReader. The contracts of bitio's Reader: Signed, End, NewReader. The contracts of bitio's Writer: Bits, Gamma, Signed, Bytes. The contract of bitio's Writer: Signed. -/
import Derived.Test.YtmenokhnanghgaaGreatSNM
import Derived.Test.YtmenokhnanghgaaGreatCEL
import Derived.Shelf.Strconv.Itoa0
import Derived.Lib.SliceRun
import Derived.Test.YtmenokhnanghgaaGreatSNO
import Derived.Lib.ItoaNum
import Derived.Ground.NamesProg
set_option linter.unusedSimpArgs false
set_option linter.unusedVariables false
section
namespace Go.Proofs.YtmenokhnanghgaaGreat
open Go Go.RowKit
set_option maxRecDepth 100000
/-- The bytes that a reader reads, and its place. -/
structure RdD (w : World) (bi : Nat) (A : Option Addr) (n c : Nat) (l : List Int) (p : Nat) : Prop where
  box : BxW w bi [.slice A n c, .int .i64 (p : Int)]
  rd : Rd encU 1 w A n l
  by_ : ByL l
  le : n ≤ 65536
  off : 0 < n → ∀ b o, A = some ⟨b, o, none⟩ → b ≠ bi
theorem RdD.of {w w' : World} {bi : Nat} {A : Option Addr} {n c p : Nat} {l : List Int} (h : RdD w bi A n c l p) (hb : Below w.heap.size w w') : RdD w' bi A n c l p := ⟨h.box.of hb, h.rd.of hb, h.by_, h.le, h.off⟩
theorem RdD.len {w : World} {bi : Nat} {A : Option Addr} {n c p : Nat} {l : List Int} (h : RdD w bi A n c l p) : (unB l).length = 8 * n := by rw [unB_len, h.rd.len]
theorem quo8 (i : Nat) : (i : Int).tdiv 8 = ((i / 8 : Nat) : Int) := rfl
theorem rem8 (i : Nat) : (i : Int).tmod 8 = ((i % 8 : Nat) : Int) := rfl
set_option maxHeartbeats 4000000 in
theorem bio_bit (bi : Nat) (A : Option Addr) (n c p i : Nat) (l : List Int) (b : Bool) (w : World) (h : RdD w bi A n c l p) (hi : (unB l)[i]? = some b) :
    Calls Tryz.prog 125 #[.pointer (some ⟨bi, 0, none⟩), .int .i64 (i : Int)] w fun e w' => e = .returned (.int .u64 ((b.toNat : Nat) : Int)) ∧ Below w.heap.size w w' := by
  have hlt : i < 8 * n := by
    rw [← h.len]; exact (List.getElem?_eq_some_iff.1 hi).1
  have hle := h.le
  obtain ⟨x, bo, o, hx, rfl, hbo, hc⟩ := h.rd.byte (i := i / 8) (by omega)
  obtain ⟨hbl, b0, b1, -, -⟩ := h.box.open2
  have hb := h.by_ x (List.mem_of_getElem? hx.out)
  have hv := unB_get l i x hx.out
  rw [hi] at hv
  injection hv with hv
  have e0 := quo8 i
  have e1 : IntKind.i64.wrap ((i / 8 : Nat) : Int) = ((i / 8 : Nat) : Int) := IntWalk.i64_in _ (by omega)
  have e2 := rem8 i
  have e3 : IntKind.i64.wrap (7 - ((i % 8 : Nat) : Int)) = ((7 - i % 8 : Nat) : Int) := by rw [IntWalk.i64_in _ (by omega)]; omega
  obtain ⟨v, rfl⟩ : ∃ v : Nat, x = (v : Int) := ⟨x.toNat, by omega⟩
  have e4 := and_one v (7 - i % 8) (by omega)
  rw [Int.toNat_natCast] at hv
  rw [← hv] at e4
  clear hv hi h hx
  go_enter Tryz.func125, Tryz.ntmps125
  go_wp2_with fail
  go_ret
  exact ⟨rfl, by (repeat' (first | exact Below.refl _ _ | assumption | (refine Below.alloc ?_ ?_ _) | (refine Below.setCell ?_ ?_ _) | (refine Below.drew ?_) | (refine below_drewN ?_ _) | (refine below_after (Ext.below _) ?_ ?_) | (refine below_after (by assumption) ?_ ?_) | (simp; done) | omega | (simp; omega)))⟩
theorem or_bit (v : Nat) (b : Bool) (hv : 2 * v + 1 < 18446744073709551616) : bits .or .u64 ((v : Int) * 2) ((b.toNat : Nat) : Int) = ((2 * v + b.toNat : Nat) : Int) := by
  have hb : b.toNat ≤ 1 := by cases b <;> decide
  have h1 := u64_or_nat (v * 2) b.toNat (by omega) (by omega)
  rw [show ((v * 2 : Nat) : Int) = (v : Int) * 2 by omega] at h1
  rw [h1, nat_join 1 (v * 2) b.toNat (by omega) (by omega)]
  omega
theorem RdD.fr2 {w w' : World} {bi : Nat} {A : Option Addr} {n c p : Nat} {l : List Int} {R : Nat → Prop} (h : RdD w bi A n c l p) (hf : Fr2 R w w') (hr : ¬ R bi) (hA : 0 < n → ∀ b o, A = some ⟨b, o, none⟩ → ¬ R b) : RdD w' bi A n c l p := by
  have hbl := hf.block bi h.box.1 hr
  refine ⟨⟨Nat.lt_of_lt_of_le h.box.1 hf.size, fun i => (World.cell?_of_block hbl).trans (h.box.2.1 i), fun i => (World.frozen?_of_block hbl).trans (h.box.2.2 i)⟩, ⟨h.rd.1, fun hn => ?_⟩, h.by_, h.le, h.off⟩
  obtain ⟨b, o, e, hb, hc⟩ := h.rd.2 hn
  exact ⟨b, o, e, Nat.lt_of_lt_of_le hb hf.size, fun i x hi j u hu => (World.cell?_of_block (hf.block b hb (hA hn b o e))).trans (hc i x hi j u hu)⟩
theorem bits_at {bs : List Bool} {p j : Nat} (h : p + j < bs.length) : ∃ b, bs[p + j]? = some b ∧ (bs.drop p)[j]? = some b := by
  refine ⟨bs[p + j], List.getElem?_eq_getElem h, ?_⟩
  rw [List.getElem?_drop, List.getElem?_eq_getElem h]
theorem numB_small {bs : List Bool} {j : Nat} (h : j < 64) : 2 * numB (bs.take j) + 1 < 18446744073709551616 := by
  have h1 := numB_lt (bs.take j)
  have h2 : 2 ^ (bs.take j).length ≤ 2 ^ 63 := Nat.pow_le_pow_right (by decide) (by rw [List.length_take]; omega)
  omega
set_option maxHeartbeats 4000000 in
theorem bio_number (bi : Nat) (A : Option Addr) (n c p a k : Nat) (l : List Int) (w : World) (h : RdD w bi A n c l p) (hk : k ≤ 64) (hak : a + k ≤ 8 * n) :
    Calls Tryz.prog 118 #[.pointer (some ⟨bi, 0, none⟩), .int .i64 (a : Int), .int .i64 (k : Int)] w fun e w' => e = .returned (.int .u64 ((numB (((unB l).drop a).take k) : Nat) : Int)) ∧ Below w.heap.size w w' := by
  have hle := h.le
  have hlen := Lib.hid h.len
  have hB := Lib.hid h
  clear h
  go_enter Tryz.func118, Tryz.ntmps118
  go_wp2_with fail
  go_loopw [10, 7] (fun i v wr => ∃ j : Nat, i = .int .i64 j ∧ v = .int .u64 ((numB (((unB l).drop a).take j) : Nat) : Int) ∧ j ≤ k ∧ Below w.heap.size w wr) (fun i _ _ => k - (intOf i).toNat)
  case atStart => exact ⟨0, rfl, rfl, by omega, Below.refl _ _⟩
  case round =>
    obtain ⟨j, rfl, rfl, hj, hb⟩ := hrel
    by_cases hlt : j < k
    · have dj : decide ((j : Int) < k) = true := decide_eq_true (by omega)
      have dj' : decide (j < k) = true := decide_eq_true hlt
      obtain ⟨b, hb1, hb2⟩ := bits_at (bs := unB l) (p := a) (j := j) (by rw [hlen.out]; omega)
      have hst := Lib.hid (numB_take hb2)
      have hs := numB_small (bs := (unB l).drop a) (j := j) (by omega)
      have e1 : IntKind.i64.wrap ((a : Int) + (j : Int)) = ((a + j : Nat) : Int) := IntWalk.i64_in _ (by omega)
      have e2 := or_bit (numB (((unB l).drop a).take j)) b hs
      rw [← hst.out] at e2
      have e3 : IntKind.u64.wrap (((numB (((unB l).drop a).take j) : Nat) : Int) * 2) = ((numB (((unB l).drop a).take j) : Nat) : Int) * 2 := by rw [IntKind.wrap_u64]; omega
      obtain ⟨v1, hv1⟩ : ∃ v1, v1 = numB (((unB l).drop a).take (j + 1)) := ⟨_, rfl⟩
      rw [← hv1] at e2
      replace hv1 := Lib.hid hv1
      generalize numB (((unB l).drop a).take j) = v0 at e2 e3 hs
      clear hb2 hst
      have hsz := hb.size
      go_wp2_with fail; go_at_call 125; refine (bio_bit bi A n c p (a + j) l b _ (hB.out.of hb) hb1).mono ?_; rintro e w1 ⟨rfl, hb1⟩; have hs1 := hb1.size; (try simp only [World.size_alloc, World.size_drew, World.size_setCell] at hs1)
      go_wp2_with fail
      go_roundw
      case rel => exact ⟨j + 1, by go_num, by rw [← hv1.out], by omega, by (repeat' (first | exact Below.refl _ _ | assumption | (refine Below.alloc ?_ ?_ _) | (refine Below.setCell ?_ ?_ _) | (refine Below.drew ?_) | (refine below_drewN ?_ _) | (refine below_after (Ext.below _) ?_ ?_) | (refine below_after (by assumption) ?_ ?_) | (simp; done) | omega | (simp; omega)))⟩
      case measure => simp [intOf]; omega
    · obtain rfl : j = k := by omega
      have dj : decide ((j : Int) < j) = false := decide_eq_false (by omega)
      have dj' : decide (j < j) = false := decide_eq_false (by omega)
      go_wp2_with fail
      go_ret
      exact ⟨rfl, hb⟩
set_option maxHeartbeats 4000000 in
theorem bio_Left (bi : Nat) (A : Option Addr) (n c p : Nat) (l : List Int) (w : World) (h : RdD w bi A n c l p) (hp : p ≤ 8 * n) :
    Calls Tryz.prog 117 #[.pointer (some ⟨bi, 0, none⟩)] w fun e w' => e = .returned (.int .i64 ((8 * n - p : Nat) : Int)) ∧ Below w.heap.size w w' := by
  have hle := h.le
  obtain ⟨hbl, b0, b1, -, -⟩ := h.box.open2
  have e1 : IntKind.i64.wrap (8 * (n : Int)) = 8 * (n : Int) := IntWalk.i64_in _ (by omega)
  have e2 : IntKind.i64.wrap (8 * (n : Int) - (p : Int)) = ((8 * n - p : Nat) : Int) := by rw [IntWalk.i64_in _ (by omega)]; omega
  clear h
  go_enter Tryz.func117, Tryz.ntmps117
  go_wp2_with fail
  (refine wp_region_ext_lit (by kernel_rfl) (by kernel_rfl) ?_; (repeat (go_big_quiet_step (fail))); refine wpQuiet_nil ?_; intro _ hw'; obtain ⟨z1, hw''⟩ := hw'; subst hw''; have hs1 := z1.size; obtain ⟨hc1, hf1⟩ := bcell z1.below; (try simp only [World.size_alloc, World.size_setCell, World.size_drew] at hc1 hf1); (try simp at hs1))
  go_wp2_with fail
  go_ret
  exact ⟨by simp_all, by (repeat' (first | exact Below.refl _ _ | assumption | (refine Below.alloc ?_ ?_ _) | (refine Below.setCell ?_ ?_ _) | (refine Below.drew ?_) | (refine below_drewN ?_ _) | (refine below_after (Ext.below _) ?_ ?_) | (refine below_after (by assumption) ?_ ?_) | (simp; done) | omega | (simp; omega)))⟩
theorem RdD.put {w : World} {bi : Nat} {A : Option Addr} {n c p : Nat} {l : List Int} (h : RdD w bi A n c l p) (q : Nat) : RdD (w.setCell ⟨bi, 1, none⟩ (.int .i64 (q : Int))) bi A n c l q := by
  refine ⟨h.box.put 1 _ (by simp), Rd.grown (h := (A, n, c)) h.rd (grownBy_set w bi 1 _) (fun b hb e => ?_), h.by_, h.le, h.off⟩
  injection e with e
  subst e
  unfold blkH at hb
  split at hb
  · cases hb
  · rename_i hne
    obtain ⟨b0, o0, e0, _⟩ := h.rd.2 (Nat.pos_of_ne_zero hne)
    have h1 := h.off (Nat.pos_of_ne_zero hne) b0 o0 e0
    subst e0
    simp at hb
    exact h1 hb.symm
set_option maxHeartbeats 4000000 in
theorem bio_RBits (bi : Nat) (A : Option Addr) (n c p k : Nat) (l : List Int) (w : World) (h : RdD w bi A n c l p) (hp : p ≤ 8 * n) (hk : k ≤ 64) :
    Calls Tryz.prog 99 #[.pointer (some ⟨bi, 0, none⟩), .int .i64 (k : Int)] w fun e w' => e = .returned (.tuple #[.int .u64 (bitsR (unB l) k (p, 0)).1, .int .i64 (bitsR (unB l) k (p, 0)).2.2]) ∧ RdD w' bi A n c l (bitsR (unB l) k (p, 0)).2.1 ∧ Fr2 (fun q => q = bi) w w' := by
  have hle := h.le
  have hlen := h.len
  have hB := Lib.hid h
  have k0 : decide ((k : Int) < 0) = false := decide_eq_false (by omega)
  have k1 : decide (64 < (k : Int)) = false := decide_eq_false (by omega)
  have k2 : decide (64 < k) = false := decide_eq_false (by omega)
  by_cases hl : k ≤ 8 * n - p
  · have es : bitsR (unB l) k (p, 0) = (((numB (((unB l).drop p).take k) : Nat) : Int), p + k, 0) := by
      unfold bitsR; rw [if_pos rfl, if_pos (by rw [hlen]; exact hl)]
    rw [es]
    have d0 : decide (((8 * n - p : Nat) : Int) < (k : Int)) = false := decide_eq_false (by omega)
    have d1 : decide (8 * n - p < k) = false := decide_eq_false (by omega)
    have e1 : IntKind.i64.wrap ((p : Int) + (k : Int)) = ((p + k : Nat) : Int) := IntWalk.i64_in _ (by omega)
    obtain ⟨L, hL⟩ : ∃ L : Nat, L = 8 * n - p := ⟨_, rfl⟩
    have kL := fun w1 h1 => bio_Left bi A n c p l w1 h1 hp
    rw [← hL] at kL d0 d1
    have kN := fun w1 h1 => bio_number bi A n c p p k l w1 h1 hk (by omega)
    generalize numB (((unB l).drop p).take k) = v at kN
    clear hL hl hlen h es
    go_enter Tryz.func99, Tryz.ntmps99
    go_wp2_with fail
    go_at_call 117
    refine (kL _ hB.out).mono ?_
    rintro e w1 ⟨rfl, hb1⟩
    have hB1 := Lib.hid (hB.out.of hb1)
    obtain ⟨_, b0, b1, f0, f1⟩ := hB1.out.box.open2
    go_wp2_with fail
    go_at_call 118
    refine (kN _ hB1.out).mono ?_
    rintro e w2 ⟨rfl, hb2⟩
    clear b0 b1 f0 f1
    have hB2 := Lib.hid (hB1.out.of hb2)
    obtain ⟨_, b0, b1, f0, f1⟩ := hB2.out.box.open2
    go_wp2_with fail
    refine bodyPost_ret (v := .tuple #[.int .u64 (v : Int), .int .i64 0]) (by simp [results, Tryz.results99, go_sem, *, ↓IntWalk.iteOmega]) rfl ?_
    exact ⟨rfl, hB2.out.put (p + k), (((Fr2.here w _).of hb1).of hb2).grown (grownBy_set _ _ _ _) (fun q e => by injection e with e; exact .inl e.symm)⟩
  · have es : bitsR (unB l) k (p, 0) = (0, p, 4) := by
      unfold bitsR; rw [if_pos rfl, if_neg (by rw [hlen]; exact hl)]
    rw [es]
    have d0 : decide (((8 * n - p : Nat) : Int) < (k : Int)) = true := decide_eq_true (by omega)
    have d1 : decide (8 * n - p < k) = true := decide_eq_true (by omega)
    obtain ⟨L, hL⟩ : ∃ L : Nat, L = 8 * n - p := ⟨_, rfl⟩
    have kL := fun w1 h1 => bio_Left bi A n c p l w1 h1 hp
    rw [← hL] at kL d0 d1
    clear hL hl hlen h es
    go_enter Tryz.func99, Tryz.ntmps99
    go_wp2_with fail
    go_at_call 117
    refine (kL _ hB.out).mono ?_
    rintro e w1 ⟨rfl, hb1⟩
    have hB1 := Lib.hid (hB.out.of hb1)
    go_wp2_with fail
    refine bodyPost_ret (v := .tuple #[.int .u64 0, .int .i64 4]) (by simp [results, Tryz.results99, go_sem, *, ↓IntWalk.iteOmega]) rfl ?_
    exact ⟨rfl, hB1.out, (Fr2.here w _).of hb1⟩
end Go.Proofs.YtmenokhnanghgaaGreat
end
section
namespace Go.Proofs.YtmenokhnanghgaaGreat
open Go Go.RowKit
set_option maxRecDepth 100000
theorem BxW.open3' {w : World} {b : Nat} {x y z : Value} (h : BxW w b [x, y, z]) : b < w.heap.size ∧ w.cell? ⟨b, 0, none⟩ = some x ∧ w.cell? ⟨b, 1, none⟩ = some y ∧ w.cell? ⟨b, 2, none⟩ = some z ∧ w.frozen? ⟨b, 0, none⟩ = false ∧ w.frozen? ⟨b, 1, none⟩ = false ∧ w.frozen? ⟨b, 2, none⟩ = false := ⟨h.1, h.2.1 0, h.2.1 1, h.2.1 2, h.2.2 0, h.2.2 1, h.2.2 2⟩
/-- A writer's block, and its row. -/
structure WrS (w : World) (bw : Nat) (A : Option Addr) (n c : Nat) (T : List Bool) (e : Int) : Prop where
  box : BxW w bw [.slice A n c, .int .i64 (T.length : Int), .int .i64 e]
  row : Own encU 1 5 (bw + 1) w A n c (pkB T)
  le : T.length ≤ 524288
/-- Where a row lies behind a call: where it lay, or in a new block. -/
structure WrK (w : World) (bw : Nat) (A : Option Addr) (n c : Nat) (w' : World) (A' : Option Addr) (n' c' : Nat) : Prop where
  fr : Fr2 (fun q => q = bw ∨ (Value.slice A n c).ownBlock = some q) w w'
  loc : (Value.slice A' n' c').ownBlock = (Value.slice A n c).ownBlock ∨ ∃ g, (Value.slice A' n' c').ownBlock = some g ∧ w.heap.size ≤ g
section
variable {w w' w'' : World} {bw : Nat} {A A' A'' : Option Addr} {n c n' c' n'' c'' : Nat} {T : List Bool} {e : Int}
theorem WrS.of (h : WrS w bw A n c T e) (hb : Below w.heap.size w w') : WrS w' bw A n c T e := ⟨h.box.of hb, h.row.of hb, h.le⟩
theorem WrS.len (h : WrS w bw A n c T e) : n = (T.length + 7) / 8 := by rw [← h.row.len, pkB_len]
theorem WrK.here (w : World) (bw : Nat) (A : Option Addr) (n c : Nat) : WrK w bw A n c w A n c := ⟨Fr2.here _ _, .inl rfl⟩
theorem WrK.of (h : WrK w bw A n c w' A' n' c') (hb : Below w'.heap.size w' w'') : WrK w bw A n c w'' A' n' c' := ⟨h.fr.of hb, h.loc⟩
theorem WrK.after (hb : Below w.heap.size w w') (h : WrK w' bw A n c w'' A' n' c') : WrK w bw A n c w'' A' n' c' :=
  ⟨((Fr2.here w _).of hb).then h.fr (fun _ _ h => h), h.loc.imp id (fun ⟨g, h1, h2⟩ => ⟨g, h1, Nat.le_trans hb.size h2⟩)⟩
theorem WrK.trans (h : WrK w bw A n c w' A' n' c') (k : WrK w' bw A' n' c' w'' A'' n'' c'') : WrK w bw A n c w'' A'' n'' c'' := by
  refine ⟨h.fr.then k.fr (fun q hq e => ?_), ?_⟩
  · rcases e with e | e
    · exact .inl e
    · rcases h.loc with hl | ⟨g, hl, h2⟩
      · exact .inr (by rw [← hl]; exact e)
      · rw [hl] at e; injection e with e; omega
  · rcases k.loc with hl | ⟨g, hl, h2⟩
    · rcases h.loc with hl' | ⟨g, hl', h2⟩
      · exact .inl (hl.trans hl')
      · exact .inr ⟨g, hl.trans hl', h2⟩
    · exact .inr ⟨g, hl, Nat.le_trans h.fr.size h2⟩
theorem WrK.below {B : Nat} (h : WrK w bw A n c w' A' n' c') (hS : WrS w bw A n c T e) (hB : B ≤ bw) : Below B w w' :=
  h.fr.below (by have := hS.box.1; omega) (fun q hq => by
    rcases hq with rfl | hq
    · exact hB
    · have := (hS.row.row.lt q hq).1; omega)
/-- What lies off the writer stays. -/
theorem WrK.box {b : Nat} {vs : List Value} (h : WrK w bw A n c w' A' n' c') (hb : BxW w b vs) (h1 : b ≠ bw) (h2 : (Value.slice A n c).ownBlock ≠ some b) : BxW w' b vs ∧ (Value.slice A' n' c').ownBlock ≠ some b := by
  have hbl := h.fr.block b hb.1 (fun k => by rcases k with k | k; exact h1 k; exact h2 k)
  refine ⟨⟨Nat.lt_of_lt_of_le hb.1 h.fr.size, fun i => (World.cell?_of_block hbl).trans (hb.2.1 i), fun i => (World.frozen?_of_block hbl).trans (hb.2.2 i)⟩, fun k => ?_⟩
  rcases h.loc with hl | ⟨g, hl, hg⟩
  · rw [hl] at k; exact h2 k
  · rw [hl] at k; injection k with k; have := hb.1; omega
theorem WrS.ret (h : WrS w bw A n c T e) (e' : Int) : WrS (w.setCell ⟨bw, 2, none⟩ (.int .i64 e')) bw A n c T e' :=
  ⟨by have := h.box.put 2 (.int .i64 e') (by simp); exact this, h.row.setBelow (Nat.lt_succ_self _) _, h.le⟩
theorem WrK.put (h : WrK w bw A n c w' A' n' c') (i : Nat) (v : Value) : WrK w bw A n c (w'.setCell ⟨bw, i, none⟩ v) A' n' c' :=
  ⟨h.fr.grown (grownBy_set _ _ _ _) (fun q e => by injection e with e; exact .inl (.inl e.symm)), h.loc⟩
end
/-- One bit more: where a new byte begins. -/
theorem pk_zero {T : List Bool} (h : T.length % 8 = 0) : pkB T ++ [0] = pkB (T ++ [false]) := by rw [pkB_new h]; rfl
theorem pk_set {T : List Bool} {x : Int} {L : List Int} (hL : L = pkB (T ++ [false])) (hx : L[T.length / 8]? = some x) : ∃ v : Nat, x = (v : Int) ∧ v < 256 ∧ L.set (T.length / 8) ((v ||| 128 >>> (T.length % 8) : Nat) : Int) = pkB (T ++ [true]) := by
  subst hL
  by_cases h : T.length % 8 = 0
  · have e1 : pkB (T ++ [false]) = pkB T ++ [0] := (pk_zero h).symm
    have hl := pkB_len T
    have hu : T.length / 8 = (pkB T).length := by omega
    rw [e1, hu] at hx
    have hx0 : x = 0 := by simpa using hx.symm
    refine ⟨0, hx0, by decide, ?_⟩
    rw [e1, hu, pkB_new h, h]
    rw [List.set_append_right _ _ (Nat.le_refl _), Nat.sub_self]
    rfl
  · have hlt : T.length / 8 < (T.length + 7) / 8 := by omega
    rw [pkB_old h] at hx ⊢
    simp only [Bool.false_eq_true, if_false] at hx ⊢
    have hb := byteAt_lt T (T.length / 8)
    rw [List.getElem?_set, if_pos rfl, if_pos (by rw [pkB_len]; exact hlt)] at hx
    injection hx with hx
    refine ⟨byteAt T (T.length / 8), hx.symm, hb, ?_⟩
    rw [List.set_set, pkB_old h]
    simp only [if_true]
theorem digB_take {k v j : Nat} (h : j < k) : (digB k v).take (j + 1) = (digB k v).take j ++ [v.testBit (k - 1 - j)] := by
  rw [List.take_add_one, digB_get k v j h]; rfl
theorem pk_false {T : List Bool} (h : T.length % 8 ≠ 0) : pkB (T ++ [false]) = pkB T := by
  rw [pkB_old h]
  simp only [Bool.false_eq_true, if_false]
  have hlt : T.length / 8 < (T.length + 7) / 8 := by omega
  have := pkB_get (T := T) hlt
  apply List.ext_getElem?
  intro j
  rw [List.getElem?_set]
  by_cases e : T.length / 8 = j
  · rw [if_pos e, if_pos (by rw [pkB_len]; exact hlt), ← e, this]
  · rw [if_neg e]
/-- The writer's state while a byte may already lie for the next bit. -/
structure WrH (w : World) (bw : Nat) (A : Option Addr) (n c : Nat) (T : List Bool) (e : Int) : Prop where
  box : BxW w bw [.slice A n c, .int .i64 (T.length : Int), .int .i64 e]
  row : Own encU 1 5 (bw + 1) w A n c (pkB (T ++ [false]))
section
variable {w w' : World} {bw : Nat} {A : Option Addr} {n c : Nat} {T : List Bool} {e : Int}
theorem WrH.cell (h : WrH w bw A n c T e) : ∃ (g v : Nat), A = some ⟨g, 0, none⟩ ∧ bw < g ∧ g < w.heap.size ∧ T.length / 8 < n ∧ v < 256 ∧ w.cell? ⟨g, T.length / 8, none⟩ = some (.int .u8 (v : Int)) ∧ w.frozen? ⟨g, T.length / 8, none⟩ = false ∧
    (pkB (T ++ [false])).set (T.length / 8) ((v ||| 128 >>> (T.length % 8) : Nat) : Int) = pkB (T ++ [true]) := by
  have hn : n = (T.length + 8) / 8 := by rw [← h.row.len, pkB_len, List.length_append]; rfl
  obtain ⟨g, rfl⟩ := h.row.at0 (by omega)
  obtain ⟨x, hx, hg, h1, h2, _, _⟩ := h.row.byteCell (i := T.length / 8) (by omega)
  obtain ⟨v, rfl, hv, hs⟩ := pk_set (T := T) rfl hx.out
  have hlt := h.row.row.lt g rfl
  exact ⟨g, v, rfl, by omega, hg, by omega, hv, h1, h2, hs⟩
theorem WrH.done (h : WrH w bw A n c T e) (hl : T.length + 1 ≤ 524288) : WrS (w.setCell ⟨bw, 1, none⟩ (.int .i64 ((T.length : Int) + 1))) bw A n c (T ++ [false]) e := by
  refine ⟨?_, h.row.setBelow (Nat.lt_succ_self _) _, by rw [List.length_append]; exact hl⟩
  have := h.box.put 1 (.int .i64 ((T.length : Int) + 1)) (by simp)
  rw [List.length_append, List.length_singleton, Int.natCast_add]
  exact this
theorem WrH.bit {g v : Nat} (h : WrH w bw (some ⟨g, 0, none⟩) n c T e) (hg : bw < g) (hn : T.length / 8 < n) (hs : (pkB (T ++ [false])).set (T.length / 8) ((v ||| 128 >>> (T.length % 8) : Nat) : Int) = pkB (T ++ [true])) (hl : T.length + 1 ≤ 524288) :
    WrS (((w.setCell ⟨g, T.length / 8, none⟩ (.int .u8 ((v ||| 128 >>> (T.length % 8) : Nat) : Int))).drew).setCell ⟨bw, 1, none⟩ (.int .i64 ((T.length : Int) + 1))) bw (some ⟨g, 0, none⟩) n c (T ++ [true]) e := by
  have h1 := own_setU h.row (i := T.length / 8) hn ((v ||| 128 >>> (T.length % 8) : Nat) : Int)
  rw [hs] at h1
  refine ⟨?_, h1.drew.setBelow (Nat.lt_succ_self _) _, by rw [List.length_append]; exact hl⟩
  have := ((h.box.off (T.length / 8) (.int .u8 ((v ||| 128 >>> (T.length % 8) : Nat) : Int)) (by omega : g ≠ bw)).drew).put 1 (.int .i64 ((T.length : Int) + 1)) (by simp)
  rw [List.length_append, List.length_singleton, Int.natCast_add]
  exact this
theorem WrK.row {w1 : World} {A1 : Option Addr} {n1 c1 : Nat} {g : Nat} (hk : WrK w1 bw A1 n1 c1 w (some ⟨g, 0, none⟩) n c) (h : WrH w bw (some ⟨g, 0, none⟩) n c T e) (i : Nat) (v : Value) : WrK w1 bw A1 n1 c1 ((w.setCell ⟨g, i, none⟩ v).drew) (some ⟨g, 0, none⟩) n c := by
  refine ⟨(hk.fr.grown (grownBy_set w g i v) (fun q e => ?_)).of (Below.refl _ _).drew, hk.loc⟩
  injection e with e
  subst e
  have ho : (Value.slice (some (⟨g, 0, none⟩ : Addr)) n c).ownBlock = some g := rfl
  rcases hk.loc with hl | ⟨g2, hl, h2⟩
  · rw [ho] at hl; exact .inl (.inr hl.symm)
  · rw [ho] at hl; injection hl with hl; exact .inr (by omega)
theorem WrS.half (h : WrS w bw A n c T e) (h8 : T.length % 8 ≠ 0) : WrH w bw A n c T e := ⟨h.box, by rw [pk_false h8]; exact h.row⟩
end
set_option maxHeartbeats 16000000 in
theorem bio_put (bw v k : Nat) (A : Option Addr) (n c : Nat) (T : List Bool) (er : Int) (w : World) (hS : WrS w bw A n c T er) (hv : v < 18446744073709551616) (hk : k ≤ 64) (hl : T.length + k ≤ 524288) :
    Calls Tryz.prog 191 #[.pointer (some ⟨bw, 0, none⟩), .int .u64 (v : Int), .int .i64 (k : Int)] w fun e w' => ∃ A' n' c', e = .returned (.tuple #[]) ∧ WrS w' bw A' n' c' (T ++ digB k v) er ∧ WrK w bw A n c w' A' n' c' := by
  go_enter Tryz.func191, Tryz.ntmps191
  go_wp2_with fail
  go_loopw [8] (fun i wr => ∃ (j : Nat) (A1 : Option Addr) (n1 c1 : Nat), i = .int .i64 j ∧ j ≤ k ∧ WrS wr bw A1 n1 c1 (T ++ (digB k v).take j) er ∧ WrK w bw A n c wr A1 n1 c1) (fun i _ => k - (intOf i).toNat)
  case atStart => exact ⟨0, A, n, c, rfl, by omega, by simpa using hS, WrK.here _ _ _ _ _⟩
  case round =>
    obtain ⟨j, A1, n1, c1, rfl, hj, hS1, hK1⟩ := hrel
    by_cases hlt : j < k
    · have dj : decide ((j : Int) < k) = true := decide_eq_true (by omega)
      have dj' : decide (j < k) = true := decide_eq_true hlt
      have hT := digB_take (v := v) hlt
      have hTl : (T ++ (digB k v).take j).length = T.length + j := by rw [List.length_append, List.length_take, digB_len]; omega
      have hbit := and_one v (k - 1 - j) hv
      have q0 : IntKind.i64.wrap ((k : Int) - 1) = (k : Int) - 1 := IntWalk.i64_in _ (by omega)
      have q1 : IntKind.i64.wrap ((k : Int) - 1 - (j : Int)) = ((k - 1 - j : Nat) : Int) := by rw [IntWalk.i64_in _ (by omega)]; omega
      obtain ⟨sh, hsh⟩ : ∃ sh, sh = k - 1 - j := ⟨_, rfl⟩
      rw [← hsh] at hbit q1 hT
      have q3 : sh < 64 := by omega
      have hTT := Lib.hid (show T ++ (digB k v).take (j + 1) = (T ++ (digB k v).take j) ++ [v.testBit sh] by rw [hT, List.append_assoc])
      generalize v.testBit sh = b at hbit hTT
      generalize T ++ (digB k v).take j = T1 at hS1 hTl hTT
      have hl1 : T1.length + 1 ≤ 524288 := by omega
      obtain ⟨hbw, b0, b1, b2, f0, f1, f2⟩ := hS1.box.open3'
      obtain ⟨u, hu⟩ : ∃ u, u = T1.length := ⟨_, rfl⟩
      obtain ⟨r, hr⟩ : ∃ r, r = u % 8 := ⟨_, rfl⟩
      obtain ⟨q, hq⟩ : ∃ q, q = u / 8 := ⟨_, rfl⟩
      have e0 : (u : Int).tmod 8 = (r : Int) := by rw [hr]; rfl
      have e1 : (u : Int).tdiv 8 = (q : Int) := by rw [hq]; rfl
      have e2 : IntKind.i64.wrap (q : Int) = (q : Int) := IntWalk.i64_in _ (by omega)
      have e3 : IntKind.i64.wrap ((u : Int) + 1) = (u : Int) + 1 := IntWalk.i64_in _ (by omega)
      have r8 : r < 8 := by omega
      have e4 := shr_128 r
      have hn1 := hS1.len
      replace hu := Lib.hid hu
      replace hr := Lib.hid hr
      replace hq := Lib.hid hq
      replace hn1 := Lib.hid hn1
      clear hsh hT hTl
      by_cases h8 : r = 0
      · have d0 : ((r : Int) == 0) = true := by simp; omega
        have d0' : decide ((r : Int) = 0) = true := decide_eq_true (by omega)
        have h88 : T1.length % 8 = 0 := by rw [← hu.out, ← hr.out]; exact h8
        have hn9 : n1 ≤ 70000 := by rw [hn1.out]; omega
        have hrow := Lib.hid hS1.row
        have hbx := Lib.hid hS1.box
        rw [← hu.out] at b1
        clear h8
        go_upto_region 5 with (at_builtin; refine wpList_append_elL rfl (.tmp 21) (.tmp 22) 24 rfl encU 1 5 (.int .u8 0) 1 Tryz.underlying24 (by kernel_rfl) rfl (by decide) encU_len encU_one (bw + 1) _ _ _ _ rfl (hrow.out.alloc _) (0 : Int) ⟨(wr).heap.size, 0, none⟩ 1 rfl (cells_new (wr) _ _) (by omega) (by omega) (by first | omega | (simp; done) | (simp; omega)) ?_; intro A4 c4 w4 hown4 hg4 hb4 hl4; obtain ⟨hc4, hf4⟩ := bcell hb4; have hs4 := hb4.size; (try simp only [World.size_alloc, World.size_setCell, World.size_drew] at hc4 hf4); (try simp at hs4))
        have hrA : ∀ g, (Value.slice A1 n1 c1).ownBlock = some g → bw < g := fun g hg => by have := (hrow.out.row.lt g hg).1; omega
        have hH := Lib.hid (show WrH (w4.setCell ⟨bw, 0, none⟩ (.slice A4 (n1 + 1) c4)) bw A4 (n1 + 1) c4 T1 er from
          ⟨(((hbx.out.of ((Below.refl _ _).alloc (Nat.le_refl _) _)).grown hg4 (fun e => by have := hrA _ e.symm; omega)).put 0 _ (by simp)), by rw [← pk_zero h88]; exact hown4.setBelow (Nat.lt_succ_self _) _⟩)
        have hK4 := Lib.hid (hK1.trans (WrK.put (A' := A4) (n' := n1 + 1) (c' := c4) ⟨((Fr2.here wr _).of ((Below.refl _ _).alloc (Nat.le_refl _) _)).grown hg4 (fun q hq => .inl (.inr hq)), by
          rcases hl4 with h | h
          · exact .inl h
          · exact .inr ⟨_, h, by simp only [World.size_alloc]; omega⟩⟩ 0 (.slice A4 (n1 + 1) c4)))
        obtain ⟨w5, hw5⟩ : ∃ w5, w5 = w4.setCell ⟨bw, 0, none⟩ (.slice A4 (n1 + 1) c4) := ⟨_, rfl⟩
        rw [← hw5] at hH hK4 ⊢
        clear hw5 hc4 hf4 hown4 hg4 hb4 hl4 hs4 b0 b1 b2 f0 f1 f2 h88
        obtain ⟨hbw5, b0, b1, b2, f0, f1, f2⟩ := hH.out.box.open3'
        rw [← hu.out] at b1
        cases b with
        | false =>
          go_wp2_with fail
          go_roundw
          case rel =>
            refine ⟨j + 1, A4, (n1 + 1), c4, by go_num, by omega, ?_, hK4.out.put 1 _⟩
            rw [hTT.out]
            have h9 := hH.out.done hl1
            rw [← hu.out] at h9
            exact h9
          case measure => simp [intOf]; omega
        | true =>
          obtain ⟨g, x, hA, hgb, hgw, hqn, hx, c0, fz, hset⟩ := hH.out.cell
          subst hA
          rw [← hu.out, ← hq.out] at c0 fz hqn hset
          rw [← hr.out] at hset
          have e5 := or_u8 x (128 >>> r) hx (by have := Nat.shiftRight_le 128 r; omega)
          have i0 : (0 : Int) ≤ (q : Int) := by omega
          have i1 : (q : Int) < ((n1 + 1) : Int) := by omega
          have hgne : g ≠ bw := by omega
          have h9 := Lib.hid (hH.out.bit hgb (by rw [← hu.out, ← hq.out]; exact hqn) (v := x) (by rw [← hu.out, ← hq.out, ← hr.out]; exact hset) hl1)
          rw [← hu.out, ← hq.out, ← hr.out] at h9
          clear hset
          obtain ⟨y, hy⟩ : ∃ y, y = 128 >>> r := ⟨_, rfl⟩
          rw [← hy] at e4 e5 h9
          clear hy
          obtain ⟨z, hz⟩ : ∃ z, z = x ||| y := ⟨_, rfl⟩
          rw [← hz] at e5 h9
          clear hz
          go_upto_region 6 with (fail)
          go_region_law (fail)
          all_goals
            go_wp2_with fail
            go_roundw
            case rel =>
              refine ⟨j + 1, some ⟨g, 0, none⟩, (n1 + 1), c4, by go_num, by omega, ?_, ?_⟩
              · rw [hTT.out]
                exact h9.out
              · exact (hK4.out.row hH.out q _).put 1 _
            case measure => simp [intOf]; omega
      · have d0 : ((r : Int) == 0) = false := by simp; omega
        have d0' : decide ((r : Int) = 0) = false := decide_eq_false (by omega)
        have hH := Lib.hid (hS1.half (by rw [← hu.out, ← hr.out]; exact h8))
        rw [← hu.out] at b1
        cases b with
        | false =>
          go_wp2_with fail
          go_roundw
          case rel =>
            refine ⟨j + 1, A1, n1, c1, by go_num, by omega, ?_, hK1.put 1 _⟩
            rw [hTT.out]
            have h9 := hH.out.done hl1
            rw [← hu.out] at h9
            exact h9
          case measure => simp [intOf]; omega
        | true =>
          obtain ⟨g, x, hA, hgb, hgw, hqn, hx, c0, fz, hset⟩ := hH.out.cell
          subst hA
          rw [← hu.out, ← hq.out] at c0 fz hqn hset
          rw [← hr.out] at hset
          have e5 := or_u8 x (128 >>> r) hx (by have := Nat.shiftRight_le 128 r; omega)
          have i0 : (0 : Int) ≤ (q : Int) := by omega
          have i1 : (q : Int) < (n1 : Int) := by omega
          have hgne : g ≠ bw := by omega
          have h9 := Lib.hid (hH.out.bit hgb (by rw [← hu.out, ← hq.out]; exact hqn) (v := x) (by rw [← hu.out, ← hq.out, ← hr.out]; exact hset) hl1)
          rw [← hu.out, ← hq.out, ← hr.out] at h9
          clear hset
          obtain ⟨y, hy⟩ : ∃ y, y = 128 >>> r := ⟨_, rfl⟩
          rw [← hy] at e4 e5 h9
          clear hy
          obtain ⟨z, hz⟩ : ∃ z, z = x ||| y := ⟨_, rfl⟩
          rw [← hz] at e5 h9
          clear hz
          go_upto_region 6 with (fail)
          go_region_law (fail)
          all_goals
            go_wp2_with fail
            go_roundw
            case rel =>
              refine ⟨j + 1, some ⟨g, 0, none⟩, n1, c1, by go_num, by omega, ?_, ?_⟩
              · rw [hTT.out]
                exact h9.out
              · exact (hK1.row hH.out q _).put 1 _
            case measure => simp [intOf]; omega
    · obtain rfl : j = k := by omega
      have dj : decide ((j : Int) < j) = false := decide_eq_false (by omega)
      have dj' : decide (j < j) = false := decide_eq_false (by omega)
      go_wp2_with fail
      go_end0
      refine ⟨A1, n1, c1, rfl, ?_, hK1⟩
      rwa [List.take_of_length_le (by rw [digB_len]; exact Nat.le_refl _)] at hS1
end Go.Proofs.YtmenokhnanghgaaGreat
end
section
namespace Go.Proofs.YtmenokhnanghgaaGreat
open Go Go.RowKit
set_option maxRecDepth 100000
theorem num_pos {bs : List Bool} {p z : Nat} (hz : zrs (bs.drop p) = z) (hl : 2 * z + 1 ≤ bs.length - p) : 1 ≤ numB ((bs.drop (p + z)).take (z + 1)) := by
  obtain ⟨r, hr⟩ := zrs_split (bs.drop p) (by rw [hz, List.length_drop]; omega)
  rw [hz] at hr
  have hd : bs.drop (p + z) = true :: r := by
    have := drop_app_eq hr
    rwa [List.length_replicate] at this
  rw [hd, List.take_succ_cons, numB_cons]
  have : 0 < 2 ^ (r.take z).length := Nat.two_pow_pos _
  simp only [Bool.toNat_true, Nat.one_mul]
  omega
theorem num_lt {bs : List Bool} {k : Nat} (hk : k ≤ 64) : numB (bs.take k) < 18446744073709551616 := by
  have h1 := numB_lt (bs.take k)
  have h2 : 2 ^ (bs.take k).length ≤ 2 ^ 64 := Nat.pow_le_pow_right (by decide) (by rw [List.length_take]; omega)
  omega
theorem zrs_all {bs : List Bool} {p L : Nat} (hL : bs.length - p = L) (h : ∀ i, i < L → (bs.drop p)[i]? = some false) : zrs (bs.drop p) = L := by
  have h1 := zrs_ge (bs.drop p) L (by rw [List.length_drop]; omega) h
  have h2 := zrs_le (bs.drop p)
  rw [List.length_drop] at h2
  omega
theorem none_bit {l : List Bool} {j : Nat} {b : Bool} (h : ∀ i, i < j → l[i]? = some false) (hx : l[j]? = some b) (hb : b = false) : ∀ i, i < j + 1 → l[i]? = some false := by
  intro i hi
  by_cases e : i = j
  · rw [e, hx, hb]
  · exact h i (by omega)
/-- The answer behind the zeros. -/
def gamA (bs : List Bool) (p z L : Nat) : Int × RS :=
  if 2 * z + 1 ≤ L then
    (if numB ((bs.drop (p + z)).take (z + 1)) ≤ 9223372036854775808 then
      (((numB ((bs.drop (p + z)).take (z + 1)) : Nat) : Int) - 1, p + (2 * z + 1), 0) else (0, p, 3))
  else (0, p, 4)
theorem gam_A {bs : List Bool} {p z L : Nat} (hL : bs.length - p = L) (hz : zrs (bs.drop p) = z) (h64 : z < 64) : gamR bs (p, 0) = gamA bs p z L := by
  unfold gamR gamA
  rw [if_pos rfl]
  simp only [hz]
  rw [if_pos h64, hL]
theorem gam_64 {bs : List Bool} {p : Nat} (h : 64 ≤ zrs (bs.drop p)) : gamR bs (p, 0) = (0, p, 3) := by
  unfold gamR
  rw [if_pos rfl, if_neg (by simp only; omega)]
set_option maxHeartbeats 8000000 in
theorem bio_RGamma (bi : Nat) (A : Option Addr) (n c p : Nat) (l : List Int) (w : World) (h : RdD w bi A n c l p) (hp : p ≤ 8 * n) :
    Calls Tryz.prog 100 #[.pointer (some ⟨bi, 0, none⟩)] w fun e w' => e = .returned (.tuple #[.int .i64 (gamR (unB l) (p, 0)).1, .int .i64 (gamR (unB l) (p, 0)).2.2]) ∧ RdD w' bi A n c l (gamR (unB l) (p, 0)).2.1 ∧ Fr2 (fun q => q = bi) w w' := by
  have hle := h.le
  have hlen := Lib.hid h.len
  have hB := Lib.hid h
  obtain ⟨L, hL⟩ : ∃ L : Nat, L = 8 * n - p := ⟨_, rfl⟩
  have hLL := Lib.hid (show (unB l).length - p = L by rw [hlen.out]; exact hL.symm)
  have hpL : p + L = 8 * n := by omega
  have kL := fun w1 h1 => bio_Left bi A n c p l w1 h1 hp
  rw [← hL] at kL
  clear hL h
  go_enter Tryz.func100, Tryz.ntmps100
  go_wp2_with fail
  go_at_call 117
  refine (kL _ hB.out).mono ?_
  rintro e w1 ⟨rfl, hb1⟩
  go_wp2_with fail
  go_loopw [4] (fun i wr => ∃ j : Nat, i = .int .i64 j ∧ j ≤ L ∧ j < 64 ∧ Hid (∀ i, i < j → ((unB l).drop p)[i]? = some false) ∧ Below w.heap.size w wr) (fun i _ => L - (intOf i).toNat)
  case atStart => exact ⟨0, rfl, by omega, by omega, Lib.hid (fun i hi => by omega), hb1⟩
  case round =>
    obtain ⟨j, rfl, hj, hj64, hno, hb⟩ := hrel
    have hBr := Lib.hid (hB.out.of hb)
    obtain ⟨_, b0, b1, f0, f1⟩ := hBr.out.box.open2
    have hsz := hb.size
    by_cases hlt : j < L
    · have dj : decide ((j : Int) < L) = true := decide_eq_true (by omega)
      have dj' : decide (j < L) = true := decide_eq_true hlt
      obtain ⟨b, hb1', hb2⟩ := bits_at (bs := unB l) (p := p) (j := j) (by rw [hlen.out]; omega)
      have e1 : IntKind.i64.wrap ((p : Int) + (j : Int)) = ((p + j : Nat) : Int) := IntWalk.i64_in _ (by omega)
      have kb := fun w1 h1 => bio_bit bi A n c p (p + j) l b w1 h1 hb1'
      cases b with
      | true =>
        have hz := zrs_at ((unB l).drop p) j (by rw [List.length_drop, hLL.out]; exact hlt) hno.out hb2
        have hg := Lib.hid (gam_A hLL.out hz hj64)
        have hps := Lib.hid (num_pos hz)
        clear hb2 hb1' hz
        go_wp2_with fail
        go_at_call 125
        refine (kb _ hBr.out).mono ?_
        rintro e w2 ⟨rfl, hb3⟩
        clear b0 b1 f0 f1
        replace hBr := Lib.hid (hBr.out.of hb3)
        replace hb := below_thru hb hb3
        clear hb3 kb
        obtain ⟨_, b0, b1, f0, f1⟩ := hBr.out.box.open2
        by_cases hs : 2 * j + 1 ≤ L
        · have d0 : decide ((L : Int) < 2 * (j : Int) + 1) = false := decide_eq_false (by omega)
          have d0' : decide (L < 2 * j + 1) = false := decide_eq_false (by omega)
          have e2 : IntKind.i64.wrap ((p : Int) + (j : Int)) = ((p + j : Nat) : Int) := IntWalk.i64_in _ (by omega)
          have e3 : IntKind.i64.wrap ((j : Int) + 1) = ((j + 1 : Nat) : Int) := IntWalk.i64_in _ (by omega)
          have kN := fun w1 h1 => bio_number bi A n c p (p + j) (j + 1) l w1 h1 (by omega) (by omega)
          have hm1 := hps.out (by rw [hLL.out]; exact hs)
          have hm2 := num_lt (bs := (unB l).drop (p + j)) (k := j + 1) (by omega)
          unfold gamA at hg
          rw [if_pos hs] at hg
          generalize numB (((unB l).drop (p + j)).take (j + 1)) = v at kN hg hm1 hm2
          have e4 : IntKind.u64.wrap ((v : Int) - 1) = (v : Int) - 1 := by rw [IntKind.wrap_u64]; omega
          by_cases hv : v ≤ 9223372036854775808
          · rw [if_pos hv] at hg
            have d1 : decide (9223372036854775807 < (v : Int) - 1) = false := decide_eq_false (by omega)
            have e5 : IntKind.i64.wrap ((v : Int) - 1) = (v : Int) - 1 := IntWalk.i64_in _ (by omega)
            have e6 : IntKind.i64.wrap ((p : Int) + (2 * (j : Int) + 1)) = ((p + (2 * j + 1) : Nat) : Int) := IntWalk.i64_in _ (by omega)
            go_wp2_with fail
            go_at_call 118
            refine (kN _ hBr.out).mono ?_
            rintro e w5 ⟨rfl, hb5⟩
            clear b0 b1 f0 f1
            replace hBr := Lib.hid (hBr.out.of hb5)
            replace hb := below_thru hb hb5
            clear hb5 kN
            obtain ⟨_, b0, b1, f0, f1⟩ := hBr.out.box.open2
            go_wp2_with fail
            refine bodyPost_ret (v := .tuple #[.int .i64 ((v : Int) - 1), .int .i64 0]) (by simp [results, Tryz.results100, go_sem, *, ↓IntWalk.iteOmega]) rfl ?_
            rw [hg.out]
            exact ⟨rfl, hBr.out.put _, ((Fr2.here w _).of hb).grown (grownBy_set _ _ _ _) (fun q e => by injection e with e; exact .inl e.symm)⟩
          · rw [if_neg hv] at hg
            have d1 : decide (9223372036854775807 < (v : Int) - 1) = true := decide_eq_true (by omega)
            go_wp2_with fail
            go_at_call 118
            refine (kN _ hBr.out).mono ?_
            rintro e w5 ⟨rfl, hb5⟩
            clear b0 b1 f0 f1
            replace hBr := Lib.hid (hBr.out.of hb5)
            replace hb := below_thru hb hb5
            clear hb5 kN
            go_wp2_with fail
            refine bodyPost_ret (v := .tuple #[.int .i64 0, .int .i64 3]) (by simp [results, Tryz.results100, go_sem, *, ↓IntWalk.iteOmega]) rfl ?_
            rw [hg.out]
            exact ⟨rfl, hBr.out, (Fr2.here w _).of hb⟩
        · have d0 : decide ((L : Int) < 2 * (j : Int) + 1) = true := decide_eq_true (by omega)
          have d0' : decide (L < 2 * j + 1) = true := decide_eq_true (by omega)
          unfold gamA at hg
          rw [if_neg hs] at hg
          go_wp2_with fail
          refine bodyPost_ret (v := .tuple #[.int .i64 0, .int .i64 4]) (by simp [results, Tryz.results100, go_sem, *, ↓IntWalk.iteOmega]) rfl ?_
          rw [hg.out]
          exact ⟨rfl, hBr.out, (Fr2.here w _).of hb⟩
      | false =>
        by_cases h63 : j = 63
        · subst h63
          have hg := Lib.hid (gam_64 (zrs_ge ((unB l).drop p) 64 (by rw [List.length_drop, hLL.out]; omega) (none_bit hno.out hb2 rfl)))
          clear hb2 hb1'
          go_wp2_with fail
          go_at_call 125
          refine (kb _ hBr.out).mono ?_
          rintro e w2 ⟨rfl, hb3⟩
          replace hBr := Lib.hid (hBr.out.of hb3)
          replace hb := below_thru hb hb3
          go_wp2_with fail
          refine bodyPost_ret (v := .tuple #[.int .i64 0, .int .i64 3]) (by simp [results, Tryz.results100, go_sem, *, ↓IntWalk.iteOmega]) rfl ?_
          rw [hg.out]
          exact ⟨rfl, hBr.out, (Fr2.here w _).of hb⟩
        · have hno2 := Lib.hid (none_bit hno.out hb2 rfl)
          have d63 : decide ((j : Int) = 63) = false := decide_eq_false (by omega)
          have d63' : decide (j = 63) = false := decide_eq_false h63
          have d63'' : ((j : Int) == 63) = false := by simp; omega
          clear hb2 hb1'
          go_wp2_with fail
          go_at_call 125
          refine (kb _ hBr.out).mono ?_
          rintro e w2 ⟨rfl, hb3⟩
          replace hb := below_thru hb hb3
          go_wp2_with fail
          go_roundw
          case rel => exact ⟨j + 1, by go_num, by omega, by omega, hno2, hb⟩
          case measure => simp [intOf]; omega
    · obtain rfl : j = L := by omega
      have dj : decide ((j : Int) < j) = false := decide_eq_false (by omega)
      have dj' : decide (j < j) = false := decide_eq_false (by omega)
      have hz := zrs_all hLL.out hno.out
      have hg := Lib.hid (gam_A hLL.out hz hj64)
      have hs : ¬ 2 * j + 1 ≤ j := by omega
      clear hz
      have d0 : decide ((j : Int) < 2 * (j : Int) + 1) = true := decide_eq_true (by omega)
      have d0' : decide (j < 2 * j + 1) = true := decide_eq_true (by omega)
      unfold gamA at hg
      rw [if_neg hs] at hg
      go_wp2_with fail
      refine bodyPost_ret (v := .tuple #[.int .i64 0, .int .i64 4]) (by simp [results, Tryz.results100, go_sem, *, ↓IntWalk.iteOmega]) rfl ?_
      rw [hg.out]
      exact ⟨rfl, hBr.out, (Fr2.here w _).of hb⟩
end Go.Proofs.YtmenokhnanghgaaGreat
end
section
namespace Go.Proofs.YtmenokhnanghgaaGreat
open Go Go.RowKit
set_option maxRecDepth 100000
set_option maxHeartbeats 4000000 in
theorem bio_RSigned (bi : Nat) (A : Option Addr) (n c p : Nat) (l : List Int) (w : World) (h : RdD w bi A n c l p) (hp : p ≤ 8 * n) :
    Calls Tryz.prog 133 #[.pointer (some ⟨bi, 0, none⟩)] w fun e w' => e = .returned (.tuple #[.int .i64 (sgnR (unB l) (p, 0)).1, .int .i64 (sgnR (unB l) (p, 0)).2.2]) ∧ RdD w' bi A n c l (sgnR (unB l) (p, 0)).2.1 ∧ Fr2 (fun q => q = bi) w w' := by
  have kG := fun w1 h1 => bio_RGamma bi A n c p l w1 h1 hp
  have hnn := gamR_nn (bs := unB l) (s := (p, 0))
  have hB := Lib.hid h
  clear h
  have hsg : sgnR (unB l) (p, 0) = (unfZ (gamR (unB l) (p, 0)).1, (gamR (unB l) (p, 0)).2) := rfl
  rw [hsg]
  clear hsg
  generalize gamR (unB l) (p, 0) = g at kG hnn
  obtain ⟨g1, g2, g3⟩ := g
  simp only at kG hnn ⊢
  obtain ⟨m, rfl⟩ : ∃ m : Nat, g1 = (m : Int) := ⟨g1.toNat, by omega⟩
  have e1 : (m : Int).tmod 2 = ((m % 2 : Nat) : Int) := rfl
  have e2 : (m : Int).tdiv 2 = ((m / 2 : Nat) : Int) := rfl
  have e3 : IntKind.i64.wrap ((m / 2 : Nat) : Int) = ((m / 2 : Nat) : Int) := IntWalk.i64_in _ (by omega)
  by_cases h2 : m % 2 = 1
  · have hu : unfZ (m : Int) = -((m / 2 : Nat) : Int) - 1 := by unfold unfZ; rw [if_pos (by omega)]; omega
    rw [hu]
    have d1 : (((m % 2 : Nat) : Int) == 1) = true := by simp; omega
    have d1' : decide (((m % 2 : Nat) : Int) = 1) = true := decide_eq_true (by omega)
    have e4 : IntKind.i64.wrap (-((m / 2 : Nat) : Int)) = -((m / 2 : Nat) : Int) := IntWalk.i64_in _ (by omega)
    have e5 : IntKind.i64.wrap (-((m / 2 : Nat) : Int) - 1) = -((m / 2 : Nat) : Int) - 1 := IntWalk.i64_in _ (by omega)
    clear hu
    go_enter Tryz.func133, Tryz.ntmps133
    go_wp2_with fail
    go_at_call 100
    refine (kG _ hB.out).mono ?_
    rintro e w1 ⟨rfl, hB1, hf1⟩
    replace hB1 := Lib.hid hB1
    replace hf1 := Lib.hid hf1
    go_wp2_with fail
    refine bodyPost_ret (v := .tuple #[.int .i64 (-((m / 2 : Nat) : Int) - 1), .int .i64 g3]) (by simp [results, Tryz.results133, go_sem, *, ↓IntWalk.iteOmega]) rfl ?_
    exact ⟨rfl, hB1.out, hf1.out⟩
  · have hu : unfZ (m : Int) = ((m / 2 : Nat) : Int) := by unfold unfZ; rw [if_neg (by omega)]; omega
    rw [hu]
    have d1 : (((m % 2 : Nat) : Int) == 1) = false := by simp; omega
    have d1' : decide (((m % 2 : Nat) : Int) = 1) = false := decide_eq_false (by omega)
    clear hu
    go_enter Tryz.func133, Tryz.ntmps133
    go_wp2_with fail
    go_at_call 100
    refine (kG _ hB.out).mono ?_
    rintro e w1 ⟨rfl, hB1, hf1⟩
    replace hB1 := Lib.hid hB1
    replace hf1 := Lib.hid hf1
    go_wp2_with fail
    refine bodyPost_ret (v := .tuple #[.int .i64 ((m / 2 : Nat) : Int), .int .i64 g3]) (by simp [results, Tryz.results133, go_sem, *, ↓IntWalk.iteOmega]) rfl ?_
    exact ⟨rfl, hB1.out, hf1.out⟩
theorem ret_boolU {a b : Bool} (h : b = a) : Ending.returned (.bool a) = .returned (.bool b) := by rw [h]
set_option maxHeartbeats 4000000 in
theorem bio_REnd (bi : Nat) (A : Option Addr) (n c p : Nat) (l : List Int) (w : World) (h : RdD w bi A n c l p) (hp : p ≤ 8 * n) :
    Calls Tryz.prog 91 #[.pointer (some ⟨bi, 0, none⟩)] w fun e w' => e = .returned (.bool (endR (unB l) (p, 0))) ∧ Below w.heap.size w w' := by
  have hlen := h.len
  obtain ⟨L, hL⟩ : ∃ L : Nat, L = 8 * n - p := ⟨_, rfl⟩
  have kL := fun w1 h1 => bio_Left bi A n c p l w1 h1 hp
  rw [← hL] at kL
  have hB := Lib.hid h
  have hs := hB.out.box.1
  obtain ⟨_, b0, b1, -, -⟩ := hB.out.box.open2
  by_cases h8 : L < 8
  · have d0 : decide ((L : Int) < 8) = true := decide_eq_true (by omega)
    have d0' : decide (L < 8) = true := decide_eq_true h8
    have kN := fun w1 h1 => bio_number bi A n c p p L l w1 h1 (by omega) (by omega)
    have hz := numB_zero ((unB l).drop p)
    have ht : ((unB l).drop p).take L = (unB l).drop p := List.take_of_length_le (by rw [List.length_drop, hlen]; omega)
    have he := Lib.hid (show endR (unB l) (p, 0) = (((numB (((unB l).drop p).take L) : Nat) : Int) == 0) by
      unfold endR
      rw [show decide ((unB l).length - (p, (0 : Int)).1 < 8) = true from decide_eq_true (by rw [hlen]; simp only; omega), Bool.true_and]
      rw [Bool.eq_iff_iff, ht, ← hz]
      simp)
    generalize numB (((unB l).drop p).take L) = v at kN he
    clear hz ht hL hlen h
    go_enter Tryz.func91, Tryz.ntmps91
    go_wp2_with fail
    (refine wp_region_ext_lit (by kernel_rfl) (by kernel_rfl) ?_; (repeat (go_big_quiet_step ((first | (go_at_call 117; exact calls_ext (kL _ (hB.out.of (Ext.below _)))) | (go_at_call 118; exact calls_ext (kN _ (hB.out.of (Ext.below _)))))))); refine wpQuiet_nil ?_; intro _ hw'; obtain ⟨z1, hw''⟩ := hw'; subst hw''; have hs1 := z1.size; obtain ⟨hc1, hf1⟩ := bcell z1.below; (try simp only [World.size_alloc, World.size_setCell, World.size_drew] at hc1 hf1); (try simp at hs1))
    go_wp2_with fail
    go_ret
    exact ⟨ret_boolU he.out, by (repeat' (first | exact Below.refl _ _ | assumption | (refine Below.alloc ?_ ?_ _) | (refine Below.setCell ?_ ?_ _) | (refine Below.drew ?_) | (refine below_drewN ?_ _) | (refine below_after (Ext.below _) ?_ ?_) | (refine below_after (by assumption) ?_ ?_) | (simp; done) | omega | (simp; omega)))⟩
  · have d0 : decide ((L : Int) < 8) = false := decide_eq_false (by omega)
    have d0' : decide (L < 8) = false := decide_eq_false h8
    have he := Lib.hid (show endR (unB l) (p, 0) = false by
      unfold endR
      rw [show decide ((unB l).length - (p, (0 : Int)).1 < 8) = false from decide_eq_false (by rw [hlen]; simp only; omega), Bool.false_and])
    clear hL hlen h
    go_enter Tryz.func91, Tryz.ntmps91
    go_wp2_with fail
    (refine wp_region_ext_lit (by kernel_rfl) (by kernel_rfl) ?_; (repeat (go_big_quiet_step ((first | (go_at_call 117; exact calls_ext (kL _ (hB.out.of (Ext.below _)))))))); refine wpQuiet_nil ?_; intro _ hw'; obtain ⟨z1, hw''⟩ := hw'; subst hw''; have hs1 := z1.size; obtain ⟨hc1, hf1⟩ := bcell z1.below; (try simp only [World.size_alloc, World.size_setCell, World.size_drew] at hc1 hf1); (try simp at hs1))
    go_wp2_with fail
    go_ret
    exact ⟨ret_boolU he.out, by (repeat' (first | exact Below.refl _ _ | assumption | (refine Below.alloc ?_ ?_ _) | (refine Below.setCell ?_ ?_ _) | (refine Below.drew ?_) | (refine below_drewN ?_ _) | (refine below_after (Ext.below _) ?_ ?_) | (refine below_after (by assumption) ?_ ?_) | (simp; done) | omega | (simp; omega)))⟩
set_option maxHeartbeats 400000 in
theorem clone_u (A : Option Addr) (n c : Nat) (l : List Int) (w : World) (hR : Rd encU 1 w A n l) (hn : n ≤ 1000000) :
    Calls Tryz.prog 112 #[.slice A n c] w fun e w' => ∃ A' c', e = .returned (.slice A' n c') ∧ Own encU 1 5 w.heap.size w' A' n c' l ∧ Below w.heap.size w w' := by
  have q22 : ∀ (w : World) (a : Option Addr) (n c n' c' : Nat), (binOp .eql 24 (.slice a n c) (.slice none n' c')).run Tryz.prog w = .ok (.bool a.isNone) w := fun w a n c n' c' => Lib.run_eql_slice_nil w _ _ a n c n' c' Tryz.underlying24
  cases A with
  | none =>
    have hz : n = 0 := by
      rcases Nat.eq_zero_or_pos n with h | h
      · exact h
      · obtain ⟨b, o, e, _⟩ := hR.2 h; cases e
    subst hz
    obtain rfl : l = [] := List.length_eq_zero_iff.1 hR.len
    clear hR
    go_enter Tryz.func112, Tryz.ntmps112
    go_wp2
    go_ret
    exact ⟨none, 0, rfl, Own.nil_, by (repeat' (first | exact Below.refl _ _ | assumption | (refine Below.alloc ?_ ?_ _) | (refine Below.setCell ?_ ?_ _) | (refine Below.drew ?_) | (refine below_drewN ?_ _) | (refine below_after (Ext.below _) ?_ ?_) | (refine below_after (by assumption) ?_ ?_) | (simp; done) | omega | (simp; omega)))⟩
  | some ad =>
    obtain ⟨i0, hi0, hz0, hz1, hz2⟩ := info_parts (show (Tryz.prog.info? 5).map (fun i => (i.zero, i.size, i.bytes)) = some (some (.int .u8 0), 1, 1) by kernel_rfl)
    have hnews : Hid (∀ j u, (l.flatMap encU)[j]? = some u → w.cell? (ad.add j) = some u) := by
      intro j u hu
      have hj : j < n * 1 := by have := (List.getElem?_eq_some_iff.1 hu).1; rwa [flatMap_len encU_len, hR.len] at this
      obtain ⟨x, b, o, hx, e, hb, hcell⟩ := hR.elem (i := j / 1) (by omega)
      injection e with e
      subst e
      have e1 : (encU x)[j % 1]? = some ((encU x)[j % 1]'(by rw [encU_len]; omega)) := List.getElem?_eq_getElem _
      have e2 := flatMap_get encU_len l (j / 1) x hx (j % 1) _ e1
      rw [show j / 1 * 1 + j % 1 = j by omega, hu] at e2
      injection e2 with e2
      have h3 := hcell (j % 1) _ e1
      rw [show o + j / 1 * 1 + j % 1 = o + j by omega] at h3
      have ha : (⟨b, o, none⟩ : Addr).add j = ⟨b, o + j, none⟩ := by unfold Addr.add; split <;> simp_all
      rw [ha, h3, e2]
    have hlen := hR.len
    clear hR
    go_enter Tryz.func112, Tryz.ntmps112
    go_wp2_with (at_builtin; refine wpList_append_own _ rfl _ _ 24 rfl w.heap.size 5 i0 _ 1 1 Tryz.underlying24 hi0 hz0 hz1 hz2 rfl (by omega) _ _ _ rfl (World.ownsRow_made w #[] 0 (Nat.le_refl _) (Nat.zero_le _) (by simp)) ad n c (l.flatMap encU) rfl ?qc1 ?qc2 ?qc3 ?qc4 ?qc5 ?qc6 ?_)
    case qc1 => rw [flatMap_len encU_len, hlen]
    case qc2 =>
      intro j u hu
      exact Lib.cell?_alloc_some _ (hnews.out j u hu)
    case qc3 =>
      intro u hu
      obtain ⟨x, _, hx⟩ := List.mem_flatMap.1 hu
      exact encU_one x u hx
    case qc4 => unfold maxLen; omega
    case qc5 => omega
    case qc6 => simp
    intro v' w1 hown hgrow hnil
    have hB : Below w.heap.size w w1 := ((Below.refl _ w).alloc (Nat.le_refl _) _).grown hgrow (by simp) (by intro k hk; simp [Value.ownBlock] at hk; omega)
    have hown' : w1.ownsRow w.heap.size 5 1 v' n (l.flatMap encU) := by simpa using hown
    have hex : ∃ A' c', v' = .slice A' n c' := by
      rcases hown'.2 with ⟨h1, h2⟩ | ⟨g, cap, cur, h1, _⟩
      · exact ⟨none, 0, by rw [h1, h2]⟩
      · exact ⟨_, _, h1⟩
    obtain ⟨A', c', rfl⟩ := hex
    go_wp2
    go_ret
    exact ⟨A', c', rfl, ⟨hown', hlen⟩, hB⟩
set_option maxHeartbeats 4000000 in
theorem bio_NewReader (A : Option Addr) (n c : Nat) (l : List Int) (w : World) (hR : Rd encU 1 w A n l) (hl : ByL l) (hn : n ≤ 65536) :
    Calls Tryz.prog 88 #[.slice A n c] w fun e w' => ∃ bi A' c', e = .returned (.tuple #[.pointer (some ⟨bi, 0, none⟩), .int .i64 0]) ∧ RdD w' bi A' n c' l 0 ∧ w.heap.size ≤ bi ∧ Below w.heap.size w w' := by
  have d0 : decide (65536 < (n : Int)) = false := decide_eq_false (by omega)
  have d1 : decide (65536 < n) = false := decide_eq_false (by omega)
  have hRh := Lib.hid hR
  clear hR
  go_enter Tryz.func88, Tryz.ntmps88
  go_wp2_with fail
  go_at_call 112
  refine (clone_u A n c l _ hRh.out (by omega)).mono ?_
  rintro e w1 ⟨A', c', rfl, hO, hb⟩
  have hsz := hb.size
  go_wp2_with fail
  refine bodyPost_ret (v := .tuple #[.pointer (some ⟨w1.heap.size, 0, none⟩), .int .i64 0]) (by simp [results, Tryz.results88, go_sem, *, ↓IntWalk.iteOmega]) rfl ?_
  refine ⟨_, A', c', rfl, ⟨BxW.new w1 [.slice A' n c', .int .i64 0] _, (hO.alloc _).rd encU_len, hl, hn, fun _ b o e => ?_⟩, hsz, by (repeat' (first | exact Below.refl _ _ | assumption | (refine Below.alloc ?_ ?_ _) | (refine Below.setCell ?_ ?_ _) | (refine Below.drew ?_) | (refine below_drewN ?_ _) | (refine below_after (Ext.below _) ?_ ?_) | (refine below_after (by assumption) ?_ ?_) | (simp; done) | omega | (simp; omega)))⟩
  subst e
  rcases hO.row.2 with ⟨h1, _⟩ | ⟨g, cap, cur, hv, _, hh, _⟩
  · injection h1 with h1 _ _; cases h1
  · injection hv with h1 _ _
    injection h1 with h1
    injection h1 with h1 _
    have := (Array.getElem?_eq_some_iff.1 hh).1
    omega
end Go.Proofs.YtmenokhnanghgaaGreat
end
section
namespace Go.Proofs.YtmenokhnanghgaaGreat
open Go Go.RowKit Go.Shelf
set_option maxRecDepth 100000
def Tryz.len64L_ren : Go.Shelf.Ren := ⟨fun | 129 => 165 | n => n, fun | 53 => 148 | 3 => 3 | 4 => 4 | 46 => 168 | 5 => 5 | 9 => 9 | n => n, fun | n => n⟩
theorem Tryz.len64L : Go.Proofs.Lays.n129 Tryz.prog Tryz.len64L_ren := {
  mixed := by kernel_rfl
  f129 := Tryz.func165.trans (congrArg some (by kernel_rfl))
  t3 := Tryz.underlying3
  a3 := Tryz.isAgg3
  z3 := Tryz.sizeOf3
  v3 := Tryz.zeroValue3
  t4 := Tryz.underlying4
  a4 := Tryz.isAgg4
  z4 := Tryz.sizeOf4
  v4 := Tryz.zeroValue4
  t5 := Tryz.underlying5
  a5 := Tryz.isAgg5
  z5 := Tryz.sizeOf5
  v5 := Tryz.zeroValue5
  t9 := Tryz.underlying9
  a9 := Tryz.isAgg9
  z9 := Tryz.sizeOf9
  v9 := Tryz.zeroValue9
  t46 := Tryz.underlying168
  a46 := Tryz.isAgg168
  z46 := Tryz.sizeOf168
  v46 := Tryz.zeroValue168
  t53 := Tryz.underlying148
  a53 := Tryz.isAgg148
  z53 := Tryz.sizeOf148
  v53 := Tryz.zeroValue148 }
theorem len64 (x : Nat) (hx : x < 18446744073709551616) (w : World) : Calls Tryz.prog 165 #[.int .u64 (x : Int)] w fun e w' => e = .returned (.int .i64 ((Lib.bitLen x : Nat) : Int)) ∧ w' = w := by
  have h := Any.bits_Len64 Tryz.len64L (x : Int) w (by omega) (by omega)
  rwa [Int.toNat_natCast] at h
theorem digB_zero : ∀ k, digB k 0 = List.replicate k false
  | 0 => rfl
  | k + 1 => by rw [digB, digB_zero k, List.replicate_succ]; simp
theorem bitLen_log {m : Nat} (h0 : m ≠ 0) (h : m < 18446744073709551616) : Lib.bitLen m = Nat.log2 m + 1 := by
  obtain ⟨h1, h2, h3⟩ := Lib.bitLenAux_bounds 64 m (by omega) h0
  have : Nat.log2 m = Lib.bitLenAux 64 m - 1 := by
    rw [Nat.log2_eq_iff h0]
    refine ⟨h2, ?_⟩
    rw [Nat.sub_add_cancel h1]; exact h3
  unfold Lib.bitLen
  omega
section
variable (bw : Nat) (A : Option Addr) (n c : Nat) (T : List Bool) (er : Int) (w : World)
set_option maxHeartbeats 4000000 in
theorem bio_WBits (v k : Nat) (hS : WrS w bw A n c T er) (hk : k ≤ 64) (hv : v < 2 ^ k) :
    Calls Tryz.prog 190 #[.pointer (some ⟨bw, 0, none⟩), .int .u64 (v : Int), .int .i64 (k : Int)] w fun e w' => ∃ A' n' c', e = .returned (.int .i64 (wrE T (digB k v))) ∧ WrS w' bw A' n' c' (wrT T (digB k v)) er ∧ WrK w bw A n c w' A' n' c' := by
  have hv64 : v < 18446744073709551616 := Nat.lt_of_lt_of_le hv (Nat.pow_le_pow_right (by decide) hk : 2 ^ k ≤ 2 ^ 64)
  have hbl := Lib.bitLen_le v k hk hv
  have kB := fun w1 => len64 v hv64 w1
  have hle := hS.le
  have hSh := Lib.hid hS
  have k0 : decide ((k : Int) < 0) = false := decide_eq_false (by omega)
  have k1 : decide (64 < (k : Int)) = false := decide_eq_false (by omega)
  have k2 : decide (64 < k) = false := decide_eq_false (by omega)
  have k3 : decide ((k : Int) < ((Lib.bitLen v : Nat) : Int)) = false := decide_eq_false (by omega)
  have k3' : decide (k < Lib.bitLen v) = false := decide_eq_false (by omega)
  generalize Lib.bitLen v = bl at kB k3 k3' hbl
  have e1 : IntKind.i64.wrap (524288 - (k : Int)) = 524288 - (k : Int) := IntWalk.i64_in _ (by omega)
  obtain ⟨hbw, b0, b1, b2, f0, f1, f2⟩ := hS.box.open3'
  obtain ⟨u, hu⟩ : ∃ u, u = T.length := ⟨_, rfl⟩
  have hX := digB_len k v
  rw [← hu] at b1
  by_cases hf : u + k ≤ 524288
  · have d0 : decide (524288 - (k : Int) < (u : Int)) = false := decide_eq_false (by omega)
    obtain ⟨h1, h2⟩ := wr_fits (T := T) (X := digB k v) (by rw [hX]; omega)
    have hu' := Lib.hid hu
    rw [h1, h2]
    have hf' := Lib.hid hf
    clear hu hX h1 h2 hf hS hv
    go_enter Tryz.func190, Tryz.ntmps190
    go_wp2_with fail
    go_at_call 165
    refine (kB _).mono ?_
    rintro e w1 ⟨rfl, rfl⟩
    go_wp2_with fail
    go_at_call 191
    refine (bio_put bw v k A n c T er _ hSh.out hv64 hk (by rw [← hu'.out]; exact hf'.out)).mono ?_
    rintro e w2 ⟨A2, n2, c2, rfl, hS2, hK2⟩
    go_wp2_with fail
    go_ret
    exact ⟨A2, n2, c2, rfl, hS2, hK2⟩
  · have d0 : decide (524288 - (k : Int) < (u : Int)) = true := decide_eq_true (by omega)
    obtain ⟨h1, h2⟩ := wr_full (T := T) (X := digB k v) (by rw [hX]; omega)
    rw [h1, h2]
    clear hu hX h1 h2 hf hS hv
    go_enter Tryz.func190, Tryz.ntmps190
    go_wp2_with fail
    go_at_call 165
    refine (kB _).mono ?_
    rintro e w1 ⟨rfl, rfl⟩
    go_wp2_with fail
    go_ret
    exact ⟨A, n, c, rfl, hSh.out, WrK.here _ _ _ _ _⟩
set_option maxHeartbeats 4000000 in
theorem bio_WGamma (m : Nat) (hS : WrS w bw A n c T er) (hm : m < 9223372036854775808) :
    Calls Tryz.prog 193 #[.pointer (some ⟨bw, 0, none⟩), .int .i64 (m : Int)] w fun e w' => ∃ A' n' c', e = .returned (.int .i64 (wrE T (gamB m))) ∧ WrS w' bw A' n' c' (wrT T (gamB m)) er ∧ WrK w bw A n c w' A' n' c' := by
  have kB := fun w1 => len64 (m + 1) (by omega) w1
  have hX := gamB_len m
  have h64 := log2_small hm
  have hg : gamB m = digB (Nat.log2 (m + 1)) 0 ++ digB (Nat.log2 (m + 1) + 1) (m + 1) := by rw [digB_zero]; rfl
  rw [bitLen_log (by omega) (by omega)] at kB
  obtain ⟨L, hL⟩ : ∃ L, L = Nat.log2 (m + 1) := ⟨_, rfl⟩
  rw [← hL] at kB hX h64 hg
  have hle := hS.le
  have hSh := Lib.hid hS
  have m0 : decide ((m : Int) < 0) = false := decide_eq_false (by omega)
  have c0 : IntKind.u64.wrap (m : Int) = (m : Int) := by rw [IntKind.wrap_u64]; omega
  have c1 : IntKind.u64.wrap ((m : Int) + 1) = ((m + 1 : Nat) : Int) := by rw [IntKind.wrap_u64]; omega
  obtain ⟨k, hk⟩ : ∃ k, k = L + 1 := ⟨_, rfl⟩
  rw [← hk] at kB hg
  have e1 : IntKind.i64.wrap (2 * (k : Int)) = 2 * (k : Int) := IntWalk.i64_in _ (by omega)
  have e2 : IntKind.i64.wrap (2 * (k : Int) - 1) = 2 * (k : Int) - 1 := IntWalk.i64_in _ (by omega)
  have e3 : IntKind.i64.wrap (524288 - (2 * (k : Int) - 1)) = 524288 - (2 * (k : Int) - 1) := IntWalk.i64_in _ (by omega)
  have e4 : IntKind.i64.wrap ((k : Int) - 1) = (L : Int) := by rw [IntWalk.i64_in _ (by omega)]; omega
  obtain ⟨m1, hm1⟩ : ∃ m1, m1 = m + 1 := ⟨_, rfl⟩
  rw [← hm1] at kB c1 hg
  have hm64 : m1 < 18446744073709551616 := by omega
  obtain ⟨hbw, b0, b1, b2, f0, f1, f2⟩ := hS.box.open3'
  obtain ⟨u, hu⟩ : ∃ u, u = T.length := ⟨_, rfl⟩
  rw [← hu] at b1
  by_cases hf : u + (2 * L + 1) ≤ 524288
  · have d0 : decide (524288 - (2 * (k : Int) - 1) < (u : Int)) = false := decide_eq_false (by omega)
    obtain ⟨h1, h2⟩ := wr_fits (T := T) (X := gamB m) (by rw [hX]; omega)
    rw [h1, h2, hg, ← List.append_assoc]
    have p1 := Lib.hid (show T.length + L ≤ 524288 by omega)
    have p2 := Lib.hid (show (T ++ digB L 0).length + k ≤ 524288 by rw [List.length_append, digB_len]; omega)
    have p3 := Lib.hid (show L ≤ 64 by omega)
    have p4 := Lib.hid (show k ≤ 64 by omega)
    clear hu hX h1 h2 hf hS hg hL hk hm1
    go_enter Tryz.func193, Tryz.ntmps193
    go_wp2_with fail
    go_at_call 165
    refine (kB _).mono ?_
    rintro e w1 ⟨rfl, rfl⟩
    go_wp2_with fail
    go_at_call 191
    refine (bio_put bw 0 L A n c T er _ hSh.out (by decide) p3.out p1.out).mono ?_
    rintro e w2 ⟨A2, n2, c2, rfl, hS2, hK2⟩
    replace hS2 := Lib.hid hS2
    replace hK2 := Lib.hid hK2
    clear b0 b1 b2 f0 f1 f2
    go_wp2_with fail
    go_at_call 191
    refine (bio_put bw m1 k A2 n2 c2 _ er _ hS2.out hm64 p4.out p2.out).mono ?_
    rintro e w3 ⟨A3, n3, c3, rfl, hS3, hK3⟩
    replace hS3 := Lib.hid hS3
    replace hK3 := Lib.hid hK3
    go_wp2_with fail
    go_ret
    exact ⟨A3, n3, c3, rfl, hS3.out, hK2.out.trans hK3.out⟩
  · have d0 : decide (524288 - (2 * (k : Int) - 1) < (u : Int)) = true := decide_eq_true (by omega)
    obtain ⟨h1, h2⟩ := wr_full (T := T) (X := gamB m) (by rw [hX]; omega)
    rw [h1, h2]
    clear hu hX h1 h2 hf hS hg hL hk hm1
    go_enter Tryz.func193, Tryz.ntmps193
    go_wp2_with fail
    go_at_call 165
    refine (kB _).mono ?_
    rintro e w1 ⟨rfl, rfl⟩
    go_wp2_with fail
    go_ret
    exact ⟨A, n, c, rfl, hSh.out, WrK.here _ _ _ _ _⟩
set_option maxHeartbeats 4000000 in
theorem bio_WBytes (hS : WrS w bw A n c T er) :
    Calls Tryz.prog 83 #[.pointer (some ⟨bw, 0, none⟩)] w fun e w' => ∃ A' c', e = .returned (.slice A' n c') ∧ Rd encU 1 w' A' n (pkB T) ∧ Below w.heap.size w w' := by
  have hn := hS.len
  have hle := hS.le
  have hR := Lib.hid (hS.row.rd encU_len)
  have hn' : n ≤ 1000000 := by omega
  obtain ⟨hbw, b0, b1, b2, f0, f1, f2⟩ := hS.box.open3'
  clear hn hS hle
  go_enter Tryz.func83, Tryz.ntmps83
  go_wp2_with fail
  go_at_call 112
  refine (clone_u A n c _ _ hR.out hn').mono ?_
  rintro e w1 ⟨A', c', rfl, hO, hb⟩
  go_wp2_with fail
  go_ret
  exact ⟨A', c', rfl, hO.rd encU_len, hb⟩
end
end Go.Proofs.YtmenokhnanghgaaGreat
end
section
namespace Go.Proofs.YtmenokhnanghgaaGreat
open Go Go.RowKit
set_option maxRecDepth 100000
section
variable (bw : Nat) (A : Option Addr) (n c : Nat) (T : List Bool) (er : Int) (w : World)
set_option maxHeartbeats 4000000 in
theorem bio_WSigned (z : Int) (hS : WrS w bw A n c T er) (hz : -4611686018427387904 ≤ z ∧ z ≤ 4611686018427387903) :
    Calls Tryz.prog 195 #[.pointer (some ⟨bw, 0, none⟩), .int .i64 z] w fun e w' => ∃ A' n' c', e = .returned (.int .i64 (wrE T (sgnB z))) ∧ WrS w' bw A' n' c' (wrT T (sgnB z)) er ∧ WrK w bw A n c w' A' n' c' := by
  have kG := fun w1 h1 => bio_WGamma bw A n c T er w1 (foldZ z) h1 (foldZ_lt hz)
  have hSh := Lib.hid hS
  have z0 : decide (z < -4611686018427387904) = false := decide_eq_false (by omega)
  have z1 : decide (4611686018427387903 < z) = false := decide_eq_false (by omega)
  rw [show sgnB z = gamB (foldZ z) from rfl]
  generalize gamB (foldZ z) = X at kG
  by_cases hn : z < 0
  · by_cases hm : z = -4611686018427387904
    · have d0 : decide (z < 0) = true := decide_eq_true hn
      obtain ⟨y, hy⟩ : ∃ y : Int, y = -9223372036854775808 := ⟨_, rfl⟩
      have e0 : IntKind.i64.wrap (-2 * z) = y := by rw [IntKind.wrap_i64]; omega
      have e1 : IntKind.i64.wrap (y - 1) = ((foldZ z : Nat) : Int) := by
        rw [IntKind.wrap_i64]; unfold foldZ; rw [if_neg (by omega)]; omega
      generalize foldZ z = fz at kG e1
      clear hS hn hz hm hy
      go_enter Tryz.func195, Tryz.ntmps195
      go_wp2_with fail
      go_at_call 193
      refine (kG _ hSh.out).mono ?_
      rintro e w1 ⟨A2, n2, c2, rfl, hS2, hK2⟩
      replace hS2 := Lib.hid hS2
      replace hK2 := Lib.hid hK2
      go_wp2_with fail
      go_ret
      exact ⟨A2, n2, c2, rfl, hS2.out, hK2.out⟩
    · have d0 : decide (z < 0) = true := decide_eq_true hn
      have e0 : IntKind.i64.wrap (-2 * z) = -2 * z := IntWalk.i64_in _ (by omega)
      have e1 : IntKind.i64.wrap (-2 * z - 1) = ((foldZ z : Nat) : Int) := by
        rw [IntWalk.i64_in _ (by omega)]; unfold foldZ; rw [if_neg (by omega)]; omega
      generalize foldZ z = fz at kG e1
      clear hS hn hz hm
      go_enter Tryz.func195, Tryz.ntmps195
      go_wp2_with fail
      go_at_call 193
      refine (kG _ hSh.out).mono ?_
      rintro e w1 ⟨A2, n2, c2, rfl, hS2, hK2⟩
      replace hS2 := Lib.hid hS2
      replace hK2 := Lib.hid hK2
      go_wp2_with fail
      go_ret
      exact ⟨A2, n2, c2, rfl, hS2.out, hK2.out⟩
  · have d0 : decide (z < 0) = false := decide_eq_false hn
    have e1 : IntKind.i64.wrap (2 * z) = ((foldZ z : Nat) : Int) := by
      rw [IntWalk.i64_in _ (by omega)]; unfold foldZ; rw [if_pos (by omega)]; omega
    generalize foldZ z = fz at kG e1
    clear hS hn hz
    go_enter Tryz.func195, Tryz.ntmps195
    go_wp2_with fail
    go_at_call 193
    refine (kG _ hSh.out).mono ?_
    rintro e w1 ⟨A2, n2, c2, rfl, hS2, hK2⟩
    replace hS2 := Lib.hid hS2
    replace hK2 := Lib.hid hK2
    go_wp2_with fail
    go_ret
    exact ⟨A2, n2, c2, rfl, hS2.out, hK2.out⟩
end
end Go.Proofs.YtmenokhnanghgaaGreat
end
