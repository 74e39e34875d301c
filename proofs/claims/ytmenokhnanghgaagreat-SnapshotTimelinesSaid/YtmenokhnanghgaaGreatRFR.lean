/- The reference's reader of bits: Left, Bits. The reference's reader of bits: Gamma. By mkrft.py. The reference's reader of bits: Signed, End, Extend, NewReader. -/
import Derived.Test.YtmenokhnanghgaaGreatRFA
import Derived.Test.YtmenokhnanghgaaGreatSNE
set_option linter.unusedSimpArgs false
set_option linter.unusedVariables false
section
namespace Go.Proofs.YtmenokhnanghgaaGreat
open Go Go.RowKit
set_option maxRecDepth 100000
/-- The bits that a reader reads, and its place. -/
structure RrD (w : World) (bi : Nat) (A : Option Addr) (n c : Nat) (bs : List Bool) (p : Nat) : Prop where
  box : BxW w bi [.slice A n c, .int .i64 (p : Int)]
  rd : Rd encL 1 w A n bs
  le : n ≤ 524288
  off : 0 < n → ∀ b o, A = some ⟨b, o, none⟩ → b ≠ bi
section
variable {w w' : World} {bi : Nat} {A : Option Addr} {n c p : Nat} {bs : List Bool}
theorem RrD.of (h : RrD w bi A n c bs p) (hb : Below w.heap.size w w') : RrD w' bi A n c bs p := ⟨h.box.of hb, h.rd.of hb, h.le, h.off⟩
theorem RrD.len (h : RrD w bi A n c bs p) : bs.length = n := h.rd.len
theorem RrD.fr2 {R : Nat → Prop} (h : RrD w bi A n c bs p) (hf : Fr2 R w w') (hr : ¬ R bi) (hA : 0 < n → ∀ b o, A = some ⟨b, o, none⟩ → ¬ R b) : RrD w' bi A n c bs p := by
  have hbl := hf.block bi h.box.1 hr
  refine ⟨⟨Nat.lt_of_lt_of_le h.box.1 hf.size, fun i => (World.cell?_of_block hbl).trans (h.box.2.1 i), fun i => (World.frozen?_of_block hbl).trans (h.box.2.2 i)⟩, ⟨h.rd.1, fun hn => ?_⟩, h.le, h.off⟩
  obtain ⟨b, o, e, hb, hc⟩ := h.rd.2 hn
  exact ⟨b, o, e, Nat.lt_of_lt_of_le hb hf.size, fun i x hi j u hu => (World.cell?_of_block (hf.block b hb (hA hn b o e))).trans (hc i x hi j u hu)⟩
theorem RrD.put (h : RrD w bi A n c bs p) (q : Nat) : RrD (w.setCell ⟨bi, 1, none⟩ (.int .i64 (q : Int))) bi A n c bs q := by
  refine ⟨h.box.put 1 _ (by simp), Rd.grown (h := (A, n, c)) h.rd (grownBy_set w bi 1 _) (fun b hb e => ?_), h.le, h.off⟩
  injection e with e
  subst e
  unfold blkH at hb
  split at hb
  · cases hb
  · rename_i hne
    obtain ⟨b0, o0, e0, _⟩ := h.rd.2 (Nat.pos_of_ne_zero hne)
    have h1 := h.off (Nat.pos_of_ne_zero hne) b0 o0 e0
    subst e0
    simp at hb
    exact h1 hb.symm
end
set_option maxHeartbeats 4000000 in
theorem ref02_Left (bi : Nat) (A : Option Addr) (n c p : Nat) (bs : List Bool) (w : World) (h : RrD w bi A n c bs p) (hp : p ≤ n) :
    Calls Tryz.prog 122 #[.pointer (some ⟨bi, 0, none⟩)] w fun e w' => e = .returned (.int .i64 ((n - p : Nat) : Int)) ∧ Below w.heap.size w w' := by
  have hle := h.le
  obtain ⟨hbl, b0, b1, -, -⟩ := h.box.open2
  have e2 : IntKind.i64.wrap ((n : Int) - (p : Int)) = ((n - p : Nat) : Int) := by rw [IntWalk.i64_in _ (by omega)]; omega
  clear h
  go_enter Tryz.func122, Tryz.ntmps122
  go_wp2_with fail
  (refine wp_region_ext_lit (by kernel_rfl) (by kernel_rfl) ?_; (repeat (go_big_quiet_step (fail))); refine wpQuiet_nil ?_; intro _ hw'; obtain ⟨z1, hw''⟩ := hw'; subst hw''; have hs1 := z1.size; obtain ⟨hc1, hf1⟩ := bcell z1.below; (try simp only [World.size_alloc, World.size_setCell, World.size_drew] at hc1 hf1); (try simp at hs1))
  go_wp2_with fail
  go_ret
  exact ⟨by simp_all, by (repeat' (first | exact Below.refl _ _ | assumption | (refine Below.alloc ?_ ?_ _) | (refine Below.setCell ?_ ?_ _) | (refine Below.drew ?_) | (refine below_drewN ?_ _) | (refine below_after (Ext.below _) ?_ ?_) | (refine below_after (by assumption) ?_ ?_) | (simp; done) | omega | (simp; omega)))⟩
set_option maxHeartbeats 8000000 in
theorem ref02_RBits (bi : Nat) (A : Option Addr) (n c p k : Nat) (bs : List Bool) (w : World) (h : RrD w bi A n c bs p) (hp : p ≤ n) (hk : k ≤ 64) :
    Calls Tryz.prog 101 #[.pointer (some ⟨bi, 0, none⟩), .int .i64 (k : Int)] w fun e w' => e = .returned (.tuple #[.int .u64 (bitsR bs k (p, 0)).1, .int .i64 (bitsR bs k (p, 0)).2.2]) ∧ RrD w' bi A n c bs (bitsR bs k (p, 0)).2.1 ∧ Fr2 (fun q => q = bi) w w' := by
  have hle := h.le
  have hlen := h.len
  have hB := Lib.hid h
  have k0 : decide ((k : Int) < 0) = false := decide_eq_false (by omega)
  have k1 : decide (64 < (k : Int)) = false := decide_eq_false (by omega)
  have k2 : decide (64 < k) = false := decide_eq_false (by omega)
  obtain ⟨hbw, b0, b1, -, -⟩ := h.box.open2
  have e0 : IntKind.i64.wrap ((n : Int) - (p : Int)) = ((n - p : Nat) : Int) := by rw [IntWalk.i64_in _ (by omega)]; omega
  by_cases hl : k ≤ n - p
  · have es : bitsR bs k (p, 0) = (((numB ((bs.drop p).take k) : Nat) : Int), p + k, 0) := by
      unfold bitsR; rw [if_pos rfl, if_pos (by rw [hlen]; exact hl)]
    rw [es]
    have hpk : p + k ≤ n := by omega
    obtain ⟨L, hL⟩ : ∃ L : Nat, L = n - p := ⟨_, rfl⟩
    rw [← hL] at e0 hl
    have d0 : decide ((L : Int) < (k : Int)) = false := decide_eq_false (by omega)
    have d1 : decide (L < k) = false := decide_eq_false (by omega)
    have e1 : IntKind.i64.wrap ((p : Int) + (k : Int)) = ((p + k : Nat) : Int) := IntWalk.i64_in _ (by omega)
    replace hlen := Lib.hid hlen
    clear hL hl es h
    go_enter Tryz.func101, Tryz.ntmps101
    go_wp2_with fail
    (refine wp_region_ext_lit (by kernel_rfl) (by kernel_rfl) ?_; (repeat (go_big_quiet_step (fail))); refine wpQuiet_nil ?_; intro _ hw'; obtain ⟨z1, hw''⟩ := hw'; subst hw''; have hs1 := z1.size; obtain ⟨hc1, hf1⟩ := bcell z1.below; (try simp only [World.size_alloc, World.size_setCell, World.size_drew] at hc1 hf1); (try simp at hs1))
    have hz1 := z1.below
    obtain ⟨w1, hw1⟩ : ∃ w1, w1 = z1.world := ⟨_, rfl⟩
    rw [← hw1] at hz1 ⊢
    clear hw1 hc1 hf1 hs1 z1 b0 b1 hbw
    go_wp2_with fail
    go_loopw [6, 7] (fun v i wr => ∃ j : Nat, v = .int .u64 ((numB ((bs.drop p).take j) : Nat) : Int) ∧ i = .int .i64 j ∧ j ≤ k ∧ Below w.heap.size w wr) (fun _ i _ => k - (intOf i).toNat)
    case atStart => exact ⟨0, rfl, rfl, by omega, hz1⟩
    case round =>
      clear hz1
      obtain ⟨j, rfl, rfl, hj, hb⟩ := hrel
      have hBr := Lib.hid (hB.out.of hb)
      obtain ⟨_, b0, b1, f0, f1⟩ := hBr.out.box.open2
      have hsz := hb.size
      by_cases hlt : j < k
      · have dj : decide ((j : Int) < k) = true := decide_eq_true (by omega)
        have dj' : decide (j < k) = true := decide_eq_true hlt
        obtain ⟨b, hb1, hb2⟩ := bits_at (bs := bs) (p := p) (j := j) (by rw [hlen.out]; omega)
        obtain ⟨x, q, o, hx, rfl, hq, cx⟩ := hBr.out.rd.bool_ (i := p + j) (by omega)
        obtain rfl : x = b := by have := hx.out.symm.trans hb1; injection this
        have hst := Lib.hid (numB_take hb2)
        have hs := numB_small (bs := bs.drop p) (j := j) (by omega)
        have e2 : IntKind.i64.wrap ((p : Int) + (j : Int)) = ((p + j : Nat) : Int) := IntWalk.i64_in _ (by omega)
        have i0 : (0 : Int) ≤ ((p + j : Nat) : Int) := by omega
        have i1 : ((p + j : Nat) : Int) < (n : Int) := by omega
        have e3 : IntKind.u64.wrap (((numB ((bs.drop p).take j) : Nat) : Int) * 2) = ((numB ((bs.drop p).take j) : Nat) : Int) * 2 := by rw [IntKind.wrap_u64]; omega
        have e4 : IntKind.u64.wrap (((numB ((bs.drop p).take j) : Nat) : Int) * 2 + 1) = ((numB ((bs.drop p).take j) : Nat) : Int) * 2 + 1 := by rw [IntKind.wrap_u64]; omega
        obtain ⟨v1, hv1⟩ : ∃ v1, v1 = numB ((bs.drop p).take (j + 1)) := ⟨_, rfl⟩
        rw [← hv1] at hst
        replace hv1 := Lib.hid hv1
        generalize numB ((bs.drop p).take j) = v0 at e3 e4 hs hst
        clear hb1 hb2 hx
        cases x with
        | true =>
          go_wp2_with fail
          (refine wp_region_ext_lit (by kernel_rfl) (by kernel_rfl) ?_; (repeat (go_big_quiet_step (fail))); refine wpQuiet_nil ?_; intro _ hw'; obtain ⟨z2, hw''⟩ := hw'; subst hw''; have hs2 := z2.size; obtain ⟨hc2, hf2⟩ := bcell z2.below; (try simp only [World.size_alloc, World.size_setCell, World.size_drew] at hc2 hf2); (try simp at hs2))
          have hb2 := below_thru hb z2.below
          go_wp2_with fail
          go_roundw
          case rel => exact ⟨j + 1, by rw [← hv1.out, hst.out]; simp only [Bool.toNat_true]; congr 1; omega, by go_num, by omega, hb2⟩
          case measure => simp [intOf]; omega
        | false =>
          go_wp2_with fail
          (refine wp_region_ext_lit (by kernel_rfl) (by kernel_rfl) ?_; (repeat (go_big_quiet_step (fail))); refine wpQuiet_nil ?_; intro _ hw'; obtain ⟨z2, hw''⟩ := hw'; subst hw''; have hs2 := z2.size; obtain ⟨hc2, hf2⟩ := bcell z2.below; (try simp only [World.size_alloc, World.size_setCell, World.size_drew] at hc2 hf2); (try simp at hs2))
          have hb2 := below_thru hb z2.below
          go_wp2_with fail
          go_roundw
          case rel => exact ⟨j + 1, by rw [← hv1.out, hst.out]; simp only [Bool.toNat_false]; congr 1; omega, by go_num, by omega, hb2⟩
          case measure => simp [intOf]; omega
      · obtain rfl : j = k := by omega
        have dj : decide ((j : Int) < j) = false := decide_eq_false (by omega)
        have dj' : decide (j < j) = false := decide_eq_false (by omega)
        go_wp2_with fail
        refine bodyPost_ret (v := .tuple #[.int .u64 ((numB ((bs.drop p).take j) : Nat) : Int), .int .i64 0]) (by simp [results, Tryz.results101, go_sem, *, ↓IntWalk.iteOmega]) rfl ?_
        exact ⟨rfl, hBr.out.put (p + j), ((Fr2.here w _).of hb).grown (grownBy_set _ _ _ _) (fun q e => by injection e with e; exact .inl e.symm)⟩
  · have es : bitsR bs k (p, 0) = (0, p, 4) := by
      unfold bitsR; rw [if_pos rfl, if_neg (by rw [hlen]; exact hl)]
    rw [es]
    obtain ⟨L, hL⟩ : ∃ L : Nat, L = n - p := ⟨_, rfl⟩
    rw [← hL] at e0 hl
    have d0 : decide ((L : Int) < (k : Int)) = true := decide_eq_true (by omega)
    have d1 : decide (L < k) = true := decide_eq_true (by omega)
    clear hL hl hlen h es
    go_enter Tryz.func101, Tryz.ntmps101
    go_wp2_with fail
    (refine wp_region_ext_lit (by kernel_rfl) (by kernel_rfl) ?_; (repeat (go_big_quiet_step (fail))); refine wpQuiet_nil ?_; intro _ hw'; obtain ⟨z1, hw''⟩ := hw'; subst hw''; have hs1 := z1.size; obtain ⟨hc1, hf1⟩ := bcell z1.below; (try simp only [World.size_alloc, World.size_setCell, World.size_drew] at hc1 hf1); (try simp at hs1))
    have hb1 := Lib.hid z1.below
    go_wp2_with fail
    refine bodyPost_ret (v := .tuple #[.int .u64 0, .int .i64 4]) (by simp [results, Tryz.results101, go_sem, *, ↓IntWalk.iteOmega]) rfl ?_
    exact ⟨rfl, hB.out.of hb1.out, (Fr2.here w _).of hb1.out⟩
end Go.Proofs.YtmenokhnanghgaaGreat
end
section
namespace Go.Proofs.YtmenokhnanghgaaGreat
open Go Go.RowKit
set_option maxRecDepth 100000
theorem rr_set {w wr : World} {bi : Nat} {A : Option Addr} {n c p q : Nat} {bs : List Bool} (h : RrD wr bi A n c bs p) (hb : Below w.heap.size w wr) : RrD (wr.setCell ⟨bi, 1, none⟩ (.int .i64 (q : Int))) bi A n c bs q ∧ Fr2 (fun b => b = bi) w (wr.setCell ⟨bi, 1, none⟩ (.int .i64 (q : Int))) :=
  ⟨h.put q, ((Fr2.here w _).of hb).grown (grownBy_set _ _ _ _) (fun q e => by injection e with e; exact .inl e.symm)⟩
theorem bits_gam {bs : List Bool} {p j L : Nat} (hL : bs.length - p = L) (hj : 2 * j + 1 ≤ L) : bitsR bs (j + 1) (p + j, 0) = (((numB ((bs.drop (p + j)).take (j + 1)) : Nat) : Int), p + (2 * j + 1), 0) := by
  unfold bitsR
  rw [if_pos rfl, if_pos (by simp only; omega)]
  show (_, p + j + (j + 1), _) = _
  rw [show p + j + (j + 1) = p + (2 * j + 1) by omega]
theorem bits_gam_no {bs : List Bool} {p j L : Nat} (hL : bs.length - p = L) (hj : ¬ 2 * j + 1 ≤ L) (hjL : j ≤ L) : bitsR bs (j + 1) (p + j, 0) = (0, p + j, 4) := by
  unfold bitsR
  rw [if_pos rfl, if_neg (by simp only; omega)]
set_option maxHeartbeats 16000000 in
theorem ref02_RGamma (bi : Nat) (A : Option Addr) (n c p : Nat) (bs : List Bool) (w : World) (h : RrD w bi A n c bs p) (hp : p ≤ n) :
    Calls Tryz.prog 102 #[.pointer (some ⟨bi, 0, none⟩)] w fun e w' => e = .returned (.tuple #[.int .i64 (gamR bs (p, 0)).1, .int .i64 (gamR bs (p, 0)).2.2]) ∧ RrD w' bi A n c bs (gamR bs (p, 0)).2.1 ∧ Fr2 (fun q => q = bi) w w' := by
  have hle := h.le
  have hlen := h.len
  have hB := Lib.hid h
  obtain ⟨L, hL⟩ : ∃ L : Nat, L = n - p := ⟨_, rfl⟩
  have hLL := Lib.hid (show bs.length - p = L by rw [hlen]; exact hL.symm)
  have hpL : p + L = n := by omega
  replace hlen := Lib.hid hlen
  obtain ⟨hbw, b0, b1, -, -⟩ := h.box.open2
  clear hL h
  go_enter Tryz.func102, Tryz.ntmps102
  go_wp2_with fail
  clear b0 b1 hbw
  go_loopw [5] (fun i wr => ∃ j : Nat, i = .int .i64 j ∧ j ≤ L ∧ j < 64 ∧ Hid (∀ i, i < j → (bs.drop p)[i]? = some false) ∧ Below w.heap.size w wr) (fun i _ => L - (intOf i).toNat)
  case atStart => exact ⟨0, rfl, by omega, by omega, Lib.hid (fun i hi => by omega), Below.refl _ _⟩
  case round =>
    obtain ⟨j, rfl, hj, hj64, hno, hb⟩ := hrel
    have hBr := Lib.hid (hB.out.of hb)
    obtain ⟨hbs, b0, b1, f0, f1⟩ := hBr.out.box.open2
    have hsz := hb.size
    have e1 : IntKind.i64.wrap ((p : Int) + (j : Int)) = ((p + j : Nat) : Int) := IntWalk.i64_in _ (by omega)
    by_cases hlt : j < L
    · have dj : decide ((p : Int) + (j : Int) < (n : Int)) = true := decide_eq_true (by omega)
      have dj' : decide (p + j < n) = true := decide_eq_true (by omega)
      obtain ⟨b, hb1, hb2⟩ := bits_at (bs := bs) (p := p) (j := j) (by rw [hlen.out]; omega)
      obtain ⟨x, q, o, hx, rfl, hq, cx⟩ := hBr.out.rd.bool_ (i := p + j) (by omega)
      obtain rfl : x = b := by have := hx.out; rw [hb1] at this; injection this with this; exact this.symm
      have i0 : (0 : Int) ≤ (p : Int) + (j : Int) := by omega
      have i1 : (p : Int) + (j : Int) < (n : Int) := by omega
      cases x with
      | true =>
        have hz := zrs_at (bs.drop p) j (by rw [List.length_drop, hLL.out]; exact hlt) hno.out hb2
        have hg := Lib.hid (gam_A hLL.out hz hj64)
        have hps := Lib.hid (num_pos hz)
        clear hb2 hb1 hz hx
        go_wp2_with fail
        (refine wp_region_ext_lit (by kernel_rfl) (by kernel_rfl) ?_; (repeat (go_big_quiet_step (fail))); refine wpQuiet_nil ?_; intro _ hw'; obtain ⟨z2, hw''⟩ := hw'; subst hw''; have hs2 := z2.size; obtain ⟨hc2, hf2⟩ := bcell z2.below; (try simp only [World.size_alloc, World.size_setCell, World.size_drew] at hc2 hf2); (try simp at hs2))
        have hb2 := below_thru hb z2.below
        obtain ⟨w2, hw2⟩ : ∃ w2, w2 = z2.world := ⟨_, rfl⟩
        rw [← hw2] at hb2 ⊢
        clear hw2 hc2 hf2 hs2 z2
        have hB2 := Lib.hid (hB.out.of hb2)
        clear b0 b1 cx
        obtain ⟨_, b0, b1, f0, f1⟩ := hB2.out.box.open2
        by_cases hs : 2 * j + 1 ≤ L
        · have hbg := Lib.hid (bits_gam hLL.out hs)
          have hm1 := hps.out (by rw [hLL.out]; exact hs)
          have hm2 := num_lt (bs := bs.drop (p + j)) (k := j + 1) (by omega)
          unfold gamA at hg
          rw [if_pos hs] at hg
          generalize numB ((bs.drop (p + j)).take (j + 1)) = v at hbg hg hm1 hm2
          have e4 : IntKind.u64.wrap ((v : Int) - 1) = (v : Int) - 1 := by rw [IntKind.wrap_u64]; omega
          have e6 : IntKind.i64.wrap ((j : Int) + 1) = ((j + 1 : Nat) : Int) := IntWalk.i64_in _ (by omega)
          obtain ⟨hS3, hF3⟩ := rr_set (q := p + j) hB2.out hb2
          replace hS3 := Lib.hid hS3
          replace hF3 := Lib.hid hF3
          go_wp2_with fail
          go_at_call 101
          refine (ref02_RBits bi _ n c (p + j) (j + 1) bs _ hS3.out (by first | omega | (have := hpn.out; omega)) (by omega)).mono ?_
          rw [hbg.out]
          rintro e w5 ⟨rfl, hD5, hF5⟩
          clear b0 b1 f0 f1
          obtain ⟨_, b0, b1, f0, f1⟩ := hD5.box.open2
          replace hD5 := Lib.hid hD5
          replace hF5 := Lib.hid (hF3.out.then hF5 (fun _ _ e => e))
          by_cases hv : v ≤ 9223372036854775808
          · rw [if_pos hv] at hg
            have d1 : decide (9223372036854775807 < (v : Int) - 1) = false := decide_eq_false (by omega)
            have e5 : IntKind.i64.wrap ((v : Int) - 1) = (v : Int) - 1 := IntWalk.i64_in _ (by omega)
            go_wp2_with fail
            refine bodyPost_ret (v := .tuple #[.int .i64 ((v : Int) - 1), .int .i64 0]) (by simp [results, Tryz.results102, go_sem, *, ↓IntWalk.iteOmega]) rfl ?_
            rw [hg.out]
            exact ⟨rfl, hD5.out, hF5.out⟩
          · rw [if_neg hv] at hg
            have d1 : decide (9223372036854775807 < (v : Int) - 1) = true := decide_eq_true (by omega)
            go_wp2_with fail
            refine bodyPost_ret (v := .tuple #[.int .i64 0, .int .i64 3]) (by simp [results, Tryz.results102, go_sem, *, ↓IntWalk.iteOmega]) rfl ?_
            rw [hg.out]
            exact ⟨rfl, hD5.out.put p, hF5.out.put 1 _ (.inl rfl)⟩
        · have hbg := Lib.hid (bits_gam_no hLL.out hs (by omega))
          unfold gamA at hg
          rw [if_neg hs] at hg
          have e6 : IntKind.i64.wrap ((j : Int) + 1) = ((j + 1 : Nat) : Int) := IntWalk.i64_in _ (by omega)
          obtain ⟨hS3, hF3⟩ := rr_set (q := p + j) hB2.out hb2
          replace hS3 := Lib.hid hS3
          replace hF3 := Lib.hid hF3
          go_wp2_with fail
          go_at_call 101
          refine (ref02_RBits bi _ n c (p + j) (j + 1) bs _ hS3.out (by first | omega | (have := hpn.out; omega)) (by omega)).mono ?_
          rw [hbg.out]
          rintro e w5 ⟨rfl, hD5, hF5⟩
          clear b0 b1 f0 f1
          obtain ⟨_, b0, b1, f0, f1⟩ := hD5.box.open2
          replace hD5 := Lib.hid hD5
          replace hF5 := Lib.hid (hF3.out.then hF5 (fun _ _ e => e))
          go_wp2_with fail
          refine bodyPost_ret (v := .tuple #[.int .i64 0, .int .i64 4]) (by simp [results, Tryz.results102, go_sem, *, ↓IntWalk.iteOmega]) rfl ?_
          rw [hg.out]
          exact ⟨rfl, hD5.out.put p, hF5.out.put 1 _ (.inl rfl)⟩
      | false =>
        by_cases h63 : j = 63
        · have hg := Lib.hid (gam_64 (zrs_ge (bs.drop p) 64 (by rw [List.length_drop, hLL.out]; omega) (by rw [show 64 = j + 1 by omega]; exact none_bit hno.out hb2 rfl)))
          have e3 : IntKind.i64.wrap ((j : Int) + 1) = ((j + 1 : Nat) : Int) := IntWalk.i64_in _ (by omega)
          have d63 : (((j + 1 : Nat) : Int) == 64) = true := by simp; omega
          have d6 : (((j : Int) + 1) == 64) = true := by simp; omega
          have d63' : decide ((j : Int) + 1 = 64) = true := decide_eq_true (by omega)
          have d63'' : decide (j + 1 = 64) = true := decide_eq_true (by omega)
          clear hb2 hb1 hx h63
          go_wp2_with fail
          (refine wp_region_ext_lit (by kernel_rfl) (by kernel_rfl) ?_; (repeat (go_big_quiet_step (fail))); refine wpQuiet_nil ?_; intro _ hw'; obtain ⟨z2, hw''⟩ := hw'; subst hw''; have hs2 := z2.size; obtain ⟨hc2, hf2⟩ := bcell z2.below; (try simp only [World.size_alloc, World.size_setCell, World.size_drew] at hc2 hf2); (try simp at hs2))
          have hb2 := below_thru hb z2.below
          obtain ⟨w2, hw2⟩ : ∃ w2, w2 = z2.world := ⟨_, rfl⟩
          rw [← hw2] at hb2 ⊢
          clear hw2 hc2 hf2 hs2 z2
          have hB2 := Lib.hid (hB.out.of hb2)
          go_wp2_with fail
          refine bodyPost_ret (v := .tuple #[.int .i64 0, .int .i64 3]) (by simp [results, Tryz.results102, go_sem, *, ↓IntWalk.iteOmega]) rfl ?_
          rw [hg.out]
          exact ⟨rfl, hB2.out, (Fr2.here w _).of hb2⟩
        · have hno2 := Lib.hid (none_bit hno.out hb2 rfl)
          have e3 : IntKind.i64.wrap ((j : Int) + 1) = ((j + 1 : Nat) : Int) := IntWalk.i64_in _ (by omega)
          have d63 : (((j + 1 : Nat) : Int) == 64) = false := by simp; omega
          have d63' : decide (((j + 1 : Nat) : Int) = 64) = false := decide_eq_false (by omega)
          have d63'' : decide (j + 1 = 64) = false := decide_eq_false (by omega)
          have d6 : (((j : Int) + 1) == 64) = false := by simp; omega
          clear hb2 hb1 hx
          go_wp2_with fail
          (refine wp_region_ext_lit (by kernel_rfl) (by kernel_rfl) ?_; (repeat (go_big_quiet_step (fail))); refine wpQuiet_nil ?_; intro _ hw'; obtain ⟨z2, hw''⟩ := hw'; subst hw''; have hs2 := z2.size; obtain ⟨hc2, hf2⟩ := bcell z2.below; (try simp only [World.size_alloc, World.size_setCell, World.size_drew] at hc2 hf2); (try simp at hs2))
          have hb2 := below_thru hb z2.below
          obtain ⟨w2, hw2⟩ : ∃ w2, w2 = z2.world := ⟨_, rfl⟩
          rw [← hw2] at hb2 ⊢
          clear hw2 hc2 hf2 hs2 z2
          have hB2 := Lib.hid (hB.out.of hb2)
          go_wp2_with fail
          go_roundw
          case rel => exact ⟨j + 1, by go_num, by omega, by omega, hno2, hb2⟩
          case measure => simp [intOf]; omega
    · obtain rfl : j = L := by omega
      have dj : decide ((p : Int) + (j : Int) < (n : Int)) = false := decide_eq_false (by omega)
      have dj' : decide (p + j < n) = false := decide_eq_false (by omega)
      have hz := zrs_all hLL.out hno.out
      have hg := Lib.hid (gam_A hLL.out hz hj64)
      have hs : ¬ 2 * j + 1 ≤ j := by omega
      have hbg := Lib.hid (bits_gam_no hLL.out hs (by omega))
      clear hz
      unfold gamA at hg
      rw [if_neg hs] at hg
      have hpn := Lib.hid hpL
      clear hpL
      go_wp2_with fail
      (refine wp_region_ext_lit (by kernel_rfl) (by kernel_rfl) ?_; (repeat (go_big_quiet_step (fail))); refine wpQuiet_nil ?_; intro _ hw'; obtain ⟨z2, hw''⟩ := hw'; subst hw''; have hs2 := z2.size; obtain ⟨hc2, hf2⟩ := bcell z2.below; (try simp only [World.size_alloc, World.size_setCell, World.size_drew] at hc2 hf2); (try simp at hs2))
      have hb2 := below_thru hb z2.below
      obtain ⟨w2, hw2⟩ : ∃ w2, w2 = z2.world := ⟨_, rfl⟩
      rw [← hw2] at hb2 ⊢
      clear hw2 hc2 hf2 hs2 z2
      have hB2 := Lib.hid (hB.out.of hb2)
      clear b0 b1
      obtain ⟨_, b0, b1, f0, f1⟩ := hB2.out.box.open2
      have e6 : IntKind.i64.wrap ((j : Int) + 1) = ((j + 1 : Nat) : Int) := IntWalk.i64_in _ (by omega)
      obtain ⟨hS3, hF3⟩ := rr_set (q := p + j) hB2.out hb2
      replace hS3 := Lib.hid hS3
      replace hF3 := Lib.hid hF3
      go_wp2_with fail
      go_at_call 101
      refine (ref02_RBits bi _ n c (p + j) (j + 1) bs _ hS3.out (by first | omega | (have := hpn.out; omega)) (by omega)).mono ?_
      rw [hbg.out]
      rintro e w5 ⟨rfl, hD5, hF5⟩
      clear b0 b1 f0 f1
      obtain ⟨_, b0, b1, f0, f1⟩ := hD5.box.open2
      replace hD5 := Lib.hid hD5
      replace hF5 := Lib.hid (hF3.out.then hF5 (fun _ _ e => e))
      go_wp2_with fail
      refine bodyPost_ret (v := .tuple #[.int .i64 0, .int .i64 4]) (by simp [results, Tryz.results102, go_sem, *, ↓IntWalk.iteOmega]) rfl ?_
      rw [hg.out]
      exact ⟨rfl, hD5.out.put p, hF5.out.put 1 _ (.inl rfl)⟩
end Go.Proofs.YtmenokhnanghgaaGreat
end
section
namespace Go.Proofs.YtmenokhnanghgaaGreat
open Go Go.RowKit
set_option maxRecDepth 100000
theorem gamR_err {bs : List Bool} {p : Nat} (h : (gamR bs (p, 0)).2.2 ≠ 0) : (gamR bs (p, 0)).1 = 0 := by
  unfold gamR at h ⊢
  rw [if_pos rfl] at h ⊢
  split
  · rename_i h1
    rw [if_pos h1] at h
    split
    · rename_i h2
      rw [if_pos h2] at h
      split
      · rename_i h3
        rw [if_pos h3] at h
        exact absurd rfl h
      · rfl
    · rfl
  · rfl
set_option maxHeartbeats 4000000 in
theorem ref02_RSigned (bi : Nat) (A : Option Addr) (n c p : Nat) (bs : List Bool) (w : World) (h : RrD w bi A n c bs p) (hp : p ≤ n) :
    Calls Tryz.prog 134 #[.pointer (some ⟨bi, 0, none⟩)] w fun e w' => e = .returned (.tuple #[.int .i64 (sgnR bs (p, 0)).1, .int .i64 (sgnR bs (p, 0)).2.2]) ∧ RrD w' bi A n c bs (sgnR bs (p, 0)).2.1 ∧ Fr2 (fun q => q = bi) w w' := by
  have kG := fun w1 h1 => ref02_RGamma bi A n c p bs w1 h1 hp
  have hnn := gamR_nn (bs := bs) (s := (p, 0))
  have her := gamR_err (bs := bs) (p := p)
  have hB := Lib.hid h
  clear h
  have hsg : sgnR bs (p, 0) = (unfZ (gamR bs (p, 0)).1, (gamR bs (p, 0)).2) := rfl
  rw [hsg]
  clear hsg
  generalize gamR bs (p, 0) = g at kG hnn her
  obtain ⟨g1, g2, g3⟩ := g
  simp only at kG hnn her ⊢
  obtain ⟨m, rfl⟩ : ∃ m : Nat, g1 = (m : Int) := ⟨g1.toNat, by omega⟩
  by_cases h0 : g3 = 0
  · subst h0
    have e1 : (m : Int).tmod 2 = ((m % 2 : Nat) : Int) := rfl
    have e2 : (m : Int).tdiv 2 = ((m / 2 : Nat) : Int) := rfl
    have e3 : IntKind.i64.wrap ((m / 2 : Nat) : Int) = ((m / 2 : Nat) : Int) := IntWalk.i64_in _ (by omega)
    clear her
    by_cases h2 : m % 2 = 0
    · have hu : unfZ (m : Int) = ((m / 2 : Nat) : Int) := by unfold unfZ; rw [if_neg (by omega)]; omega
      rw [hu]
      have d1 : (((m % 2 : Nat) : Int) == 0) = true := by simp; omega
      have d1' : decide (((m % 2 : Nat) : Int) = 0) = true := decide_eq_true (by omega)
      clear hu
      go_enter Tryz.func134, Tryz.ntmps134
      go_wp2_with fail
      go_at_call 102
      refine (kG _ hB.out).mono ?_
      rintro e w1 ⟨rfl, hB1, hf1⟩
      replace hB1 := Lib.hid hB1
      replace hf1 := Lib.hid hf1
      go_wp2_with fail
      refine bodyPost_ret (v := .tuple #[.int .i64 ((m / 2 : Nat) : Int), .int .i64 0]) (by simp [results, Tryz.results134, go_sem, *, ↓IntWalk.iteOmega]) rfl ?_
      exact ⟨rfl, hB1.out, hf1.out⟩
    · have hu : unfZ (m : Int) = -((m / 2 : Nat) : Int) - 1 := by unfold unfZ; rw [if_pos (by omega)]; omega
      rw [hu]
      have d1 : (((m % 2 : Nat) : Int) == 0) = false := by simp; omega
      have d1' : decide (((m % 2 : Nat) : Int) = 0) = false := decide_eq_false (by omega)
      have e4 : IntKind.i64.wrap (-((m / 2 : Nat) : Int)) = -((m / 2 : Nat) : Int) := IntWalk.i64_in _ (by omega)
      have e5 : IntKind.i64.wrap (-((m / 2 : Nat) : Int) - 1) = -((m / 2 : Nat) : Int) - 1 := IntWalk.i64_in _ (by omega)
      clear hu
      go_enter Tryz.func134, Tryz.ntmps134
      go_wp2_with fail
      go_at_call 102
      refine (kG _ hB.out).mono ?_
      rintro e w1 ⟨rfl, hB1, hf1⟩
      replace hB1 := Lib.hid hB1
      replace hf1 := Lib.hid hf1
      go_wp2_with fail
      refine bodyPost_ret (v := .tuple #[.int .i64 (-((m / 2 : Nat) : Int) - 1), .int .i64 0]) (by simp [results, Tryz.results134, go_sem, *, ↓IntWalk.iteOmega]) rfl ?_
      exact ⟨rfl, hB1.out, hf1.out⟩
  · have hm := her h0
    obtain rfl : m = 0 := by omega
    have d0 : (g3 != 0) = true := by simpa using h0
    rw [show unfZ ((0 : Nat) : Int) = 0 from rfl]
    clear her hm h0
    go_enter Tryz.func134, Tryz.ntmps134
    go_wp2_with fail
    go_at_call 102
    refine (kG _ hB.out).mono ?_
    rintro e w1 ⟨rfl, hB1, hf1⟩
    replace hB1 := Lib.hid hB1
    replace hf1 := Lib.hid hf1
    go_wp2_with fail
    refine bodyPost_ret (v := .tuple #[.int .i64 0, .int .i64 g3]) (by simp [results, Tryz.results134, go_sem, *, ↓IntWalk.iteOmega]) rfl ?_
    exact ⟨rfl, hB1.out, hf1.out⟩
theorem endR_far {bs : List Bool} {p L : Nat} (hL : bs.length - p = L) (h : ¬ L < 8) : endR bs (p, 0) = false := by
  unfold endR
  rw [show decide (bs.length - (p, (0 : Int)).1 < 8) = false from decide_eq_false (by simp only; omega), Bool.false_and]
theorem endR_bit {bs : List Bool} {p j : Nat} (h : (bs.drop p)[j]? = some true) : endR bs (p, 0) = false := by
  unfold endR
  rw [Bool.and_eq_false_iff]
  right
  rw [List.all_eq_false]
  exact ⟨true, List.mem_of_getElem? h, by simp⟩
theorem endR_all {bs : List Bool} {p L : Nat} (hL : bs.length - p = L) (h : L < 8) (ha : ∀ i, i < L → (bs.drop p)[i]? = some false) : endR bs (p, 0) = true := by
  unfold endR
  rw [show decide (bs.length - (p, (0 : Int)).1 < 8) = true from decide_eq_true (by simp only; omega), Bool.true_and, List.all_eq_true]
  intro b hb
  obtain ⟨i, hi, rfl⟩ := List.getElem_of_mem hb
  have h2 : i < L := by rw [← hL, ← List.length_drop]; exact hi
  have := ha i h2
  rw [List.getElem?_eq_getElem hi] at this
  injection this with this
  rw [show (List.drop (p, (0 : Int)).1 bs)[i] = false from this]; rfl
set_option maxHeartbeats 4000000 in
theorem ref02_REnd (bi : Nat) (A : Option Addr) (n c p : Nat) (bs : List Bool) (w : World) (h : RrD w bi A n c bs p) (hp : p ≤ n) :
    Calls Tryz.prog 94 #[.pointer (some ⟨bi, 0, none⟩)] w fun e w' => e = .returned (.bool (endR bs (p, 0))) ∧ Below w.heap.size w w' := by
  have hle := h.le
  have hlen := h.len
  obtain ⟨L, hL⟩ : ∃ L : Nat, L = n - p := ⟨_, rfl⟩
  have hLL := Lib.hid (show bs.length - p = L by rw [hlen]; exact hL.symm)
  have kL := fun w1 h1 => ref02_Left bi A n c p bs w1 h1 hp
  rw [← hL] at kL
  have hpL : p + L = n := by omega
  have hB := Lib.hid h
  replace hlen := Lib.hid hlen
  clear hL h
  by_cases h8 : L < 8
  · have d0 : decide (7 < (L : Int)) = false := decide_eq_false (by omega)
    have d0' : decide (7 < L) = false := decide_eq_false (by omega)
    go_enter Tryz.func94, Tryz.ntmps94
    go_wp2_with fail
    go_at_call 122
    refine (kL _ hB.out).mono ?_
    rintro e w1 ⟨rfl, hb1⟩
    obtain ⟨_, b0, b1, f0, f1⟩ := (hB.out.of hb1).box.open2
    go_wp2_with fail
    clear b0 b1 f0 f1
    go_loopw [3] (fun i wr => ∃ j : Nat, i = .int .i64 ((p : Int) + (j : Int)) ∧ j ≤ L ∧ Hid (∀ i, i < j → (bs.drop p)[i]? = some false) ∧ Below w.heap.size w wr) (fun i _ => n - (intOf i).toNat)
    case atStart => exact ⟨0, by simp, by omega, Lib.hid (fun i hi => by omega), hb1⟩
    case round =>
      clear hb1
      obtain ⟨j, rfl, hj, hno, hb⟩ := hrel
      have hBr := hB.out.of hb
      obtain ⟨hbs, b0, b1, f0, f1⟩ := hBr.box.open2
      obtain ⟨t, ht⟩ : ∃ t, t = p + j := ⟨_, rfl⟩
      have et : (p : Int) + (j : Int) = (t : Int) := by omega
      rw [et]
      by_cases hlt : j < L
      · have dj : decide ((t : Int) < (n : Int)) = true := decide_eq_true (by omega)
        have dj' : decide (t < n) = true := decide_eq_true (by omega)
        obtain ⟨b, hb1, hb2⟩ := bits_at (bs := bs) (p := p) (j := j) (by rw [hlen.out]; omega)
        obtain ⟨x, q, o, hx, rfl, hq, cx⟩ := hBr.rd.bool_ (i := t) (by omega)
        obtain rfl : x = b := by have := hx.out; rw [ht, hb1] at this; injection this with this; exact this.symm
        have i0 : (0 : Int) ≤ (t : Int) := by omega
        have i1 : (t : Int) < (n : Int) := by omega
        cases x with
        | true =>
          have he := Lib.hid (endR_bit hb2)
          clear hb1 hb2 hx hBr hno et ht
          go_wp2_with fail
          go_ret
          exact ⟨ret_boolU he.out, hb⟩
        | false =>
          have hno2 := Lib.hid (none_bit hno.out hb2 rfl)
          have e3 : IntKind.i64.wrap ((t : Int) + 1) = (t : Int) + 1 := IntWalk.i64_in _ (by omega)
          have hrl := Lib.hid (show (t : Int) + 1 = (p : Int) + ((j + 1 : Nat) : Int) by omega)
          clear hb1 hb2 hx hBr hno et ht
          go_wp2_with fail
          go_roundw
          case rel => exact ⟨j + 1, by rw [← hrl.out], by omega, hno2, hb⟩
          case measure => simp [intOf]; omega
      · obtain rfl : j = L := by omega
        have dj : decide ((t : Int) < (n : Int)) = false := decide_eq_false (by omega)
        have dj' : decide (t < n) = false := decide_eq_false (by omega)
        have he := Lib.hid (endR_all hLL.out h8 hno.out)
        clear hBr hno et ht
        go_wp2_with fail
        go_ret
        exact ⟨ret_boolU he.out, hb⟩
  · have d0 : decide (7 < (L : Int)) = true := decide_eq_true (by omega)
    have d0' : decide (7 < L) = true := decide_eq_true (by omega)
    have he := Lib.hid (endR_far hLL.out h8)
    go_enter Tryz.func94, Tryz.ntmps94
    go_wp2_with fail
    go_at_call 122
    refine (kL _ hB.out).mono ?_
    rintro e w1 ⟨rfl, hb1⟩
    replace hb1 := Lib.hid hb1
    go_wp2_with fail
    go_ret
    exact ⟨ret_boolU he.out, hb1.out⟩
set_option maxHeartbeats 8000000 in
theorem ref02_Extend (B : Nat) (A L : Option Addr) (n c m d : Nat) (la lb : List Bool) (w : World) (hB : B ≤ w.heap.size) (hO : Own encL 1 4 B w A n c la) (hR : Rd encL 1 w L m lb) (hn : n ≤ 1000000) (hm : m ≤ 1000000) (hL : 0 < m → ∀ q o, L = some ⟨q, o, none⟩ → OffB A n c q) :
    Calls Tryz.prog 119 #[.slice A n c, .slice L m d] w fun e w' => ∃ A' c', e = .returned (.slice A' (n + m) c') ∧ Own encL 1 4 B w' A' (n + m) c' (la ++ lb) ∧ Below B w w' := by
  have hRl := Lib.hid hR.len
  have hOh := Lib.hid hO
  clear hO
  go_enter Tryz.func119, Tryz.ntmps119
  go_wp2_with fail
  go_loopw [0, 5] (fun a i wr => ∃ (j : Nat) (A1 : Option Addr) (c1 : Nat), a = .slice A1 (n + j) c1 ∧ i = .int .i64 (j : Int) ∧ j ≤ m ∧ Own encL 1 4 B wr A1 (n + j) c1 (la ++ lb.take j) ∧ Rd encL 1 wr L m lb ∧ (0 < m → ∀ q o, L = some ⟨q, o, none⟩ → OffB A1 (n + j) c1 q) ∧ Below B w wr) (fun _ i _ => m - (intOf i).toNat)
  case atStart => exact ⟨0, A, c, rfl, rfl, by omega, by simpa using hOh.out, hR, hL, Below.refl _ _⟩
  case round =>
    clear hR hL
    obtain ⟨j, A1, c1, rfl, rfl, hj, hO, hR, hL, hW⟩ := hrel
    have hz := hW.size
    by_cases hlt : j < m
    · have dj : decide ((j : Int) < m) = true := decide_eq_true (by omega)
      have dj' : decide (j < m) = true := decide_eq_true hlt
      obtain ⟨x, b, o, hx, rfl, hb, cx⟩ := hR.bool_ hlt
      have hoff := hL (by omega) b o rfl
      have hT := Lib.hid (show la ++ lb.take (j + 1) = (la ++ lb.take j) ++ [x] by rw [take_more hx.out, List.append_assoc])
      have hO2 := Lib.hid hO
      have hR2 := Lib.hid hR
      have hW2 := Lib.hid hW
      have hoff2 := Lib.hid hoff
      clear hO hR hW hL hoff hx
      go_wp2_with (at_builtin; refine wpList_append_elL rfl (.tmp 12) (.tmp 17) 125 rfl encL 1 4 (.bool false) 1 Tryz.underlying125 (by kernel_rfl) rfl (by decide) encL_len encL_one (B) _ _ _ _ rfl (hO2.out.alloc _) _ ⟨(wr).heap.size, 0, none⟩ 1 rfl (cells_new (wr) _ _) (by omega) (by omega) (by first | omega | (simp; done) | (simp; omega)) ?_; intro A4 c4 w4 hown4 hg4 hb4 hl4; obtain ⟨hc4, hf4⟩ := bcell hb4; have hs4 := hb4.size; (try simp only [World.size_alloc, World.size_setCell, World.size_drew] at hc4 hf4); (try simp at hs4))
      have hB4 := Lib.hid ((hW2.out.alloc (by omega) _).trans hb4)
      have hal : Below wr.heap.size wr (wr.alloc (.cells #[.bool x] 4)) := (Below.refl _ _).alloc (Nat.le_refl _) _
      have hR4 := Lib.hid (Rd.grown (h := (some ⟨b, o, none⟩, m, d)) (hR2.out.of hal) hg4 (fun q hq => by
        unfold blkH at hq
        split at hq
        · cases hq
        · simp at hq; subst hq; exact hoff2.out.ne))
      have hL4 := Lib.hid (hoff2.out.step hl4 (show b < (wr.alloc (.cells #[.bool x] 4)).heap.size by simp only [World.size_alloc]; omega))
      go_roundw
      case rel => exact ⟨j + 1, A4, c4, rfl, by go_num, by omega, by rw [hT.out]; exact hown4, hR4.out, fun _ q o e => by injection e with e; injection e with e _; subst e; exact hL4.out, hB4.out⟩
      case measure => simp [intOf]; omega
    · obtain rfl : j = m := by omega
      have dj : decide ((j : Int) < j) = false := decide_eq_false (by omega)
      have dj' : decide (j < j) = false := decide_eq_false (by omega)
      rw [List.take_of_length_le (by rw [hRl.out]; exact Nat.le_refl _)] at hO
      replace hO := Lib.hid hO
      replace hW := Lib.hid hW
      go_wp2_with fail
      go_ret
      exact ⟨A1, c1, rfl, hO.out, hW.out⟩
theorem unB_take {l : List Int} {j : Nat} {x : Int} (h : l[j]? = some x) : unB (l.take (j + 1)) = unB (l.take j) ++ digB 8 x.toNat := by
  rw [List.take_add_one, h, unB_app]
  show _ ++ (digB 8 x.toNat ++ unB []) = _
  rw [show unB [] = [] from rfl, List.append_nil]
/-- The reader under way. -/
structure RnS (w : World) (bi : Nat) (A : Option Addr) (k c : Nat) (bs : List Bool) (wr : World) : Prop where
  x : BxW wr bi [.slice A k c, .int .i64 0]
  o : Own encL 1 4 (bi + 1) wr A k c bs
  b : Below w.heap.size w wr
set_option maxHeartbeats 16000000 in
theorem ref02_NewReader (A : Option Addr) (n c : Nat) (l : List Int) (w : World) (hR : Rd encU 1 w A n l) (hl : ByL l) (hn : n ≤ 65536) :
    Calls Tryz.prog 92 #[.slice A n c] w fun e w' => ∃ bi A' k' c', e = .returned (.tuple #[.pointer (some ⟨bi, 0, none⟩), .int .i64 0]) ∧ RrD w' bi A' k' c' (unB l) 0 ∧ w.heap.size ≤ bi ∧ Below w.heap.size w w' := by
  have d0 : decide (65536 < (n : Int)) = false := decide_eq_false (by omega)
  have d1 : decide (65536 < n) = false := decide_eq_false (by omega)
  have hRh := Lib.hid hR
  have hRl := Lib.hid hR.len
  clear hR
  go_enter Tryz.func92, Tryz.ntmps92
  go_wp2_with fail
  obtain ⟨w1, hw1⟩ : ∃ w1, w1 = w.alloc (.cells #[.slice none 0 0, .int .i64 0] 173) := ⟨_, rfl⟩
  have hbx := BxW.new w [.slice none 0 0, .int .i64 0] 173
  have hb1 : Below w.heap.size w w1 := by rw [hw1]; exact (Below.refl _ _).alloc (Nat.le_refl _) _
  rw [show ∀ a b : Value, [a, b].toArray = #[a, b] from fun _ _ => rfl, ← hw1] at hbx
  rw [← hw1]
  clear hw1
  have hS1 : RnS w w.heap.size none (8 * 0) 0 (unB (l.take 0)) w1 := ⟨hbx, Own.nil_, hb1⟩
  obtain ⟨bi, hbi⟩ : ∃ bi, bi = w.heap.size := ⟨_, rfl⟩
  rw [← hbi] at hS1 ⊢
  have hbi' : w.heap.size ≤ bi := by omega
  clear hbx hb1 hbi
  go_loopw [5] (fun i wr => ∃ (j : Nat) (A1 : Option Addr) (c1 : Nat), i = .int .i64 (j : Int) ∧ j ≤ n ∧ RnS w bi A1 (8 * j) c1 (unB (l.take j)) wr) (fun i _ => n - (intOf i).toNat)
  case atStart => exact ⟨0, none, 0, rfl, by omega, hS1⟩
  case round =>
    clear hS1
    obtain ⟨j, A1, c1, rfl, hj, hS⟩ := hrel
    have hrow : ∀ q, (Value.slice A1 (8 * j) c1).ownBlock = some q → bi < q := fun q hq => by have := (hS.o.row.lt q hq).1; omega
    by_cases hlt : j < n
    · have dj : decide ((j : Int) < n) = true := decide_eq_true (by omega)
      have dj' : decide (j < n) = true := decide_eq_true hlt
      obtain ⟨x, q, o, hx, rfl, hq, cx⟩ := (hRh.out.of hS.b).byte hlt
      have hb := hl x (List.mem_of_getElem? hx.out)
      obtain ⟨v, rfl⟩ : ∃ v : Nat, x = (v : Int) := ⟨x.toNat, by omega⟩
      have c0 : IntKind.u64.wrap (v : Int) = (v : Int) := by rw [IntKind.wrap_u64]; omega
      have hT := Lib.hid (show unB (l.take (j + 1)) = unB (l.take j) ++ digB 8 v by rw [unB_take hx.out, Int.toNat_natCast])
      obtain ⟨hbs, b0, b1, f0, f1⟩ := hS.x.open2
      have hd : Below wr.heap.size wr wr.drew := (Below.refl _ _).drew
      have i0 : (0 : Int) ≤ (j : Int) := by omega
      have i1 : (j : Int) < (n : Int) := by omega
      have kD : Calls Tryz.prog 120 #[.int .u64 (v : Int), .int .i64 8] wr.drew fun e w7 => ∃ A7 c7, e = .returned (.slice A7 8 c7) ∧ Hid (Own encL 1 4 wr.heap.size w7 A7 8 c7 (digB 8 v) ∧ Below wr.heap.size wr w7) ∧ bi < w7.heap.size ∧ w7.cell? ⟨bi, 0, none⟩ = some (.slice A1 (8 * j) c1) := by
        refine (ref02_Digits v 8 wr.drew (by omega) (by omega)).mono ?_
        rintro e w7 ⟨A7, c7, rfl, hO7, hb7⟩
        have hb7' : Below wr.heap.size wr w7 := hd.trans hb7
        exact ⟨A7, c7, rfl, Lib.hid ⟨hO7, hb7'⟩, (hS.x.of hb7').1, (hS.x.of hb7').2.1 0⟩
      have kE : ∀ (w7 : World) (A7 : Option Addr) (c7 : Nat), Hid (Own encL 1 4 wr.heap.size w7 A7 8 c7 (digB 8 v) ∧ Below wr.heap.size wr w7) → Calls Tryz.prog 119 #[.slice A1 (8 * j) c1, .slice A7 8 c7] w7 fun e w8 => ∃ A8 c8, e = .returned (.slice A8 (8 * j + 8) c8) ∧ bi < w8.heap.size ∧ w8.cell? ⟨bi, 0, none⟩ = some (.slice A1 (8 * j) c1) ∧ w8.frozen? ⟨bi, 0, none⟩ = false ∧ Hid (RnS w bi A8 (8 * (j + 1)) c8 (unB (l.take (j + 1))) (w8.setCell ⟨bi, 0, none⟩ (.slice A8 (8 * j + 8) c8))) := by
        intro w7 A7 c7 h7
        obtain ⟨hO7, hb7⟩ := h7.out
        have hz7 := hb7.size
        refine (ref02_Extend (bi + 1) A1 A7 (8 * j) c1 8 c7 (unB (l.take j)) (digB 8 v) w7 (by omega) (hS.o.of hb7) (hO7.rd encL_len) (by omega) (by omega) (fun _ q o e => ?_)).mono ?_
        · have hq7 : (Value.slice A7 8 c7).ownBlock = some q := by rw [e]; rfl
          exact OffB.lt hS.o (hO7.row.lt q hq7).1
        · rintro e w8 ⟨A8, c8, rfl, hO8, hb8⟩
          have hx8 : BxW w8 bi [.slice A1 (8 * j) c1, .int .i64 0] := by
            have hx7 := hS.x.of hb7
            refine ⟨Nat.lt_of_lt_of_le hx7.1 hb8.size, fun i => (hb8.cell (p := ⟨bi, i, none⟩) (Nat.lt_succ_self _)).trans (hx7.2.1 i), fun i => (hb8.frozen (p := ⟨bi, i, none⟩) (Nat.lt_succ_self _)).trans (hx7.2.2 i)⟩
          refine ⟨A8, c8, rfl, hx8.1, hx8.2.1 0, hx8.2.2 0, Lib.hid ⟨?_, ?_, ?_⟩⟩
          · exact hx8.put 0 _ (by simp)
          · rw [hT.out]; exact hO8.setBelow (Nat.lt_succ_self _) _
          · exact (below_thru (hS.b) hb7).trans (hb8.mono (by omega)) |>.setCell hbi' _
      clear hS hT hb hx b1 f0 f1 hrow
      go_upto_region 7 with (fail)
      go_region_law
        (first
        | (go_simp; go_at_call 120; refine kD.mono ?_; rintro e w7 ⟨A7, c7, rfl, h7, hbx7, x7⟩)
        | (go_simp; go_at_call 119; refine (kE w7 A7 c7 h7).mono ?_; rintro e w8 ⟨A8, c8, rfl, hbx8, x8, fx8, hfin⟩))
      all_goals
        go_wp2_with fail
        go_roundw
        case rel => exact ⟨j + 1, A8, c8, by go_num, by omega, hfin.out⟩
        case measure => simp [intOf]; omega
    · obtain rfl : j = n := by omega
      have dj : decide ((j : Int) < j) = false := decide_eq_false (by omega)
      have dj' : decide (j < j) = false := decide_eq_false (by omega)
      rw [List.take_of_length_le (by rw [hRl.out]; exact Nat.le_refl _)] at hS
      have hS2 := Lib.hid hS
      have hr2 := Lib.hid hrow
      clear hS hrow
      go_wp2_with fail
      refine bodyPost_ret (v := .tuple #[.pointer (some ⟨bi, 0, none⟩), .int .i64 0]) (by simp [results, Tryz.results92, go_sem, *, ↓IntWalk.iteOmega]) rfl ?_
      refine ⟨bi, A1, 8 * j, c1, rfl, ⟨hS2.out.x, hS2.out.o.rd encL_len, by omega, fun h0 b o e => ?_⟩, hbi', hS2.out.b⟩
      have := hr2.out b (by rw [e]; rfl)
      omega
end Go.Proofs.YtmenokhnanghgaaGreat
end
