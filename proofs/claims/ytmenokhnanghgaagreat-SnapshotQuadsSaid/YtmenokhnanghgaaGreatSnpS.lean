/- snapshot's TakeTree. -/
import Derived.Test.YtmenokhnanghgaaGreatSNK
import Derived.Test.YtmenokhnanghgaaGreatSnpO
import Derived.Test.YtmenokhnanghgaaGreatTRE
namespace Go.Proofs.YtmenokhnanghgaaGreat
open Go Go.RowKit
set_option linter.unusedSimpArgs false
set_option linter.unusedVariables false
set_option maxRecDepth 100000
set_option linter.unusedSimpArgs false
set_option linter.unusedVariables false
theorem OwnO.setO {α β : Type} {K : EK α β} {e : TypeId} {B : Nat} {P : Nat → Prop} {bs : List β} {w : World} {A : Option Addr} {n c b : Nat} (h : OwnO K e B P w A n c bs) (hb : b < B) (i : Nat) (u : Value) : OwnO K e B P (w.setCell ⟨b, i, none⟩ u) A n c bs :=
  h.grow (grownBy_set w b i u) (fun q hq e => by injection e with e; have := (h.lt q hq).1; omega) (fun q e => by injection e with e; exact .inr (by omega)) (fun _ _ e => e)
theorem bitsR3 (bs : List Bool) (s : RS) : 0 ≤ (bitsR bs 3 s).1 ∧ (bitsR bs 3 s).1 < 8 := by
  unfold bitsR
  split
  · split
    · have h1 := numB_lt ((bs.drop s.1).take 3)
      have h2 : 2 ^ ((bs.drop s.1).take 3).length ≤ 2 ^ 3 := Nat.pow_le_pow_right (by decide) (by rw [List.length_take]; omega)
      simp only; omega
    · simp
  · simp
/-- What TakeTree gives. -/
def ttV (bs : List Bool) : Int × List (Int × Int) × List Nd := if ttE bs = 0 then (ttS bs, (ttH bs).1, (ttN bs).1) else (0, [], [])
theorem tt_ok {bs : List Bool} {E : Int} {V : Int × List (Int × Int) × List Nd} (hE : E = ttE bs) (hV : V = ttV bs) (h : E = 0) : V = (ttS bs, (ttH bs).1, (ttN bs).1) := by rw [hV]; unfold ttV; rw [if_pos (by rw [← hE]; exact h)]
theorem tt_bad {bs : List Bool} {E : Int} {V : Int × List (Int × Int) × List Nd} (hE : E = ttE bs) (hV : V = ttV bs) (h : E ≠ 0) : V = (0, [], []) := by rw [hV]; unfold ttV; rw [if_neg (by rw [← hE]; exact h)]
set_option maxHeartbeats 4000000 in
theorem snp_TakeTree3 (bx : Nat) (st : Int) (HA NA : Option Addr) (hn hc nn nc : Nat) (H : List (Int × Int)) (N : List Nd) (B : Nat) (w : World) (hB : B ≤ w.heap.size) (hx : BxW w bx [.int .i64 st, .slice HA hn hc, .slice NA nn nc]) (hH : Rd encP 2 w HA hn H) (hN : RdX ekN w NA nn N) :
    Calls Tryz.prog 60 #[.pointer (some ⟨bx, 0, none⟩)] w fun e w' => e = .returned (.bool (trR st H N)) ∧ Below B w w' := by
  have kR := tree_Right st HA NA hn hc nn nc H N w hH hN
  have b0 : w.cell? ⟨bx, 0, none⟩ = some (.int .i64 st) := hx.2.1 0
  have b1 : w.cell? ⟨bx, 1, none⟩ = some (.slice HA hn hc) := hx.2.1 1
  have b2 : w.cell? ⟨bx, 2, none⟩ = some (.slice NA nn nc) := hx.2.1 2
  have hxz := hx.1
  clear hx hH hN
  go_enter Tryz.func60, Tryz.ntmps60
  go_wp2_with fail
  go_at_call 50
  refine kR.mono ?_
  rintro e w1 ⟨rfl, hb1⟩
  replace hb1 := Lib.hid (hb1.mono hB)
  go_wp2_with fail
  go_ret
  exact ⟨rfl, hb1.out⟩
set_option maxHeartbeats 16000000 in
theorem snp_TakeTree (A : Option Addr) (n c : Nat) (l : List Int) (w : World) (hR : Rd encU 1 w A n l) (hl : ByL l) (hn : n ≤ 65536) :
    Calls Tryz.prog 19 #[.slice A n c] w fun e w' => ∃ HA hn hc NA nn nc, e = .returned (.tuple #[.agg #[.int .i64 (ttV (unB l)).1, .slice HA hn hc, .slice NA nn nc], .int .i64 (ttE (unB l))]) ∧ Rd encP 2 w' HA hn (ttV (unB l)).2.1 ∧ RdX ekN w' NA nn (ttV (unB l)).2.2 ∧ Below w.heap.size w w' := by
  obtain ⟨W, hW⟩ : ∃ W, W = w.alloc (.cells #[.int .i64 0, .slice none 0 0, .slice none 0 0] 37) := ⟨_, rfl⟩
  have hb0 : Below w.heap.size w W := by rw [hW]; exact (Below.refl _ _).alloc (Nat.le_refl _) _
  have hrt : BxW W w.heap.size [.int .i64 0, .slice none 0 0, .slice none 0 0] := by rw [hW]; exact BxW.new w [_, _, _] _
  have kO := snp_open 2 A n c l W (hR.of hb0) hl hn (by omega)
  rw [show opnR (unB l) ((2 : Nat) : Int) = opnR (unB l) 2 from rfl] at kO
  obtain ⟨E, hE⟩ : ∃ E, E = ttE (unB l) := ⟨_, rfl⟩
  obtain ⟨V, hV⟩ : ∃ V, V = ttV (unB l) := ⟨_, rfl⟩
  rw [← hE, ← hV]
  have hok := tt_ok hE hV
  have hbd := tt_bad hE hV
  obtain ⟨VS, VH, VN⟩ := V
  clear hV
  simp only
  replace hE : E = cloR (unB l) (ttN (unB l)).2 (trR (ttS (unB l)) (ttH (unB l)).1 (ttN (unB l)).1) := hE
  have hSd : ttS (unB l) = (bitsR (unB l) 3 (opnR (unB l) 2)).1 + 1 := rfl
  have hHd : ttH (unB l) = lpR (hdR (unB l)) (gamR (unB l) (bitsR (unB l) 3 (opnR (unB l) 2)).2).1.toNat 0 [] (gamR (unB l) (bitsR (unB l) 3 (opnR (unB l) 2)).2).2 := rfl
  have hNd : ttN (unB l) = lpR (ndR (unB l) (ttS (unB l)).toNat) (gamR (unB l) (ttH (unB l)).2).1.toNat 0 [] (gamR (unB l) (ttH (unB l)).2).2 := rfl
  have hv := bitsR3 (unB l) (opnR (unB l) 2)
  replace hE := Lib.hid hE
  replace hbd := Lib.hid hbd
  replace hok := Lib.hid hok
  replace hSd := Lib.hid hSd
  replace hHd := Lib.hid hHd
  replace hNd := Lib.hid hNd
  replace hrt := Lib.hid hrt
  clear hR
  go_enter Tryz.func19, Tryz.ntmps19
  go_upto_region 1 with (fail)
  rw [← hW]
  clear hW
  replace hb0 := Lib.hid hb0
  go_upto_region 2 with (go_at_call 42; refine kO.mono ?_; rintro e w1 ⟨br, bi, A1, c1, rfl, hS1, hbr, hbi, hb1⟩; replace hS1 := Lib.hid hS1; replace hb1 := Lib.hid hb1)
  clear kO
  obtain ⟨w2, hw2⟩ : ∃ w2, w2 = w1.alloc (.cells #[.pointer (some ⟨br, 0, none⟩)] 82) := ⟨_, rfl⟩
  have hb2 : Below w1.heap.size w1 w2 := by rw [hw2]; exact (Below.refl _ _).alloc (Nat.le_refl _) _
  have hx2 : BxW w2 w1.heap.size [.pointer (some ⟨br, 0, none⟩)] := by rw [hw2]; exact BxW.new1 w1 _ _
  have hz2 : w2.heap.size = w1.heap.size + 1 := by rw [hw2]; simp
  rw [← hw2]
  clear hw2
  have hS2 := hS1.out.of hb2
  have hbr1 := hS1.out.box.1
  have hbi1 := hS1.out.d.box.1
  have hA1 := hS1.out.low
  obtain ⟨b4, hb4⟩ : ∃ b4, b4 = w1.heap.size := ⟨_, rfl⟩
  rw [← hb4] at hx2 hz2 ⊢
  replace hb4 := Lib.hid hb4
  replace hz2 := Lib.hid hz2
  have kF := snp_fixed br bi A1 n c1 l _ w2 3 hS2 (by omega)
  obtain ⟨_, c0, _⟩ := hx2.open1
  have e0 : IntKind.i64.wrap ((bitsR (unB l) 3 (opnR (unB l) 2)).1 + 1) = ttS (unB l) := by rw [IntWalk.i64_in _ (by omega)]; exact hSd.out.symm
  obtain ⟨k, hk⟩ : ∃ k : Nat, ttS (unB l) = (k : Int) := ⟨(ttS (unB l)).toNat, by rw [hSd.out]; omega⟩
  have hk8 : k ≤ 8 := by have := hSd.out; omega
  rw [hk] at e0
  go_wp2_with fail
  go_at_call 55
  refine kF.mono ?_
  rintro e w3 ⟨rfl, hS3, hf3⟩
  go_upto_region 5 with (fail)
  obtain ⟨w4, hw4⟩ : ∃ w4, w4 = w3.alloc (.cells #[.int .i64 (k : Int), .slice none 0 0, .slice none 0 0] 37) := ⟨_, rfl⟩
  have hb34 : Below w3.heap.size w3 w4 := by rw [hw4]; exact (Below.refl _ _).alloc (Nat.le_refl _) _
  have hx4 : BxW w4 w3.heap.size [.int .i64 (k : Int), .slice none 0 0, .slice none 0 0] := by rw [hw4]; exact BxW.new w3 [_, _, _] _
  have hz4 : w4.heap.size = w3.heap.size + 1 := by rw [hw4]; simp
  rw [← hw4]
  clear hw4
  obtain ⟨bx, hbx⟩ : ∃ bx, bx = w3.heap.size := ⟨_, rfl⟩
  rw [← hbx] at hx4 hz4 ⊢
  have hb4' := hb4.out
  have hz2' := hz2.out
  obtain ⟨B1, hB1⟩ : ∃ B1, B1 = w4.heap.size := ⟨_, rfl⟩
  have hz3 := hf3.size
  have hK : TkK w1.heap.size B1 br bi b4 bx := ⟨hbr1, hbi1, by omega, by omega, by omega⟩
  have hT4 : TkB B1 w1 br bi b4 bx [.int .i64 (k : Int), .slice none 0 0, .slice none 0 0] w4 := ⟨hx4, (hx2.frR hf3 (by rintro (e | e) <;> omega)).of hb34, (((Fr2.here w1 _).of hb2).then hf3 (fun _ _ e => e)).of hb34, by omega⟩
  have hS4 := hS3.of hb34
  clear hb4' hz2' hb4 hz2 hbx hB1 hz4 hz3
  replace hk := Lib.hid hk
  have hrtB : w.heap.size < B1 := by have := hK.c; have := hrt.out.1; have := hb1.out.size; omega
  have hA : 0 < n → ∀ b o, A1 = some ⟨b, o, none⟩ → b < w1.heap.size := hA1
  have hn8 : ∀ {t : RS} {w : World}, RdS w br bi A1 n c1 l t → t.1 ≤ 524288 := fun h => by have := h.le; omega
  have key1 := snp_timesN (α := List (Int × Int)) (hdR (unB l)) (fun a s w' => ∃ OA on oc, TkB B1 w1 br bi b4 bx [.int .i64 (k : Int), .slice OA on oc, .slice none 0 0] w' ∧ Own encP 2 66 B1 w' OA on oc a ∧ RdS w' br bi A1 n c1 l s ∧ SzR a s) 57 [.pointer (some ⟨b4, 0, none⟩), .pointer (some ⟨bx, 0, none⟩)] br bi A1 n c1 l
    (enters_of Tryz.func57 (by kernel_rfl) rfl)
    (fun a s w' h => by obtain ⟨OA, on, oc, _, _, h, _⟩ := h; exact h)
    (fun i a s w' h0 h => by
      obtain ⟨OA, on, oc, j1, j2, j3, j4⟩ := h
      have hon : on ≤ 1000000 := by have := j2.len; have := hn8 j3; have := j4.1; omega
      refine (snp_TakeTree1 B1 w1 br bi b4 bx (k : Int) a OA on oc A1 n c1 l s i w' hK hA j1 j2 j3 hon).mono ?_
      rintro e w'' ⟨rfl, OA', on', oc', i1, i2, i3⟩
      exact ⟨rfl, OA', on', oc', i1, i2, i3, j4.step (hdR_m (unB l)) h0⟩)
    [] _ w4 hS4 (fun w' j1 j2 => ⟨none, 0, 0, hT4.read hK j2, Own.nil_, j1, SzR.nil_⟩)
  rw [← hHd.out] at key1
  obtain ⟨_, c04, _⟩ := hT4.c.open1
  clear hT4 hS4 hx4 hb34 hS3 hS2 hx2 hb2 kF c0 hf3 hS1
  go_upto_region 6 with (go_at_call 56; refine key1.mono ?_; rintro e w5 ⟨he, HA, hn5, hc5, hT5, hH5, hS5, hsz5⟩; obtain rfl : e = .returned (.tuple #[]) := he)
  clear key1
  have key2 := snp_timesN (α := List Nd) (ndR (unB l) k) (fun a s w' => ∃ OA on oc, TkB B1 w1 br bi b4 bx [.int .i64 (k : Int), .slice HA hn5 hc5, .slice OA on oc] w' ∧ Own encP 2 66 B1 w' HA hn5 hc5 (ttH (unB l)).1 ∧ OwnO ekN 93 B1 (fun _ => False) w' OA on oc a ∧ RdS w' br bi A1 n c1 l s ∧ SzR a s) 58 [.pointer (some ⟨b4, 0, none⟩), .pointer (some ⟨bx, 0, none⟩)] br bi A1 n c1 l
    (enters_of Tryz.func58 (by kernel_rfl) rfl)
    (fun a s w' h => by obtain ⟨OA, on, oc, _, _, _, h, _⟩ := h; exact h)
    (fun i a s w' h0 h => by
      obtain ⟨OA, on, oc, j1, jh, j2, j3, j4⟩ := h
      have hon : on ≤ 1000000 := by have := j2.len; have := hn8 j3; have := j4.1; omega
      refine (snp_TakeTree2 B1 w1 br bi b4 bx k HA hn5 hc5 _ a OA on oc A1 n c1 l s i w' hK hA j1 jh j2 j3 hon hk8).mono ?_
      rintro e w'' ⟨rfl, OA', on', oc', i1, ih, i2, i3⟩
      exact ⟨rfl, OA', on', oc', i1, ih, i2, i3, j4.step (ndR_m (unB l) k) h0⟩)
    [] (ttH (unB l)).2 w5 hS5 (fun w' j1 j2 => ⟨none, 0, 0, hT5.read hK j2, hH5.fr2 j2 (fun q hq => by have := (hH5.row.lt q hq).1; have := hK.r1; have := hK.r2; have := hK.x; rintro (e | e) <;> omega), OwnO.nil_, j1, SzR.nil_⟩)
  rw [show lpR (ndR (unB l) k) (gamR (unB l) (ttH (unB l)).2).1.toNat 0 [] (gamR (unB l) (ttH (unB l)).2).2 = ttN (unB l) by rw [hNd.out, hk.out]; rfl] at key2
  obtain ⟨_, c05, _⟩ := hT5.c.open1
  clear hT5 hH5 hS5 hsz5 c04
  go_upto_region 7 with (go_at_call 56; refine key2.mono ?_; rintro e w6 ⟨he, NA, nn6, nc6, hT6, hH6, hN6, hS6, hsz6⟩; obtain rfl : e = .returned (.tuple #[]) := he)
  clear key2
  have kC := snp_closeN (trR (ttS (unB l)) (ttH (unB l)).1 (ttN (unB l)).1) 60 [.pointer (some ⟨bx, 0, none⟩)] br bi A1 n c1 l (ttN (unB l)).2 (enters_of Tryz.func60 (by kernel_rfl) rfl) w6 hS6 (fun w7 h7 => by
    have hx := hT6.x.of h7
    rw [← hk.out] at hx
    exact snp_TakeTree3 bx (ttS (unB l)) HA NA hn5 hc5 nn6 nc6 (ttH (unB l)).1 (ttN (unB l)).1 w6.heap.size w7 h7.size hx ((hH6.rd encP_len).of h7) ((hN6.of h7).rd))
  rw [← hE.out] at kC
  obtain ⟨_, c06, _⟩ := hT6.c.open1
  have hH6r := Lib.hid hH6
  have hN6r := Lib.hid hN6
  have hT6h := Lib.hid hT6
  have hB6 : Below w.heap.size w w6 := (hb0.out.trans (hb1.out.mono hb0.out.size)).trans (hT6.f.below (by have := hb0.out.size; have := hb1.out.size; omega) (fun q hq => by have := hb0.out.size; rcases hq with rfl | rfl <;> omega))
  have hrt6 : BxW w6 w.heap.size [.int .i64 0, .slice none 0 0, .slice none 0 0] := (hrt.out.of hb1.out).frR hT6.f (by have := hrt.out.1; rintro (e | e) <;> omega)
  replace hB6 := Lib.hid hB6
  replace hrt6 := Lib.hid hrt6
  clear hT6 hS6 hH6 hN6 hsz6 c05
  go_upto_region 8 with (go_at_call 44; refine kC.mono ?_; rintro e w7 ⟨rfl, hb7⟩)
  clear kC
  have hB7 := Lib.hid (hB6.out.trans (hb7.mono hB6.out.size))
  have hrt7 := hrt6.out.of hb7
  have hx7 := hT6h.out.x.of hb7
  have hH7 := Lib.hid (hH6r.out.of hb7)
  have hN7 := Lib.hid (hN6r.out.of hb7)
  have x0 : w7.cell? ⟨bx, 0, none⟩ = some (.int .i64 (k : Int)) := hx7.2.1 0
  have x1 : w7.cell? ⟨bx, 1, none⟩ = some (.slice HA hn5 hc5) := hx7.2.1 1
  have x2 : w7.cell? ⟨bx, 2, none⟩ = some (.slice NA nn6 nc6) := hx7.2.1 2
  have xz := hx7.1
  have r0 : w7.cell? ⟨w.heap.size, 0, none⟩ = some (.int .i64 0) := hrt7.2.1 0
  have r1 : w7.cell? ⟨w.heap.size, 1, none⟩ = some (.slice none 0 0) := hrt7.2.1 1
  have r2 : w7.cell? ⟨w.heap.size, 2, none⟩ = some (.slice none 0 0) := hrt7.2.1 2
  have f0 : w7.frozen? ⟨w.heap.size, 0, none⟩ = false := hrt7.2.2 0
  have f1 : w7.frozen? ⟨w.heap.size, 1, none⟩ = false := hrt7.2.2 1
  have f2 : w7.frozen? ⟨w.heap.size, 2, none⟩ = false := hrt7.2.2 2
  have rz := hrt7.1
  clear hx7 hb7 c06
  by_cases h0 : E = 0
  · subst h0
    have hV := hok.out rfl
    injection hV with hv1 hv2
    injection hv2 with hv2 hv3
    rw [hk.out] at hv1
    subst hv1 hv2 hv3
    have hB8 : Below w.heap.size w (((w7.setCell ⟨w.heap.size, 0, none⟩ (.int .i64 (k : Int))).setCell ⟨w.heap.size, 1, none⟩ (.slice HA hn5 hc5)).setCell ⟨w.heap.size, 2, none⟩ (.slice NA nn6 nc6)) := ((hB7.out.setCell (Nat.le_refl _) _).setCell (Nat.le_refl _) _).setCell (Nat.le_refl _) _
    have hx8 : BxW (((w7.setCell ⟨w.heap.size, 0, none⟩ (.int .i64 (k : Int))).setCell ⟨w.heap.size, 1, none⟩ (.slice HA hn5 hc5)).setCell ⟨w.heap.size, 2, none⟩ (.slice NA nn6 nc6)) w.heap.size [.int .i64 (k : Int), .slice HA hn5 hc5, .slice NA nn6 nc6] := ((hrt7.put 0 _ (by simp)).put 1 _ (by simp)).put 2 _ (by simp)
    have hH8 : Rd encP 2 (((w7.setCell ⟨w.heap.size, 0, none⟩ (.int .i64 (k : Int))).setCell ⟨w.heap.size, 1, none⟩ (.slice HA hn5 hc5)).setCell ⟨w.heap.size, 2, none⟩ (.slice NA nn6 nc6)) HA hn5 _ := (((hH7.out.setBelow hrtB _).setBelow hrtB _).setBelow hrtB _).rd encP_len
    have hN8 : RdX ekN (((w7.setCell ⟨w.heap.size, 0, none⟩ (.int .i64 (k : Int))).setCell ⟨w.heap.size, 1, none⟩ (.slice HA hn5 hc5)).setCell ⟨w.heap.size, 2, none⟩ (.slice NA nn6 nc6)) NA nn6 _ := (((hN7.out.setO hrtB 0 _).setO hrtB 1 _).setO hrtB 2 _).rd
    replace hB8 := Lib.hid hB8
    replace hH8 := Lib.hid hH8
    replace hN8 := Lib.hid hN8
    clear hrt7
    go_wp2_with fail
    obtain ⟨w8, hw8⟩ : ∃ w8, w8 = (((w7.setCell ⟨w.heap.size, 0, none⟩ (.int .i64 (k : Int))).setCell ⟨w.heap.size, 1, none⟩ (.slice HA hn5 hc5)).setCell ⟨w.heap.size, 2, none⟩ (.slice NA nn6 nc6)) := ⟨_, rfl⟩
    rw [← hw8] at hx8 hB8 hH8 hN8 ⊢
    clear hw8
    have y0 : w8.cell? ⟨w.heap.size, 0, none⟩ = some (.int .i64 (k : Int)) := hx8.2.1 0
    have y1 : w8.cell? ⟨w.heap.size, 1, none⟩ = some (.slice HA hn5 hc5) := hx8.2.1 1
    have y2 : w8.cell? ⟨w.heap.size, 2, none⟩ = some (.slice NA nn6 nc6) := hx8.2.1 2
    clear x0 x1 x2 r0 r1 r2 f0 f1 f2 hx8
    refine bodyPost_ret (v := .tuple #[.agg #[.int .i64 (k : Int), .slice HA hn5 hc5, .slice NA nn6 nc6], .int .i64 0]) (by simp [results, Tryz.results19, go_sem, *, ↓IntWalk.iteOmega]) rfl ?_
    exact ⟨HA, hn5, hc5, NA, nn6, ⟨nc6, rfl⟩, hH8.out, hN8.out, hB8.out⟩
  · have d1 : (E == 0) = false := by simpa using h0
    have d2 : (E != 0) = true := by simpa using h0
    have hV := hbd.out h0
    injection hV with hv1 hv2
    injection hv2 with hv2 hv3
    subst hv1 hv2 hv3
    have hB8 : Below w.heap.size w (((w7.setCell ⟨w.heap.size, 0, none⟩ (.int .i64 0)).setCell ⟨w.heap.size, 1, none⟩ (.slice none 0 0)).setCell ⟨w.heap.size, 2, none⟩ (.slice none 0 0)) := ((hB7.out.setCell (Nat.le_refl _) _).setCell (Nat.le_refl _) _).setCell (Nat.le_refl _) _
    have hx8 : BxW (((w7.setCell ⟨w.heap.size, 0, none⟩ (.int .i64 0)).setCell ⟨w.heap.size, 1, none⟩ (.slice none 0 0)).setCell ⟨w.heap.size, 2, none⟩ (.slice none 0 0)) w.heap.size [.int .i64 0, .slice none 0 0, .slice none 0 0] := ((hrt7.put 0 _ (by simp)).put 1 _ (by simp)).put 2 _ (by simp)
    replace hB8 := Lib.hid hB8
    clear hrt7
    go_wp2_with fail
    obtain ⟨w8, hw8⟩ : ∃ w8, w8 = (((w7.setCell ⟨w.heap.size, 0, none⟩ (.int .i64 0)).setCell ⟨w.heap.size, 1, none⟩ (.slice none 0 0)).setCell ⟨w.heap.size, 2, none⟩ (.slice none 0 0)) := ⟨_, rfl⟩
    rw [← hw8] at hx8 hB8 ⊢
    clear hw8
    have y0 : w8.cell? ⟨w.heap.size, 0, none⟩ = some (.int .i64 0) := hx8.2.1 0
    have y1 : w8.cell? ⟨w.heap.size, 1, none⟩ = some (.slice none 0 0) := hx8.2.1 1
    have y2 : w8.cell? ⟨w.heap.size, 2, none⟩ = some (.slice none 0 0) := hx8.2.1 2
    clear x0 x1 x2 r0 r1 r2 f0 f1 f2 hx8
    refine bodyPost_ret (v := .tuple #[.agg #[.int .i64 0, .slice none 0 0, .slice none 0 0], .int .i64 E]) (by simp [results, Tryz.results19, go_sem, *, ↓IntWalk.iteOmega]) rfl ?_
    exact ⟨none, 0, 0, none, 0, ⟨0, rfl⟩, Rd.nil_, RdX.nil_, hB8.out⟩
end Go.Proofs.YtmenokhnanghgaaGreat
