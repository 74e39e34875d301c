/- The reference's writer of forms: changes. By mkrfg.py. -/
import Derived.Test.YtmenokhnanghgaaGreatRFE
import Derived.Test.YtmenokhnanghgaaGreatSNC
import Derived.Deep.RegionHeld3
namespace Go.Proofs.YtmenokhnanghgaaGreat
open Go Go.RowKit
set_option linter.unusedSimpArgs false
set_option linter.unusedVariables false
set_option maxRecDepth 100000
set_option linter.unusedSimpArgs false
set_option linter.unusedVariables false
/-- The element ahead lies before. -/
theorem ref55_beforeG {l : List Chg} (hr : rightG l = true) {j k : Nat} (hk : k = j - 1) {px py ps pt : Int} (hp : l[k]? = some (px, py, ps, pt)) {x y s t : Int} (hx : l[j]? = some (x, y, s, t)) : (j == 0) = false → py ≤ y ∧ (y = py → px < x) := by
  intro hj
  obtain ⟨i, rfl⟩ : ∃ i, j = i + 1 := ⟨j - 1, by have : j ≠ 0 := (by intro e; rw [e] at hj; simp at hj); omega⟩
  obtain rfl : k = i := by omega
  have hs := rightG_sorted hr
  unfold SSG at hs
  rw [List.pairwise_iff_getElem] at hs
  have hi1 : k + 1 < l.length := (List.getElem?_eq_some_iff.1 hx).1
  have := hs k (k + 1) (by omega) hi1 (by omega)
  rw [List.getElem?_eq_getElem (by omega)] at hp hx
  injection hp with hp
  injection hx with hx
  rw [hp, hx] at this
  replace this : befP px py x y = true := this
  unfold befP at this
  simp only [decide_eq_true_eq] at this
  omega
theorem ref55_prvG {l : List Chg} {j k : Nat} (hk : k = j - 1) {px py ps pt : Int} (hp : l[k]? = some (px, py, ps, pt)) (x y : Int) : plcB (j == 0) (prvL psG l j).1 (prvL psG l j).2 x y = plcB (j == 0) px py x y := by
  cases j with
  | zero => rfl
  | succ i =>
    obtain rfl : k = i := by omega
    rw [prvL_succ hp]; rfl
set_option maxHeartbeats 16000000 in
theorem ref55_changes (bw : Nat) (A : Option Addr) (n c : Nat) (X T : List Bool) (b : Bool) (PA : Option Addr) (m d : Nat) (l : List Chg) (w : World) (hX : WqX w bw A n c X T b) (hR : Rd encG 4 w PA m l) (hr : rightG l = true) (hPA : 0 < m → ∀ q o, PA = some ⟨q, o, none⟩ → q ≠ bw ∧ (Value.slice A n c).ownBlock ≠ some q ∧ q < w.heap.size) :
    Calls Tryz.prog 70 #[.pointer (some ⟨bw, 0, none⟩), .slice PA m d] w fun e w' => ∃ A' n' c' T' b', e = .returned (.tuple #[]) ∧ WqX w' bw A' n' c' (X ++ lstB psG cdG l) T' b' ∧ WrK w bw A n c w' A' n' c' := by
  have hm5 : m ≤ 10000 := by rw [← hR.len]; have := (rightG_ok hr).1; omega
  have hl := Lib.hid hR.len
  have hr' := Lib.hid hr
  have k0 := ref55_gamma bw A n c X T b w m hX (by omega)
  replace hR := Lib.hid hR
  replace hPA := Lib.hid hPA
  clear hX hr
  go_enter Tryz.func70, Tryz.ntmps70
  go_wp2_with fail
  go_at_call 54
  refine k0.mono ?_
  rintro e w1 ⟨A1, n1, c1, T1, b1, rfl, hX1, hK1⟩
  replace hX1 := Lib.hid hX1
  replace hK1 := Lib.hid hK1
  clear k0
  go_wp2_with fail
  go_loopw [4] (fun i wr => ∃ (j : Nat) (A2 : Option Addr) (n2 c2 : Nat) (T2 : List Bool) (b2 : Bool), i = .int .i64 j ∧ j ≤ m ∧ WqX wr bw A2 n2 c2 (X ++ (gamB m ++ elsB psG cdG l j)) T2 b2 ∧ WrK w bw A n c wr A2 n2 c2) (fun i _ => m - (intOf i).toNat)
  case atStart => exact ⟨0, A1, n1, c1, T1, b1, rfl, by omega, by rw [elsB_zero, List.append_nil]; exact hX1.out, hK1.out⟩
  case round =>
    clear hX1 hK1
    obtain ⟨j, A2, n2, c2, T2, b2, rfl, hj, hX2, hK2⟩ := hrel
    by_cases hlt : j < m
    · have dj : decide ((j : Int) < m) = true := decide_eq_true (by omega)
      have dj' : decide (j < m) = true := decide_eq_true hlt
      obtain ⟨hR2, hPA2⟩ := hK2.rd hR.out hPA.out
      obtain ⟨k, hk⟩ : ∃ k, k = j - 1 := ⟨_, rfl⟩
      have hkm : k < m := by omega
      obtain ⟨px, py, ps, pt, q, o, hp, rfl, hq, gc0, gc1, gc2, gc3⟩ := hR2.chg hkm
      obtain ⟨x, y, s, t, q', o', hx, hqq, hq', hc0, hc1, hc2, hc3⟩ := hR2.chg hlt
      injection hqq with hqq
      injection hqq with hqq1 hqq2
      subst hqq1 hqq2
      obtain ⟨hq1, hq2, _⟩ := hPA2 (by omega) q o rfl
      have hbp := rightG_elem hr'.out hp.out
      have hbx := rightG_elem hr'.out hx.out
      unfold Pt at hbp hbx
      have hbef := ref55_beforeG hr'.out hk hp.out hx.out
      obtain ⟨sn, rfl⟩ : ∃ sn : Nat, s = (sn : Int) := ⟨s.toNat, by omega⟩
      obtain ⟨tn, rfl⟩ : ∃ tn : Nat, t = (tn : Int) := ⟨t.toNat, by omega⟩
      have hs8 : sn < 2 ^ 3 := by omega
      have ht8 : tn < 2 ^ 3 := by omega
      have hbits := Lib.hid (show X ++ (gamB m ++ elsB psG cdG l (j + 1)) = X ++ (gamB m ++ elsB psG cdG l j) ++ plcB (j == 0) px py x y ++ digB 3 (sn : Int).toNat ++ digB 3 (tn : Int).toNat by
        rw [elsB_succ, elB_at hx.out]
        show X ++ (_ ++ (_ ++ (plcB (j == 0) (prvL psG l j).1 (prvL psG l j).2 x y ++ (digB 3 (sn : Int).toNat ++ digB 3 (tn : Int).toNat)))) = _
        rw [ref55_prvG hk hp.out]
        simp only [List.append_assoc])
      have e1 : IntKind.i64.wrap ((j : Int) - 1) = (j : Int) - 1 := IntWalk.i64_in _ (by omega)
      have e2 : max ((j : Int) - 1) 0 = (k : Int) := by omega
      have d0 : ((j : Int) == 0) = (j == 0) := by cases j <;> simp; omega
      have i0 : (0 : Int) ≤ (j : Int) := by omega
      have i1 : (j : Int) < (m : Int) := by omega
      have i2 : (0 : Int) ≤ (k : Int) := by omega
      have i3 : (k : Int) < (m : Int) := by omega
      have kP : Calls Tryz.prog 86 #[.pointer (some ⟨bw, 0, none⟩), .bool (j == 0), .int .i64 px, .int .i64 py, .int .i64 x, .int .i64 y] wr.drew fun e w7 => e = .returned (.tuple #[]) ∧ (∃ A7 n7 c7 T7 b7, WqX w7 bw A7 n7 c7 (X ++ (gamB m ++ elsB psG cdG l j) ++ plcB (j == 0) px py x y) T7 b7 ∧ WrK w bw A n c w7 A7 n7 c7 ∧ q < w7.heap.size ∧ ¬ (q = bw ∨ (Value.slice A7 n7 c7).ownBlock = some q)) ∧ w7.cell? ⟨q, o + k * 4, none⟩ = some (.int .i64 px) ∧ w7.cell? ⟨q, o + k * 4 + 1, none⟩ = some (.int .i64 py) ∧ w7.cell? ⟨q, o + j * 4, none⟩ = some (.int .i64 x) ∧ w7.cell? ⟨q, o + j * 4 + 1, none⟩ = some (.int .i64 y) ∧ w7.cell? ⟨q, o + j * 4 + 2, none⟩ = some (.int .i64 (sn : Int)) ∧ w7.cell? ⟨q, o + j * 4 + 3, none⟩ = some (.int .i64 (tn : Int)) := by
        have hd : Below wr.heap.size wr wr.drew := (Below.refl _ _).drew
        refine (ref55_place bw A2 n2 c2 _ T2 b2 _ (j == 0) px py x y (hX2.of hd) (by omega) (by omega) (by omega) (by omega) hbef).mono ?_
        rintro e w7 ⟨A7, n7, c7, T7, b7, rfl, hX7, hK7⟩
        have hbl : w7.heap[q]? = wr.heap[q]? := (WrK.after hd hK7).fr.block q hq (fun k => by rcases k with k | k; exact hq1 k; exact hq2 k)
        exact ⟨rfl, ⟨A7, n7, c7, T7, b7, hX7, hK2.trans (WrK.after hd hK7), Nat.lt_of_lt_of_le hq (WrK.after hd hK7).fr.size, fun k => by
          rcases k with k | k
          · exact hq1 k
          · rcases hK7.loc with hl7 | ⟨g7, hl7, hg7⟩
            · rw [hl7] at k; exact hq2 k
            · rw [hl7] at k; injection k with k; simp only [World.size_drew] at hg7; omega⟩, (World.cell?_of_block hbl).trans gc0, (World.cell?_of_block hbl).trans gc1, (World.cell?_of_block hbl).trans hc0, (World.cell?_of_block hbl).trans hc1, (World.cell?_of_block hbl).trans hc2, (World.cell?_of_block hbl).trans hc3⟩
      simp only [Int.toNat_natCast] at hbits
      generalize hfj : (j == 0) = fj at d0 kP hbits
      clear hX2 hK2 hR2 hPA2 hbp hbx hbef hk hp hx hq1 hq2 hfj
      go_upto_region 5 with (fail)
      go_region_held3 (fun w' => w'.cell? ⟨q, o + k * 4, none⟩ = some (.int .i64 px) ∧ w'.cell? ⟨q, o + k * 4 + 1, none⟩ = some (.int .i64 py) ∧ w'.cell? ⟨q, o + j * 4, none⟩ = some (.int .i64 x) ∧ w'.cell? ⟨q, o + j * 4 + 1, none⟩ = some (.int .i64 y) ∧ w'.cell? ⟨q, o + j * 4 + 2, none⟩ = some (.int .i64 (sn : Int)) ∧ w'.cell? ⟨q, o + j * 4 + 3, none⟩ = some (.int .i64 (tn : Int))) (first | assumption | ((try go_split_ands); refine ⟨?_, ?_, ?_, ?_, ?_, ?_⟩ <;> first | assumption | go_keep))
        ((go_at_call 86; refine kP.mono ?_; rintro e w7 ⟨rfl, ⟨A7, n7, c7, T7, b7, hX7, hK7, hq7, hqr⟩, u0, u1, u2, u3, u4, u5⟩))
      all_goals
        have kb := ref55_bits bw A7 n7 c7 _ T7 b7 w7 sn 3 hX7 (by omega) hs8
        replace hK7 := Lib.hid hK7
        have hoff7 := hX7.s.box.1
        clear hX7
        go_wp2_with fail
        go_at_call 53
        refine kb.mono ?_
        rintro e w8 ⟨A8, n8, c8, T8, b8, rfl, hX8, hK8⟩
        have u8 := (World.cell?_of_block (a := ⟨q, o + j * 4 + 3, none⟩) (hK8.fr.block q hq7 hqr)).trans u5
        have kb9 := ref55_bits bw A8 n8 c8 _ T8 b8 w8 tn 3 hX8 (by omega) ht8
        replace hK8 := Lib.hid (hK7.out.trans hK8)
        clear hX8 kb u0 u1 u2 u3 u4 u5
        go_wp2_with fail
        go_at_call 53
        refine kb9.mono ?_
        rintro e w9 ⟨A9, n9, c9, T9, b9, rfl, hX9, hK9⟩
        replace hK9 := Lib.hid (hK8.out.trans hK9)
        replace hX9 := Lib.hid hX9
        go_wp2_with fail
        go_roundw
        case rel => exact ⟨j + 1, A9, n9, c9, T9, b9, by go_num, by omega, by rw [hbits.out]; exact hX9.out, hK9.out⟩
        case measure => simp [intOf]; omega
    · obtain rfl : j = m := by omega
      have dj : decide ((j : Int) < j) = false := decide_eq_false (by omega)
      have dj' : decide (j < j) = false := decide_eq_false (by omega)
      replace hX2 := Lib.hid hX2
      replace hK2 := Lib.hid hK2
      go_wp2_with fail
      go_end0
      exact ⟨A2, n2, c2, T2, b2, rfl, by unfold lstB; rw [hl.out]; exact hX2.out, hK2.out⟩
end Go.Proofs.YtmenokhnanghgaaGreat
