/- snapshot's TakeTree: its second closure, a node. -/
import Derived.Test.YtmenokhnanghgaaGreatSNK
import Derived.Deep.RegionHeld3
namespace Go.Proofs.YtmenokhnanghgaaGreat
open Go Go.RowKit
set_option linter.unusedSimpArgs false
set_option linter.unusedVariables false
set_option maxRecDepth 100000
set_option linter.unusedSimpArgs false
set_option linter.unusedVariables false
/-- The node under way: its box xb, the numbers read, the reader. -/
structure TnS (w : World) (xb : Nat) (lv : Int) (br bi : Nat) (A : Option Addr) (n c : Nat) (l : List Int) (s1 : RS) (j : Nat) (E2 : Option Addr) (r : Nat) (wr : World) : Prop where
  x : BxW wr xb [.int .i64 lv, .slice E2 j r]
  e : Own encI 1 3 (xb + 1) wr E2 j r (gmsR (unB l) s1 j).1
  f : Fr2 (RB br bi) w wr
  s : RdS wr br bi A n c l (gmsR (unB l) s1 j).2
set_option maxHeartbeats 16000000 in
theorem snp_TakeTree2 (B1 : Nat) (w0 : World) (br bi b4 bx : Nat) (k : Nat) (HA : Option Addr) (hn hc : Nat) (H : List (Int × Int)) (N : List Nd) (OA : Option Addr) (on oc : Nat) (A : Option Addr) (n c : Nat) (l : List Int) (s : RS) (i : Nat) (w : World)
    (hK : TkK w0.heap.size B1 br bi b4 bx) (hA : 0 < n → ∀ b o, A = some ⟨b, o, none⟩ → b < w0.heap.size) (hT : TkB B1 w0 br bi b4 bx [.int .i64 (k : Int), .slice HA hn hc, .slice OA on oc] w) (hH : Own encP 2 66 B1 w HA hn hc H) (hO : OwnO ekN 93 B1 (fun _ => False) w OA on oc N) (hS : RdS w br bi A n c l s) (hon : on ≤ 1000000) (hk : k ≤ 8) :
    Calls Tryz.prog 58 #[.int .i64 (i : Int), .pointer (some ⟨b4, 0, none⟩), .pointer (some ⟨bx, 0, none⟩)] w fun e w' => e = void ∧ ∃ OA' on' oc', TkB B1 w0 br bi b4 bx [.int .i64 (k : Int), .slice HA hn hc, .slice OA' on' oc'] w' ∧ Own encP 2 66 B1 w' HA hn hc H ∧ OwnO ekN 93 B1 (fun _ => False) w' OA' on' oc' (ndR (unB l) k i N s).1 ∧ RdS w' br bi A n c l (ndR (unB l) k i N s).2 := by
  have hz := hT.z
  have hn1 := hK.r1
  have hn2 := hK.r2
  have hnx := hK.x
  have hnc := hK.c
  rw [show (ndR (unB l) k i N s).1 = N ++ [((gamR (unB l) s).1, (gmsR (unB l) (gamR (unB l) s).2 k).1)] from rfl, show (ndR (unB l) k i N s).2 = (gmsR (unB l) (gamR (unB l) s).2 k).2 from rfl]
  have kE := snp_gamma br bi A n c l s w hS
  generalize gamR (unB l) s = g1 at kE ⊢
  obtain ⟨lv, s1⟩ := g1
  simp only at kE ⊢
  obtain ⟨_, c0, fc⟩ := hT.c.open1
  obtain ⟨LN, hLN⟩ : ∃ LN, LN = (gmsR (unB l) s1 k).1 := ⟨_, rfl⟩
  obtain ⟨SN, hSN⟩ : ∃ SN, SN = (gmsR (unB l) s1 k).2 := ⟨_, rfl⟩
  rw [← hLN, ← hSN]
  replace hLN := Lib.hid hLN
  replace hSN := Lib.hid hSN
  have hbw := hT.f.size
  go_enter Tryz.func58, Tryz.ntmps58
  go_upto_region 1 with (go_at_call 59; refine kE.mono ?_; rintro e w1 ⟨rfl, hS1, hf1⟩)
  obtain ⟨w2, hw2⟩ : ∃ w2, w2 = w1.alloc (.cells #[.int .i64 lv, .slice none 0 0] 93) := ⟨_, rfl⟩
  have hb2 : Below w1.heap.size w1 w2 := by rw [hw2]; exact (Below.refl _ _).alloc (Nat.le_refl _) _
  have hxn : BxW w2 w1.heap.size [.int .i64 lv, .slice none 0 0] := by rw [hw2]; exact BxW.new w1 [_, _] _
  rw [← hw2]
  clear hw2
  have hz1 := hf1.size
  have hX2 : TnS w w1.heap.size lv br bi A n c l s1 0 none 0 w2 := ⟨hxn, Own.nil_, hf1.of hb2, hS1.of hb2⟩
  have hT2 := hT.read hK hX2.f
  obtain ⟨_, c02, _⟩ := hT2.c.open1
  have x02 : w2.cell? ⟨bx, 0, none⟩ = some (.int .i64 (k : Int)) := hT2.x.2.1 0
  have xz2 := hT2.x.1
  have hTh := Lib.hid hT
  have hHh := Lib.hid hH
  have hOh := Lib.hid hO
  replace hX2 := Lib.hid hX2
  clear hT hH hO hS hS1 hf1 kE c0 fc hb2 hxn hT2
  obtain ⟨xb, hxb⟩ : ∃ xb, xb = w1.heap.size := ⟨_, rfl⟩
  rw [← hxb] at hX2 ⊢
  have hxw : w.heap.size ≤ xb := by omega
  clear hxb hz1
  have hxB : B1 ≤ xb := by omega
  go_upto_region 2 with (fail)
  go_loopw [10] (fun v wr => ∃ (j r : Nat) (E2 : Option Addr), v = .int .i64 (j : Int) ∧ j ≤ k ∧ TnS w xb lv br bi A n c l s1 j E2 r wr) (fun v _ => k - (intOf v).toNat)
  case atStart => exact ⟨0, 0, none, rfl, by omega, hX2.out⟩
  case round =>
    clear hX2 c02 x02 xz2
    obtain ⟨j, r, E2, rfl, hj, hX⟩ := hrel
    have hTr := hTh.out.read hK hX.f
    obtain ⟨_, c0, _⟩ := hTr.c.open1
    obtain ⟨hxz, y0, y1, fy0, fy1⟩ := hX.x.open2
    by_cases hlt : j < k
    · have dj : decide ((j : Int) < k) = true := decide_eq_true (by omega)
      have dj' : decide (j < k) = true := decide_eq_true hlt
      have ej : IntKind.i64.wrap ((j : Int) + 1) = ((j + 1 : Nat) : Int) := by rw [IntWalk.i64_in _ (by omega)]; omega
      have hrow : ∀ q, (Value.slice E2 j r).ownBlock = some q → xb < q := fun q hq => by have := (hX.e.row.lt q hq).1; omega
      have kG := fun w1 h1 => snp_gamma br bi A n c l (gmsR (unB l) s1 j).2 w1 h1
      obtain ⟨a, ha⟩ : ∃ a, a = (gamR (unB l) (gmsR (unB l) s1 j).2).1 := ⟨_, rfl⟩
      rw [← ha] at kG
      have kF' : Calls Tryz.prog 59 #[.pointer (some ⟨br, 0, none⟩)] wr.drew fun e w7 => e = .returned (.int .i64 a) ∧ Hid (BxW w7 xb [.int .i64 lv, .slice E2 j r] ∧ Fr2 (RB br bi) w w7 ∧ RdS w7 br bi A n c l (gmsR (unB l) s1 (j + 1)).2) ∧ Own encI 1 3 (xb + 1) w7 E2 j r (gmsR (unB l) s1 j).1 ∧ xb < w7.heap.size ∧ w7.cell? ⟨xb, 1, none⟩ = some (.slice E2 j r) := by
        have hd : Below wr.heap.size wr wr.drew := (Below.refl _ _).drew
        refine (kG _ (hX.s.of hd)).mono ?_
        rintro e w7 ⟨rfl, hS7, hf7⟩
        have hx7 := (hX.x.of hd).frR hf7 (by rintro (k | k) <;> omega)
        exact ⟨rfl, Lib.hid ⟨hx7, (hX.f.of hd).then hf7 (fun _ _ e => e), hS7⟩, (hX.e.of hd).fr2 hf7 (fun q hq => by have := hrow q hq; rintro (k | k) <;> omega), hx7.1, hx7.2.1 1⟩
      have kA : ∀ (w7 : World), Hid (BxW w7 xb [.int .i64 lv, .slice E2 j r] ∧ Fr2 (RB br bi) w w7 ∧ RdS w7 br bi A n c l (gmsR (unB l) s1 (j + 1)).2) → ∀ (A5 : Option Addr) (c5 : Nat) (w5 : World), Own encI 1 3 (xb + 1) w5 A5 (j + 1) c5 ((gmsR (unB l) s1 j).1 ++ [a]) → (w7.alloc (.cells #[.int .i64 a] 3)).grownBy w5 (Value.slice E2 j r).ownBlock →
          w5.cell? ⟨xb, 1, none⟩ = some (.slice E2 j r) ∧ w5.frozen? ⟨xb, 1, none⟩ = false ∧ Hid (TnS w xb lv br bi A n c l s1 (j + 1) A5 c5 (w5.setCell ⟨xb, 1, none⟩ (.slice A5 (j + 1) c5))) := by
        intro w7 h7 A5 c5 w5 hown5 hg5
        obtain ⟨hx7, hf7, hS7⟩ := h7.out
        have hal : Below w7.heap.size w7 (w7.alloc (.cells #[.int .i64 a] 3)) := (Below.refl _ _).alloc (Nat.le_refl _) _
        have hx5 := (hx7.of hal).grown hg5 (fun e => by have := hrow _ e.symm; omega)
        have hS5 := (hS7.of hal).gr hK hA hg5 (fun q hq => by have := hrow q hq; omega)
        have hf5 := (hf7.of hal).grown hg5 (fun q hq => .inr (by have := hrow q hq; omega))
        refine ⟨hx5.2.1 1, hx5.2.2 1, Lib.hid ⟨hx5.put 1 _ (by simp), ?_, hf5.put 1 _ (.inr hxw), hS5.gr hK hA (grownBy_set _ xb 1 _) (fun q e => by injection e with e; omega)⟩⟩
        rw [show (gmsR (unB l) s1 (j + 1)).1 = (gmsR (unB l) s1 j).1 ++ [a] by rw [ha]; rfl]
        exact hown5.setBelow (by omega) _
      generalize (gmsR (unB l) s1 j).1 = M at kF' kA
      clear hX hTr fy0 fy1 y0 kG ha hrow
      go_upto_region 3 with (fail)
      go_region_law
        (first
        | (go_simp; go_at_call 59; refine kF'.mono ?_; rintro e w7 ⟨rfl, h7, hE7, hbx7, x7⟩)
        | (refine step_append_el (by rfl) (.tmp 13) (.tmp 16) 91 (by rfl) encI 1 3 (.int .i64 0) 8 Tryz.underlying91 (by kernel_rfl) rfl (by decide) encI_len encI_one (xb + 1) _ _ _ M (by rfl) (Own.alloc hE7 _) a ⟨w7.heap.size, 0, none⟩ 1 (by rfl) (cells_new w7 (encI a) 3) (by omega) (by omega) (by simp only [World.size_alloc]; omega) ?_; intro A5 c5 w5 hown5 hg5 hb5; obtain ⟨o5, fo5, hfin⟩ := kA w7 h7 A5 c5 w5 hown5 hg5))
      all_goals
        go_wp2_with fail
        go_roundw
        case rel => exact ⟨j + 1, c5, A5, by go_num, by omega, hfin.out⟩
        case measure => simp [intOf]; omega
    · obtain rfl : j = k := by omega
      have dj : decide ((j : Int) < j) = false := decide_eq_false (by omega)
      have dj' : decide (j < j) = false := decide_eq_false (by omega)
      have x2 : wr.cell? ⟨bx, 2, none⟩ = some (.slice OA on oc) := hTr.x.2.1 2
      have fx2 : wr.frozen? ⟨bx, 2, none⟩ = false := hTr.x.2.2 2
      have xz := hTr.x.1
      have hOr := hOh.out.read hX.f (by omega) (by omega) (Nat.lt_of_lt_of_le hn2 hTh.out.f.size)
      have hHr := hHh.out.fr2 hX.f (fun q hq => by have := (hHh.out.row.lt q hq).1; rintro (k | k) <;> omega)
      have hE := hX.e
      have hSr := hX.s
      rw [← hLN.out] at hE
      rw [← hSN.out] at hSr
      have hcap := hE.capO
      have hlenE := hE.rd encI_len
      have hEb := hE.blk
      have hlt2 := hOh.out.lt
      have hHb := hOr.apart hHr (by decide)
      have kA : ∀ (A5 : Option Addr) (c5 : Nat) (w5 : World), OwnO ekN 93 B1 (fun _ => False) w5 A5 (on + 1) c5 (N ++ [(lv, LN)]) → (wr.alloc (.cells #[.int .i64 lv, .slice E2 j r] 93)).grownBy w5 (Value.slice OA on oc).ownBlock →
          w5.cell? ⟨bx, 2, none⟩ = some (.slice OA on oc) ∧ w5.frozen? ⟨bx, 2, none⟩ = false ∧ Hid (TkB B1 w0 br bi b4 bx [.int .i64 (j : Int), .slice HA hn hc, .slice A5 (on + 1) c5] (w5.setCell ⟨bx, 2, none⟩ (.slice A5 (on + 1) c5)) ∧ Own encP 2 66 B1 (w5.setCell ⟨bx, 2, none⟩ (.slice A5 (on + 1) c5)) HA hn hc H ∧ OwnO ekN 93 B1 (fun _ => False) (w5.setCell ⟨bx, 2, none⟩ (.slice A5 (on + 1) c5)) A5 (on + 1) c5 (N ++ [(lv, LN)]) ∧ RdS (w5.setCell ⟨bx, 2, none⟩ (.slice A5 (on + 1) c5)) br bi A n c l SN) := by
        intro A5 c5 w5 hO5 hg5
        have hal : Below wr.heap.size wr (wr.alloc (.cells #[.int .i64 lv, .slice E2 j r] 93)) := (Below.refl _ _).alloc (Nat.le_refl _) _
        have hrow : ∀ q, (Value.slice OA on oc).ownBlock = some q → B1 ≤ q := fun q hq => (hlt2 q hq).1
        have hT5 := (hTr.of hal).gr hK hg5 hrow
        have hS5 := (hSr.of hal).gr hK hA hg5 (fun q hq => by have := hrow q hq; omega)
        have hH5 := (hHr.of hal).over2 hg5 (fun q hq e => hHb.2 q hq e)
        exact ⟨hT5.x.2.1 2, hT5.x.2.2 2, Lib.hid ⟨hT5.put hK 2 _ (by simp), hH5.setBelow (by omega) _, hO5.grow (grownBy_set _ bx 2 _) (fun q hq e => by injection e with e; have := (hO5.lt q hq).1; omega) (fun q e => by injection e with e; exact .inr (by omega)) (fun _ _ e => e), hS5.gr hK hA (grownBy_set _ bx 2 _) (fun q e => by injection e with e; omega)⟩⟩
      clear hTr hHr hSr hX hHb hE fy0 fy1 c0
      go_wp2_with (first | (at_builtin; refine wpList_append_o (K := ekN) rfl (.tmp 21) (.tmp 23) 35 rfl 93 (.agg #[.int .i64 0, .slice none 0 0]) 32 Tryz.underlying35 (by kernel_rfl) rfl B1 _ _ _ _ rfl (OwnO.of hOr ((Below.refl _ _).alloc (Nat.le_refl _) _)) (lv, E2, j, r) (lv, LN) ⟨rfl, hlenE.of ((Below.refl _ _).alloc (Nat.le_refl _) _), hcap⟩ (fun q hq => ⟨fun e => by have := (hEb q hq).2.1; have := (hlt2 q e.symm).2; omega, fun h => h, by have := (hEb q hq).2.1; omega⟩) ⟨wr.heap.size, 0, none⟩ 1 rfl (cells_new wr (encN (lv, E2, j, r)) 93) (by omega) (by omega) (by simp only [World.size_alloc]; omega) ?_; intro A5 c5 w5 hO5 hg5 hb5 hl5; obtain ⟨x5, fx5, hfin⟩ := kA A5 c5 w5 hO5 hg5; clear hO5 hg5 hb5 hl5))
      all_goals
        go_end0
        exact ⟨rfl, A5, on + 1, c5, hfin.out⟩
end Go.Proofs.YtmenokhnanghgaaGreat
