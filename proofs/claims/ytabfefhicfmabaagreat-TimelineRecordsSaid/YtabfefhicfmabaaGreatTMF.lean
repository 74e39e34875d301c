/- timeline.made for a recorded run. timeline.made for a piece of a timeline. The reference's gens and build. The row of generations over the append of a pattern (for the reference's Append). -/
import Derived.Test.YtabfefhicfmabaaGreatTMC
import Derived.Test.YtabfefhicfmabaaGreatDLS
set_option linter.unusedSimpArgs false
set_option linter.unusedVariables false
section
namespace Go.Proofs.YtabfefhicfmabaaGreat
open Go Go.RowKit
set_option maxRecDepth 100000
theorem rec_gen (k : Int) (w : World) : Calls Tryz.prog 64 #[.int .i64 k] w fun e w' => e = .returned (.int .i64 k) ∧ Below w.heap.size w w' := by
  go_enter Tryz.func64, Tryz.ntmps64
  go_wp2_with fail
  go_ret
  exact ⟨rfl, by (repeat' (first | exact Below.refl _ _ | assumption | (refine Below.alloc ?_ ?_ _) | (refine Below.setCell ?_ ?_ _) | (refine Below.drew ?_) | (refine below_drewN ?_ _) | (refine below_after (Ext.below _) ?_ ?_) | (refine below_after (by assumption) ?_ ?_) | (simp; done) | omega | (simp; omega)))⟩
theorem FrW.one {W w' : World} {b1 i1 : Nat} {v1 : Value} (h : FrW W w') (hb1 : b1 < W.heap.size) (c1 : W.cell? ⟨b1, i1, none⟩ = some v1) :
    FrW W w' ∧ w'.cell? ⟨b1, i1, none⟩ = some v1 := ⟨h, (h.below.cell (p := ⟨_, _, none⟩) hb1).trans c1⟩
theorem OwnX.ge {α β : Type} {K : EK α β} {e : TypeId} {B n c : Nat} {w : World} {A : Option Addr} {bs : List β} (h : OwnX K e B w A n c bs) : ∀ q, (Value.slice A n c).ownBlock = some q → B ≤ q := by
  obtain ⟨us, h1, _, _⟩ := h
  exact fun q hq => (h1.row.lt q hq).1
theorem FrW.set4 {W w : World} {b : Nat} (h : FrW W w) (hb : W.heap.size ≤ b) (v0 v1 v2 v3 : Value) : FrW W ((((w.setCell ⟨b, 0, none⟩ v0).setCell ⟨b, 1, none⟩ v1).setCell ⟨b, 2, none⟩ v2).setCell ⟨b, 3, none⟩ v3) := ⟨set4_below h.below hb _ _ _ _⟩
set_option maxHeartbeats 8000000 in
theorem tl_madeR (K n c : Nat) (A : Option Addr) (l : List (List Cel)) (w : World) (hK : 1 ≤ K ∧ K ≤ 100) (hl : RdX ekC w A n l) (hr : ∀ p ∈ l, rightC p = true) (hn : n ≤ 1000) :
    Calls Tryz.prog 63 #[.int .i64 (K : Int), .slice A n c, .func (.func 64) #[] #[]] w fun e w' => ∃ B m d, e = .returned (.tuple #[.agg #[.int .i64 (K : Int), .slice B m d], .int .i64 0]) ∧
      OwnX ekFr 54 w.heap.size w' B m d (bldL K (nnL n) l n) ∧ Below w.heap.size w w' := by
  go_enter Tryz.func63, Tryz.ntmps63
  go_wp2_with fail
  have hrb := (BxW.new w [.int .i64 0, .slice none 0 0] 34).of ((Below.refl _ _).alloc (Nat.le_refl _) (.cells #[.int .i64 (K : Int), .slice none 0 0] 34))
  have hxb := BxW.new (w.alloc (.cells #[.int .i64 0, .slice none 0 0] 34)) [.int .i64 (K : Int), .slice none 0 0] 34
  have hbe : Below w.heap.size w ((w.alloc (.cells #[.int .i64 0, .slice none 0 0] 34)).alloc (.cells #[.int .i64 (K : Int), .slice none 0 0] 34)) := by (repeat' (first | exact Below.refl _ _ | assumption | (refine Below.alloc ?_ ?_ _) | (refine Below.setCell ?_ ?_ _) | (refine Below.drew ?_) | (refine below_drewN ?_ _) | (refine below_after (Ext.below _) ?_ ?_) | (refine below_after (by assumption) ?_ ?_) | (simp; done) | omega | (simp; omega)))
  obtain ⟨we, hwe⟩ : ∃ we, we = (w.alloc (.cells #[.int .i64 0, .slice none 0 0] 34)).alloc (.cells #[.int .i64 (K : Int), .slice none 0 0] 34) := ⟨_, rfl⟩
  have hsw : we.heap.size = w.heap.size + 1 + 1 := by rw [hwe]; simp
  rw [World.size_alloc] at hxb
  rw [show ∀ a b : Value, [a, b].toArray = #[a, b] from fun _ _ => rfl] at hrb hxb
  rw [← hwe] at hrb hxb hbe ⊢
  clear hwe
  obtain ⟨rb, hrbe⟩ : ∃ rb, rb = w.heap.size := ⟨_, rfl⟩
  obtain ⟨xb, hxbe⟩ : ∃ xb, xb = w.heap.size + 1 := ⟨_, rfl⟩
  rw [← hrbe] at hrb
  rw [← hxbe] at hxb
  rw [← hxbe, ← hrbe]
  have hrbx := Lib.hid hrbe
  have hxbx := Lib.hid hxbe
  have hne : rb ≠ xb := by omega
  have hrl : rb < w.heap.size + 2 := by omega
  have hxl : xb < w.heap.size + 2 := by omega
  have hrg : w.heap.size ≤ rb := by omega
  have hxg : w.heap.size ≤ xb := by omega
  clear hrbe hxbe
  go_loopw [17] (fun t wr => ∃ (E : Option Addr) (q j : Nat), t = .int .i64 j ∧ j ≤ n ∧ BxW wr rb [.int .i64 0, .slice none 0 0] ∧ BxW wr xb [.int .i64 (K : Int), .slice E j q] ∧ OwnX (ekFrN rb xb) 54 (w.heap.size + 2) wr E j q (bldL K (nnL n) l j) ∧ Below w.heap.size w wr ∧ w.heap.size + 2 ≤ wr.heap.size) (fun t _ => n - (intOf t).toNat)
  case atStart => exact ⟨none, 0, 0, rfl, by omega, hrb, hxb, OwnX.nil_, hbe, by omega⟩
  case round =>
    clear hrb hxb hbe hsw
    obtain ⟨E, q', j, rfl, hj, hrb, hxb, hX, hb, hsz⟩ := hrel
    by_cases hlt : j < n
    · have dj : decide ((j : Int) < n) = true := decide_eq_true (by omega)
      have dj' : decide (j < n) = true := decide_eq_true hlt
      obtain ⟨i, hi⟩ : ∃ i, i = j - 1 := ⟨_, rfl⟩
      obtain ⟨PA, pn, pc, p, bo, o, hp, rfl, hbo0, g1, hP0, hpc⟩ := hl.pat hlt
      have hP := hP0.of hb
      have hbo : bo < wr.heap.size := by omega
      rw [← hb.cell (p := ⟨_, _, none⟩) hbo0] at g1
      obtain ⟨BA, bn, bc, b, bo2, o2, hb0, he2, _, g2, hB, _⟩ := (hl.of hb).pat (i := i) (by omega)
      injection he2 with he2
      injection he2 with e1 e2
      subst e1 e2
      have hmw : IntKind.i64.wrap ((j : Int) - 1) = (j : Int) - 1 := IntWalk.i64_in _ (by omega)
      have hmx : max (0 : Int) ((j : Int) - 1) = (i : Int) := by omega
      have hi0 : (0 : Int) ≤ (i : Int) := by omega
      have hi1 : (i : Int) < (n : Int) := by omega
      have hi2 : i < n := by omega
      have kF := fun w1 h1 h2 => tl_frame K j (j : Int) BA PA bn bc pn pc b p w1 hK (by omega) (hr _ (List.mem_of_getElem? hb0.out)) (hr _ (List.mem_of_getElem? hp.out)) h1 h2 hpc
      have ⟨_, x0, x1, fx0, fx1⟩ := hxb.open2
      have hiq := Lib.hid hi
      clear hi
      go_wp2_with fail
      go_region_held3 (fun w' => FrW wr w' ∧ w'.cell? ⟨bo, o + i, none⟩ = some (.slice BA bn bc))
        (((try go_split_ands); refine FrW.one ?_ hbo g2; with_reducible (first | assumption | exact FrW.drew (FrW.here _) | exact FrW.drew (FrW.alloc (FrW.here _) _) | exact FrW.drew ‹_› | exact FrW.of ‹_› hb8 | exact FrW.of ‹_› hb7 | exact FrW.alloc ‹_› _ | exact FrW.alloc (FrW.of ‹_› hb8) _ | exact FrW.set4 (FrW.of ‹_› hb8) (by first | exact Nat.le_refl _ | exact Below.size (FrW.below ‹FrW wr w3›) | (have h := hb7.size; simp only [World.size_drew, World.size_alloc] at h; omega)) _ _ _ _ | fail)))
        ((first | (go_at_call 64; (try go_split_ands); refine (rec_gen _ _).mono ?_; rintro e3 w3 ⟨rfl, hb7⟩) | (go_at_call 76; (try go_split_ands); refine (kF _ (hB.of (FrW.below ‹_›)) (hP.of (FrW.below ‹_›))).mono ?_; rintro e4 w4 ⟨hC, hD, rfl, hrel, hblk, hb8⟩; (try (have hk4 : BxW _ _ [.int .i64 0, .bool false, .slice none 0 0, .slice none 0 0] := (by with_reducible first | exact (BxW.new _ _ 54).of hb8 | exact ((BxW.drew (BxW.new _ _ 54)).of hb7).of hb8 | exact ((BxW.new _ _ 54).of hb7).of hb8); (try simp only [World.size_drew] at hk4); have ⟨k4, k40, k41, k42, k43, f40, f41, f42, f43⟩ := hk4.open4))) | fail))
      all_goals (try go_split_ands)
      all_goals
        have hB4 : Below wr.heap.size wr w4 := FrW.below (FrW.of ‹_› hb8)
        first
          | (obtain ⟨w5, kb, e5, ek, hk5, hB5, hr5, hkb⟩ := fr_alloc 54 hB4 hrel
             rw [← e5, ← ek])
          | (have hw3 : wr.heap.size ≤ w3.heap.size := (by first | exact Below.size (FrW.below ‹FrW wr w3›) | exact hb7.size)
             obtain ⟨w5, kb, e5, ek, hk5, hB5, hr5, hkb⟩ := fr_set hk4 hB4 hrel (by first | exact Nat.le_refl _ | exact hw3) (fun q hq e => by
               have h8 := hb8.size
               have hw := hw3
               have h7 := hb7.size
               (try simp only [World.size_alloc, World.size_drew] at h8)
               (try simp only [World.size_alloc, World.size_drew] at h7)
               rcases hblk q hq with h | h
               · have := hP.blk_lt q h
                 omega
               · (try simp only [World.size_alloc, World.size_drew] at h)
                 omega)
             rw [← e5, ← ek])
        clear e5 ek
        have hoff5 : ∀ q ∈ ekFr.blk ((j : Int), decide (j % K = 0), hC, hD), q < w.heap.size ∨ wr.heap.size ≤ q := by
          intro q hq
          rcases hblk q hq with h | h
          · exact .inl (hP0.blk_lt q h)
          · have hw : wr.heap.size ≤ w3.heap.size := (by first | exact Below.size (FrW.below ‹FrW wr w3›) | exact hb7.size)
            (try simp only [World.size_alloc, World.size_drew] at h)
            exact .inr (by omega)
        have hr5' : (ekFrN rb xb).rel w5 ((j : Int), decide (j % K = 0), hC, hD) ((j : Int), decide (j % K = 0), if j % K = 0 then p else [], if j % K = 0 then [] else ofL b p) := ⟨hr5, fun q hq => by have := hoff5 q hq; omega⟩
        have hxb5 := hxb.of hB5
        have hrb5 := hrb.of hB5
        have hX5 := hX.of hB5
        have hl5 := hB5.size
        have hB05 : Below w.heap.size w w5 := below_thru hb hB5
        have hoffX : ∀ q ∈ (ekFrN rb xb).blk ((j : Int), decide (j % K = 0), hC, hD), some q ≠ (Value.slice E j q').ownBlock := fun z hz e => by
          have h1 := OwnX.ge hX z e.symm
          have h2 := hX.lt z e.symm
          have h3 := hoff5 z hz
          omega
        have hst := Lib.hid (show bldL K (nnL n) l (j + 1) = bldL K (nnL n) l j ++ [((j : Int), decide (j % K = 0), if j % K = 0 then p else [], if j % K = 0 then [] else ofL b p)] by
          show _ ++ [bldF K (nnL n) l j] = _
          unfold bldF
          rw [nn_get hlt, getD_of hp.out, ← hiq.out, getD_of hb0.out])
        clear hrel hblk hB4 hb7 hb8 x0 x1 fx0 fx1 hoff5 hr5 g1 g2 kF
        have ⟨_, k50, k51, k52, k53, g50, g51, g52, g53⟩ := hk5.open4
        have ⟨_, x0, x1, fx0, fx1⟩ := hxb5.open2
        go_wp2_with (first | ((at_builtin; refine wpList_append_x (K := (ekFrN rb xb)) rfl (.tmp 43) (.tmp 45) 32 rfl 54 (.agg #[.int .i64 0, .bool false, .slice none 0 0, .slice none 0 0]) 64 Tryz.underlying32 (by kernel_rfl) rfl (w.heap.size + 2) _ _ _ _ rfl (hX5.alloc _) ((j : Int), decide (j % K = 0), hC, hD) _ ((ekFrN rb xb).keep hr5' (World.grownBy_alloc _ _ none) (fun _ _ e => by cases e)) (hoffX) ⟨(w5).heap.size, 0, none⟩ 1 rfl (cells_new (w5) (encFr ((j : Int), decide (j % K = 0), hC, hD)) 54) (by omega) (by omega) (by first | omega | (simp; done) | (simp; omega)) ?_; intro A6 c6 w6 hown6 hg6 hb6; have hs6 := hb6.size; (try simp only [World.size_alloc, World.size_setCell, World.size_drew] at hs6)); have hx6 := (hxb5.of ((Below.refl _ _).alloc (Nat.le_refl _) (.cells (encFr ((j : Int), decide (j % K = 0), hC, hD)).toArray 54))).grown hg6 (fun e => by have := OwnX.ge hX xb e.symm; omega); have hr6 := (hrb5.of ((Below.refl _ _).alloc (Nat.le_refl _) (.cells (encFr ((j : Int), decide (j % K = 0), hC, hD)).toArray 54))).grown hg6 (fun e => by have := OwnX.ge hX rb e.symm; omega); have ⟨_, x60, x61, f60, f61⟩ := hx6.open2))
        have hB6 : Below w.heap.size w w6 := by (repeat' (first | exact Below.refl _ _ | assumption | (refine Below.alloc ?_ ?_ _) | (refine Below.setCell ?_ ?_ _) | (refine Below.drew ?_) | (refine below_drewN ?_ _) | (refine below_after (Ext.below _) ?_ ?_) | (refine below_after (by assumption) ?_ ?_) | (simp; done) | omega | (simp; omega)))
        clear x0 x1 fx0 fx1 k50 k51 k52 k53 g50 g51 g52 g53 x60 x61 f60 f61
        go_roundw
        case rel => exact ⟨A6, c6, j + 1, by go_num, by omega, hr6.off 1 _ (fun e => hne e.symm), hx6.put 1 _ (by simp), by rw [hst.out]; exact hown6.setN 1 _ (.inr rfl) hxl, hB6.setCell hxg _, by rw [World.size_setCell]; omega⟩
        case measure => simp [intOf]; omega
    · obtain rfl : j = n := by omega
      have dj : decide ((j : Int) < j) = false := decide_eq_false (by omega)
      have dj' : decide (j < j) = false := decide_eq_false (by omega)
      have ⟨_, x0, x1, fx0, fx1⟩ := hxb.open2
      have ⟨_, r0, r1, fr0, fr1⟩ := hrb.open2
      go_wp2_with fail
      refine bodyPost_ret (v := .tuple #[.agg #[.int .i64 (K : Int), .slice E j q'], .int .i64 0]) (by simp [results, Tryz.results63, go_sem, *, ↓IntWalk.iteOmega]) rfl ?_
      exact ⟨E, j, q', rfl, (((hX.setN 0 _ (.inl rfl) hrl).setN 1 _ (.inl rfl) hrl).dropN).more (by omega), (hb.setCell hrg _).setCell hrg _⟩
end Go.Proofs.YtabfefhicfmabaaGreat
end
section
namespace Go.Proofs.YtabfefhicfmabaaGreat
open Go Go.RowKit
set_option maxRecDepth 100000
theorem cut_gen (bx bf fn fc f k : Nat) (FA : Option Addr) (fs : List TFr) (w : World) (hx : w.cell? ⟨bx, 1, none⟩ = some (.slice FA fn fc)) (hf : w.cell? ⟨bf, 0, none⟩ = some (.int .i64 f)) (hF : RdX ekFr w FA fn fs) (hk : f + k < fn) (hn : fn ≤ 1000) :
    Calls Tryz.prog 79 #[.int .i64 k, .pointer (some ⟨bx, 0, none⟩), .pointer (some ⟨bf, 0, none⟩)] w fun e w' => e = .returned (.int .i64 ((gnL fs).getD (f + k) 0)) ∧ Below w.heap.size w w' := by
  obtain ⟨gen, fu, C, D, CA, cn, cc, DA, dn, dc, bo, o, hfr, rfl, hbo, c0, c1, c2, c3, _⟩ := hF.frm hk
  have hg : (gnL fs).getD (f + k) 0 = gen := getD_of (by unfold gnL; rw [List.getElem?_map, hfr.out]; rfl)
  rw [hg]
  have e1 : IntKind.i64.wrap ((f : Int) + (k : Int)) = ((f + k : Nat) : Int) := by rw [IntWalk.i64_in _ (by omega)]; omega
  clear hg hfr
  generalize f + k = i at hk e1 c0
  go_enter Tryz.func79, Tryz.ntmps79
  go_wp2_with fail
  go_ret
  exact ⟨rfl, by (repeat' (first | exact Below.refl _ _ | assumption | (refine Below.alloc ?_ ?_ _) | (refine Below.setCell ?_ ?_ _) | (refine Below.drew ?_) | (refine below_drewN ?_ _) | (refine below_after (Ext.below _) ?_ ?_) | (refine below_after (by assumption) ?_ ?_) | (simp; done) | omega | (simp; omega)))⟩
set_option maxHeartbeats 8000000 in
theorem tl_madeC (K n c bx bf fn fc f : Nat) (A FA : Option Addr) (l : List (List Cel)) (fs : List TFr) (gs : List Int) (w : World) (hK : 1 ≤ K ∧ K ≤ 100) (hl : RdX ekC w A n l) (hr : ∀ p ∈ l, rightC p = true) (hn : n ≤ 1000) (hx : w.cell? ⟨bx, 1, none⟩ = some (.slice FA fn fc)) (hf : w.cell? ⟨bf, 0, none⟩ = some (.int .i64 f)) (hbx : bx < w.heap.size) (hbf : bf < w.heap.size) (hF : RdX ekFr w FA fn fs) (hfn : f + n ≤ fn) (hfn2 : fn ≤ 1000) (hgs : ∀ i, i < n → gs.getD i 0 = (gnL fs).getD (f + i) 0) :
    Calls Tryz.prog 63 #[.int .i64 (K : Int), .slice A n c, .func (.func 79) #[] #[.pointer (some ⟨bx, 0, none⟩), .pointer (some ⟨bf, 0, none⟩)]] w fun e w' => ∃ B m d, e = .returned (.tuple #[.agg #[.int .i64 (K : Int), .slice B m d], .int .i64 0]) ∧
      OwnX ekFr 54 w.heap.size w' B m d (bldL K (gs) l n) ∧ Below w.heap.size w w' := by
  go_enter Tryz.func63, Tryz.ntmps63
  go_wp2_with fail
  have hrb := (BxW.new w [.int .i64 0, .slice none 0 0] 34).of ((Below.refl _ _).alloc (Nat.le_refl _) (.cells #[.int .i64 (K : Int), .slice none 0 0] 34))
  have hxb := BxW.new (w.alloc (.cells #[.int .i64 0, .slice none 0 0] 34)) [.int .i64 (K : Int), .slice none 0 0] 34
  have hbe : Below w.heap.size w ((w.alloc (.cells #[.int .i64 0, .slice none 0 0] 34)).alloc (.cells #[.int .i64 (K : Int), .slice none 0 0] 34)) := by (repeat' (first | exact Below.refl _ _ | assumption | (refine Below.alloc ?_ ?_ _) | (refine Below.setCell ?_ ?_ _) | (refine Below.drew ?_) | (refine below_drewN ?_ _) | (refine below_after (Ext.below _) ?_ ?_) | (refine below_after (by assumption) ?_ ?_) | (simp; done) | omega | (simp; omega)))
  obtain ⟨we, hwe⟩ : ∃ we, we = (w.alloc (.cells #[.int .i64 0, .slice none 0 0] 34)).alloc (.cells #[.int .i64 (K : Int), .slice none 0 0] 34) := ⟨_, rfl⟩
  have hsw : we.heap.size = w.heap.size + 1 + 1 := by rw [hwe]; simp
  rw [World.size_alloc] at hxb
  rw [show ∀ a b : Value, [a, b].toArray = #[a, b] from fun _ _ => rfl] at hrb hxb
  rw [← hwe] at hrb hxb hbe ⊢
  clear hwe
  obtain ⟨rb, hrbe⟩ : ∃ rb, rb = w.heap.size := ⟨_, rfl⟩
  obtain ⟨xb, hxbe⟩ : ∃ xb, xb = w.heap.size + 1 := ⟨_, rfl⟩
  rw [← hrbe] at hrb
  rw [← hxbe] at hxb
  rw [← hxbe, ← hrbe]
  have hrbx := Lib.hid hrbe
  have hxbx := Lib.hid hxbe
  have hne : rb ≠ xb := by omega
  have hrl : rb < w.heap.size + 2 := by omega
  have hxl : xb < w.heap.size + 2 := by omega
  have hrg : w.heap.size ≤ rb := by omega
  have hxg : w.heap.size ≤ xb := by omega
  clear hrbe hxbe
  go_loopw [17] (fun t wr => ∃ (E : Option Addr) (q j : Nat), t = .int .i64 j ∧ j ≤ n ∧ BxW wr rb [.int .i64 0, .slice none 0 0] ∧ BxW wr xb [.int .i64 (K : Int), .slice E j q] ∧ OwnX (ekFrN rb xb) 54 (w.heap.size + 2) wr E j q (bldL K (gs) l j) ∧ Below w.heap.size w wr ∧ w.heap.size + 2 ≤ wr.heap.size) (fun t _ => n - (intOf t).toNat)
  case atStart => exact ⟨none, 0, 0, rfl, by omega, hrb, hxb, OwnX.nil_, hbe, by omega⟩
  case round =>
    clear hrb hxb hbe hsw
    obtain ⟨E, q', j, rfl, hj, hrb, hxb, hX, hb, hsz⟩ := hrel
    by_cases hlt : j < n
    · have dj : decide ((j : Int) < n) = true := decide_eq_true (by omega)
      have dj' : decide (j < n) = true := decide_eq_true hlt
      obtain ⟨i, hi⟩ : ∃ i, i = j - 1 := ⟨_, rfl⟩
      obtain ⟨PA, pn, pc, p, bo, o, hp, rfl, hbo0, g1, hP0, hpc⟩ := hl.pat hlt
      have hP := hP0.of hb
      have hbo : bo < wr.heap.size := by omega
      rw [← hb.cell (p := ⟨_, _, none⟩) hbo0] at g1
      obtain ⟨BA, bn, bc, b, bo2, o2, hb0, he2, _, g2, hB, _⟩ := (hl.of hb).pat (i := i) (by omega)
      injection he2 with he2
      injection he2 with e1 e2
      subst e1 e2
      have hmw : IntKind.i64.wrap ((j : Int) - 1) = (j : Int) - 1 := IntWalk.i64_in _ (by omega)
      have hmx : max (0 : Int) ((j : Int) - 1) = (i : Int) := by omega
      have hi0 : (0 : Int) ≤ (i : Int) := by omega
      have hi1 : (i : Int) < (n : Int) := by omega
      have hi2 : i < n := by omega
      obtain ⟨g, hgj⟩ : ∃ g, gs.getD j 0 = g := ⟨_, rfl⟩
      have kG := fun w1 (h1 : Below wr.heap.size wr w1) => cut_gen bx bf fn fc f j FA fs w1 (((below_thru hb h1).cell (p := ⟨_, _, none⟩) hbx).trans hx) (((below_thru hb h1).cell (p := ⟨_, _, none⟩) hbf).trans hf) (hF.of (below_thru hb h1)) (by omega) hfn2
      rw [← hgs j hlt, hgj] at kG
      have kF := fun w1 h1 h2 => tl_frame K j g BA PA bn bc pn pc b p w1 hK (by omega) (hr _ (List.mem_of_getElem? hb0.out)) (hr _ (List.mem_of_getElem? hp.out)) h1 h2 hpc
      have ⟨_, x0, x1, fx0, fx1⟩ := hxb.open2
      have hiq := Lib.hid hi
      have hgq := Lib.hid hgj
      clear hi hgs
      go_wp2_with fail
      go_region_held3 (fun w' => FrW wr w' ∧ w'.cell? ⟨bo, o + i, none⟩ = some (.slice BA bn bc))
        (((try go_split_ands); refine FrW.one ?_ hbo g2; with_reducible (first | assumption | exact FrW.drew (FrW.here _) | exact FrW.drew (FrW.alloc (FrW.here _) _) | exact FrW.drew ‹_› | exact FrW.of ‹_› hb8 | exact FrW.of ‹_› hb7 | exact FrW.alloc ‹_› _ | exact FrW.alloc (FrW.of ‹_› hb8) _ | exact FrW.set4 (FrW.of ‹_› hb8) (by first | exact Nat.le_refl _ | exact Below.size (FrW.below ‹FrW wr w3›) | (have h := hb7.size; simp only [World.size_drew, World.size_alloc] at h; omega)) _ _ _ _ | fail)))
        ((first | (go_at_call 79; (try go_split_ands); refine (kG _ (FrW.below ‹_›)).mono ?_; rintro e3 w3 ⟨rfl, hb7⟩) | (go_at_call 76; (try go_split_ands); refine (kF _ (hB.of (FrW.below ‹_›)) (hP.of (FrW.below ‹_›))).mono ?_; rintro e4 w4 ⟨hC, hD, rfl, hrel, hblk, hb8⟩; (try (have hk4 : BxW _ _ [.int .i64 0, .bool false, .slice none 0 0, .slice none 0 0] := (by with_reducible first | exact (BxW.new _ _ 54).of hb8 | exact ((BxW.drew (BxW.new _ _ 54)).of hb7).of hb8 | exact ((BxW.new _ _ 54).of hb7).of hb8); (try simp only [World.size_drew] at hk4); have ⟨k4, k40, k41, k42, k43, f40, f41, f42, f43⟩ := hk4.open4))) | fail))
      all_goals (try go_split_ands)
      all_goals
        have hB4 : Below wr.heap.size wr w4 := FrW.below (FrW.of ‹_› hb8)
        first
          | (obtain ⟨w5, kb, e5, ek, hk5, hB5, hr5, hkb⟩ := fr_alloc 54 hB4 hrel
             rw [← e5, ← ek])
          | (have hw3 : wr.heap.size ≤ w3.heap.size := (by first | exact Below.size (FrW.below ‹FrW wr w3›) | exact hb7.size)
             obtain ⟨w5, kb, e5, ek, hk5, hB5, hr5, hkb⟩ := fr_set hk4 hB4 hrel (by first | exact Nat.le_refl _ | exact hw3) (fun q hq e => by
               have h8 := hb8.size
               have hw := hw3
               have h7 := hb7.size
               (try simp only [World.size_alloc, World.size_drew] at h8)
               (try simp only [World.size_alloc, World.size_drew] at h7)
               rcases hblk q hq with h | h
               · have := hP.blk_lt q h
                 omega
               · (try simp only [World.size_alloc, World.size_drew] at h)
                 omega)
             rw [← e5, ← ek])
        clear e5 ek
        have hoff5 : ∀ q ∈ ekFr.blk (g, decide (j % K = 0), hC, hD), q < w.heap.size ∨ wr.heap.size ≤ q := by
          intro q hq
          rcases hblk q hq with h | h
          · exact .inl (hP0.blk_lt q h)
          · have hw : wr.heap.size ≤ w3.heap.size := (by first | exact Below.size (FrW.below ‹FrW wr w3›) | exact hb7.size)
            (try simp only [World.size_alloc, World.size_drew] at h)
            exact .inr (by omega)
        have hr5' : (ekFrN rb xb).rel w5 (g, decide (j % K = 0), hC, hD) (g, decide (j % K = 0), if j % K = 0 then p else [], if j % K = 0 then [] else ofL b p) := ⟨hr5, fun q hq => by have := hoff5 q hq; omega⟩
        have hxb5 := hxb.of hB5
        have hrb5 := hrb.of hB5
        have hX5 := hX.of hB5
        have hl5 := hB5.size
        have hB05 : Below w.heap.size w w5 := below_thru hb hB5
        have hoffX : ∀ q ∈ (ekFrN rb xb).blk (g, decide (j % K = 0), hC, hD), some q ≠ (Value.slice E j q').ownBlock := fun z hz e => by
          have h1 := OwnX.ge hX z e.symm
          have h2 := hX.lt z e.symm
          have h3 := hoff5 z hz
          omega
        have hst := Lib.hid (show bldL K (gs) l (j + 1) = bldL K (gs) l j ++ [(g, decide (j % K = 0), if j % K = 0 then p else [], if j % K = 0 then [] else ofL b p)] by
          show _ ++ [bldF K (gs) l j] = _
          unfold bldF
          rw [hgq.out, getD_of hp.out, ← hiq.out, getD_of hb0.out])
        clear hrel hblk hB4 hb7 hb8 x0 x1 fx0 fx1 hoff5 hr5 g1 g2 kF
        have ⟨_, k50, k51, k52, k53, g50, g51, g52, g53⟩ := hk5.open4
        have ⟨_, x0, x1, fx0, fx1⟩ := hxb5.open2
        go_wp2_with (first | ((at_builtin; refine wpList_append_x (K := (ekFrN rb xb)) rfl (.tmp 43) (.tmp 45) 32 rfl 54 (.agg #[.int .i64 0, .bool false, .slice none 0 0, .slice none 0 0]) 64 Tryz.underlying32 (by kernel_rfl) rfl (w.heap.size + 2) _ _ _ _ rfl (hX5.alloc _) (g, decide (j % K = 0), hC, hD) _ ((ekFrN rb xb).keep hr5' (World.grownBy_alloc _ _ none) (fun _ _ e => by cases e)) (hoffX) ⟨(w5).heap.size, 0, none⟩ 1 rfl (cells_new (w5) (encFr (g, decide (j % K = 0), hC, hD)) 54) (by omega) (by omega) (by first | omega | (simp; done) | (simp; omega)) ?_; intro A6 c6 w6 hown6 hg6 hb6; have hs6 := hb6.size; (try simp only [World.size_alloc, World.size_setCell, World.size_drew] at hs6)); have hx6 := (hxb5.of ((Below.refl _ _).alloc (Nat.le_refl _) (.cells (encFr (g, decide (j % K = 0), hC, hD)).toArray 54))).grown hg6 (fun e => by have := OwnX.ge hX xb e.symm; omega); have hr6 := (hrb5.of ((Below.refl _ _).alloc (Nat.le_refl _) (.cells (encFr (g, decide (j % K = 0), hC, hD)).toArray 54))).grown hg6 (fun e => by have := OwnX.ge hX rb e.symm; omega); have ⟨_, x60, x61, f60, f61⟩ := hx6.open2))
        have hB6 : Below w.heap.size w w6 := by (repeat' (first | exact Below.refl _ _ | assumption | (refine Below.alloc ?_ ?_ _) | (refine Below.setCell ?_ ?_ _) | (refine Below.drew ?_) | (refine below_drewN ?_ _) | (refine below_after (Ext.below _) ?_ ?_) | (refine below_after (by assumption) ?_ ?_) | (simp; done) | omega | (simp; omega)))
        clear x0 x1 fx0 fx1 k50 k51 k52 k53 g50 g51 g52 g53 x60 x61 f60 f61
        go_roundw
        case rel => exact ⟨A6, c6, j + 1, by go_num, by omega, hr6.off 1 _ (fun e => hne e.symm), hx6.put 1 _ (by simp), by rw [hst.out]; exact hown6.setN 1 _ (.inr rfl) hxl, hB6.setCell hxg _, by rw [World.size_setCell]; omega⟩
        case measure => simp [intOf]; omega
    · obtain rfl : j = n := by omega
      have dj : decide ((j : Int) < j) = false := decide_eq_false (by omega)
      have dj' : decide (j < j) = false := decide_eq_false (by omega)
      have ⟨_, x0, x1, fx0, fx1⟩ := hxb.open2
      have ⟨_, r0, r1, fr0, fr1⟩ := hrb.open2
      go_wp2_with fail
      refine bodyPost_ret (v := .tuple #[.agg #[.int .i64 (K : Int), .slice E j q'], .int .i64 0]) (by simp [results, Tryz.results63, go_sem, *, ↓IntWalk.iteOmega]) rfl ?_
      exact ⟨E, j, q', rfl, (((hX.setN 0 _ (.inl rfl) hrl).setN 1 _ (.inl rfl) hrl).dropN).more (by omega), (hb.setCell hrg _).setCell hrg _⟩
end Go.Proofs.YtabfefhicfmabaaGreat
end
section
namespace Go.Proofs.YtabfefhicfmabaaGreat
open Go Go.RowKit
set_option maxRecDepth 100000
theorem gn_step {fs : List TFr} {j : Nat} {g : Int} {fu : Bool} {C : List Cel} {D : List Chg} (h : fs[j]? = some (g, fu, C, D)) : gnL (fs.take (j + 1)) = gnL (fs.take j) ++ [g] := by
  unfold gnL
  rw [List.take_add_one, h, List.map_append]; rfl
set_option maxHeartbeats 4000000 in
theorem ref54_gens (n c : Nat) (A : Option Addr) (fs : List TFr) (w : World) (hF : RdX ekFr w A n fs) (hn : n ≤ 1000000) :
    Calls Tryz.prog 78 #[.slice A n c] w fun e w' => ∃ B m, e = .returned (.slice B n m) ∧ Own encI 1 3 w.heap.size w' B n m (gnL fs) ∧ Below w.heap.size w w' := by
  have hFl := Lib.hid hF.len
  go_enter Tryz.func78, Tryz.ntmps78
  go_wp2_with fail
  go_loopw [3, 4] (fun v i wr => ∃ (E : Option Addr) (q r j : Nat), v = .slice E q r ∧ i = .int .i64 j ∧ j ≤ n ∧ q = j ∧ Own encI 1 3 w.heap.size wr E q r (gnL (fs.take j)) ∧ Below w.heap.size w wr) (fun _ i _ => n - (intOf i).toNat)
  case atStart => exact ⟨none, 0, 0, 0, rfl, rfl, by omega, rfl, Own.nil_, Below.refl _ _⟩
  case round =>
    obtain ⟨E, q, rr, j, rfl, rfl, hj, rfl, hown, hb⟩ := hrel
    have hsz := hb.size
    by_cases hlt : q < n
    · have dj : decide ((q : Int) < n) = true := decide_eq_true (by omega)
      have dj' : decide (q < n) = true := decide_eq_true hlt
      obtain ⟨g, fu, C, D, CA, cn, cc, DA, dn, dc, bo, o, hx, rfl, hbo, g1, g2, g3, g4, hC, hcc, hD, hdc⟩ := (hF.of hb).frm hlt
      have hst := Lib.hid (gn_step hx.out)
      go_wp2_with (first | (at_builtin; refine wpList_append_el rfl (.tmp 11) (.tmp 17) 84 rfl encI 1 3 (.int .i64 0) 8 Tryz.underlying84 (by kernel_rfl) rfl (by decide) encI_len encI_one (w.heap.size) _ _ _ _ rfl (hown.alloc _) g ⟨(wr).heap.size, 0, none⟩ 1 rfl (cells_new (wr) _ _) (by omega) (by omega) (by first | omega | (simp; done) | (simp; omega)) ?_; intro A5 c5 w5 hown5 hg5 hb5; obtain ⟨hc5, hf5⟩ := bcell hb5; have hs5 := hb5.size; (try simp only [World.size_alloc, World.size_setCell, World.size_drew] at hc5 hf5); (try simp at hs5)))
      go_roundw
      case rel => exact ⟨A5, q + 1, c5, q + 1, rfl, by go_num, by omega, rfl, by rw [hst.out]; exact hown5, by (repeat' (first | exact Below.refl _ _ | assumption | (refine Below.alloc ?_ ?_ _) | (refine Below.setCell ?_ ?_ _) | (refine Below.drew ?_) | (refine below_drewN ?_ _) | (refine below_after (Ext.below _) ?_ ?_) | (refine below_after (by assumption) ?_ ?_) | (simp; done) | omega | (simp; omega)))⟩
      case measure => simp [intOf]; omega
    · obtain rfl : q = n := by omega
      have dj : decide ((q : Int) < q) = false := decide_eq_false (by omega)
      have dj' : decide (q < q) = false := decide_eq_false (by omega)
      rw [List.take_of_length_le (by rw [hFl.out]; exact Nat.le_refl _)] at hown
      go_wp2_with fail
      go_ret
      exact ⟨E, rr, rfl, hown, hb⟩
set_option maxHeartbeats 8000000 in
theorem ref54_build (K n c m d : Nat) (A B : Option Addr) (gs : List Int) (l : List (List Cel)) (w : World) (hK : 1 ≤ K ∧ K ≤ 100) (hG : Rd encI 1 w A m gs) (hl : RdX ekC w B n l) (hr : ∀ p ∈ l, rightC p = true) (hn : n ≤ 1000) (hm : n ≤ m) :
    Calls Tryz.prog 66 #[.int .i64 (K : Int), .slice A m c, .slice B n d] w fun e w' => ∃ B' m' d', e = .returned (.agg #[.int .i64 (K : Int), .slice B' m' d']) ∧
      OwnX ekFr 54 w.heap.size w' B' m' d' (bldL K gs l n) ∧ Below w.heap.size w w' := by
  go_enter Tryz.func66, Tryz.ntmps66
  go_wp2_with fail
  have hrb := (BxW.new w [.int .i64 0, .slice none 0 0] 34).of ((Below.refl _ _).alloc (Nat.le_refl _) (.cells #[.int .i64 (K : Int), .slice none 0 0] 34))
  have hxb := BxW.new (w.alloc (.cells #[.int .i64 0, .slice none 0 0] 34)) [.int .i64 (K : Int), .slice none 0 0] 34
  have hbe : Below w.heap.size w ((w.alloc (.cells #[.int .i64 0, .slice none 0 0] 34)).alloc (.cells #[.int .i64 (K : Int), .slice none 0 0] 34)) := by (repeat' (first | exact Below.refl _ _ | assumption | (refine Below.alloc ?_ ?_ _) | (refine Below.setCell ?_ ?_ _) | (refine Below.drew ?_) | (refine below_drewN ?_ _) | (refine below_after (Ext.below _) ?_ ?_) | (refine below_after (by assumption) ?_ ?_) | (simp; done) | omega | (simp; omega)))
  obtain ⟨we, hwe⟩ : ∃ we, we = (w.alloc (.cells #[.int .i64 0, .slice none 0 0] 34)).alloc (.cells #[.int .i64 (K : Int), .slice none 0 0] 34) := ⟨_, rfl⟩
  have hsw : we.heap.size = w.heap.size + 1 + 1 := by rw [hwe]; simp
  rw [World.size_alloc] at hxb
  rw [show ∀ a b : Value, [a, b].toArray = #[a, b] from fun _ _ => rfl] at hrb hxb
  rw [← hwe] at hrb hxb hbe ⊢
  clear hwe
  obtain ⟨rb, hrbe⟩ : ∃ rb, rb = w.heap.size := ⟨_, rfl⟩
  obtain ⟨xb, hxbe⟩ : ∃ xb, xb = w.heap.size + 1 := ⟨_, rfl⟩
  rw [← hrbe] at hrb
  rw [← hxbe] at hxb
  rw [← hxbe, ← hrbe]
  have hne : rb ≠ xb := by omega
  have hrl : rb < w.heap.size + 2 := by omega
  have hxl : xb < w.heap.size + 2 := by omega
  have hrg : w.heap.size ≤ rb := by omega
  have hxg : w.heap.size ≤ xb := by omega
  clear hrbe hxbe
  go_loopw [8] (fun t wr => ∃ (E : Option Addr) (q j : Nat), t = .int .i64 j ∧ j ≤ n ∧ BxW wr rb [.int .i64 0, .slice none 0 0] ∧ BxW wr xb [.int .i64 (K : Int), .slice E j q] ∧ OwnX (ekFrN rb xb) 54 (w.heap.size + 2) wr E j q (bldL K gs l j) ∧ Below w.heap.size w wr ∧ w.heap.size + 2 ≤ wr.heap.size) (fun t _ => n - (intOf t).toNat)
  case atStart => exact ⟨none, 0, 0, rfl, by omega, hrb, hxb, OwnX.nil_, hbe, by omega⟩
  case round =>
    clear hrb hxb hbe hsw
    obtain ⟨E, q', j, rfl, hj, hrb, hxb, hX, hb, hsz⟩ := hrel
    by_cases hlt : j < n
    · have dj : decide ((j : Int) < n) = true := decide_eq_true (by omega)
      have dj' : decide (j < n) = true := decide_eq_true hlt
      obtain ⟨g, ba, oa, hg, rfl, hba, ga⟩ := hG.int (i := j) (by omega)
      obtain ⟨PA, pn, pc, p, bo, o, hp, rfl, hbo0, g1, hP0, hpc⟩ := hl.pat hlt
      have hP := hP0.of hb
      have hbo : bo < wr.heap.size := by omega
      have hbal : ba < wr.heap.size := by omega
      rw [← hb.cell (p := ⟨_, _, none⟩) hbo0] at g1
      rw [← hb.cell (p := ⟨_, _, none⟩) hba] at ga
      have hkz : ((K : Int) == 0) = false := by simp; omega
      have er2 : (j : Int).tmod (K : Int) = ((j % K : Nat) : Int) := rfl
      have er : IntKind.i64.wrap ((j % K : Nat) : Int) = ((j % K : Nat) : Int) := IntWalk.i64_in _ (by have := Nat.mod_lt j hK.1; omega)
      have hlw := Lib.hid hl
      by_cases hz : j % K = 0
      · have hst := Lib.hid (show bldL K gs l (j + 1) = bldL K gs l j ++ [(g, true, p, [])] by
          show _ ++ [bldF K gs l j] = _
          unfold bldF
          rw [getD_of hg.out, getD_of hp.out, if_pos hz, if_pos hz, decide_eq_true hz])
        have hzi : (((j % K : Nat) : Int) == 0) = true := by rw [hz]; rfl
        have hoff5 : ∀ q ∈ ekFr.blk (g, true, (PA, pn, pc), ((none : Option Addr), 0, 0)), q < w.heap.size ∨ wr.heap.size ≤ q := by
          intro q hq
          rcases List.mem_append.1 hq with h | h
          · exact .inl (hP0.blk_lt q h)
          · simp [blkH] at h
        generalize ((j % K : Nat) : Int) = rk at er er2 hzi
        clear hz
        have ⟨_, x0, x1, fx0, fx1⟩ := hxb.open2
        have hoffX : ∀ q ∈ (ekFrN rb xb).blk (g, true, (PA, pn, pc), ((none : Option Addr), 0, 0)), some q ≠ (Value.slice E j q').ownBlock := fun z hz e => by
          have h1 := OwnX.ge hX z e.symm
          have h2 := hX.lt z e.symm
          have h3 := hoff5 z hz
          omega
        clear x0 x1 fx0 fx1
        go_upto_region 11 with (fail)
        obtain ⟨w5, kb, e5, ek, hk5, hB5, hr5, hkb⟩ := fr_alloc (hC := (PA, pn, pc)) (hD := ((none : Option Addr), 0, 0)) (g := g) (fu := true) (f := (g, true, p, [])) 54 (Below.refl wr.heap.size wr) ⟨rfl, rfl, ⟨hP, hpc⟩, Rd.nil_, Nat.le_refl _⟩
        rw [← e5, ← ek]
        clear e5 ek
        have hrel5 : (ekFrN rb xb).rel w5 (g, true, (PA, pn, pc), ((none : Option Addr), 0, 0)) (g, true, p, []) := ⟨hr5, fun q hq => by have := hoff5 q hq; omega⟩
        clear hoff5 hr5
        have hxb5 := hxb.of hB5
        have hrb5 := hrb.of hB5
        have hX5 := hX.of hB5
        have hl5 := hB5.size
        have hB05 : Below w.heap.size w w5 := below_thru hb hB5
        have ⟨_, k50, k51, k52, k53, g50, g51, g52, g53⟩ := hk5.open4
        have ⟨_, x0, x1, fx0, fx1⟩ := hxb5.open2
        go_wp2_with (first | ((at_builtin; refine wpList_append_x (K := (ekFrN rb xb)) rfl (.tmp 51) (.tmp 53) 32 rfl 54 (.agg #[.int .i64 0, .bool false, .slice none 0 0, .slice none 0 0]) 64 Tryz.underlying32 (by kernel_rfl) rfl (w.heap.size + 2) _ _ _ _ rfl (hX5.alloc _) (g, true, (PA, pn, pc), ((none : Option Addr), 0, 0)) _ ((ekFrN rb xb).keep hrel5 (World.grownBy_alloc _ _ none) (fun _ _ e => by cases e)) (hoffX) ⟨(w5).heap.size, 0, none⟩ 1 rfl (cells_new (w5) (encFr (g, true, (PA, pn, pc), ((none : Option Addr), 0, 0))) 54) (by omega) (by omega) (by first | omega | (simp; done) | (simp; omega)) ?_; intro A6 c6 w6 hown6 hg6 hb6; have hs6 := hb6.size; (try simp only [World.size_alloc, World.size_setCell, World.size_drew] at hs6)); have hx6 := (hxb5.of ((Below.refl _ _).alloc (Nat.le_refl _) (.cells (encFr (g, true, (PA, pn, pc), ((none : Option Addr), 0, 0))).toArray 54))).grown hg6 (fun e => by have := OwnX.ge hX xb e.symm; omega); have hr6 := (hrb5.of ((Below.refl _ _).alloc (Nat.le_refl _) (.cells (encFr (g, true, (PA, pn, pc), ((none : Option Addr), 0, 0))).toArray 54))).grown hg6 (fun e => by have := OwnX.ge hX rb e.symm; omega); have ⟨_, x60, x61, f60, f61⟩ := hx6.open2))
        have hB6 : Below w.heap.size w w6 := by (repeat' (first | exact Below.refl _ _ | assumption | (refine Below.alloc ?_ ?_ _) | (refine Below.setCell ?_ ?_ _) | (refine Below.drew ?_) | (refine below_drewN ?_ _) | (refine below_after (Ext.below _) ?_ ?_) | (refine below_after (by assumption) ?_ ?_) | (simp; done) | omega | (simp; omega)))
        clear x0 x1 fx0 fx1 x60 x61 f60 f61 k50 k51 k52 k53 g50 g51 g52 g53
        go_roundw
        case rel => exact ⟨A6, c6, j + 1, by go_num, by omega, hr6.off 1 _ (fun e => hne e.symm), hx6.put 1 _ (by simp), by rw [hst.out]; exact hown6.setN 1 _ (.inr rfl) hxl, hB6.setCell hxg _, by rw [World.size_setCell]; omega⟩
        case measure => simp [intOf]; omega
      · have hzi : (((j % K : Nat) : Int) == 0) = false := by simp; omega
        have hj0 : 0 < j := by rcases Nat.eq_zero_or_pos j with h | h; · exact absurd (by rw [h]; exact Nat.zero_mod K) hz
                               · exact h
        obtain ⟨BA, bn, bc, b, bo2, o2, hb0, he2, _, g2, hB0, _⟩ := hl.pat (i := j - 1) (by omega)
        injection he2 with he2
        injection he2 with e1 e2
        subst e1 e2
        have hB := hB0.of hb
        rw [← hb.cell (p := ⟨_, _, none⟩) hbo0] at g2
        have hst := Lib.hid (show bldL K gs l (j + 1) = bldL K gs l j ++ [(g, false, [], ofL b p)] by
          show _ ++ [bldF K gs l j] = _
          unfold bldF
          rw [getD_of hg.out, getD_of hp.out, getD_of hb0.out, if_neg hz, if_neg hz, decide_eq_false hz])
        have hbn : bn ≤ 5000 := by rw [← hB0.len]; exact (rightC_ok (hr _ (List.mem_of_getElem? hb0.out))).1
        have hpn : pn ≤ 5000 := by rw [← hP0.len]; exact (rightC_ok (hr _ (List.mem_of_getElem? hp.out))).1
        have kO := fun w1 h1 h2 => ref53_Of BA PA bn bc pn pc b p w1 h1 h2 (by omega) (by omega)
        obtain ⟨i, hi⟩ : ∃ i, i = j - 1 := ⟨_, rfl⟩
        rw [← hi] at g2
        have hmw : IntKind.i64.wrap ((j : Int) - 1) = (i : Int) := by rw [IntWalk.i64_in _ (by omega)]; omega
        have hi0 : (0 : Int) ≤ (i : Int) := by omega
        have hi1 : (i : Int) < (n : Int) := by omega
        have hi2 : i < n := by omega
        generalize ((j % K : Nat) : Int) = rk at er er2 hzi
        generalize ofE b p = eo at kO
        clear hz hi hj0
        have hbx := (BxW.new wr [.int .i64 g, .bool false, .slice none 0 0, .slice none 0 0] 54)
        go_wp2_with fail
        obtain ⟨w3, hw3⟩ : ∃ w3, w3 = wr.alloc (.cells #[.int .i64 g, .bool false, .slice none 0 0, .slice none 0 0] 54) := ⟨_, rfl⟩
        have hl3 : w3.heap.size = wr.heap.size + 1 := by rw [hw3]; simp
        have hB3 : Below wr.heap.size wr w3 := by rw [hw3]; exact (Below.refl _ _).alloc (Nat.le_refl _) _
        rw [show ∀ a b c d : Value, [a, b, c, d].toArray = #[a, b, c, d] from fun _ _ _ _ => rfl, ← hw3] at hbx
        rw [← hw3]
        clear hw3
        have g13 := (hB3.cell (p := ⟨_, _, none⟩) hbo).trans g1
        have g23 := (hB3.cell (p := ⟨_, _, none⟩) hbo).trans g2
        have hbo3 : bo < w3.heap.size := by omega
        go_region_held3 (fun w' => FrW w3 w' ∧ w'.cell? ⟨bo, o + i, none⟩ = some (.slice BA bn bc) ∧ w'.cell? ⟨bo, o + j, none⟩ = some (.slice PA pn pc))
          (((try go_split_ands); refine FrW.two ?_ hbo3 g23 hbo3 g13; with_reducible (first | assumption | exact FrW.drew (FrW.here _) | exact FrW.drew ‹_› | exact FrW.of ‹_› hb8 | fail)))
          ((first | (go_at_call 81; (try go_split_ands); refine (kO _ (hB.of (below_thru hB3 (FrW.below ‹_›))) (hP.of (below_thru hB3 (FrW.below ‹_›)))).mono ?_; rintro e4 w4 ⟨DA, dn, dc, rfl, hN, hdn, hb8⟩) | fail))
        (try go_split_ands)
        have hb34 : Below w3.heap.size w3 w4 := FrW.below (FrW.of ‹_› hb8)
        have hk4 := hbx.of hb34
        have hB4 : Below wr.heap.size wr w4 := below_thru hB3 hb34
        have hND : ∀ q ∈ blkH (DA, dn, dc), w3.heap.size ≤ q := fun q hq => Nat.le_trans (by first | exact hb8.size.trans' (Nat.le_refl _) | exact Nat.le_refl _) (hN.loc q hq)
        have hk5 := hk4.put 3 (.slice DA dn dc) (by simp)
        have hr4 : ekFr.rel w4 (g, false, ((none : Option Addr), 0, 0), (DA, dn, dc)) (g, false, [], ofL b p) := ⟨rfl, rfl, ⟨Rd.nil_, Nat.le_refl _⟩, hN.rd, hN.cap⟩
        have hoff5 : ∀ q ∈ ekFr.blk (g, false, ((none : Option Addr), 0, 0), (DA, dn, dc)), wr.heap.size < q := by
          intro q hq
          rcases List.mem_append.1 hq with h | h
          · simp [blkH] at h
          · have := hND q h
            omega
        have hrel5 : (ekFrN rb xb).rel (w4.setCell ⟨wr.heap.size, 3, none⟩ (.slice DA dn dc)) (g, false, ((none : Option Addr), 0, 0), (DA, dn, dc)) (g, false, [], ofL b p) :=
          ⟨ekFr.keep hr4 (grownBy_set w4 wr.heap.size 3 _) (fun q hq e => by have := hoff5 q hq; injection e with e; omega), fun q hq => by have := hoff5 q hq; omega⟩
        have hB5 : Below wr.heap.size wr (w4.setCell ⟨wr.heap.size, 3, none⟩ (.slice DA dn dc)) := hB4.setCell (Nat.le_refl _) _
        have hoffX : ∀ q ∈ (ekFrN rb xb).blk (g, false, ((none : Option Addr), 0, 0), (DA, dn, dc)), some q ≠ (Value.slice E j q').ownBlock := fun z hz e => by
          have h2 := hX.lt z e.symm
          have h3 := hoff5 z hz
          omega
        have ⟨_, k40, k41, k42, k43, g40, g41, g42, g43⟩ := hk4.open4
        go_upto_region 11 with (fail)
        obtain ⟨w5, hw5⟩ : ∃ w5, w5 = w4.setCell ⟨wr.heap.size, 3, none⟩ (.slice DA dn dc) := ⟨_, rfl⟩
        rw [← hw5] at hk5 hrel5 hB5 ⊢
        clear hw5 k40 k41 k42 k43 g40 g41 g42 g43 hk4 hB4 hr4 hoff5
        obtain ⟨kb, hkb⟩ : ∃ kb, kb = wr.heap.size := ⟨_, rfl⟩
        rw [← hkb] at hk5 ⊢
        clear hkb
        have hxb5 := hxb.of hB5
        have hrb5 := hrb.of hB5
        have hX5 := hX.of hB5
        have hl5 := hB5.size
        have hB05 : Below w.heap.size w w5 := below_thru hb hB5
        have ⟨_, k50, k51, k52, k53, g50, g51, g52, g53⟩ := hk5.open4
        have ⟨_, x0, x1, fx0, fx1⟩ := hxb5.open2
        go_wp2_with (first | ((at_builtin; refine wpList_append_x (K := (ekFrN rb xb)) rfl (.tmp 51) (.tmp 53) 32 rfl 54 (.agg #[.int .i64 0, .bool false, .slice none 0 0, .slice none 0 0]) 64 Tryz.underlying32 (by kernel_rfl) rfl (w.heap.size + 2) _ _ _ _ rfl (hX5.alloc _) (g, false, ((none : Option Addr), 0, 0), (DA, dn, dc)) _ ((ekFrN rb xb).keep hrel5 (World.grownBy_alloc _ _ none) (fun _ _ e => by cases e)) (hoffX) ⟨(w5).heap.size, 0, none⟩ 1 rfl (cells_new (w5) (encFr (g, false, ((none : Option Addr), 0, 0), (DA, dn, dc))) 54) (by omega) (by omega) (by first | omega | (simp; done) | (simp; omega)) ?_; intro A6 c6 w6 hown6 hg6 hb6; have hs6 := hb6.size; (try simp only [World.size_alloc, World.size_setCell, World.size_drew] at hs6)); have hx6 := (hxb5.of ((Below.refl _ _).alloc (Nat.le_refl _) (.cells (encFr (g, false, ((none : Option Addr), 0, 0), (DA, dn, dc))).toArray 54))).grown hg6 (fun e => by have := OwnX.ge hX xb e.symm; omega); have hr6 := (hrb5.of ((Below.refl _ _).alloc (Nat.le_refl _) (.cells (encFr (g, false, ((none : Option Addr), 0, 0), (DA, dn, dc))).toArray 54))).grown hg6 (fun e => by have := OwnX.ge hX rb e.symm; omega); have ⟨_, x60, x61, f60, f61⟩ := hx6.open2))
        have hB6 : Below w.heap.size w w6 := by (repeat' (first | exact Below.refl _ _ | assumption | (refine Below.alloc ?_ ?_ _) | (refine Below.setCell ?_ ?_ _) | (refine Below.drew ?_) | (refine below_drewN ?_ _) | (refine below_after (Ext.below _) ?_ ?_) | (refine below_after (by assumption) ?_ ?_) | (simp; done) | omega | (simp; omega)))
        clear x0 x1 fx0 fx1 x60 x61 f60 f61 k50 k51 k52 k53 g50 g51 g52 g53
        go_roundw
        case rel => exact ⟨A6, c6, j + 1, by go_num, by omega, hr6.off 1 _ (fun e => hne e.symm), hx6.put 1 _ (by simp), by rw [hst.out]; exact hown6.setN 1 _ (.inr rfl) hxl, hB6.setCell hxg _, by rw [World.size_setCell]; omega⟩
        case measure => simp [intOf]; omega
    · obtain rfl : j = n := by omega
      have dj : decide ((j : Int) < j) = false := decide_eq_false (by omega)
      have dj' : decide (j < j) = false := decide_eq_false (by omega)
      have ⟨_, x0, x1, fx0, fx1⟩ := hxb.open2
      have ⟨_, r0, r1, fr0, fr1⟩ := hrb.open2
      go_wp2_with fail
      refine bodyPost_ret (v := .agg #[.int .i64 (K : Int), .slice E j q']) (by simp [results, Tryz.results66, go_sem, *, ↓IntWalk.iteOmega]) rfl ?_
      exact ⟨E, j, q', rfl, (((hX.setN 0 _ (.inl rfl) hrl).setN 1 _ (.inl rfl) hrl).dropN).more (by omega), (hb.setCell hrg _).setCell hrg _⟩
end Go.Proofs.YtabfefhicfmabaaGreat
end
section
namespace Go.Proofs.YtabfefhicfmabaaGreat
open Go Go.RowKit
theorem gens_over {w2 w5 Z w6 : World} {T T' : TypeId} {A5 A1 : Option Addr} {m c5 n d1 B : Nat} {l : List Int} {bs : List (List Cel)} (h : Own encI 1 T w2.heap.size w5 A5 m c5 l) (hZ : Below w5.heap.size w5 Z) (hO : OwnX ekC T' B w2 A1 n d1 bs)
    (hg : Z.grownBy w6 (Value.slice A1 n d1).ownBlock) : Rd encI 1 w6 A5 m l :=
  Rd.grown (h := (A5, m, c5)) ((h.of hZ).rd encI_len) hg (h.off (fun q hq => hO.lt q hq))
theorem box_over {w2 Z w6 : World} {T' : TypeId} {A1 : Option Addr} {n d1 B b : Nat} {bs : List (List Cel)} {vs : List Value} (h : BxW Z b vs) (hO : OwnX ekC T' B w2 A1 n d1 bs) (hb : b < B)
    (hg : Z.grownBy w6 (Value.slice A1 n d1).ownBlock) : BxW w6 b vs :=
  h.grown hg (fun e => by have := OwnX.ge hO b e.symm; omega)
theorem belowR {w w1 w2 : World} {B : Nat} (h : Below B w w1) (hB : B ≤ w1.heap.size) (h2 : Below w1.heap.size w1 w2) : Below B w w2 := h.trans (h2.mono hB)
theorem BxW.newAt {b : Nat} (w : World) (cs : List Value) (t : TypeId) (h : b = w.heap.size) : BxW (w.alloc (.cells cs.toArray t)) b cs := h ▸ BxW.new w cs t
theorem Rd.drewR {α : Type} {enc : α → List Value} {k : Nat} {w : World} {A : Option Addr} {n : Nat} {l : List α} (h : Rd enc k w A n l) : Rd enc k w.drew A n l := h.of (Below.refl _ _).drew
end Go.Proofs.YtabfefhicfmabaaGreat
end
