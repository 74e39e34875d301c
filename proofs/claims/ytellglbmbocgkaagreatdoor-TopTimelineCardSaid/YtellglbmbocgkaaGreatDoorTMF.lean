/- timeline.made for a recorded run. -/
import Derived.Test.YtellglbmbocgkaaGreatDoorTMC
set_option linter.unusedSimpArgs false
set_option linter.unusedVariables false
section
namespace Go.Proofs.YtellglbmbocgkaaGreatDoor
open Go Go.RowKit
set_option maxRecDepth 100000
set_option linter.unusedSimpArgs false
set_option linter.unusedVariables false
theorem rec_gen (k : Int) (w : World) : Calls Tryz.prog 31 #[.int .i64 k] w fun e w' => e = .returned (.int .i64 k) ∧ Below w.heap.size w w' := by
  go_enter Tryz.func31, Tryz.ntmps31
  go_wp2_with fail
  go_ret
  exact ⟨rfl, by (repeat' (first | exact Below.refl _ _ | assumption | (refine Below.alloc ?_ ?_ _) | (refine Below.setCell ?_ ?_ _) | (refine Below.drew ?_) | (refine below_drewN ?_ _) | (refine below_after (Ext.below _) ?_ ?_) | (refine below_after (by assumption) ?_ ?_) | (simp; done) | omega | (simp; omega)))⟩
theorem FrW.one {W w' : World} {b1 i1 : Nat} {v1 : Value} (h : FrW W w') (hb1 : b1 < W.heap.size) (c1 : W.cell? ⟨b1, i1, none⟩ = some v1) :
    FrW W w' ∧ w'.cell? ⟨b1, i1, none⟩ = some v1 := ⟨h, (h.below.cell (p := ⟨_, _, none⟩) hb1).trans c1⟩
theorem OwnX.ge {α β : Type} {K : EK α β} {e : TypeId} {B n c : Nat} {w : World} {A : Option Addr} {bs : List β} (h : OwnX K e B w A n c bs) : ∀ q, (Value.slice A n c).ownBlock = some q → B ≤ q := by
  obtain ⟨us, h1, _, _⟩ := h
  exact fun q hq => (h1.row.lt q hq).1
theorem FrW.set4 {W w : World} {b : Nat} (h : FrW W w) (hb : W.heap.size ≤ b) (v0 v1 v2 v3 : Value) : FrW W ((((w.setCell ⟨b, 0, none⟩ v0).setCell ⟨b, 1, none⟩ v1).setCell ⟨b, 2, none⟩ v2).setCell ⟨b, 3, none⟩ v3) := ⟨set4_below h.below hb _ _ _ _⟩
set_option maxHeartbeats 8000000 in
theorem tl_madeR (K n c : Nat) (A : Option Addr) (l : List (List Cel)) (w : World) (hK : 1 ≤ K ∧ K ≤ 100) (hl : RdX ekC w A n l) (hr : ∀ p ∈ l, rightC p = true) (hn : n ≤ 1000) :
    Calls Tryz.prog 30 #[.int .i64 (K : Int), .slice A n c, .func (.func 31) #[] #[]] w fun e w' => ∃ B m d, e = .returned (.tuple #[.agg #[.int .i64 (K : Int), .slice B m d], .int .i64 0]) ∧
      OwnX ekFr 90 w.heap.size w' B m d (bldL K (nnL n) l n) ∧ Below w.heap.size w w' := by
  go_enter Tryz.func30, Tryz.ntmps30
  go_wp2_with fail
  have hrb := (BxW.new w [.int .i64 0, .slice none 0 0] 33).of ((Below.refl _ _).alloc (Nat.le_refl _) (.cells #[.int .i64 (K : Int), .slice none 0 0] 33))
  have hxb := BxW.new (w.alloc (.cells #[.int .i64 0, .slice none 0 0] 33)) [.int .i64 (K : Int), .slice none 0 0] 33
  have hbe : Below w.heap.size w ((w.alloc (.cells #[.int .i64 0, .slice none 0 0] 33)).alloc (.cells #[.int .i64 (K : Int), .slice none 0 0] 33)) := by (repeat' (first | exact Below.refl _ _ | assumption | (refine Below.alloc ?_ ?_ _) | (refine Below.setCell ?_ ?_ _) | (refine Below.drew ?_) | (refine below_drewN ?_ _) | (refine below_after (Ext.below _) ?_ ?_) | (refine below_after (by assumption) ?_ ?_) | (simp; done) | omega | (simp; omega)))
  obtain ⟨we, hwe⟩ : ∃ we, we = (w.alloc (.cells #[.int .i64 0, .slice none 0 0] 33)).alloc (.cells #[.int .i64 (K : Int), .slice none 0 0] 33) := ⟨_, rfl⟩
  have hsw : we.heap.size = w.heap.size + 1 + 1 := by rw [hwe]; simp
  rw [World.size_alloc] at hxb
  rw [show ∀ a b : Value, [a, b].toArray = #[a, b] from fun _ _ => rfl] at hrb hxb
  rw [← hwe] at hrb hxb hbe ⊢
  clear hwe
  obtain ⟨rb, hrbe⟩ : ∃ rb, rb = w.heap.size := ⟨_, rfl⟩
  obtain ⟨xb, hxbe⟩ : ∃ xb, xb = w.heap.size + 1 := ⟨_, rfl⟩
  rw [← hrbe] at hrb
  rw [← hxbe] at hxb
  rw [← hxbe, ← hrbe]
  have hrbx := Lib.hid hrbe
  have hxbx := Lib.hid hxbe
  have hne : rb ≠ xb := by omega
  have hrl : rb < w.heap.size + 2 := by omega
  have hxl : xb < w.heap.size + 2 := by omega
  have hrg : w.heap.size ≤ rb := by omega
  have hxg : w.heap.size ≤ xb := by omega
  clear hrbe hxbe
  go_loopw [17] (fun t wr => ∃ (E : Option Addr) (q j : Nat), t = .int .i64 j ∧ j ≤ n ∧ BxW wr rb [.int .i64 0, .slice none 0 0] ∧ BxW wr xb [.int .i64 (K : Int), .slice E j q] ∧ OwnX (ekFrN rb xb) 90 (w.heap.size + 2) wr E j q (bldL K (nnL n) l j) ∧ Below w.heap.size w wr ∧ w.heap.size + 2 ≤ wr.heap.size) (fun t _ => n - (intOf t).toNat)
  case atStart => exact ⟨none, 0, 0, rfl, by omega, hrb, hxb, OwnX.nil_, hbe, by omega⟩
  case round =>
    clear hrb hxb hbe hsw
    obtain ⟨E, q', j, rfl, hj, hrb, hxb, hX, hb, hsz⟩ := hrel
    by_cases hlt : j < n
    · have dj : decide ((j : Int) < n) = true := decide_eq_true (by omega)
      have dj' : decide (j < n) = true := decide_eq_true hlt
      obtain ⟨i, hi⟩ : ∃ i, i = j - 1 := ⟨_, rfl⟩
      obtain ⟨PA, pn, pc, p, bo, o, hp, rfl, hbo0, g1, hP0, hpc⟩ := hl.pat hlt
      have hP := hP0.of hb
      have hbo : bo < wr.heap.size := by omega
      rw [← hb.cell (p := ⟨_, _, none⟩) hbo0] at g1
      obtain ⟨BA, bn, bc, b, bo2, o2, hb0, he2, _, g2, hB, _⟩ := (hl.of hb).pat (i := i) (by omega)
      injection he2 with he2
      injection he2 with e1 e2
      subst e1 e2
      have hmw : IntKind.i64.wrap ((j : Int) - 1) = (j : Int) - 1 := IntWalk.i64_in _ (by omega)
      have hmx : max (0 : Int) ((j : Int) - 1) = (i : Int) := by omega
      have hi0 : (0 : Int) ≤ (i : Int) := by omega
      have hi1 : (i : Int) < (n : Int) := by omega
      have hi2 : i < n := by omega
      have kF := fun w1 h1 h2 => tl_frame K j (j : Int) BA PA bn bc pn pc b p w1 hK (by omega) (hr _ (List.mem_of_getElem? hb0.out)) (hr _ (List.mem_of_getElem? hp.out)) h1 h2 hpc
      have ⟨_, x0, x1, fx0, fx1⟩ := hxb.open2
      have hiq := Lib.hid hi
      clear hi
      go_wp2_with fail
      go_region_held3 (fun w' => FrW wr w' ∧ w'.cell? ⟨bo, o + i, none⟩ = some (.slice BA bn bc))
        (((try go_split_ands); refine FrW.one ?_ hbo g2; with_reducible (first | assumption | exact FrW.drew (FrW.here _) | exact FrW.drew (FrW.alloc (FrW.here _) _) | exact FrW.drew ‹_› | exact FrW.of ‹_› hb8 | exact FrW.of ‹_› hb7 | exact FrW.alloc ‹_› _ | exact FrW.alloc (FrW.of ‹_› hb8) _ | exact FrW.set4 (FrW.of ‹_› hb8) (by first | exact Nat.le_refl _ | exact Below.size (FrW.below ‹FrW wr w3›) | (have h := hb7.size; simp only [World.size_drew, World.size_alloc] at h; omega)) _ _ _ _ | fail)))
        ((first | (go_at_call 31; (try go_split_ands); refine (rec_gen _ _).mono ?_; rintro e3 w3 ⟨rfl, hb7⟩) | (go_at_call 69; (try go_split_ands); refine (kF _ (hB.of (FrW.below ‹_›)) (hP.of (FrW.below ‹_›))).mono ?_; rintro e4 w4 ⟨hC, hD, rfl, hrel, hblk, hb8⟩; (try (have hk4 : BxW _ _ [.int .i64 0, .bool false, .slice none 0 0, .slice none 0 0] := (by with_reducible first | exact (BxW.new _ _ 90).of hb8 | exact ((BxW.drew (BxW.new _ _ 90)).of hb7).of hb8 | exact ((BxW.new _ _ 90).of hb7).of hb8); (try simp only [World.size_drew] at hk4); have ⟨k4, k40, k41, k42, k43, f40, f41, f42, f43⟩ := hk4.open4))) | fail))
      all_goals (try go_split_ands)
      all_goals
        have hB4 : Below wr.heap.size wr w4 := FrW.below (FrW.of ‹_› hb8)
        first
          | (obtain ⟨w5, kb, e5, ek, hk5, hB5, hr5, hkb⟩ := fr_alloc 90 hB4 hrel
             rw [← e5, ← ek])
          | (have hw3 : wr.heap.size ≤ w3.heap.size := (by first | exact Below.size (FrW.below ‹FrW wr w3›) | exact hb7.size)
             obtain ⟨w5, kb, e5, ek, hk5, hB5, hr5, hkb⟩ := fr_set hk4 hB4 hrel (by first | exact Nat.le_refl _ | exact hw3) (fun q hq e => by
               have h8 := hb8.size
               have hw := hw3
               have h7 := hb7.size
               (try simp only [World.size_alloc, World.size_drew] at h8)
               (try simp only [World.size_alloc, World.size_drew] at h7)
               rcases hblk q hq with h | h
               · have := hP.blk_lt q h
                 omega
               · (try simp only [World.size_alloc, World.size_drew] at h)
                 omega)
             rw [← e5, ← ek])
        clear e5 ek
        have hoff5 : ∀ q ∈ ekFr.blk ((j : Int), decide (j % K = 0), hC, hD), q < w.heap.size ∨ wr.heap.size ≤ q := by
          intro q hq
          rcases hblk q hq with h | h
          · exact .inl (hP0.blk_lt q h)
          · have hw : wr.heap.size ≤ w3.heap.size := (by first | exact Below.size (FrW.below ‹FrW wr w3›) | exact hb7.size)
            (try simp only [World.size_alloc, World.size_drew] at h)
            exact .inr (by omega)
        have hr5' : (ekFrN rb xb).rel w5 ((j : Int), decide (j % K = 0), hC, hD) ((j : Int), decide (j % K = 0), if j % K = 0 then p else [], if j % K = 0 then [] else ofL b p) := ⟨hr5, fun q hq => by have := hoff5 q hq; omega⟩
        have hxb5 := hxb.of hB5
        have hrb5 := hrb.of hB5
        have hX5 := hX.of hB5
        have hl5 := hB5.size
        have hB05 : Below w.heap.size w w5 := below_thru hb hB5
        have hoffX : ∀ q ∈ (ekFrN rb xb).blk ((j : Int), decide (j % K = 0), hC, hD), some q ≠ (Value.slice E j q').ownBlock := fun z hz e => by
          have h1 := OwnX.ge hX z e.symm
          have h2 := hX.lt z e.symm
          have h3 := hoff5 z hz
          omega
        have hst := Lib.hid (show bldL K (nnL n) l (j + 1) = bldL K (nnL n) l j ++ [((j : Int), decide (j % K = 0), if j % K = 0 then p else [], if j % K = 0 then [] else ofL b p)] by
          show _ ++ [bldF K (nnL n) l j] = _
          unfold bldF
          rw [nn_get hlt, getD_of hp.out, ← hiq.out, getD_of hb0.out])
        clear hrel hblk hB4 hb7 hb8 x0 x1 fx0 fx1 hoff5 hr5 g1 g2 kF
        have ⟨_, k50, k51, k52, k53, g50, g51, g52, g53⟩ := hk5.open4
        have ⟨_, x0, x1, fx0, fx1⟩ := hxb5.open2
        go_wp2_with (first | ((at_builtin; refine wpList_append_x (K := (ekFrN rb xb)) rfl (.tmp 43) (.tmp 45) 31 rfl 90 (.agg #[.int .i64 0, .bool false, .slice none 0 0, .slice none 0 0]) 64 Tryz.underlying31 (by kernel_rfl) rfl (w.heap.size + 2) _ _ _ _ rfl (hX5.alloc _) ((j : Int), decide (j % K = 0), hC, hD) _ ((ekFrN rb xb).keep hr5' (World.grownBy_alloc _ _ none) (fun _ _ e => by cases e)) (hoffX) ⟨(w5).heap.size, 0, none⟩ 1 rfl (cells_new (w5) (encFr ((j : Int), decide (j % K = 0), hC, hD)) 90) (by omega) (by omega) (by first | omega | (simp; done) | (simp; omega)) ?_; intro A6 c6 w6 hown6 hg6 hb6; have hs6 := hb6.size; (try simp only [World.size_alloc, World.size_setCell, World.size_drew] at hs6)); have hx6 := (hxb5.of ((Below.refl _ _).alloc (Nat.le_refl _) (.cells (encFr ((j : Int), decide (j % K = 0), hC, hD)).toArray 90))).grown hg6 (fun e => by have := OwnX.ge hX xb e.symm; omega); have hr6 := (hrb5.of ((Below.refl _ _).alloc (Nat.le_refl _) (.cells (encFr ((j : Int), decide (j % K = 0), hC, hD)).toArray 90))).grown hg6 (fun e => by have := OwnX.ge hX rb e.symm; omega); have ⟨_, x60, x61, f60, f61⟩ := hx6.open2))
        have hB6 : Below w.heap.size w w6 := by (repeat' (first | exact Below.refl _ _ | assumption | (refine Below.alloc ?_ ?_ _) | (refine Below.setCell ?_ ?_ _) | (refine Below.drew ?_) | (refine below_drewN ?_ _) | (refine below_after (Ext.below _) ?_ ?_) | (refine below_after (by assumption) ?_ ?_) | (simp; done) | omega | (simp; omega)))
        clear x0 x1 fx0 fx1 k50 k51 k52 k53 g50 g51 g52 g53 x60 x61 f60 f61
        go_roundw
        case rel => exact ⟨A6, c6, j + 1, by go_num, by omega, hr6.off 1 _ (fun e => hne e.symm), hx6.put 1 _ (by simp), by rw [hst.out]; exact hown6.setN 1 _ (.inr rfl) hxl, hB6.setCell hxg _, by rw [World.size_setCell]; omega⟩
        case measure => simp [intOf]; omega
    · obtain rfl : j = n := by omega
      have dj : decide ((j : Int) < j) = false := decide_eq_false (by omega)
      have dj' : decide (j < j) = false := decide_eq_false (by omega)
      have ⟨_, x0, x1, fx0, fx1⟩ := hxb.open2
      have ⟨_, r0, r1, fr0, fr1⟩ := hrb.open2
      go_wp2_with fail
      refine bodyPost_ret (v := .tuple #[.agg #[.int .i64 (K : Int), .slice E j q'], .int .i64 0]) (by simp [results, Tryz.results30, go_sem, *, ↓IntWalk.iteOmega]) rfl ?_
      exact ⟨E, j, q', rfl, (((hX.setN 0 _ (.inl rfl) hrl).setN 1 _ (.inl rfl) hrl).dropN).more (by omega), (hb.setCell hrg _).setCell hrg _⟩
end Go.Proofs.YtellglbmbocgkaaGreatDoor
end
