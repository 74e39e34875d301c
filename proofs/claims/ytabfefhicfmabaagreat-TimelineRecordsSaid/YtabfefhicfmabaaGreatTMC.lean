/- The contracts of Right and At of timelines, both; of timeline.frame. The contract of timeline.frame; rows of frames beside boxes. Boxes that may be written. Rows of three or more cells an element lie in no box of two cells. Worlds that differ in one box; parts of rows; three boxes. append to a slice that is full: a new row. append of one element that leads to memory, in a region that draws its order. -/
import Derived.Test.YtabfefhicfmabaaGreatTim2
import Derived.Test.YtabfefhicfmabaaGreatMAP
import Derived.Test.YtabfefhicfmabaaGreatSRT
import Derived.ArgAppend
import Derived.Test.YtabfefhicfmabaaGreatMEM
set_option linter.unusedSimpArgs false
set_option linter.unusedVariables false
section
namespace Go.Proofs.YtabfefhicfmabaaGreat
open Go Go.RowKit
set_option maxRecDepth 100000
theorem tlP_no {key : Int} {fs : List TFr} (h : tlB key fs = false) : tlP key fs = [] := by unfold tlP; rw [h]; rfl
theorem at_bad {key k : Int} {fs : List TFr} (h : tlB key fs = false) : atE key fs k = 2 ∧ atL key fs k = [] := by
  have h1 : atE key fs k = 2 := by unfold atE; rw [h]; rfl
  exact ⟨h1, by unfold atL; rw [if_neg (by rw [h1]; omega)]⟩
theorem at_none {key k : Int} {fs : List TFr} (h : tlB key fs = true) (hk : ¬(0 ≤ k ∧ k < (fs.length : Int))) : atE key fs k = 13 ∧ atL key fs k = [] := by
  have h1 : atE key fs k = 13 := by unfold atE; rw [if_pos h, if_neg hk]
  exact ⟨h1, by unfold atL; rw [if_neg (by rw [h1]; omega)]⟩
theorem at_here {key : Int} {k : Nat} {fs : List TFr} {p : List Cel} (h : tlB key fs = true) (hp : (tlP key fs)[k]? = some p) : atE key fs k = 0 ∧ atL key fs k = p := by
  have hl : k < fs.length := by have := (List.getElem?_eq_some_iff.1 hp).1; rw [tlP_len h] at this; exact this
  have h1 : atE key fs k = 0 := by unfold atE; rw [if_pos h, if_pos (by omega)]
  exact ⟨h1, by unfold atL; rw [if_pos h1, Int.toNat_natCast, getD_of hp]⟩
theorem tl_Right (key : Int) (A : Option Addr) (n c : Nat) (fs : List TFr) (w : World) (hF : RdX ekFr w A n fs) (hsm : SmT fs) :
    Calls Tryz.prog 24 #[.agg #[.int .i64 key, .slice A n c]] w fun e w' => e = .returned (.bool (tlB key fs)) ∧ Below w.heap.size w w' := by
  go_enter Tryz.func24, Tryz.ntmps24
  go_wp2_with fail
  have hbx := DuAt.new w (.int .i64 key) (.slice A n c) 34
  have hbe : Below w.heap.size w (w.alloc (.cells #[.int .i64 key, .slice A n c] 34)) := (Below.refl _ _).alloc (Nat.le_refl _) _
  obtain ⟨we, hwe⟩ : ∃ we, we = w.alloc (.cells #[.int .i64 key, .slice A n c] 34) := ⟨_, rfl⟩
  have hsw : we.heap.size = w.heap.size + 1 := by rw [hwe]; simp
  rw [← hwe] at hbx hbe ⊢
  clear hwe
  replace hF := hF.of hbe
  have ⟨_, a0, a1⟩ := hbx
  go_at_call 67
  refine (tl_patterns key A n c fs _ hF hsm).mono ?_
  rintro e1 w1 ⟨B, m, d, rfl, hX, hb1⟩
  have hfin := below_thru hbe hb1
  go_wp2_with fail
  go_ret
  exact ⟨rfl, hfin⟩
set_option maxHeartbeats 4000000 in
theorem tl_At (key : Int) (A : Option Addr) (n c : Nat) (fs : List TFr) (k : Int) (w : World) (hF : RdX ekFr w A n fs) (hsm : SmT fs) :
    Calls Tryz.prog 20 #[.agg #[.int .i64 key, .slice A n c], .int .i64 k] w fun e w' => ∃ B m d, e = .returned (.tuple #[.slice B m d, .int .i64 (atE key fs k)]) ∧ Rd encC 3 w' B m (atL key fs k) ∧ m ≤ d ∧ m ≤ 5000 ∧ Below w.heap.size w w' := by
  have kP := fun w1 h => tl_patterns key A n c fs w1 h hsm
  cases hB : tlB key fs with
  | false =>
    have HE := Lib.hid (at_bad (k := k) hB)
    rw [hB, tlP_no hB] at kP
    clear hB
    go_enter Tryz.func20, Tryz.ntmps20
    go_wp2_with fail
    have hbx := DuAt.new w (.int .i64 key) (.slice A n c) 34
    have hbe : Below w.heap.size w (w.alloc (.cells #[.int .i64 key, .slice A n c] 34)) := (Below.refl _ _).alloc (Nat.le_refl _) _
    obtain ⟨we, hwe⟩ : ∃ we, we = w.alloc (.cells #[.int .i64 key, .slice A n c] 34) := ⟨_, rfl⟩
    have hsw : we.heap.size = w.heap.size + 1 := by rw [hwe]; simp
    rw [← hwe] at hbx hbe ⊢
    clear hwe
    replace hF := hF.of hbe
    have ⟨_, a0, a1⟩ := hbx
    go_at_call 67
    refine (kP _ hF).mono ?_
    rintro e1 w1 ⟨B, m, d, rfl, hX, hb1⟩
    have hfin := below_thru hbe hb1
    clear a0 a1
    go_wp2_with fail
    go_ret2
    exact ⟨none, 0, 0, ret_pe HE.out.1.symm, by rw [HE.out.2]; exact Rd.nil_, by omega, by omega, hfin⟩
  | true =>
    have hPl := tlP_len hB
    have hPr := Lib.hid (tlP_right hB)
    rw [hB] at kP
    by_cases hk : 0 ≤ k ∧ k < (fs.length : Int)
    · obtain ⟨k, rfl⟩ := Int.eq_ofNat_of_zero_le hk.1
      have dk : decide ((k : Int) < 0) = false := decide_eq_false (by omega)
      have hat := Lib.hid (fun p h => at_here (k := k) (p := p) hB h)
      generalize tlP key fs = PL at kP hPl hPr hat
      have hkl := Lib.hid (show k < PL.length by omega)
      clear hB hk
      replace hPl := Lib.hid hPl
      go_enter Tryz.func20, Tryz.ntmps20
      go_wp2_with fail
      have hbx := DuAt.new w (.int .i64 key) (.slice A n c) 34
      have hbe : Below w.heap.size w (w.alloc (.cells #[.int .i64 key, .slice A n c] 34)) := (Below.refl _ _).alloc (Nat.le_refl _) _
      obtain ⟨we, hwe⟩ : ∃ we, we = w.alloc (.cells #[.int .i64 key, .slice A n c] 34) := ⟨_, rfl⟩
      have hsw : we.heap.size = w.heap.size + 1 := by rw [hwe]; simp
      rw [← hwe] at hbx hbe ⊢
      clear hwe
      replace hF := hF.of hbe
      have ⟨_, a0, a1⟩ := hbx
      go_at_call 67
      refine (kP _ hF).mono ?_
      rintro e1 w1 ⟨B, m, d, rfl, hX, hb1⟩
      have hfin := below_thru hbe hb1
      clear a0 a1 hb1 hbe hbx hF
      have hml := hX.len
      have hkm : k < m := by have := hkl.out; omega
      have dk2 : decide ((m : Int) ≤ (k : Int)) = false := decide_eq_false (by omega)
      have dk2' : decide (m ≤ k) = false := decide_eq_false (by omega)
      obtain ⟨PA, pn, pc, P, bX, oX, hPx, rfl, hbX, gx, hP, hpc⟩ := hX.rd.pat hkm
      have HE := Lib.hid (hat.out P hPx.out)
      have hpn : pn ≤ 5000 := by rw [← hP.len]; exact (rightC_ok (hPr.out P (List.mem_of_getElem? hPx.out))).1
      clear hml hat hPr hkl
      go_wp2_with fail
      go_ret2
      exact ⟨PA, pn, pc, ret_pe HE.out.1.symm, by rw [HE.out.2]; exact hP, hpc, hpn, hfin⟩
    · have HE := Lib.hid (at_none (k := k) hB hk)
      have hways := Lib.hid (show k < 0 ∨ (0 ≤ k ∧ ((tlP key fs).length : Int) ≤ k) by omega)
      generalize tlP key fs = PL at kP hways
      clear hB hk hPl hPr
      go_enter Tryz.func20, Tryz.ntmps20
      go_wp2_with fail
      have hbx := DuAt.new w (.int .i64 key) (.slice A n c) 34
      have hbe : Below w.heap.size w (w.alloc (.cells #[.int .i64 key, .slice A n c] 34)) := (Below.refl _ _).alloc (Nat.le_refl _) _
      obtain ⟨we, hwe⟩ : ∃ we, we = w.alloc (.cells #[.int .i64 key, .slice A n c] 34) := ⟨_, rfl⟩
      have hsw : we.heap.size = w.heap.size + 1 := by rw [hwe]; simp
      rw [← hwe] at hbx hbe ⊢
      clear hwe
      replace hF := hF.of hbe
      have ⟨_, a0, a1⟩ := hbx
      go_at_call 67
      refine (kP _ hF).mono ?_
      rintro e1 w1 ⟨B, m, d, rfl, hX, hb1⟩
      have hfin := below_thru hbe hb1
      clear a0 a1 hb1 hbe hbx hF
      have hml := hX.len
      have hw2 : decide (k < 0) = true ∨ (decide (k < 0) = false ∧ decide ((m : Int) ≤ k) = true) := by
        simp only [decide_eq_true_eq, decide_eq_false_iff_not]
        rcases hways.out with h | h
        · exact .inl h
        · right; omega
      clear hml hways hX
      rcases hw2 with d1 | ⟨d1, d2⟩
      all_goals
        go_wp2_with fail
        go_ret2
        exact ⟨none, 0, 0, ret_pe HE.out.1.symm, by rw [HE.out.2]; exact Rd.nil_, by omega, by omega, hfin⟩
theorem ref54_Right (key : Int) (A : Option Addr) (n c : Nat) (fs : List TFr) (w : World) (hF : RdX ekFr w A n fs) (hsm : SmT fs) :
    Calls Tryz.prog 27 #[.agg #[.int .i64 key, .slice A n c]] w fun e w' => e = .returned (.bool (tlB key fs)) ∧ Below w.heap.size w w' := by
  go_enter Tryz.func27, Tryz.ntmps27
  go_wp2_with fail
  have hbx := DuAt.new w (.int .i64 key) (.slice A n c) 34
  have hbe : Below w.heap.size w (w.alloc (.cells #[.int .i64 key, .slice A n c] 34)) := (Below.refl _ _).alloc (Nat.le_refl _) _
  obtain ⟨we, hwe⟩ : ∃ we, we = w.alloc (.cells #[.int .i64 key, .slice A n c] 34) := ⟨_, rfl⟩
  have hsw : we.heap.size = w.heap.size + 1 := by rw [hwe]; simp
  rw [← hwe] at hbx hbe ⊢
  clear hwe
  replace hF := hF.of hbe
  have ⟨_, a0, a1⟩ := hbx
  go_at_call 74
  refine (ref54_Patterns key A n c fs _ hF hsm).mono ?_
  rintro e1 w1 ⟨B, m, d, rfl, hX, hb1⟩
  have hfin := below_thru hbe hb1
  go_wp2_with fail
  go_ret
  exact ⟨rfl, hfin⟩
set_option maxHeartbeats 4000000 in
theorem ref54_At (key : Int) (A : Option Addr) (n c : Nat) (fs : List TFr) (k : Int) (w : World) (hF : RdX ekFr w A n fs) (hsm : SmT fs) :
    Calls Tryz.prog 26 #[.agg #[.int .i64 key, .slice A n c], .int .i64 k] w fun e w' => ∃ B m d, e = .returned (.tuple #[.slice B m d, .int .i64 (atE key fs k)]) ∧ Rd encC 3 w' B m (atL key fs k) ∧ m ≤ d ∧ m ≤ 5000 ∧ Below w.heap.size w w' := by
  have kP := fun w1 h => ref54_Patterns key A n c fs w1 h hsm
  cases hB : tlB key fs with
  | false =>
    have HE := Lib.hid (at_bad (k := k) hB)
    rw [hB, tlP_no hB] at kP
    clear hB
    go_enter Tryz.func26, Tryz.ntmps26
    go_wp2_with fail
    have hbx := DuAt.new w (.int .i64 key) (.slice A n c) 34
    have hbe : Below w.heap.size w (w.alloc (.cells #[.int .i64 key, .slice A n c] 34)) := (Below.refl _ _).alloc (Nat.le_refl _) _
    obtain ⟨we, hwe⟩ : ∃ we, we = w.alloc (.cells #[.int .i64 key, .slice A n c] 34) := ⟨_, rfl⟩
    have hsw : we.heap.size = w.heap.size + 1 := by rw [hwe]; simp
    rw [← hwe] at hbx hbe ⊢
    clear hwe
    replace hF := hF.of hbe
    have ⟨_, a0, a1⟩ := hbx
    go_at_call 74
    refine (kP _ hF).mono ?_
    rintro e1 w1 ⟨B, m, d, rfl, hX, hb1⟩
    have hfin := below_thru hbe hb1
    clear a0 a1
    go_wp2_with fail
    go_ret2
    exact ⟨none, 0, 0, ret_pe HE.out.1.symm, by rw [HE.out.2]; exact Rd.nil_, by omega, by omega, hfin⟩
  | true =>
    have hPl := tlP_len hB
    have hPr := Lib.hid (tlP_right hB)
    rw [hB] at kP
    by_cases hk : 0 ≤ k ∧ k < (fs.length : Int)
    · obtain ⟨k, rfl⟩ := Int.eq_ofNat_of_zero_le hk.1
      have dk : decide ((k : Int) < 0) = false := decide_eq_false (by omega)
      have hat := Lib.hid (fun p h => at_here (k := k) (p := p) hB h)
      generalize tlP key fs = PL at kP hPl hPr hat
      have hkl := Lib.hid (show k < PL.length by omega)
      clear hB hk
      replace hPl := Lib.hid hPl
      go_enter Tryz.func26, Tryz.ntmps26
      go_wp2_with fail
      have hbx := DuAt.new w (.int .i64 key) (.slice A n c) 34
      have hbe : Below w.heap.size w (w.alloc (.cells #[.int .i64 key, .slice A n c] 34)) := (Below.refl _ _).alloc (Nat.le_refl _) _
      obtain ⟨we, hwe⟩ : ∃ we, we = w.alloc (.cells #[.int .i64 key, .slice A n c] 34) := ⟨_, rfl⟩
      have hsw : we.heap.size = w.heap.size + 1 := by rw [hwe]; simp
      rw [← hwe] at hbx hbe ⊢
      clear hwe
      replace hF := hF.of hbe
      have ⟨_, a0, a1⟩ := hbx
      go_at_call 74
      refine (kP _ hF).mono ?_
      rintro e1 w1 ⟨B, m, d, rfl, hX, hb1⟩
      have hfin := below_thru hbe hb1
      clear a0 a1 hb1 hbe hbx hF
      have hml := hX.len
      have hkm : k < m := by have := hkl.out; omega
      have dk2 : decide ((m : Int) ≤ (k : Int)) = false := decide_eq_false (by omega)
      have dk2' : decide (m ≤ k) = false := decide_eq_false (by omega)
      obtain ⟨PA, pn, pc, P, bX, oX, hPx, rfl, hbX, gx, hP, hpc⟩ := hX.rd.pat hkm
      have HE := Lib.hid (hat.out P hPx.out)
      have hpn : pn ≤ 5000 := by rw [← hP.len]; exact (rightC_ok (hPr.out P (List.mem_of_getElem? hPx.out))).1
      clear hml hat hPr hkl
      go_wp2_with fail
      go_ret2
      exact ⟨PA, pn, pc, ret_pe HE.out.1.symm, by rw [HE.out.2]; exact hP, hpc, hpn, hfin⟩
    · have HE := Lib.hid (at_none (k := k) hB hk)
      have hways := Lib.hid (show k < 0 ∨ (0 ≤ k ∧ ((tlP key fs).length : Int) ≤ k) by omega)
      generalize tlP key fs = PL at kP hways
      clear hB hk hPl hPr
      go_enter Tryz.func26, Tryz.ntmps26
      go_wp2_with fail
      have hbx := DuAt.new w (.int .i64 key) (.slice A n c) 34
      have hbe : Below w.heap.size w (w.alloc (.cells #[.int .i64 key, .slice A n c] 34)) := (Below.refl _ _).alloc (Nat.le_refl _) _
      obtain ⟨we, hwe⟩ : ∃ we, we = w.alloc (.cells #[.int .i64 key, .slice A n c] 34) := ⟨_, rfl⟩
      have hsw : we.heap.size = w.heap.size + 1 := by rw [hwe]; simp
      rw [← hwe] at hbx hbe ⊢
      clear hwe
      replace hF := hF.of hbe
      have ⟨_, a0, a1⟩ := hbx
      go_at_call 74
      refine (kP _ hF).mono ?_
      rintro e1 w1 ⟨B, m, d, rfl, hX, hb1⟩
      have hfin := below_thru hbe hb1
      clear a0 a1 hb1 hbe hbx hF
      have hml := hX.len
      have hw2 : decide (k < 0) = true ∨ (decide (k < 0) = false ∧ decide ((m : Int) ≤ k) = true) := by
        simp only [decide_eq_true_eq, decide_eq_false_iff_not]
        rcases hways.out with h | h
        · exact .inl h
        · right; omega
      clear hml hways hX
      rcases hw2 with d1 | ⟨d1, d2⟩
      all_goals
        go_wp2_with fail
        go_ret2
        exact ⟨none, 0, 0, ret_pe HE.out.1.symm, by rw [HE.out.2]; exact Rd.nil_, by omega, by omega, hfin⟩
end Go.Proofs.YtabfefhicfmabaaGreat
end
section
namespace Go.Proofs.YtabfefhicfmabaaGreat
open Go Go.RowKit
set_option maxRecDepth 100000
theorem grownBy_set (W : World) (b i : Nat) (v : Value) : W.grownBy (W.setCell ⟨b, i, none⟩ v) (some b) := by
  exact ⟨rfl, rfl, rfl, by simp, fun k _ hk => Below.heap_setCell _ _ _ k (fun e => hk (by rw [e]))⟩
def ekFrN (b1 b2 : Nat) : EK (Int × Bool × Hdl × Hdl) TFr where
  enc := encFr
  k := 4
  len := encFr_len
  one := encFr_one
  pos := by omega
  rel w a f := ekFr.rel w a f ∧ ∀ q ∈ ekFr.blk a, q ≠ b1 ∧ q ≠ b2
  blk := ekFr.blk
  keep h hg hr := ⟨ekFr.keep h.1 hg hr, h.2⟩
  lt h := ekFr.lt h.1
section
variable {e : TypeId} {B n c b1 b2 : Nat} {w : World} {A : Option Addr} {bs : List TFr}
theorem OwnX.dropN (h : OwnX (ekFrN b1 b2) e B w A n c bs) : OwnX ekFr e B w A n c bs := by
  obtain ⟨xs0, h1, h2, h3⟩ := h
  exact ⟨xs0, h1, ⟨h2.1, fun i a b ha hb => (h2.2 i a b ha hb).1⟩, h3⟩
theorem OwnX.setN (h : OwnX (ekFrN b1 b2) e B w A n c bs) (i : Nat) (v : Value) {b : Nat} (hb : b = b1 ∨ b = b2) (hB : b < B) : OwnX (ekFrN b1 b2) e B (w.setCell ⟨b, i, none⟩ v) A n c bs := by
  obtain ⟨xs0, h1, h2, h3⟩ := h
  have hg := grownBy_set w b i v
  refine ⟨xs0, h1.overM hg (fun e => by have := h1.above b e; omega), h2.keep hg (fun a ha q hq e => ?_), h3⟩
  injection e with e
  subst e
  obtain ⟨j, hj, rfl⟩ := List.getElem_of_mem ha
  have hjb : j < bs.length := by rw [← h2.1]; exact hj
  have := (h2.2 j _ _ (List.getElem?_eq_getElem hj) (List.getElem?_eq_getElem hjb)).2 q hq
  rcases hb with rfl | rfl
  · exact this.1 rfl
  · exact this.2 rfl
end
theorem NewG.setN {B n c : Nat} {w : World} {A : Option Addr} {l : List (Int × Int × Int × Int)} (h : NewG B w A n c l) (b i : Nat) (v : Value) (hb : b < B) : NewG B (w.setCell ⟨b, i, none⟩ v) A n c l :=
  ⟨Rd.grown (h := (A, n, c)) h.rd (grownBy_set w b i v) (fun q hq e => by have := h.loc q hq; injection e with e; omega), h.cap, h.loc⟩
set_option maxHeartbeats 4000000 in
theorem tl_frame (K k : Nat) (gen : Int) (BA PA : Option Addr) (bn bc pn pc : Nat) (b p : List Cel) (w : World) (hK : 1 ≤ K ∧ K ≤ 100) (hk : k ≤ 1000000) (hb : rightC b = true) (hp : rightC p = true) (hRb : Rd encC 3 w BA bn b) (hRp : Rd encC 3 w PA pn p) (hpc : pn ≤ pc) :
    Calls Tryz.prog 76 #[.int .i64 (K : Int), .int .i64 (k : Int), .int .i64 gen, .slice BA bn bc, .slice PA pn pc] w fun e w' => ∃ hC hD : Hdl, e = .returned (.tuple #[.agg #[.int .i64 gen, .bool (decide (k % K = 0)), .slice hC.1 hC.2.1 hC.2.2, .slice hD.1 hD.2.1 hD.2.2], .int .i64 0]) ∧
      ekFr.rel w' (gen, decide (k % K = 0), hC, hD) (gen, decide (k % K = 0), if k % K = 0 then p else [], if k % K = 0 then [] else ofL b p) ∧ (∀ q ∈ ekFr.blk (gen, decide (k % K = 0), hC, hD), q ∈ blkH (PA, pn, pc) ∨ w.heap.size ≤ q) ∧ Below w.heap.size w w' := by
  have hbn : bn ≤ 5000 := by rw [← hRb.len]; exact (rightC_ok hb).1
  have hpn : pn ≤ 5000 := by rw [← hRp.len]; exact (rightC_ok hp).1
  have kO := fun w1 h1 h2 => del_Of BA PA bn bc pn pc b p w1 h1 h2 (by omega) (by omega)
  rw [show ofE b p = 0 by unfold ofE; rw [if_pos ⟨hb, hp⟩]] at kO
  have hkz : ((K : Int) == 0) = false := by simp; omega
  have er2 : (k : Int).tmod (K : Int) = ((k % K : Nat) : Int) := rfl
  have er : IntKind.i64.wrap ((k % K : Nat) : Int) = ((k % K : Nat) : Int) := IntWalk.i64_in _ (by have := Nat.mod_lt k hK.1; omega)
  by_cases hz : k % K = 0
  · have hzi : (((k % K : Nat) : Int) == 0) = true := by rw [hz]; rfl
    rw [decide_eq_true hz, if_pos hz, if_pos hz]
    generalize ((k % K : Nat) : Int) = rk at er er2 hzi
    clear hz kO
    go_enter Tryz.func76, Tryz.ntmps76
    go_wp2_with fail
    refine bodyPost_ret (v := .tuple #[.agg #[.int .i64 gen, .bool true, .slice PA pn pc, .slice none 0 0], .int .i64 0]) (by simp [results, Tryz.results76, go_sem, *, ↓IntWalk.iteOmega]) rfl ?_
    refine ⟨(PA, pn, pc), (none, 0, 0), rfl, ⟨rfl, rfl, ⟨hRp.of (by (repeat' (first | exact Below.refl _ _ | assumption | (refine Below.alloc ?_ ?_ _) | (refine Below.setCell ?_ ?_ _) | (refine Below.drew ?_) | (refine below_drewN ?_ _) | (refine below_after (Ext.below _) ?_ ?_) | (refine below_after (by assumption) ?_ ?_) | (simp; done) | omega | (simp; omega)))), hpc⟩, Rd.nil_, Nat.le_refl _⟩, fun q hq => ?_, by (repeat' (first | exact Below.refl _ _ | assumption | (refine Below.alloc ?_ ?_ _) | (refine Below.setCell ?_ ?_ _) | (refine Below.drew ?_) | (refine below_drewN ?_ _) | (refine below_after (Ext.below _) ?_ ?_) | (refine below_after (by assumption) ?_ ?_) | (simp; done) | omega | (simp; omega)))⟩
    rcases List.mem_append.1 hq with hq | hq
    · exact .inl hq
    · simp [blkH] at hq
  · have hzi : (((k % K : Nat) : Int) == 0) = false := by simp; omega
    rw [decide_eq_false hz, if_neg hz, if_neg hz]
    generalize ((k % K : Nat) : Int) = rk at er er2 hzi
    clear hz
    go_enter Tryz.func76, Tryz.ntmps76
    go_wp2_with fail; go_at_call 80; refine (kO _ (hRb.of (by (repeat' (first | exact Below.refl _ _ | assumption | (refine Below.alloc ?_ ?_ _) | (refine Below.setCell ?_ ?_ _) | (refine Below.drew ?_) | (refine below_drewN ?_ _) | (refine below_after (Ext.below _) ?_ ?_) | (refine below_after (by assumption) ?_ ?_) | (simp; done) | omega | (simp; omega))))) (hRp.of (by (repeat' (first | exact Below.refl _ _ | assumption | (refine Below.alloc ?_ ?_ _) | (refine Below.setCell ?_ ?_ _) | (refine Below.drew ?_) | (refine below_drewN ?_ _) | (refine below_after (Ext.below _) ?_ ?_) | (refine below_after (by assumption) ?_ ?_) | (simp; done) | omega | (simp; omega)))))).mono ?_; rintro e w1 ⟨DA, dn, dc, rfl, hN, hdn, hb1⟩; have hs1 := hb1.size; (try simp only [World.size_alloc, World.size_drew, World.size_setCell] at hs1); obtain ⟨hc1, hf1⟩ := bcell hb1; (try simp only [World.size_alloc, World.size_setCell, World.size_drew] at hc1 hf1)
    go_wp2_with fail
    refine bodyPost_ret (v := .tuple #[.agg #[.int .i64 gen, .bool false, .slice none 0 0, .slice DA dn dc], .int .i64 0]) (by simp [results, Tryz.results76, go_sem, *, ↓IntWalk.iteOmega]) rfl ?_
    have hbB : w.heap.size < (w.alloc (Obj.cells #[Value.int IntKind.i64 0, Value.bool false, Value.slice none 0 0, Value.slice none 0 0] 54)).heap.size := by simp
    refine ⟨(none, 0, 0), (DA, dn, dc), rfl, ⟨rfl, rfl, ⟨Rd.nil_, Nat.le_refl _⟩, ?_, hN.cap⟩, fun q hq => ?_, by (repeat' (first | exact Below.refl _ _ | assumption | (refine Below.alloc ?_ ?_ _) | (refine Below.setCell ?_ ?_ _) | (refine Below.drew ?_) | (refine below_drewN ?_ _) | (refine below_after (Ext.below _) ?_ ?_) | (refine below_after (by assumption) ?_ ?_) | (simp; done) | omega | (simp; omega)))⟩
    · first
        | exact ((((hN.setN _ _ _ hbB).setN _ _ _ hbB).setN _ _ _ hbB).setN _ _ _ hbB).rd
        | exact (((hN.setN _ _ _ hbB).setN _ _ _ hbB).setN _ _ _ hbB).rd
        | exact ((hN.setN _ _ _ hbB).setN _ _ _ hbB).rd
        | exact (hN.setN _ _ _ hbB).rd
        | fail
    rcases List.mem_append.1 hq with hq | hq
    · simp [blkH] at hq
    · have := hN.loc q hq
      simp only [World.size_alloc] at this
      exact .inr (by omega)
end Go.Proofs.YtabfefhicfmabaaGreat
end
section
namespace Go.Proofs.YtabfefhicfmabaaGreat
open Go Go.RowKit
theorem frozen_setCell_if (w : World) (b i b' i' : Nat) (v : Value) : (w.setCell ⟨b, i, none⟩ v).frozen? ⟨b', i', none⟩ = w.frozen? ⟨b', i', none⟩ := by
  simp [go_sem]
def BxW (w : World) (b : Nat) (vs : List Value) : Prop := b < w.heap.size ∧ (∀ i, w.cell? ⟨b, i, none⟩ = vs[i]?) ∧ ∀ i, w.frozen? ⟨b, i, none⟩ = false
section
variable {w w' : World} {b b2 : Nat} {vs : List Value} {x y z u v v0 v1 v2 v3 : Value}
theorem BxW.new (w : World) (cs : List Value) (t : TypeId) : BxW (w.alloc (.cells cs.toArray t)) w.heap.size cs :=
  ⟨by simp, fun i => by rw [cell_alloc_if, if_neg (by omega), if_pos rfl]; simp, fun i => by rw [frozen_alloc_if, if_neg (by omega)]⟩
theorem BxW.drew (h : BxW w b vs) : BxW w.drew b vs := h
theorem BxW.of (h : BxW w b vs) (hb : Below w.heap.size w w') : BxW w' b vs :=
  ⟨Nat.lt_of_lt_of_le h.1 hb.size, fun i => (hb.cell (p := ⟨b, i, none⟩) h.1).trans (h.2.1 i), fun i => (hb.frozen (p := ⟨b, i, none⟩) h.1).trans (h.2.2 i)⟩
theorem BxW.grown {row : Option Nat} (h : BxW w b vs) (hg : w.grownBy w' row) (hne : some b ≠ row) : BxW w' b vs := by
  have hbl := hg.block b h.1 hne
  exact ⟨Nat.lt_of_lt_of_le h.1 hg.size, fun i => (World.cell?_of_block hbl).trans (h.2.1 i), fun i => (World.frozen?_of_block hbl).trans (h.2.2 i)⟩
theorem BxW.off (h : BxW w b vs) (i : Nat) (v : Value) (hb : b2 ≠ b) : BxW (w.setCell ⟨b2, i, none⟩ v) b vs := h.grown (grownBy_set w b2 i v) (fun e => hb (by injection e with e; exact e.symm))
theorem BxW.put (h : BxW w b vs) (i : Nat) (v : Value) (hi : i < vs.length) : BxW (w.setCell ⟨b, i, none⟩ v) b (vs.set i v) := by
  refine ⟨by rw [World.size_setCell]; exact h.1, fun j => ?_, fun j => by rw [frozen_setCell_if]; exact h.2.2 j⟩
  rw [cell_setCell_if, List.getElem?_set]
  by_cases e : i = j
  · subst e
    rw [if_pos ⟨rfl, rfl⟩, if_pos rfl, h.2.1, List.getElem?_eq_getElem hi, if_pos hi]; rfl
  · rw [if_neg (fun k => e k.2), if_neg e]; exact h.2.1 j
theorem BxW.open2 (h : BxW w b [x, y]) : b < w.heap.size ∧ w.cell? ⟨b, 0, none⟩ = some x ∧ w.cell? ⟨b, 1, none⟩ = some y ∧ w.frozen? ⟨b, 0, none⟩ = false ∧ w.frozen? ⟨b, 1, none⟩ = false :=
  ⟨h.1, h.2.1 0, h.2.1 1, h.2.2 0, h.2.2 1⟩
theorem BxW.open4 (h : BxW w b [v0, v1, v2, v3]) : b < w.heap.size ∧ w.cell? ⟨b, 0, none⟩ = some v0 ∧ w.cell? ⟨b, 1, none⟩ = some v1 ∧ w.cell? ⟨b, 2, none⟩ = some v2 ∧ w.cell? ⟨b, 3, none⟩ = some v3 ∧ w.frozen? ⟨b, 0, none⟩ = false ∧ w.frozen? ⟨b, 1, none⟩ = false ∧ w.frozen? ⟨b, 2, none⟩ = false ∧ w.frozen? ⟨b, 3, none⟩ = false :=
  ⟨h.1, h.2.1 0, h.2.1 1, h.2.1 2, h.2.1 3, h.2.2 0, h.2.2 1, h.2.2 2, h.2.2 3⟩
theorem BxW.cap (h : BxW w b vs) (k : w.frozen? ⟨b, 0, none⟩ = true) : False := by rw [h.2.2] at k; cases k
end
def set4 (w : World) (b : Nat) (v0 v1 v2 v3 : Value) : World := (((w.setCell ⟨b, 0, none⟩ v0).setCell ⟨b, 1, none⟩ v1).setCell ⟨b, 2, none⟩ v2).setCell ⟨b, 3, none⟩ v3
theorem set4_grown (w : World) (b : Nat) (v0 v1 v2 v3 : Value) : w.grownBy (set4 w b v0 v1 v2 v3) (some b) := by
  refine ⟨rfl, rfl, rfl, by simp [set4], fun k _ hk => ?_⟩
  have hk' : k ≠ b := fun e => hk (by rw [e])
  unfold set4
  rw [Below.heap_setCell _ _ _ k hk', Below.heap_setCell _ _ _ k hk', Below.heap_setCell _ _ _ k hk', Below.heap_setCell _ _ _ k hk']
theorem set4_box {w : World} {b : Nat} {u0 u1 u2 u3 : Value} (h : BxW w b [u0, u1, u2, u3]) (v0 v1 v2 v3 : Value) : BxW (set4 w b v0 v1 v2 v3) b [v0, v1, v2, v3] :=
  (((h.put 0 v0 (by simp)).put 1 v1 (by simp)).put 2 v2 (by simp)).put 3 v3 (by simp)
theorem set4_below {B : Nat} {w0 w : World} {b : Nat} (h : Below B w0 w) (hb : B ≤ b) (v0 v1 v2 v3 : Value) : Below B w0 (set4 w b v0 v1 v2 v3) :=
  (((h.setCell hb v0).setCell hb v1).setCell hb v2).setCell hb v3
theorem fr_alloc {wr w4 : World} {g : Int} {fu : Bool} {hC hD : Hdl} {f : TFr} (T : TypeId) (hB : Below wr.heap.size wr w4) (hrel : ekFr.rel w4 (g, fu, hC, hD) f) :
    ∃ w5 kb, w5 = w4.alloc (.cells #[.int .i64 g, .bool fu, .slice hC.1 hC.2.1 hC.2.2, .slice hD.1 hD.2.1 hD.2.2] T) ∧ kb = w4.heap.size ∧
      BxW w5 kb [.int .i64 g, .bool fu, .slice hC.1 hC.2.1 hC.2.2, .slice hD.1 hD.2.1 hD.2.2] ∧ Below wr.heap.size wr w5 ∧ ekFr.rel w5 (g, fu, hC, hD) f ∧ wr.heap.size ≤ kb := by
  refine ⟨_, _, rfl, rfl, BxW.new _ [_, _, _, _] T, hB.alloc hB.size _, ?_, hB.size⟩
  exact ekFr.keep hrel (World.grownBy_alloc _ _ none) (fun _ _ e => by cases e)
theorem fr_set {wr w4 : World} {g : Int} {fu : Bool} {hC hD : Hdl} {f : TFr} {k : Nat} {u0 u1 u2 u3 : Value} (hk : BxW w4 k [u0, u1, u2, u3]) (hB : Below wr.heap.size wr w4) (hrel : ekFr.rel w4 (g, fu, hC, hD) f) (hkw : wr.heap.size ≤ k) (hoff : ∀ q ∈ ekFr.blk (g, fu, hC, hD), q ≠ k) :
    ∃ w5 kb, w5 = (((w4.setCell ⟨k, 0, none⟩ (.int .i64 g)).setCell ⟨k, 1, none⟩ (.bool fu)).setCell ⟨k, 2, none⟩ (.slice hC.1 hC.2.1 hC.2.2)).setCell ⟨k, 3, none⟩ (.slice hD.1 hD.2.1 hD.2.2) ∧ kb = k ∧
      BxW w5 kb [.int .i64 g, .bool fu, .slice hC.1 hC.2.1 hC.2.2, .slice hD.1 hD.2.1 hD.2.2] ∧ Below wr.heap.size wr w5 ∧ ekFr.rel w5 (g, fu, hC, hD) f ∧ wr.heap.size ≤ kb := by
  refine ⟨_, _, rfl, rfl, set4_box hk _ _ _ _, set4_below hB hkw _ _ _ _, ?_, hkw⟩
  exact ekFr.keep hrel (set4_grown w4 k _ _ _ _) (fun q hq e => hoff q hq (by injection e))
end Go.Proofs.YtabfefhicfmabaaGreat
end
section
namespace Go.Proofs.YtabfefhicfmabaaGreat
open Go Go.RowKit
theorem Rd.avoid {α : Type} {enc : α → List Value} {k : Nat} {w : World} {A : Option Addr} {n c b : Nat} {l : List α} {vs : List Value} (h : Rd enc k w A n l) (henc : ∀ x, (enc x).length = k) (hk : 3 ≤ k) (hb : BxW w b vs) (hv : vs.length ≤ 2) : ∀ q ∈ blkH (A, n, c), q ≠ b := by
  intro q hq e
  subst e
  by_cases hn : n = 0
  · unfold blkH at hq
    rw [if_pos hn] at hq
    cases hq
  · obtain ⟨x, b', o, h1, h2, h3, h4⟩ := h.elem (i := 0) (by omega)
    have hq' : q = b' := by
      unfold blkH at hq
      rw [if_neg hn, h2] at hq
      simpa using hq
    subst hq'
    have hx : (enc x)[k - 1]? = some ((enc x)[k - 1]'(by rw [henc]; omega)) := List.getElem?_eq_getElem _
    have := h4 (k - 1) _ hx
    rw [hb.2.1, List.getElem?_eq_none (by omega)] at this
    cases this
theorem ekFr_off {w : World} {a : Int × Bool × Hdl × Hdl} {f : TFr} {b : Nat} {vs : List Value} (h : ekFr.rel w a f) (hb : BxW w b vs) (hv : vs.length ≤ 2) : ∀ q ∈ ekFr.blk a, q ≠ b := by
  intro q hq
  rcases List.mem_append.1 hq with hq | hq
  · exact h.2.2.1.1.avoid encC_len (by omega) hb hv q hq
  · exact h.2.2.2.1.avoid encG_len (by omega) hb hv q hq
theorem RdX.setBox {w : World} {A : Option Addr} {n b : Nat} {fs : List TFr} {vs : List Value} (h : RdX ekFr w A n fs) (hb : BxW w b vs) (hv : vs.length ≤ 2) (i : Nat) (v : Value) : RdX ekFr (w.setCell ⟨b, i, none⟩ v) A n fs := by
  obtain ⟨xs, h1, h2⟩ := h
  have hg := grownBy_set w b i v
  refine ⟨xs, Rd.grown (h := (A, n, n)) h1 hg (fun q hq e => h1.avoid encFr_len (by show 3 ≤ 4; omega) hb hv q hq (by injection e)), h2.keep hg (fun a ha q hq e => ?_)⟩
  injection e with e
  obtain ⟨j, hj, rfl⟩ := List.getElem_of_mem ha
  have hjb : j < fs.length := by rw [← h2.1]; exact hj
  exact ekFr_off (h2.2 j _ _ (List.getElem?_eq_getElem hj) (List.getElem?_eq_getElem hjb)) hb hv q hq e
theorem RdX.set2 {w : World} {A : Option Addr} {n b : Nat} {fs : List TFr} {x y : Value} (h : RdX ekFr w A n fs) (hb : BxW w b [x, y]) (u v : Value) : RdX ekFr ((w.setCell ⟨b, 0, none⟩ u).setCell ⟨b, 1, none⟩ v) A n fs :=
  (h.setBox hb (by simp) 0 u).setBox (hb.put 0 u (by simp)) (by simp) 1 v
end Go.Proofs.YtabfefhicfmabaaGreat
end
section
namespace Go.Proofs.YtabfefhicfmabaaGreat
open Go Go.RowKit
/-- All that lay in W lies in w' as it did, but for block b. -/
structure FrG (W : World) (b : Nat) (w' : World) : Prop where
  g : W.grownBy w' (some b)
section
variable {W w w' : World} {b : Nat}
theorem FrG.here (W : World) (b : Nat) : FrG W b W := ⟨World.grownBy.refl W _⟩
theorem FrG.drew (h : FrG W b w) : FrG W b w.drew := ⟨⟨h.g.os, h.g.tape, h.g.output, h.g.size, h.g.block⟩⟩
theorem FrG.alloc (h : FrG W b w) (o : Obj) : FrG W b (w.alloc o) := ⟨h.g.andThen (World.grownBy_alloc w o none) (fun q hq => by cases hq)⟩
theorem FrG.of (h : FrG W b w) (hb : Below w.heap.size w w') : FrG W b w' := ⟨⟨hb.os.trans h.g.os, hb.tape.trans h.g.tape, hb.output.trans h.g.output, Nat.le_trans h.g.size hb.size, fun i hi hr => (hb.block i (Nat.lt_of_lt_of_le hi h.g.size)).trans (h.g.block i hi hr)⟩⟩
theorem FrG.set (h : FrG W b w) (i : Nat) (v : Value) : FrG W b (w.setCell ⟨b, i, none⟩ v) := ⟨h.g.andThen (grownBy_set w b i v) (fun q hq => .inr hq)⟩
theorem FrG.cell (h : FrG W b w') {b1 i : Nat} {v : Value} (hb : b1 < W.heap.size) (hne : b1 ≠ b) (c : W.cell? ⟨b1, i, none⟩ = some v) : w'.cell? ⟨b1, i, none⟩ = some v :=
  (World.cell?_of_block (h.g.block b1 hb (fun e => hne (by injection e)))).trans c
theorem FrG.one (h : FrG W b w') {b1 i : Nat} {v : Value} (hb : b1 < W.heap.size) (hne : b1 ≠ b) (c : W.cell? ⟨b1, i, none⟩ = some v) : FrG W b w' ∧ w'.cell? ⟨b1, i, none⟩ = some v := ⟨h, h.cell hb hne c⟩
theorem FrG.two (h : FrG W b w') {b1 b2 i i2 : Nat} {v v2 : Value} (hb : b1 < W.heap.size) (hne : b1 ≠ b) (c : W.cell? ⟨b1, i, none⟩ = some v) (hb2 : b2 < W.heap.size) (hne2 : b2 ≠ b) (c2 : W.cell? ⟨b2, i2, none⟩ = some v2) : FrG W b w' ∧ w'.cell? ⟨b1, i, none⟩ = some v ∧ w'.cell? ⟨b2, i2, none⟩ = some v2 := ⟨h, h.cell hb hne c, h.cell hb2 hne2 c2⟩
end
section
variable {α β : Type} {K : EK α β} {w : World} {n : Nat} {bs : List β}
theorem RdX.sub {b o : Nat} (h : RdX K w (some ⟨b, o, none⟩) n bs) {i j : Nat} (hij : i ≤ j) (hj : j ≤ n) : RdX K w (some ⟨b, o + i * K.k, none⟩) (j - i) ((bs.take j).drop i) := by
  obtain ⟨xs, h1, h2⟩ := h
  refine ⟨(xs.take j).drop i, (h1.take hj).drop hij, ?_, fun q a c ha hc => ?_⟩
  · have := h2.1
    simp [List.length_drop, List.length_take, this]
  · rw [List.getElem?_drop, List.getElem?_take] at ha hc
    split at ha
    · rename_i hq
      rw [if_pos hq] at hc
      exact h2.2 _ a c ha hc
    · cases ha
end
theorem BxW.open1 {w : World} {b : Nat} {x : Value} (h : BxW w b [x]) : b < w.heap.size ∧ w.cell? ⟨b, 0, none⟩ = some x ∧ w.frozen? ⟨b, 0, none⟩ = false := ⟨h.1, h.2.1 0, h.2.2 0⟩
theorem three_boxesC (w : World) (key a : Int) (A : Option Addr) (n c : Nat) (t t' t'' : TypeId) : ∃ we, we = ((w.alloc (.cells #[.int .i64 key, .slice A n c] t)).alloc (.cells #[.int .i64 a] t')).alloc (.cells #[.int .i64 0, .slice none 0 0] t'') ∧
    BxW we w.heap.size [.int .i64 key, .slice A n c] ∧ BxW we (w.heap.size + 1) [.int .i64 a] ∧ BxW we (w.heap.size + 2) [.int .i64 0, .slice none 0 0] ∧ Below w.heap.size w we ∧ we.heap.size = w.heap.size + 3 := by
  have h2 := BxW.new (w.alloc (.cells #[.int .i64 key, .slice A n c] t)) [.int .i64 a] t'
  have h3 := BxW.new ((w.alloc (.cells #[.int .i64 key, .slice A n c] t)).alloc (.cells #[.int .i64 a] t')) [.int .i64 0, .slice none 0 0] t''
  rw [World.size_alloc] at h2
  rw [World.size_alloc, World.size_alloc] at h3
  exact ⟨_, rfl, ((BxW.new w [_, _] t).of ((Below.refl _ _).alloc (Nat.le_refl _) _)).of ((Below.refl _ _).alloc (Nat.le_refl _) _), h2.of ((Below.refl _ _).alloc (Nat.le_refl _) _), h3, (((Below.refl _ _).alloc (Nat.le_refl _) _).alloc (by simp) _).alloc (by simp; omega) _, by simp⟩
theorem two_boxesT (w : World) (key : Int) (A : Option Addr) (n c : Nat) (t t' : TypeId) : ∃ we, we = (w.alloc (.cells #[.int .i64 key, .slice A n c] t)).alloc (.cells #[.int .i64 0, .slice none 0 0] t') ∧
    BxW we w.heap.size [.int .i64 key, .slice A n c] ∧ BxW we (w.heap.size + 1) [.int .i64 0, .slice none 0 0] ∧ Below w.heap.size w we ∧ we.heap.size = w.heap.size + 2 := by
  have h2 := BxW.new (w.alloc (.cells #[.int .i64 key, .slice A n c] t)) [.int .i64 0, .slice none 0 0] t'
  rw [World.size_alloc] at h2
  exact ⟨_, rfl, (BxW.new w [_, _] t).of ((Below.refl _ _).alloc (Nat.le_refl _) _), h2, ((Below.refl _ _).alloc (Nat.le_refl _) _).alloc (by simp) _, by simp⟩
end Go.Proofs.YtabfefhicfmabaaGreat
end
section
namespace Go.Proofs.YtabfefhicfmabaaGreat
open Go Go.RowKit
theorem step_append_gr {α β : Type} {K : EK α β} {P : Program} {w : World} {ops : Array Oper} {o : Oper} {a : Act} {k : Act → World → Prop} {Q : Exit → Act → World → Prop} {E : Prop} (hgd : o.guard = none) (s x : Operand) (t : TypeId)
    (ho : o.op = .call { callee := .builtin .append, args := #[s, x], argTypes := #[t, t] })
    (e : TypeId) (z : Value) (bytes : Nat) (ht : P.underlying t = some (.slice e)) (hi : (P.info? e).map (fun i => (i.zero, i.size, i.bytes)) = some (some z, K.k, bytes)) (hzs : z.cells.size = K.k)
    (A : Option Addr) (n : Nat) (bs : List β) (hs : a.eval s = .slice A n n) (hrd : RdX K w A n bs)
    (y : α) (b : β) (hrel : K.rel w y b) (ad : Addr) (m : Nat) (hx : a.eval x = .slice (some ad) 1 m) (hnews : ∀ j u, (K.enc y)[j]? = some u → w.cell? (ad.add j) = some u)
    (hbytes : (n + 1) * bytes ≤ 140737488355328) (hn : n + 1 ≤ 4611686018427387904)
    (h : ∀ A' c' w', OwnX K e w.heap.size w' A' (n + 1) c' (bs ++ [b]) → w.grownBy w' none → k (a.put o.dst (.slice A' (n + 1) c')) w') :
    if Region.wanted o (yielded ops a.tmps) = true then Oper.wp P o a w k Q else E := by
  have hw : Region.wanted o (yielded ops a.tmps) = true := by simp [Region.wanted, hgd]
  rw [if_pos hw]
  obtain ⟨xs, h1, h2⟩ := hrd
  obtain ⟨i, hi0, hz0, hz1, hz2⟩ := info_parts hi
  have hfl : (xs.flatMap K.enc).length = n * K.k := by rw [flatMap_len K.len, h1.len]
  have hm : n + 1 ≤ maxLen := by unfold maxLen; omega
  have hkey : ∃ v' w', (Builtin.append_ #[t, t] o.type #[.slice A n n, .slice (some ad) 1 m]).run P w = .ok v' w' ∧ w'.ownsRow w.heap.size e K.k v' (n + 1) (xs.flatMap K.enc ++ K.enc y) ∧ w.grownBy w' none := by
    cases A with
    | none =>
      have h0 : n = 0 := by
        refine Decidable.byContradiction fun hne => ?_
        obtain ⟨_, _, q, _⟩ := h1.2 (by omega)
        cases q
      subst h0
      obtain rfl : xs = [] := List.eq_nil_of_length_eq_zero h1.len
      obtain ⟨v', w', hrun, r1, r2, _⟩ := run_append_own (P := P) w w.heap.size t o.type e i z K.k bytes ht hi0 hz0 hz1 hz2 hzs K.pos (.slice none 0 0) 0 [] (World.ownsRow_nil w _ e K.k) ad 1 m (K.enc y) (by rw [K.len]; omega) hnews (K.one y) hm hbytes (Nat.le_refl _)
      exact ⟨v', w', hrun, r1, r2⟩
    | some b0 =>
      exact run_append_arg_grows (P := P) w t o.type e i z K.k bytes ht hi0 hz0 hz1 hz2 hzs K.pos b0 n n (xs.flatMap K.enc) hfl (rd_cells h1 K.len K.pos) ad 1 m (K.enc y) (by rw [K.len]; omega) hnews (by omega) hm hbytes
  obtain ⟨v', w', hrun, r1, r2⟩ := hkey
  rcases r1.2 with ⟨_, h0⟩ | ⟨g, cap, cur, rfl, hr⟩
  · omega
  have hfin := h _ _ w' ⟨xs ++ [y], ⟨by simpa using ⟨r1.1, Or.inr ⟨g, cap, cur, rfl, hr⟩⟩, by simp [h1.len]⟩, (h2.keep r2 (fun _ _ _ _ e => by cases e)).snoc (K.keep hrel r2 (fun _ _ e => by cases e)), fun a' ha' q hq => ?_⟩ r2
  · unfold Oper.wp
    simp [execOp, ho, resolve, invoke, builtin, hs, hx, hrun, Result.andThen]
    exact hfin
  · intro e1
    injection e1 with e1
    replace e1 : q = g := e1
    have hge := hr.1
    rcases List.mem_append.1 ha' with hm | hm
    · have := h2.lt a' hm q hq; omega
    · obtain rfl : a' = y := by simpa using hm
      have := K.lt hrel q hq
      omega
end Go.Proofs.YtabfefhicfmabaaGreat
end
section
namespace Go.Proofs.YtabfefhicfmabaaGreat
open Go Go.RowKit
theorem step_append_x {α β : Type} {K : EK α β} {P : Program} {w : World} {ops : Array Oper} {o : Oper} {a : Act} {k : Act → World → Prop} {Q : Exit → Act → World → Prop} {E : Prop} (hgd : o.guard = none) (s x : Operand) (t : TypeId)
    (ho : o.op = .call { callee := .builtin .append, args := #[s, x], argTypes := #[t, t] })
    (e : TypeId) (z : Value) (bytes : Nat) (ht : P.underlying t = some (.slice e)) (hi : (P.info? e).map (fun i => (i.zero, i.size, i.bytes)) = some (some z, K.k, bytes)) (hzs : z.cells.size = K.k)
    (B : Nat) (A : Option Addr) (n c : Nat) (bs : List β) (hs : a.eval s = .slice A n c) (hown : OwnX K e B w A n c bs)
    (y : α) (b : β) (hrel : K.rel w y b) (hoff : ∀ q ∈ K.blk y, some q ≠ (Value.slice A n c).ownBlock) (ad : Addr) (m : Nat) (hx : a.eval x = .slice (some ad) 1 m) (hnews : ∀ j u, (K.enc y)[j]? = some u → w.cell? (ad.add j) = some u)
    (hbytes : (n + 1) * bytes ≤ 140737488355328) (hn : n + 1 ≤ 4611686018427387904) (hbase : B ≤ w.heap.size)
    (h : ∀ A' c' w', OwnX K e B w' A' (n + 1) c' (bs ++ [b]) → w.grownBy w' (Value.slice A n c).ownBlock → Below B w w' → k (a.put o.dst (.slice A' (n + 1) c')) w') :
    if Region.wanted o (yielded ops a.tmps) = true then Oper.wp P o a w k Q else E := by
  obtain ⟨xs0, h1, h2, h3⟩ := hown
  obtain ⟨i, hi0, hz0, hz1, hz2⟩ := info_parts hi
  refine step_append_lies _ hgd s x t ho B e i z K.k bytes ht hi0 hz0 hz1 hz2 hzs K.pos (.slice A n c) n (xs0.flatMap K.enc) hs h1.row ad 1 m (K.enc y) hx (by rw [K.len]; omega) hnews (K.one y)
    (by omega) (by unfold maxLen; omega) hbytes hbase w.heap.size rfl ?_
  intro g cap w' hv hg hloc hlt
  have hgB : Below B w w' := (Below.refl _ _).grown hg hbase h1.above
  refine h _ _ w' ⟨xs0 ++ [y], ⟨by simpa using hv, by simp [h1.len]⟩, (h2.keep hg h3).snoc (K.keep hrel hg hoff), ?_⟩ hg hgB
  intro a' ha' q hq e1
  injection e1 with e1
  replace e1 : q = g := e1
  rcases List.mem_append.1 ha' with hm | hm
  · rcases hloc with hl | hl
    · exact h3 a' hm q hq (by rw [hl, e1])
    · have := h2.lt a' hm q hq; omega
  · obtain rfl : a' = y := by simpa using hm
    rcases hloc with hl | hl
    · exact hoff q hq (by rw [hl, e1])
    · have := K.lt hrel q hq; omega
theorem BxW.al {w : World} {b : Nat} {vs : List Value} (h : BxW w b vs) (o : Obj) : BxW (w.alloc o) b vs := h.of ((Below.refl _ _).alloc (Nat.le_refl _) o)
theorem news_of {w : World} {b : Nat} {vs : List Value} (h : BxW w b vs) : ∀ j u, vs[j]? = some u → w.cell? ((⟨b, 0, none⟩ : Addr).add j) = some u := fun j u hu => by
  have e : (⟨b, 0, none⟩ : Addr).add j = ⟨b, j, none⟩ := by rw [Addr.add_lit]; simp
  rw [e, h.2.1]; exact hu
theorem BxW.two {w : World} {b : Nat} {x y : Value} (h : BxW w b [x, y]) : BxW w b [x, y] ∧ w.cell? ⟨b, 0, none⟩ = some x ∧ w.cell? ⟨b, 1, none⟩ = some y := ⟨h, h.2.1 0, h.2.1 1⟩
theorem Own.al {α : Type} {enc : α → List Value} {k : Nat} {e : TypeId} {B n c : Nat} {w : World} {A : Option Addr} {l : List α} (h : Own enc k e B w A n c l) (o : Obj) : Own enc k e B (w.alloc o) A n c l := h.of ((Below.refl _ _).alloc (Nat.le_refl _) o)
theorem Own.drewO {α : Type} {enc : α → List Value} {k : Nat} {e : TypeId} {B n c : Nat} {w : World} {A : Option Addr} {l : List α} (h : Own enc k e B w A n c l) : Own enc k e B w.drew A n c l := h.of (Below.refl _ _).drew
theorem OwnX.drewX {α β : Type} {K : EK α β} {e : TypeId} {B n c : Nat} {w : World} {A : Option Addr} {bs : List β} (h : OwnX K e B w A n c bs) : OwnX K e B w.drew A n c bs := h.of (Below.refl _ _).drew
theorem Rd.al {α : Type} {enc : α → List Value} {k : Nat} {w : World} {A : Option Addr} {n : Nat} {l : List α} (h : Rd enc k w A n l) (o : Obj) : Rd enc k (w.alloc o) A n l := h.of ((Below.refl _ _).alloc (Nat.le_refl _) o)
theorem RdX.al {α β : Type} {K : EK α β} {w : World} {A : Option Addr} {n : Nat} {bs : List β} (h : RdX K w A n bs) (o : Obj) : RdX K (w.alloc o) A n bs := h.of ((Below.refl _ _).alloc (Nat.le_refl _) o)
theorem RdX.drewX {α β : Type} {K : EK α β} {w : World} {A : Option Addr} {n : Nat} {bs : List β} (h : RdX K w A n bs) : RdX K w.drew A n bs := h.of (Below.refl _ _).drew
end Go.Proofs.YtabfefhicfmabaaGreat
end
