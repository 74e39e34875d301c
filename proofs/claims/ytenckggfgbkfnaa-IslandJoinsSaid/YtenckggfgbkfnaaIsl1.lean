/- The contracts of island.Near and its reference. -/
import Derived.Test.YtenckggfgbkfnaaPLN
import Derived.Test.YtenckggfgbkfnaaCellS
namespace Go.Proofs.Ytenckggfgbkfnaa
open Go Go.RowKit
set_option linter.unusedSimpArgs false
set_option linter.unusedVariables false
set_option maxRecDepth 100000
attribute [local go_sem ↓ high] eq_cl neq_cl eq_pt neq_pt
theorem nrD_max {ax ay sa bx bx' sb d : Int} : decide (max (ax - bx) (max (-(ax - bx)) (max (ay - bx') (-(ay - bx')))) ≤ d) = nrD d (ax, ay, sa) (bx, bx', sb) := by
  unfold nrD; exact decide_eq_decide.2 (by simp only; omega)
/-- The distance of two cells. -/
def dstD (a b : Int × Int × Int) : Int := max (max (a.1 - b.1) (b.1 - a.1)) (max (a.2.1 - b.2.1) (b.2.1 - a.2.1))
theorem dstD_nr (d : Int) (a b : Int × Int × Int) : decide (dstD a b ≤ d) = nrD d a b := by
  unfold nrD dstD; exact decide_eq_decide.2 (by omega)
theorem isl_near (ax ay sa bx bx' sb d : Int) (w : World) (h1 : Pt ax ay) (h2 : Pt bx bx') :
    Calls Try.prog 26 #[.agg #[.int .i64 ax, .int .i64 ay, .int .i64 sa], .agg #[.int .i64 bx, .int .i64 bx', .int .i64 sb], .int .i64 d] w fun e w' => e = .returned (.bool (nrD d (ax, ay, sa) (bx, bx', sb))) ∧ Below w.heap.size w w' := by
  have hmx := @nrD_max ax ay sa bx bx' sb d
  unfold Pt at h1 h2
  generalize nrD d (ax, ay, sa) (bx, bx', sb) = q at hmx ⊢
  replace hmx := Lib.hid hmx
  go_enter Try.func26, Try.ntmps26
  go_wp2
  (refine wp_region_ext_lit (by kernel_rfl) (by kernel_rfl) ?_; (repeat (go_big_quiet_step (fail))); refine wpQuiet_nil ?_; intro _ hw'; obtain ⟨z1, hw''⟩ := hw'; subst hw''; have hs1 := z1.size; obtain ⟨hc1, hf1⟩ := bcell z1.below; (try simp only [World.size_alloc, World.size_setCell, World.size_drew] at hc1 hf1); (try simp at hs1))
  go_wp2
  go_ret
  exact ⟨ret_bool hmx.out, by (repeat' (first | exact Below.refl _ _ | assumption | (refine Below.alloc ?_ ?_ _) | (refine Below.setCell ?_ ?_ _) | (refine Below.drew ?_) | (refine below_drewN ?_ _) | (refine below_after (Ext.below _) ?_ ?_) | (refine below_after (by assumption) ?_ ?_) | (simp; done) | omega | (simp; omega)))⟩
theorem ref36_distance (ax ay sa bx bx' sb : Int) (w : World) (h1 : Pt ax ay) (h2 : Pt bx bx') :
    Calls Try.prog 23 #[.agg #[.int .i64 ax, .int .i64 ay, .int .i64 sa], .agg #[.int .i64 bx, .int .i64 bx', .int .i64 sb]] w fun e w' => e = .returned (.int .i64 (dstD (ax, ay, sa) (bx, bx', sb))) ∧ Below w.heap.size w w' := by
  unfold Pt at h1 h2
  go_enter Try.func23, Try.ntmps23
  go_wp2
  go_ret
  exact ⟨ret_int (by unfold dstD; simp only; omega), by (repeat' (first | exact Below.refl _ _ | assumption | (refine Below.alloc ?_ ?_ _) | (refine Below.setCell ?_ ?_ _) | (refine Below.drew ?_) | (refine below_drewN ?_ _) | (refine below_after (Ext.below _) ?_ ?_) | (refine below_after (by assumption) ?_ ?_) | (simp; done) | omega | (simp; omega)))⟩
/-- Two patterns with cells that are at most d apart. -/
def nearA (d : Int) (a : Int × Int × Int) (r : List (Int × Int × Int)) : Bool := r.any (nrD d a)
def nearL (d : Int) (l r : List (Int × Int × Int)) : Bool := rightC l && rightC r && l.any fun a => nearA d a r
theorem any_true {α : Type} {p : α → Bool} {l : List α} {i : Nat} {x : α} (h : l[i]? = some x) (hp : p x = true) : l.any p = true := List.any_eq_true.2 ⟨x, List.mem_of_getElem? h, hp⟩
theorem any_false {α : Type} {p : α → Bool} {l : List α} {n : Nat} (hl : l.length = n) (h : ∀ i x, i < n → l[i]? = some x → p x = false) : l.any p = false := by
  rw [List.any_eq_false]
  intro x hx
  obtain ⟨i, hi, e⟩ := List.getElem_of_mem hx
  rw [h i x (by omega) (by rw [List.getElem?_eq_getElem hi, e])]
  simp
theorem no_step {α : Type} {p : α → Bool} {l : List α} {j : Nat} {a : α} (h : ∀ i x, i < j → l[i]? = some x → p x = false) (hx : l[j]? = some a) (ha : p a = false) : ∀ i x, i < j + 1 → l[i]? = some x → p x = false := by
  intro i x hi hy
  by_cases e : i = j
  · rw [e, hx] at hy; cases hy; exact ha
  · exact h i x (by omega) hy
theorem isl_near1 (ax ay sa bx bx' sb d : Int) (ba bd : Nat) (w : World) (h1 : Pt ax ay) (h2 : Pt bx bx') (a0 : w.cell? ⟨ba, 0, none⟩ = some (.int .i64 ax)) (a1 : w.cell? ⟨ba, 1, none⟩ = some (.int .i64 ay)) (a2 : w.cell? ⟨ba, 2, none⟩ = some (.int .i64 sa)) (hd : w.cell? ⟨bd, 0, none⟩ = some (.int .i64 d)) (hba : ba < w.heap.size) (hbd : bd < w.heap.size) :
    Calls Try.prog 25 #[.agg #[.int .i64 bx, .int .i64 bx', .int .i64 sb], .pointer (some ⟨ba, 0, none⟩), .pointer (some ⟨bd, 0, none⟩)] w fun e w' => e = .returned (.bool (nrD d (ax, ay, sa) (bx, bx', sb))) ∧ Below w.heap.size w w' := by
  go_enter Try.func25, Try.ntmps25
  go_wp2_with fail; go_at_call 26; refine (isl_near _ _ _ _ _ _ _ _ h1 h2).mono ?_; rintro e w1 ⟨rfl, hb1⟩; have hs1 := hb1.size; (try simp only [World.size_alloc, World.size_drew, World.size_setCell] at hs1)
  go_wp2_with fail
  go_ret
  exact ⟨rfl, by (repeat' (first | exact Below.refl _ _ | assumption | (refine Below.alloc ?_ ?_ _) | (refine Below.setCell ?_ ?_ _) | (refine Below.drew ?_) | (refine below_drewN ?_ _) | (refine below_after (Ext.below _) ?_ ?_) | (refine below_after (by assumption) ?_ ?_) | (simp; done) | omega | (simp; omega)))⟩
theorem indexFunc_near (A : Option Addr) (n c : Nat) (l : List (Int × Int × Int)) (ax ay sa d : Int) (ba bd : Nat) (w : World) (hR : Rd encC 3 w A n l) (hn : n ≤ 1000000) (hr : rightC l = true) (h1 : Pt ax ay) (a0 : w.cell? ⟨ba, 0, none⟩ = some (.int .i64 ax)) (a1 : w.cell? ⟨ba, 1, none⟩ = some (.int .i64 ay)) (a2 : w.cell? ⟨ba, 2, none⟩ = some (.int .i64 sa)) (hd : w.cell? ⟨bd, 0, none⟩ = some (.int .i64 d)) (hba : ba < w.heap.size) (hbd : bd < w.heap.size) :
    Calls Try.prog 42 #[.slice A n c, .func (.func 25) #[] #[.pointer (some ⟨ba, 0, none⟩), .pointer (some ⟨bd, 0, none⟩)]] w fun e w' => ∃ r : Int, e = .returned (.int .i64 r) ∧ Hid (nearA d (ax, ay, sa) l = decide (0 ≤ r)) ∧ Below w.heap.size w w' := by
  have hr := Lib.hid hr
  go_enter Try.func42, Try.ntmps42
  go_wp2
  go_loopw [8] (fun i wr => ∃ j : Nat, j ≤ n ∧ i = .int .i64 j ∧ Below w.heap.size w wr ∧ Hid (∀ i x, i < j → l[i]? = some x → nrD d (ax, ay, sa) x = false)) (fun i _ => n - (intOf i).toNat)
  case atStart => exact ⟨0, by omega, rfl, Below.refl _ _, fun r x hr => absurd hr (by omega)⟩
  case round =>
    obtain ⟨j, hj, rfl, hb, hno⟩ := hrel
    obtain ⟨hc, hf⟩ := bcell hb
    have hs := hb.size
    by_cases hlt : j < n
    · obtain ⟨x, y, s, b, o, hx, rfl, hbl, g1, g2, g3⟩ := hR.cell hlt
      have hp := (rightC_elem hr.out hx.out).1
      have hsy := fun w9 (k0 : w9.cell? ⟨ba, 0, none⟩ = some (.int .i64 ax)) k1 k2 k3 k4 k5 => isl_near1 ax ay sa x y s d ba bd w9 h1 hp k0 k1 k2 k3 k4 k5
      cases hq : nrD d (ax, ay, sa) (x, y, s) with
      | true =>
        rw [hq] at hsy
        go_wp2_with (first | (go_at_call 25; refine (hsy _ ((hb.cell (p := ⟨ba, 0, none⟩) hba).trans a0) ((hb.cell (p := ⟨ba, 1, none⟩) hba).trans a1) ((hb.cell (p := ⟨ba, 2, none⟩) hba).trans a2) ((hb.cell (p := ⟨bd, 0, none⟩) hbd).trans hd) (by omega) (by omega)).mono ?_; rintro e w1 ⟨rfl, hb1⟩))
        go_ret
        exact ⟨_, rfl, by show _ = _; rw [show nearA d (ax, ay, sa) l = true from any_true hx.out hq]; simp, by (repeat' (first | exact Below.refl _ _ | assumption | (refine Below.alloc ?_ ?_ _) | (refine Below.setCell ?_ ?_ _) | (refine Below.drew ?_) | (refine below_drewN ?_ _) | (refine below_after (Ext.below _) ?_ ?_) | (refine below_after (by assumption) ?_ ?_) | (simp; done) | omega | (simp; omega)))⟩
      | false =>
        rw [hq] at hsy
        go_wp2_with (first | (go_at_call 25; refine (hsy _ ((hb.cell (p := ⟨ba, 0, none⟩) hba).trans a0) ((hb.cell (p := ⟨ba, 1, none⟩) hba).trans a1) ((hb.cell (p := ⟨ba, 2, none⟩) hba).trans a2) ((hb.cell (p := ⟨bd, 0, none⟩) hbd).trans hd) (by omega) (by omega)).mono ?_; rintro e w1 ⟨rfl, hb1⟩; have hs1 := hb1.size))
        go_roundw
        case rel => exact ⟨j + 1, by omega, by go_num, (by (repeat' (first | exact Below.refl _ _ | assumption | (refine Below.alloc ?_ ?_ _) | (refine Below.setCell ?_ ?_ _) | (refine Below.drew ?_) | (refine below_drewN ?_ _) | (refine below_after (Ext.below _) ?_ ?_) | (refine below_after (by assumption) ?_ ?_) | (simp; done) | omega | (simp; omega)))), no_step hno.out hx.out hq⟩
        case measure => simp [intOf]; omega
    · obtain rfl : j = n := by omega
      go_wp2
      go_ret
      exact ⟨_, rfl, by show _ = _; rw [show nearA d (ax, ay, sa) l = false from any_false hR.len hno.out]; simp, hb⟩
theorem containsFunc_near (A : Option Addr) (n c : Nat) (l : List (Int × Int × Int)) (ax ay sa d : Int) (ba bd : Nat) (w : World) (hR : Rd encC 3 w A n l) (hn : n ≤ 1000000) (hr : rightC l = true) (h1 : Pt ax ay) (a0 : w.cell? ⟨ba, 0, none⟩ = some (.int .i64 ax)) (a1 : w.cell? ⟨ba, 1, none⟩ = some (.int .i64 ay)) (a2 : w.cell? ⟨ba, 2, none⟩ = some (.int .i64 sa)) (hd : w.cell? ⟨bd, 0, none⟩ = some (.int .i64 d)) (hba : ba < w.heap.size) (hbd : bd < w.heap.size) :
    Calls Try.prog 24 #[.slice A n c, .func (.func 25) #[] #[.pointer (some ⟨ba, 0, none⟩), .pointer (some ⟨bd, 0, none⟩)]] w fun e w' => e = .returned (.bool (nearA d (ax, ay, sa) l)) ∧ Below w.heap.size w w' := by
  go_enter Try.func24, Try.ntmps24
  go_wp2_with (first | (go_at_call 42; refine (indexFunc_near _ _ _ _ _ _ _ _ _ _ _ hR hn hr h1 a0 a1 a2 hd hba hbd).mono ?_; rintro e w' ⟨r, rfl, hr, hbr⟩))
  go_ret
  exact ⟨ret_bool hr.out.symm, hbr⟩
set_option maxHeartbeats 4000000 in
theorem isl_Near (A B : Option Addr) (n m c d' : Nat) (l r : List (Int × Int × Int)) (d : Int) (w : World) (hR : Rd encC 3 w A n l) (hS : Rd encC 3 w B m r) (hn : n ≤ 1000000) (hm : m ≤ 1000000) :
    Calls Try.prog 13 #[.slice A n c, .slice B m d', .int .i64 d] w fun e w' => e = .returned (.bool (nearL d l r)) ∧ Below w.heap.size w w' := by
  cases hl : rightC l with
  | false =>
    have HE := Lib.hid (show nearL d l r = false by unfold nearL; rw [hl]; rfl)
    have kR := fun w1 (h : Rd encC 3 w1 A n l) => pat_RightV (A := A) (n := n) (c := c) hl w1 h (by omega)
    clear hl
    go_enter Try.func13, Try.ntmps13
    go_wp2_with fail; go_at_call 19; refine (kR _ (hR.of (by (repeat' (first | exact Below.refl _ _ | assumption | (refine Below.alloc ?_ ?_ _) | (refine Below.setCell ?_ ?_ _) | (refine Below.drew ?_) | (refine below_drewN ?_ _) | (refine below_after (Ext.below _) ?_ ?_) | (refine below_after (by assumption) ?_ ?_) | (simp; done) | omega | (simp; omega)))))).mono ?_; rintro e w1 ⟨rfl, hb1⟩; have hs1 := hb1.size; (try simp only [World.size_alloc, World.size_drew, World.size_setCell] at hs1)
    go_wp2_with fail
    go_ret
    exact ⟨ret_bool HE.out.symm, by (repeat' (first | exact Below.refl _ _ | assumption | (refine Below.alloc ?_ ?_ _) | (refine Below.setCell ?_ ?_ _) | (refine Below.drew ?_) | (refine below_drewN ?_ _) | (refine below_after (Ext.below _) ?_ ?_) | (refine below_after (by assumption) ?_ ?_) | (simp; done) | omega | (simp; omega)))⟩
  | true =>
    have kR := fun w1 (h : Rd encC 3 w1 A n l) => pat_RightV (A := A) (n := n) (c := c) hl w1 h (by omega)
    cases hr : rightC r with
    | false =>
      have HE := Lib.hid (show nearL d l r = false by unfold nearL; rw [hl, hr]; rfl)
      have kS := fun w1 (h : Rd encC 3 w1 B m r) => pat_RightV (A := B) (n := m) (c := d') hr w1 h (by omega)
      clear hl hr
      go_enter Try.func13, Try.ntmps13
      go_wp2_with fail; go_at_call 19; refine (kR _ (hR.of (by (repeat' (first | exact Below.refl _ _ | assumption | (refine Below.alloc ?_ ?_ _) | (refine Below.setCell ?_ ?_ _) | (refine Below.drew ?_) | (refine below_drewN ?_ _) | (refine below_after (Ext.below _) ?_ ?_) | (refine below_after (by assumption) ?_ ?_) | (simp; done) | omega | (simp; omega)))))).mono ?_; rintro e w1 ⟨rfl, hb1⟩; have hs1 := hb1.size; (try simp only [World.size_alloc, World.size_drew, World.size_setCell] at hs1)
      go_wp2_with fail; go_at_call 19; refine (kS _ (hS.of (by (repeat' (first | exact Below.refl _ _ | assumption | (refine Below.alloc ?_ ?_ _) | (refine Below.setCell ?_ ?_ _) | (refine Below.drew ?_) | (refine below_drewN ?_ _) | (refine below_after (Ext.below _) ?_ ?_) | (refine below_after (by assumption) ?_ ?_) | (simp; done) | omega | (simp; omega)))))).mono ?_; rintro e w2 ⟨rfl, hb2⟩; have hs2 := hb2.size; (try simp only [World.size_alloc, World.size_drew, World.size_setCell] at hs2)
      go_wp2_with fail
      go_ret
      exact ⟨ret_bool HE.out.symm, by (repeat' (first | exact Below.refl _ _ | assumption | (refine Below.alloc ?_ ?_ _) | (refine Below.setCell ?_ ?_ _) | (refine Below.drew ?_) | (refine below_drewN ?_ _) | (refine below_after (Ext.below _) ?_ ?_) | (refine below_after (by assumption) ?_ ?_) | (simp; done) | omega | (simp; omega)))⟩
    | true =>
      have kS := fun w1 (h : Rd encC 3 w1 B m r) => pat_RightV (A := B) (n := m) (c := d') hr w1 h (by omega)
      have HE := Lib.hid (show nearL d l r = l.any (fun a => nearA d a r) by unfold nearL; rw [hl, hr]; rfl)
      have hl := Lib.hid hl
      have hr := Lib.hid hr
      go_enter Try.func13, Try.ntmps13
      go_wp2_with fail; go_at_call 19; refine (kR _ (hR.of (by (repeat' (first | exact Below.refl _ _ | assumption | (refine Below.alloc ?_ ?_ _) | (refine Below.setCell ?_ ?_ _) | (refine Below.drew ?_) | (refine below_drewN ?_ _) | (refine below_after (Ext.below _) ?_ ?_) | (refine below_after (by assumption) ?_ ?_) | (simp; done) | omega | (simp; omega)))))).mono ?_; rintro e w1 ⟨rfl, hb1⟩; have hs1 := hb1.size; (try simp only [World.size_alloc, World.size_drew, World.size_setCell] at hs1)
      go_wp2_with fail; go_at_call 19; refine (kS _ (hS.of (by (repeat' (first | exact Below.refl _ _ | assumption | (refine Below.alloc ?_ ?_ _) | (refine Below.setCell ?_ ?_ _) | (refine Below.drew ?_) | (refine below_drewN ?_ _) | (refine below_after (Ext.below _) ?_ ?_) | (refine below_after (by assumption) ?_ ?_) | (simp; done) | omega | (simp; omega)))))).mono ?_; rintro e w2 ⟨rfl, hb2⟩; have hs2 := hb2.size; (try simp only [World.size_alloc, World.size_drew, World.size_setCell] at hs2)
      go_wp2_with fail
      have hB2 : Below (w.heap.size + 1) (w.alloc (.cells #[.int .i64 d] 3)) w2 := by (repeat' (first | exact Below.refl _ _ | assumption | (refine Below.alloc ?_ ?_ _) | (refine Below.setCell ?_ ?_ _) | (refine Below.drew ?_) | (refine below_drewN ?_ _) | (refine below_after (Ext.below _) ?_ ?_) | (refine below_after (by assumption) ?_ ?_) | (simp; done) | omega | (simp; omega)))
      have hB0 : Below w.heap.size w w2 := by (repeat' (first | exact Below.refl _ _ | assumption | (refine Below.alloc ?_ ?_ _) | (refine Below.setCell ?_ ?_ _) | (refine Below.drew ?_) | (refine below_drewN ?_ _) | (refine below_after (Ext.below _) ?_ ?_) | (refine below_after (by assumption) ?_ ?_) | (simp; done) | omega | (simp; omega)))
      have hd2 : w2.cell? ⟨w.heap.size, 0, none⟩ = some (.int .i64 d) := by rw [hB2.cell (p := ⟨w.heap.size, 0, none⟩) (by show w.heap.size < _; omega)]; simp [cell_alloc_if]
      have hz2 : w.heap.size < w2.heap.size := by have := hB2.size; simp at this; omega
      clear hb1 hb2 hs1 hs2 hB2
      go_loopw [19] (fun i wr => ∃ j : Nat, j ≤ n ∧ i = .int .i64 j ∧ Below w2.heap.size w2 wr ∧ Hid (∀ i x, i < j → l[i]? = some x → nearA d x r = false)) (fun i _ => n - (intOf i).toNat)
      case atStart => exact ⟨0, by omega, rfl, Below.refl _ _, Lib.hid fun r x hr => absurd hr (by omega)⟩
      case round =>
        obtain ⟨j, hj, rfl, hb, hno⟩ := hrel
        have hbw : Below w.heap.size w wr := by (repeat' (first | exact Below.refl _ _ | assumption | (refine Below.alloc ?_ ?_ _) | (refine Below.setCell ?_ ?_ _) | (refine Below.drew ?_) | (refine below_drewN ?_ _) | (refine below_after (Ext.below _) ?_ ?_) | (refine below_after (by assumption) ?_ ?_) | (simp; done) | omega | (simp; omega)))
        obtain ⟨hc, hf⟩ := bcell hbw
        have hs := hb.size
        have hdr : wr.cell? ⟨w.heap.size, 0, none⟩ = some (.int .i64 d) := (hb.cell (p := ⟨w.heap.size, 0, none⟩) hz2).trans hd2
        by_cases hlt : j < n
        · have dj : decide ((j : Int) < n) = true := decide_eq_true (by omega)
          obtain ⟨x, y, s, b, o, hx, rfl, hbl, g1, g2, g3⟩ := hR.cell hlt
          have hp := (rightC_elem hl.out hx.out).1
          have kC := fun w9 (h : Rd encC 3 w9 B m r) k0 k1 k2 k3 k4 k5 => containsFunc_near B m d' r x y s d wr.heap.size w.heap.size w9 h hm hr.out hp k0 k1 k2 k3 k4 k5
          cases hq : nearA d (x, y, s) r with
          | true =>
            rw [hq] at kC
            go_wp2_with fail; go_at_call 24; refine (kC _ (hS.of (by (repeat' (first | exact Below.refl _ _ | assumption | (refine Below.alloc ?_ ?_ _) | (refine Below.setCell ?_ ?_ _) | (refine Below.drew ?_) | (refine below_drewN ?_ _) | (refine below_after (Ext.below _) ?_ ?_) | (refine below_after (by assumption) ?_ ?_) | (simp; done) | omega | (simp; omega))))) (by simp [cell_alloc_if]) (by simp [cell_alloc_if]) (by simp [cell_alloc_if]) (by rw [cell_alloc_if, if_pos (by omega)]; exact hdr) (by simp) (by simp; omega)).mono ?_; rintro e w3 ⟨rfl, hb3⟩; have hs3 := hb3.size; (try simp only [World.size_alloc, World.size_drew, World.size_setCell] at hs3)
            go_wp2_with fail
            go_ret
            exact ⟨ret_bool (by rw [HE.out]; exact (any_true hx.out hq).symm), by (repeat' (first | exact Below.refl _ _ | assumption | (refine Below.alloc ?_ ?_ _) | (refine Below.setCell ?_ ?_ _) | (refine Below.drew ?_) | (refine below_drewN ?_ _) | (refine below_after (Ext.below _) ?_ ?_) | (refine below_after (by assumption) ?_ ?_) | (simp; done) | omega | (simp; omega)))⟩
          | false =>
            rw [hq] at kC
            go_wp2_with fail; go_at_call 24; refine (kC _ (hS.of (by (repeat' (first | exact Below.refl _ _ | assumption | (refine Below.alloc ?_ ?_ _) | (refine Below.setCell ?_ ?_ _) | (refine Below.drew ?_) | (refine below_drewN ?_ _) | (refine below_after (Ext.below _) ?_ ?_) | (refine below_after (by assumption) ?_ ?_) | (simp; done) | omega | (simp; omega))))) (by simp [cell_alloc_if]) (by simp [cell_alloc_if]) (by simp [cell_alloc_if]) (by rw [cell_alloc_if, if_pos (by omega)]; exact hdr) (by simp) (by simp; omega)).mono ?_; rintro e w3 ⟨rfl, hb3⟩; have hs3 := hb3.size; (try simp only [World.size_alloc, World.size_drew, World.size_setCell] at hs3)
            go_wp2_with fail
            go_roundw
            case rel => exact ⟨j + 1, by omega, by go_num, (by (repeat' (first | exact Below.refl _ _ | assumption | (refine Below.alloc ?_ ?_ _) | (refine Below.setCell ?_ ?_ _) | (refine Below.drew ?_) | (refine below_drewN ?_ _) | (refine below_after (Ext.below _) ?_ ?_) | (refine below_after (by assumption) ?_ ?_) | (simp; done) | omega | (simp; omega)))), Lib.hid (no_step hno.out hx.out hq)⟩
            case measure => simp [intOf]; omega
        · obtain rfl : j = n := by omega
          have dj : decide ((j : Int) < j) = false := decide_eq_false (by omega)
          go_wp2_with fail
          go_ret
          exact ⟨ret_bool (by rw [HE.out]; exact (any_false hR.len hno.out).symm), hbw⟩
set_option maxHeartbeats 4000000 in
theorem ref36_Near (A B : Option Addr) (n m c d' : Nat) (l r : List (Int × Int × Int)) (d : Int) (w : World) (hR : Rd encC 3 w A n l) (hS : Rd encC 3 w B m r) (hn : n ≤ 1000000) (hm : m ≤ 1000000) :
    Calls Try.prog 14 #[.slice A n c, .slice B m d', .int .i64 d] w fun e w' => e = .returned (.bool (nearL d l r)) ∧ Below w.heap.size w w' := by
  cases hl : rightC l with
  | false =>
    have HE := Lib.hid (show nearL d l r = false by unfold nearL; rw [hl]; rfl)
    have kR := fun w1 (h : Rd encC 3 w1 A n l) => ref05_RightV (A := A) (n := n) (c := c) hl w1 h (by omega)
    clear hl
    go_enter Try.func14, Try.ntmps14
    go_wp2_with fail; go_at_call 22; refine (kR _ (hR.of (by (repeat' (first | exact Below.refl _ _ | assumption | (refine Below.alloc ?_ ?_ _) | (refine Below.setCell ?_ ?_ _) | (refine Below.drew ?_) | (refine below_drewN ?_ _) | (refine below_after (Ext.below _) ?_ ?_) | (refine below_after (by assumption) ?_ ?_) | (simp; done) | omega | (simp; omega)))))).mono ?_; rintro e w1 ⟨rfl, hb1⟩; have hs1 := hb1.size; (try simp only [World.size_alloc, World.size_drew, World.size_setCell] at hs1)
    go_wp2_with fail
    go_ret
    exact ⟨ret_bool HE.out.symm, by (repeat' (first | exact Below.refl _ _ | assumption | (refine Below.alloc ?_ ?_ _) | (refine Below.setCell ?_ ?_ _) | (refine Below.drew ?_) | (refine below_drewN ?_ _) | (refine below_after (Ext.below _) ?_ ?_) | (refine below_after (by assumption) ?_ ?_) | (simp; done) | omega | (simp; omega)))⟩
  | true =>
    have kR := fun w1 (h : Rd encC 3 w1 A n l) => ref05_RightV (A := A) (n := n) (c := c) hl w1 h (by omega)
    cases hr : rightC r with
    | false =>
      have HE := Lib.hid (show nearL d l r = false by unfold nearL; rw [hl, hr]; rfl)
      have kS := fun w1 (h : Rd encC 3 w1 B m r) => ref05_RightV (A := B) (n := m) (c := d') hr w1 h (by omega)
      clear hl hr
      go_enter Try.func14, Try.ntmps14
      go_wp2_with fail; go_at_call 22; refine (kR _ (hR.of (by (repeat' (first | exact Below.refl _ _ | assumption | (refine Below.alloc ?_ ?_ _) | (refine Below.setCell ?_ ?_ _) | (refine Below.drew ?_) | (refine below_drewN ?_ _) | (refine below_after (Ext.below _) ?_ ?_) | (refine below_after (by assumption) ?_ ?_) | (simp; done) | omega | (simp; omega)))))).mono ?_; rintro e w1 ⟨rfl, hb1⟩; have hs1 := hb1.size; (try simp only [World.size_alloc, World.size_drew, World.size_setCell] at hs1)
      go_wp2_with fail; go_at_call 22; refine (kS _ (hS.of (by (repeat' (first | exact Below.refl _ _ | assumption | (refine Below.alloc ?_ ?_ _) | (refine Below.setCell ?_ ?_ _) | (refine Below.drew ?_) | (refine below_drewN ?_ _) | (refine below_after (Ext.below _) ?_ ?_) | (refine below_after (by assumption) ?_ ?_) | (simp; done) | omega | (simp; omega)))))).mono ?_; rintro e w2 ⟨rfl, hb2⟩; have hs2 := hb2.size; (try simp only [World.size_alloc, World.size_drew, World.size_setCell] at hs2)
      go_wp2_with fail
      go_ret
      exact ⟨ret_bool HE.out.symm, by (repeat' (first | exact Below.refl _ _ | assumption | (refine Below.alloc ?_ ?_ _) | (refine Below.setCell ?_ ?_ _) | (refine Below.drew ?_) | (refine below_drewN ?_ _) | (refine below_after (Ext.below _) ?_ ?_) | (refine below_after (by assumption) ?_ ?_) | (simp; done) | omega | (simp; omega)))⟩
    | true =>
      have kS := fun w1 (h : Rd encC 3 w1 B m r) => ref05_RightV (A := B) (n := m) (c := d') hr w1 h (by omega)
      have HE := Lib.hid (show nearL d l r = l.any (fun a => nearA d a r) by unfold nearL; rw [hl, hr]; rfl)
      have hl := Lib.hid hl
      have hr := Lib.hid hr
      go_enter Try.func14, Try.ntmps14
      go_wp2_with fail; go_at_call 22; refine (kR _ (hR.of (by (repeat' (first | exact Below.refl _ _ | assumption | (refine Below.alloc ?_ ?_ _) | (refine Below.setCell ?_ ?_ _) | (refine Below.drew ?_) | (refine below_drewN ?_ _) | (refine below_after (Ext.below _) ?_ ?_) | (refine below_after (by assumption) ?_ ?_) | (simp; done) | omega | (simp; omega)))))).mono ?_; rintro e w1 ⟨rfl, hb1⟩; have hs1 := hb1.size; (try simp only [World.size_alloc, World.size_drew, World.size_setCell] at hs1)
      go_wp2_with fail; go_at_call 22; refine (kS _ (hS.of (by (repeat' (first | exact Below.refl _ _ | assumption | (refine Below.alloc ?_ ?_ _) | (refine Below.setCell ?_ ?_ _) | (refine Below.drew ?_) | (refine below_drewN ?_ _) | (refine below_after (Ext.below _) ?_ ?_) | (refine below_after (by assumption) ?_ ?_) | (simp; done) | omega | (simp; omega)))))).mono ?_; rintro e w2 ⟨rfl, hb2⟩; have hs2 := hb2.size; (try simp only [World.size_alloc, World.size_drew, World.size_setCell] at hs2)
      go_wp2_with fail
      have hB0 : Below w.heap.size w w2 := by (repeat' (first | exact Below.refl _ _ | assumption | (refine Below.alloc ?_ ?_ _) | (refine Below.setCell ?_ ?_ _) | (refine Below.drew ?_) | (refine below_drewN ?_ _) | (refine below_after (Ext.below _) ?_ ?_) | (refine below_after (by assumption) ?_ ?_) | (simp; done) | omega | (simp; omega)))
      clear hb1 hb2 hs1 hs2
      go_loopw [7] (fun i wr => ∃ j : Nat, j ≤ n ∧ i = .int .i64 j ∧ Below w.heap.size w wr ∧ Hid (∀ i x, i < j → l[i]? = some x → nearA d x r = false)) (fun i _ => n - (intOf i).toNat)
      case atStart => exact ⟨0, by omega, rfl, hB0, Lib.hid fun r x hr => absurd hr (by omega)⟩
      case round =>
        clear hB0
        obtain ⟨j, hj, rfl, hb, hno⟩ := hrel
        by_cases hlt : j < n
        · have dj : decide ((j : Int) < n) = true := decide_eq_true (by omega)
          obtain ⟨x, y, s, b, o, hx, rfl, hbl, g1, g2, g3⟩ := hR.cell hlt
          have hp := (rightC_elem hl.out hx.out).1
          go_wp2
          go_loopw [8] (fun i wq => ∃ k : Nat, k ≤ m ∧ i = .int .i64 k ∧ Below w.heap.size w wq ∧ Hid (∀ i z, i < k → r[i]? = some z → nrD d (x, y, s) z = false)) (fun i _ => m - (intOf i).toNat)
          case atStart => exact ⟨0, by omega, rfl, hb, Lib.hid fun r x hr => absurd hr (by omega)⟩
          case round =>
            clear hb
            obtain ⟨k, hk, rfl, hb, hnk⟩ := hrel
            obtain ⟨hc, hf⟩ := bcell hb
            have hs := hb.size
            by_cases hlk : k < m
            · have dk : decide ((k : Int) < m) = true := decide_eq_true (by omega)
              obtain ⟨x', y', s', b', o', hx', rfl, hbl', g1', g2', g3'⟩ := hS.cell hlk
              have hp' := (rightC_elem hr.out hx'.out).1
              have kD := fun w9 => ref36_distance x y s x' y' s' w9 hp hp'
              cases hq : nrD d (x, y, s) (x', y', s') with
              | true =>
                have dd : decide (dstD (x, y, s) (x', y', s') ≤ d) = true := by rw [dstD_nr]; exact hq
                generalize dstD (x, y, s) (x', y', s') = v at kD dd
                go_wp2_with fail
                (refine wp_region_ext_lit (by kernel_rfl) (by kernel_rfl) ?_; (repeat (go_big_quiet_step ((go_at_call 23; exact calls_ext (kD _))))); refine wpQuiet_nil ?_; intro _ hw'; obtain ⟨z3, hw''⟩ := hw'; subst hw''; have hs3 := z3.size; obtain ⟨hc3, hf3⟩ := bcell z3.below; (try simp only [World.size_alloc, World.size_setCell, World.size_drew] at hc3 hf3); (try simp at hs3))
                go_wp2_with fail
                go_ret
                exact ⟨ret_bool (by rw [HE.out]; exact (any_true (p := fun a => nearA d a r) hx.out (any_true hx'.out hq)).symm), by (repeat' (first | exact Below.refl _ _ | assumption | (refine Below.alloc ?_ ?_ _) | (refine Below.setCell ?_ ?_ _) | (refine Below.drew ?_) | (refine below_drewN ?_ _) | (refine below_after (Ext.below _) ?_ ?_) | (refine below_after (by assumption) ?_ ?_) | (simp; done) | omega | (simp; omega)))⟩
              | false =>
                have dd : decide (dstD (x, y, s) (x', y', s') ≤ d) = false := by rw [dstD_nr]; exact hq
                generalize dstD (x, y, s) (x', y', s') = v at kD dd
                go_wp2_with fail
                (refine wp_region_ext_lit (by kernel_rfl) (by kernel_rfl) ?_; (repeat (go_big_quiet_step ((go_at_call 23; exact calls_ext (kD _))))); refine wpQuiet_nil ?_; intro _ hw'; obtain ⟨z3, hw''⟩ := hw'; subst hw''; have hs3 := z3.size; obtain ⟨hc3, hf3⟩ := bcell z3.below; (try simp only [World.size_alloc, World.size_setCell, World.size_drew] at hc3 hf3); (try simp at hs3))
                go_wp2_with fail
                go_roundw
                case rel => exact ⟨k + 1, by omega, by go_num, (by (repeat' (first | exact Below.refl _ _ | assumption | (refine Below.alloc ?_ ?_ _) | (refine Below.setCell ?_ ?_ _) | (refine Below.drew ?_) | (refine below_drewN ?_ _) | (refine below_after (Ext.below _) ?_ ?_) | (refine below_after (by assumption) ?_ ?_) | (simp; done) | omega | (simp; omega)))), Lib.hid (no_step hnk.out hx'.out hq)⟩
                case measure => simp [intOf]; omega
            · obtain rfl : k = m := by omega
              have dk : decide ((k : Int) < k) = false := decide_eq_false (by omega)
              go_wp2_with fail
              go_roundw
              case rel => exact ⟨j + 1, by omega, by go_num, hb, Lib.hid (no_step hno.out hx.out (any_false hS.len hnk.out))⟩
              case measure => simp [intOf]; omega
        · obtain rfl : j = n := by omega
          have dj : decide ((j : Int) < j) = false := decide_eq_false (by omega)
          go_wp2_with fail
          go_ret
          exact ⟨ret_bool (by rw [HE.out]; exact (any_false hR.len hno.out).symm), hb⟩
end Go.Proofs.Ytenckggfgbkfnaa
