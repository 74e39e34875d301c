/- The tree of a rule by counts of two states on nine positions, and the reduction of a tree, as the references make them. Plain. The contracts of the small functions of the references 13 and 14: Has, Next, ascending, same. The reference's walk of a tree's classes: its state, plain. The fixed examples of chapter 54: what they come to. Plain. Slices whose elements lead to memory, where the elements' blocks keep away from blocks that are still written. Over any program. -/
import Derived.Test.YtfdihjjnlmhibaaGreatPLN
import Derived.Test.YtfdihjjnlmhibaaGreatProg
import Derived.Test.YtfdihjjnlmhibaaGreatMEM
set_option linter.unusedSimpArgs false
set_option linter.unusedVariables false
section
namespace Go.Proofs.YtfdihjjnlmhibaaGreat
open Go
abbrev Nd := Int × List Int
def nxS (B S : List Int) (s c : Nat) : Int := if s = 0 then (if (c : Int) ∈ B then 1 else 0) else if (c : Int) ∈ S then 1 else 0
def bl0 (B S : List Int) (j : Nat) : List Int := (List.range j).map fun q => nxS B S (q % 2) (q / 2)
theorem bl0_succ (B S : List Int) (c s : Nat) (h : s < 2) : bl0 B S (2 * c + s + 1) = bl0 B S (2 * c + s) ++ [nxS B S s c] := by
  unfold bl0
  rw [List.range_succ, List.map_append]
  simp only [List.map_cons, List.map_nil]
  rw [show (2 * c + s) % 2 = s by omega, show (2 * c + s) / 2 = c by omega]
def ixB (i c s v : Nat) : Nat := if i = 4 then 2 * c + v else if v = 1 then 2 * (c + 1) + s else 2 * c + s
def ndA (i c s : Nat) (b : List Int) : Nd := ((9 - i : Nat), [b.getD (ixB i c s 0) 0, b.getD (ixB i c s 1) 0])
def lvN (i : Nat) (b : List Int) (j : Nat) : List Nd := (List.range j).map fun q => ndA i (q / 2) (q % 2) b
def lvH (T j : Nat) : List Int := (List.range j).map fun q => ((T + q : Nat) : Int)
theorem lvN_succ (i c s : Nat) (b : List Int) (h : s < 2) : lvN i b (2 * c + s + 1) = lvN i b (2 * c + s) ++ [ndA i c s b] := by
  unfold lvN
  rw [List.range_succ, List.map_append]
  simp only [List.map_cons, List.map_nil]
  rw [show (2 * c + s) % 2 = s by omega, show (2 * c + s) / 2 = c by omega]
theorem lvH_succ (T j : Nat) : lvH T (j + 1) = lvH T j ++ [((T + j : Nat) : Int)] := by
  unfold lvH
  rw [List.range_succ, List.map_append]; rfl
theorem lvN_len (i : Nat) (b : List Int) (j : Nat) : (lvN i b j).length = j := by unfold lvN; simp
theorem lvH_len (T j : Nat) : (lvH T j).length = j := by unfold lvH; simp
def ndK (B S : List Int) : Nat → List Nd × List Int
  | 0 => ([], bl0 B S 20)
  | k + 1 => ((ndK B S k).1 ++ lvN (8 - k) (ndK B S k).2 (2 * (8 - k + 1)), lvH (ndK B S k).1.length (2 * (8 - k + 1)))
theorem ndK_below (B S : List Int) (k : Nat) (h : k ≤ 9) : (ndK B S k).2.length = 2 * (10 - k) := by
  cases k with
  | zero => simp [ndK, bl0]
  | succ k => simp only [ndK, lvH_len]; omega
theorem ndK_len (B S : List Int) (k : Nat) (h : k ≤ 9) : (ndK B S k).1.length ≤ 18 * k := by
  induction k with
  | zero => simp [ndK]
  | succ k ih => have := ih (by omega); simp only [ndK, List.length_append, lvN_len]; omega
def totN (B S : List Int) : List Nd := (ndK B S 9).1.take 89
def fsF (p : Nat → Bool) (i : Nat) : Nat → Nat
  | 0 => i
  | d + 1 => if p (i - (d + 1)) then i - (d + 1) else fsF p i d
theorem fsF_le (p : Nat → Bool) (i d : Nat) : fsF p i d ≤ i := by
  induction d with
  | zero => exact Nat.le_refl _
  | succ d ih => unfold fsF; split <;> omega
def nxt1 (cls : List Int) (x : Nd) : List Int := if 1 < x.1 then x.2.map (fun k => cls.getD k.toNat 0) else x.2
def sameN (l : List Nd) (xs : List (List Int)) (x : Nd) (nx : List Int) (j : Nat) : Bool := decide ((l.getD j (0, [])).1 = x.1) && decide (xs.getD j [] = nx)
def clsK (l : List Nd) : Nat → List Int × List (List Int)
  | 0 => ([], [])
  | i + 1 => ((clsK l i).1 ++ [((fsF (sameN l (clsK l i).2 (l.getD i (0, [])) (nxt1 (clsK l i).1 (l.getD i (0, [])))) i i : Nat) : Int)], (clsK l i).2 ++ [nxt1 (clsK l i).1 (l.getD i (0, []))])
theorem clsK_len (l : List Nd) (i : Nat) : (clsK l i).1.length = i ∧ (clsK l i).2.length = i := by
  induction i with
  | zero => exact ⟨rfl, rfl⟩
  | succ i ih => simp [clsK, ih.1, ih.2]
def wkS (l : List Nd) (cls : List Int) (W : Nat → List Int × List Nd → List Int × List Nd) (x : Nd) (st : (List Int × List Nd) × List Int) (k : Int) : (List Int × List Nd) × List Int :=
  if 1 < x.1 then (W (cls.getD k.toNat 0).toNat st.1, st.2 ++ [(W (cls.getD k.toNat 0).toNat st.1).1.getD (cls.getD k.toNat 0).toNat 0]) else (st.1, st.2 ++ [k])
def wkP (l : List Nd) (cls : List Int) : Nat → Nat → List Int × List Nd → List Int × List Nd
  | 0, _, s => s
  | f + 1, i, s => if 0 ≤ s.1.getD i 0 then s else
    let r := (l.getD i (0, [])).2.foldl (wkS l cls (wkP l cls f) (l.getD i (0, []))) (s, [])
    (r.1.1.set i r.1.2.length, r.1.2 ++ [((l.getD i (0, [])).1, r.2)])
def redN (l : List Nd) : List Nd := (wkP l (clsK l l.length).1 l.length ((clsK l l.length).1.getD (l.length - 1) 0).toNat (List.replicate l.length (-1), [])).2
theorem cls_le (l : List Nd) : ∀ i j, j < i → 0 ≤ (clsK l i).1.getD j 0 ∧ ((clsK l i).1.getD j 0).toNat ≤ j := by
  intro i
  induction i with
  | zero => intro j h; omega
  | succ i ih =>
    intro j h
    have hl := (clsK_len l i).1
    simp only [clsK]
    by_cases hj : j < i
    · rw [List.getD_eq_getElem?_getD, List.getElem?_append_left (by omega), ← List.getD_eq_getElem?_getD]; exact ih j hj
    · obtain rfl : j = i := by omega
      rw [List.getD_eq_getElem?_getD, List.getElem?_append_right (by omega), hl, Nat.sub_self]
      have := fsF_le (sameN l (clsK l j).2 (l.getD j (0, [])) (nxt1 (clsK l j).1 (l.getD j (0, [])))) j j
      simp only [List.getElem?_cons_zero, Option.getD_some]
      omega
def lifeN : List Nd := redN (totN [3] [2, 3])
end Go.Proofs.YtfdihjjnlmhibaaGreat
end
section
namespace Go.Proofs.YtfdihjjnlmhibaaGreat
open Go Go.RowKit
set_option maxRecDepth 100000
set_option linter.unusedSimpArgs false
set_option linter.unusedVariables false
def hasN (l : List Int) (x : Int) : Bool := decide (x ∈ l)
set_option maxHeartbeats 2000000 in
theorem ref14_Has (A : Option Addr) (n c : Nat) (l : List Int) (x : Int) (w : World) (hR : Rd encI 1 w A n l) (hn : n ≤ 1000000) :
    Calls Tryz.prog 60 #[.slice A n c, .int .i64 x] w fun e w' => e = .returned (.bool (hasN l x)) ∧ w = w' := by
  have hRl := Lib.hid hR.len
  have s1 := Lib.hid (show x ∈ l → hasN l x = true from fun h => decide_eq_true h)
  have s0 := Lib.hid (show x ∉ l → hasN l x = false from fun h => decide_eq_false h)
  generalize hasN l x = q at s0 s1 ⊢
  go_enter Tryz.func60, Tryz.ntmps60
  go_wp2_with fail
  go_loop [5] (fun t => ∃ j : Nat, t = .int .i64 j ∧ j ≤ n ∧ Hid (∀ (i : Nat) y, i < j → l[i]? = some y → y ≠ x)) (fun t => n - (intOf t).toNat)
  case atStart => exact ⟨0, rfl, by omega, Lib.hid fun i y hi => absurd hi (by omega)⟩
  case round =>
    obtain ⟨j, rfl, hj, hok⟩ := hrel
    by_cases hlj : j < n
    · have dj : decide ((j : Int) < n) = true := decide_eq_true (by omega)
      have dj' : decide (j < n) = true := decide_eq_true hlj
      obtain ⟨y, b1, o1, hx, rfl, hb1, g1⟩ := hR.int hlj
      have i0 : (0 : Int) ≤ (j : Int) := by omega
      have i1 : (j : Int) < (n : Int) := by omega
      by_cases hxy : y = x
      · have t1 : (y == x) = true := by simpa using hxy
        have hE := Lib.hid (s1.out (by rw [← hxy]; exact List.mem_of_getElem? hx.out))
        clear hxy
        go_wp2_with fail
        go_ret
        exact ⟨ret_bool hE.out.symm, rfl⟩
      · have t1 : (y == x) = false := by simpa using hxy
        have hst := Lib.hid (show ∀ (i : Nat) z, i < j + 1 → l[i]? = some z → z ≠ x from fun i z hi hz => by
          by_cases e : i = j
          · subst e; rw [hx.out] at hz; injection hz with hz; rw [← hz]; exact hxy
          · exact hok.out i z (by omega) hz)
        clear hxy
        go_wp2_with fail
        go_round
        case rel => exact ⟨j + 1, by go_num, by omega, hst⟩
        case measure => simp [intOf]; omega
    · obtain rfl : j = n := by omega
      have dj : decide ((j : Int) < j) = false := decide_eq_false (by omega)
      have dj' : decide (j < j) = false := decide_eq_false (by omega)
      have hE := Lib.hid (s0.out (fun h => by
        obtain ⟨i, hi, e⟩ := List.getElem_of_mem h
        exact hok.out i _ (by rw [hRl.out] at hi; exact hi) (List.getElem?_eq_getElem hi) e))
      go_wp2_with fail
      go_ret
      exact ⟨ret_bool hE.out.symm, rfl⟩
theorem nxS_zero (B S : List Int) (c : Nat) : nxS B S 0 c = if hasN B c then 1 else 0 := by unfold nxS hasN; simp
theorem nxS_one (B S : List Int) (c : Nat) : nxS B S 1 c = if hasN S c then 1 else 0 := by unfold nxS hasN; simp
set_option maxHeartbeats 2000000 in
theorem ref14_Next (A B C : Option Addr) (n c m d k e : Nat) (bl sl : List Int) (s q : Nat) (w : World) (hB : Rd encI 1 w B m bl) (hS : Rd encI 1 w C k sl) (hs : s < 2) (hm : m ≤ 1000000) (hk : k ≤ 1000000) :
    Calls Tryz.prog 33 #[.agg #[.slice A n c, .int .i64 2, .slice B m d, .slice C k e], .int .i64 (s : Int), .int .i64 (q : Int)] w fun e w' => e = .returned (.int .i64 (nxS bl sl s q)) ∧ Below w.heap.size w w' := by
  have kB := fun w1 h => ref14_Has B m d bl q w1 h hm
  have kC := fun w1 h => ref14_Has C k e sl q w1 h hk
  rcases (show s = 0 ∨ s = 1 by omega) with rfl | rfl
  · rw [nxS_zero]
    generalize hasN bl q = u at kB ⊢
    clear kC
    cases u
    all_goals
      go_enter Tryz.func33, Tryz.ntmps33
      go_wp2_with fail
      go_at_call 60
      refine (kB _ (hB.of (by (repeat' (first | exact Below.refl _ _ | assumption | (refine Below.alloc ?_ ?_ _) | (refine Below.setCell ?_ ?_ _) | (refine Below.drew ?_) | (refine below_drewN ?_ _) | (refine below_after (Ext.below _) ?_ ?_) | (refine below_after (by assumption) ?_ ?_) | (simp; done) | omega | (simp; omega)))))).mono ?_
      rintro e1 w1 ⟨rfl, rfl⟩
      go_wp2_with fail
      go_ret
      exact ⟨rfl, by (repeat' (first | exact Below.refl _ _ | assumption | (refine Below.alloc ?_ ?_ _) | (refine Below.setCell ?_ ?_ _) | (refine Below.drew ?_) | (refine below_drewN ?_ _) | (refine below_after (Ext.below _) ?_ ?_) | (refine below_after (by assumption) ?_ ?_) | (simp; done) | omega | (simp; omega)))⟩
  · rw [nxS_one]
    generalize hasN sl q = u at kC ⊢
    clear kB
    cases u
    all_goals
      go_enter Tryz.func33, Tryz.ntmps33
      go_wp2_with fail
      go_at_call 60
      refine (kC _ (hS.of (by (repeat' (first | exact Below.refl _ _ | assumption | (refine Below.alloc ?_ ?_ _) | (refine Below.setCell ?_ ?_ _) | (refine Below.drew ?_) | (refine below_drewN ?_ _) | (refine below_after (Ext.below _) ?_ ?_) | (refine below_after (by assumption) ?_ ?_) | (simp; done) | omega | (simp; omega)))))).mono ?_
      rintro e1 w1 ⟨rfl, rfl⟩
      go_wp2_with fail
      go_ret
      exact ⟨rfl, by (repeat' (first | exact Below.refl _ _ | assumption | (refine Below.alloc ?_ ?_ _) | (refine Below.setCell ?_ ?_ _) | (refine Below.drew ?_) | (refine below_drewN ?_ _) | (refine below_after (Ext.below _) ?_ ?_) | (refine below_after (by assumption) ?_ ?_) | (simp; done) | omega | (simp; omega)))⟩
set_option maxHeartbeats 4000000 in
theorem ref14_ascending (A : Option Addr) (n c : Nat) (l : List Int) (x : Int) (w : World) (hR : Rd encI 1 w A n l) (hn : n ≤ 1000000) (h1 : ∀ (i : Nat) y, l[i]? = some y → 0 ≤ y ∧ y ≤ x) (h2 : ∀ (i : Nat) y z, l[i]? = some y → l[i + 1]? = some z → y < z) :
    Calls Tryz.prog 59 #[.slice A n c, .int .i64 x] w fun e w' => e = .returned (.bool true) ∧ Below w.heap.size w w' := by
  have H1 := Lib.hid h1
  have H2 := Lib.hid h2
  clear h1 h2
  go_enter Tryz.func59, Tryz.ntmps59
  go_wp2_with fail
  go_loopw [5] (fun t wr => ∃ j : Nat, t = .int .i64 j ∧ j ≤ n ∧ Below w.heap.size w wr) (fun t _ => n - (intOf t).toNat)
  case atStart => exact ⟨0, rfl, by omega, Below.refl _ _⟩
  case round =>
    obtain ⟨j, rfl, hj, hb⟩ := hrel
    have hsz := hb.size
    by_cases hlj : j < n
    · have dj : decide ((j : Int) < n) = true := decide_eq_true (by omega)
      have dj' : decide (j < n) = true := decide_eq_true hlj
      have hRw := hR.of hb
      obtain ⟨y, b1, o1, hx, rfl, hb1, g1⟩ := hRw.int hlj
      have i0 : (0 : Int) ≤ (j : Int) := by omega
      have i1 : (j : Int) < (n : Int) := by omega
      have hy := H1.out j y hx.out
      have t1 : decide (y < 0) = false := decide_eq_false (by omega)
      have t2 : decide (x < y) = false := decide_eq_false (by omega)
      rcases Nat.eq_zero_or_pos j with rfl | hj0
      · have t3 : decide (((0 : Nat) : Int) > 0) = false := rfl
        have t4 : decide ((0 : Int) < ((0 : Nat) : Int)) = false := rfl
        rw [Nat.add_zero] at g1
        clear hy
        go_wp2_with fail
        (refine wp_region_ext_lit (by kernel_rfl) (by kernel_rfl) ?_; (repeat (go_big_quiet_step (fail))); refine wpQuiet_nil ?_; intro _ hw'; obtain ⟨z3, hw''⟩ := hw'; subst hw''; have hs3 := z3.size; obtain ⟨hc3, hf3⟩ := bcell z3.below; (try simp only [World.size_alloc, World.size_setCell, World.size_drew] at hc3 hf3); (try simp at hs3))
        go_wp2_with fail
        go_roundw
        case rel => exact ⟨1, by go_num, by omega, by (repeat' (first | exact Below.refl _ _ | assumption | (refine Below.alloc ?_ ?_ _) | (refine Below.setCell ?_ ?_ _) | (refine Below.drew ?_) | (refine below_drewN ?_ _) | (refine below_after (Ext.below _) ?_ ?_) | (refine below_after (by assumption) ?_ ?_) | (simp; done) | omega | (simp; omega)))⟩
        case measure => simp [intOf]; omega
      · obtain ⟨i, rfl⟩ : ∃ i, j = i + 1 := ⟨j - 1, by omega⟩
        obtain ⟨z, b2, o2, hz, he, hb2, g2⟩ := hRw.int (i := i) (by omega)
        injection he with he
        injection he with he1 he2
        subst he1 he2
        have hyz := H2.out i z y hz.out hx.out
        have t3 : decide ((0 : Int) < ((i + 1 : Nat) : Int)) = true := decide_eq_true (by omega)
        have t4 : decide (y ≤ z) = false := decide_eq_false (by omega)
        have t5 : IntKind.i64.wrap (((i + 1 : Nat) : Int) - 1) = (i : Int) := by rw [IntWalk.i64_in _ (by omega)]; omega
        have t6 : decide (0 < i + 1) = true := decide_eq_true (by omega)
        have i2 : (i : Int) < (n : Int) := by omega
        have i3 : (0 : Int) ≤ (i : Int) := by omega
        clear hy hyz hx hz
        go_wp2_with fail
        (refine wp_region_ext_lit (by kernel_rfl) (by kernel_rfl) ?_; (repeat (go_big_quiet_step (fail))); refine wpQuiet_nil ?_; intro _ hw'; obtain ⟨z3, hw''⟩ := hw'; subst hw''; have hs3 := z3.size; obtain ⟨hc3, hf3⟩ := bcell z3.below; (try simp only [World.size_alloc, World.size_setCell, World.size_drew] at hc3 hf3); (try simp at hs3))
        go_wp2_with fail
        go_roundw
        case rel => exact ⟨i + 2, by go_num, by omega, by (repeat' (first | exact Below.refl _ _ | assumption | (refine Below.alloc ?_ ?_ _) | (refine Below.setCell ?_ ?_ _) | (refine Below.drew ?_) | (refine below_drewN ?_ _) | (refine below_after (Ext.below _) ?_ ?_) | (refine below_after (by assumption) ?_ ?_) | (simp; done) | omega | (simp; omega)))⟩
        case measure => simp [intOf]; omega
    · obtain rfl : j = n := by omega
      have dj : decide ((j : Int) < j) = false := decide_eq_false (by omega)
      have dj' : decide (j < j) = false := decide_eq_false (by omega)
      go_wp2_with fail
      go_ret
      exact ⟨rfl, hb⟩
set_option maxHeartbeats 4000000 in
theorem ref13_same (A B : Option Addr) (n m c d : Nat) (l r : List Int) (w : World) (hR : Rd encI 1 w A n l) (hS : Rd encI 1 w B m r) (hn : n ≤ 1000000) (hm : m ≤ 1000000) :
    Calls Tryz.prog 106 #[.slice A n c, .slice B m d] w fun e w' => e = .returned (.bool (sameL l r)) ∧ Below w.heap.size w w' := by
  have hl := hR.len
  have hr := hS.len
  have s0 := Lib.hid (show l ≠ r → sameL l r = false from fun h => by unfold sameL; exact decide_eq_false h)
  have s1 := Lib.hid (show l = r → sameL l r = true from fun h => by unfold sameL; exact decide_eq_true h)
  generalize sameL l r = q at s0 s1 ⊢
  by_cases hnm : n = m
  · subst hnm
    have t0 : ((n : Int) != (n : Int)) = false := by simp
    replace hl := Lib.hid hl
    replace hr := Lib.hid hr
    go_enter Tryz.func106, Tryz.ntmps106
    go_wp2_with fail
    go_loopw [5] (fun t wr => ∃ j : Nat, t = .int .i64 j ∧ j ≤ n ∧ Hid (∀ i, i < j → l[i]? = r[i]?) ∧ Below w.heap.size w wr) (fun t _ => n - (intOf t).toNat)
    case atStart => exact ⟨0, rfl, by omega, Lib.hid (fun i hi => absurd hi (by omega)), Below.refl _ _⟩
    case round =>
      obtain ⟨j, rfl, hj, hal, hb⟩ := hrel
      have hsz := hb.size
      by_cases hlj : j < n
      · have dj : decide ((j : Int) < n) = true := decide_eq_true (by omega)
        have dj' : decide (j < n) = true := decide_eq_true hlj
        obtain ⟨x, b1, o1, hx, rfl, hb1, g1⟩ := (hR.of hb).int hlj
        obtain ⟨y, b2, o2, hy, rfl, hb2, g2⟩ := (hS.of hb).int hlj
        have i0 : (0 : Int) ≤ (j : Int) := by omega
        have i1 : (j : Int) < (n : Int) := by omega
        by_cases hxy : x = y
        · have t1 : (x != y) = false := by simpa using hxy
          have hst := Lib.hid (show ∀ i, i < j + 1 → l[i]? = r[i]? from fun i hi => by
            by_cases e : i = j
            · subst e; rw [hx.out, hy.out, hxy]
            · exact hal.out i (by omega))
          clear hxy
          go_wp2_with fail
          (refine wp_region_ext_lit (by kernel_rfl) (by kernel_rfl) ?_; (repeat (go_big_quiet_step (fail))); refine wpQuiet_nil ?_; intro _ hw'; obtain ⟨z3, hw''⟩ := hw'; subst hw''; have hs3 := z3.size; obtain ⟨hc3, hf3⟩ := bcell z3.below; (try simp only [World.size_alloc, World.size_setCell, World.size_drew] at hc3 hf3); (try simp at hs3))
          go_wp2_with fail
          go_roundw
          case rel => exact ⟨j + 1, by go_num, by omega, hst, by (repeat' (first | exact Below.refl _ _ | assumption | (refine Below.alloc ?_ ?_ _) | (refine Below.setCell ?_ ?_ _) | (refine Below.drew ?_) | (refine below_drewN ?_ _) | (refine below_after (Ext.below _) ?_ ?_) | (refine below_after (by assumption) ?_ ?_) | (simp; done) | omega | (simp; omega)))⟩
          case measure => simp [intOf]; omega
        · have t1 : (x != y) = true := by simpa using hxy
          have hE := Lib.hid (s0.out (fun e => hxy (by have := hx.out; rw [e, hy.out] at this; injection this with this; exact this.symm)))
          clear hxy
          go_wp2_with fail
          (refine wp_region_ext_lit (by kernel_rfl) (by kernel_rfl) ?_; (repeat (go_big_quiet_step (fail))); refine wpQuiet_nil ?_; intro _ hw'; obtain ⟨z3, hw''⟩ := hw'; subst hw''; have hs3 := z3.size; obtain ⟨hc3, hf3⟩ := bcell z3.below; (try simp only [World.size_alloc, World.size_setCell, World.size_drew] at hc3 hf3); (try simp at hs3))
          go_wp2_with fail
          go_ret
          exact ⟨ret_bool hE.out.symm, by (repeat' (first | exact Below.refl _ _ | assumption | (refine Below.alloc ?_ ?_ _) | (refine Below.setCell ?_ ?_ _) | (refine Below.drew ?_) | (refine below_drewN ?_ _) | (refine below_after (Ext.below _) ?_ ?_) | (refine below_after (by assumption) ?_ ?_) | (simp; done) | omega | (simp; omega)))⟩
      · obtain rfl : j = n := by omega
        have dj : decide ((j : Int) < j) = false := decide_eq_false (by omega)
        have dj' : decide (j < j) = false := decide_eq_false (by omega)
        have hE := Lib.hid (s1.out (List.ext_getElem? fun i => by
          by_cases h : i < j
          · exact hal.out i h
          · rw [List.getElem?_eq_none (by rw [hl.out]; omega), List.getElem?_eq_none (by rw [hr.out]; omega)]))
        go_wp2_with fail
        go_ret
        exact ⟨ret_bool hE.out.symm, by (repeat' (first | exact Below.refl _ _ | assumption | (refine Below.alloc ?_ ?_ _) | (refine Below.setCell ?_ ?_ _) | (refine Below.drew ?_) | (refine below_drewN ?_ _) | (refine below_after (Ext.below _) ?_ ?_) | (refine below_after (by assumption) ?_ ?_) | (simp; done) | omega | (simp; omega)))⟩
  · have hE := Lib.hid (s0.out (fun e => hnm (by rw [← hl, e, hr])))
    have t0 : ((n : Int) != (m : Int)) = true := by simp only [bne_iff_ne, ne_eq]; omega
    clear hl hr
    go_enter Tryz.func106, Tryz.ntmps106
    go_wp2_with fail
    go_ret
    exact ⟨ret_bool hE.out.symm, Below.refl _ _⟩
end Go.Proofs.YtfdihjjnlmhibaaGreat
end
section
namespace Go.Proofs.YtfdihjjnlmhibaaGreat
open Go
/-- How many numbers are still open. -/
def ngN (dn : List Int) : Nat := dn.countP (fun x => decide (x < 0))
theorem ngN_set {dn : List Int} {i : Nat} {v : Int} (hi : i < dn.length) (h0 : dn.getD i 0 < 0) (hv : 0 ≤ v) : ngN (dn.set i v) + 1 = ngN dn := by
  unfold ngN
  induction dn generalizing i with
  | nil => simp at hi
  | cons a t ih =>
    cases i with
    | zero =>
      have ha : a < 0 := h0
      simp [List.set, List.countP_cons, ha, show ¬ v < 0 by omega]
    | succ i =>
      have h1 := ih (i := i) (by simpa using hi) (by simpa [List.getD_eq_getElem?_getD] using h0)
      simp only [List.set_cons_succ, List.countP_cons]
      omega
theorem getD_setne {dn : List Int} {i j : Nat} {v : Int} (h : i ≠ j) : (dn.set i v).getD j 0 = dn.getD j 0 := by
  rw [List.getD_eq_getElem?_getD, List.getElem?_set_ne h, ← List.getD_eq_getElem?_getD]
/-- What a walk to i keeps: the open numbers and the nodes together, and all numbers behind i. -/
def WkK (i : Nat) (s r : List Int × List Nd) : Prop := r.1.length = s.1.length ∧ r.2.length + ngN r.1 = s.2.length + ngN s.1 ∧ ∀ j, i < j → r.1.getD j 0 = s.1.getD j 0
theorem WkK.refl (i : Nat) (s : List Int × List Nd) : WkK i s s := ⟨rfl, rfl, fun _ _ => rfl⟩
theorem WkK.trans {i i' : Nat} {s r q : List Int × List Nd} (h : WkK i s r) (k : WkK i' r q) (hi : i' ≤ i) : WkK i s q := ⟨k.1.trans h.1, k.2.1.trans h.2.1, fun j hj => (k.2.2 j (by omega)).trans (h.2.2 j hj)⟩
def DagN (l : List Nd) (cls : List Int) : Prop := ∀ (i : Nat) (x : Nd), l[i]? = some x → 1 < x.1 → ∀ k ∈ x.2, 0 ≤ k ∧ k.toNat < i ∧ 0 ≤ cls.getD k.toNat 0 ∧ (cls.getD k.toNat 0).toNat < i
/-- The fold over a node's elements. -/
def wkF (l : List Nd) (cls : List Int) (f : Nat) (x : Nd) (s : List Int × List Nd) (t : Nat) : (List Int × List Nd) × List Int := (x.2.take t).foldl (wkS l cls (wkP l cls f) x) (s, [])
theorem wkF_step {l : List Nd} {cls : List Int} {f : Nat} {x : Nd} {s : List Int × List Nd} {t : Nat} {k : Int} (h : x.2[t]? = some k) : wkF l cls f x s (t + 1) = wkS l cls (wkP l cls f) x (wkF l cls f x s t) k := by
  unfold wkF
  rw [List.take_add_one, h, List.foldl_append]; rfl
theorem wkP_succ {l : List Nd} {cls : List Int} {f i : Nat} {s : List Int × List Nd} {x : Nd} (hx : l[i]? = some x) (h : s.1.getD i 0 < 0) :
    wkP l cls (f + 1) i s = ((wkF l cls f x s x.2.length).1.1.set i (wkF l cls f x s x.2.length).1.2.length, (wkF l cls f x s x.2.length).1.2 ++ [(x.1, (wkF l cls f x s x.2.length).2)]) := by
  unfold wkF
  rw [wkP, if_neg (by omega), show l.getD i (0, []) = x by rw [List.getD_eq_getElem?_getD, hx]; rfl, List.take_length]
theorem wkP_old {l : List Nd} {cls : List Int} {f i : Nat} {s : List Int × List Nd} (h : 0 ≤ s.1.getD i 0) : wkP l cls (f + 1) i s = s := by
  rw [wkP, if_pos h]
theorem wk_kept {l : List Nd} {cls : List Int} (hd : DagN l cls) : ∀ (f i : Nat) (s : List Int × List Nd), i < f → i < l.length → s.1.length = l.length → WkK i s (wkP l cls f i s)
  | 0, i, s, hf, _, _ => absurd hf (by omega)
  | f + 1, i, s, hf, hi, hs => by
    by_cases h0 : 0 ≤ s.1.getD i 0
    · rw [wkP_old h0]; exact WkK.refl _ _
    · have hx : l[i]? = some l[i] := List.getElem?_eq_getElem hi
      generalize l[i] = x at hx
      rw [wkP_succ hx (by omega)]
      have key : ∀ t, t ≤ x.2.length → WkK (i - 1) s (wkF l cls f x s t).1 ∧ (wkF l cls f x s t).1.1.getD i 0 = s.1.getD i 0 := by
        intro t
        induction t with
        | zero => intro _; exact ⟨WkK.refl _ _, rfl⟩
        | succ t ih =>
          intro ht
          obtain ⟨h1, h2⟩ := ih (by omega)
          have hk : x.2[t]? = some x.2[t] := List.getElem?_eq_getElem ht
          rw [wkF_step hk]
          unfold wkS
          by_cases hl : 1 < x.1
          · rw [if_pos hl]
            obtain ⟨_, _, c1, c2⟩ := hd i x hx hl _ (List.getElem_mem ht)
            have h3 := wk_kept hd f (cls.getD x.2[t].toNat 0).toNat (wkF l cls f x s t).1 (by omega) (by omega) (h1.1.trans hs)
            exact ⟨h1.trans h3 (by omega), (h3.2.2 i (by omega)).trans h2⟩
          · rw [if_neg hl]; exact ⟨h1, h2⟩
      obtain ⟨⟨k1, k2, k3⟩, k4⟩ := key x.2.length (Nat.le_refl _)
      refine ⟨by simp only [List.length_set]; exact k1, ?_, fun j hj => ?_⟩
      · have := ngN_set (dn := (wkF l cls f x s x.2.length).1.1) (i := i) (v := ((wkF l cls f x s x.2.length).1.2.length : Int)) (by rw [k1, hs]; exact hi) (by rw [k4]; omega) (by omega)
        simp only [List.length_append, List.length_cons, List.length_nil]
        omega
      · simp only
        rw [getD_setne (by omega), k3 j (by omega)]
/-- The fold's state at t. -/
theorem wkF_kept {l : List Nd} {cls : List Int} (hd : DagN l cls) {f i : Nat} {s : List Int × List Nd} {x : Nd} (hf : i < f + 1) (hx : l[i]? = some x) (hs : s.1.length = l.length) : ∀ t, t ≤ x.2.length → (wkF l cls f x s t).1.1.length = l.length ∧ (wkF l cls f x s t).1.2.length + ngN (wkF l cls f x s t).1.1 = s.2.length + ngN s.1 ∧ (wkF l cls f x s t).1.1.getD i 0 = s.1.getD i 0 := by
  intro t
  induction t with
  | zero => intro _; exact ⟨hs, rfl, rfl⟩
  | succ t ih =>
    intro ht
    obtain ⟨h1, h2, h4⟩ := ih (by omega)
    have hk : x.2[t]? = some x.2[t] := List.getElem?_eq_getElem ht
    rw [wkF_step hk]
    unfold wkS
    by_cases hl : 1 < x.1
    · rw [if_pos hl]
      have hi : i < l.length := (List.getElem?_eq_some_iff.1 hx).1
      obtain ⟨_, _, c1, c2⟩ := hd i x hx hl _ (List.getElem_mem ht)
      have h3 := wk_kept hd f (cls.getD x.2[t].toNat 0).toNat (wkF l cls f x s t).1 (by omega) (by omega) h1
      exact ⟨h3.1.trans h1, h3.2.1.trans h2, (h3.2.2 i (by omega)).trans h4⟩
    · rw [if_neg hl]; exact ⟨h1, h2, h4⟩
theorem ngN_pos {dn : List Int} {i : Nat} (h : dn.getD i 0 < 0) : 1 ≤ ngN dn := by
  unfold ngN
  refine List.countP_pos_iff.2 ⟨dn.getD i 0, ?_, by simpa using h⟩
  rw [List.getD_eq_getElem?_getD] at *
  cases hx : dn[i]? with
  | none => rw [hx] at h; simp at h
  | some y => rw [Option.getD_some]; exact List.mem_of_getElem? hx
theorem ngN_le (dn : List Int) : ngN dn ≤ dn.length := List.countP_le_length
end Go.Proofs.YtfdihjjnlmhibaaGreat
end
section
namespace Go.Proofs.YtfdihjjnlmhibaaGreat
open Go
def mooH : List (Int × Int) := [(-1, -1), (0, -1), (1, -1), (-1, 0), (0, 0), (1, 0), (-1, 1), (0, 1), (1, 1)]
def patH : List Cel := [(0, 0, 1), (1, 0, 1), (2, 0, 1)]
def patV : List Cel := [(1, -1, 1), (1, 0, 1), (1, 1, 1)]
def chgV : List Chg := [(1, -1, 0, 1), (0, 0, 1, 0), (2, 0, 1, 0), (1, 1, 0, 1)]
def frsX : List TFr := [(0, true, patH, []), (1, false, [], chgV), (2, true, patH, [])]
def frsY : List TFr := frsX ++ [(4, false, [], [])]
def frsC : List TFr := [(1, true, patV, []), (2, false, [], ofL patV patH)]
def erlB (l : List Nd) : Bool := (List.range l.length).all fun i => decide ((l.getD i (0, [])).2.length ≤ 1000) && (!decide (1 < (l.getD i (0, [])).1) || (l.getD i (0, [])).2.all fun k => decide (0 ≤ k) && decide (k.toNat < i))
def dagB (l : List Nd) (cls : List Int) : Bool := (List.range l.length).all fun i => !decide (1 < (l.getD i (0, [])).1) || (l.getD i (0, [])).2.all fun k => decide (0 ≤ k) && decide (k.toNat < i) && decide (0 ≤ cls.getD k.toNat 0) && decide ((cls.getD k.toNat 0).toNat < i)
theorem ev54_1 : erlB (totN [3] [2, 3]) = true := by decide +kernel
theorem ev54_2 : dagB (totN [3] [2, 3]) (clsK (totN [3] [2, 3]) 89).1 = true := by decide +kernel
theorem ev54_4 : trR 2 mooH (totN [3] [2, 3]) = true := by decide +kernel
theorem ev54_5 : (ndK [3] [2, 3] 9).2.getD 0 0 = 88 := by decide +kernel
theorem ev54_7 : rcE 2 mooH lifeN patH 2 2 = 0 := by decide +kernel
theorem ev54_8 : rcL 2 mooH lifeN patH 2 2 = frsX := by kernel_rfl
theorem ev54_9 : atE 2 frsX 1 = 0 := by decide +kernel
theorem ev54_10 : atL 2 frsX 1 = patV := by decide +kernel
theorem ev54_11 : adE 2 frsX 2 patH = 9 := by decide +kernel
theorem ev54_12 : adE 2 frsX 4 patH = 0 := by decide +kernel
theorem ev54_13 : adL 2 frsX 4 patH = frsY := by kernel_rfl
theorem ev54_14 : cuE 2 frsX 1 2 = 0 := by decide +kernel
theorem ev54_15 : cuL 2 frsX 1 2 = frsC := by kernel_rfl
theorem ev54_16 : dfE 2 frsX 2 frsC = 0 := by decide +kernel
theorem ev54_17 : (dfL 2 frsX 2 frsC).1 = 0 := by decide +kernel
theorem ev54_18 : (dfL 2 frsX 2 frsC).2.2 = true := by decide +kernel
theorem ev54_19 : foL 2 mooH lifeN 2 frsY = (-1, 0) := by decide +kernel
theorem ev54_20 : atE 2 frsX 3 = 13 := by decide +kernel
theorem ev54_21 : tlB 2 frsX = true := by decide +kernel
theorem ev54_22 : tlB 0 [] = false := by decide +kernel
theorem ev54_23 : (ndK [3] [2, 3] 9).1.length = 90 := by decide +kernel
end Go.Proofs.YtfdihjjnlmhibaaGreat
end
section
namespace Go.Proofs.YtfdihjjnlmhibaaGreat
open Go Go.RowKit
section
variable {α β : Type} {K : EK α β} {w w' : World} {bs : List β} {A : Option Addr} {n c B : Nat} {e : TypeId} {row : Option Nat} {P P' : Nat → Prop}
/-- A row of the call's own of elements that lead to blocks from B on, none of them the row itself, and none in P. -/
def OwnO (K : EK α β) (e : TypeId) (B : Nat) (P : Nat → Prop) (w : World) (A : Option Addr) (n c : Nat) (bs : List β) : Prop := ∃ xs0, Own K.enc K.k e B w A n c xs0 ∧ K.All w xs0 bs ∧ ∀ a ∈ xs0, ∀ q ∈ K.blk a, some q ≠ (Value.slice A n c).ownBlock ∧ ¬ P q ∧ B ≤ q
theorem OwnO.toX (g : OwnO K e B P w A n c bs) : OwnX K e B w A n c bs := by
  obtain ⟨xs0, h1, h2, h3⟩ := g
  exact ⟨xs0, h1, h2, fun a ha q hq => (h3 a ha q hq).1⟩
theorem OwnO.nil_ : OwnO K e B P w none 0 0 ([] : List β) := ⟨[], Own.nil_, EK.All.nil_, fun a ha => by cases ha⟩
theorem OwnO.of (g : OwnO K e B P w A n c bs) (hb : Below w.heap.size w w') : OwnO K e B P w' A n c bs := by
  obtain ⟨xs0, h1, h2, h3⟩ := g
  exact ⟨xs0, h1.of hb, h2.of hb, h3⟩
theorem OwnO.len (g : OwnO K e B P w A n c bs) : bs.length = n := g.toX.len
theorem OwnO.rd (g : OwnO K e B P w A n c bs) : RdX K w A n bs := g.toX.rd
theorem OwnO.lt (g : OwnO K e B P w A n c bs) : ∀ q, (Value.slice A n c).ownBlock = some q → B ≤ q ∧ q < w.heap.size := by
  obtain ⟨xs0, h1, _, _⟩ := g
  intro q hq
  exact h1.row.lt q hq
theorem OwnO.weak (g : OwnO K e B P w A n c bs) (h : ∀ q, q < w.heap.size → P' q → P q) : OwnO K e B P' w A n c bs := by
  obtain ⟨xs0, h1, h2, h3⟩ := g
  exact ⟨xs0, h1, h2, fun a ha q hq => ⟨(h3 a ha q hq).1, fun hp => (h3 a ha q hq).2.1 (h q (h2.lt a ha q hq) hp), (h3 a ha q hq).2.2⟩⟩
/-- A row in P grows, or a block in P is written. -/
theorem OwnO.grow (g : OwnO K e B P w A n c bs) (hg : w.grownBy w' row) (hne : ∀ q, (Value.slice A n c).ownBlock = some q → row ≠ some q) (hP : ∀ q, row = some q → P q ∨ q < B) (hP' : ∀ q, q < w.heap.size → P' q → P q) : OwnO K e B P' w' A n c bs := by
  obtain ⟨xs0, h1, h2, h3⟩ := g
  refine ⟨xs0, ⟨h1.row.kept hg ?_, h1.len⟩, h2.keep hg fun a ha q hq er => ?_, fun a ha q hq => ⟨(h3 a ha q hq).1, fun hp => (h3 a ha q hq).2.1 (hP' q (h2.lt a ha q hq) hp), (h3 a ha q hq).2.2⟩⟩
  · cases ho : (Value.slice A n c).ownBlock with
    | none => exact .inl rfl
    | some q => exact .inr fun e1 => hne q ho e1.symm
  · rcases hP q er.symm with h | h
    · exact (h3 a ha q hq).2.1 h
    · have := (h3 a ha q hq).2.2; omega
/-- Two rows of different types are apart. -/
theorem Own.apart {γ δ : Type} {enc : γ → List Value} {enc' : δ → List Value} {k k' : Nat} {e e' : TypeId} {B B' n n' c c' : Nat} {A A' : Option Addr} {l : List γ} {l' : List δ} (h : Own enc k e B w A n c l) (h' : Own enc' k' e' B' w A' n' c' l') (hee : e ≠ e') :
    ∀ q, (Value.slice A n c).ownBlock = some q → (Value.slice A' n' c').ownBlock ≠ some q := by
  intro q h1 h2
  rcases h.row.2 with ⟨h0, _⟩ | ⟨g, cap, cur, hv, _, hh, _⟩
  · rw [h0] at h1; cases h1
  · rcases h'.row.2 with ⟨h0, _⟩ | ⟨g', cap', cur', hv', _, hh', _⟩
    · rw [h0] at h2; cases h2
    · rw [hv] at h1; rw [hv'] at h2
      have e1 : g = q := by injection h1
      have e2 : g' = q := by injection h2
      subst e1 e2
      rw [hh] at hh'
      injection hh' with hh'
      injection hh' with _ h5
      exact hee h5
theorem OwnO.apart {γ : Type} {enc' : γ → List Value} {k' : Nat} {e' : TypeId} {B' n' c' : Nat} {A' : Option Addr} {l' : List γ} (h : OwnO K e B P w A n c bs) (h' : Own enc' k' e' B' w A' n' c' l') (hee : e ≠ e') :
    (∀ q, (Value.slice A n c).ownBlock = some q → (Value.slice A' n' c').ownBlock ≠ some q) ∧ ∀ q, (Value.slice A' n' c').ownBlock = some q → (Value.slice A n c).ownBlock ≠ some q := by
  obtain ⟨xs0, h1, _, _⟩ := h
  exact ⟨h1.apart h' hee, h'.apart h1 (fun e1 => hee e1.symm)⟩
/-- A row of the call's own over the growth of another. -/
theorem Own.over2 {γ : Type} {enc : γ → List Value} {k : Nat} {e : TypeId} {B n c : Nat} {A : Option Addr} {l : List γ} (h : Own enc k e B w A n c l) (hg : w.grownBy w' row) (hne : ∀ q, (Value.slice A n c).ownBlock = some q → row ≠ some q) : Own enc k e B w' A n c l := by
  refine ⟨h.row.kept hg ?_, h.len⟩
  cases ho : (Value.slice A n c).ownBlock with
  | none => exact .inl rfl
  | some q => exact .inr fun e1 => hne q ho e1.symm
theorem Own.capO {γ : Type} {enc : γ → List Value} {k : Nat} {e : TypeId} {B n c : Nat} {A : Option Addr} {l : List γ} (h : Own enc k e B w A n c l) : n ≤ c := by
  rcases h.row.2 with ⟨h0, h1⟩ | ⟨g, cap, cur, hv, _, _, h1, _⟩
  · injection h0 with _ h2 h3; omega
  · injection hv with _ h2 h3; omega
/-- An elder row and a younger one. -/
theorem Own.young {γ δ : Type} {enc : γ → List Value} {enc' : δ → List Value} {k k' : Nat} {e e' : TypeId} {B B' n n' c c' : Nat} {w1 w2 : World} {A A' : Option Addr} {l : List γ} {l' : List δ} (h : Own enc k e B w1 A n c l) (h' : Own enc' k' e' B' w2 A' n' c' l') (hB : w1.heap.size ≤ B') :
    (∀ q, (Value.slice A n c).ownBlock = some q → (Value.slice A' n' c').ownBlock ≠ some q) ∧ ∀ q, (Value.slice A' n' c').ownBlock = some q → (Value.slice A n c).ownBlock ≠ some q :=
  ⟨fun q h1 h2 => by have := (h.row.lt q h1).2; have := (h'.row.lt q h2).1; omega, fun q h1 h2 => by have := (h.row.lt q h2).2; have := (h'.row.lt q h1).1; omega⟩
theorem OwnO.cap (g : OwnO K e B P w A n c bs) : n ≤ c := by
  obtain ⟨xs0, h1, _, _⟩ := g
  rcases h1.row.2 with ⟨h0, h⟩ | ⟨g, cap, cur, hv, _, _, h, _⟩
  · injection h0 with _ h2 h3; omega
  · injection hv with _ h2 h3; omega
end
section
variable {α β : Type} {K : EK α β} {P : Program} {w : World} {ops : Array Oper} {rest : List Oper} {o : Oper} {a : Act} {Q : Exit → Act → World → Prop}
/-- append of one element onto such a row. -/
theorem wpList_append_o {Pr : Nat → Prop} (hgd : o.guard = none) (s x : Operand) (t : TypeId)
    (ho : o.op = .call { callee := .builtin .append, args := #[s, x], argTypes := #[t, t] })
    (e : TypeId) (z : Value) (bytes : Nat) (ht : P.underlying t = some (.slice e)) (hi : (P.info? e).map (fun i => (i.zero, i.size, i.bytes)) = some (some z, K.k, bytes)) (hzs : z.cells.size = K.k)
    (B : Nat) (A : Option Addr) (n c : Nat) (bs : List β) (hs : a.eval s = .slice A n c) (hown : OwnO K e B Pr w A n c bs)
    (y : α) (b : β) (hrel : K.rel w y b) (hoff : ∀ q ∈ K.blk y, some q ≠ (Value.slice A n c).ownBlock ∧ ¬ Pr q ∧ B ≤ q) (ad : Addr) (m : Nat) (hx : a.eval x = .slice (some ad) 1 m) (hnews : ∀ j u, (K.enc y)[j]? = some u → w.cell? (ad.add j) = some u)
    (hbytes : (n + 1) * bytes ≤ 140737488355328) (hn : n + 1 ≤ 4611686018427387904) (hbase : B ≤ w.heap.size)
    (h : ∀ A' c' w', OwnO K e B Pr w' A' (n + 1) c' (bs ++ [b]) → w.grownBy w' (Value.slice A n c).ownBlock → Below B w w' → ((Value.slice A' (n + 1) c').ownBlock = (Value.slice A n c).ownBlock ∨ (Value.slice A' (n + 1) c').ownBlock = some w.heap.size) → wpList P ops Q rest (a.put o.dst (.slice A' (n + 1) c')) w') : wpList P ops Q (o :: rest) a w := by
  obtain ⟨xs0, h1, h2, h3⟩ := hown
  refine wpList_append_elL hgd s x t ho K.enc K.k e z bytes ht hi hzs K.pos K.len K.one B A n c xs0 hs h1 y ad m hx hnews hbytes hn hbase ?_
  intro A' c' w' hv hg hgB hloc
  refine h A' c' w' ⟨xs0 ++ [y], hv, (h2.keep hg fun a' ha' q hq => (h3 a' ha' q hq).1).snoc (K.keep hrel hg fun q hq => (hoff q hq).1), ?_⟩ hg hgB hloc
  intro a' ha' q hq
  have key : some q ≠ (Value.slice A n c).ownBlock ∧ ¬ Pr q ∧ B ≤ q ∧ q < w.heap.size := by
    rcases List.mem_append.1 ha' with hm | hm
    · have h4 := h3 a' hm q hq
      exact ⟨h4.1, h4.2.1, h4.2.2, h2.lt a' hm q hq⟩
    · obtain rfl : a' = y := by simpa using hm
      have h4 := hoff q hq
      exact ⟨h4.1, h4.2.1, h4.2.2, K.lt hrel q hq⟩
  refine ⟨?_, key.2.1, key.2.2.1⟩
  rcases hloc with hl | hl
  · rw [hl]; exact key.1
  · rw [hl]; intro e1; injection e1 with e1; have := key.2.2.2; omega
end
/-- Lists of numbers as elements. -/
def ekL : EK (Option Addr × Nat × Nat) (List Int) where
  enc := encH
  k := 1
  len := encH_len
  one := encH_one
  pos := by omega
  rel w h l := Rd encI 1 w h.1 h.2.1 l ∧ h.2.1 ≤ h.2.2
  blk := blkH
  keep h hg hr := ⟨h.1.grown hg hr, h.2⟩
  lt h := h.1.blk_lt
theorem RdX.ints {w : World} {A : Option Addr} {n : Nat} {ls : List (List Int)} (g : RdX ekL w A n ls) {i : Nat} (hi : i < n) : ∃ E m c l b o, Hid (ls[i]? = some l) ∧ A = some ⟨b, o, none⟩ ∧ b < w.heap.size ∧ w.cell? ⟨b, o + i, none⟩ = some (.slice E m c) ∧ Rd encI 1 w E m l ∧ m ≤ c := by
  obtain ⟨x, l, b, o, h1, h2, h3, h4, h5⟩ := g.elem hi
  exact ⟨x.1, x.2.1, x.2.2, l, b, o, h1, h2, h3, by simpa [ekL, encH] using h4 0 _ rfl, h5.1, h5.2⟩
/-- The blocks of a row of the call's own as an element. -/
theorem Own.blk {γ : Type} {enc : γ → List Value} {k : Nat} {e : TypeId} {B n c : Nat} {w : World} {A : Option Addr} {l : List γ} (h : Own enc k e B w A n c l) : ∀ q ∈ blkH (A, n, c), (Value.slice A n c).ownBlock = some q ∧ B ≤ q ∧ q < w.heap.size := by
  intro q hq
  unfold blkH at hq
  split at hq
  · cases hq
  · rcases h.row.2 with ⟨h0, _⟩ | ⟨g, cap, cur, hv, _, _, _⟩
    · injection h0 with h1; subst h1; simp at hq
    · injection hv with h1 h2 h3
      subst h1
      have hq' : q = g := by simpa using hq
      subst hq'
      have h9 : (Value.slice (some (⟨q, 0, none⟩ : Addr)) n c).ownBlock = some q := rfl
      exact ⟨h9, h.row.lt q h9⟩
/-- A world that differs from an elder one in blocks that R takes, and in new blocks. -/
structure Fr2 (R : Nat → Prop) (w w' : World) : Prop where
  os : w'.os = w.os
  tape : w'.tape = w.tape
  output : w'.output = w.output
  size : w.heap.size ≤ w'.heap.size
  block : ∀ q, q < w.heap.size → ¬ R q → w'.heap[q]? = w.heap[q]?
section
variable {w w' w'' : World} {R R' : Nat → Prop} {row : Option Nat} {A : Option Addr} {n c B : Nat} {e : TypeId}
theorem Fr2.here (w : World) (R : Nat → Prop) : Fr2 R w w := ⟨rfl, rfl, rfl, Nat.le_refl _, fun _ _ _ => rfl⟩
theorem Fr2.grown (h : Fr2 R w w') (hg : w'.grownBy w'' row) (hr : ∀ q, row = some q → R q ∨ w.heap.size ≤ q) : Fr2 R w w'' :=
  ⟨hg.os.trans h.os, hg.tape.trans h.tape, hg.output.trans h.output, Nat.le_trans h.size hg.size, fun q hq hn => (hg.block q (Nat.lt_of_lt_of_le hq h.size) (fun e => by rcases hr q e.symm with h1 | h1; exact hn h1; omega)).trans (h.block q hq hn)⟩
theorem Fr2.then (h : Fr2 R w w') (h2 : Fr2 R' w' w'') (hr : ∀ q, q < w.heap.size → R' q → R q) : Fr2 R w w'' :=
  ⟨h2.os.trans h.os, h2.tape.trans h.tape, h2.output.trans h.output, Nat.le_trans h.size h2.size, fun q hq hn => (h2.block q (Nat.lt_of_lt_of_le hq h.size) (fun e => hn (hr q hq e))).trans (h.block q hq hn)⟩
theorem Fr2.of (h : Fr2 R w w') (hb : Below w'.heap.size w' w'') : Fr2 R w w'' := h.grown (grown_of_below hb) (fun q e => by cases e)
theorem Fr2.below (h : Fr2 R w w') (hB : B ≤ w.heap.size) (hr : ∀ q, R q → B ≤ q) : Below B w w' :=
  ⟨h.os, h.tape, h.output, h.size, fun q hq => h.block q (by omega) (fun e => by have := hr q e; omega)⟩
theorem Own.fr2 {γ : Type} {enc : γ → List Value} {k : Nat} {l : List γ} (h : Own enc k e B w A n c l) (hf : Fr2 R w w') (hr : ∀ q, (Value.slice A n c).ownBlock = some q → ¬ R q) : Own enc k e B w' A n c l := by
  refine ⟨⟨h.row.1, ?_⟩, h.len⟩
  rcases h.row.2 with h0 | ⟨g, cap, cur, hv, hg, hh, r⟩
  · exact .inl h0
  · exact .inr ⟨g, cap, cur, hv, hg, (hf.block g (Array.getElem?_eq_some_iff.1 hh).1 (hr g (by rw [hv]; rfl))).trans hh, r⟩
end
end Go.Proofs.YtfdihjjnlmhibaaGreat
end
