/- The contracts of slices.Clone at cells and of Shift, of pattern and of its reference. -/
import Derived.Test.YtnhapgbjaeaamaaDoorCell6
import Derived.Test.YtnhapgbjaeaamaaDoorMEM
import Derived.Deep.RegionHeld3
namespace Go.Proofs.YtnhapgbjaeaamaaDoor
open Go Go.RowKit
set_option linter.unusedSimpArgs false
set_option linter.unusedVariables false
set_option maxRecDepth 100000
attribute [local go_sem ↓ high] eq_cl neq_cl eq_pt neq_pt
/-- One cell of one element of a row of the call's own, stored anew. -/
theorem own_cell_set {α : Type} {enc : α → List Value} {k : Nat} {e : TypeId} {B g n c : Nat} {w : World} {l : List α} (hk : ∀ x, (enc x).length = k) (h : Own enc k e B w (some ⟨g, 0, none⟩) n c l) {i j : Nat} (hj : j < k) {x y : α} (hx : l[i]? = some x) (u : Value) (he : enc y = (enc x).set j u) :
    Own enc k e B (w.setCell ⟨g, i * k + j, none⟩ u) (some ⟨g, 0, none⟩) n c (l.set i y) := by
  have hl := (List.getElem?_eq_some_iff.1 hx).1
  refine own_stored h (i * k + j) u (by simp [h.len]) ?_
  rw [flatMap_set hk l i y hl, he]
  have hlen := flatMap_len hk l
  have hik : i * k + k ≤ l.length * k := by
    have := Nat.mul_le_mul_right k (show i + 1 ≤ l.length by omega); rwa [Nat.add_mul, Nat.one_mul] at this
  apply List.ext_getElem?
  intro t
  rw [List.getElem?_set, List.append_assoc, List.getElem?_append, List.length_take, List.getElem?_append, List.length_set, hk, hlen, Nat.min_eq_left (by omega)]
  by_cases e1 : i * k + j = t
  · subst e1
    rw [if_pos rfl, if_pos (by omega), if_neg (by omega), if_pos (by omega), List.getElem?_set, if_pos (by omega), if_pos (by rw [hk]; omega)]
  · rw [if_neg e1]
    by_cases e2 : t < i * k
    · rw [if_pos e2, List.getElem?_take, if_pos e2]
    · rw [if_neg e2]
      by_cases e3 : t - i * k < k
      · rw [if_pos e3, List.getElem?_set, if_neg (by omega)]
        have e4 : (enc x)[t - i * k]? = some ((enc x)[t - i * k]'(by rw [hk]; exact e3)) := List.getElem?_eq_getElem _
        have := flatMap_get hk l i x hx (t - i * k) _ e4
        rw [show i * k + (t - i * k) = t by omega] at this
        rw [this, e4]
      · rw [if_neg e3, List.getElem?_drop]
        congr 1; omega
theorem rd_ce_own {e : TypeId} {B g n c : Nat} {w : World} {l : List (Int × Int × Int)} (h : Own encC 3 e B w (some ⟨g, 0, none⟩) n c l) {i : Nat} {x y s : Int} (hi : i < n) (hx : l[i]? = some (x, y, s)) : w.cell? ⟨g, i * 3, none⟩ = some (.int .i64 x) ∧ w.cell? ⟨g, i * 3 + 1, none⟩ = some (.int .i64 y) ∧ w.cell? ⟨g, i * 3 + 2, none⟩ = some (.int .i64 s) ∧
    w.frozen? ⟨g, i * 3, none⟩ = false ∧ w.frozen? ⟨g, i * 3 + 1, none⟩ = false ∧ w.frozen? ⟨g, i * 3 + 2, none⟩ = false := by
  have h1 := own_cells encC_len h (j := i * 3) (by omega)
  have h2 := own_cells encC_len h (j := i * 3 + 1) (by omega)
  have h3 := own_cells encC_len h (j := i * 3 + 2) (by omega)
  have e1 := flatMap_get encC_len l i (x, y, s) hx 0 _ rfl
  have e2 := flatMap_get encC_len l i (x, y, s) hx 1 _ rfl
  have e3 := flatMap_get encC_len l i (x, y, s) hx 2 _ rfl
  rw [Nat.add_zero] at e1
  exact ⟨h1.1.trans e1, h2.1.trans e2, h3.1.trans e3, h1.2, h2.2, h3.2⟩
theorem own_cap {α : Type} {enc : α → List Value} {k : Nat} {e : TypeId} {B n c : Nat} {w : World} {A : Option Addr} {l : List α} (h : Own enc k e B w A n c l) : n ≤ c := by
  rcases h.row.2 with ⟨h0, _⟩ | ⟨g, cap, cur, hv, hg, hh, h1, r⟩
  · injection h0 with _ e1 e2; omega
  · injection hv with _ e1 e2; omega
theorem ret_pe {v : Value} {a b : Int} (h : a = b) : Ending.returned (.tuple #[v, .int .i64 a]) = .returned (.tuple #[v, .int .i64 b]) := by rw [h]
/-- Shift. -/
def mv (dx dy : Int) (c : Int × Int × Int) : Int × Int × Int := (c.1 + dx, c.2.1 + dy, c.2.2)
def farB (dx dy : Int) : Bool := decide (-2097152 ≤ dx ∧ dx ≤ 2097152 ∧ -2097152 ≤ dy ∧ dy ≤ 2097152)
def plC (c : Int × Int × Int) : Bool := validB c.1 c.2.1
def shE (l : List (Int × Int × Int)) (dx dy : Int) : Int := if rightC l = true then (if farB dx dy = true then (if (l.map (mv dx dy)).all plC = true then 0 else 5) else 5) else 2
def shL (l : List (Int × Int × Int)) (dx dy : Int) : List (Int × Int × Int) := if shE l dx dy = 0 then l.map (mv dx dy) else []
def mvAt (l : List (Int × Int × Int)) (dx dy : Int) (j : Nat) : List (Int × Int × Int) := (l.map (mv dx dy)).take j ++ l.drop j
section
variable {l : List (Int × Int × Int)} {dx dy x y s : Int} {j : Nat}
theorem mvAt_get (hx : l[j]? = some (x, y, s)) : (mvAt l dx dy j)[j]? = some (x, y, s) := by
  have hl := (List.getElem?_eq_some_iff.1 hx).1
  unfold mvAt
  rw [List.getElem?_append_right (by rw [List.length_take, List.length_map]; omega), List.length_take, List.length_map, Nat.min_eq_left (by omega), Nat.sub_self, List.getElem?_drop, Nat.add_zero, hx]
theorem mvAt_step (hx : l[j]? = some (x, y, s)) : (mvAt l dx dy j).set j (x + dx, y + dy, s) = mvAt l dx dy (j + 1) := by
  have hl := (List.getElem?_eq_some_iff.1 hx).1
  apply List.ext_getElem?
  intro t
  unfold mvAt
  rw [List.getElem?_set, List.getElem?_append, List.getElem?_append, List.length_take, List.length_take, List.length_map, Nat.min_eq_left (by omega), Nat.min_eq_left (by omega), List.getElem?_take, List.getElem?_take, List.getElem?_drop, List.getElem?_drop]
  by_cases e : j = t
  · subst e
    rw [if_pos rfl, if_pos (by rw [List.length_append, List.length_take, List.length_drop, List.length_map]; omega), if_pos (by omega), if_pos (by omega), List.getElem?_map, hx]; rfl
  · rw [if_neg e]
    by_cases e2 : t < j
    · rw [if_pos e2, if_pos e2, if_pos (by omega), if_pos (by omega)]
    · rw [if_neg e2, if_neg (by omega)]
      congr 1; omega
theorem mvAt_end (h : l.length ≤ j) : mvAt l dx dy j = l.map (mv dx dy) := by
  unfold mvAt; rw [List.drop_of_length_le h, List.append_nil, List.take_of_length_le (by rw [List.length_map]; exact h)]
/-- All moved cells ahead of j are placed. -/
def plTo (l : List (Int × Int × Int)) (dx dy : Int) (j : Nat) : Prop := ∀ i x y s, i < j → l[i]? = some (x, y, s) → validB (x + dx) (y + dy) = true
theorem plTo_step (h : plTo l dx dy j) (hx : l[j]? = some (x, y, s)) (hv : validB (x + dx) (y + dy) = true) : plTo l dx dy (j + 1) := by
  intro i a b t hi hy
  by_cases e : i = j
  · rw [e, hx] at hy; cases hy; exact hv
  · exact h i a b t (by omega) hy
theorem all_of_plTo {n : Nat} (hl : l.length = n) (h : plTo l dx dy n) : (l.map (mv dx dy)).all plC = true := by
  rw [List.all_eq_true]
  intro c hc
  obtain ⟨d, hd, rfl⟩ := List.mem_map.1 hc
  obtain ⟨i, hi, e⟩ := List.getElem_of_mem hd
  exact h i d.1 d.2.1 d.2.2 (by omega) (by rw [List.getElem?_eq_getElem hi, e])
theorem not_all (hx : l[j]? = some (x, y, s)) (hv : validB (x + dx) (y + dy) = false) : (l.map (mv dx dy)).all plC = false := by
  rw [List.all_eq_false]
  refine ⟨mv dx dy (x, y, s), List.mem_map.2 ⟨_, List.mem_of_getElem? hx, rfl⟩, ?_⟩
  show ¬ validB (x + dx) (y + dy) = true
  rw [hv]; simp
theorem shE_arg (h : rightC l = false) : shE l dx dy = 2 := by unfold shE; rw [if_neg (by rw [h]; simp)]
theorem shE_far (h : rightC l = true) (hf : farB dx dy = false) : shE l dx dy = 5 := by unfold shE; rw [if_pos h, if_neg (by rw [hf]; simp)]
theorem shE_out (h : rightC l = true) (hf : farB dx dy = true) (ha : (l.map (mv dx dy)).all plC = false) : shE l dx dy = 5 := by unfold shE; rw [if_pos h, if_pos hf, if_neg (by rw [ha]; simp)]
theorem shE_ok (h : rightC l = true) (hf : farB dx dy = true) (ha : (l.map (mv dx dy)).all plC = true) : shE l dx dy = 0 := by unfold shE; rw [if_pos h, if_pos hf, if_pos ha]
theorem shL_no {n : Int} (h : shE l dx dy = n) (hn : n ≠ 0) : shL l dx dy = [] := by unfold shL; rw [if_neg (by rw [h]; exact hn)]
theorem shL_ok (h : shE l dx dy = 0) : shL l dx dy = l.map (mv dx dy) := by unfold shL; rw [if_pos h]
end
theorem farB_no {dx dy : Int} (h : farB dx dy = false) : (decide (2097152 < max dx dy) = true) ∨ (decide (2097152 < max dx dy) = false ∧ decide (min dx dy < -2097152) = true) := by
  unfold farB at h
  simp only [decide_eq_true_eq, decide_eq_false_iff_not] at h ⊢; omega
theorem farB_no2 {dx dy : Int} (h : farB dx dy = false) : (decide (dx < -2097152) = true) ∨ (decide (dx < -2097152) = false ∧ decide (2097152 < dx) = true) ∨ (decide (dx < -2097152) = false ∧ decide (2097152 < dx) = false ∧ decide (dy < -2097152) = true) ∨ (decide (dx < -2097152) = false ∧ decide (2097152 < dx) = false ∧ decide (dy < -2097152) = false ∧ decide (2097152 < dy) = true) := by
  unfold farB at h
  simp only [decide_eq_true_eq, decide_eq_false_iff_not] at h ⊢; omega
set_option maxHeartbeats 400000 in
theorem clone_ce (A : Option Addr) (n c : Nat) (l : List (Int × Int × Int)) (w : World) (hR : Rd encC 3 w A n l) (hn : n ≤ 1000000) :
    Calls Tryd.prog 45 #[.slice A n c] w fun e w' => ∃ A' c', e = .returned (.slice A' n c') ∧ Own encC 3 40 w.heap.size w' A' n c' l ∧ Below w.heap.size w w' := by
  have q22 : ∀ (w : World) (a : Option Addr) (n c n' c' : Nat), (binOp .eql 30 (.slice a n c) (.slice none n' c')).run Tryd.prog w = .ok (.bool a.isNone) w := fun w a n c n' c' => Lib.run_eql_slice_nil w _ _ a n c n' c' Tryd.underlying30
  cases A with
  | none =>
    have hz : n = 0 := by
      rcases Nat.eq_zero_or_pos n with h | h
      · exact h
      · obtain ⟨b, o, e, _⟩ := hR.2 h; cases e
    subst hz
    obtain rfl : l = [] := List.length_eq_zero_iff.1 hR.len
    clear hR
    go_enter Tryd.func45, Tryd.ntmps45
    go_wp2
    go_ret
    exact ⟨none, 0, rfl, Own.nil_, by (repeat' (first | exact Below.refl _ _ | assumption | (refine Below.alloc ?_ ?_ _) | (refine Below.setCell ?_ ?_ _) | (refine Below.drew ?_) | (refine below_drewN ?_ _) | (refine below_after (Ext.below _) ?_ ?_) | (refine below_after (by assumption) ?_ ?_) | (simp; done) | omega | (simp; omega)))⟩
  | some ad =>
    obtain ⟨i0, hi0, hz0, hz1, hz2⟩ := info_parts (show (Tryd.prog.info? 40).map (fun i => (i.zero, i.size, i.bytes)) = some (some (.agg #[.int .i64 0, .int .i64 0, .int .i64 0]), 3, 24) by kernel_rfl)
    have hnews : Hid (∀ j u, (l.flatMap encC)[j]? = some u → w.cell? (ad.add j) = some u) := by
      intro j u hu
      have hj : j < n * 3 := by have := (List.getElem?_eq_some_iff.1 hu).1; rwa [flatMap_len encC_len, hR.len] at this
      obtain ⟨x, b, o, hx, e, hb, hcell⟩ := hR.elem (i := j / 3) (by omega)
      injection e with e
      subst e
      have e1 : (encC x)[j % 3]? = some ((encC x)[j % 3]'(by rw [encC_len]; omega)) := List.getElem?_eq_getElem _
      have e2 := flatMap_get encC_len l (j / 3) x hx (j % 3) _ e1
      rw [show j / 3 * 3 + j % 3 = j by omega, hu] at e2
      injection e2 with e2
      have h3 := hcell (j % 3) _ e1
      rw [show o + j / 3 * 3 + j % 3 = o + j by omega] at h3
      have ha : (⟨b, o, none⟩ : Addr).add j = ⟨b, o + j, none⟩ := by unfold Addr.add; split <;> simp_all
      rw [ha, h3, e2]
    have hlen := hR.len
    clear hR
    go_enter Tryd.func45, Tryd.ntmps45
    go_wp2_with (at_builtin; refine wpList_append_own _ rfl _ _ 30 rfl w.heap.size 40 i0 _ 3 24 Tryd.underlying30 hi0 hz0 hz1 hz2 rfl (by omega) _ _ _ rfl (World.ownsRow_made w #[] 0 (Nat.le_refl _) (Nat.zero_le _) (by simp)) ad n c (l.flatMap encC) rfl ?qc1 ?qc2 ?qc3 ?qc4 ?qc5 ?qc6 ?_)
    case qc1 => rw [flatMap_len encC_len, hlen]
    case qc2 =>
      intro j u hu
      exact Lib.cell?_alloc_some _ (hnews.out j u hu)
    case qc3 =>
      intro u hu
      obtain ⟨x, _, hx⟩ := List.mem_flatMap.1 hu
      exact encC_one x u hx
    case qc4 => unfold maxLen; omega
    case qc5 => omega
    case qc6 => simp
    intro v' w1 hown hgrow hnil
    have hB : Below w.heap.size w w1 := ((Below.refl _ w).alloc (Nat.le_refl _) _).grown hgrow (by simp) (by intro k hk; simp [Value.ownBlock] at hk; omega)
    have hown' : w1.ownsRow w.heap.size 40 3 v' n (l.flatMap encC) := by simpa using hown
    have hex : ∃ A' c', v' = .slice A' n c' := by
      rcases hown'.2 with ⟨h1, h2⟩ | ⟨g, cap, cur, h1, _⟩
      · exact ⟨none, 0, by rw [h1, h2]⟩
      · exact ⟨_, _, h1⟩
    obtain ⟨A', c', rfl⟩ := hex
    go_wp2
    go_ret
    exact ⟨A', c', rfl, ⟨hown', hlen⟩, hB⟩
set_option maxHeartbeats 2000000 in
theorem pat_ShiftC (A : Option Addr) (n c : Nat) (l : List (Int × Int × Int)) (dx dy : Int) (w : World) (hR : Rd encC 3 w A n l) (hn : n ≤ 1000000) :
    Calls Tryd.prog 31 #[.slice A n c, .int .i64 dx, .int .i64 dy] w fun e w' => ∃ A' n' c', e = .returned (.tuple #[.slice A' n' c', .int .i64 (shE l dx dy)]) ∧ Rd encC 3 w' A' n' (shL l dx dy) ∧ n' ≤ n ∧ n' ≤ c' ∧ Below w.heap.size w w' := by
  cases hr : rightC l with
  | false =>
    have HE := Lib.hid (shE_arg (dx := dx) (dy := dy) hr)
    have kR := fun w1 a => pat_RightV (A := A) (n := n) (c := c) hr w1 a (by omega)
    clear hr
    go_enter Tryd.func31, Tryd.ntmps31
    go_wp2_with fail
    (go_at_call 33; refine (kR _ (hR.of (by (repeat' (first | exact Below.refl _ _ | assumption | (refine Below.alloc ?_ ?_ _) | (refine Below.setCell ?_ ?_ _) | (refine Below.drew ?_) | (refine below_drewN ?_ _) | (refine below_after (Ext.below _) ?_ ?_) | (refine below_after (by assumption) ?_ ?_) | (simp; done) | omega | (simp; omega)))))).mono ?_; rintro e w1 ⟨rfl, hb1⟩; obtain ⟨hc1, hf1⟩ := bcell hb1; have hs1 := hb1.size; (try simp only [World.size_alloc, World.size_setCell, World.size_drew] at hc1 hf1); (try simp at hs1))
    go_wp2_with fail
    go_ret2
    exact ⟨none, 0, 0, ret_pe HE.out.symm, by rw [shL_no HE.out (by omega)]; exact Rd.nil_, by omega, by omega, by (repeat' (first | exact Below.refl _ _ | assumption | (refine Below.alloc ?_ ?_ _) | (refine Below.setCell ?_ ?_ _) | (refine Below.drew ?_) | (refine below_drewN ?_ _) | (refine below_after (Ext.below _) ?_ ?_) | (refine below_after (by assumption) ?_ ?_) | (simp; done) | omega | (simp; omega)))⟩
  | true =>
    have kR := fun w1 a => pat_RightV (A := A) (n := n) (c := c) hr w1 a (by omega)
    cases hf : farB dx dy with
    | false =>
      have HE := Lib.hid (shE_far hr hf)
      have hfar := farB_no hf
      clear hr hf
      rcases hfar with d1 | ⟨d1, d2⟩
      all_goals
        go_enter Tryd.func31, Tryd.ntmps31
        go_wp2_with fail
        (go_at_call 33; refine (kR _ (hR.of (by (repeat' (first | exact Below.refl _ _ | assumption | (refine Below.alloc ?_ ?_ _) | (refine Below.setCell ?_ ?_ _) | (refine Below.drew ?_) | (refine below_drewN ?_ _) | (refine below_after (Ext.below _) ?_ ?_) | (refine below_after (by assumption) ?_ ?_) | (simp; done) | omega | (simp; omega)))))).mono ?_; rintro e w1 ⟨rfl, hb1⟩; obtain ⟨hc1, hf1⟩ := bcell hb1; have hs1 := hb1.size; (try simp only [World.size_alloc, World.size_setCell, World.size_drew] at hc1 hf1); (try simp at hs1))
        go_wp2_with fail
        go_ret2
        exact ⟨none, 0, 0, ret_pe HE.out.symm, by rw [shL_no HE.out (by omega)]; exact Rd.nil_, by omega, by omega, by (repeat' (first | exact Below.refl _ _ | assumption | (refine Below.alloc ?_ ?_ _) | (refine Below.setCell ?_ ?_ _) | (refine Below.drew ?_) | (refine below_drewN ?_ _) | (refine below_after (Ext.below _) ?_ ?_) | (refine below_after (by assumption) ?_ ?_) | (simp; done) | omega | (simp; omega)))⟩
    | true =>
      have HR := Lib.hid hr
      have HF := Lib.hid hf
      have hb0 := hf
      unfold farB at hb0
      simp only [decide_eq_true_eq] at hb0
      obtain ⟨f1, f2, f3, f4⟩ := hb0
      have hel := fun j x y s (hx : l[j]? = some (x, y, s)) => (rightC_elem hr hx).1
      clear hr hf
      go_enter Tryd.func31, Tryd.ntmps31
      go_wp2_with fail
      (go_at_call 33; refine (kR _ (hR.of (by (repeat' (first | exact Below.refl _ _ | assumption | (refine Below.alloc ?_ ?_ _) | (refine Below.setCell ?_ ?_ _) | (refine Below.drew ?_) | (refine below_drewN ?_ _) | (refine below_after (Ext.below _) ?_ ?_) | (refine below_after (by assumption) ?_ ?_) | (simp; done) | omega | (simp; omega)))))).mono ?_; rintro e w1 ⟨rfl, hb1⟩; obtain ⟨hc1, hf1⟩ := bcell hb1; have hs1 := hb1.size; (try simp only [World.size_alloc, World.size_setCell, World.size_drew] at hc1 hf1); (try simp at hs1))
      clear kR
      go_wp2_with fail
      go_at_call 45
      refine (clone_ce _ _ _ _ _ (hR.of hb1) hn).mono ?_
      rintro e w2 ⟨A2, c2, rfl, hown2, hb2⟩
      have hB2 : Below w.heap.size w w2 := below_after hb2 hb1 (by omega)
      have hown2 := hown2.more (show w.heap.size ≤ w1.heap.size by omega)
      clear hb1 hb2 hc1 hf1 hs1
      go_wp2
      go_loopw [27] (fun i wr => ∃ j : Nat, i = .int .i64 j ∧ j ≤ n ∧ Own encC 3 40 w.heap.size wr A2 n c2 (mvAt l dx dy j) ∧ Hid (plTo l dx dy j) ∧ Below w.heap.size w wr) (fun i _ => n - (intOf i).toNat)
      case atStart => exact ⟨0, rfl, by omega, by unfold mvAt; simpa using hown2, (fun i x y s hi => absurd hi (by omega)), hB2⟩
      case round =>
        obtain ⟨j, rfl, hj, hown, hpl, hb⟩ := hrel
        have hs := hb.size
        by_cases hlt : j < n
        · obtain ⟨q, hq⟩ : ∃ q, l[j]? = some q := ⟨_, List.getElem?_eq_getElem (by rw [hR.len]; exact hlt)⟩
          obtain ⟨x, y, s⟩ := q
          obtain ⟨g, rfl⟩ : ∃ g, A2 = some ⟨g, 0, none⟩ := by
            rcases hown.row.2 with ⟨_, h0⟩ | ⟨g, cap, cur, hv, _⟩
            · omega
            · injection hv with hv; exact ⟨g, hv⟩
          have hpt := hel j x y s hq
          unfold Pt at hpt
          obtain ⟨p1, p2, p3, p4⟩ := hpt
          obtain ⟨k1, k2, k3, z1, z2, z3⟩ := rd_ce_own hown hlt (mvAt_get hq)
          have hgl := own_lt hown
          obtain ⟨hg1, hg2⟩ := hgl
          have hset1 := own_cell_set encC_len hown (i := j) (j := 0) (by omega) (mvAt_get hq) (.int .i64 (x + dx)) (y := (x + dx, y, s)) rfl
          have hset2 := own_cell_set encC_len hset1 (i := j) (j := 1) (by omega) (List.getElem?_set_self (by rw [hown.len]; exact hlt)) (.int .i64 (y + dy)) (y := (x + dx, y + dy, s)) rfl
          rw [List.set_set, mvAt_step hq, Nat.add_zero] at hset2
          clear hset1
          have HQ := Lib.hid hq
          clear hq
          cases hv : validB (x + dx) (y + dy) with
          | false =>
            have HE := Lib.hid (shE_out HR.out HF.out (not_all HQ.out hv))
            have kP := fun w1 => pat_placedV hv w1
            clear hv
            go_wp2_with fail
            (go_at_call 47; refine (pat_at _ _ _ _).mono ?_; rintro e w3 ⟨rfl, hb3⟩; obtain ⟨hc3, hf3⟩ := bcell hb3; have hs3 := hb3.size; (try simp only [World.size_alloc, World.size_setCell, World.size_drew] at hc3 hf3); (try simp at hs3))
            go_wp2_with fail
            (go_at_call 46; refine (kP _).mono ?_; rintro e w4 ⟨rfl, hb4⟩; obtain ⟨hc4, hf4⟩ := bcell hb4; have hs4 := hb4.size; (try simp only [World.size_alloc, World.size_setCell, World.size_drew] at hc4 hf4); (try simp at hs4))
            go_wp2_with fail
            go_ret2
            have hB3 : Below w.heap.size w ((wr.setCell ⟨g, j * 3, none⟩ (.int .i64 (x + dx))).setCell ⟨g, j * 3 + 1, none⟩ (.int .i64 (y + dy))) := (hb.setCell hg1 _).setCell hg1 _
            exact ⟨none, 0, 0, ret_pe HE.out.symm, by rw [shL_no HE.out (by omega)]; exact Rd.nil_, by omega, by omega, below_after hb4 (below_after hb3 hB3 (by simp; omega)) (by first | omega | (simp at hs3; omega))⟩
          | true =>
            have hpl2 := Lib.hid (plTo_step hpl.out HQ.out hv)
            have kP := fun w1 => pat_placedV hv w1
            clear hv
            go_wp2_with fail
            (go_at_call 47; refine (pat_at _ _ _ _).mono ?_; rintro e w3 ⟨rfl, hb3⟩; obtain ⟨hc3, hf3⟩ := bcell hb3; have hs3 := hb3.size; (try simp only [World.size_alloc, World.size_setCell, World.size_drew] at hc3 hf3); (try simp at hs3))
            go_wp2_with fail
            (go_at_call 46; refine (kP _).mono ?_; rintro e w4 ⟨rfl, hb4⟩; obtain ⟨hc4, hf4⟩ := bcell hb4; have hs4 := hb4.size; (try simp only [World.size_alloc, World.size_setCell, World.size_drew] at hc4 hf4); (try simp at hs4))
            go_wp2_with fail
            have hB3 : Below w.heap.size w ((wr.setCell ⟨g, j * 3, none⟩ (.int .i64 (x + dx))).setCell ⟨g, j * 3 + 1, none⟩ (.int .i64 (y + dy))) := (hb.setCell hg1 _).setCell hg1 _
            go_roundw
            case rel => exact ⟨j + 1, by go_num, by omega, (hset2.of hb3).of hb4, hpl2, below_after hb4 (below_after hb3 hB3 (by simp; omega)) (by first | omega | (simp at hs3; omega))⟩
            case measure => simp [intOf]; omega
        · obtain rfl : j = n := by omega
          have HE := Lib.hid (shE_ok HR.out HF.out (all_of_plTo hR.len hpl.out))
          go_wp2
          go_ret2
          exact ⟨A2, j, c2, ret_pe HE.out.symm, by rw [shL_ok HE.out, ← mvAt_end (l := l) (dx := dx) (dy := dy) (j := j) (by rw [hR.len]; omega)]; exact hown.rd encC_len, by omega, own_cap hown, hb⟩
theorem pat_Shift (A : Option Addr) (n c : Nat) (l : List (Int × Int × Int)) (dx dy : Int) (w : World) (hR : Rd encC 3 w A n l) (hn : n ≤ 1000000) :
    Calls Tryd.prog 31 #[.slice A n c, .int .i64 dx, .int .i64 dy] w fun e w' => ∃ A' n' c', e = .returned (.tuple #[.slice A' n' c', .int .i64 (shE l dx dy)]) ∧ Rd encC 3 w' A' n' (shL l dx dy) ∧ n' ≤ n ∧ Below w.heap.size w w' := by
  refine (pat_ShiftC A n c l dx dy w hR hn).mono ?_
  rintro e w' ⟨A', n', c', h1, h2, h3, _, hb⟩
  exact ⟨A', n', c', h1, h2, h3, hb⟩
end Go.Proofs.YtnhapgbjaeaamaaDoor
