/- The contracts of slices.Insert of one cell and of pattern.Set. -/
import Derived.Test.YtnhnkmppmicjoaaInsR
import Derived.Test.YtnhnkmppmicjoaaInsG
import Derived.Test.YtnhnkmppmicjoaaSetR
import Derived.Test.YtnhnkmppmicjoaaSetS
namespace Go.Proofs.Ytnhnkmppmicjoaa
open Go Go.RowKit
set_option linter.unusedSimpArgs false
set_option linter.unusedVariables false
set_option maxRecDepth 100000
attribute [local go_sem ↓ high] eq_cl neq_cl eq_pt neq_pt
theorem insert_any (B : Nat) (A : Option Addr) (n c k vc : Nat) (l : List (Int × Int × Int)) (x y s : Int) (w : World) (hB : B ≤ w.heap.size) (hO : Own encC 3 50 B w A n c l) (hk : k ≤ n) (hn : n ≤ 1000000) :
    Calls Try.prog 77 #[.slice A n c, .int .i64 k, .slice (some ⟨w.heap.size, 0, none⟩) 1 vc] (w.alloc (.cells #[.int .i64 x, .int .i64 y, .int .i64 s] 50)) fun e w' => ∃ A' c', e = .returned (.slice A' (n + 1) c') ∧ Rd encC 3 w' A' (n + 1) (l.take k ++ (x, y, s) :: l.drop k) ∧ Below B w w' := by
  by_cases h : k = n
  · subst h
    have := insert_end B A k c vc l x y s w hB hO hn
    rwa [show l.take k ++ (x, y, s) :: l.drop k = l ++ [(x, y, s)] by rw [List.take_of_length_le (by rw [hO.len]; omega), List.drop_of_length_le (by rw [hO.len]; omega)]]
  · obtain ⟨g, rfl⟩ := own_g hO (by omega)
    obtain ⟨_, _, _, hnc, _⟩ := own_block hO
    by_cases h2 : c = n
    · subst h2
      exact insert_grow B g c k vc l x y s w hB hO (by omega) hn
    · exact insert_room B g n c k vc l x y s w hB hO (by omega) hn (by omega)
theorem own_row3 {e : TypeId} {B g n c : Nat} {w : World} {l : List (Int × Int × Int)} (h : Own encC 3 e B w (some ⟨g, 0, none⟩) n c l) {i : Nat} (hi : i < n) (x y s : Int) : Own encC 3 e B (((w.setCell ⟨g, i * 3, none⟩ (.int .i64 x)).setCell ⟨g, i * 3 + 1, none⟩ (.int .i64 y)).setCell ⟨g, i * 3 + 2, none⟩ (.int .i64 s)) (some ⟨g, 0, none⟩) n c (l.set i (x, y, s)) := by
  have hl : i < l.length := by rw [h.len]; exact hi
  obtain ⟨a, ha⟩ : ∃ a, l[i]? = some a := ⟨_, List.getElem?_eq_getElem hl⟩
  obtain ⟨a1, a2, a3⟩ := a
  have h1 := own_cell_set encC_len h (j := 0) (by omega) (x := (a1, a2, a3)) (y := (x, a2, a3)) ha (.int .i64 x) rfl
  have h2 := own_cell_set encC_len h1 (j := 1) (by omega) (x := (x, a2, a3)) (y := (x, y, a3)) (List.getElem?_set_self hl) (.int .i64 y) rfl
  have h3 := own_cell_set encC_len h2 (j := 2) (by omega) (x := (x, y, a3)) (y := (x, y, s)) (List.getElem?_set_self (by rw [List.length_set]; exact hl)) (.int .i64 s) rfl
  rw [List.set_set, List.set_set, Nat.add_zero] at h3
  exact h3
set_option maxHeartbeats 4000000 in
theorem pat_Set_bad (A : Option Addr) (n c : Nat) (l : List (Int × Int × Int)) (x y s : Int) (w : World) (hR : Rd encC 3 w A n l) (hn : n ≤ 1000000) (hbad : rightC l = false ∨ (rightC l = true ∧ validB x y = false) ∨ (rightC l = true ∧ validB x y = true ∧ (s < 0 ∨ 8 ≤ s))) :
    Calls Try.prog 51 #[.slice A n c, .int .i64 x, .int .i64 y, .int .i64 s] w fun e w' => ∃ A' n' c', e = .returned (.tuple #[.slice A' n' c', .int .i64 (setE l x y s)]) ∧ Rd encC 3 w' A' n' (setL l x y s) ∧ n' ≤ n + 1 ∧ Below w.heap.size w w' := by
  have hR0 := hR.of (show Below w.heap.size w (w.alloc (.cells #[.int .i64 x, .int .i64 y, .int .i64 s] 50)) from (Below.refl _ _).alloc (Nat.le_refl _) _)
  clear hR
  rcases hbad with hr | ⟨hr, hv⟩ | ⟨hr, hv, hs⟩
  · have HE := Lib.hid (setE_list x y s hr)
    have kR := fun w1 (h1 : Rd encC 3 w1 A n l) => pat_RightV (A := A) (n := n) (c := c) hr w1 h1 (by omega)
    clear hr
    go_enter Try.func51, Try.ntmps51
    go_wp2_with (first | (go_at_call 39; refine (kR _ hR0).mono ?_; rintro e w1 ⟨rfl, hb1⟩; obtain ⟨hc1, hf1⟩ := bcell hb1; have hs1 := hb1.size; (try simp only [World.size_alloc, World.size_setCell, World.size_drew] at hc1 hf1); (try simp at hs1)))
    go_ret2
    exact ⟨none, 0, 0, ret_pe HE.out.symm, by rw [setL_no HE.out (by omega)]; exact Rd.nil_, by omega, by (repeat' (first | exact Below.refl _ _ | assumption | (refine Below.alloc ?_ ?_ _) | (refine Below.setCell ?_ ?_ _) | (refine Below.drew ?_) | (refine below_drewN ?_ _) | (refine below_after (Ext.below _) ?_ ?_) | (refine below_after (by assumption) ?_ ?_) | (simp; done) | omega | (simp; omega)))⟩
  · have HE := Lib.hid (setE_place s hr hv)
    have kR := fun w1 (h1 : Rd encC 3 w1 A n l) => pat_RightV (A := A) (n := n) (c := c) hr w1 h1 (by omega)
    have kP := fun w1 => pat_placedV hv w1
    clear hr hv
    go_enter Try.func51, Try.ntmps51
    go_wp2_with (first | (go_at_call 39; refine (kR _ hR0).mono ?_; rintro e w1 ⟨rfl, hb1⟩; obtain ⟨hc1, hf1⟩ := bcell hb1; have hs1 := hb1.size; (try simp only [World.size_alloc, World.size_setCell, World.size_drew] at hc1 hf1); (try simp at hs1)) | (go_at_call 64; refine (pat_at _ _ _ _).mono ?_; rintro e w2 ⟨rfl, hb2⟩; obtain ⟨hc2, hf2⟩ := bcell hb2; have hs2 := hb2.size; (try simp only [World.size_alloc, World.size_setCell, World.size_drew] at hc2 hf2); (try simp at hs2)) | (go_at_call 63; refine (kP _).mono ?_; rintro e w3 ⟨rfl, hb3⟩; obtain ⟨hc3, hf3⟩ := bcell hb3; have hs3 := hb3.size; (try simp only [World.size_alloc, World.size_setCell, World.size_drew] at hc3 hf3); (try simp at hs3)))
    go_ret2
    exact ⟨none, 0, 0, ret_pe HE.out.symm, by rw [setL_no HE.out (by omega)]; exact Rd.nil_, by omega, by (repeat' (first | exact Below.refl _ _ | assumption | (refine Below.alloc ?_ ?_ _) | (refine Below.setCell ?_ ?_ _) | (refine Below.drew ?_) | (refine below_drewN ?_ _) | (refine below_after (Ext.below _) ?_ ?_) | (refine below_after (by assumption) ?_ ?_) | (simp; done) | omega | (simp; omega)))⟩
  · have HE := Lib.hid (setE_state hr hv hs)
    have kR := fun w1 (h1 : Rd encC 3 w1 A n l) => pat_RightV (A := A) (n := n) (c := c) hr w1 h1 (by omega)
    have kP := fun w1 => pat_placedV hv w1
    clear hr hv
    by_cases h0 : s < 0
    · have d1 : decide (s < 0) = true := decide_eq_true h0
      clear hs h0
      go_enter Try.func51, Try.ntmps51
      go_wp2_with (first | (go_at_call 39; refine (kR _ hR0).mono ?_; rintro e w1 ⟨rfl, hb1⟩; obtain ⟨hc1, hf1⟩ := bcell hb1; have hs1 := hb1.size; (try simp only [World.size_alloc, World.size_setCell, World.size_drew] at hc1 hf1); (try simp at hs1)) | (go_at_call 64; refine (pat_at _ _ _ _).mono ?_; rintro e w2 ⟨rfl, hb2⟩; obtain ⟨hc2, hf2⟩ := bcell hb2; have hs2 := hb2.size; (try simp only [World.size_alloc, World.size_setCell, World.size_drew] at hc2 hf2); (try simp at hs2)) | (go_at_call 63; refine (kP _).mono ?_; rintro e w3 ⟨rfl, hb3⟩; obtain ⟨hc3, hf3⟩ := bcell hb3; have hs3 := hb3.size; (try simp only [World.size_alloc, World.size_setCell, World.size_drew] at hc3 hf3); (try simp at hs3)))
      go_ret2
      exact ⟨none, 0, 0, ret_pe HE.out.symm, by rw [setL_no HE.out (by omega)]; exact Rd.nil_, by omega, by (repeat' (first | exact Below.refl _ _ | assumption | (refine Below.alloc ?_ ?_ _) | (refine Below.setCell ?_ ?_ _) | (refine Below.drew ?_) | (refine below_drewN ?_ _) | (refine below_after (Ext.below _) ?_ ?_) | (refine below_after (by assumption) ?_ ?_) | (simp; done) | omega | (simp; omega)))⟩
    · have d1 : decide (s < 0) = false := decide_eq_false h0
      have d2 : decide (8 ≤ s) = true := decide_eq_true (by omega)
      clear hs h0
      go_enter Try.func51, Try.ntmps51
      go_wp2_with (first | (go_at_call 39; refine (kR _ hR0).mono ?_; rintro e w1 ⟨rfl, hb1⟩; obtain ⟨hc1, hf1⟩ := bcell hb1; have hs1 := hb1.size; (try simp only [World.size_alloc, World.size_setCell, World.size_drew] at hc1 hf1); (try simp at hs1)) | (go_at_call 64; refine (pat_at _ _ _ _).mono ?_; rintro e w2 ⟨rfl, hb2⟩; obtain ⟨hc2, hf2⟩ := bcell hb2; have hs2 := hb2.size; (try simp only [World.size_alloc, World.size_setCell, World.size_drew] at hc2 hf2); (try simp at hs2)) | (go_at_call 63; refine (kP _).mono ?_; rintro e w3 ⟨rfl, hb3⟩; obtain ⟨hc3, hf3⟩ := bcell hb3; have hs3 := hb3.size; (try simp only [World.size_alloc, World.size_setCell, World.size_drew] at hc3 hf3); (try simp at hs3)))
      go_ret2
      exact ⟨none, 0, 0, ret_pe HE.out.symm, by rw [setL_no HE.out (by omega)]; exact Rd.nil_, by omega, by (repeat' (first | exact Below.refl _ _ | assumption | (refine Below.alloc ?_ ?_ _) | (refine Below.setCell ?_ ?_ _) | (refine Below.drew ?_) | (refine below_drewN ?_ _) | (refine below_after (Ext.below _) ?_ ?_) | (refine below_after (by assumption) ?_ ?_) | (simp; done) | omega | (simp; omega)))⟩
/-- What a search says of the pattern that Set returns. -/
theorem setR_there {l : List (Int × Int × Int)} {x y s t : Int} {k : Nat} (hS : SSC l) (hlo : loTo l (x, y, s) k) (hk : l[k]? = some (x, y, t)) : setR l x y s = if 0 < s then l.set k (x, y, s) else l.take k ++ l.drop (k + 1) := by
  obtain ⟨e1, e2⟩ := set_there hS hlo hk
  unfold setR
  split
  · rw [e2, set_at hk]
  · exact e1
theorem setR_none {l : List (Int × Int × Int)} {x y s : Int} {k : Nat} (hS : SSC l) (hlo : loTo l (x, y, s) k) (hhi : hiTo l (x, y, s) k) (hno : fdAt l x y k false) : setR l x y s = if 0 < s then l.take k ++ (x, y, s) :: l.drop k else l := by
  obtain ⟨e1, e2⟩ := set_none hS hlo hhi fun t ht => by have := hno.2 ⟨t, ht⟩; cases this
  unfold setR
  split
  · exact e2
  · exact e1
set_option maxHeartbeats 8000000 in
theorem pat_Set_good (A : Option Addr) (n c : Nat) (l : List (Int × Int × Int)) (x y s : Int) (w : World) (hR : Rd encC 3 w A n l) (hr : rightC l = true) (hv : validB x y = true) (h1 : 0 ≤ s) (h2 : s ≤ 7) :
    Calls Try.prog 51 #[.slice A n c, .int .i64 x, .int .i64 y, .int .i64 s] w fun e w' => ∃ A' n' c', e = .returned (.tuple #[.slice A' n' c', .int .i64 (setE l x y s)]) ∧ Rd encC 3 w' A' n' (setL l x y s) ∧ n' ≤ n + 1 ∧ Below w.heap.size w w' := by
  have hR0 := hR.of (show Below w.heap.size w (w.alloc (.cells #[.int .i64 x, .int .i64 y, .int .i64 s] 50)) from (Below.refl _ _).alloc (Nat.le_refl _) _)
  have hlen := hR.len
  clear hR
  have hS := rightC_sorted hr
  have hn5 : n ≤ 5000 := by rw [← hlen]; exact (rightC_ok hr).1
  have HS := Lib.hid hS
  have HZ := Lib.hid (fun h5 => setE_size hr hv h1 h2 h5)
  have HK := Lib.hid (fun h5 => setE_ok hr hv h1 h2 h5)
  have kR := fun w1 (h1 : Rd encC 3 w1 A n l) => pat_RightV (A := A) (n := n) (c := c) hr w1 h1 (by omega)
  have kP := fun w1 => pat_placedV hv w1
  have d1 : decide (s < 0) = false := decide_eq_false (by omega)
  have d2 : decide (8 ≤ s) = false := decide_eq_false (by omega)
  have HLen := Lib.hid hlen
  clear hr hv hS hlen
  go_enter Try.func51, Try.ntmps51
  go_wp2_with (first | (go_at_call 39; refine (kR _ hR0).mono ?_; rintro e w1 ⟨rfl, hb1⟩; obtain ⟨hc1, hf1⟩ := bcell hb1; have hs1 := hb1.size; (try simp only [World.size_alloc, World.size_setCell, World.size_drew] at hc1 hf1); (try simp at hs1)) | (go_at_call 64; refine (pat_at _ _ _ _).mono ?_; rintro e w2 ⟨rfl, hb2⟩; obtain ⟨hc2, hf2⟩ := bcell hb2; have hs2 := hb2.size; (try simp only [World.size_alloc, World.size_setCell, World.size_drew] at hc2 hf2); (try simp at hs2)) | (go_at_call 63; refine (kP _).mono ?_; rintro e w3 ⟨rfl, hb3⟩; obtain ⟨hc3, hf3⟩ := bcell hb3; have hs3 := hb3.size; (try simp only [World.size_alloc, World.size_setCell, World.size_drew] at hc3 hf3); (try simp at hs3)))
  have hB3 : Below w.heap.size w w3 := by (repeat' (first | exact Below.refl _ _ | assumption | (refine Below.alloc ?_ ?_ _) | (refine Below.setCell ?_ ?_ _) | (refine Below.drew ?_) | (refine below_drewN ?_ _) | (refine below_after (Ext.below _) ?_ ?_) | (refine below_after (by assumption) ?_ ?_) | (simp; done) | omega | (simp; omega)))
  have hc0 : w3.cell? ⟨w.heap.size, 0, none⟩ = some (.int .i64 x) ∧ w3.cell? ⟨w.heap.size, 1, none⟩ = some (.int .i64 y) ∧ w3.cell? ⟨w.heap.size, 2, none⟩ = some (.int .i64 s) := by
    refine ⟨?_, ?_, ?_⟩ <;> simp [*, ↓IntWalk.iteOmega]
  have hR3 : Rd encC 3 w3 A n l := ((hR0.of hb1).of (by first | exact hb2 | assumption)).of hb3
  have hs1 := hB3.size
  clear hc1 hf1 hc2 hf2 hc3 hf3 hb1 hb2 hb3 kR kP hR0
  obtain ⟨q0, q1, q2⟩ := hc0
  go_wp2_with fail
  go_at_call 74
  refine (search_order A n c l x y s w3 hR3 (by omega) HS.out).mono ?_
  rintro e w4 ⟨k, q, rfl, hk, hlo, hhi, hfd, hb4⟩
  have HLo := Lib.hid hlo
  have HHi := Lib.hid hhi
  have HFd := Lib.hid hfd
  have hR4 := hR3.of hb4
  have hs4 := hb4.size
  have p0 : w4.cell? ⟨w.heap.size, 0, none⟩ = some (.int .i64 x) := (hb4.cell (p := ⟨w.heap.size, 0, none⟩) (by show w.heap.size < _; omega)).trans q0
  have p1 : w4.cell? ⟨w.heap.size, 1, none⟩ = some (.int .i64 y) := (hb4.cell (p := ⟨w.heap.size, 1, none⟩) (by show w.heap.size < _; omega)).trans q1
  have p2 : w4.cell? ⟨w.heap.size, 2, none⟩ = some (.int .i64 s) := (hb4.cell (p := ⟨w.heap.size, 2, none⟩) (by show w.heap.size < _; omega)).trans q2
  have hB4 : Below w.heap.size w w4 := below_after hb4 hB3 (by omega)
  clear hlo hhi hfd hb4 hB3 hR3 q0 q1 q2
  go_wp2_with fail
  go_at_call 75
  refine (clone_ce A n c l w4 hR4 (by omega)).mono ?_
  rintro e w5 ⟨A5, c5, rfl, hO5, hb5⟩
  have hs5 := hb5.size
  have q0 : w5.cell? ⟨w.heap.size, 0, none⟩ = some (.int .i64 x) := (hb5.cell (p := ⟨w.heap.size, 0, none⟩) (by show w.heap.size < _; omega)).trans p0
  have q1 : w5.cell? ⟨w.heap.size, 1, none⟩ = some (.int .i64 y) := (hb5.cell (p := ⟨w.heap.size, 1, none⟩) (by show w.heap.size < _; omega)).trans p1
  have q2 : w5.cell? ⟨w.heap.size, 2, none⟩ = some (.int .i64 s) := (hb5.cell (p := ⟨w.heap.size, 2, none⟩) (by show w.heap.size < _; omega)).trans p2
  have hB5 : Below w.heap.size w w5 := below_after hb5 hB4 (by omega)
  clear hb5 hB4 hR4 p0 p1 p2
  cases q with
  | true =>
    obtain ⟨t, ht⟩ := HFd.out.1 rfl
    have hkn : k < n := by rw [← HLen.out]; exact (List.getElem?_eq_some_iff.1 ht).1
    have HSR := Lib.hid (setR_there (s := s) HS.out HLo.out ht)
    have HT := Lib.hid ht
    clear ht
    obtain ⟨g, rfl⟩ := own_g hO5 (by omega)
    by_cases h0 : s = 0
    · subst h0
      have HQ := Lib.hid (show setR l x y 0 = l.take k ++ l.drop (k + 1) by rw [HSR.out, if_neg (by omega)])
      have HE := Lib.hid (HK.out (by rw [HQ.out]; have := (set_len (s := 0) HT.out).1; rw [HLen.out] at this; omega))
      clear HSR
      go_wp2_with fail
      go_at_call 76
      refine (delete_ce w4.heap.size g n c5 k l w5 hO5 hkn (by omega)).mono ?_
      rintro e w6 ⟨rfl, hR6, hb6⟩
      go_wp2
      go_ret2
      exact ⟨_, _, _, ret_pe HE.out.symm, by rw [setL_ok HE.out, HQ.out]; exact hR6, by omega, hB5.trans (hb6.mono (by omega))⟩
    · have e0 : (s == 0) = false := by simp only [beq_eq_false_iff_ne, ne_eq]; exact h0
      have HQ := Lib.hid (show setR l x y s = l.set k (x, y, s) by rw [HSR.out, if_pos (by omega)])
      have HE := Lib.hid (HK.out (by rw [HQ.out, List.length_set, HLen.out]; exact hn5))
      obtain ⟨_, _, _, f0, f1, f2⟩ := rd_ce_own hO5 hkn HT.out
      have HO6 := Lib.hid (own_row3 hO5 hkn x y s)
      clear HSR h0
      go_wp2_with fail
      go_ret2
      have hgw := (own_lt hO5).1
      exact ⟨_, _, _, ret_pe HE.out.symm, by rw [setL_ok HE.out, HQ.out]; exact HO6.out.rd encC_len, by omega, ((hB5.setCell (by simp; omega) _).setCell (by simp; omega) _).setCell (by simp; omega) _⟩
  | false =>
    have HSR := Lib.hid (setR_none (s := s) HS.out HLo.out HHi.out HFd.out)
    by_cases h0 : s = 0
    · subst h0
      have HQ := Lib.hid (show setR l x y 0 = l by rw [HSR.out, if_neg (by omega)])
      have HE := Lib.hid (HK.out (by rw [HQ.out, HLen.out]; exact hn5))
      clear HSR
      go_wp2_with fail
      go_ret2
      exact ⟨_, _, _, ret_pe HE.out.symm, by rw [setL_ok HE.out, HQ.out]; exact hO5.rd encC_len, by omega, hB5⟩
    · have e0 : (s == 0) = false := by simp only [beq_eq_false_iff_ne, ne_eq]; exact h0
      have e1 : (s != 0) = true := by simp only [bne_iff_ne, ne_eq]; exact h0
      have HQ := Lib.hid (show setR l x y s = l.take k ++ (x, y, s) :: l.drop k by rw [HSR.out, if_pos (by omega)])
      have hql : (setR l x y s).length = n + 1 := by rw [HQ.out]; simp only [List.length_append, List.length_take, List.length_drop, List.length_cons, HLen.out]; omega
      clear HSR h0
      by_cases h5 : n < 5000
      · have d5 : decide ((5000 : Int) ≤ (n : Int)) = false := decide_eq_false (by omega)
        have HE := Lib.hid (HK.out (by rw [hql]; omega))
        clear hql
        go_wp2_with fail
        go_at_call 77
        refine (insert_any w4.heap.size A5 n c5 k _ l x y s w5 (by omega) hO5 hk (by omega)).mono ?_
        rintro e w6 ⟨A6, c6, rfl, hR6, hb6⟩
        go_wp2
        go_ret2
        exact ⟨_, _, _, ret_pe HE.out.symm, by rw [setL_ok HE.out, HQ.out]; exact hR6, by omega, hB5.trans (hb6.mono (by omega))⟩
      · have d5 : decide ((5000 : Int) ≤ (n : Int)) = true := decide_eq_true (by omega)
        have HE := Lib.hid (HZ.out (by rw [hql]; omega))
        clear hql
        go_wp2_with fail
        go_ret2
        exact ⟨none, 0, 0, ret_pe HE.out.symm, by rw [setL_no HE.out (by omega)]; exact Rd.nil_, by omega, hB5⟩
theorem pat_Set (A : Option Addr) (n c : Nat) (l : List (Int × Int × Int)) (x y s : Int) (w : World) (hR : Rd encC 3 w A n l) (hn : n ≤ 1000000) :
    Calls Try.prog 51 #[.slice A n c, .int .i64 x, .int .i64 y, .int .i64 s] w fun e w' => ∃ A' n' c', e = .returned (.tuple #[.slice A' n' c', .int .i64 (setE l x y s)]) ∧ Rd encC 3 w' A' n' (setL l x y s) ∧ n' ≤ n + 1 ∧ Below w.heap.size w w' := by
  cases hr : rightC l with
  | false => exact pat_Set_bad A n c l x y s w hR hn (.inl hr)
  | true =>
    cases hv : validB x y with
    | false => exact pat_Set_bad A n c l x y s w hR hn (.inr (.inl ⟨hr, hv⟩))
    | true =>
      by_cases hs : s < 0 ∨ 8 ≤ s
      · exact pat_Set_bad A n c l x y s w hR hn (.inr (.inr ⟨hr, hv, hs⟩))
      · exact pat_Set_good A n c l x y s w hR hr hv (by omega) (by omega)
end Go.Proofs.Ytnhnkmppmicjoaa
