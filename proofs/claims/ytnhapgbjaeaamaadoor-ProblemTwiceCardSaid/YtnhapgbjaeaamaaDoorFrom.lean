/- The contract of pattern.From. -/
import Derived.Test.YtnhapgbjaeaamaaDoorSortC
import Derived.Test.YtnhapgbjaeaamaaDoorCell7
import Derived.Test.YtnhapgbjaeaamaaDoorMEM
namespace Go.Proofs.YtnhapgbjaeaamaaDoor
open Go Go.RowKit
set_option linter.unusedSimpArgs false
set_option linter.unusedVariables false
set_option maxRecDepth 100000
attribute [local go_sem ↓ high] eq_cl neq_cl eq_pt neq_pt
/-- All cells ahead of j are good. -/
def gdTo (l : List (Int × Int × Int)) (j : Nat) : Prop := ∀ i d, i < j → l[i]? = some d → frBad d = 0
theorem gdTo_step {l : List (Int × Int × Int)} {j : Nat} {c : Int × Int × Int} (h : gdTo l j) (hx : l[j]? = some c) (hb : frBad c = 0) : gdTo l (j + 1) := by
  intro i d hi hd
  by_cases e : i = j
  · rw [e, hx] at hd; cases hd; exact hb
  · exact h i d (by omega) hd
theorem gdTo_all {l : List (Int × Int × Int)} {n : Nat} (hl : l.length = n) (h : gdTo l n) : frFirst l = 0 :=
  frFirst_good fun i d hd => h i d (by rw [← hl]; exact (List.getElem?_eq_some_iff.1 hd).1) hd
theorem frBad_place {x y s : Int} (h : validB x y = false) : frBad (x, y, s) = 5 := by unfold frBad; rw [if_neg (by rw [h]; simp)]
theorem frBad_state {x y s : Int} (h : validB x y = true) (hs : s < 0 ∨ 8 ≤ s) : frBad (x, y, s) = 10 := by unfold frBad; rw [if_pos h, if_neg (by simp only; omega)]
theorem frBad_ok {x y s : Int} (h : validB x y = true) (h1 : 0 ≤ s) (h2 : s ≤ 7) : frBad (x, y, s) = 0 := by unfold frBad; rw [if_pos h, if_pos ⟨h1, h2⟩]
theorem nz_no {l : List (Int × Int × Int)} {j : Nat} {x y s : Int} (h : l[j]? = some (x, y, s)) (hs : ¬ 0 < s) : nz (l.take (j + 1)) = nz (l.take j) := by
  rw [nz_step h, if_neg (by unfold nzC; simpa using hs), List.append_nil]
theorem nz_yes {l : List (Int × Int × Int)} {j : Nat} {x y s : Int} (h : l[j]? = some (x, y, s)) (hs : 0 < s) : nz (l.take (j + 1)) = nz (l.take j) ++ [(x, y, s)] := by
  rw [nz_step h, if_pos (by unfold nzC; simpa using hs)]
/-- No two neighbours ahead of k stand at one position. -/
def dsTo (l : List (Int × Int × Int)) (k : Nat) : Prop := ∀ j a b, j + 1 < k → l[j]? = some a → l[j + 1]? = some b → posD a ≠ posD b
theorem dsTo_step {l : List (Int × Int × Int)} {k : Nat} {a b : Int × Int × Int} (h : dsTo l k) (hk : 1 ≤ k) (ha : l[k - 1]? = some a) (hb : l[k]? = some b) (hne : posD a ≠ posD b) : dsTo l (k + 1) := by
  intro j p q hj hp hq
  by_cases e : j + 1 = k
  · subst e
    rw [Nat.add_sub_cancel, hp] at ha
    rw [hq] at hb
    cases ha; cases hb; exact hne
  · exact h j p q (by omega) hp hq
theorem own_g {α : Type} {enc : α → List Value} {k : Nat} {e : TypeId} {B : Nat} {w : World} {A : Option Addr} {n c : Nat} {l : List α} (h : Own enc k e B w A n c l) (hn : 0 < n) : ∃ g, A = some ⟨g, 0, none⟩ := by
  rcases h.row.2 with ⟨_, h0⟩ | ⟨g, cap, cur, hv, _⟩
  · omega
  · injection hv with hv; exact ⟨g, hv⟩
set_option maxHeartbeats 4000000 in
theorem pat_FromN (A : Option Addr) (n c : Nat) (l : List (Int × Int × Int)) (w : World) (hR : Rd encC 3 w A n l) (hn : n ≤ 1000000) :
    Calls Tryd.prog 58 #[.slice A n c] w fun e w' => ∃ A' n' c', e = .returned (.tuple #[.slice A' n' c', .int .i64 (frE l)]) ∧ NewP w.heap.size w' A' n' c' (frL l) ∧ n' ≤ n ∧ Below w.heap.size w w' := by
  go_enter Tryd.func58, Tryd.ntmps58
  go_wp2
  go_loopw [4, 10] (fun v i wr => ∃ (B : Option Addr) (m d j : Nat), v = .slice B m d ∧ i = .int .i64 j ∧ j ≤ n ∧ m ≤ j ∧ Own encC 3 40 w.heap.size wr B m d (nz (l.take j)) ∧ Hid (gdTo l j) ∧ Below w.heap.size w wr) (fun _ i _ => n - (intOf i).toNat)
  case atStart => exact ⟨none, 0, 0, 0, rfl, rfl, by omega, by omega, Own.nil_, (fun i d hi => absurd hi (by omega)), Below.refl _ _⟩
  case round =>
    obtain ⟨B, m, d, j, rfl, rfl, hj, hm, hown, hgd, hb⟩ := hrel
    obtain ⟨hc, hf⟩ := bcell hb
    have hs := hb.size
    by_cases hlt : j < n
    · obtain ⟨x, y, s, bo, o, hx, rfl, hbl, g1, g2, g3⟩ := hR.cell hlt
      cases hv : validB x y with
      | false =>
        have HE := Lib.hid (frE_first (frFirst_bad hgd.out hx.out (frBad_place hv) (by omega)) (by omega))
        have kP := fun w1 => pat_placedV hv w1
        clear hv
        go_wp2_with fail
        (go_at_call 47; refine (pat_at _ _ _ _).mono ?_; rintro e w3 ⟨rfl, hb3⟩; obtain ⟨hc3, hf3⟩ := bcell hb3; have hs3 := hb3.size; (try simp only [World.size_alloc, World.size_setCell, World.size_drew] at hc3 hf3); (try simp at hs3))
        go_wp2_with fail
        (go_at_call 46; refine (kP _).mono ?_; rintro e w4 ⟨rfl, hb4⟩; obtain ⟨hc4, hf4⟩ := bcell hb4; have hs4 := hb4.size; (try simp only [World.size_alloc, World.size_setCell, World.size_drew] at hc4 hf4); (try simp at hs4))
        go_wp2_with fail
        go_ret2
        exact ⟨none, 0, 0, ret_pe HE.out.symm, by rw [frL_no HE.out (by omega)]; exact NewP.nil_, by omega, by (repeat' (first | exact Below.refl _ _ | assumption | (refine Below.alloc ?_ ?_ _) | (refine Below.setCell ?_ ?_ _) | (refine Below.drew ?_) | (refine below_drewN ?_ _) | (refine below_after (Ext.below _) ?_ ?_) | (refine below_after (by assumption) ?_ ?_) | (simp; done) | omega | (simp; omega)))⟩
      | true =>
        have kP := fun w1 => pat_placedV hv w1
        have hways : (decide (s < 0) = true ∧ (s < 0 ∨ 8 ≤ s)) ∨ (decide (s < 0) = false ∧ decide (8 ≤ s) = true ∧ (s < 0 ∨ 8 ≤ s)) ∨ (decide (s < 0) = false ∧ decide (8 ≤ s) = false ∧ decide (0 < s) = false ∧ ¬ 0 < s ∧ 0 ≤ s ∧ s ≤ 7) ∨ (decide (s < 0) = false ∧ decide (8 ≤ s) = false ∧ decide (0 < s) = true ∧ 0 < s ∧ s ≤ 7) := by
          simp only [decide_eq_true_eq, decide_eq_false_iff_not]; omega
        rcases hways with ⟨d1, hbad⟩ | ⟨d1, d2, hbad⟩ | ⟨d1, d2, d3, h0, h1, h2⟩ | ⟨d1, d2, d3, h1, h2⟩
        · have HE := Lib.hid (frE_first (frFirst_bad hgd.out hx.out (frBad_state hv hbad) (by omega)) (by omega))
          clear hv hbad
          go_wp2_with fail
          (go_at_call 47; refine (pat_at _ _ _ _).mono ?_; rintro e w3 ⟨rfl, hb3⟩; obtain ⟨hc3, hf3⟩ := bcell hb3; have hs3 := hb3.size; (try simp only [World.size_alloc, World.size_setCell, World.size_drew] at hc3 hf3); (try simp at hs3))
          go_wp2_with fail
          (go_at_call 46; refine (kP _).mono ?_; rintro e w4 ⟨rfl, hb4⟩; obtain ⟨hc4, hf4⟩ := bcell hb4; have hs4 := hb4.size; (try simp only [World.size_alloc, World.size_setCell, World.size_drew] at hc4 hf4); (try simp at hs4))
          go_wp2_with fail
          go_ret2
          exact ⟨none, 0, 0, ret_pe HE.out.symm, by rw [frL_no HE.out (by omega)]; exact NewP.nil_, by omega, by (repeat' (first | exact Below.refl _ _ | assumption | (refine Below.alloc ?_ ?_ _) | (refine Below.setCell ?_ ?_ _) | (refine Below.drew ?_) | (refine below_drewN ?_ _) | (refine below_after (Ext.below _) ?_ ?_) | (refine below_after (by assumption) ?_ ?_) | (simp; done) | omega | (simp; omega)))⟩
        · have HE := Lib.hid (frE_first (frFirst_bad hgd.out hx.out (frBad_state hv hbad) (by omega)) (by omega))
          clear hv hbad
          go_wp2_with fail
          (go_at_call 47; refine (pat_at _ _ _ _).mono ?_; rintro e w3 ⟨rfl, hb3⟩; obtain ⟨hc3, hf3⟩ := bcell hb3; have hs3 := hb3.size; (try simp only [World.size_alloc, World.size_setCell, World.size_drew] at hc3 hf3); (try simp at hs3))
          go_wp2_with fail
          (go_at_call 46; refine (kP _).mono ?_; rintro e w4 ⟨rfl, hb4⟩; obtain ⟨hc4, hf4⟩ := bcell hb4; have hs4 := hb4.size; (try simp only [World.size_alloc, World.size_setCell, World.size_drew] at hc4 hf4); (try simp at hs4))
          go_wp2_with fail
          go_ret2
          exact ⟨none, 0, 0, ret_pe HE.out.symm, by rw [frL_no HE.out (by omega)]; exact NewP.nil_, by omega, by (repeat' (first | exact Below.refl _ _ | assumption | (refine Below.alloc ?_ ?_ _) | (refine Below.setCell ?_ ?_ _) | (refine Below.drew ?_) | (refine below_drewN ?_ _) | (refine below_after (Ext.below _) ?_ ?_) | (refine below_after (by assumption) ?_ ?_) | (simp; done) | omega | (simp; omega)))⟩
        · have hst := Lib.hid (nz_no hx.out h0)
          have hg2 := Lib.hid (gdTo_step hgd.out hx.out (frBad_ok hv h1 h2))
          clear hv h0 h1 h2
          go_wp2_with fail
          (go_at_call 47; refine (pat_at _ _ _ _).mono ?_; rintro e w3 ⟨rfl, hb3⟩; obtain ⟨hc3, hf3⟩ := bcell hb3; have hs3 := hb3.size; (try simp only [World.size_alloc, World.size_setCell, World.size_drew] at hc3 hf3); (try simp at hs3))
          go_wp2_with fail
          (go_at_call 46; refine (kP _).mono ?_; rintro e w4 ⟨rfl, hb4⟩; obtain ⟨hc4, hf4⟩ := bcell hb4; have hs4 := hb4.size; (try simp only [World.size_alloc, World.size_setCell, World.size_drew] at hc4 hf4); (try simp at hs4))
          go_wp2_with fail
          go_roundw
          case rel => exact ⟨B, m, d, j + 1, rfl, by go_num, by omega, by omega, by rw [hst.out]; exact hown.of (show Below wr.heap.size wr w4 from by (repeat' (first | exact Below.refl _ _ | assumption | (refine Below.alloc ?_ ?_ _) | (refine Below.setCell ?_ ?_ _) | (refine Below.drew ?_) | (refine below_drewN ?_ _) | (refine below_after (Ext.below _) ?_ ?_) | (refine below_after (by assumption) ?_ ?_) | (simp; done) | omega | (simp; omega)))), hg2, by (repeat' (first | exact Below.refl _ _ | assumption | (refine Below.alloc ?_ ?_ _) | (refine Below.setCell ?_ ?_ _) | (refine Below.drew ?_) | (refine below_drewN ?_ _) | (refine below_after (Ext.below _) ?_ ?_) | (refine below_after (by assumption) ?_ ?_) | (simp; done) | omega | (simp; omega)))⟩
          case measure => simp [intOf]; omega
        · have hst := Lib.hid (nz_yes hx.out h1)
          have hg2 := Lib.hid (gdTo_step hgd.out hx.out (frBad_ok hv (by omega) h2))
          clear hv h1 h2
          go_wp2_with fail
          (go_at_call 47; refine (pat_at _ _ _ _).mono ?_; rintro e w3 ⟨rfl, hb3⟩; obtain ⟨hc3, hf3⟩ := bcell hb3; have hs3 := hb3.size; (try simp only [World.size_alloc, World.size_setCell, World.size_drew] at hc3 hf3); (try simp at hs3))
          go_wp2_with fail
          (go_at_call 46; refine (kP _).mono ?_; rintro e w4 ⟨rfl, hb4⟩; obtain ⟨hc4, hf4⟩ := bcell hb4; have hs4 := hb4.size; (try simp only [World.size_alloc, World.size_setCell, World.size_drew] at hc4 hf4); (try simp at hs4))
          go_wp2_with (first | (at_builtin; refine wpList_append_el rfl (.tmp 32) (.tmp 34) 30 rfl encC 3 40 (.agg #[.int .i64 0, .int .i64 0, .int .i64 0]) 24 Tryd.underlying30 (by kernel_rfl) rfl (by decide) encC_len encC_one (w.heap.size) _ _ _ _ rfl ((hown.of (show Below wr.heap.size wr w4 from by (repeat' (first | exact Below.refl _ _ | assumption | (refine Below.alloc ?_ ?_ _) | (refine Below.setCell ?_ ?_ _) | (refine Below.drew ?_) | (refine below_drewN ?_ _) | (refine below_after (Ext.below _) ?_ ?_) | (refine below_after (by assumption) ?_ ?_) | (simp; done) | omega | (simp; omega))))).alloc _) (x, y, s) ⟨(w4).heap.size, 0, none⟩ 1 rfl (cells_new (w4) _ _) (by omega) (by omega) (by first | omega | (simp; done) | (simp; omega)) ?_; intro A5 c5 w5 hown5 hg5 hb5; obtain ⟨hc5, hf5⟩ := bcell hb5; have hs5 := hb5.size; (try simp only [World.size_alloc, World.size_setCell, World.size_drew] at hc5 hf5); (try simp at hs5)))
          go_roundw
          case rel => exact ⟨A5, m + 1, c5, j + 1, rfl, by go_num, by omega, by omega, by rw [hst.out]; exact hown5, hg2, by (repeat' (first | exact Below.refl _ _ | assumption | (refine Below.alloc ?_ ?_ _) | (refine Below.setCell ?_ ?_ _) | (refine Below.drew ?_) | (refine below_drewN ?_ _) | (refine below_after (Ext.below _) ?_ ?_) | (refine below_after (by assumption) ?_ ?_) | (simp; done) | omega | (simp; omega)))⟩
          case measure => simp [intOf]; omega
    · obtain rfl : j = n := by omega
      have hF := Lib.hid (gdTo_all hR.len hgd.out)
      have ht : l.take j = l := List.take_of_length_le (by rw [hR.len]; omega)
      rw [ht] at hown
      have hlen := Lib.hid hown.len
      clear ht
      go_wp2_with fail
      go_at_call 64
      refine (sort_order w.heap.size _ _ _ _ _ hown hs (by omega)).mono ?_
      rintro e w2 ⟨rfl, l', hown2, hperm, hwc, hb2⟩
      have hB2 : Below w.heap.size w w2 := hb.trans hb2
      have hP := Lib.hid hperm
      have hW := Lib.hid hwc
      have hl' := Lib.hid hown2.len
      clear hown hb hb2 hc hf hs hperm hwc
      go_wp2
      go_loopw [7] (fun i wr => ∃ k : Nat, i = .int .i64 k ∧ 1 ≤ k ∧ (k ≤ m ∨ k = 1) ∧ Hid (dsTo l' k) ∧ Own encC 3 40 w.heap.size wr B m d l' ∧ Below w.heap.size w wr) (fun i _ => m - (intOf i).toNat)
      case atStart => exact ⟨1, rfl, by omega, by omega, (fun j a b hj => absurd hj (by omega)), hown2, hB2⟩
      case round =>
        obtain ⟨k, rfl, hk1, hkm, hds, hown, hb⟩ := hrel
        have hs := hb.size
        by_cases hlt2 : k < m
        · have dk : decide ((k : Int) < m) = true := decide_eq_true (by omega)
          obtain ⟨g, rfl⟩ := own_g hown (by omega)
          have hgs := (own_lt hown).2
          obtain ⟨p, hp⟩ : ∃ p, l'[k - 1]? = some p := ⟨_, List.getElem?_eq_getElem (by rw [hl'.out]; omega)⟩
          obtain ⟨q, hq⟩ : ∃ q, l'[k]? = some q := ⟨_, List.getElem?_eq_getElem (by rw [hl'.out]; omega)⟩
          obtain ⟨px, py, ps⟩ := p
          obtain ⟨qx, qy, qs⟩ := q
          obtain ⟨p1, p2, p3, _, _, _⟩ := rd_ce_own hown (i := k - 1) (by omega) hp
          obtain ⟨q1, q2, q3, _, _, _⟩ := rd_ce_own hown hlt2 hq
          have hkm : ((k : Int) - 1).toNat = k - 1 := by omega
          have hk0 : (0 : Int) ≤ (k : Int) - 1 := by omega
          have wk : IntKind.i64.wrap ((k : Int) - 1) = (k : Int) - 1 := IntWalk.i64_in _ (by omega)
          by_cases hdup : px = qx ∧ py = qy
          · obtain ⟨rfl, rfl⟩ := hdup
            have HE := Lib.hid (frE_twice hF.out (sorted_twice (a := (px, py, ps)) (b := (px, py, qs)) hP.out hW.out hp (show l'[k - 1 + 1]? = _ by rw [show k - 1 + 1 = k by omega]; exact hq) rfl))
            clear hp hq
            go_wp2_with fail
            (refine wp_region_ext_lit (by kernel_rfl) (by kernel_rfl) ?_; (repeat (go_big_quiet_step ((go_at_call 47; exact calls_ext (pat_at _ _ _ _))))); refine wpQuiet_nil ?_; intro _ hw'; obtain ⟨z1, hw''⟩ := hw'; subst hw''; have hs1 := z1.size; obtain ⟨hc1, hf1⟩ := bcell z1.below; (try simp only [World.size_alloc, World.size_setCell, World.size_drew] at hc1 hf1); (try simp at hs1))
            go_wp2
            go_ret2
            exact ⟨none, 0, 0, ret_pe HE.out.symm, by rw [frL_no HE.out (by omega)]; exact NewP.nil_, by omega, by (repeat' (first | exact Below.refl _ _ | assumption | (refine Below.alloc ?_ ?_ _) | (refine Below.setCell ?_ ?_ _) | (refine Below.drew ?_) | (refine below_drewN ?_ _) | (refine below_after (Ext.below _) ?_ ?_) | (refine below_after (by assumption) ?_ ?_) | (simp; done) | omega | (simp; omega)))⟩
          · have hd : decide (px = qx ∧ py = qy) = false := decide_eq_false hdup
            have HD := Lib.hid (dsTo_step hds.out hk1 hp hq (fun e => hdup (by unfold posD at e; injection e with e1 e2; exact ⟨e1, e2⟩)))
            clear hp hq hdup
            go_wp2_with fail
            (refine wp_region_ext_lit (by kernel_rfl) (by kernel_rfl) ?_; (repeat (go_big_quiet_step ((go_at_call 47; exact calls_ext (pat_at _ _ _ _))))); refine wpQuiet_nil ?_; intro _ hw'; obtain ⟨z1, hw''⟩ := hw'; subst hw''; have hs1 := z1.size; obtain ⟨hc1, hf1⟩ := bcell z1.below; (try simp only [World.size_alloc, World.size_setCell, World.size_drew] at hc1 hf1); (try simp at hs1))
            go_wp2
            go_roundw
            case rel => exact ⟨k + 1, by go_num, by omega, by omega, HD, hown.of z1.below, by (repeat' (first | exact Below.refl _ _ | assumption | (refine Below.alloc ?_ ?_ _) | (refine Below.setCell ?_ ?_ _) | (refine Below.drew ?_) | (refine below_drewN ?_ _) | (refine below_after (Ext.below _) ?_ ?_) | (refine below_after (by assumption) ?_ ?_) | (simp; done) | omega | (simp; omega)))⟩
            case measure => simp [intOf]; omega
        · have dk : decide ((k : Int) < m) = false := decide_eq_false (by omega)
          have hfin := sorted_distinct hP.out hW.out (fun j a b ha hb => hds.out j a b (by have := (List.getElem?_eq_some_iff.1 hb).1; rw [hl'.out] at this; omega) ha hb)
          by_cases h5 : m ≤ 5000
          · have d5 : decide ((5000 : Int) < m) = false := decide_eq_false (by omega)
            have HE := Lib.hid (frE_ok hF.out hfin.1 (by rw [hlen.out]; exact h5))
            have HL := Lib.hid hfin.2
            clear hfin
            go_wp2
            go_ret2
            exact ⟨B, m, d, ret_pe HE.out.symm, by rw [frL_ok HE.out, HL.out]; exact NewP.own hown, hm, hb⟩
          · have d5 : decide ((5000 : Int) < m) = true := decide_eq_true (by omega)
            have HE := Lib.hid (frE_size hF.out hfin.1 (by rw [hlen.out]; omega))
            clear hfin
            go_wp2
            go_ret2
            exact ⟨none, 0, 0, ret_pe HE.out.symm, by rw [frL_no HE.out (by omega)]; exact NewP.nil_, by omega, hb⟩
theorem pat_FromC (A : Option Addr) (n c : Nat) (l : List (Int × Int × Int)) (w : World) (hR : Rd encC 3 w A n l) (hn : n ≤ 1000000) :
    Calls Tryd.prog 58 #[.slice A n c] w fun e w' => ∃ A' n' c', e = .returned (.tuple #[.slice A' n' c', .int .i64 (frE l)]) ∧ Rd encC 3 w' A' n' (frL l) ∧ n' ≤ n ∧ n' ≤ c' ∧ Below w.heap.size w w' :=
  (pat_FromN A n c l w hR hn).mono fun _ _ ⟨A', n', c', h1, h2, h3, h4⟩ => ⟨A', n', c', h1, h2.rd, h3, h2.cap, h4⟩
theorem pat_From (A : Option Addr) (n c : Nat) (l : List (Int × Int × Int)) (w : World) (hR : Rd encC 3 w A n l) (hn : n ≤ 1000000) :
    Calls Tryd.prog 58 #[.slice A n c] w fun e w' => ∃ A' n' c', e = .returned (.tuple #[.slice A' n' c', .int .i64 (frE l)]) ∧ Rd encC 3 w' A' n' (frL l) ∧ n' ≤ n ∧ Below w.heap.size w w' :=
  (pat_FromC A n c l w hR hn).mono fun _ _ ⟨A', n', c', h1, h2, h3, _, h4⟩ => ⟨A', n', c', h1, h2, h3, h4⟩
end Go.Proofs.YtnhapgbjaeaamaaDoor
