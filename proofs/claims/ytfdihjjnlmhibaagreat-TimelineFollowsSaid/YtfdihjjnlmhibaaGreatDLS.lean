/- The contracts of the reference's insert and find on changes. The contract of the reference's Of. The contract of the reference's Apply. -/
import Derived.Test.YtfdihjjnlmhibaaGreatCHG
import Derived.Test.YtfdihjjnlmhibaaGreatPLN
import Derived.Test.YtfdihjjnlmhibaaGreatMEM
import Derived.Test.YtfdihjjnlmhibaaGreatSRT
import Derived.Test.YtfdihjjnlmhibaaGreatCEL
import Derived.Deep.RegionHeld3
set_option linter.unusedSimpArgs false
set_option linter.unusedVariables false
section
namespace Go.Proofs.YtfdihjjnlmhibaaGreat
open Go Go.RowKit
set_option maxRecDepth 100000
set_option linter.unusedSimpArgs false
set_option linter.unusedVariables false
attribute [local go_sem ↓ high] eq_cl neq_cl eq_pt neq_pt eq_cg neq_cg
set_option maxHeartbeats 4000000 in
theorem ref53_find (A : Option Addr) (n c : Nat) (l : List (Int × Int × Int × Int)) (x y : Int) (w : World) (hR : Rd encG 4 w A n l) (hn : n ≤ 1000000) :
    Calls Tryz.prog 82 #[.slice A n c, .agg #[.int .i64 x, .int .i64 y]] w fun e w' => ∃ r, e = .returned (.int .i64 r) ∧ decide (r < 0) = !inG l x y ∧ Below w.heap.size w w' := by
  go_enter Tryz.func82, Tryz.ntmps82
  go_wp2
  go_loopw [5] (fun i wr => ∃ j : Nat, i = .int .i64 j ∧ j ≤ n ∧ Hid (∀ (i : Nat) d, i < j → l[i]? = some d → ¬(d.1 = x ∧ d.2.1 = y)) ∧ Below (w.heap.size + 1) (w.alloc (.cells #[.int .i64 x, .int .i64 y] 74)) wr) (fun i _ => n - (intOf i).toNat)
  case atStart => exact ⟨0, rfl, by omega, Lib.hid (fun i d h => absurd h (by omega)), by (repeat' (first | exact Below.refl _ _ | assumption | (refine Below.alloc ?_ ?_ _) | (refine Below.setCell ?_ ?_ _) | (refine Below.drew ?_) | (refine below_drewN ?_ _) | (refine below_after (Ext.below _) ?_ ?_) | (refine below_after (by assumption) ?_ ?_) | (simp; done) | omega | (simp; omega)))⟩
  case round =>
    obtain ⟨j, rfl, hj, hno, hb⟩ := hrel
    obtain ⟨hc, hf⟩ := bcell hb
    have hs := hb.size
    (try simp only [World.size_alloc] at hs)
    by_cases hlt : j < n
    · have dj : decide ((j : Int) < n) = true := decide_eq_true (by omega)
      have dj' : decide (j < n) = true := decide_eq_true hlt
      obtain ⟨x', y', s', t', bo, o, hx, rfl, hbl, g1, g2, g3, g4⟩ := hR.chg hlt
      by_cases he : x' = x ∧ y' = y
      · have hd : decide (x' = x ∧ y' = y) = true := decide_eq_true he
        have HF := Lib.hid (show decide (((j : Nat) : Int) < 0) = !inG l x y by
          rw [inG_iff.2 ⟨s', t', by rw [← he.1, ← he.2]; exact List.mem_of_getElem? hx.out⟩, decide_eq_false (by omega)]; rfl)
        clear he
        go_wp2_with fail
        (refine wp_region_ext_lit (by kernel_rfl) (by kernel_rfl) ?_; (repeat (go_big_quiet_step ((go_at_call 98; exact calls_ext (ref53_place _ _ _ _ _))))); refine wpQuiet_nil ?_; intro _ hw'; obtain ⟨z1, hw''⟩ := hw'; subst hw''; have hs1 := z1.size; obtain ⟨hc1, hf1⟩ := bcell z1.below; (try simp only [World.size_alloc, World.size_setCell, World.size_drew] at hc1 hf1); (try simp at hs1))
        go_wp2
        go_ret
        exact ⟨_, rfl, HF.out, by (repeat' (first | exact Below.refl _ _ | assumption | (refine Below.alloc ?_ ?_ _) | (refine Below.setCell ?_ ?_ _) | (refine Below.drew ?_) | (refine below_drewN ?_ _) | (refine below_after (Ext.below _) ?_ ?_) | (refine below_after (by assumption) ?_ ?_) | (simp; done) | omega | (simp; omega)))⟩
      · have hd : decide (x' = x ∧ y' = y) = false := decide_eq_false he
        have hno2 := Lib.hid (show ∀ (i : Nat) d, i < j + 1 → l[i]? = some d → ¬(d.1 = x ∧ d.2.1 = y) from fun i d hi hd => by
          by_cases e : i = j
          · subst e; rw [hx.out] at hd; cases hd; exact he
          · exact hno.out i d (by omega) hd)
        clear he
        go_wp2_with fail
        (refine wp_region_ext_lit (by kernel_rfl) (by kernel_rfl) ?_; (repeat (go_big_quiet_step ((go_at_call 98; exact calls_ext (ref53_place _ _ _ _ _))))); refine wpQuiet_nil ?_; intro _ hw'; obtain ⟨z1, hw''⟩ := hw'; subst hw''; have hs1 := z1.size; obtain ⟨hc1, hf1⟩ := bcell z1.below; (try simp only [World.size_alloc, World.size_setCell, World.size_drew] at hc1 hf1); (try simp at hs1))
        go_wp2
        go_roundw
        case rel => exact ⟨j + 1, by go_num, by omega, hno2, by (repeat' (first | exact Below.refl _ _ | assumption | (refine Below.alloc ?_ ?_ _) | (refine Below.setCell ?_ ?_ _) | (refine Below.drew ?_) | (refine below_drewN ?_ _) | (refine below_after (Ext.below _) ?_ ?_) | (refine below_after (by assumption) ?_ ?_) | (simp; done) | omega | (simp; omega)))⟩
        case measure => simp [intOf]; omega
    · obtain rfl : j = n := by omega
      have dj : decide ((j : Int) < j) = false := decide_eq_false (by omega)
      have dj' : decide (j < j) = false := decide_eq_false (by omega)
      have HF := Lib.hid (show decide ((-1 : Int) < 0) = !inG l x y by
        have : inG l x y = false := by
          rw [Bool.eq_false_iff]
          intro h
          obtain ⟨f, t, hm⟩ := inG_iff.1 h
          obtain ⟨i, hi⟩ := List.getElem?_of_mem hm
          exact hno.out i _ (by have := (List.getElem?_eq_some_iff.1 hi).1; rw [hR.len] at this; exact this) hi ⟨rfl, rfl⟩
        rw [this]; rfl)
      go_wp2_with fail
      go_ret
      exact ⟨_, rfl, HF.out, by (repeat' (first | exact Below.refl _ _ | assumption | (refine Below.alloc ?_ ?_ _) | (refine Below.setCell ?_ ?_ _) | (refine Below.drew ?_) | (refine below_drewN ?_ _) | (refine below_after (Ext.below _) ?_ ?_) | (refine below_after (by assumption) ?_ ?_) | (simp; done) | omega | (simp; omega)))⟩
end Go.Proofs.YtfdihjjnlmhibaaGreat
end
section
namespace Go.Proofs.YtfdihjjnlmhibaaGreat
open Go Go.RowKit
set_option maxRecDepth 100000
set_option linter.unusedSimpArgs false
set_option linter.unusedVariables false
attribute [local go_sem ↓ high] eq_cl neq_cl eq_pt neq_pt eq_cg neq_cg
theorem FrW.cell3 {W w' : World} {b i1 i2 i3 : Nat} {v1 v2 v3 : Value} (h : FrW W w') (hb : b < W.heap.size) (c1 : W.cell? ⟨b, i1, none⟩ = some v1) (c2 : W.cell? ⟨b, i2, none⟩ = some v2) (c3 : W.cell? ⟨b, i3, none⟩ = some v3) :
    FrW W w' ∧ w'.cell? ⟨b, i1, none⟩ = some v1 ∧ w'.cell? ⟨b, i2, none⟩ = some v2 ∧ w'.cell? ⟨b, i3, none⟩ = some v3 :=
  ⟨h, (h.below.cell (p := ⟨_, _, none⟩) hb).trans c1, (h.below.cell (p := ⟨_, _, none⟩) hb).trans c2, (h.below.cell (p := ⟨_, _, none⟩) hb).trans c3⟩
end Go.Proofs.YtfdihjjnlmhibaaGreat
end
section
namespace Go.Proofs.YtfdihjjnlmhibaaGreat
open Go Go.RowKit
set_option maxRecDepth 100000
set_option linter.unusedSimpArgs false
set_option linter.unusedVariables false
attribute [local go_sem ↓ high] eq_cl neq_cl eq_pt neq_pt eq_cg neq_cg
theorem ap_twoR {p : List (Int × Int × Int)} {l : List (Int × Int × Int × Int)} (h : rightC p = false ∨ rightG l = false) : apE p l = 2 ∧ apL p l = [] := by
  have hn : ¬(rightC p = true ∧ rightG l = true) := by rcases h with h | h <;> simp [h]
  refine ⟨by unfold apE; rw [if_neg hn], by unfold apL; rw [if_neg (fun e => hn ⟨e.1, e.2.1⟩)]⟩
theorem ap_matchR {p : List (Int × Int × Int)} {l : List (Int × Int × Int × Int)} (hp : rightC p = true) (hl : rightG l = true) (h : fitG p l = false) : apE p l = 17 ∧ apL p l = [] := by
  refine ⟨by unfold apE; rw [if_pos ⟨hp, hl⟩, if_neg (by rw [h]; simp)], by unfold apL; rw [if_neg (fun e => by rw [h] at e; cases e.2.2)]⟩
theorem ap_goodR {p : List (Int × Int × Int)} {l : List (Int × Int × Int × Int)} (hp : rightC p = true) (hl : rightG l = true) (h : fitG p l = true) : apE p l = frE (apM p l) ∧ apL p l = frL (apM p l) := by
  refine ⟨by unfold apE; rw [if_pos ⟨hp, hl⟩, if_pos h], by unfold apL; rw [if_pos ⟨hp, hl, h⟩]⟩
theorem fit_noR {p : List (Int × Int × Int)} {l : List (Int × Int × Int × Int)} {j : Nat} {c : Int × Int × Int × Int} (h : l[j]? = some c) (e : getC p c.1 c.2.1 ≠ c.2.2.1) : fitG p l = false := by
  unfold fitG
  rw [List.all_eq_false]
  exact ⟨c, List.mem_of_getElem? h, by simpa using e⟩
theorem fit_yesR {p : List (Int × Int × Int)} {l : List (Int × Int × Int × Int)} (h : ∀ (i : Nat) c, l[i]? = some c → getC p c.1 c.2.1 = c.2.2.1) : fitG p l = true := by
  unfold fitG
  rw [List.all_eq_true]
  intro c hc
  obtain ⟨i, hi⟩ := List.getElem?_of_mem hc
  exact decide_eq_true (h i c hi)
theorem frL_lenR {l : List (Int × Int × Int)} : (frL l).length ≤ 5000 := by
  unfold frL
  split
  · rename_i h
    rw [(srtC_perm _).length_eq]
    exact (frE_zero h).2.2
  · exact Nat.zero_le _
theorem toC_step {l : List (Int × Int × Int × Int)} {j : Nat} {x y s t : Int} (h : l[j]? = some (x, y, s, t)) : (l.take (j + 1)).map toC = (l.take j).map toC ++ [(x, y, t)] := by
  rw [List.take_add_one, h, List.map_append]; rfl
theorem rest_no {p : List (Int × Int × Int)} {l : List (Int × Int × Int × Int)} {j : Nat} {x y s : Int} (h : p[j]? = some (x, y, s)) (e : inG l x y = true) : ((p.take (j + 1)).filter fun c => !inG l c.1 c.2.1) = (p.take j).filter fun c => !inG l c.1 c.2.1 := by
  rw [List.take_add_one, h, List.filter_append]
  simp [e]
theorem rest_yes {p : List (Int × Int × Int)} {l : List (Int × Int × Int × Int)} {j : Nat} {x y s : Int} (h : p[j]? = some (x, y, s)) (e : inG l x y = false) : ((p.take (j + 1)).filter fun c => !inG l c.1 c.2.1) = ((p.take j).filter fun c => !inG l c.1 c.2.1) ++ [(x, y, s)] := by
  rw [List.take_add_one, h, List.filter_append]
  simp [e]
set_option maxHeartbeats 8000000 in
theorem ref53_Apply (A B : Option Addr) (n c m d : Nat) (p : List (Int × Int × Int)) (l : List (Int × Int × Int × Int)) (w : World) (hR : Rd encC 3 w A n p) (hS : Rd encG 4 w B m l) (hn : n ≤ 1000000) (hm : m ≤ 1000000) :
    Calls Tryz.prog 56 #[.slice A n c, .slice B m d] w fun e w' => ∃ A' n' c', e = .returned (.tuple #[.slice A' n' c', .int .i64 (apE p l)]) ∧ NewP w.heap.size w' A' n' c' (apL p l) ∧ n' ≤ 5000 ∧ Below w.heap.size w w' := by
  have kA := fun w1 h => ref05_Right A n c p w1 h (by omega)
  have kB := fun w1 h => ref53_Right B m d l w1 h (by omega)
  cases ha : rightC p with
  | false =>
    have HE := Lib.hid (ap_twoR (l := l) (.inl ha))
    rw [ha] at kA
    clear ha
    go_enter Tryz.func56, Tryz.ntmps56
    go_wp2_with fail; go_at_call 55; refine (kA _ (hR.of (by (repeat' (first | exact Below.refl _ _ | assumption | (refine Below.alloc ?_ ?_ _) | (refine Below.setCell ?_ ?_ _) | (refine Below.drew ?_) | (refine below_drewN ?_ _) | (refine below_after (Ext.below _) ?_ ?_) | (refine below_after (by assumption) ?_ ?_) | (simp; done) | omega | (simp; omega)))))).mono ?_; rintro e w1 ⟨rfl, hb1⟩; have hs1 := hb1.size; (try simp only [World.size_alloc, World.size_drew, World.size_setCell] at hs1)
    go_wp2_with fail
    go_ret2
    exact ⟨none, 0, 0, ret_pe HE.out.1.symm, by rw [HE.out.2]; exact NewP.nil_, by omega, by (repeat' (first | exact Below.refl _ _ | assumption | (refine Below.alloc ?_ ?_ _) | (refine Below.setCell ?_ ?_ _) | (refine Below.drew ?_) | (refine below_drewN ?_ _) | (refine below_after (Ext.below _) ?_ ?_) | (refine below_after (by assumption) ?_ ?_) | (simp; done) | omega | (simp; omega)))⟩
  | true =>
    rw [ha] at kA
    cases hb : rightG l with
    | false =>
      have HE := Lib.hid (ap_twoR (p := p) (.inr hb))
      rw [hb] at kB
      clear ha hb
      go_enter Tryz.func56, Tryz.ntmps56
      go_wp2_with fail; go_at_call 55; refine (kA _ (hR.of (by (repeat' (first | exact Below.refl _ _ | assumption | (refine Below.alloc ?_ ?_ _) | (refine Below.setCell ?_ ?_ _) | (refine Below.drew ?_) | (refine below_drewN ?_ _) | (refine below_after (Ext.below _) ?_ ?_) | (refine below_after (by assumption) ?_ ?_) | (simp; done) | omega | (simp; omega)))))).mono ?_; rintro e w1 ⟨rfl, hb1⟩; have hs1 := hb1.size; (try simp only [World.size_alloc, World.size_drew, World.size_setCell] at hs1)
      go_wp2_with fail; go_at_call 80; refine (kB _ (hS.of (by (repeat' (first | exact Below.refl _ _ | assumption | (refine Below.alloc ?_ ?_ _) | (refine Below.setCell ?_ ?_ _) | (refine Below.drew ?_) | (refine below_drewN ?_ _) | (refine below_after (Ext.below _) ?_ ?_) | (refine below_after (by assumption) ?_ ?_) | (simp; done) | omega | (simp; omega)))))).mono ?_; rintro e w2 ⟨rfl, hb2⟩; have hs2 := hb2.size; (try simp only [World.size_alloc, World.size_drew, World.size_setCell] at hs2)
      go_wp2_with fail
      go_ret2
      exact ⟨none, 0, 0, ret_pe HE.out.1.symm, by rw [HE.out.2]; exact NewP.nil_, by omega, by (repeat' (first | exact Below.refl _ _ | assumption | (refine Below.alloc ?_ ?_ _) | (refine Below.setCell ?_ ?_ _) | (refine Below.drew ?_) | (refine below_drewN ?_ _) | (refine below_after (Ext.below _) ?_ ?_) | (refine below_after (by assumption) ?_ ?_) | (simp; done) | omega | (simp; omega)))⟩
    | true =>
      rw [hb] at kB
      have hn5 : n ≤ 5000 := by rw [← hR.len]; exact (rightC_ok ha).1
      have hm5 : m ≤ 10000 := by rw [← hS.len]; exact (rightG_ok hb).1
      have hpl := Lib.hid ha
      have hll := Lib.hid hb
      have hal := Lib.hid hR.len
      have hbl' := Lib.hid hS.len
      clear ha hb
      go_enter Tryz.func56, Tryz.ntmps56
      go_wp2_with fail; go_at_call 55; refine (kA _ (hR.of (by (repeat' (first | exact Below.refl _ _ | assumption | (refine Below.alloc ?_ ?_ _) | (refine Below.setCell ?_ ?_ _) | (refine Below.drew ?_) | (refine below_drewN ?_ _) | (refine below_after (Ext.below _) ?_ ?_) | (refine below_after (by assumption) ?_ ?_) | (simp; done) | omega | (simp; omega)))))).mono ?_; rintro e w1 ⟨rfl, hb1⟩; have hs1 := hb1.size; (try simp only [World.size_alloc, World.size_drew, World.size_setCell] at hs1)
      go_wp2_with fail; go_at_call 80; refine (kB _ (hS.of (by (repeat' (first | exact Below.refl _ _ | assumption | (refine Below.alloc ?_ ?_ _) | (refine Below.setCell ?_ ?_ _) | (refine Below.drew ?_) | (refine below_drewN ?_ _) | (refine below_after (Ext.below _) ?_ ?_) | (refine below_after (by assumption) ?_ ?_) | (simp; done) | omega | (simp; omega)))))).mono ?_; rintro e w2 ⟨rfl, hb2⟩; have hs2 := hb2.size; (try simp only [World.size_alloc, World.size_drew, World.size_setCell] at hs2)
      have hB2 : Below w.heap.size w w2 := by (repeat' (first | exact Below.refl _ _ | assumption | (refine Below.alloc ?_ ?_ _) | (refine Below.setCell ?_ ?_ _) | (refine Below.drew ?_) | (refine below_drewN ?_ _) | (refine below_after (Ext.below _) ?_ ?_) | (refine below_after (by assumption) ?_ ?_) | (simp; done) | omega | (simp; omega)))
      clear hs1 hs2 hb1 hb2 kA kB
      go_wp2_with fail
      go_loopw [6, 7] (fun v i wr => ∃ (E : Option Addr) (q r j : Nat), v = .slice E q r ∧ i = .int .i64 j ∧ j ≤ m ∧ q = j ∧ Own encC 3 50 w.heap.size wr E q r ((l.take j).map toC) ∧ Hid (∀ (i : Nat) c, i < j → l[i]? = some c → getC p c.1 c.2.1 = c.2.2.1) ∧ Below w.heap.size w wr) (fun _ i _ => m - (intOf i).toNat)
      case atStart => exact ⟨none, 0, 0, 0, rfl, rfl, by omega, rfl, Own.nil_, Lib.hid (fun i c h => absurd h (by omega)), hB2⟩
      case round =>
        clear hB2
        obtain ⟨E, q, rr, j, rfl, rfl, hj, rfl, hown, hfit, hb⟩ := hrel
        have hsz := hb.size
        by_cases hlt : q < m
        · have dj : decide ((q : Int) < m) = true := decide_eq_true (by omega)
          have dj' : decide (q < m) = true := decide_eq_true hlt
          obtain ⟨x, y, s, t, bo, o, hx, hA, hbo, g1, g2, g3, g4⟩ := hS.chg hlt
          subst hA
          have hbl : bo < wr.heap.size := by omega
          rw [← hb.cell (p := ⟨_, _, none⟩) hbo] at g1 g2 g3 g4
          obtain ⟨r, hr⟩ : ∃ r, getC p x y = r := ⟨_, rfl⟩
          have kG := fun w1 h1 => ref05_Get A n c p x y w1 h1 hn
          rw [hr] at kG
          by_cases hrs : r = s
          · have t0 : (r != s) = false := by simpa using hrs
            have hst := Lib.hid (toC_step hx.out)
            have hfit1 := Lib.hid (show ∀ (i : Nat) c, i < q + 1 → l[i]? = some c → getC p c.1 c.2.1 = c.2.2.1 from fun i c hi hc => by
              by_cases e : i = q
              · subst e; rw [hx.out] at hc; cases hc; exact hr.trans hrs
              · exact hfit.out i c (by omega) hc)
            clear hrs hr
            go_wp2_with fail
            go_region_held3 (fun w' => FrW wr w' ∧ w'.cell? ⟨bo, o + q * 4, none⟩ = some (.int .i64 x) ∧ w'.cell? ⟨bo, o + q * 4 + 1, none⟩ = some (.int .i64 y) ∧ w'.cell? ⟨bo, o + q * 4 + 2, none⟩ = some (.int .i64 s))
              (((try go_split_ands); refine FrW.cell3 ?_ hbl g1 g2 g3; first | exact FrW.drew (FrW.here _) | exact FrW.drew ‹_› | exact FrW.of ‹_› hb7 | fail))
              ((first | (go_at_call 81; (try go_split_ands); refine (kG _ ((hR.of hb).of (FrW.below ‹_›))).mono ?_; rintro e3 w3 ⟨rfl, hb7⟩) | fail))
            (try go_split_ands)
            have hb3 : Below wr.heap.size wr w3 := FrW.below ‹_›
            have h1' := hb3.size
            have ⟨_, f1, f2, f4⟩ := FrW.cell3 (⟨hb3⟩ : FrW wr w3) hbl g1 g2 g4
            have hB3 : Below w.heap.size w w3 := below_thru hb hb3
            have hown3 := hown.of hb3
            go_wp2_with fail
            (go_region_held3 (fun w' => w'.cell? ⟨bo, o + q * 4, none⟩ = some (.int .i64 x) ∧ w'.cell? ⟨bo, o + q * 4 + 1, none⟩ = some (.int .i64 y) ∧ w'.cell? ⟨bo, o + q * 4 + 3, none⟩ = some (.int .i64 t)) (first | go_keep | (go_split_ands; refine ⟨?_, ?_, ?_⟩ <;> first | go_keep | (rw [hb4.cell (p := ⟨_, _, none⟩) (by first | omega | (simp; done) | (simp; omega))]; go_keep))) ((refine step_append_el (by rfl) (.tmp 41) (.tmp 58) 32 (by rfl) encC 3 50 (.agg #[.int .i64 0, .int .i64 0, .int .i64 0]) 24 Tryz.underlying32 (by kernel_rfl) rfl (by decide) encC_len encC_one (w.heap.size) _ _ _ _ (by rfl) (hown3.drew.alloc _) (x, y, t) ⟨(w3.drew).heap.size, 0, none⟩ 1 (by rfl) (cells_new (w3.drew) _ _) (by omega) (by omega) (by first | omega | (simp; done) | (simp; omega)) ?_; intro A4 c4 w4 hown4 hg4 hb4)))
            go_wp2_with fail
            go_roundw
            case rel => exact ⟨A4, q + 1, c4, q + 1, rfl, by go_num, by omega, rfl, by rw [hst.out]; exact hown4, hfit1, by (repeat' (first | exact Below.refl _ _ | assumption | (refine Below.alloc ?_ ?_ _) | (refine Below.setCell ?_ ?_ _) | (refine Below.drew ?_) | (refine below_drewN ?_ _) | (refine below_after (Ext.below _) ?_ ?_) | (refine below_after (by assumption) ?_ ?_) | (simp; done) | omega | (simp; omega)))⟩
            case measure => simp [intOf]; omega
          · have t0 : (r != s) = true := by simpa using hrs
            have HE := Lib.hid (ap_matchR hpl.out hll.out (fit_noR hx.out (show getC p x y ≠ s from fun e => hrs (hr.symm.trans e))))
            clear hrs hr
            go_wp2_with fail
            go_region_held3 (fun w' => FrW wr w' ∧ w'.cell? ⟨bo, o + q * 4, none⟩ = some (.int .i64 x) ∧ w'.cell? ⟨bo, o + q * 4 + 1, none⟩ = some (.int .i64 y) ∧ w'.cell? ⟨bo, o + q * 4 + 2, none⟩ = some (.int .i64 s))
              (((try go_split_ands); refine FrW.cell3 ?_ hbl g1 g2 g3; first | exact FrW.drew (FrW.here _) | exact FrW.drew ‹_› | exact FrW.of ‹_› hb7 | fail))
              ((first | (go_at_call 81; (try go_split_ands); refine (kG _ ((hR.of hb).of (FrW.below ‹_›))).mono ?_; rintro e3 w3 ⟨rfl, hb7⟩) | fail))
            (try go_split_ands)
            have hb3 : Below wr.heap.size wr w3 := FrW.below ‹_›
            have h1' := hb3.size
            have ⟨_, f1, f2, f4⟩ := FrW.cell3 (⟨hb3⟩ : FrW wr w3) hbl g1 g2 g4
            have hB3 : Below w.heap.size w w3 := below_thru hb hb3
            go_wp2_with fail
            go_ret2
            exact ⟨none, 0, 0, ret_pe HE.out.1.symm, by rw [HE.out.2]; exact NewP.nil_, by omega, hB3⟩
        · obtain rfl : q = m := by omega
          have dj : decide ((q : Int) < q) = false := decide_eq_false (by omega)
          have dj' : decide (q < q) = false := decide_eq_false (by omega)
          rw [List.take_of_length_le (by rw [hbl'.out]; exact Nat.le_refl _)] at hown
          have HG := Lib.hid (ap_goodR hpl.out hll.out (fit_yesR (fun i c hc => hfit.out i c (by have := (List.getElem?_eq_some_iff.1 hc).1; rw [hbl'.out] at this; exact this) hc)))
          obtain ⟨m, hmq⟩ : ∃ m, m = q := ⟨_, rfl⟩
          rw [← hmq] at hS hm hm5 hown dj dj' ⊢
          clear hj hlt hmq dj dj' hsz hfit
          go_wp2_with fail
          go_loopw [6, 8] (fun v i wr => ∃ (E : Option Addr) (q r j : Nat), v = .slice E q r ∧ i = .int .i64 j ∧ j ≤ n ∧ q ≤ m + j ∧ Own encC 3 50 w.heap.size wr E q r (l.map toC ++ (p.take j).filter fun c => !inG l c.1 c.2.1) ∧ Below w.heap.size w wr) (fun _ i _ => n - (intOf i).toNat)
          case atStart => exact ⟨E, m, rr, 0, rfl, rfl, by omega, by omega, by rw [List.take_zero, List.filter_nil, List.append_nil]; exact hown, hb⟩
          case round =>
            clear hown hb
            obtain ⟨E, q, rr, j, rfl, rfl, hj, hq, hown, hb⟩ := hrel
            have hsz := hb.size
            by_cases hlt : j < n
            · have dj : decide ((j : Int) < n) = true := decide_eq_true (by omega)
              have dj' : decide (j < n) = true := decide_eq_true hlt
              obtain ⟨x, y, s, bo, o, hx, hA, hbl, g1, g2, g3⟩ := (hR.of hb).cell hlt
              subst hA
              have kF := fun w1 h1 => ref53_find B m d l x y w1 h1 hm
              cases hin : inG l x y with
              | true =>
                have hst := Lib.hid (rest_no hx.out hin)
                go_wp2_with fail
                go_region_held3 (fun w' => FrW wr w' ∧ w'.cell? ⟨bo, o + j * 3, none⟩ = some (.int .i64 x) ∧ w'.cell? ⟨bo, o + j * 3 + 1, none⟩ = some (.int .i64 y) ∧ w'.cell? ⟨bo, o + j * 3 + 2, none⟩ = some (.int .i64 s))
                  (((try go_split_ands); refine FrW.cell3 ?_ hbl g1 g2 g3; first | exact FrW.drew (FrW.here _) | exact FrW.drew ‹_› | exact FrW.of ‹_› hb7 | fail))
                  ((first | (go_at_call 82; (try go_split_ands); refine (kF _ ((hS.of hb).of (FrW.below ‹_›))).mono ?_; rintro e3 w3 ⟨fr, rfl, hfr, hb7⟩) | fail))
                (try go_split_ands)
                have hb3 : Below wr.heap.size wr w3 := FrW.below ‹_›
                have h1' := hb3.size
                have ⟨_, f1, f2, f3⟩ := FrW.cell3 (⟨hb3⟩ : FrW wr w3) hbl g1 g2 g3
                have hown3 := hown.of hb3
                have hB3 : Below w.heap.size w w3 := below_thru hb hb3
                rw [hin] at hfr
                go_wp2_with fail
                go_roundw
                case rel => exact ⟨E, q, rr, j + 1, rfl, by go_num, by omega, by omega, by rw [hst.out]; exact hown3, hB3⟩
                case measure => simp [intOf]; omega
              | false =>
                have hst := Lib.hid (show (l.map toC ++ (p.take (j + 1)).filter fun c => !inG l c.1 c.2.1) = (l.map toC ++ (p.take j).filter fun c => !inG l c.1 c.2.1) ++ [(x, y, s)] by rw [rest_yes hx.out hin, List.append_assoc])
                go_wp2_with fail
                go_region_held3 (fun w' => FrW wr w' ∧ w'.cell? ⟨bo, o + j * 3, none⟩ = some (.int .i64 x) ∧ w'.cell? ⟨bo, o + j * 3 + 1, none⟩ = some (.int .i64 y) ∧ w'.cell? ⟨bo, o + j * 3 + 2, none⟩ = some (.int .i64 s))
                  (((try go_split_ands); refine FrW.cell3 ?_ hbl g1 g2 g3; first | exact FrW.drew (FrW.here _) | exact FrW.drew ‹_› | exact FrW.of ‹_› hb7 | fail))
                  ((first | (go_at_call 82; (try go_split_ands); refine (kF _ ((hS.of hb).of (FrW.below ‹_›))).mono ?_; rintro e3 w3 ⟨fr, rfl, hfr, hb7⟩) | fail))
                (try go_split_ands)
                have hb3 : Below wr.heap.size wr w3 := FrW.below ‹_›
                have h1' := hb3.size
                have ⟨_, f1, f2, f3⟩ := FrW.cell3 (⟨hb3⟩ : FrW wr w3) hbl g1 g2 g3
                have hown3 := hown.of hb3
                have hB3 : Below w.heap.size w w3 := below_thru hb hb3
                rw [hin] at hfr
                go_wp2_with (first | (at_builtin; refine wpList_append_el rfl (.tmp 80) (.tmp 85) 32 rfl encC 3 50 (.agg #[.int .i64 0, .int .i64 0, .int .i64 0]) 24 Tryz.underlying32 (by kernel_rfl) rfl (by decide) encC_len encC_one (w.heap.size) _ _ _ _ rfl (hown3.alloc _) (x, y, s) ⟨(w3).heap.size, 0, none⟩ 1 rfl (cells_new (w3) _ _) (by omega) (by omega) (by first | omega | (simp; done) | (simp; omega)) ?_; intro A5 c5 w5 hown5 hg5 hb5; obtain ⟨hc5, hf5⟩ := bcell hb5; have hs5 := hb5.size; (try simp only [World.size_alloc, World.size_setCell, World.size_drew] at hc5 hf5); (try simp at hs5)))
                go_roundw
                case rel => exact ⟨A5, q + 1, c5, j + 1, rfl, by go_num, by omega, by omega, by rw [hst.out]; exact hown5, by (repeat' (first | exact Below.refl _ _ | assumption | (refine Below.alloc ?_ ?_ _) | (refine Below.setCell ?_ ?_ _) | (refine Below.drew ?_) | (refine below_drewN ?_ _) | (refine below_after (Ext.below _) ?_ ?_) | (refine below_after (by assumption) ?_ ?_) | (simp; done) | omega | (simp; omega)))⟩
                case measure => simp [intOf]; omega
            · obtain rfl : j = n := by omega
              have dj : decide ((j : Int) < j) = false := decide_eq_false (by omega)
              have dj' : decide (j < j) = false := decide_eq_false (by omega)
              rw [List.take_of_length_le (by rw [hal.out]; exact Nat.le_refl _)] at hown
              have hRo := hown.rd encC_len
              have HE := Lib.hid (show apE p l = frE (l.map toC ++ p.filter fun c => !inG l c.1 c.2.1) ∧ apL p l = frL (l.map toC ++ p.filter fun c => !inG l c.1 c.2.1) from HG.out)
              generalize (l.map toC ++ p.filter fun c => !inG l c.1 c.2.1) = M at hRo HE
              clear hown
              go_wp2_with fail
              go_at_call 83
              refine (ref05_FromN E q rr M wr hRo (by omega)).mono ?_
              rintro e w9 ⟨A9, n9, c9, rfl, hN9, hn9, hb9⟩
              have hl9 : n9 ≤ 5000 := by rw [← hN9.rd.len]; exact frL_lenR
              go_wp2_with fail
              go_ret2
              exact ⟨A9, n9, c9, ret_pe HE.out.1.symm, by rw [HE.out.2]; exact hN9.more hsz, hl9, below_thru hb hb9⟩
end Go.Proofs.YtfdihjjnlmhibaaGreat
end
