/- The contracts of the reference's Compare, Sort and Same of chapter 03. -/
import Derived.Test.YtnhnkmppmicjoaaSortX
namespace Go.Proofs.Ytnhnkmppmicjoaa
open Go Go.RowKit Go.Shelf Go.Sort
set_option linter.unusedSimpArgs false
set_option linter.unusedVariables false
set_option maxRecDepth 100000
attribute [local go_sem ↓ high] eq_pt neq_pt
theorem cmpP_ways (ax ay bx bx' : Int) : (ay < bx' ∧ cmpP ax ay bx bx' = -1) ∨ (ay = bx' ∧ ax < bx ∧ cmpP ax ay bx bx' = -1) ∨ (ay = bx' ∧ ax = bx ∧ cmpP ax ay bx bx' = 0) ∨ (ay = bx' ∧ bx < ax ∧ cmpP ax ay bx bx' = 1) ∨ (bx' < ay ∧ cmpP ax ay bx bx' = 1) := by
  unfold cmpP orI cmpI
  repeat' split
  all_goals omega
set_option maxHeartbeats 1000000 in
theorem ref_Compare (ax ay bx bx' : Int) (w : World) : Calls Try.prog 18 #[.agg #[.int .i64 ax, .int .i64 ay], .agg #[.int .i64 bx, .int .i64 bx']] w fun e w' => e = .returned (.int .i64 (cmpP ax ay bx bx')) ∧ Below w.heap.size w w' := by
  rcases cmpP_ways ax ay bx bx' with ⟨h1, he⟩ | ⟨h1, h2, he⟩ | ⟨h1, h2, he⟩ | ⟨h1, h2, he⟩ | ⟨h1, he⟩
  · have HE := Lib.hid he
    clear he
    go_enter Try.func18, Try.ntmps18
    go_wp2
    go_ret
    exact ⟨ret_int HE.out.symm, by (repeat' (first | exact Below.refl _ _ | assumption | (refine Below.alloc ?_ ?_ _) | (refine Below.setCell ?_ ?_ _) | (refine Below.drew ?_) | (refine below_drewN ?_ _) | (refine below_after (Ext.below _) ?_ ?_) | (refine below_after (by assumption) ?_ ?_) | (simp; done) | omega | (simp; omega)))⟩
  · have HE := Lib.hid he
    clear he
    have d1 : decide (ay < bx') = false := decide_eq_false (by omega)
    have d2 : (ay == bx') = true := by simp [h1]
    clear h1
    go_enter Try.func18, Try.ntmps18
    go_wp2
    go_ret
    exact ⟨ret_int HE.out.symm, by (repeat' (first | exact Below.refl _ _ | assumption | (refine Below.alloc ?_ ?_ _) | (refine Below.setCell ?_ ?_ _) | (refine Below.drew ?_) | (refine below_drewN ?_ _) | (refine below_after (Ext.below _) ?_ ?_) | (refine below_after (by assumption) ?_ ?_) | (simp; done) | omega | (simp; omega)))⟩
  · have HE := Lib.hid he
    clear he
    subst h1 h2
    go_enter Try.func18, Try.ntmps18
    go_wp2
    go_ret
    exact ⟨ret_int HE.out.symm, by (repeat' (first | exact Below.refl _ _ | assumption | (refine Below.alloc ?_ ?_ _) | (refine Below.setCell ?_ ?_ _) | (refine Below.drew ?_) | (refine below_drewN ?_ _) | (refine below_after (Ext.below _) ?_ ?_) | (refine below_after (by assumption) ?_ ?_) | (simp; done) | omega | (simp; omega)))⟩
  · have HE := Lib.hid he
    clear he
    have d1 : decide (ay < bx') = false := decide_eq_false (by omega)
    have d2 : (ay == bx') = true := by simp [h1]
    have d3 : decide (ax < bx) = false := decide_eq_false (by omega)
    have d4 : decide (ax = bx ∧ ay = bx') = false := decide_eq_false (by omega)
    clear h1
    go_enter Try.func18, Try.ntmps18
    go_wp2
    go_ret
    exact ⟨ret_int HE.out.symm, by (repeat' (first | exact Below.refl _ _ | assumption | (refine Below.alloc ?_ ?_ _) | (refine Below.setCell ?_ ?_ _) | (refine Below.drew ?_) | (refine below_drewN ?_ _) | (refine below_after (Ext.below _) ?_ ?_) | (refine below_after (by assumption) ?_ ?_) | (simp; done) | omega | (simp; omega)))⟩
  · have HE := Lib.hid he
    clear he
    have d1 : decide (ay < bx') = false := decide_eq_false (by omega)
    have d2 : (ay == bx') = false := by simp; omega
    have d4 : decide (ax = bx ∧ ay = bx') = false := decide_eq_false (by omega)
    go_enter Try.func18, Try.ntmps18
    go_wp2
    go_ret
    exact ⟨ret_int HE.out.symm, by (repeat' (first | exact Below.refl _ _ | assumption | (refine Below.alloc ?_ ?_ _) | (refine Below.setCell ?_ ?_ _) | (refine Below.drew ?_) | (refine below_drewN ?_ _) | (refine below_after (Ext.below _) ?_ ?_) | (refine below_after (by assumption) ?_ ?_) | (simp; done) | omega | (simp; omega)))⟩
theorem cmp_bef {ax ay bx bx' : Int} {q : Bool} (h : befQ (ax, ay) (bx, bx') = q) : decide (cmpP ax ay bx bx' < 0) = q := by
  rw [← h]
  exact lt_cmpQ (ax, ay) (bx, bx')
theorem cmp_zero (ax ay bx bx' : Int) : (cmpP ax ay bx bx' = 0) ↔ (ax, ay) = (bx, bx') := by
  rw [Prod.mk.injEq]
  rcases cmpP_ways ax ay bx bx' with ⟨h1, he⟩ | ⟨h1, h2, he⟩ | ⟨h1, h2, he⟩ | ⟨h1, h2, he⟩ | ⟨h1, he⟩ <;> rw [he] <;> omega
/-- The place of p in a list. -/
theorem insL_at {α : Type} [DecidableEq α] {lt : α → α → Bool} : ∀ (O : List α) (k : Nat) (p : α), k ≤ O.length → (∀ i x, i < k → O[i]? = some x → lt x p = true) → (∀ x, O[k]? = some x → lt x p = false) →
    insL lt O p = O.take k ++ (if O[k]? = some p then [] else [p]) ++ O.drop k
  | [], k, p, hk, _, _ => by
    have : k = 0 := by simpa using hk
    subst this; simp [insL]
  | q :: O, 0, p, _, _, h2 => by
    have hq : lt q p = false := h2 q rfl
    simp only [insL, hq, Bool.false_eq_true, if_false, List.take_zero, List.nil_append, List.drop_zero, List.getElem?_cons_zero, Option.some.injEq]
    by_cases e : q = p <;> simp [e]
  | q :: O, k + 1, p, hk, h1, h2 => by
    have hq : lt q p = true := h1 0 q (by omega) rfl
    have ih := insL_at O k p (by simpa using hk) (fun i x hi hx => h1 (i + 1) x (by omega) (by simpa using hx)) (fun x hx => h2 x (by simpa using hx))
    simp only [insL, hq, if_true, List.take_succ_cons, List.drop_succ_cons, List.getElem?_cons_succ, List.cons_append]
    rw [ih]
def sortAt (l : List (Int × Int)) (j : Nat) : List (Int × Int) := (l.take j).foldl (insL befQ) []
theorem take_drop_step {α : Type} {O : List α} {k k' : Nat} {x : α} (hk : k ≤ k') (hx : O[k']? = some x) : (O.take (k' + 1)).drop k = (O.take k').drop k ++ [x] := by
  have := (List.getElem?_eq_some_iff.1 hx).1
  rw [List.take_add_one, hx, List.drop_append_of_le_length (by rw [List.length_take]; omega)]; rfl
theorem sortAt_step {l : List (Int × Int)} {j : Nat} {p : Int × Int} (h : l[j]? = some p) : sortAt l (j + 1) = insL befQ (sortAt l j) p := by
  unfold sortAt; rw [List.take_add_one, List.foldl_append, h]; rfl
def allBef (O : List (Int × Int)) (k : Nat) (p : Int × Int) : Prop := ∀ i x, i < k → O[i]? = some x → befQ x p = true
theorem allBef_step {O : List (Int × Int)} {k : Nat} {p x : Int × Int} (h : allBef O k p) (hx : O[k]? = some x) (hb : befQ x p = true) : allBef O (k + 1) p := by
  intro i y hi hy
  by_cases e : i = k
  · rw [e, hx] at hy; cases hy; exact hb
  · exact h i y (by omega) hy
set_option maxHeartbeats 4000000 in
theorem ref_Sort (A : Option Addr) (n c : Nat) (l : List (Int × Int)) (w : World) (hR : Rd encP 2 w A n l) (hn : n ≤ 1000000) :
    Calls Try.prog 20 #[.slice A n c] w fun e w' => ∃ A' n' c', e = .returned (.slice A' n' c') ∧ Rd encP 2 w' A' n' (sortL befQ l) ∧ n' ≤ n ∧ Below w.heap.size w w' := by
  go_enter Try.func20, Try.ntmps20
  go_wp2
  go_loopw [3, 4] (fun v i wr => ∃ (A' : Option Addr) (m c' j : Nat), v = .slice A' m c' ∧ i = .int .i64 j ∧ j ≤ n ∧ m ≤ j ∧ Rd encP 2 wr A' m (sortAt l j) ∧ Below w.heap.size w wr) (fun _ i _ => n - (intOf i).toNat)
  case atStart => exact ⟨none, 0, 0, 0, rfl, rfl, by omega, by omega, Rd.nil_, Below.refl _ _⟩
  case round =>
    obtain ⟨A', m, c', j, rfl, rfl, hj, hm, hO, hb⟩ := hrel
    have hs := hb.size
    by_cases hlt : j < n
    · have dj : decide ((j : Int) < n) = true := decide_eq_true (by omega)
      obtain ⟨px, py, bo, o, hx, rfl, hbl, hcell, hcell'⟩ := (hR.of hb).pt hlt
      have hst := Lib.hid (sortAt_step hx.out)
      generalize sortAt l j = O at hst hO ⊢
      have hOl := Lib.hid hO.len
      obtain ⟨W0, rfl⟩ : ∃ W0, W0 = wr := ⟨_, rfl⟩
      go_wp2
      go_loopw [5, 6] (fun v i wq => ∃ (B : Option Addr) (d k : Nat), v = .slice B k d ∧ i = .int .i64 k ∧ k ≤ m ∧ Own encP 2 23 W0.heap.size wq B k d (O.take k) ∧ Hid (allBef O k (px, py)) ∧ Below W0.heap.size W0 wq) (fun _ i _ => m - (intOf i).toNat)
      case atStart => exact ⟨none, 0, 0, rfl, rfl, by omega, by rw [List.take_zero]; exact Own.nil_, (fun i x hi => absurd hi (by omega)), Below.refl _ _⟩
      case round =>
        obtain ⟨B, d, k, rfl, rfl, hk, hown, hall, hq⟩ := hrel
        obtain ⟨hcq, hfq⟩ := bcell hq
        have hsq := hq.size
        have hcase : (k < m ∧ ∃ x y, O[k]? = some (x, y) ∧ befQ (x, y) (px, py) = true) ∨ (k = m) ∨ (k < m ∧ ∃ x y, O[k]? = some (x, y) ∧ befQ (x, y) (px, py) = false ∧ (x, y) ≠ (px, py)) ∨ (k < m ∧ O[k]? = some (px, py)) := by
          rcases Nat.lt_or_ge k m with h | h
          · obtain ⟨u, hu⟩ : ∃ u, O[k]? = some u := ⟨_, List.getElem?_eq_getElem (by rw [hOl.out]; omega)⟩
            obtain ⟨x, y⟩ := u
            cases hb : befQ (x, y) (px, py) with
            | true => exact .inl ⟨h, x, y, hu, hb⟩
            | false =>
              by_cases e : (x, y) = (px, py)
              · exact .inr (.inr (.inr ⟨h, by rw [hu, e]⟩))
              · exact .inr (.inr (.inl ⟨h, x, y, hu, hb, e⟩))
          · exact .inr (.inl (by omega))
        rcases hcase with ⟨hkm, x, y, hu, hbf⟩ | hcase
        · obtain ⟨x', y', b1, o1, hx1, rfl, hbl1, hc1, hc1'⟩ := hO.pt hkm
          obtain ⟨rfl, rfl⟩ : x = x' ∧ y = y' := by have := hx1.out; rw [hu] at this; simpa using this
          have dk : decide ((k : Int) < m) = true := decide_eq_true (by omega)
          have dc : decide (cmpP x y px py < 0) = true := cmp_bef hbf
          have hst2 : Hid (allBef O (k + 1) (px, py)) := allBef_step hall.out hu hbf
          have htk := Lib.hid (show O.take (k + 1) = O.take k ++ [(x, y)] by rw [List.take_add_one, hu]; rfl)
          clear hu hbf
          go_wp2_with fail
          (refine wp_region_ext_lit (by kernel_rfl) (by kernel_rfl) ?_; (repeat (go_big_quiet_step ((go_at_call 18; exact calls_ext (ref_Compare _ _ _ _ _))))); refine wpQuiet_nil ?_; intro _ hw'; obtain ⟨z2, hw''⟩ := hw'; subst hw''; have hs2 := z2.size; obtain ⟨hc2, hf2⟩ := bcell z2.below; (try simp only [World.size_alloc, World.size_setCell, World.size_drew] at hc2 hf2); (try simp at hs2))
          go_wp2_with (first | (at_builtin; refine wpList_append_el rfl (.tmp 29) (.tmp 34) 24 rfl encP 2 23 (.agg #[.int .i64 0, .int .i64 0]) 16 Try.underlying24 (by kernel_rfl) rfl (by decide) encP_len encP_one (W0.heap.size) _ _ _ _ rfl ((hown.of z2.below).alloc _) (x, y) ⟨(z2.world).heap.size, 0, none⟩ 1 rfl (cells_new (z2.world) _ _) (by omega) (by omega) (by first | omega | (simp; done) | (simp; omega)) ?_; intro A3 c3 w3 hown3 hg3 hb3; obtain ⟨hc3, hf3⟩ := bcell hb3; have hs3 := hb3.size; (try simp only [World.size_alloc, World.size_setCell, World.size_drew] at hc3 hf3); (try simp at hs3)))
          go_roundw
          case rel => exact ⟨A3, c3, k + 1, rfl, by go_num, by omega, by rw [htk.out]; exact hown3, hst2, by (repeat' (first | exact Below.refl _ _ | assumption | (refine Below.alloc ?_ ?_ _) | (refine Below.setCell ?_ ?_ _) | (refine Below.drew ?_) | (refine below_drewN ?_ _) | (refine below_after (Ext.below _) ?_ ?_) | (refine below_after (by assumption) ?_ ?_) | (simp; done) | omega | (simp; omega)))⟩
          case measure => simp [intOf]; omega
        have hend : Hid (∀ M : List (Int × Int), M = O.take k ++ (if O[k]? = some (px, py) then [] else [(px, py)]) → M ++ O.drop k = insL befQ O (px, py)) := by
          intro M hM
          rw [hM]
          refine (insL_at O k (px, py) (by rw [hOl.out]; exact hk) hall.out (fun x hx => ?_)).symm
          rcases hcase with h | ⟨_, x', y', hu, hb, _⟩ | ⟨_, hu⟩
          · rw [List.getElem?_eq_none (by rw [hOl.out]; omega)] at hx; cases hx
          · rw [hu] at hx; cases hx; exact hb
          · rw [hu] at hx; cases hx; exact lin_befQ.irr _
        have hexit : ∃ M : List (Int × Int), Hid (M = O.take k ++ (if O[k]? = some (px, py) then [] else [(px, py)])) := ⟨_, rfl⟩
        obtain ⟨M, hM⟩ := hexit
        have hfin := Lib.hid (hend.out M hM.out)
        clear hend
        rcases hcase with rfl | ⟨hkm, x, y, hu, hbf, hne⟩ | ⟨hkm, hu⟩
        · have dk : decide ((k : Int) < k) = false := decide_eq_false (by omega)
          have dk2 : ((k : Int) == k) = true := by simp
          have hMe := Lib.hid (show M = O.take k ++ [(px, py)] by rw [hM.out, if_neg (by rw [List.getElem?_eq_none (by rw [hOl.out]; omega)]; simp)])
          go_wp2_with fail
          (refine wp_region_ext_lit (by kernel_rfl) (by kernel_rfl) ?_; (repeat (go_big_quiet_step (fail))); refine wpQuiet_nil ?_; intro _ hw'; obtain ⟨z2, hw''⟩ := hw'; subst hw''; have hs2 := z2.size; obtain ⟨hc2, hf2⟩ := bcell z2.below; (try simp only [World.size_alloc, World.size_setCell, World.size_drew] at hc2 hf2); (try simp at hs2))
          go_wp2_with fail
          (refine wp_region_ext_lit (by kernel_rfl) (by kernel_rfl) ?_; (repeat (go_big_quiet_step (fail))); refine wpQuiet_nil ?_; intro _ hw'; obtain ⟨z3, hw''⟩ := hw'; subst hw''; have hs3 := z3.size; obtain ⟨hc3, hf3⟩ := bcell z3.below; (try simp only [World.size_alloc, World.size_setCell, World.size_drew] at hc3 hf3); (try simp at hs3))
          go_wp2_with (first | (at_builtin; refine wpList_append_el rfl (.tmp 54) (.tmp 59) 24 rfl encP 2 23 (.agg #[.int .i64 0, .int .i64 0]) 16 Try.underlying24 (by kernel_rfl) rfl (by decide) encP_len encP_one (W0.heap.size) _ _ _ _ rfl (((hown.of z2.below).of z3.below).alloc _) (px, py) ⟨(z3.world).heap.size, 0, none⟩ 1 rfl (cells_new (z3.world) _ _) (by omega) (by omega) (by first | omega | (simp; done) | (simp; omega)) ?_; intro A4 c4 w4 hown4 hg4 hb4; obtain ⟨hc4, hf4⟩ := bcell hb4; have hs4 := hb4.size; (try simp only [World.size_alloc, World.size_setCell, World.size_drew] at hc4 hf4); (try simp at hs4)))
          have hownM := hown4
          rw [← hMe.out] at hownM
          have hBM : Below W0.heap.size W0 w4 := by (repeat' (first | exact Below.refl _ _ | assumption | (refine Below.alloc ?_ ?_ _) | (refine Below.setCell ?_ ?_ _) | (refine Below.drew ?_) | (refine below_drewN ?_ _) | (refine below_after (Ext.below _) ?_ ?_) | (refine below_after (by assumption) ?_ ?_) | (simp; done) | omega | (simp; omega)))
          clear hc2 hf2 hc3 hf3 hc4 hf4 hcq hfq
          have hdr := Lib.hid (show O.drop k = (O.take k).drop k by rw [List.take_of_length_le (by rw [hOl.out]; omega)])
          go_loopw [5, 6] (fun v i wq => ∃ (B : Option Addr) (q d k' : Nat), v = .slice B q d ∧ i = .int .i64 k' ∧ k ≤ k' ∧ k' ≤ k ∧ q ≤ k' + 1 ∧ Own encP 2 23 W0.heap.size wq B q d (M ++ (O.take k').drop k) ∧ Below W0.heap.size W0 wq) (fun _ i _ => k - (intOf i).toNat)
          case atStart => exact ⟨_, _, _, k, rfl, rfl, by omega, by omega, by omega, by rw [List.drop_of_length_le (by rw [List.length_take]; omega), List.append_nil]; exact hownM, hBM⟩
          case round =>
            obtain ⟨B', q, d', k', rfl, rfl, hk1, hk2, hq', hown', hb'⟩ := hrel
            obtain ⟨hc', hf'⟩ := bcell hb'
            have hs' := hb'.size
            by_cases hlt' : k' < k
            · exfalso; omega
            · obtain rfl : k' = k := by omega
              have dk' : decide ((k' : Int) < k') = false := decide_eq_false (by omega)
              go_wp2
              go_roundw
              case rel => exact ⟨B', q, d', j + 1, rfl, by go_num, by omega, by omega, by rw [hst.out, ← hfin.out, hdr.out]; exact hown'.rd encP_len, below_after hb' hb (by omega)⟩
              case measure => simp [intOf]; omega
        · obtain ⟨x0, y0, b1, o1, hx1, rfl, hbl1, hc1, hc1'⟩ := hO.pt hkm
          obtain ⟨rfl, rfl⟩ : x = x0 ∧ y = y0 := by have := hx1.out; rw [hu] at this; simpa using this
          have dk : decide ((k : Int) < m) = true := decide_eq_true (by omega)
          have dk2 : ((k : Int) == m) = false := by simp; omega
          have dc : decide (cmpP x y px py < 0) = false := cmp_bef hbf
          have dz : (cmpP x y px py != 0) = true := by simp only [bne_iff_ne, ne_eq, cmp_zero]; exact hne
          have hMe := Lib.hid (show M = O.take k ++ [(px, py)] by rw [hM.out, if_neg (by rw [hu]; simpa using hne)])
          clear hu hbf hne
          go_wp2_with fail
          (refine wp_region_ext_lit (by kernel_rfl) (by kernel_rfl) ?_; (repeat (go_big_quiet_step ((go_at_call 18; exact calls_ext (ref_Compare _ _ _ _ _))))); refine wpQuiet_nil ?_; intro _ hw'; obtain ⟨z2, hw''⟩ := hw'; subst hw''; have hs2 := z2.size; obtain ⟨hc2, hf2⟩ := bcell z2.below; (try simp only [World.size_alloc, World.size_setCell, World.size_drew] at hc2 hf2); (try simp at hs2))
          go_wp2_with fail
          (refine wp_region_ext_lit (by kernel_rfl) (by kernel_rfl) ?_; (repeat (go_big_quiet_step ((go_at_call 18; exact calls_ext (ref_Compare _ _ _ _ _))))); refine wpQuiet_nil ?_; intro _ hw'; obtain ⟨z3, hw''⟩ := hw'; subst hw''; have hs3 := z3.size; obtain ⟨hc3, hf3⟩ := bcell z3.below; (try simp only [World.size_alloc, World.size_setCell, World.size_drew] at hc3 hf3); (try simp at hs3))
          go_wp2_with (first | (at_builtin; refine wpList_append_el rfl (.tmp 54) (.tmp 59) 24 rfl encP 2 23 (.agg #[.int .i64 0, .int .i64 0]) 16 Try.underlying24 (by kernel_rfl) rfl (by decide) encP_len encP_one (W0.heap.size) _ _ _ _ rfl (((hown.of z2.below).of z3.below).alloc _) (px, py) ⟨(z3.world).heap.size, 0, none⟩ 1 rfl (cells_new (z3.world) _ _) (by omega) (by omega) (by first | omega | (simp; done) | (simp; omega)) ?_; intro A4 c4 w4 hown4 hg4 hb4; obtain ⟨hc4, hf4⟩ := bcell hb4; have hs4 := hb4.size; (try simp only [World.size_alloc, World.size_setCell, World.size_drew] at hc4 hf4); (try simp at hs4)))
          have hownM := hown4
          rw [← hMe.out] at hownM
          have hBM : Below W0.heap.size W0 w4 := by (repeat' (first | exact Below.refl _ _ | assumption | (refine Below.alloc ?_ ?_ _) | (refine Below.setCell ?_ ?_ _) | (refine Below.drew ?_) | (refine below_drewN ?_ _) | (refine below_after (Ext.below _) ?_ ?_) | (refine below_after (by assumption) ?_ ?_) | (simp; done) | omega | (simp; omega)))
          clear hc2 hf2 hc3 hf3 hc4 hf4 hcq hfq
          have hdr := Lib.hid (show O.drop k = (O.take m).drop k by rw [List.take_of_length_le (by rw [hOl.out]; omega)])
          go_loopw [5, 6] (fun v i wq => ∃ (B : Option Addr) (q d k' : Nat), v = .slice B q d ∧ i = .int .i64 k' ∧ k ≤ k' ∧ k' ≤ m ∧ q ≤ k' + 1 ∧ Own encP 2 23 W0.heap.size wq B q d (M ++ (O.take k').drop k) ∧ Below W0.heap.size W0 wq) (fun _ i _ => m - (intOf i).toNat)
          case atStart => exact ⟨_, _, _, k, rfl, rfl, by omega, by omega, by omega, by rw [List.drop_of_length_le (by rw [List.length_take]; omega), List.append_nil]; exact hownM, hBM⟩
          case round =>
            obtain ⟨B', q, d', k', rfl, rfl, hk1, hk2, hq', hown', hb'⟩ := hrel
            obtain ⟨hc', hf'⟩ := bcell hb'
            have hs' := hb'.size
            by_cases hlt' : k' < m
            · have dk' : decide ((k' : Int) < m) = true := decide_eq_true (by omega)
              obtain ⟨x', y', b2, o2, hx1, he2, hbl1, hc1, hc1'⟩ := hO.pt hlt'
              obtain ⟨rfl, rfl⟩ : b1 = b2 ∧ o1 = o2 := by injection he2 with he2; injection he2 with e1 e2; exact ⟨e1, e2⟩
              clear he2
              have htk := Lib.hid (take_drop_step hk1 hx1.out)
              go_wp2_with (first | (at_builtin; refine wpList_append_el rfl (.tmp 65) (.tmp 70) 24 rfl encP 2 23 (.agg #[.int .i64 0, .int .i64 0]) 16 Try.underlying24 (by kernel_rfl) rfl (by decide) encP_len encP_one (W0.heap.size) _ _ _ _ rfl (hown'.alloc _) (x', y') ⟨(wr).heap.size, 0, none⟩ 1 rfl (cells_new (wr) _ _) (by omega) (by omega) (by first | omega | (simp; done) | (simp; omega)) ?_; intro A5 c5 w5 hown5 hg5 hb5; obtain ⟨hc5, hf5⟩ := bcell hb5; have hs5 := hb5.size; (try simp only [World.size_alloc, World.size_setCell, World.size_drew] at hc5 hf5); (try simp at hs5)))
              go_roundw
              case rel => exact ⟨A5, q + 1, c5, k' + 1, rfl, by go_num, by omega, by omega, by omega, by rw [htk.out, ← List.append_assoc]; exact hown5, by (repeat' (first | exact Below.refl _ _ | assumption | (refine Below.alloc ?_ ?_ _) | (refine Below.setCell ?_ ?_ _) | (refine Below.drew ?_) | (refine below_drewN ?_ _) | (refine below_after (Ext.below _) ?_ ?_) | (refine below_after (by assumption) ?_ ?_) | (simp; done) | omega | (simp; omega)))⟩
              case measure => simp [intOf]; omega
            · obtain rfl : k' = m := by omega
              have dk' : decide ((k' : Int) < k') = false := decide_eq_false (by omega)
              go_wp2
              go_roundw
              case rel => exact ⟨B', q, d', j + 1, rfl, by go_num, by omega, by omega, by rw [hst.out, ← hfin.out, hdr.out]; exact hown'.rd encP_len, below_after hb' hb (by omega)⟩
              case measure => simp [intOf]; omega
        · obtain ⟨x0, y0, b1, o1, hx1, rfl, hbl1, hc1, hc1'⟩ := hO.pt hkm
          obtain ⟨rfl, rfl⟩ : px = x0 ∧ py = y0 := by have := hx1.out; rw [hu] at this; simpa using this
          have dk : decide ((k : Int) < m) = true := decide_eq_true (by omega)
          have dk2 : ((k : Int) == m) = false := by simp; omega
          have dc : decide (cmpP px py px py < 0) = false := cmp_bef (lin_befQ.irr _)
          have dz : (cmpP px py px py != 0) = false := by simp only [bne_eq_false_iff_eq, cmp_zero]
          have hMe := Lib.hid (show M = O.take k by rw [hM.out, if_pos hu, List.append_nil])
          clear hu
          go_wp2_with fail
          (refine wp_region_ext_lit (by kernel_rfl) (by kernel_rfl) ?_; (repeat (go_big_quiet_step ((go_at_call 18; exact calls_ext (ref_Compare _ _ _ _ _))))); refine wpQuiet_nil ?_; intro _ hw'; obtain ⟨z2, hw''⟩ := hw'; subst hw''; have hs2 := z2.size; obtain ⟨hc2, hf2⟩ := bcell z2.below; (try simp only [World.size_alloc, World.size_setCell, World.size_drew] at hc2 hf2); (try simp at hs2))
          go_wp2_with fail
          (refine wp_region_ext_lit (by kernel_rfl) (by kernel_rfl) ?_; (repeat (go_big_quiet_step ((go_at_call 18; exact calls_ext (ref_Compare _ _ _ _ _))))); refine wpQuiet_nil ?_; intro _ hw'; obtain ⟨z3, hw''⟩ := hw'; subst hw''; have hs3 := z3.size; obtain ⟨hc3, hf3⟩ := bcell z3.below; (try simp only [World.size_alloc, World.size_setCell, World.size_drew] at hc3 hf3); (try simp at hs3))
          go_wp2_with fail
          have hownM := (hown.of z2.below).of z3.below
          rw [← hMe.out] at hownM
          have hBM : Below W0.heap.size W0 z3.world := by (repeat' (first | exact Below.refl _ _ | assumption | (refine Below.alloc ?_ ?_ _) | (refine Below.setCell ?_ ?_ _) | (refine Below.drew ?_) | (refine below_drewN ?_ _) | (refine below_after (Ext.below _) ?_ ?_) | (refine below_after (by assumption) ?_ ?_) | (simp; done) | omega | (simp; omega)))
          clear hc2 hf2 hc3 hf3 hcq hfq
          have hdr := Lib.hid (show O.drop k = (O.take m).drop k by rw [List.take_of_length_le (by rw [hOl.out]; omega)])
          go_loopw [5, 6] (fun v i wq => ∃ (B : Option Addr) (q d k' : Nat), v = .slice B q d ∧ i = .int .i64 k' ∧ k ≤ k' ∧ k' ≤ m ∧ q ≤ k' + 1 ∧ Own encP 2 23 W0.heap.size wq B q d (M ++ (O.take k').drop k) ∧ Below W0.heap.size W0 wq) (fun _ i _ => m - (intOf i).toNat)
          case atStart => exact ⟨_, _, _, k, rfl, rfl, by omega, by omega, by omega, by rw [List.drop_of_length_le (by rw [List.length_take]; omega), List.append_nil]; exact hownM, hBM⟩
          case round =>
            obtain ⟨B', q, d', k', rfl, rfl, hk1, hk2, hq', hown', hb'⟩ := hrel
            obtain ⟨hc', hf'⟩ := bcell hb'
            have hs' := hb'.size
            by_cases hlt' : k' < m
            · have dk' : decide ((k' : Int) < m) = true := decide_eq_true (by omega)
              obtain ⟨x', y', b2, o2, hx1, he2, hbl1, hc1, hc1'⟩ := hO.pt hlt'
              obtain ⟨rfl, rfl⟩ : b1 = b2 ∧ o1 = o2 := by injection he2 with he2; injection he2 with e1 e2; exact ⟨e1, e2⟩
              clear he2
              have htk := Lib.hid (take_drop_step hk1 hx1.out)
              go_wp2_with (first | (at_builtin; refine wpList_append_el rfl (.tmp 65) (.tmp 70) 24 rfl encP 2 23 (.agg #[.int .i64 0, .int .i64 0]) 16 Try.underlying24 (by kernel_rfl) rfl (by decide) encP_len encP_one (W0.heap.size) _ _ _ _ rfl (hown'.alloc _) (x', y') ⟨(wr).heap.size, 0, none⟩ 1 rfl (cells_new (wr) _ _) (by omega) (by omega) (by first | omega | (simp; done) | (simp; omega)) ?_; intro A5 c5 w5 hown5 hg5 hb5; obtain ⟨hc5, hf5⟩ := bcell hb5; have hs5 := hb5.size; (try simp only [World.size_alloc, World.size_setCell, World.size_drew] at hc5 hf5); (try simp at hs5)))
              go_roundw
              case rel => exact ⟨A5, q + 1, c5, k' + 1, rfl, by go_num, by omega, by omega, by omega, by rw [htk.out, ← List.append_assoc]; exact hown5, by (repeat' (first | exact Below.refl _ _ | assumption | (refine Below.alloc ?_ ?_ _) | (refine Below.setCell ?_ ?_ _) | (refine Below.drew ?_) | (refine below_drewN ?_ _) | (refine below_after (Ext.below _) ?_ ?_) | (refine below_after (by assumption) ?_ ?_) | (simp; done) | omega | (simp; omega)))⟩
              case measure => simp [intOf]; omega
            · obtain rfl : k' = m := by omega
              have dk' : decide ((k' : Int) < k') = false := decide_eq_false (by omega)
              go_wp2
              go_roundw
              case rel => exact ⟨B', q, d', j + 1, rfl, by go_num, by omega, by omega, by rw [hst.out, ← hfin.out, hdr.out]; exact hown'.rd encP_len, below_after hb' hb (by omega)⟩
              case measure => simp [intOf]; omega
    · obtain rfl : j = n := by omega
      have dj : decide ((j : Int) < j) = false := decide_eq_false (by omega)
      go_wp2
      go_ret
      have he : sortAt l j = sortL befQ l := by unfold sortAt sortL; rw [List.take_of_length_le (by rw [hR.len]; omega)]
      exact ⟨_, _, _, rfl, by rw [← he]; exact hO, hm, hb⟩
end Go.Proofs.Ytnhnkmppmicjoaa
