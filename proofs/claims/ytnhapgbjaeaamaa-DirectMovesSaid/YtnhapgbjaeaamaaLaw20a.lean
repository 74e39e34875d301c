/- The contracts of the laws' helpers: Few, Small, far, Life, parity. -/
import Derived.Test.YtnhapgbjaeaamaaFLD
import Derived.Test.YtnhapgbjaeaamaaCellS
namespace Go.Proofs.Ytnhapgbjaeaamaa
open Go Go.RowKit
set_option linter.unusedSimpArgs false
set_option linter.unusedVariables false
set_option maxRecDepth 100000
set_option linter.unusedSimpArgs false
set_option linter.unusedVariables false
def fewT (H : List (Int × Int)) (N : List (Int × List Int)) : Bool := decide (H.length ≤ 40) && decide (N.length ≤ 400) && N.all fun x => decide (x.2.length ≤ 20)
section
variable (st : Int) (A B D : Option Addr) (n c m d k e : Nat) (H : List (Int × Int)) (N : List (Int × List Int)) (p : List (Int × Int × Int)) (w : World)
set_option maxHeartbeats 4000000 in
theorem law_Few (hH : Rd encP 2 w A n H) (hN : RdX ekN w B m N) :
    Calls Try.prog 26 #[.agg #[.int .i64 st, .slice A n c, .slice B m d]] w fun e w' => e = .returned (.bool (fewT H N)) ∧ Below w.heap.size w w' := by
  have hHl := hH.len
  have hNl := hN.len
  by_cases hbad : 40 < n ∨ 400 < m
  · have HE := Lib.hid (show fewT H N = false by
      unfold fewT; rw [hHl, hNl]
      rcases hbad with h | h
      · rw [decide_eq_false (show ¬ n ≤ 40 by omega)]; rfl
      · rw [decide_eq_false (show ¬ m ≤ 400 by omega)]; simp)
    have hways : decide (40 < (n : Int)) = true ∨ (decide (40 < (n : Int)) = false ∧ decide (400 < (m : Int)) = true) := by
      simp only [decide_eq_true_eq, decide_eq_false_iff_not]; omega
    clear hbad hHl hNl
    rcases hways with d1 | ⟨d1, d2⟩
    all_goals
      go_enter Try.func26, Try.ntmps26
      go_wp2_with fail
      go_ret
      exact ⟨ret_bool HE.out.symm, by (repeat' (first | exact Below.refl _ _ | assumption | (refine Below.alloc ?_ ?_ _) | (refine Below.setCell ?_ ?_ _) | (refine Below.drew ?_) | (refine below_drewN ?_ _) | (refine below_after (Ext.below _) ?_ ?_) | (refine below_after (by assumption) ?_ ?_) | (simp; done) | omega | (simp; omega)))⟩
  · have d1 : decide (40 < (n : Int)) = false := decide_eq_false (by omega)
    have d2 : decide (400 < (m : Int)) = false := decide_eq_false (by omega)
    have hm : m ≤ 400 := by omega
    have HE := Lib.hid (show fewT H N = N.all fun x => decide (x.2.length ≤ 20) by
      unfold fewT; rw [hHl, hNl, decide_eq_true (show n ≤ 40 by omega), decide_eq_true hm]; rfl)
    have hNl := Lib.hid hNl
    clear hbad hHl
    go_enter Try.func26, Try.ntmps26
    go_wp2_with fail
    have hbx := TrAt.new w (.int .i64 st) (.slice A n c) (.slice B m d) 25
    have hbe : Below w.heap.size w (w.alloc (.cells #[.int .i64 st, .slice A n c, .slice B m d] 25)) := (Below.refl _ _).alloc (Nat.le_refl _) _
    obtain ⟨we, hwe⟩ : ∃ we, we = w.alloc (.cells #[.int .i64 st, .slice A n c, .slice B m d] 25) := ⟨_, rfl⟩
    rw [← hwe] at hbx hbe ⊢
    replace hN := hN.of hbe
    obtain ⟨_, t0, t1, t2⟩ := hbx
    clear hwe d1 d2
    go_loop [17] (fun t => ∃ j : Nat, t = .int .i64 j ∧ j ≤ m ∧ Hid (∀ (i : Nat) x, i < j → N[i]? = some x → x.2.length ≤ 20)) (fun t => m - (intOf t).toNat)
    case atStart => exact ⟨0, rfl, by omega, Lib.hid fun i x hi => absurd hi (by omega)⟩
    case round =>
      obtain ⟨j, rfl, hj, hok⟩ := hrel
      by_cases hlj : j < m
      · have dj : decide ((j : Int) < m) = true := decide_eq_true (by omega)
        obtain ⟨lv, nx, E, me, ce, b, o, hx, rfl, hbl, g1, g2, hE, _⟩ := hN.node hlj
        have hEl := hE.len
        by_cases h20 : 20 < me
        · have HE' := Lib.hid (show fewT H N = false by
            rw [HE.out, List.all_eq_false]
            exact ⟨_, List.mem_of_getElem? hx.out, by simp only [decide_eq_true_eq]; omega⟩)
          have d20 : decide (20 < (me : Int)) = true := decide_eq_true (by omega)
          clear hx hEl hE h20
          go_wp2_with fail
          go_ret
          exact ⟨ret_bool HE'.out.symm, hbe⟩
        · have d20 : decide (20 < (me : Int)) = false := decide_eq_false (by omega)
          have hst := Lib.hid (show ∀ (i : Nat) x, i < j + 1 → N[i]? = some x → x.2.length ≤ 20 from fun i x hi hx' => by
            rcases Nat.lt_or_ge i j with h | h
            · exact hok.out i x h hx'
            · obtain rfl : i = j := by omega
              rw [hx.out] at hx'; injection hx' with hx'; rw [← hx']; simp only; omega)
          clear hx hEl hE h20
          go_wp2_with fail
          go_round
          case rel => exact ⟨j + 1, by go_num, by omega, hst⟩
          case measure => simp [intOf]; omega
      · obtain rfl : j = m := by omega
        have dj : decide ((j : Int) < j) = false := decide_eq_false (by omega)
        have HE' := Lib.hid (show fewT H N = true by
          rw [HE.out, List.all_eq_true]
          intro x hx
          obtain ⟨i, hi, rfl⟩ := List.getElem_of_mem hx
          exact decide_eq_true (hok.out i _ (by rw [← hNl.out]; exact hi) (List.getElem?_eq_getElem hi)))
        go_wp2_with fail
        go_ret
        exact ⟨ret_bool HE'.out.symm, hbe⟩
theorem law_Small {q v : Bool} (hq : fewT H N = q) (hv : (q && decide (k ≤ 60)) = v) (hH : Rd encP 2 w A n H) (hN : RdX ekN w B m N) :
    Calls Try.prog 9 #[.agg #[.int .i64 st, .slice A n c, .slice B m d], .slice D k e] w fun e w' => e = .returned (.bool v) ∧ Below w.heap.size w w' := by
  have kF := fun w1 h1 h2 => law_Few st A B n c m d H N w1 h1 h2
  rw [hq] at kF
  clear hq
  cases q with
  | false =>
    obtain rfl : v = false := by simpa using hv.symm
    clear hv
    go_enter Try.func9, Try.ntmps9
    go_wp2_with fail; go_at_call 26; refine (kF _ (hH.of (by (repeat' (first | exact Below.refl _ _ | assumption | (refine Below.alloc ?_ ?_ _) | (refine Below.setCell ?_ ?_ _) | (refine Below.drew ?_) | (refine below_drewN ?_ _) | (refine below_after (Ext.below _) ?_ ?_) | (refine below_after (by assumption) ?_ ?_) | (simp; done) | omega | (simp; omega))))) (hN.of (by (repeat' (first | exact Below.refl _ _ | assumption | (refine Below.alloc ?_ ?_ _) | (refine Below.setCell ?_ ?_ _) | (refine Below.drew ?_) | (refine below_drewN ?_ _) | (refine below_after (Ext.below _) ?_ ?_) | (refine below_after (by assumption) ?_ ?_) | (simp; done) | omega | (simp; omega)))))).mono ?_; rintro e w1 ⟨rfl, hb1⟩; have hs1 := hb1.size; (try simp only [World.size_alloc, World.size_drew, World.size_setCell] at hs1)
    go_wp2_with fail
    go_ret
    exact ⟨rfl, by (repeat' (first | exact Below.refl _ _ | assumption | (refine Below.alloc ?_ ?_ _) | (refine Below.setCell ?_ ?_ _) | (refine Below.drew ?_) | (refine below_drewN ?_ _) | (refine below_after (Ext.below _) ?_ ?_) | (refine below_after (by assumption) ?_ ?_) | (simp; done) | omega | (simp; omega)))⟩
  | true =>
    have HV := Lib.hid (show decide ((k : Int) ≤ 60) = v by rw [← hv, Bool.true_and, Bool.eq_iff_iff, decide_eq_true_eq, decide_eq_true_eq]; omega)
    clear hv
    go_enter Try.func9, Try.ntmps9
    go_wp2_with fail; go_at_call 26; refine (kF _ (hH.of (by (repeat' (first | exact Below.refl _ _ | assumption | (refine Below.alloc ?_ ?_ _) | (refine Below.setCell ?_ ?_ _) | (refine Below.drew ?_) | (refine below_drewN ?_ _) | (refine below_after (Ext.below _) ?_ ?_) | (refine below_after (by assumption) ?_ ?_) | (simp; done) | omega | (simp; omega))))) (hN.of (by (repeat' (first | exact Below.refl _ _ | assumption | (refine Below.alloc ?_ ?_ _) | (refine Below.setCell ?_ ?_ _) | (refine Below.drew ?_) | (refine below_drewN ?_ _) | (refine below_after (Ext.below _) ?_ ?_) | (refine below_after (by assumption) ?_ ?_) | (simp; done) | omega | (simp; omega)))))).mono ?_; rintro e w1 ⟨rfl, hb1⟩; have hs1 := hb1.size; (try simp only [World.size_alloc, World.size_drew, World.size_setCell] at hs1)
    go_wp2_with fail
    go_ret
    exact ⟨ret_bool HV.out, by (repeat' (first | exact Below.refl _ _ | assumption | (refine Below.alloc ?_ ?_ _) | (refine Below.setCell ?_ ?_ _) | (refine Below.drew ?_) | (refine below_drewN ?_ _) | (refine below_after (Ext.below _) ?_ ?_) | (refine below_after (by assumption) ?_ ?_) | (simp; done) | omega | (simp; omega)))⟩
def lifeL (l : List (Int × Int)) : List (Int × Int × Int) := l.map fun q => (q.1, q.2, 1)
theorem life_step {l : List (Int × Int)} {j : Nat} {x y : Int} (h : l[j]? = some (x, y)) : lifeL (l.take (j + 1)) = lifeL (l.take j) ++ [(x, y, 1)] := by
  unfold lifeL; rw [List.take_add_one, h, List.map_append]; rfl
set_option maxHeartbeats 4000000 in
theorem law_Life (l : List (Int × Int)) (hR : Rd encP 2 w A n l) (hn : n ≤ 1000) :
    Calls Try.prog 28 #[.slice A n c] w fun e w' => ∃ E g, e = .returned (.slice E n g) ∧ NewP w.heap.size w' E n g (lifeL l) ∧ Below w.heap.size w w' := by
  have hRl := Lib.hid hR.len
  go_enter Try.func28, Try.ntmps28
  go_wp2_with fail
  go_loopw [3, 7] (fun v t wr => ∃ (E : Option Addr) (g j : Nat), v = .slice E j g ∧ t = .int .i64 j ∧ j ≤ n ∧ Own encC 3 64 w.heap.size wr E j g (lifeL (l.take j)) ∧ Below w.heap.size w wr) (fun _ t _ => n - (intOf t).toNat)
  case atStart => exact ⟨none, 0, 0, rfl, rfl, by omega, Own.nil_, Below.refl _ _⟩
  case round =>
    obtain ⟨E, g, j, rfl, rfl, hj, hown, hb⟩ := hrel
    have hsz := hb.size
    by_cases hlj : j < n
    · have dj : decide ((j : Int) < n) = true := decide_eq_true (by omega)
      obtain ⟨x, y, bo, oo, hx, rfl, hbo, o1, o2⟩ := hR.pt hlj
      have g1 : wr.cell? ⟨bo, oo + j * 2, none⟩ = some (.int .i64 x) := by rw [hb.cell (p := ⟨_, _, none⟩) hbo]; exact o1
      have g2 : wr.cell? ⟨bo, oo + j * 2 + 1, none⟩ = some (.int .i64 y) := by rw [hb.cell (p := ⟨_, _, none⟩) hbo]; exact o2
      have hst := Lib.hid (life_step hx.out)
      have i0 : (0 : Int) ≤ (j : Int) := by omega
      have i1 : (j : Int) < (n : Int) := by omega
      clear hx o1 o2
      go_wp2_with fail
      (go_region_held3 (fun w' => w'.cell? ⟨bo, oo + j * 2, none⟩ = some (.int .i64 x) ∧ w'.cell? ⟨bo, oo + j * 2 + 1, none⟩ = some (.int .i64 y)) (first | go_keep | (go_split_ands; refine ⟨?_, ?_⟩ <;> first | go_keep | (rw [hb4.cell (p := ⟨_, _, none⟩) (by first | omega | (simp; done) | (simp; omega))]; go_keep))) ((refine step_append_el (by rfl) (.tmp 10) (.tmp 22) 27 (by rfl) encC 3 64 (.agg #[.int .i64 0, .int .i64 0, .int .i64 0]) 24 Try.underlying27 (by kernel_rfl) rfl (by decide) encC_len encC_one (w.heap.size) _ _ _ _ (by rfl) (hown.drew.alloc _) (x, y, (1 : Int)) ⟨(wr.drew).heap.size, 0, none⟩ 1 (by rfl) (cells_new (wr.drew) _ _) (by omega) (by omega) (by first | omega | (simp; done) | (simp; omega)) ?_; intro A4 c4 w4 hown4 hg4 hb4)))
      (try go_split_ands)
      go_wp2_with fail
      go_roundw
      case rel => exact ⟨A4, c4, j + 1, rfl, by go_num, by omega, by rw [hst.out]; exact hown4, below_after hb4 ((hb.drew).alloc (by simpa using hsz) _) (Nat.le_refl _)⟩
      case measure => simp [intOf]; omega
    · obtain rfl : j = n := by omega
      have dj : decide ((j : Int) < j) = false := decide_eq_false (by omega)
      rw [List.take_of_length_le (by rw [hRl.out]; exact Nat.le_refl _)] at hown
      go_wp2_with fail
      go_ret
      exact ⟨E, g, rfl, NewP.own hown, hb⟩
theorem no_step20 {α : Type} {p : α → Bool} {l : List α} {j : Nat} {a : α} (h : ∀ i x, i < j → l[i]? = some x → p x = false) (hx : l[j]? = some a) (ha : p a = false) : ∀ i x, i < j + 1 → l[i]? = some x → p x = false := by
  intro i x hi hy
  by_cases e : i = j
  · rw [e, hx] at hy; cases hy; exact ha
  · exact h i x (by omega) hy
theorem far_no {a b : List (Int × Int × Int)} {c z : Int × Int × Int} (hc : c ∈ a) (hz : z ∈ b) (h : nrD 4 c z = true) : farL a b = false := by
  unfold farL
  rw [List.all_eq_false]
  refine ⟨c, hc, fun h2 => ?_⟩
  rw [List.all_eq_true] at h2
  have := h2 z hz
  rw [h] at this
  cases this
theorem far_yes {a b : List (Int × Int × Int)} (h : ∀ (i : Nat) c, i < a.length → a[i]? = some c → ∀ (j : Nat) z, j < b.length → b[j]? = some z → nrD 4 c z = false) : farL a b = true := by
  unfold farL
  rw [List.all_eq_true]
  intro c hc
  rw [List.all_eq_true]
  intro z hz
  obtain ⟨i, hi, rfl⟩ := List.getElem_of_mem hc
  obtain ⟨j, hj, rfl⟩ := List.getElem_of_mem hz
  rw [h i _ hi (List.getElem?_eq_getElem hi) j _ hj (List.getElem?_eq_getElem hj)]; rfl
set_option maxHeartbeats 4000000 in
theorem law_far (a b : List (Int × Int × Int)) (hR : Rd encC 3 w A n a) (hS : Rd encC 3 w B m b) (ha : rightC a = true) (hb : rightC b = true) :
    Calls Try.prog 24 #[.slice A n c, .slice B m d] w fun e w' => e = .returned (.bool (farL a b)) ∧ Below w.heap.size w w' := by
  have hn5 : n ≤ 5000 := by rw [← hR.len]; exact (rightC_ok ha).1
  have hm5 : m ≤ 5000 := by rw [← hS.len]; exact (rightC_ok hb).1
  have hRl := Lib.hid hR.len
  have hSl := Lib.hid hS.len
  have ha := Lib.hid ha
  have hb := Lib.hid hb
  go_enter Try.func24, Try.ntmps24
  go_wp2_with fail
  go_loopw [11] (fun t wr => ∃ i : Nat, t = .int .i64 i ∧ i ≤ n ∧ Hid (∀ (i' : Nat) c, i' < i → a[i']? = some c → ∀ (j : Nat) z, j < m → b[j]? = some z → nrD 4 c z = false) ∧ Below w.heap.size w wr) (fun t _ => n - (intOf t).toNat)
  case atStart => exact ⟨0, rfl, by omega, Lib.hid fun i' c hi => absurd hi (by omega), Below.refl _ _⟩
  case round =>
    obtain ⟨i, rfl, hi, hno, hbw⟩ := hrel
    have hsz := hbw.size
    by_cases hli : i < n
    · have di : decide ((i : Int) < n) = true := decide_eq_true (by omega)
      obtain ⟨x, y, s, bo, o, hx, rfl, hbl, g1, g2, g3⟩ := (hR.of hbw).cell hli
      have hp := (rightC_elem ha.out hx.out).1
      unfold Pt at hp
      have i0 : (0 : Int) ≤ (i : Int) := by omega
      have i1 : (i : Int) < (n : Int) := by omega
      have hblw : bo < w.heap.size := by
        obtain ⟨_, _, _, b', o', _, e, hb', _⟩ := hR.cell hli
        injection e with e; injection e with e1 e2; rw [e1]; exact hb'
      have q1 : w.cell? ⟨bo, o + i * 3, none⟩ = some (.int .i64 x) := by rw [← hbw.cell (p := ⟨_, _, none⟩) hblw]; exact g1
      have q2 : w.cell? ⟨bo, o + i * 3 + 1, none⟩ = some (.int .i64 y) := by rw [← hbw.cell (p := ⟨_, _, none⟩) hblw]; exact g2
      go_wp2_with fail
      clear g1 g2 g3 di
      go_loopw [16] (fun t wq => ∃ k : Nat, t = .int .i64 k ∧ k ≤ m ∧ Hid (∀ (j : Nat) z, j < k → b[j]? = some z → nrD 4 (x, y, s) z = false) ∧ Below w.heap.size w wq) (fun t _ => m - (intOf t).toNat)
      case atStart => exact ⟨0, rfl, by omega, Lib.hid fun j z hj => absurd hj (by omega), hbw⟩
      case round =>
        clear hbw hsz
        obtain ⟨k, rfl, hk, hnk, hbw⟩ := hrel
        have hsz := hbw.size
        by_cases hlk : k < m
        · have dk : decide ((k : Int) < m) = true := decide_eq_true (by omega)
          obtain ⟨x', y', s', bo', o', hx', rfl, hbl', f1, f2, f3⟩ := (hS.of hbw).cell hlk
          have hp' := (rightC_elem hb.out hx'.out).1
          unfold Pt at hp'
          have r1 : wr.cell? ⟨bo, o + i * 3, none⟩ = some (.int .i64 x) := by rw [hbw.cell (p := ⟨_, _, none⟩) hblw]; exact q1
          have r2 : wr.cell? ⟨bo, o + i * 3 + 1, none⟩ = some (.int .i64 y) := by rw [hbw.cell (p := ⟨_, _, none⟩) hblw]; exact q2
          have j0 : (0 : Int) ≤ (k : Int) := by omega
          have j1 : (k : Int) < (m : Int) := by omega
          have hblr : bo < wr.heap.size := Nat.lt_of_lt_of_le hblw hsz
          obtain ⟨u1, hu1⟩ : ∃ u1, u1 = x - x' := ⟨_, rfl⟩
          obtain ⟨u2, hu2⟩ : ∃ u2, u2 = y - y' := ⟨_, rfl⟩
          have ex : IntKind.i64.wrap (x - x') = u1 := (IntWalk.i64_in _ (by omega)).trans hu1.symm
          have ey : IntKind.i64.wrap (y - y') = u2 := (IntWalk.i64_in _ (by omega)).trans hu2.symm
          have hub : (-5000000 ≤ u1 ∧ u1 ≤ 5000000) ∧ -5000000 ≤ u2 ∧ u2 ≤ 5000000 := by omega
          rcases (show (¬(-4 ≤ u1 ∧ u1 ≤ 4)) ∨ ((-4 ≤ u1 ∧ u1 ≤ 4) ∧ ¬(-4 ≤ u2 ∧ u2 ≤ 4)) ∨ ((-4 ≤ u1 ∧ u1 ≤ 4) ∧ -4 ≤ u2 ∧ u2 ≤ 4) by omega) with c1 | ⟨c1, c2⟩ | ⟨c1, c2⟩
          · have d1 : decide (max u1 (-u1) ≤ 4) = false := decide_eq_false (by omega)
            have hst := Lib.hid (show nrD 4 (x, y, s) (x', y', s') = false by unfold nrD; exact decide_eq_false (by simp only; omega))
            clear hu1 hu2 c1
            go_wp2_with fail
            (refine wp_region_ext_lit (by kernel_rfl) (by kernel_rfl) ?_; (repeat (go_big_quiet_step (fail))); refine wpQuiet_nil ?_; intro _ hw'; obtain ⟨z3, hw''⟩ := hw'; subst hw''; have hs3 := z3.size; obtain ⟨hc3, hf3⟩ := bcell z3.below; (try simp only [World.size_alloc, World.size_setCell, World.size_drew] at hc3 hf3); (try simp at hs3))
            go_wp2_with fail
            go_roundw
            case rel => exact ⟨k + 1, by go_num, by omega, Lib.hid (no_step20 hnk.out hx'.out hst.out), by (repeat' (first | exact Below.refl _ _ | assumption | (refine Below.alloc ?_ ?_ _) | (refine Below.setCell ?_ ?_ _) | (refine Below.drew ?_) | (refine below_drewN ?_ _) | (refine below_after (Ext.below _) ?_ ?_) | (refine below_after (by assumption) ?_ ?_) | (simp; done) | omega | (simp; omega)))⟩
            case measure => simp [intOf]; omega
          · have d1 : decide (max u1 (-u1) ≤ 4) = true := decide_eq_true (by omega)
            have d2 : decide (max u2 (-u2) ≤ 4) = false := decide_eq_false (by omega)
            have hst := Lib.hid (show nrD 4 (x, y, s) (x', y', s') = false by unfold nrD; exact decide_eq_false (by simp only; omega))
            clear hu1 hu2 c1 c2
            go_wp2_with fail
            (refine wp_region_ext_lit (by kernel_rfl) (by kernel_rfl) ?_; (repeat (go_big_quiet_step (fail))); refine wpQuiet_nil ?_; intro _ hw'; obtain ⟨z3, hw''⟩ := hw'; subst hw''; have hs3 := z3.size; obtain ⟨hc3, hf3⟩ := bcell z3.below; (try simp only [World.size_alloc, World.size_setCell, World.size_drew] at hc3 hf3); (try simp at hs3))
            go_wp2_with fail
            go_roundw
            case rel => exact ⟨k + 1, by go_num, by omega, Lib.hid (no_step20 hnk.out hx'.out hst.out), by (repeat' (first | exact Below.refl _ _ | assumption | (refine Below.alloc ?_ ?_ _) | (refine Below.setCell ?_ ?_ _) | (refine Below.drew ?_) | (refine below_drewN ?_ _) | (refine below_after (Ext.below _) ?_ ?_) | (refine below_after (by assumption) ?_ ?_) | (simp; done) | omega | (simp; omega)))⟩
            case measure => simp [intOf]; omega
          · have d1 : decide (max u1 (-u1) ≤ 4) = true := decide_eq_true (by omega)
            have d2 : decide (max u2 (-u2) ≤ 4) = true := decide_eq_true (by omega)
            have HE := Lib.hid (far_no (List.mem_of_getElem? hx.out) (List.mem_of_getElem? hx'.out) (show nrD 4 (x, y, s) (x', y', s') = true by unfold nrD; exact decide_eq_true (by simp only; omega)))
            clear hu1 hu2 c1 c2
            go_wp2_with fail
            (refine wp_region_ext_lit (by kernel_rfl) (by kernel_rfl) ?_; (repeat (go_big_quiet_step (fail))); refine wpQuiet_nil ?_; intro _ hw'; obtain ⟨z3, hw''⟩ := hw'; subst hw''; have hs3 := z3.size; obtain ⟨hc3, hf3⟩ := bcell z3.below; (try simp only [World.size_alloc, World.size_setCell, World.size_drew] at hc3 hf3); (try simp at hs3))
            go_wp2_with fail
            go_ret
            exact ⟨ret_bool HE.out.symm, by (repeat' (first | exact Below.refl _ _ | assumption | (refine Below.alloc ?_ ?_ _) | (refine Below.setCell ?_ ?_ _) | (refine Below.drew ?_) | (refine below_drewN ?_ _) | (refine below_after (Ext.below _) ?_ ?_) | (refine below_after (by assumption) ?_ ?_) | (simp; done) | omega | (simp; omega)))⟩
        · obtain rfl : k = m := by omega
          have dk : decide ((k : Int) < k) = false := decide_eq_false (by omega)
          go_wp2_with fail
          go_roundw
          case rel => exact ⟨i + 1, by go_num, by omega, Lib.hid fun i' c hi' hc j z hj hz => by
            rcases Nat.lt_or_ge i' i with h | h
            · exact hno.out i' c h hc j z hj hz
            · obtain rfl : i' = i := by omega
              rw [hx.out] at hc; injection hc with hc; rw [← hc]; exact hnk.out j z hj hz, hbw⟩
          case measure => simp [intOf]; omega
    · obtain rfl : i = n := by omega
      have di : decide ((i : Int) < i) = false := decide_eq_false (by omega)
      have HE := Lib.hid (far_yes (a := a) (b := b) fun i' c hi' hc j z hj hz => hno.out i' c (by rw [← hRl.out]; exact hi') hc j z (by rw [← hSl.out]; exact hj) hz)
      go_wp2_with fail
      go_ret
      exact ⟨ret_bool HE.out.symm, hbw⟩
end
end Go.Proofs.Ytnhapgbjaeaamaa
