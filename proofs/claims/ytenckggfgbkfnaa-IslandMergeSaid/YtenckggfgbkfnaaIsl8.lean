/- The contract of the reference's Merge. -/
import Derived.Test.YtenckggfgbkfnaaIsl6
import Derived.Test.YtenckggfgbkfnaaIsl7
import Derived.Test.YtenckggfgbkfnaaPLN
namespace Go.Proofs.Ytenckggfgbkfnaa
open Go Go.RowKit
set_option linter.unusedSimpArgs false
set_option linter.unusedVariables false
set_option maxRecDepth 100000
attribute [local go_sem ↓ high] eq_cl neq_cl eq_pt neq_pt
theorem badP_good {n : Nat} {x y : Int} (h : badP n (x, y) = false) : ∃ a b : Nat, x = a ∧ y = b ∧ a < n ∧ b < n := by
  unfold badP at h
  simp only [decide_eq_false_iff_not] at h
  exact ⟨x.toNat, y.toNat, by omega, by omega, by omega, by omega⟩
/-- The numbers are those of h. -/
def grpIs (gl : List Int) (h : Nat → Nat) : Prop := ∀ (k : Nat) (x : Int), gl[k]? = some x → x = ((h k : Nat) : Int)
theorem tells_take2 {n t a b : Nat} {f : Nat → Nat} {pl : List (Int × Int)} (h : Tells n (pl.take t) f) (hx : pl[t]? = some ((a : Int), (b : Int))) (ha : a < n) (hb : b < n) : Tells n (pl.take (t + 1)) (joinF f b a) := by
  rw [List.take_add_one, hx]
  exact lnk_swap (tells_step h hb ha)
/-- The first k numbers are those of the joined sets. -/
def midF (h : Nat → Nat) (b a k : Nat) : Nat → Nat := fun j => if j < k then joinF h b a j else h j
theorem mid_start {gl : List Int} {h : Nat → Nat} {b a : Nat} (hg : grpIs gl h) : grpIs gl (midF h b a 0) := by
  intro k x hx; unfold midF; rw [if_neg (by omega)]; exact hg k x hx
theorem mid_end {gl : List Int} {h : Nat → Nat} {b a n : Nat} (hl : gl.length = n) (hg : grpIs gl (midF h b a n)) : grpIs gl (joinF h b a) := by
  intro k x hx
  have := hg k x hx
  unfold midF at this
  rw [if_pos (by rw [← hl]; exact lt_of_some hx)] at this
  exact this
theorem mid_set {gl : List Int} {h : Nat → Nat} {b a k : Nat} {x : Int} (hg : grpIs gl (midF h b a k)) (hx : gl[k]? = some x) (he : h k = h b) : grpIs (gl.set k ((h a : Nat) : Int)) (midF h b a (k + 1)) := by
  intro j y hy
  rw [List.getElem?_set] at hy
  unfold midF
  by_cases e : k = j
  · subst e
    rw [if_pos rfl, if_pos (lt_of_some hx)] at hy
    injection hy with hy
    rw [if_pos (by omega)]
    unfold joinF
    rw [if_pos he, hy]
  · rw [if_neg e] at hy
    have := hg j y hy
    unfold midF at this
    by_cases hj : j < k
    · rw [if_pos hj] at this; rw [if_pos (by omega)]; exact this
    · rw [if_neg hj] at this; rw [if_neg (by omega)]; exact this
theorem mid_keep {gl : List Int} {h : Nat → Nat} {b a k : Nat} (hg : grpIs gl (midF h b a k)) (he : h k ≠ h b) : grpIs gl (midF h b a (k + 1)) := by
  intro j y hy
  have := hg j y hy
  unfold midF at *
  by_cases e : j = k
  · subst e
    rw [if_neg (by omega)] at this
    rw [if_pos (by omega)]
    unfold joinF
    rw [if_neg he]; exact this
  · by_cases hj : j < k
    · rw [if_pos hj] at this; rw [if_pos (by omega)]; exact this
    · rw [if_neg hj] at this; rw [if_neg (by omega)]; exact this
theorem mid_at {gl : List Int} {h : Nat → Nat} {b a k : Nat} {x : Int} (hg : grpIs gl (midF h b a k)) (hx : gl[k]? = some x) : x = ((h k : Nat) : Int) := by
  have := hg k x hx
  unfold midF at this
  rw [if_neg (by omega)] at this
  exact this
theorem join_lt {n : Nat} {h : Nat → Nat} {b a : Nat} (hh : ∀ k, k < n → h k < n) (ha : a < n) : ∀ k, k < n → joinF h b a k < n := by
  intro k hk
  unfold joinF
  split
  · exact hh a ha
  · exact hh k hk
theorem sumL_flat (ls : List (List (Int × Int × Int))) (k : Nat) : sumL ls k ≤ ls.flatten.length := by
  have e := List.take_append_drop k ls
  have h : (ls.take k ++ ls.drop k).flatten.length = ls.flatten.length := by rw [e]
  rw [List.flatten_append, List.length_append] at h
  unfold sumL; omega
set_option maxHeartbeats 16000000 in
theorem ref36_Merge (A B : Option Addr) (n c m d : Nat) (ls : List (List (Int × Int × Int))) (pl : List (Int × Int)) (w : World) (hL : RdX ekC w A n ls) (hP : Rd encP 2 w B m pl) (hn : n ≤ 1000) (hm : m ≤ 1000) (hbd : ∀ l ∈ ls, l.length ≤ 100000) :
    Calls Try.prog 16 #[.slice A n c, .slice B m d] w fun e w' => ∃ A2 n2 c2 L, e = .returned (.tuple #[.slice A2 n2 c2, .int .i64 (mgE ls pl)]) ∧ RdX ekC w' A2 n2 L ∧ n2 ≤ n ∧ Hid (mgOut ls pl L) ∧ Below w.heap.size w w' := by
  have hlen := Lib.hid hL.len
  have hplen := Lib.hid hP.len
  have hbd := Lib.hid hbd
  have hmk := fun w => run_make_ints Try.underlying50 n (by omega) w
  go_enter Try.func16, Try.ntmps16
  go_wp2_with fail
  go_loopw [6] (fun t wr => ∃ i : Nat, t = .int .i64 i ∧ i ≤ n ∧ Hid (∀ (k : Nat) x, k < i → ls[k]? = some x → badL x = false) ∧ Below w.heap.size w wr) (fun t _ => n - (intOf t).toNat)
  case atStart => exact ⟨0, rfl, by omega, Lib.hid (fun k x hk => absurd hk (by omega)), Below.refl _ _⟩
  case round =>
    obtain ⟨i, rfl, hi, hok, hb⟩ := hrel
    have hs := hb.size
    by_cases hli : i < n
    · have di : decide ((i : Int) < n) = true := decide_eq_true (by omega)
      obtain ⟨E, k, c', l, bo, o, hx, rfl, hbl, g1', hRw, hkc⟩ := hL.pat hli
      have g1 : wr.cell? ⟨bo, o + i, none⟩ = some (.slice E k c') := (hb.cell (p := ⟨bo, o + i, none⟩) hbl).trans g1'
      have hln := Lib.hid hRw.len
      have hkb : k ≤ 100000 := by rw [← hln.out]; exact hbd.out _ (List.mem_of_getElem? hx.out)
      cases hr : rightC l with
      | false =>
        have kR := fun w1 (h : Rd encC 3 w1 E k l) => ref05_RightV (A := E) (n := k) (c := c') hr w1 h (by omega)
        have HE := Lib.hid (mgE_bad (pl := pl) hx.out (badL_bad.2 (Or.inr hr)))
        clear hr
        go_wp2_with fail
        go_at_call 22
        refine (kR _ (hRw.of hb)).mono ?_
        rintro e w1 ⟨rfl, hb1⟩
        go_wp2_with fail
        go_ret2
        exact ⟨none, 0, 0, [], ret_pe HE.out.symm, RdX.nil_, by omega, Lib.hid (mgOut_err HE.out (by omega)), by (repeat' (first | exact Below.refl _ _ | assumption | (refine Below.alloc ?_ ?_ _) | (refine Below.setCell ?_ ?_ _) | (refine Below.drew ?_) | (refine below_drewN ?_ _) | (refine below_after (Ext.below _) ?_ ?_) | (refine below_after (by assumption) ?_ ?_) | (simp; done) | omega | (simp; omega)))⟩
      | true =>
        have kR := fun w1 (h : Rd encC 3 w1 E k l) => ref05_RightV (A := E) (n := k) (c := c') hr w1 h (by omega)
        by_cases hk0 : k = 0
        · subst hk0
          have dk : (((0 : Nat) : Int) == 0) = true := rfl
          have HE := Lib.hid (mgE_bad (pl := pl) hx.out (badL_bad.2 (Or.inl (List.length_eq_zero_iff.1 hln.out))))
          clear hr
          go_wp2_with fail
          go_at_call 22
          refine (kR _ (hRw.of hb)).mono ?_
          rintro e w1 ⟨rfl, hb1⟩
          have g2 : w1.cell? ⟨bo, o + i, none⟩ = some (.slice E 0 c') := (hb1.cell (p := ⟨bo, o + i, none⟩) (by show bo < _; omega)).trans g1
          go_wp2_with fail
          go_ret2
          exact ⟨none, 0, 0, [], ret_pe HE.out.symm, RdX.nil_, by omega, Lib.hid (mgOut_err HE.out (by omega)), by (repeat' (first | exact Below.refl _ _ | assumption | (refine Below.alloc ?_ ?_ _) | (refine Below.setCell ?_ ?_ _) | (refine Below.drew ?_) | (refine below_drewN ?_ _) | (refine below_after (Ext.below _) ?_ ?_) | (refine below_after (by assumption) ?_ ?_) | (simp; done) | omega | (simp; omega)))⟩
        · have dk : ((k : Int) == 0) = false := by simp only [beq_eq_false_iff_ne, ne_eq]; omega
          have hok' := Lib.hid (good_step hok.out hx.out (badL_good.2 ⟨fun e => hk0 (by rw [← hln.out, e]; rfl), hr⟩))
          clear hr
          go_wp2_with fail
          go_at_call 22
          refine (kR _ (hRw.of hb)).mono ?_
          rintro e w1 ⟨rfl, hb1⟩
          have hs1 := hb1.size
          have g2 : w1.cell? ⟨bo, o + i, none⟩ = some (.slice E k c') := (hb1.cell (p := ⟨bo, o + i, none⟩) (by show bo < _; omega)).trans g1
          go_wp2_with fail
          go_roundw
          case rel => exact ⟨i + 1, by go_num, by omega, hok', by (repeat' (first | exact Below.refl _ _ | assumption | (refine Below.alloc ?_ ?_ _) | (refine Below.setCell ?_ ?_ _) | (refine Below.drew ?_) | (refine below_drewN ?_ _) | (refine below_after (Ext.below _) ?_ ?_) | (refine below_after (by assumption) ?_ ?_) | (simp; done) | omega | (simp; omega)))⟩
          case measure => simp [intOf]; omega
    · obtain rfl : i = n := by omega
      have di : decide ((i : Int) < i) = false := decide_eq_false (by omega)
      have hgood := Lib.hid (any_bad (ls := ls) fun k l hk hx => hok.out k l (by rw [← hlen.out]; exact hk) hx)
      have hgl := Lib.hid (fun (k : Nat) l (hx : ls[k]? = some l) => badL_good.1 (hok.out k l (by rw [← hlen.out]; exact lt_of_some hx) hx))
      obtain ⟨w1, rfl⟩ : ∃ w1 : World, w1 = wr := ⟨_, rfl⟩
      clear hok hli hi
      go_wp2_with fail
      clear hmk
      have hO := own_made w1 3 w1.heap.size (Nat.le_refl _) i (by omega)
      have hB0 : Below w.heap.size w (w1.alloc (.cells (madeCells #[.int .i64 0] i) 3)) := by (repeat' (first | exact Below.refl _ _ | assumption | (refine Below.alloc ?_ ?_ _) | (refine Below.setCell ?_ ?_ _) | (refine Below.drew ?_) | (refine below_drewN ?_ _) | (refine below_after (Ext.below _) ?_ ?_) | (refine below_after (by assumption) ?_ ?_) | (simp; done) | omega | (simp; omega)))
      clear hb
      go_loopw [8] (fun t wr => ∃ (j : Nat) (gl : List Int), t = .int .i64 j ∧ j ≤ i ∧ Own encI 1 3 w1.heap.size wr (some ⟨w1.heap.size, 0, none⟩) i i gl ∧ Hid (∀ (i' : Nat) (x : Int), i' < j → gl[i']? = some x → x = i') ∧ Below w.heap.size w wr) (fun t _ => i - (intOf t).toNat)
      case atStart => exact ⟨0, _, rfl, by omega, hO, Lib.hid (fun i' x hi => absurd hi (by omega)), hB0⟩
      case round =>
        clear hO hB0
        obtain ⟨j, gl, rfl, hj, hO, hno, hb⟩ := hrel
        by_cases hlt : j < i
        · have dj : decide ((j : Int) < i) = true := decide_eq_true (by omega)
          obtain ⟨x, hx, g0, g1, g2, _, _⟩ := hO.intCell hlt
          go_wp2_with fail
          go_roundw
          case rel => exact ⟨j + 1, _, by go_num, by omega, own_setI hO hlt j, Lib.hid (num_step hno.out hx.out), by (repeat' (first | exact Below.refl _ _ | assumption | (refine Below.alloc ?_ ?_ _) | (refine Below.setCell ?_ ?_ _) | (refine Below.drew ?_) | (refine below_drewN ?_ _) | (refine below_after (Ext.below _) ?_ ?_) | (refine below_after (by assumption) ?_ ?_) | (simp; done) | omega | (simp; omega)))⟩
          case measure => simp [intOf]; omega
        · obtain rfl : j = i := by omega
          have dj : decide ((j : Int) < j) = false := decide_eq_false (by omega)
          have hG0 := Lib.hid (show grpIs gl id from fun k x hx => hno.out k x (by have := lt_of_some hx; rw [hO.len] at this; exact this) hx)
          clear hno hlt hj di
          go_wp2_with fail
          go_loopw [9] (fun v wr => ∃ t : Nat, v = .int .i64 t ∧ t ≤ m ∧ Hid (∀ (k : Nat) p, k < t → pl[k]? = some p → badP j p = false) ∧ Own encI 1 3 w1.heap.size wr (some ⟨w1.heap.size, 0, none⟩) j j gl ∧ Below w.heap.size w wr) (fun v _ => m - (intOf v).toNat)
          case atStart => exact ⟨0, rfl, by omega, Lib.hid (fun k x hk => absurd hk (by omega)), hO, hb⟩
          case round =>
            clear hO hb
            obtain ⟨t, rfl, ht, hok, hO, hb⟩ := hrel
            have hsb := hb.size
            by_cases hlt : t < m
            · have dt : decide ((t : Int) < m) = true := decide_eq_true (by omega)
              obtain ⟨x0, x1, bo, o, hx, rfl, hbl, g1, g2⟩ := (hP.of hb).pt hlt
              have hbp : badP j (x0, x1) = decide (x0 < 0 ∨ (j : Int) ≤ x0 ∨ x1 < 0 ∨ (j : Int) ≤ x1) := rfl
              rcases @pair_ways j x0 x1 with e1 | ⟨e1, e2⟩ | ⟨e1, e2, e3⟩ | ⟨e1, e2, e3, e4⟩ | ⟨e1, e2, e3, e4⟩
              iterate 4
                · have HE := Lib.hid (mgE_pair (ls := ls) hgood.out hx.out (show badP ls.length (x0, x1) = true by rw [hlen.out, hbp]; simp only [decide_eq_true_eq, decide_eq_false_iff_not] at *; omega))
                  clear hbp
                  go_wp2_with fail
                  refine wp_loop_rounds 2 ?_
                  rw [rounds_succ]
                  go_wp2_with fail
                  try (rw [rounds_succ]; go_wp2_with fail)
                  go_ret2
                  exact ⟨none, 0, 0, [], ret_pe HE.out.symm, RdX.nil_, by omega, Lib.hid (mgOut_err HE.out (by omega)), hb⟩
              have hbad : badP j (x0, x1) = false := by rw [hbp]; simp only [decide_eq_false_iff_not] at *; omega
              have hok' := Lib.hid (no_step hok.out hx.out hbad)
              clear hbp hbad hok
              go_wp2_with fail
              refine wp_loop_rounds 3 ?_
              rw [rounds_succ]
              go_wp2_with fail
              rw [rounds_succ]
              go_wp2_with fail
              rw [rounds_succ]
              go_wp2_with fail
              go_roundw
              case rel => exact ⟨t + 1, by go_num, by omega, hok', hO, hb⟩
              case measure => simp [intOf]; omega
            · obtain rfl : t = m := by omega
              have dt : decide ((t : Int) < t) = false := decide_eq_false (by omega)
              have hpok := Lib.hid (show ∀ (k : Nat) p, pl[k]? = some p → badP j p = false from fun k p hp => hok.out k p (by rw [← hplen.out]; exact lt_of_some hp) hp)
              have hpgood := Lib.hid (show pl.any (badP ls.length) = false by rw [hlen.out]; exact any_badP hplen.out hok.out)
              clear hok hlt ht
              go_wp2_with fail
              clear dt
              go_loopw [11, 12] (fun u v wr => ∃ i : Nat, u = .int .i64 (sumL ls i : Nat) ∧ v = .int .i64 i ∧ i ≤ j ∧ Hid ((posT ls i).Nodup) ∧ Own encI 1 3 w1.heap.size wr (some ⟨w1.heap.size, 0, none⟩) j j gl ∧ Below w.heap.size w wr) (fun _ v _ => j - (intOf v).toNat)
              case atStart => exact ⟨0, rfl, rfl, by omega, Lib.hid (by rw [show posT ls 0 = [] from rfl]; exact List.nodup_nil), hO, hb⟩
              case round =>
                clear hO hb
                obtain ⟨i, rfl, rfl, hi, hnd, hO, hb⟩ := hrel
                have hsr := hb.size
                by_cases hli : i < j
                · have di : decide ((i : Int) < j) = true := decide_eq_true (by omega)
                  obtain ⟨E, k, c', l, bo, o, hx, rfl, hbl, g1', hRw, hkc⟩ := hL.pat hli
                  have g1 : wr.cell? ⟨bo, o + i, none⟩ = some (.slice E k c') := (hb.cell (p := ⟨bo, o + i, none⟩) hbl).trans g1'
                  have hln := Lib.hid hRw.len
                  have hkb : k ≤ 100000 := by rw [← hln.out]; exact hbd.out _ (List.mem_of_getElem? hx.out)
                  have hnx := Lib.hid (show sumL ls (i + 1) = sumL ls i + k by rw [sumL_step hx.out, hln.out])
                  have hsum : sumL ls i ≤ 100000000 := Nat.le_trans (sumL_le hbd.out i) (by have := Nat.mul_le_mul_right 100000 (show i ≤ 1000 by omega); omega)
                  have hrt := Lib.hid (hgl.out i l hx.out).2
                  obtain ⟨wo, rfl⟩ : ∃ wo : World, wo = wr := ⟨_, rfl⟩
                  go_wp2_with fail
                  go_loopw [13] (fun v wr => ∃ q : Nat, v = .int .i64 q ∧ q ≤ i ∧ Hid (∀ (k : Nat) x, k < q → ls[k]? = some x → nearP l x = false) ∧ Below wo.heap.size wo wr) (fun v _ => i - (intOf v).toNat)
                  case atStart => exact ⟨0, rfl, by omega, Lib.hid (fun k x hk => absurd hk (by omega)), Below.refl _ _⟩
                  case round =>
                    obtain ⟨q, rfl, hq, hnear, hbo⟩ := hrel
                    have hsq := hbo.size
                    by_cases hlq : q < i
                    · have dq : decide ((q : Int) < i) = true := decide_eq_true (by omega)
                      have hbq : Below w.heap.size w wr := by (repeat' (first | exact Below.refl _ _ | assumption | (refine Below.alloc ?_ ?_ _) | (refine Below.setCell ?_ ?_ _) | (refine Below.drew ?_) | (refine below_drewN ?_ _) | (refine below_after (Ext.below _) ?_ ?_) | (refine below_after (by assumption) ?_ ?_) | (simp; done) | omega | (simp; omega)))
                      have f1 : wr.cell? ⟨bo, o + i, none⟩ = some (.slice E k c') := (hbo.cell (p := ⟨bo, o + i, none⟩) (by show bo < _; omega)).trans g1
                      obtain ⟨F, k2, c2, l2, bo2, o2, hx2, hA2, hbl2, g2', hRw2, _⟩ := hL.pat (i := q) (by omega)
                      injection hA2 with hA2
                      injection hA2 with hA2 hA3
                      subst hA2 hA3
                      have f2 : wr.cell? ⟨bo, o + q, none⟩ = some (.slice F k2 c2) := (hbq.cell (p := ⟨bo, o + q, none⟩) hbl2).trans g2'
                      have hk2 : k2 ≤ 100000 := by rw [← hRw2.len]; exact hbd.out _ (List.mem_of_getElem? hx2.out)
                      have hnl := Lib.hid (show nearL 0 l l2 = nearP l l2 by unfold nearL; rw [hrt.out, (hgl.out q l2 hx2.out).2]; rfl)
                      have kN := fun w9 h1 h2 => ref36_Near E F k k2 c' c2 l l2 0 w9 h1 h2 (by omega) (by omega)
                      rw [hnl.out] at kN
                      cases hp : nearP l l2 with
                      | true =>
                        have HE := Lib.hid (mgE_twice (ls := ls) hgood.out hpgood.out (fun hN => by
                          obtain ⟨c0, hc0, e0, he0, hpe⟩ := nearP_iff.1 hp
                          exact two_apart hN hx.out hx2.out (by omega) hc0 he0 hpe))
                        rw [hp] at kN
                        clear hp
                        go_wp2_with fail
                        (refine wp_region_ext_lit (by kernel_rfl) (by kernel_rfl) ?_; (repeat (go_big_quiet_step ((go_at_call 14; exact calls_ext (kN _ (hRw.of (by (repeat' (first | exact Below.refl _ _ | assumption | (refine Below.alloc ?_ ?_ _) | (refine Below.setCell ?_ ?_ _) | (refine Below.drew ?_) | (refine below_drewN ?_ _) | (refine below_after (Ext.below _) ?_ ?_) | (refine below_after (by assumption) ?_ ?_) | (simp; done) | omega | (simp; omega))))) (hRw2.of (by (repeat' (first | exact Below.refl _ _ | assumption | (refine Below.alloc ?_ ?_ _) | (refine Below.setCell ?_ ?_ _) | (refine Below.drew ?_) | (refine below_drewN ?_ _) | (refine below_after (Ext.below _) ?_ ?_) | (refine below_after (by assumption) ?_ ?_) | (simp; done) | omega | (simp; omega)))))))))); refine wpQuiet_nil ?_; intro _ hw'; obtain ⟨z3, hw''⟩ := hw'; subst hw''; have hs3 := z3.size; obtain ⟨hc3, hf3⟩ := bcell z3.below; (try simp only [World.size_alloc, World.size_setCell, World.size_drew] at hc3 hf3); (try simp at hs3))
                        go_wp2_with fail
                        go_ret2
                        exact ⟨none, 0, 0, [], ret_pe HE.out.symm, RdX.nil_, by omega, Lib.hid (mgOut_err HE.out (by omega)), by (repeat' (first | exact Below.refl _ _ | assumption | (refine Below.alloc ?_ ?_ _) | (refine Below.setCell ?_ ?_ _) | (refine Below.drew ?_) | (refine below_drewN ?_ _) | (refine below_after (Ext.below _) ?_ ?_) | (refine below_after (by assumption) ?_ ?_) | (simp; done) | omega | (simp; omega)))⟩
                      | false =>
                        have hn' := Lib.hid (no_step hnear.out hx2.out hp)
                        rw [hp] at kN
                        clear hp
                        go_wp2_with fail
                        (refine wp_region_ext_lit (by kernel_rfl) (by kernel_rfl) ?_; (repeat (go_big_quiet_step ((go_at_call 14; exact calls_ext (kN _ (hRw.of (by (repeat' (first | exact Below.refl _ _ | assumption | (refine Below.alloc ?_ ?_ _) | (refine Below.setCell ?_ ?_ _) | (refine Below.drew ?_) | (refine below_drewN ?_ _) | (refine below_after (Ext.below _) ?_ ?_) | (refine below_after (by assumption) ?_ ?_) | (simp; done) | omega | (simp; omega))))) (hRw2.of (by (repeat' (first | exact Below.refl _ _ | assumption | (refine Below.alloc ?_ ?_ _) | (refine Below.setCell ?_ ?_ _) | (refine Below.drew ?_) | (refine below_drewN ?_ _) | (refine below_after (Ext.below _) ?_ ?_) | (refine below_after (by assumption) ?_ ?_) | (simp; done) | omega | (simp; omega)))))))))); refine wpQuiet_nil ?_; intro _ hw'; obtain ⟨z3, hw''⟩ := hw'; subst hw''; have hs3 := z3.size; obtain ⟨hc3, hf3⟩ := bcell z3.below; (try simp only [World.size_alloc, World.size_setCell, World.size_drew] at hc3 hf3); (try simp at hs3))
                        go_wp2_with fail
                        go_roundw
                        case rel => exact ⟨q + 1, by go_num, by omega, hn', by (repeat' (first | exact Below.refl _ _ | assumption | (refine Below.alloc ?_ ?_ _) | (refine Below.setCell ?_ ?_ _) | (refine Below.drew ?_) | (refine below_drewN ?_ _) | (refine below_after (Ext.below _) ?_ ?_) | (refine below_after (by assumption) ?_ ?_) | (simp; done) | omega | (simp; omega)))⟩
                        case measure => simp [intOf]; omega
                    · obtain rfl : q = i := by omega
                      have dq : decide ((q : Int) < q) = false := decide_eq_false (by omega)
                      have hnd' := Lib.hid (show (posT ls (q + 1)).Nodup from posT_next hx.out hrt.out hnd.out fun k x hk hxk c0 hc0 e0 he0 hpe => by
                        have h1 := hnear.out k x hk hxk
                        rw [nearP_iff.2 ⟨c0, hc0, e0, he0, hpe⟩] at h1
                        cases h1)
                      go_wp2_with fail
                      go_roundw
                      case rel => exact ⟨q + 1, by rw [hnx.out]; go_num, by go_num, by omega, hnd', hO.of hbo, by (repeat' (first | exact Below.refl _ _ | assumption | (refine Below.alloc ?_ ?_ _) | (refine Below.setCell ?_ ?_ _) | (refine Below.drew ?_) | (refine below_drewN ?_ _) | (refine below_after (Ext.below _) ?_ ?_) | (refine below_after (by assumption) ?_ ?_) | (simp; done) | omega | (simp; omega)))⟩
                      case measure => simp [intOf]; omega
                · obtain rfl : i = j := by omega
                  have di : decide ((i : Int) < i) = false := decide_eq_false (by omega)
                  have hndw := Lib.hid (show (ls.flatten.map posD).Nodup by rw [← posT_all hlen.out]; exact hnd.out)
                  have hsl := sumL_all hlen.out
                  by_cases h5 : 5000 < sumL ls i
                  · have d5 : decide (5000 < ((sumL ls i : Nat) : Int)) = true := decide_eq_true (by omega)
                    have HE := Lib.hid (mgE_size (ls := ls) hgood.out hpgood.out hndw.out (by omega))
                    clear hsl
                    go_wp2_with fail
                    go_ret2
                    exact ⟨none, 0, 0, [], ret_pe HE.out.symm, RdX.nil_, by omega, Lib.hid (mgOut_err HE.out (by omega)), hb⟩
                  · have d5 : decide (5000 < ((sumL ls i : Nat) : Int)) = false := decide_eq_false (by omega)
                    have d5' : decide (5000 < sumL ls i) = false := decide_eq_false h5
                    have HE := Lib.hid (mgE_ok (ls := ls) hgood.out hpgood.out hndw.out (by omega))
                    have hfl := Lib.hid (show ls.flatten.length ≤ 5000 by omega)
                    clear hsl
                    go_wp2_with fail
                    clear d5 d5' h5 di
                    go_loopw [14] (fun v wr => ∃ (q : Nat) (h : Nat → Nat) (gl : List Int), v = .int .i64 q ∧ q ≤ t ∧ Own encI 1 3 w1.heap.size wr (some ⟨w1.heap.size, 0, none⟩) i i gl ∧ Hid (grpIs gl h) ∧ Hid (Tells i (pl.take q) h) ∧ Hid (∀ k, k < i → h k < i) ∧ Below w.heap.size w wr) (fun v _ => t - (intOf v).toNat)
                    case atStart => exact ⟨0, id, gl, rfl, by omega, hO, hG0, Lib.hid tells_start, Lib.hid (fun k hk => hk), hb⟩
                    case round =>
                      clear hO hb hG0 hnd
                      obtain ⟨q, h, gl, rfl, hq, hO, hG, hT, hh, hb⟩ := hrel
                      have hsr2 := hb.size
                      by_cases hlq : q < t
                      · have dq : decide ((q : Int) < t) = true := decide_eq_true (by omega)
                        obtain ⟨x0, x1, bo, o, hx, rfl, hbl, g1, g2⟩ := (hP.of hb).pt hlq
                        obtain ⟨a, b, rfl, rfl, ha, hb'⟩ := badP_good (hpok.out q _ hx.out)
                        obtain ⟨va, hva, g0, f1, f2, _, _⟩ := hO.intCell ha
                        obtain ⟨vb, hvb, _, f3, f4, _, _⟩ := hO.intCell hb'
                        have eva := hG.out a va hva.out
                        have evb := hG.out b vb hvb.out
                        subst eva evb
                        have hT' := Lib.hid (tells_take2 hT.out hx.out ha hb')
                        have hh' := Lib.hid (join_lt (b := b) hh.out ha)
                        have hM0 := Lib.hid (mid_start (b := b) (a := a) hG.out)
                        clear hT hh hG hva hvb
                        go_wp2_with fail
                        (refine wp_region_ext_lit (by kernel_rfl) (by kernel_rfl) ?_; (repeat (go_big_quiet_step (fail))); refine wpQuiet_nil ?_; intro _ hw'; obtain ⟨z3, hw''⟩ := hw'; subst hw''; have hs3 := z3.size; obtain ⟨hc3, hf3⟩ := bcell z3.below; (try simp only [World.size_alloc, World.size_setCell, World.size_drew] at hc3 hf3); (try simp at hs3))
                        have hO3 := hO.of z3.below
                        have hb3 : Below w.heap.size w z3.world := by (repeat' (first | exact Below.refl _ _ | assumption | (refine Below.alloc ?_ ?_ _) | (refine Below.setCell ?_ ?_ _) | (refine Below.drew ?_) | (refine below_drewN ?_ _) | (refine below_after (Ext.below _) ?_ ?_) | (refine below_after (by assumption) ?_ ?_) | (simp; done) | omega | (simp; omega)))
                        clear hc3 hf3
                        go_wp2_with fail
                        go_loopw [17] (fun v wr => ∃ (k : Nat) (gl : List Int), v = .int .i64 k ∧ k ≤ i ∧ Own encI 1 3 w1.heap.size wr (some ⟨w1.heap.size, 0, none⟩) i i gl ∧ Hid (grpIs gl (midF h b a k)) ∧ Below w.heap.size w wr) (fun v _ => i - (intOf v).toNat)
                        case atStart => exact ⟨0, gl, rfl, by omega, hO3, hM0, hb3⟩
                        case round =>
                          clear hO3 hb3 hM0 hO
                          obtain ⟨k, gl, rfl, hk, hO, hM, hb⟩ := hrel
                          by_cases hlk : k < i
                          · have dk : decide ((k : Int) < i) = true := decide_eq_true (by omega)
                            obtain ⟨vk, hvk, _, p1, p2, _, _⟩ := hO.intCell hlk
                            have evk := mid_at hM.out hvk.out
                            subst evk
                            by_cases he : h k = h b
                            · have de : (((h k : Nat) : Int) == ((h b : Nat) : Int)) = true := by rw [he]; simp
                              have hM' := Lib.hid (mid_set hM.out hvk.out he)
                              clear he
                              go_wp2_with fail
                              go_roundw
                              case rel => exact ⟨k + 1, _, by go_num, by omega, own_setI hO hlk _, hM', by (repeat' (first | exact Below.refl _ _ | assumption | (refine Below.alloc ?_ ?_ _) | (refine Below.setCell ?_ ?_ _) | (refine Below.drew ?_) | (refine below_drewN ?_ _) | (refine below_after (Ext.below _) ?_ ?_) | (refine below_after (by assumption) ?_ ?_) | (simp; done) | omega | (simp; omega)))⟩
                              case measure => simp [intOf]; omega
                            · have de : (((h k : Nat) : Int) == ((h b : Nat) : Int)) = false := by simp only [beq_eq_false_iff_ne, ne_eq]; omega
                              have hM' := Lib.hid (mid_keep hM.out he)
                              clear he
                              go_wp2_with fail
                              go_roundw
                              case rel => exact ⟨k + 1, _, by go_num, by omega, hO, hM', hb⟩
                              case measure => simp [intOf]; omega
                          · obtain rfl : k = i := by omega
                            have dk : decide ((k : Int) < k) = false := decide_eq_false (by omega)
                            have hM' := Lib.hid (mid_end hO.len hM.out)
                            go_wp2_with fail
                            go_roundw
                            case rel => exact ⟨q + 1, joinF h b a, gl, by go_num, by omega, hO, hM', hT', hh', hb⟩
                            case measure => simp [intOf]; omega
                      · obtain rfl : q = t := by omega
                        have dq : decide ((q : Int) < q) = false := decide_eq_false (by omega)
                        have hT' := Lib.hid (show Tells ls.length pl h by rw [hlen.out, ← List.take_of_length_le (show pl.length ≤ q by rw [hplen.out]; omega)]; exact hT.out)
                        have hne := Lib.hid (show ∀ l ∈ ls, l ≠ [] from fun l hl => by
                          obtain ⟨k, hk, e⟩ := List.getElem_of_mem hl
                          exact (hgl.out k l (by rw [List.getElem?_eq_getElem hk, e])).1)
                        have hmg := Lib.hid (outN_mg hT'.out (by rw [hlen.out]; exact hh.out) hndw.out hne.out)
                        have hois := Lib.hid (outN_is (f := h) hndw.out hne.out)
                        have hpok2 := Lib.hid (patR_ok (f := h) hgood.out hndw.out hfl.out)
                        obtain ⟨we, rfl⟩ : ∃ we : World, we = wr := ⟨_, rfl⟩
                        clear hT hq hlq
                        go_wp2_with fail
                        go_loopw [18, 19] (fun v u wr => ∃ (E : Option Addr) (p s r : Nat), v = .slice E p s ∧ u = .int .i64 r ∧ r ≤ i ∧ RdX ekC wr E p (outN ls h r) ∧ Below we.heap.size we wr) (fun _ u _ => i - (intOf u).toNat)
                        case atStart => exact ⟨none, 0, 0, 0, rfl, rfl, by omega, RdX.nil_, Below.refl _ _⟩
                        case round =>
                          obtain ⟨E, p, s, r, rfl, rfl, hr, hOut, hbe⟩ := hrel
                          have hse := hbe.size
                          have hpr : p ≤ r := by rw [← hOut.len]; exact outN_len ls h r
                          by_cases hlr : r < i
                          · have dr : decide ((r : Int) < i) = true := decide_eq_true (by omega)
                            obtain ⟨wo, rfl⟩ : ∃ wo : World, wo = wr := ⟨_, rfl⟩
                            go_wp2
                            go_loopw [20, 21] (fun v u wr => ∃ (Q : Option Addr) (x y k : Nat), v = .slice Q x y ∧ u = .int .i64 k ∧ k ≤ i ∧ Own encC 3 39 wo.heap.size wr Q x y (catN ls (fun k => h k == r) k) ∧ Below wo.heap.size wo wr) (fun _ u _ => i - (intOf u).toNat)
                            case atStart => exact ⟨none, 0, 0, 0, rfl, rfl, by omega, Own.nil_, Below.refl _ _⟩
                            case round =>
                              obtain ⟨Q, x, y, k, rfl, rfl, hk, hQ, hbo⟩ := hrel
                              have hso := hbo.size
                              have hbw : Below w.heap.size w wr := by (repeat' (first | exact Below.refl _ _ | assumption | (refine Below.alloc ?_ ?_ _) | (refine Below.setCell ?_ ?_ _) | (refine Below.drew ?_) | (refine below_drewN ?_ _) | (refine below_after (Ext.below _) ?_ ?_) | (refine below_after (by assumption) ?_ ?_) | (simp; done) | omega | (simp; omega)))
                              have hbq : Below we.heap.size we wr := below_after hbo hbe hse
                              have hOq := hO.of hbq
                              by_cases hlk : k < i
                              · have dk : decide ((k : Int) < i) = true := decide_eq_true (by omega)
                                obtain ⟨F, k2, c2, l, bo, o, hx, rfl, hbl, f1', hRw, hkc⟩ := hL.pat hlk
                                have f1 : wr.cell? ⟨bo, o + k, none⟩ = some (.slice F k2 c2) := (hbw.cell (p := ⟨bo, o + k, none⟩) hbl).trans f1'
                                have hln := Lib.hid hRw.len
                                obtain ⟨vk, hvk, _, p1, p2, _, _⟩ := hOq.intCell hlk
                                have evk := hG.out k vk hvk.out
                                subst evk
                                have hxl : x ≤ 5000 := by
                                  rw [← hQ.len]
                                  have h1 := cat_len (ls := ls) (p := fun k => h k == r) (i := k) (by rw [hlen.out]; omega)
                                  have h2 := sumL_flat ls k
                                  have h3 := hfl.out
                                  omega
                                by_cases he : h k = r
                                · have de : (((h k : Nat) : Int) == (r : Int)) = true := by rw [he]; simp
                                  have hst := Lib.hid (show catN ls (fun k => h k == r) (k + 1) = catN ls (fun k => h k == r) k ++ l by rw [catN_step hx.out, if_pos (by simpa using he)])
                                  have hk2 : k2 ≤ 5000 := by rw [← hln.out]; exact (rightC_ok (hgl.out k l hx.out).2).1
                                  clear he
                                  obtain ⟨wi, rfl⟩ : ∃ wi : World, wi = wr := ⟨_, rfl⟩
                                  go_wp2_with fail
                                  go_loopw [20, 22] (fun v u wr => ∃ (Q : Option Addr) (x2 y j : Nat), v = .slice Q x2 y ∧ u = .int .i64 j ∧ j ≤ k2 ∧ x2 ≤ 5000 + j ∧ Own encC 3 39 wo.heap.size wr Q x2 y (catN ls (fun k => h k == r) k ++ l.take j) ∧ Below wo.heap.size wo wr) (fun _ u _ => k2 - (intOf u).toNat)
                                  case atStart => exact ⟨Q, x, y, 0, rfl, rfl, by omega, by omega, by rw [List.take_zero, List.append_nil]; exact hQ, hbo⟩
                                  case round =>
                                    clear hQ hbo hxl
                                    obtain ⟨Q, x2, y, j, rfl, rfl, hj, hx2, hQ, hbo⟩ := hrel
                                    have hso := hbo.size
                                    have hbw2 : Below w.heap.size w wr := by (repeat' (first | exact Below.refl _ _ | assumption | (refine Below.alloc ?_ ?_ _) | (refine Below.setCell ?_ ?_ _) | (refine Below.drew ?_) | (refine below_drewN ?_ _) | (refine below_after (Ext.below _) ?_ ?_) | (refine below_after (by assumption) ?_ ?_) | (simp; done) | omega | (simp; omega)))
                                    have f1 : wr.cell? ⟨bo, o + k, none⟩ = some (.slice F k2 c2) := (hbw2.cell (p := ⟨bo, o + k, none⟩) hbl).trans f1'
                                    by_cases hlj : j < k2
                                    · have dj2 : decide ((j : Int) < k2) = true := decide_eq_true (by omega)
                                      obtain ⟨x', y', s', be, oe, hc', rfl, hbe', q1, q2, q3⟩ := (hRw.of hbw2).cell hlj
                                      have hst2 := Lib.hid (show catN ls (fun k => h k == r) k ++ l.take (j + 1) = (catN ls (fun k => h k == r) k ++ l.take j) ++ [(x', y', s')] by rw [List.take_add_one, hc'.out]; simp)
                                      go_wp2_with (first | (at_builtin; refine wpList_append_el rfl (.tmp 180) (.tmp 188) 22 rfl encC 3 39 (.agg #[.int .i64 0, .int .i64 0, .int .i64 0]) 24 Try.underlying22 (by kernel_rfl) rfl (by decide) encC_len encC_one (wo.heap.size) _ _ _ _ rfl (hQ.alloc _) (x', y', s') ⟨(wr).heap.size, 0, none⟩ 1 rfl (cells_new (wr) _ _) (by omega) (by omega) (by first | omega | (simp; done) | (simp; omega)) ?_; intro A6 c6 w6 hown6 hg6 hb6; obtain ⟨hc6, hf6⟩ := bcell hb6; have hs6 := hb6.size; (try simp only [World.size_alloc, World.size_setCell, World.size_drew] at hc6 hf6); (try simp at hs6)))
                                      go_roundw
                                      case rel => exact ⟨A6, x2 + 1, c6, j + 1, rfl, by go_num, by omega, by omega, by rw [hst2.out]; exact hown6, by (repeat' (first | exact Below.refl _ _ | assumption | (refine Below.alloc ?_ ?_ _) | (refine Below.setCell ?_ ?_ _) | (refine Below.drew ?_) | (refine below_drewN ?_ _) | (refine below_after (Ext.below _) ?_ ?_) | (refine below_after (by assumption) ?_ ?_) | (simp; done) | omega | (simp; omega)))⟩
                                      case measure => simp [intOf]; omega
                                    · obtain rfl : j = k2 := by omega
                                      have dj2 : decide ((j : Int) < j) = false := decide_eq_false (by omega)
                                      rw [List.take_of_length_le (by rw [hln.out]; exact Nat.le_refl _)] at hQ
                                      go_wp2_with fail
                                      go_roundw
                                      case rel => exact ⟨Q, x2, y, k + 1, rfl, by go_num, by omega, by rw [hst.out]; exact hQ, hbo⟩
                                      case measure => simp [intOf]; omega
                                · have de : (((h k : Nat) : Int) == (r : Int)) = false := by simp only [beq_eq_false_iff_ne, ne_eq]; omega
                                  have hst := Lib.hid (show catN ls (fun k => h k == r) (k + 1) = catN ls (fun k => h k == r) k by rw [catN_step hx.out, if_neg (by simpa using he)]; simp)
                                  clear he
                                  go_wp2_with fail
                                  go_roundw
                                  case rel => exact ⟨Q, x, y, k + 1, rfl, by go_num, by omega, by rw [hst.out]; exact hQ, hbo⟩
                                  case measure => simp [intOf]; omega
                              · obtain rfl : k = i := by omega
                                have dk : decide ((k : Int) < k) = false := decide_eq_false (by omega)
                                have hcx := Lib.hid (show (catN ls (fun k => h k == r) ls.length).length = x by rw [hlen.out]; exact hQ.len)
                                have hQR := hQ.rd encC_len
                                rw [← hlen.out] at hQR
                                have hOutq := hOut.of hbo
                                clear hQ
                                by_cases hx0 : x = 0
                                · subst hx0
                                  have d0 : decide ((0 : Int) < ((0 : Nat) : Int)) = false := rfl
                                  have hst := Lib.hid (show outN ls h (r + 1) = outN ls h r by rw [outN, if_pos hcx.out])
                                  go_wp2_with fail
                                  go_roundw
                                  case rel => exact ⟨E, p, s, r + 1, rfl, by go_num, by omega, by rw [hst.out]; exact hOutq, hbq⟩
                                  case measure => simp [intOf]; omega
                                · have d0 : decide ((0 : Int) < (x : Int)) = true := decide_eq_true (by omega)
                                  have hst := Lib.hid (show outN ls h (r + 1) = insF (outN ls h r) (patR ls h r) by rw [outN, if_neg (by rw [hcx.out]; exact hx0)])
                                  obtain ⟨o1, o2, o3⟩ := hpok2.out r
                                  obtain ⟨k1, k2⟩ := frL_cells (m := catN ls (fun k => h k == r) ls.length) (fun c hc => o1 c hc) o2 o3
                                  have kF := fun w9 h1 => ref05_FromC Q x y (catN ls (fun k => h k == r) ls.length) w9 h1 (by rw [← hcx.out]; omega)
                                  rw [k1, k2] at kF
                                  have hpl := Lib.hid (show (srtC (catN ls (fun k => h k == r) ls.length)).length = x by rw [(srtC_perm _).length_eq]; exact hcx.out)
                                  have hol := Lib.hid (show ∀ l ∈ outN ls h r, l ≠ [] from fun l hl => by
                                    obtain ⟨r', _, ⟨k', hk', e'⟩, rfl⟩ := ((hois.out r).2 l).1 hl
                                    rw [← e']; exact patR_ne hne.out hk')
                                  clear o1 o2 o3 k1 k2
                                  go_wp2_with fail
                                  go_at_call 30
                                  refine (kF _ hQR).mono ?_
                                  rintro e w5 ⟨A5, n5, c5, rfl, hR5, hn5, hc5, hb5⟩
                                  have hs5 := hb5.size
                                  obtain rfl : n5 = x := by rw [← hR5.len]; exact hpl.out
                                  go_wp2_with fail
                                  go_at_call 31
                                  refine (ref36_insert E A5 p s n5 c5 (outN ls h r) (patR ls h r) w5 (hOutq.of hb5) hR5 (by omega) hc5 hol.out (by omega)).mono ?_
                                  rintro e w6 ⟨A6, n6, c6, rfl, hO6, hb6⟩
                                  have hs6 := hb6.size
                                  go_wp2_with fail
                                  go_roundw
                                  case rel => exact ⟨A6, n6, c6, r + 1, rfl, by go_num, by omega, by rw [hst.out]; exact hO6, by (repeat' (first | exact Below.refl _ _ | assumption | (refine Below.alloc ?_ ?_ _) | (refine Below.setCell ?_ ?_ _) | (refine Below.drew ?_) | (refine below_drewN ?_ _) | (refine below_after (Ext.below _) ?_ ?_) | (refine below_after (by assumption) ?_ ?_) | (simp; done) | omega | (simp; omega)))⟩
                                  case measure => simp [intOf]; omega
                          · obtain rfl : r = i := by omega
                            have dr : decide ((r : Int) < r) = false := decide_eq_false (by omega)
                            have HM := Lib.hid (show IsMg ls pl (outN ls h r) by rw [← hlen.out]; exact hmg.out)
                            go_wp2_with fail
                            go_ret2
                            exact ⟨E, p, s, outN ls h r, ret_pe HE.out.symm, hOut, hpr, Lib.hid ⟨fun h0 => absurd HE.out h0, fun _ => HM.out⟩, by (repeat' (first | exact Below.refl _ _ | assumption | (refine Below.alloc ?_ ?_ _) | (refine Below.setCell ?_ ?_ _) | (refine Below.drew ?_) | (refine below_drewN ?_ _) | (refine below_after (Ext.below _) ?_ ?_) | (refine below_after (by assumption) ?_ ?_) | (simp; done) | omega | (simp; omega)))⟩
end Go.Proofs.Ytenckggfgbkfnaa
