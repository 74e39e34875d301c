/- The contract of island.Merge. -/
import Derived.Test.YtenckggfgbkfnaaIslS
import Derived.Deep.RegionHeld3
import Derived.Test.YtenckggfgbkfnaaBoxAt
import Derived.Outline
namespace Go.Proofs.Ytenckggfgbkfnaa
open Go Go.RowKit
set_option linter.unusedSimpArgs false
set_option linter.unusedVariables false
set_option maxRecDepth 100000
attribute [local go_sem ↓ high] eq_cl neq_cl eq_pt neq_pt
/-- What Merge returns. -/
def mgOut (ls : List (List (Int × Int × Int))) (pl : List (Int × Int)) (L : List (List (Int × Int × Int))) : Prop := (mgE ls pl ≠ 0 → L = []) ∧ (mgE ls pl = 0 → IsMg ls pl L)
theorem mgOut_err {ls : List (List (Int × Int × Int))} {pl : List (Int × Int)} {q : Int} (h : mgE ls pl = q) (hq : q ≠ 0) : mgOut ls pl [] := ⟨fun _ => rfl, fun h0 => absurd (h.symm.trans h0) hq⟩
theorem UFt.rootCell {g B n c : Nat} {e : TypeId} {f dep : Nat → Nat} {w : World} (h : UFt g B n c e f dep w) {i : Nat} (hi : i < n) : w.cell? ⟨g, f i, none⟩ = some (.int .i64 ((f i : Nat) : Int)) ∧ w.frozen? ⟨g, f i, none⟩ = false ∧ f i < n := by
  obtain ⟨gl, h1, h2⟩ := h.ex
  obtain ⟨h3, h4⟩ := h2.root i hi
  obtain ⟨x, hx, _, h5, h6, _, _⟩ := h1.intCell h3
  have := hx.out
  rw [h4] at this
  injection this with this
  subst this
  exact ⟨h5, h6, h3⟩
theorem UFt.join {g B n c : Nat} {e : TypeId} {f dep : Nat → Nat} {w : World} {a b : Nat} (h : UFt g B n c e f dep w) (ha : a < n) (hb : b < n) : ∃ dep', UFt g B n c e (joinF f a b) dep' (w.setCell ⟨g, f a, none⟩ (.int .i64 ((f b : Nat) : Int))) := by
  obtain ⟨gl, h1, h2⟩ := h.ex
  obtain ⟨dep', h3⟩ := h2.join ha hb
  exact ⟨dep', ⟨_, own_setI h1 (h2.root a ha).1 _, h3⟩⟩
theorem pair_ways {n : Nat} {x y : Int} : (decide (x < 0) = true) ∨ (decide (x < 0) = false ∧ decide ((n : Int) ≤ x) = true) ∨ (decide (x < 0) = false ∧ decide ((n : Int) ≤ x) = false ∧ decide (y < 0) = true) ∨ (decide (x < 0) = false ∧ decide ((n : Int) ≤ x) = false ∧ decide (y < 0) = false ∧ decide ((n : Int) ≤ y) = true) ∨
    (decide (x < 0) = false ∧ decide ((n : Int) ≤ x) = false ∧ decide (y < 0) = false ∧ decide ((n : Int) ≤ y) = false) := by
  simp only [decide_eq_true_eq, decide_eq_false_iff_not]; omega
theorem tells_take {n t a b : Nat} {f : Nat → Nat} {pl : List (Int × Int)} (h : Tells n (pl.take t) f) (hx : pl[t]? = some ((a : Int), (b : Int))) (ha : a < n) (hb : b < n) : Tells n (pl.take (t + 1)) (joinF f a b) := by
  rw [List.take_add_one, hx]
  exact tells_step h ha hb
theorem good_step {ls : List (List (Int × Int × Int))} {i : Nat} {l : List (Int × Int × Int)} (h : ∀ (k : Nat) x, k < i → ls[k]? = some x → badL x = false) (hx : ls[i]? = some l) (hg : badL l = false) : ∀ (k : Nat) x, k < i + 1 → ls[k]? = some x → badL x = false := by
  intro k x hk hy
  by_cases e : k = i
  · rw [e, hx] at hy; cases hy; exact hg
  · exact h k x (by omega) hy
theorem lf_ne (lf : Int → Bool) (x : Int) : (fun y => lf y && decide (y ≠ x)) = fun y => lf y && !decide (y = x) := by funext y; simp
set_option maxHeartbeats 16000000 in
theorem isl_Merge (A B : Option Addr) (n c m d : Nat) (ls : List (List (Int × Int × Int))) (pl : List (Int × Int)) (w : World) (hL : RdX ekC w A n ls) (hP : Rd encP 2 w B m pl) (hn : n ≤ 1000) (hm : m ≤ 1000) (hbd : ∀ l ∈ ls, l.length ≤ 100000) :
    Calls Try.prog 15 #[.slice A n c, .slice B m d] w fun e w' => ∃ A2 n2 c2 L, e = .returned (.tuple #[.slice A2 n2 c2, .int .i64 (mgE ls pl)]) ∧ RdX ekC w' A2 n2 L ∧ n2 ≤ n ∧ Hid (mgOut ls pl L) ∧ Below w.heap.size w w' := by
  have hlen := Lib.hid hL.len
  have hplen := Lib.hid hP.len
  have hbd := Lib.hid hbd
  have hmk := fun w => run_make_ints Try.underlying54 n (by omega) w
  go_enter Try.func15, Try.ntmps15
  go_wp2_with fail
  go_loopw [6, 29] (fun v t wr => ∃ i : Nat, v = .int .i64 (sumL ls i : Nat) ∧ t = .int .i64 i ∧ i ≤ n ∧ Hid (∀ (k : Nat) x, k < i → ls[k]? = some x → badL x = false) ∧ Below w.heap.size w wr) (fun _ t _ => n - (intOf t).toNat)
  case atStart => exact ⟨0, rfl, rfl, by omega, Lib.hid (fun k x hk => absurd hk (by omega)), Below.refl _ _⟩
  case round =>
    obtain ⟨i, rfl, rfl, hi, hok, hb⟩ := hrel
    have hs := hb.size
    by_cases hli : i < n
    · have di : decide ((i : Int) < n) = true := decide_eq_true (by omega)
      obtain ⟨E, k, c', l, bo, o, hx, rfl, hbl, g1, hRl, hkc⟩ := (hL.of hb).pat hli
      have hln := Lib.hid hRl.len
      have hsum := sumL_le hbd.out i
      have hkb : k ≤ 100000 := by rw [← hln.out]; exact hbd.out _ (List.mem_of_getElem? hx.out)
      have hnx := Lib.hid (show sumL ls (i + 1) = sumL ls i + k by rw [sumL_step hx.out, hln.out])
      obtain ⟨S, hS⟩ : ∃ S, S = sumL ls i := ⟨_, rfl⟩
      rw [← hS] at hsum
      have hSb : S ≤ 100000000 := Nat.le_trans hsum (by have := Nat.mul_le_mul_right 100000 (show i ≤ 1000 by omega); omega)
      have hS := Lib.hid hS
      clear hsum
      rw [← hS.out]
      by_cases hk0 : k = 0
      · subst hk0
        have dk : (((0 : Nat) : Int) == 0) = true := rfl
        have HE := Lib.hid (mgE_bad (pl := pl) hx.out (badL_bad.2 (Or.inl (List.length_eq_zero_iff.1 hln.out))))
        go_wp2_with fail
        go_ret2
        exact ⟨none, 0, 0, [], ret_pe HE.out.symm, RdX.nil_, by omega, Lib.hid (mgOut_err HE.out (by omega)), hb⟩
      · have dk : ((k : Int) == 0) = false := by simp only [beq_eq_false_iff_ne, ne_eq]; omega
        cases hr : rightC l with
        | false =>
          have kR := fun w1 (h : Rd encC 3 w1 E k l) => pat_RightV (A := E) (n := k) (c := c') hr w1 h (by omega)
          have HE := Lib.hid (mgE_bad (pl := pl) hx.out (badL_bad.2 (Or.inr hr)))
          clear hr
          go_wp2_with fail
          go_at_call 19
          refine (kR _ hRl).mono ?_
          rintro e w1 ⟨rfl, hb1⟩
          go_wp2_with fail
          go_ret2
          exact ⟨none, 0, 0, [], ret_pe HE.out.symm, RdX.nil_, by omega, Lib.hid (mgOut_err HE.out (by omega)), by (repeat' (first | exact Below.refl _ _ | assumption | (refine Below.alloc ?_ ?_ _) | (refine Below.setCell ?_ ?_ _) | (refine Below.drew ?_) | (refine below_drewN ?_ _) | (refine below_after (Ext.below _) ?_ ?_) | (refine below_after (by assumption) ?_ ?_) | (simp; done) | omega | (simp; omega)))⟩
        | true =>
          have kR := fun w1 (h : Rd encC 3 w1 E k l) => pat_RightV (A := E) (n := k) (c := c') hr w1 h (by omega)
          have hok' := Lib.hid (good_step hok.out hx.out (badL_good.2 ⟨fun e => hk0 (by rw [← hln.out, e]; rfl), hr⟩))
          clear hr
          go_wp2_with fail
          go_at_call 19
          refine (kR _ hRl).mono ?_
          rintro e w1 ⟨rfl, hb1⟩
          have hs1 := hb1.size
          go_wp2_with fail
          go_roundw
          case rel => exact ⟨i + 1, by rw [hnx.out, ← hS.out]; go_num, by go_num, by omega, hok', by (repeat' (first | exact Below.refl _ _ | assumption | (refine Below.alloc ?_ ?_ _) | (refine Below.setCell ?_ ?_ _) | (refine Below.drew ?_) | (refine below_drewN ?_ _) | (refine below_after (Ext.below _) ?_ ?_) | (refine below_after (by assumption) ?_ ?_) | (simp; done) | omega | (simp; omega)))⟩
          case measure => simp [intOf]; omega
    · obtain rfl : i = n := by omega
      have di : decide ((i : Int) < i) = false := decide_eq_false (by omega)
      have hgood := Lib.hid (any_bad (ls := ls) fun k l hk hx => hok.out k l (by rw [← hlen.out]; exact hk) hx)
      have hgl := Lib.hid (fun (k : Nat) l (hx : ls[k]? = some l) => badL_good.1 (hok.out k l (by rw [← hlen.out]; exact lt_of_some hx) hx))
      obtain ⟨w1, rfl⟩ : ∃ w1 : World, w1 = wr := ⟨_, rfl⟩
      clear hok hli hi
      go_wp2_with fail
      clear hmk
      have hO := own_made w1 3 w1.heap.size (Nat.le_refl _) i (by omega)
      have hB0 : Below w.heap.size w (w1.alloc (.cells (madeCells #[.int .i64 0] i) 3)) := by (repeat' (first | exact Below.refl _ _ | assumption | (refine Below.alloc ?_ ?_ _) | (refine Below.setCell ?_ ?_ _) | (refine Below.drew ?_) | (refine below_drewN ?_ _) | (refine below_after (Ext.below _) ?_ ?_) | (refine below_after (by assumption) ?_ ?_) | (simp; done) | omega | (simp; omega)))
      clear hb
      go_loopw [51] (fun t wr => ∃ (j : Nat) (gl : List Int), t = .int .i64 j ∧ j ≤ i ∧ Own encI 1 3 w1.heap.size wr (some ⟨w1.heap.size, 0, none⟩) i i gl ∧ Hid (∀ (i' : Nat) (x : Int), i' < j → gl[i']? = some x → x = i') ∧ Below w.heap.size w wr) (fun t _ => i - (intOf t).toNat)
      case atStart => exact ⟨0, _, rfl, by omega, hO, Lib.hid (fun i' x hi => absurd hi (by omega)), hB0⟩
      case round =>
        clear hO hB0
        obtain ⟨j, gl, rfl, hj, hO, hno, hb⟩ := hrel
        by_cases hlt : j < i
        · have dj : decide ((j : Int) < i) = true := decide_eq_true (by omega)
          obtain ⟨x, hx, g0, g1, g2, _, _⟩ := hO.intCell hlt
          go_wp2_with fail
          go_roundw
          case rel => exact ⟨j + 1, _, by go_num, by omega, own_setI hO hlt j, Lib.hid (num_step hno.out hx.out), by (repeat' (first | exact Below.refl _ _ | assumption | (refine Below.alloc ?_ ?_ _) | (refine Below.setCell ?_ ?_ _) | (refine Below.drew ?_) | (refine below_drewN ?_ _) | (refine below_after (Ext.below _) ?_ ?_) | (refine below_after (by assumption) ?_ ?_) | (simp; done) | omega | (simp; omega)))⟩
          case measure => simp [intOf]; omega
        · obtain rfl : j = i := by omega
          have dj : decide ((j : Int) < j) = false := decide_eq_false (by omega)
          have hU0 : UFt w1.heap.size w1.heap.size j j 3 id (fun _ => 0) wr := ⟨gl, hO, UF.start hO.len (fun i x hx => hno.out i x (by have := lt_of_some hx; rw [hO.len] at this; exact this) hx)⟩
          clear hno hlt hj hO di
          go_wp2_with fail
          go_loopw [61] (fun v wr => ∃ (t : Nat) (f dep : Nat → Nat), v = .int .i64 t ∧ t ≤ m ∧ UFt w1.heap.size w1.heap.size j j 3 f dep wr ∧ Hid (Tells j (pl.take t) f) ∧ Hid (∀ (k : Nat) p, k < t → pl[k]? = some p → badP j p = false) ∧ Below w.heap.size w wr) (fun v _ => m - (intOf v).toNat)
          case atStart => exact ⟨0, id, fun _ => 0, rfl, by omega, hU0, Lib.hid tells_start, Lib.hid (fun k x hk => absurd hk (by omega)), hb⟩
          case round =>
            clear hU0 hb
            obtain ⟨t, f, dep, rfl, ht, hU, hT, hok, hb⟩ := hrel
            have hsb := hb.size
            have hgz := hU.lt.2
            by_cases hlt : t < m
            · have dt : decide ((t : Int) < m) = true := decide_eq_true (by omega)
              obtain ⟨x0, x1, bo, o, hx, rfl, hbl, g1, g2⟩ := (hP.of hb).pt hlt
              have i0 : ∀ w, (Instr.index 41 (.agg #[.int .i64 x0, .int .i64 x1]) (.int .i64 0)).run Try.prog w = .ok (.int .i64 x0) w := fun _ => by kernel_rfl
              have i1 : ∀ w, (Instr.index 41 (.agg #[.int .i64 x0, .int .i64 x1]) (.int .i64 1)).run Try.prog w = .ok (.int .i64 x1) w := fun _ => by kernel_rfl
              have hbp : badP j (x0, x1) = decide (x0 < 0 ∨ (j : Int) ≤ x0 ∨ x1 < 0 ∨ (j : Int) ≤ x1) := rfl
              rcases @pair_ways j x0 x1 with e1 | ⟨e1, e2⟩ | ⟨e1, e2, e3⟩ | ⟨e1, e2, e3, e4⟩ | ⟨e1, e2, e3, e4⟩
              iterate 4
                · have HE := Lib.hid (mgE_pair (ls := ls) hgood.out hx.out (show badP ls.length (x0, x1) = true by rw [hlen.out, hbp]; simp only [decide_eq_true_eq, decide_eq_false_iff_not] at *; omega))
                  clear hbp
                  go_wp2_with fail
                  refine wp_loop_rounds 2 ?_
                  rw [rounds_succ]
                  go_wp2_with fail
                  try (rw [rounds_succ]; go_wp2_with fail)
                  go_ret2
                  exact ⟨none, 0, 0, [], ret_pe HE.out.symm, RdX.nil_, by omega, Lib.hid (mgOut_err HE.out (by omega)), by (repeat' (first | exact Below.refl _ _ | assumption | (refine Below.alloc ?_ ?_ _) | (refine Below.setCell ?_ ?_ _) | (refine Below.drew ?_) | (refine below_drewN ?_ _) | (refine below_after (Ext.below _) ?_ ?_) | (refine below_after (by assumption) ?_ ?_) | (simp; done) | omega | (simp; omega)))⟩
              have hbad : badP j (x0, x1) = false := by rw [hbp]; simp only [decide_eq_false_iff_not] at *; omega
              have hok' := Lib.hid (no_step hok.out hx.out hbad)
              obtain ⟨a, rfl⟩ := Int.eq_ofNat_of_zero_le (show 0 ≤ x0 by simp only [decide_eq_false_iff_not] at e1; omega)
              obtain ⟨b, rfl⟩ := Int.eq_ofNat_of_zero_le (show 0 ≤ x1 by simp only [decide_eq_false_iff_not] at e3; omega)
              have ha : a < j := by simp only [decide_eq_false_iff_not] at e2; omega
              have hb' : b < j := by simp only [decide_eq_false_iff_not] at e4; omega
              have hT' := Lib.hid (tells_take hT.out hx.out ha hb')
              clear hbp hbad hT hok
              go_wp2_with fail
              refine wp_loop_rounds 3 ?_
              rw [rounds_succ]
              go_wp2_with fail
              rw [rounds_succ]
              go_wp2_with fail
              rw [rounds_succ]
              go_wp2_with fail
              clear i0 i1 e1 e2 e3 e4
              have hUd : UFt w1.heap.size w1.heap.size j j 3 f dep (wr.alloc (.cells #[.int .i64 a, .int .i64 b] 41)).drew := (hU.of (by (repeat' (first | exact Below.refl _ _ | assumption | (refine Below.alloc ?_ ?_ _) | (refine Below.setCell ?_ ?_ _) | (refine Below.drew ?_) | (refine below_drewN ?_ _) | (refine below_after (Ext.below _) ?_ ?_) | (refine below_after (by assumption) ?_ ?_) | (simp; done) | omega | (simp; omega))))).drew
              have hbr : RowKit.Below w.heap.size w (wr.alloc (.cells #[.int .i64 a, .int .i64 b] 41)) := by (repeat' (first | exact Below.refl _ _ | assumption | (refine Below.alloc ?_ ?_ _) | (refine Below.setCell ?_ ?_ _) | (refine Below.drew ?_) | (refine below_drewN ?_ _) | (refine below_after (Ext.below _) ?_ ?_) | (refine below_after (by assumption) ?_ ?_) | (simp; done) | omega | (simp; omega)))
              clear hU
              go_region_held3 (fun w' => w'.cell? ⟨wr.heap.size, 0, none⟩ = some (.int .i64 a) ∧ w'.cell? ⟨wr.heap.size, 1, none⟩ = some (.int .i64 b) ∧ RowKit.Below w.heap.size w w')
                (((try go_split_ands); refine ⟨?_, ?_, ?_⟩ <;> first | go_keep | exact bl_drew ‹_› | exact (World.cell?_of_block (hgX.block _ (by first | omega | (simp; done) | (simp; omega)) (fun e => by injection e with e; simp only at e; omega))).trans ‹_› | exact bel_map ‹_› hgX (by first | omega | (simp; done) | (simp; omega)) (by omega) | (rw [cell_setCell_if, if_neg (by omega)]; go_keep) | (refine RowKit.Below.setCell ?_ ?_ _ <;> first | assumption | (show _ ≤ _; omega))))
                ((go_at_call 27; (try go_split_ands); refine (isl_root w1.heap.size w1.heap.size j j _ f dep _ (by assumption) (by assumption) (by omega)).mono ?_; rintro e w7 ⟨rfl, hUX, hgX⟩; have hszX := hgX.size; (try simp only [World.size_alloc, World.size_drew] at hszX); obtain ⟨kA, kF, kL⟩ := hUX.rootCell ha; have i2 := Int.natCast_nonneg (f a); have i3 := Int.ofNat_lt.2 kL))
              obtain ⟨dep', hU'⟩ := hUX.join ha hb'
              go_wp2_with fail
              go_roundw
              case rel => exact ⟨t + 1, joinF f a b, dep', by go_num, by omega, hU', hT', hok', by first | assumption | (go_split_ands; assumption)⟩
              case measure => simp [intOf]; omega
            · obtain rfl : t = m := by omega
              have dt : decide ((t : Int) < t) = false := decide_eq_false (by omega)
              have hTT := Lib.hid (show Tells ls.length pl f by rw [hlen.out, ← List.take_of_length_le (show pl.length ≤ t by rw [hplen.out]; omega)]; exact hT.out)
              have hpgood := Lib.hid (show pl.any (badP ls.length) = false by rw [hlen.out]; exact any_badP hplen.out hok.out)
              obtain ⟨wd, rfl⟩ : ∃ wd : World, wd = wr := ⟨_, rfl⟩
              have hfb := Lib.hid (fun (i : Nat) (hi : i < j) => (hU.rootCell hi).2.2)
              clear hok hlt ht
              go_wp2_with fail
              rw [run_makeMap]
              go_wp2_with fail
              rw [run_makeMap]
              have hat0 := (MK.At.made mkPU wd).alloc (.map #[] 0)
              have his0 := MK.At.made mkIS (wd.alloc (.map #[] 0))
              rw [World.size_alloc] at his0
              have hU0 := hU.of (show Below wd.heap.size wd ((wd.alloc (.map #[] 0)).alloc (.map #[] 0)) from by (repeat' (first | exact Below.refl _ _ | assumption | (refine Below.alloc ?_ ?_ _) | (refine Below.setCell ?_ ?_ _) | (refine Below.drew ?_) | (refine below_drewN ?_ _) | (refine below_after (Ext.below _) ?_ ?_) | (refine below_after (by assumption) ?_ ?_) | (simp; done) | omega | (simp; omega))))
              have hB0 : Below w.heap.size w ((wd.alloc (.map #[] 0)).alloc (.map #[] 0)) := by (repeat' (first | exact Below.refl _ _ | assumption | (refine Below.alloc ?_ ?_ _) | (refine Below.setCell ?_ ?_ _) | (refine Below.drew ?_) | (refine below_drewN ?_ _) | (refine below_after (Ext.below _) ?_ ?_) | (refine below_after (by assumption) ?_ ?_) | (simp; done) | omega | (simp; omega)))
              clear hU hb dt
              go_wp2
              go_loopw [93] (fun v wr => ∃ (i : Nat) (jf : Int → Option (Option Addr × Nat × Nat)), v = .int .i64 i ∧ i ≤ j ∧ mkPU.At wd.heap.size (posT ls i).length (setF (posT ls i)) wr ∧ Hid ((posT ls i).Nodup) ∧ mkIS.At (wd.heap.size + 1) i jf wr ∧ Jst ls f i (wd.heap.size + 2) 39 jf wr ∧ UFt w1.heap.size w1.heap.size j j 3 f dep wr ∧ Below w.heap.size w wr ∧ wd.heap.size + 2 ≤ wr.heap.size) (fun v _ => j - (intOf v).toNat)
              case atStart => exact ⟨0, fun _ => none, rfl, by omega, by rw [show posT ls 0 = [] from rfl, setF_nil]; exact hat0, Lib.hid (by rw [show posT ls 0 = [] from rfl]; exact List.nodup_nil), his0, Jst.start, hU0, hB0, by simp⟩
              case round =>
                clear hat0 his0 hU0 hB0
                obtain ⟨i, jf, rfl, hi, hat, hnd, his, hJ, hU, hb, hz⟩ := hrel
                have hsr := hb.size
                by_cases hli : i < j
                · have di : decide ((i : Int) < j) = true := decide_eq_true (by omega)
                  obtain ⟨E, k, c', l, bo, o, hx, rfl, hbl, g1', hRw, hkc⟩ := hL.pat hli
                  have g1 : wr.cell? ⟨bo, o + i, none⟩ = some (.slice E k c') := (hb.cell (p := ⟨bo, o + i, none⟩) hbl).trans g1'
                  have hln := Lib.hid hRw.len
                  have hkb : k ≤ 100000 := by rw [← hln.out]; exact hbd.out _ (List.mem_of_getElem? hx.out)
                  have hrt := Lib.hid (hgl.out i l hx.out).2
                  have hTl := Lib.hid (show (posT ls i).length ≤ 100000000 by
                    have h1 : (posT ls i).length = sumL ls i := by unfold posT sumL; rw [List.length_map]
                    have h2 := sumL_le hbd.out i
                    have := Nat.mul_le_mul_right 100000 (show i ≤ 1000 by omega)
                    omega)
                  obtain ⟨wo, rfl⟩ : ∃ wo : World, wo = wr := ⟨_, rfl⟩
                  clear g1' hbl
                  go_wp2_with fail
                  go_loopw [100] (fun v wr => ∃ q : Nat, v = .int .i64 q ∧ q ≤ k ∧ mkPU.At wd.heap.size (posT ls i ++ (l.take q).map posD).length (setF (posT ls i ++ (l.take q).map posD)) wr ∧ Hid ((posT ls i ++ (l.take q).map posD).Nodup) ∧ wo.grownBy wr (some wd.heap.size) ∧ Below w.heap.size w wr) (fun v _ => k - (intOf v).toNat)
                  case atStart => exact ⟨0, rfl, by omega, by rw [List.take_zero, List.map_nil, List.append_nil]; exact hat, by rw [List.take_zero, List.map_nil, List.append_nil]; exact hnd, World.grownBy.refl wo _, hb⟩
                  case round =>
                    clear hat hnd hb
                    obtain ⟨q, rfl, hq, hat, hnd, hgo, hb⟩ := hrel
                    have hsq := hb.size
                    have hso := hgo.size
                    by_cases hlq : q < k
                    · have dq : decide ((q : Int) < k) = true := decide_eq_true (by omega)
                      obtain ⟨x', y', s', be, oe, hx', rfl, hbe, f1, f2, f3⟩ := (hRw.of hb).cell hlq
                      obtain ⟨ix, iy⟩ := pt_I64 (rightC_elem hrt.out hx'.out).1
                      have hTe := Lib.hid (show posT ls i ++ (l.take (q + 1)).map posD = (posT ls i ++ (l.take q).map posD) ++ [(x', y')] by rw [List.take_add_one, hx'.out]; simp [posD])
                      have hTq := Lib.hid (show (posT ls i ++ (l.take q).map posD).length ≤ 100100000 by have := hTl.out; have := List.length_take_le q l; simp; omega)
                      have hpre := Lib.hid (posT_pre hx.out (q + 1))
                      obtain ⟨T, hTn⟩ : ∃ T, T = posT ls i ++ (l.take q).map posD := ⟨_, rfl⟩
                      rw [← hTn] at hat hnd hTe hTq
                      clear hTn
                      by_cases hin : (x', y') ∈ T
                      · have hp := Lib.hid (setF_in hin)
                        have HE := Lib.hid (mgE_twice (ls := ls) hgood.out hpgood.out (fun hN => by
                          have h1 := List.Pairwise.sublist hpre.out hN
                          rw [hTe.out] at h1
                          have h2 := (List.nodup_append.1 h1).2.2 _ hin (x', y') (by simp)
                          exact h2 rfl))
                        clear hin
                        go_wp2_with (first | (at_lookup; refine wpList_pu_ok rfl _ _ _ rfl Try.underlying56 wd.heap.size T.length (setF T) rfl ((hat.alloc _).alloc _) x' y' ix iy rfl true hp.out ?_))
                        go_ret2
                        exact ⟨none, 0, 0, [], ret_pe HE.out.symm, RdX.nil_, by omega, Lib.hid (mgOut_err HE.out (by omega)), by (repeat' (first | exact Below.refl _ _ | assumption | (refine Below.alloc ?_ ?_ _) | (refine Below.setCell ?_ ?_ _) | (refine Below.drew ?_) | (refine below_drewN ?_ _) | (refine below_after (Ext.below _) ?_ ?_) | (refine below_after (by assumption) ?_ ?_) | (simp; done) | omega | (simp; omega)))⟩
                      · have hp := Lib.hid (setF_out hin)
                        have hnd' := Lib.hid (show (T ++ [(x', y')]).Nodup by
                          rw [List.nodup_append]
                          exact ⟨hnd.out, by simp, fun a ha b hb e => hin (by have e2 : b = (x', y') := (by simpa using hb); rw [← e2, ← e]; exact ha)⟩)
                        have hTb := hTq.out
                        clear hin
                        go_wp2_with (first | (at_lookup; refine wpList_pu_ok rfl _ _ _ rfl Try.underlying56 wd.heap.size T.length (setF T) rfl ((hat.alloc _).alloc _) x' y' ix iy rfl false hp.out ?_) | (at_mapUpdate; refine wpList_pu_put rfl _ _ _ _ rfl Try.underlying56 wd.heap.size T.length (setF T) rfl (((hat.alloc _).alloc _).alloc _) (by omega) x' y' ix iy rfl rfl ?_; intro w6 hat6 hg6))
                        rw [setF_put] at hat6
                        have hb6 : Below w.heap.size w w6 := bel_map (by (repeat' (first | exact Below.refl _ _ | assumption | (refine Below.alloc ?_ ?_ _) | (refine Below.setCell ?_ ?_ _) | (refine Below.drew ?_) | (refine below_drewN ?_ _) | (refine below_after (Ext.below _) ?_ ?_) | (refine below_after (by assumption) ?_ ?_) | (simp; done) | omega | (simp; omega)))) hg6 (by simp; omega) (by omega)
                        have hgo6 := (((hgo.andThen (World.grownBy_alloc wr _ none) (fun q hq => by cases hq)).andThen (World.grownBy_alloc _ _ none) (fun q hq => by cases hq)).andThen (World.grownBy_alloc _ _ none) (fun q hq => by cases hq)).andThen hg6 (fun q hq => .inr hq)
                        go_roundw
                        case rel => exact ⟨q + 1, by go_num, by omega, by rw [hTe.out, List.length_append]; exact hat6, by rw [hTe.out]; exact hnd', hgo6, hb6⟩
                        case measure => simp [intOf]; omega
                    · obtain rfl : q = k := by omega
                      have dq : decide ((q : Int) < q) = false := decide_eq_false (by omega)
                      have hTe := Lib.hid (show posT ls (i + 1) = posT ls i ++ (l.take q).map posD by rw [posT_step hx.out, List.take_of_length_le (by rw [hln.out]; exact Nat.le_refl _)])
                      rw [← hTe.out] at hat hnd
                      have hJq := hJ.kept hgo (fun b hb => by injection hb with hb; omega)
                      have hisq := his.grown hgo (fun e => by injection e with e; omega)
                      have hUq := hU.grown hgo (fun e => by injection e with e; omega)
                      clear hJ his hU hTe
                      have hfi := hfb.out i hli
                      have iff' : I64 ((f i : Nat) : Int) := by unfold I64; omega
                      have hcl := Lib.hid (show (catN ls (fun k => f k == f i) i).length ≤ 100000000 by
                        have h1 := cat_len (ls := ls) (p := fun k => f k == f i) (i := i) (by rw [hlen.out]; omega)
                        have h2 := sumL_le hbd.out i
                        have := Nat.mul_le_mul_right 100000 (show i ≤ 1000 by omega)
                        omega)
                      go_wp2_with fail
                      go_at_call 27
                      refine (isl_root w1.heap.size w1.heap.size j j i f dep _ hUq hli (by omega)).mono ?_
                      rintro e w5 ⟨rfl, hU5, hg5⟩
                      have hb5 : Below w.heap.size w w5 := bel_map hb hg5 (by omega) (by omega)
                      have hJ5 := hJq.kept hg5 (fun b hb => by injection hb with hb; omega)
                      have his5 := hisq.grown hg5 (fun e => by injection e with e; omega)
                      have hat5 := hat.grown hg5 (fun e => by injection e with e; omega)
                      have hs5 := hg5.size
                      clear hJq hisq hUq hat hb
                      go_wp2_with fail
                      go_at_call 27
                      refine (isl_root w1.heap.size w1.heap.size j j i f dep _ hU5 hli (by omega)).mono ?_
                      rintro e w6 ⟨rfl, hU6, hg6⟩
                      have hb6 : Below w.heap.size w w6 := bel_map hb5 hg6 (by omega) (by omega)
                      have hJ6 := hJ5.kept hg6 (fun b hb => by injection hb with hb; omega)
                      have his6 := his5.grown hg6 (fun e => by injection e with e; omega)
                      have hat6 := hat5.grown hg6 (fun e => by injection e with e; omega)
                      have hs6 := hg6.size
                      clear hJ5 his5 hat5 hU5 hb5 hg5 hg6
                      obtain ⟨A0, n0, c0, h0⟩ : ∃ A n c, (jf (f i : Nat)).getD (none, 0, 0) = (A, n, c) := ⟨_, _, _, rfl⟩
                      have hO6 := hJ6.at0 h0
                      have hn0 : n0 ≤ 100000000 := by rw [← hO6.len]; exact hcl.out
                      have h0 := Lib.hid h0
                      have hkk : q ≤ 100000 := hkb
                      go_wp2_with (first
                        | (at_lookup; refine wpList_is_get rfl _ _ _ rfl Try.underlying57 (wd.heap.size + 1) i jf rfl his6 ((f i : Nat) : Int) iff' rfl A0 n0 c0 h0.out ?_)
                        | (at_builtin; refine wpList_append_els_at rfl (.tmp 128) (.tmp 129) 23 23 rfl encC 3 39 (.agg #[.int .i64 0, .int .i64 0, .int .i64 0]) 24 Try.underlying23 Try.underlying23 (by kernel_rfl) rfl (by decide) encC_len encC_one (wd.heap.size + 2) _ _ _ _ rfl hO6 _ _ _ _ rfl (hRw.of hb6) (by omega) (by omega) (by omega) ?_; intro A7 c7 w7 hown7 hg7 hb7 hloc7; have his7 := his6.grown hg7 (fun e => by have := hO6.above _ e.symm; omega))
                        | (at_mapUpdate; refine wpList_is_put rfl _ _ _ _ rfl Try.underlying57 (wd.heap.size + 1) i jf rfl his7 (by omega) ((f i : Nat) : Int) iff' A7 (n0 + q) c7 rfl rfl ?_; intro w8 his8 hg8))
                      have hJ8 := hJ6.step hx.out h0.out hown7 hg7 hloc7 hg8 (by omega)
                      have hU8 := (hU6.grown hg7 (fun e => by have := hO6.above _ e.symm; omega)).grown hg8 (fun e => by injection e with e; omega)
                      have hat8 := (hat6.grown hg7 (fun e => by have := hO6.above _ e.symm; omega)).grown hg8 (fun e => by injection e with e; omega)
                      have hB7 : Below w.heap.size w w7 := below_after hb7 hb6 (by omega)
                      have hs7 := hg7.size
                      have hs8 := hg8.size
                      have hB8 : Below w.heap.size w w8 := bel_map hB7 hg8 (by omega) (by omega)
                      go_roundw
                      case rel => exact ⟨i + 1, _, by go_num, by omega, hat8, hnd, his8, hJ8, hU8, hB8, by omega⟩
                      case measure => simp [intOf]; omega
                · obtain rfl : i = j := by omega
                  have di : decide ((i : Int) < i) = false := decide_eq_false (by omega)
                  have hndw := Lib.hid (show (ls.flatten.map posD).Nodup by rw [← posT_all hlen.out]; exact hnd.out)
                  have hsl := sumL_all hlen.out
                  have hJn : Jst ls f ls.length (wd.heap.size + 2) 39 jf wr := by rw [hlen.out]; exact hJ
                  by_cases h5 : 5000 < sumL ls i
                  · have d5 : decide (5000 < ((sumL ls i : Nat) : Int)) = true := decide_eq_true (by omega)
                    have HE := Lib.hid (mgE_size (ls := ls) hgood.out hpgood.out hndw.out (by omega))
                    clear hsl hJn hJ
                    go_wp2_with fail
                    go_ret2
                    exact ⟨none, 0, 0, [], ret_pe HE.out.symm, RdX.nil_, by omega, Lib.hid (mgOut_err HE.out (by omega)), hb⟩
                  · have d5 : decide (5000 < ((sumL ls i : Nat) : Int)) = false := decide_eq_false (by omega)
                    have d5' : decide (5000 < sumL ls i) = false := decide_eq_false h5
                    have HE := Lib.hid (mgE_ok (ls := ls) hgood.out hpgood.out hndw.out (by omega))
                    have hcl := Lib.hid (fun (p : Nat → Bool) => show (catN ls p ls.length).length ≤ 5000 by
                      have h1 := cat_len (ls := ls) (p := p) (Nat.le_refl _)
                      rw [hlen.out] at h1
                      rw [hlen.out]
                      omega)
                    obtain ⟨wz, rfl⟩ : ∃ wz : World, wz = wr := ⟨_, rfl⟩
                    have hapart := Lib.hid hJn.apart
                    have hkeys := Lib.hid hJn.keys
                    have hhas := Lib.hid hJn.has
                    have hR0 := Rst.start hJn
                    clear hsl hJn hJ hU hat
                    go_wp2_with (first | (at_range; refine wpList_is_range rfl _ _ rfl Try.underlying57 (wd.heap.size + 1) i jf rfl his ?_; intro w0 cnt0 hrg0 hg0 hs0))
                    go_frame
                    have hR0 := hR0.kept hg0 (fun b hb => by cases hb)
                    have hb0 : Below w.heap.size w w0 := hb.grown hg0 (by omega) (fun g e => by cases e)
                    clear his hg0 d5 d5' h5
                    go_loopw [24] (fun v wr => ∃ (E : Option Addr) (p s cnt : Nat) (lf : Int → Bool) (rs : List Nat), v = .slice E p s ∧ Hid (rs.length = p) ∧ mkIS.Rg (wd.heap.size + 1) wz.heap.size i jf lf cnt wr ∧ Own encH 1 23 (wz.heap.size + 1) wr E p s (rs.map (hdOf jf)) ∧ Hid (Vis jf lf rs) ∧ Rst ls f (wd.heap.size + 2) wz.heap.size 39 jf lf wr ∧ Below w.heap.size w wr ∧ wz.heap.size + 1 ≤ wr.heap.size) (fun _ wr => wr.rangeLeft (wd.heap.size + 1) wz.heap.size)
                    case atStart => exact ⟨none, 0, 0, cnt0, _, [], rfl, Lib.hid rfl, hrg0, Own.nil_, Lib.hid Vis.start, hR0, hb0, by omega⟩
                    case round =>
                      clear hrg0 hR0 hb0 hs0 hb
                      obtain ⟨E, p, s, cnt, lf, rs, rfl, hrl, hrg, hOut, hV, hR, hb, hzr⟩ := hrel
                      have hsr2 := hb.size
                      have hvl := Lib.hid (show ∀ r ∈ rs, ∃ k, k < i ∧ f k = r from fun r hr => by
                        obtain ⟨q, hq⟩ := Option.isSome_iff_exists.1 ((hV.out.2 r).1 hr).1
                        obtain ⟨A', n', c'⟩ := q
                        obtain ⟨r', e1, ⟨k, hk, e2⟩, _⟩ := hkeys.out _ A' n' c' hq
                        exact ⟨k, by rw [← hlen.out]; exact hk, by omega⟩)
                      have hpn : p ≤ i := by
                        rw [← hrl.out]
                        exact nodup_lenN i rs hV.out.1 fun r hr => by
                          obtain ⟨k, hk, e⟩ := hvl.out r hr
                          rw [← e]; exact hfb.out k hk
                      go_wp2_with (first | (at_next; refine wpList_is_next rfl _ rfl (wd.heap.size + 1) wz.heap.size i jf lf cnt rfl hrg ?_ ?_))
                      · intro hl0
                        have hX := hR.heads hV.out hOut (by omega)
                        have hne := Lib.hid (show ∀ l ∈ rs.map (patR ls f), l ≠ [] from fun l hl => by
                          obtain ⟨r, hr, rfl⟩ := List.mem_map.1 hl
                          obtain ⟨k, hk, rfl⟩ := hvl.out r hr
                          exact patR_ne (fun l hl => by
                            obtain ⟨q, hq, e⟩ := List.getElem_of_mem hl
                            exact (hgl.out q l (by rw [List.getElem?_eq_getElem hq, e])).1) (by rw [hlen.out]; exact hk))
                        have hmg := Lib.hid (fun (L : List (List (Int × Int × Int))) (hp : L.Perm (rs.map (patR ls f))) (hw : L.Pairwise fun a b => hdBef b a = false) => mg_of hTT.out hndw.out (fun l hl => by
                          obtain ⟨q, hq, e⟩ := List.getElem_of_mem hl
                          exact (hgl.out q l (by rw [List.getElem?_eq_getElem hq, e])).1) hV.out.1 (fun r => ⟨fun hr => by
                            obtain ⟨k, hk, e⟩ := hvl.out r hr
                            exact ⟨k, by rw [hlen.out]; exact hk, e⟩, fun ⟨k, hk, e⟩ => by
                            rw [← e]
                            refine (hV.out.2 _).2 ⟨hhas.out k hk, hl0 _ ?_⟩
                            have := hfb.out k (by rw [← hlen.out]; exact hk)
                            unfold I64; omega⟩) hp hw)
                        clear hl0 hR hrg hOut hvl hapart hkeys hhas
                        go_wp2_with fail
                        go_at_call 28
                        refine (isl_sort_out (wd.heap.size + 2) (wz.heap.size + 1) E p s _ wr hX hne.out (by omega) (by omega)).mono ?_
                        rintro e w9 ⟨rfl, L', hX9, hperm, hpw, hb9⟩
                        have HM := Lib.hid (hmg.out L' hperm hpw)
                        clear hperm hpw hmg hne
                        go_wp2_with fail
                        go_ret2
                        exact ⟨E, p, s, L', ret_pe HE.out.symm, hX9.ofB.rd, hpn, Lib.hid ⟨fun h => absurd HE.out h, fun _ => HM.out⟩, below_after hb9 hb (by omega)⟩
                      · intro x A0 n0 c0 wn cnt1 hix hlx hjx hrg1 hlt1 hgn hsn hen
                        have hRn := hR.kept hgn (fun b hb => by injection hb with hb; omega)
                        obtain ⟨r, hr, hO, hqz⟩ := hRn.keys x A0 n0 c0 hjx
                        rw [if_pos hlx] at hO
                        have hn0 : n0 ≤ 5000 := by rw [← hO.len]; exact hcl.out _
                        have hbn : Below w.heap.size w wn := bel_map hb hgn (by omega) (by omega)
                        have hOn := hOut.over hgn (by omega)
                        have hjs := Lib.hid (show (jf (r : Nat)).isSome = true by rw [← hr, hjx]; rfl)
                        have hlr := Lib.hid (show lf (r : Nat) = true by rw [← hr]; exact hlx)
                        have hhd := Lib.hid (show hdOf jf r = (A0, n0, c0) by unfold hdOf; rw [← hr, hjx]; rfl)
                        have hjx := Lib.hid hjx
                        have hlx := Lib.hid hlx
                        have hr := Lib.hid hr
                        have hqz := Lib.hid hqz
                        have hoa := Lib.hid (fun q (e : (Value.slice A0 n0 c0).ownBlock = some q) => hO.above q e)
                        have hoo := Lib.hid (fun q (e : (Value.slice E p s).ownBlock = some q) => hOut.above q e)
                        clear hR hOut hvl
                        go_wp2_with fail
                        go_at_call 20
                        refine (isl_place_sortG (wd.heap.size + 2) A0 n0 c0 _ wn hO (by omega) (by omega)).mono ?_
                        rintro e w8 ⟨rfl, l', hown8, hperm, hwc, hb8, hg8⟩
                        have HL := Lib.hid (show l' = patR ls f r from sort_fin2 hperm hwc (cat_nodup hndw.out))
                        have hown8' : Own encC 3 39 (wd.heap.size + 2) w8 A0 n0 c0 (patR ls f r) := by rw [← HL.out]; exact hown8
                        have hR8 := hRn.sorted hapart.out hjx.out hr.out hown8' hg8
                        have hrg8 := hrg1.grown hg8 (fun e => by have := hoa.out _ e.symm; omega) (fun e => by have := hqz.out _ e.symm; omega)
                        have hO8 := hOn.keepG hg8 (by
                          cases ho : (Value.slice E p s).ownBlock with
                          | none => exact .inl rfl
                          | some q =>
                            right
                            intro e1
                            have h1 := hqz.out q e1.symm
                            have h2 := hoo.out q ho
                            omega)
                        have hB8 : Below w.heap.size w w8 := below_after hb8 hbn (by omega)
                        have hs8 := hg8.size
                        clear hperm hwc hown8 hown8' hRn hO hb8 hg8 hrg1 hOn hbn
                        go_wp2_with (first | (at_builtin; refine wpList_append_el rfl (.tmp 142) (.tmp 144) 25 rfl encH 1 23 (.slice none 0 0) 24 Try.underlying25 (by kernel_rfl) rfl (by decide) encH_len encH_one (wz.heap.size + 1) _ _ _ _ rfl (hO8.alloc _) (A0, n0, c0) ⟨(w8).heap.size, 0, none⟩ 1 rfl (cells_new (w8) _ _) (by omega) (by omega) (by first | omega | (simp; done) | (simp; omega)) ?_; intro A9 c9 w9 hown9 hg9 hb9; obtain ⟨hc9, hf9⟩ := bcell hb9; have hs9 := hb9.size; (try simp only [World.size_alloc, World.size_setCell, World.size_drew] at hc9 hf9); (try simp at hs9)))
                        have hrg9 := (hrg8.alloc _).grown hg9 (fun e => by have := hoo.out _ e.symm; omega) (fun e => by have := hoo.out _ e.symm; omega)
                        have hR9 := (hR8.kept (World.grownBy_alloc w8 _ none) (fun b hb => by cases hb)).kept hg9 (fun b hb => by have := hoo.out b hb; omega)
                        have hmap := Lib.hid (show (rs ++ [r]).map (hdOf jf) = rs.map (hdOf jf) ++ [(A0, n0, c0)] by rw [List.map_append, List.map_cons, List.map_nil, hhd.out])
                        have hV' := Lib.hid (show Vis jf (fun y => lf y && decide (y ≠ x)) (rs ++ [r]) by rw [hr.out]; exact hV.out.step hjs.out hlr.out)
                        have hrl' := Lib.hid (show (rs ++ [r]).length = p + 1 by rw [List.length_append, hrl.out]; rfl)
                        rw [lf_ne] at hR9
                        have hV' := Lib.hid (show Vis jf (fun y => lf y && !decide (y = x)) (rs ++ [r]) by rw [← lf_ne]; exact hV'.out)
                        go_roundw
                        case rel => exact ⟨A9, p + 1, c9, cnt1, _, rs ++ [r], rfl, hrl', hrg9, by rw [hmap.out]; exact hown9, hV', hR9, below_after hb9 (hB8.alloc (by omega) _) (by omega), by omega⟩
                        case measure => rw [hrg9.left_eq, hrg.left_eq]; exact hlt1
end Go.Proofs.Ytenckggfgbkfnaa
