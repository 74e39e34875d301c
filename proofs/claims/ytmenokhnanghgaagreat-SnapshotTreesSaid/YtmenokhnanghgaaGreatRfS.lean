/- What the laws compare with: lists of bytes, stores, trees, each equal to itself. -/
import Derived.Test.YtmenokhnanghgaaGreatBIO
import Derived.Test.YtmenokhnanghgaaGreatTMT
import Derived.Test.YtmenokhnanghgaaGreatQUR
import Derived.Test.YtmenokhnanghgaaGreatTRE
import Derived.Test.YtmenokhnanghgaaGreatMEM
namespace Go.Proofs.YtmenokhnanghgaaGreat
open Go Go.RowKit
set_option linter.unusedSimpArgs false
set_option linter.unusedVariables false
set_option maxRecDepth 100000
set_option linter.unusedSimpArgs false
set_option linter.unusedVariables false
set_option maxHeartbeats 4000000 in
theorem ref02_SameV (A B : Option Addr) (n m c d : Nat) (l : List Int) (w : World) (hA : Rd encU 1 w A n l) (hB : Rd encU 1 w B m l) (hn : n ≤ 1000000) :
    Calls Tryz.prog 14 #[.slice A n c, .slice B m d] w fun e w' => e = .returned (.bool true) ∧ Below w.heap.size w w' := by
  obtain rfl : n = m := by rw [← hA.len, hB.len]
  have dn : ((n : Int) != n) = false := by simp
  have dn' : (n != n) = false := by simp
  go_enter Tryz.func14, Tryz.ntmps14
  go_wp2_with fail
  go_loopw [5] (fun i wr => ∃ j : Nat, i = .int .i64 j ∧ j ≤ n ∧ Below w.heap.size w wr) (fun i _ => n - (intOf i).toNat)
  case atStart => exact ⟨0, rfl, by omega, Below.refl _ _⟩
  case round =>
    obtain ⟨j, rfl, hj, hb⟩ := hrel
    by_cases hlt : j < n
    · have dj : decide ((j : Int) < n) = true := decide_eq_true (by omega)
      have dj' : decide (j < n) = true := decide_eq_true hlt
      obtain ⟨x, bo, o, hx, rfl, hbo, g1⟩ := (hA.of hb).byte hlt
      obtain ⟨y, bo', o', hy, rfl, hbo', g2⟩ := (hB.of hb).byte hlt
      obtain rfl : x = y := by have := hx.out.symm.trans hy.out; injection this
      have dq : (x != x) = false := by simp
      have i0 : (0 : Int) ≤ (j : Int) := by omega
      have i1 : (j : Int) < (n : Int) := by omega
      clear hx hy
      go_wp2_with fail
      (refine wp_region_ext_lit (by kernel_rfl) (by kernel_rfl) ?_; (repeat (go_big_quiet_step (fail))); refine wpQuiet_nil ?_; intro _ hw'; obtain ⟨z1, hw''⟩ := hw'; subst hw''; have hs1 := z1.size; obtain ⟨hc1, hf1⟩ := bcell z1.below; (try simp only [World.size_alloc, World.size_setCell, World.size_drew] at hc1 hf1); (try simp at hs1))
      have hB1 : Below w.heap.size w z1.world := below_thru hb z1.below
      go_wp2_with fail
      go_roundw
      case rel => exact ⟨j + 1, by go_num, by omega, hB1⟩
      case measure => simp [intOf]; omega
    · obtain rfl : j = n := by omega
      have dj : decide ((j : Int) < j) = false := decide_eq_false (by omega)
      have dj' : decide (j < j) = false := decide_eq_false (by omega)
      go_wp2_with fail
      go_ret
      exact ⟨rfl, hb⟩
theorem eq_qd (x y z u x' y' z' u' : Int) (w : World) : (binOp .eql 69 (.agg #[.int .i64 x, .int .i64 y, .int .i64 z, .int .i64 u]) (.agg #[.int .i64 x', .int .i64 y', .int .i64 z', .int .i64 u'])).run Tryz.prog w = .ok (.bool (decide (x = x' ∧ y = y' ∧ z = z' ∧ u = u'))) w := by
  have u3 := Tryz.underlying3
  have a3 := Tryz.isAgg3
  have z3 := Tryz.sizeOf3
  have a4 := Tryz.isAgg67
  have z4 := Tryz.sizeOf67
  obtain ⟨i, hi, _⟩ := info_parts (show (Tryz.prog.info? 3).map (fun i => (i.zero, i.size, i.bytes)) = some (some (.int .i64 0), 1, 8) by kernel_rfl)
  have hS : Tryz.prog.underlying 69 = some (.struct (Tryz.prog.fieldsOf 69)) := by kernel_rfl
  have hp : Tryz.prog.stoodInHeld 69 = false := by kernel_rfl
  have hA : ∀ w : World, (Op.equalIn 9999 67 (.agg #[.int .i64 x, .int .i64 y, .int .i64 z, .int .i64 u]) (.agg #[.int .i64 x', .int .i64 y', .int .i64 z', .int .i64 u'])).run Tryz.prog w = .ok (decide (x = x' ∧ y = y' ∧ z = z' ∧ u = u')) w := by
    intro w
    rw [show (9999 : Nat) = 9998 + 1 from rfl, run_equalIn_array w 9998 _ _ Tryz.underlying67 hi]
    have c3 : Tryz.prog.cellsOf 3 = 1 := by kernel_rfl
    rw [c3, show List.range 4 = [0, 1, 2, 3] from rfl]
    simp only [Op.eqItems]
    go_simp
    by_cases h1 : x = x' <;> by_cases h2 : y = y' <;> by_cases h3 : z = z' <;> by_cases h4 : u = u' <;> simp [h1, h2, h3, h4]
  rw [run_eql_struct, show (10000 : Nat) = 9999 + 1 from rfl, run_equalIn_agg w 9999 69 _ _ hS hp]
  simp only [Program.fieldsOf, Tryz.underlying69]
  go_simp
  by_cases h1 : x = x' <;> by_cases h2 : y = y' <;> by_cases h3 : z = z' <;> by_cases h4 : u = u' <;> simp [h1, h2, h3, h4]
theorem neq_qd (x y z u x' y' z' u' : Int) (w : World) : (binOp .neq 69 (.agg #[.int .i64 x, .int .i64 y, .int .i64 z, .int .i64 u]) (.agg #[.int .i64 x', .int .i64 y', .int .i64 z', .int .i64 u'])).run Tryz.prog w = .ok (.bool (!decide (x = x' ∧ y = y' ∧ z = z' ∧ u = u'))) w := by
  have h := eq_qd x y z u x' y' z' u' w
  rw [run_eql_struct] at h
  rw [run_neq_struct]
  generalize (Op.equalIn 10000 69 (.agg #[.int .i64 x, .int .i64 y, .int .i64 z, .int .i64 u]) (.agg #[.int .i64 x', .int .i64 y', .int .i64 z', .int .i64 u'])).run Tryz.prog w = r at *
  cases r <;> simp_all [Result.andThen]
attribute [local go_sem ↓ high] eq_qd neq_qd eq_pt neq_pt
set_option maxHeartbeats 8000000 in
theorem ref25_SameV (st : Int) (A B : Option Addr) (n c m d : Nat) (Q : List Qd) (w : World) (hA : Rd encQd 4 w A n Q) (hB : Rd encQd 4 w B m Q) (hn : n ≤ 1000000) :
    Calls Tryz.prog 26 #[.agg #[.int .i64 st, .slice A n c], .agg #[.int .i64 st, .slice B m d]] w fun e w' => e = .returned (.bool true) ∧ Below w.heap.size w w' := by
  obtain rfl : n = m := by rw [← hA.len, hB.len]
  have dn : ((n : Int) != n) = false := by simp
  have dn' : (n != n) = false := by simp
  have ds : (st != st) = false := by simp
  go_enter Tryz.func26, Tryz.ntmps26
  go_wp2_with fail
  obtain ⟨we, hwe, hxb, hyb, hBe, hsw⟩ := two_boxesS w st st A B n c n d 46
  rw [← hwe]
  clear hwe
  obtain ⟨xb, hxe⟩ : ∃ xb, xb = w.heap.size := ⟨_, rfl⟩
  obtain ⟨yb, hye⟩ : ∃ yb, yb = w.heap.size + 1 := ⟨_, rfl⟩
  rw [← hxe] at hxb
  rw [← hye] at hyb
  rw [← hye, ← hxe]
  have hxq := Lib.hid hxe
  clear hxe hye
  replace hA := hA.of hBe
  replace hB := hB.of hBe
  have ⟨_, x0, x1, _, _⟩ := hxb.open2
  have ⟨_, y0, y1, _, _⟩ := hyb.open2
  go_wp2_with fail
  clear x0 x1 y0 y1
  go_loopw [5] (fun i wr => ∃ j : Nat, i = .int .i64 j ∧ j ≤ n ∧ Below we.heap.size we wr) (fun i _ => n - (intOf i).toNat)
  case atStart => exact ⟨0, rfl, by omega, Below.refl _ _⟩
  case round =>
    obtain ⟨j, rfl, hj, hb⟩ := hrel
    have ⟨_, x0, x1, _, _⟩ := (hxb.of hb).open2
    have ⟨_, y0, y1, _, _⟩ := (hyb.of hb).open2
    by_cases hlt : j < n
    · have dj : decide ((j : Int) < n) = true := decide_eq_true (by omega)
      have dj' : decide (j < n) = true := decide_eq_true hlt
      obtain ⟨p0, p1, p2, p3, bo, o, hx, rfl, hbo, g0, g1, g2, g3⟩ := (hA.of hb).qd hlt
      obtain ⟨q0, q1, q2, q3, bo', o', hy, rfl, hbo', g0', g1', g2', g3'⟩ := (hB.of hb).qd hlt
      have hpq : (p0, p1, p2, p3) = (q0, q1, q2, q3) := by have := hx.out.symm.trans hy.out; injection this
      simp only [Prod.mk.injEq] at hpq
      obtain ⟨rfl, rfl, rfl, rfl⟩ := hpq
      have i0 : (0 : Int) ≤ (j : Int) := by omega
      have i1 : (j : Int) < (n : Int) := by omega
      clear hx hy
      go_wp2_with fail
      (refine wp_region_ext_lit (by kernel_rfl) (by kernel_rfl) ?_; (repeat (go_big_quiet_step (fail))); refine wpQuiet_nil ?_; intro _ hw'; obtain ⟨z1, hw''⟩ := hw'; subst hw''; have hs1 := z1.size; obtain ⟨hc1, hf1⟩ := bcell z1.below; (try simp only [World.size_alloc, World.size_setCell, World.size_drew] at hc1 hf1); (try simp at hs1))
      have hB1 := below_thru hb z1.below
      go_wp2_with fail
      go_roundw
      case rel => exact ⟨j + 1, by go_num, by omega, hB1⟩
      case measure => simp [intOf]; omega
    · obtain rfl : j = n := by omega
      have dj : decide ((j : Int) < j) = false := decide_eq_false (by omega)
      have dj' : decide (j < j) = false := decide_eq_false (by omega)
      have hfin := below_thru hBe hb
      go_wp2_with fail
      go_ret
      exact ⟨rfl, hfin⟩
set_option maxHeartbeats 16000000 in
theorem ref12_SameV (st : Int) (A B A' B' : Option Addr) (n c m d n' c' m' d' : Nat) (H : List (Int × Int)) (N : List Nd) (w : World) (hH : Rd encP 2 w A n H) (hN : RdX ekN w B m N) (hH' : Rd encP 2 w A' n' H) (hN' : RdX ekN w B' m' N) (hn : n ≤ 1000000) (hm : m ≤ 1000000) (hns : ∀ x ∈ N, x.2.length ≤ 1000000) :
    Calls Tryz.prog 21 #[.agg #[.int .i64 st, .slice A n c, .slice B m d], .agg #[.int .i64 st, .slice A' n' c', .slice B' m' d']] w fun e w' => e = .returned (.bool true) ∧ Below w.heap.size w w' := by
  obtain rfl : n = n' := by rw [← hH.len, hH'.len]
  obtain rfl : m = m' := by rw [← hN.len, hN'.len]
  have dn : ((n : Int) != n) = false := by simp
  have dn' : (n != n) = false := by simp
  have dm : ((m : Int) != m) = false := by simp
  have dm' : (m != m) = false := by simp
  have ds : (st != st) = false := by simp
  go_enter Tryz.func21, Tryz.ntmps21
  go_wp2_with fail
  obtain ⟨we, hwe⟩ : ∃ we, we = (w.alloc (.cells #[.int .i64 st, .slice A n c, .slice B m d] 37)).alloc (.cells #[.int .i64 st, .slice A' n c', .slice B' m d'] 37) := ⟨_, rfl⟩
  have hBe : Below w.heap.size w we := by rw [hwe]; exact ((Below.refl _ _).alloc (Nat.le_refl _) _).alloc (by simp) _
  have hxb : TrAt we w.heap.size (.int .i64 st) (.slice A n c) (.slice B m d) := by rw [hwe]; exact (TrAt.new w _ _ _ _).of ((Below.refl _ _).alloc (Nat.le_refl _) _)
  have hyb : TrAt we (w.heap.size + 1) (.int .i64 st) (.slice A' n c') (.slice B' m d') := by
    have h := TrAt.new (w.alloc (.cells #[.int .i64 st, .slice A n c, .slice B m d] 37)) (.int .i64 st) (.slice A' n c') (.slice B' m d') 37
    rw [World.size_alloc] at h
    rw [hwe]; exact h
  rw [← hwe]
  clear hwe
  obtain ⟨xb, hxe⟩ : ∃ xb, xb = w.heap.size := ⟨_, rfl⟩
  obtain ⟨yb, hye⟩ : ∃ yb, yb = w.heap.size + 1 := ⟨_, rfl⟩
  rw [← hxe] at hxb
  rw [← hye] at hyb
  rw [← hye, ← hxe]
  clear hxe hye
  replace hH := hH.of hBe
  replace hN := hN.of hBe
  replace hH' := hH'.of hBe
  replace hN' := hN'.of hBe
  have ⟨_, x0, x1, x2⟩ := hxb
  have ⟨_, y0, y1, y2⟩ := hyb
  go_wp2_with fail
  clear x0 x1 x2 y0 y1 y2
  go_loopw [5] (fun i wr => ∃ j : Nat, i = .int .i64 j ∧ j ≤ n ∧ Below we.heap.size we wr) (fun i _ => n - (intOf i).toNat)
  case atStart => exact ⟨0, rfl, by omega, Below.refl _ _⟩
  case round =>
    obtain ⟨j, rfl, hj, hb⟩ := hrel
    have ⟨_, x0, x1, x2⟩ := hxb.of hb
    have ⟨_, y0, y1, y2⟩ := hyb.of hb
    by_cases hlt : j < n
    · have dj : decide ((j : Int) < n) = true := decide_eq_true (by omega)
      have dj' : decide (j < n) = true := decide_eq_true hlt
      obtain ⟨p0, p1, bo, o, hx, rfl, hbo, g0, g1⟩ := (hH.of hb).pt hlt
      obtain ⟨q0, q1, bo', o', hy, rfl, hbo', g0', g1'⟩ := (hH'.of hb).pt hlt
      have hpq : (p0, p1) = (q0, q1) := by have := hx.out.symm.trans hy.out; injection this
      simp only [Prod.mk.injEq] at hpq
      obtain ⟨rfl, rfl⟩ := hpq
      have i0 : (0 : Int) ≤ (j : Int) := by omega
      have i1 : (j : Int) < (n : Int) := by omega
      clear hx hy
      go_wp2_with fail
      (refine wp_region_ext_lit (by kernel_rfl) (by kernel_rfl) ?_; (repeat (go_big_quiet_step (fail))); refine wpQuiet_nil ?_; intro _ hw'; obtain ⟨z1, hw''⟩ := hw'; subst hw''; have hs1 := z1.size; obtain ⟨hc1, hf1⟩ := bcell z1.below; (try simp only [World.size_alloc, World.size_setCell, World.size_drew] at hc1 hf1); (try simp at hs1))
      have hB1 := below_thru hb z1.below
      go_wp2_with fail
      go_roundw
      case rel => exact ⟨j + 1, by go_num, by omega, hB1⟩
      case measure => simp [intOf]; omega
    · obtain rfl : j = n := by omega
      have dj : decide ((j : Int) < j) = false := decide_eq_false (by omega)
      have dj' : decide (j < j) = false := decide_eq_false (by omega)
      go_wp2_with fail
      clear x0 x1 x2 y0 y1 y2
      go_loopw [6] (fun i wr => ∃ q : Nat, i = .int .i64 q ∧ q ≤ m ∧ Below we.heap.size we wr) (fun i _ => m - (intOf i).toNat)
      case atStart => exact ⟨0, rfl, by omega, hb⟩
      case round =>
        clear hb
        obtain ⟨q, rfl, hq, hb⟩ := hrel
        have hsz := hb.size
        have ⟨_, x0, x1, x2⟩ := hxb.of hb
        have ⟨_, y0, y1, y2⟩ := hyb.of hb
        by_cases hlq : q < m
        · have dq : decide ((q : Int) < m) = true := decide_eq_true (by omega)
          have dq' : decide (q < m) = true := decide_eq_true hlq
          obtain ⟨lv, nx, E, me, ce, bo, o, hx, rfl, hbo, g0, g1, hE, hce⟩ := (hN.of hb).node hlq
          obtain ⟨lv', nx', E', me', ce', bo', o', hy, rfl, hbo', g0', g1', hE', hce'⟩ := (hN'.of hb).node hlq
          have hpq : (lv, nx) = (lv', nx') := by have := hx.out.symm.trans hy.out; injection this
          simp only [Prod.mk.injEq] at hpq
          obtain ⟨rfl, rfl⟩ := hpq
          obtain rfl : me = me' := by rw [← hE.len, hE'.len]
          have hmb : me ≤ 1000000 := by rw [← hE.len]; exact hns _ (List.mem_of_getElem? hx.out)
          have i0 : (0 : Int) ≤ (q : Int) := by omega
          have i1 : (q : Int) < (m : Int) := by omega
          have el : (lv != lv) = false := by simp
          have em : ((me : Int) != me) = false := by simp
          have em' : (me != me) = false := by simp
          clear hx hy
          go_wp2_with fail
          (refine' wp_region_fresh2 [false, false, false, false, false, false, false, false, false, false, true, true, true, true] 10 12 7 62 93 (.agg #[.int .i64 0, .slice none 0 0]) _ 11 13 8 67 93 (.agg #[.int .i64 0, .slice none 0 0]) _ (fun u hu => ?hqh5) (by kernel_rfl) (by kernel_rfl) (by kernel_rfl) (by kernel_rfl) rfl rfl Tryz.zeroValue93 rfl rfl Tryz.zeroValue93 ?s1h5 ?s2h5 ?s3h5 (by decide) ?s4h5 ?s5h5 ?s6h5 ?s7h5 ?s8h5 ?s9h5 ?s10h5 ?s11h5 ?finh5; (case hqh5 => (obtain ⟨hcu, hfu⟩ := bcell hu; have hsu := hu.size; simp only [stripM, blankO]; (repeat (go_big_quiet_step (fail))); refine wpQuiet_nil ?_; rfl)); (case s1h5 => rfl); (case s2h5 => simp); (case s3h5 => simp); (case s4h5 => rfl); (case s5h5 => kernel_rfl); (case s6h5 => rfl); (case s7h5 => simp [Value.oneCell']); (case s8h5 => rfl); (case s9h5 => kernel_rfl); (case s10h5 => rfl); (case s11h5 => simp [Value.oneCell']); intro bk5 bj5 w5 hbl5 hbh5 hbl'5 hbh'5 hbb5 hb5 hh5 hj5; obtain ⟨hc5, hf5⟩ := bcell hb5; have hs5 := hb5.size; have hk5 := cellOf_row hh5; have hl5 := frozenOf_row hh5; have hk'5 := cellOf_row hj5; have hl'5 := frozenOf_row hj5; clear hh5 hj5; (try simp only [World.size_alloc, World.size_setCell, World.size_drew] at hc5 hf5); (try simp at hs5 hbl5 hbl'5); simp only [Act.put, List.setIfInBounds_toArray, List.set_cons_zero, List.set_cons_succ])
          have hBe5 : Below we.heap.size we w5 := below_thru hb hb5
          have u0 : w5.cell? ⟨bk5, 0, none⟩ = some (.int .i64 lv) := by rw [hc5, if_neg (by omega), hk5]; rfl
          have u1 : w5.cell? ⟨bk5, 1, none⟩ = some (.slice E me ce) := by rw [hc5, if_neg (by omega), hk5]; rfl
          have v0 : w5.cell? ⟨bj5, 0, none⟩ = some (.int .i64 lv) := by rw [hc5, if_neg (by omega), hk'5]; rfl
          have v1 : w5.cell? ⟨bj5, 1, none⟩ = some (.slice E' me ce') := by rw [hc5, if_neg (by omega), hk'5]; rfl
          have hE5 := hE.of hb5
          have hE5' := hE'.of hb5
          clear hc5 hf5 hk5 hk'5 hl5 hl'5 g0 g1 g0' g1' x0 x1 x2 y0 y1 y2
          go_wp2_with fail
          have u1h := Lib.hid u1
          have v1h := Lib.hid v1
          clear u0 u1 v0 v1
          go_loopw [9] (fun i wq => ∃ r : Nat, i = .int .i64 r ∧ r ≤ me ∧ Below w5.heap.size w5 wq) (fun i _ => me - (intOf i).toNat)
          case atStart => exact ⟨0, rfl, by omega, Below.refl _ _⟩
          case round =>
            obtain ⟨r, rfl, hr, hbq⟩ := hrel
            have hk5z : bk5 < _ := Nat.lt_of_lt_of_le hbh5 hbq.size
            have hj5z : bj5 < _ := Nat.lt_of_lt_of_le hbh'5 hbq.size
            have u1 := (hbq.cell (p := ⟨bk5, 1, none⟩) hbh5).trans u1h.out
            have v1 := (hbq.cell (p := ⟨bj5, 1, none⟩) hbh'5).trans v1h.out
            by_cases hlr : r < me
            · have dr : decide ((r : Int) < me) = true := decide_eq_true (by omega)
              have dr' : decide (r < me) = true := decide_eq_true hlr
              obtain ⟨x, b1, o1, hx, rfl, hb1, cx⟩ := (hE5.of hbq).int hlr
              obtain ⟨y, b2, o2, hy, rfl, hb2, cy⟩ := (hE5'.of hbq).int hlr
              obtain rfl : x = y := by have := hx.out.symm.trans hy.out; injection this
              have j0 : (0 : Int) ≤ (r : Int) := by omega
              have j1 : (r : Int) < (me : Int) := by omega
              have ex : (x != x) = false := by simp
              clear hx hy
              go_wp2_with fail
              (refine wp_region_ext_lit (by kernel_rfl) (by kernel_rfl) ?_; (repeat (go_big_quiet_step (fail))); refine wpQuiet_nil ?_; intro _ hw'; obtain ⟨z1, hw''⟩ := hw'; subst hw''; have hs1 := z1.size; obtain ⟨hc1, hf1⟩ := bcell z1.below; (try simp only [World.size_alloc, World.size_setCell, World.size_drew] at hc1 hf1); (try simp at hs1))
              have hB1 := below_thru hbq z1.below
              go_wp2_with fail
              go_roundw
              case rel => exact ⟨r + 1, by go_num, by omega, hB1⟩
              case measure => simp [intOf]; omega
            · obtain rfl : r = me := by omega
              have dr : decide ((r : Int) < r) = false := decide_eq_false (by omega)
              have dr' : decide (r < r) = false := decide_eq_false (by omega)
              have hfin := below_thru hBe5 hbq
              go_wp2_with fail
              go_roundw
              case rel => exact ⟨q + 1, by go_num, by omega, hfin⟩
              case measure => simp [intOf]; omega
        · obtain rfl : q = m := by omega
          have dq : decide ((q : Int) < q) = false := decide_eq_false (by omega)
          have dq' : decide (q < q) = false := decide_eq_false (by omega)
          have hfin := below_thru hBe hb
          go_wp2_with fail
          go_ret
          exact ⟨rfl, hfin⟩
end Go.Proofs.YtmenokhnanghgaaGreat
