/- The reference's levels of stored nodes; find. By mkrgi.py. The reference's Right of stores. By mkrgj.py. The reference's form of a store. By mkrgb.py. -/
import Derived.Test.YtmenokhnanghgaaGreatQUR
import Derived.Test.YtmenokhnanghgaaGreatCEL
import Derived.Deep.RegionHeld3
import Derived.Test.YtmenokhnanghgaaGreatRFA
import Derived.Test.YtmenokhnanghgaaGreatRgB
import Derived.Test.YtmenokhnanghgaaGreatSnpX
set_option linter.unusedSimpArgs false
set_option linter.unusedVariables false
section
namespace Go.Proofs.YtmenokhnanghgaaGreat
open Go Go.RowKit
set_option maxRecDepth 100000
set_option linter.unusedSimpArgs false
set_option linter.unusedVariables false
attribute [local go_sem ↓ high] eq_arr4
theorem qLv_get {st : Int} {Q : List Qd} {x : Qd} : ∀ {n i : Nat}, i < n → Q[i]? = some x → (qLv st Q n)[i]? = some (qlv st (qLv st Q i) x.1 + 1)
  | 0, i, h, _ => by omega
  | n + 1, i, h, hx => by
    rw [qLv]
    have hl := qLv_len (st := st) (Q := Q) n
    rcases Nat.lt_or_ge i n with h1 | h1
    · rw [List.getElem?_append_left (by omega)]; exact qLv_get h1 hx
    · obtain rfl : i = n := by omega
      rw [List.getElem?_append_right (by omega), hl, Nat.sub_self, hx]; rfl
theorem qLv_pre {st : Int} {Q : List Qd} : ∀ {n i j : Nat}, i < j → j ≤ n → (qLv st Q n)[i]? = (qLv st Q j)[i]?
  | 0, i, j, h, h2 => by omega
  | n + 1, i, j, h, h2 => by
    rcases Nat.lt_or_ge n j with h1 | h1
    · obtain rfl : j = n + 1 := by omega
      rfl
    · rw [qLv, List.getElem?_append_left (by rw [qLv_len]; omega)]
      exact qLv_pre h h1
theorem qlv_pre {st : Int} {Q : List Qd} {n j : Nat} {k : Int} (hj : j ≤ n) (h0 : 0 ≤ k) (hk : k < st + j) : qlv st (qLv st Q j) k = qlv st (qLv st Q n) k := by
  unfold qlv
  rw [qLv_len, qLv_len, if_neg (show ¬ (k < 0 ∨ st + (j : Int) ≤ k) by omega), if_neg (show ¬ (k < 0 ∨ st + (n : Int) ≤ k) by omega)]
  by_cases hs : k < st
  · rw [if_pos hs, if_pos hs]
  · rw [if_neg hs, if_neg hs, List.getD_eq_getElem?_getD, List.getD_eq_getElem?_getD, ← qLv_pre (i := (k - st).toNat) (j := j) (n := n) (by omega) hj]
/-- The first number of each node lies before it. -/
def Kid0 (st : Int) (Q : List Qd) (n : Nat) : Prop := ∀ (j : Nat) (x : Qd), j < n → Q[j]? = some x → 0 ≤ x.1 ∧ x.1 < st + j
set_option maxHeartbeats 8000000 in
theorem ref25_level (st : Int) (A : Option Addr) (n c : Nat) (Q : List Qd) (k : Nat) (id : Int) (w : World) (hQ : Rd encQd 4 w A n (Q.take k)) (hst : 2 ≤ st ∧ st ≤ 8) (hk : k = n) (hn : n ≤ 100000) (hok : Kid0 st Q n) :
    Calls Tryz.prog 104 #[.agg #[.int .i64 st, .slice A n c], .int .i64 id] w fun e w' => e = .returned (.int .i64 (qlv st (qLv st Q n) id)) ∧ Below w.heap.size w w' := by
  subst hk
  obtain ⟨w0, hw0⟩ : ∃ w0, w0 = w.alloc (.cells #[.int .i64 st, .slice A k c] 46) := ⟨_, rfl⟩
  have hb0 : Below w.heap.size w w0 := by rw [hw0]; exact (Below.refl _ _).alloc (Nat.le_refl _) _
  have hbt : BxW w0 w.heap.size [.int .i64 st, .slice A k c] := by rw [hw0]; exact BxW.new w [.int .i64 st, .slice A k c] _
  have hQ0 := Lib.hid (hQ.of hb0)
  have hok' := Lib.hid hok
  obtain ⟨_, t0, t1, -, -⟩ := hbt.open2
  have e0 : IntKind.i64.wrap (st + (k : Int)) = st + (k : Int) := IntWalk.i64_in _ (by omega)
  clear hQ hok
  by_cases h0 : id < 0
  · have d0 : decide (id < 0) = true := decide_eq_true h0
    have HE := Lib.hid (qlv_out (st := st) (ls := qLv st Q k) (k := id) (.inl h0))
    clear h0
    go_enter Tryz.func104, Tryz.ntmps104
    go_wp2_with fail
    rw [← hw0]
    clear hw0
    go_wp2_with fail
    go_ret
    exact ⟨congrArg (fun z => Ending.returned (.int .i64 z)) HE.out.symm, hb0⟩
  · have d0 : decide (id < 0) = false := decide_eq_false h0
    by_cases h1 : st + (k : Int) ≤ id
    · have d1 : decide (st + (k : Int) ≤ id) = true := decide_eq_true h1
      have HE := Lib.hid (qlv_out (st := st) (ls := qLv st Q k) (k := id) (.inr (by rw [qLv_len]; exact h1)))
      clear h0 h1
      go_enter Tryz.func104, Tryz.ntmps104
      go_wp2_with fail
      rw [← hw0]
      clear hw0
      go_wp2_with fail
      go_ret
      exact ⟨congrArg (fun z => Ending.returned (.int .i64 z)) HE.out.symm, hb0⟩
    · have d1 : decide (st + (k : Int) ≤ id) = false := decide_eq_false h1
      obtain ⟨V, hV⟩ : ∃ V, V = qlv st (qLv st Q k) id := ⟨_, rfl⟩
      rw [← hV]
      replace hV := Lib.hid hV
      go_enter Tryz.func104, Tryz.ntmps104
      go_wp2_with fail
      rw [← hw0]
      clear hw0
      go_wp2_with fail
      clear t0 t1 d0 d1
      go_loopw [1, 5] (fun v t wr => ∃ (u : Int) (r : Nat), v = .int .i64 u ∧ t = .int .i64 (r : Int) ∧ 0 ≤ u ∧ u < st + k ∧ (r : Int) + max (u - st + 1) 0 ≤ k ∧ Hid ((r : Int) + qlv st (qLv st Q k) u = V) ∧ wr = w0) (fun v t _ => (intOf v + 1).toNat)
      case atStart => exact ⟨id, 0, rfl, rfl, by omega, by omega, by omega, Lib.hid (by rw [hV.out]; simp), rfl⟩
      case round =>
        obtain ⟨u, r, rfl, rfl, hu0, hu1, hur, hVV, rfl⟩ := hrel
        obtain ⟨_, t0, t1, -, -⟩ := hbt.open2
        by_cases hlt : st ≤ u
        · have dj : decide (st ≤ u) = true := decide_eq_true hlt
          obtain ⟨j, hj⟩ : ∃ j : Nat, (j : Int) = u - st := ⟨(u - st).toNat, by omega⟩
          have hjk : j < k := by omega
          obtain ⟨x0, x1, x2, x3, bo, o, hx, rfl, hbo, c0, c1, c2, c3⟩ := hQ0.out.qd hjk
          have hxQ : Q[j]? = some (x0, x1, x2, x3) := by have := hx.out; rwa [List.getElem?_take, if_pos hjk] at this
          obtain ⟨g0, g1⟩ := hok'.out j _ hjk hxQ
          simp only at g0 g1
          have hnd := qlv_node (st := st) (ls := qLv st Q k) (k := u) (j := j) (by omega) (by omega) (qLv_get hjk hxQ)
          simp only at hnd
          rw [qlv_pre (n := k) (by omega) g0 g1] at hnd
          have hV2 := Lib.hid (show ((r + 1 : Nat) : Int) + qlv st (qLv st Q k) x0 = V by rw [← hVV.out, hnd]; omega)
          have e1 : IntKind.i64.wrap (u - st) = (j : Int) := by rw [IntWalk.i64_in _ (by omega)]; exact hj.symm
          have e2 : IntKind.i64.wrap ((r : Int) + 1) = ((r + 1 : Nat) : Int) := by rw [IntWalk.i64_in _ (by omega)]; omega
          have i0 : (0 : Int) ≤ (j : Int) := by omega
          have i1 : (j : Int) < (k : Int) := by omega
          have hm := Lib.hid (show x0 < u ∧ x0 < st + k ∧ ((r + 1 : Nat) : Int) + max (x0 - st + 1) 0 ≤ k by omega)
          clear hnd hxQ hx hj hVV c1 c2 c3
          go_wp2_with fail
          go_roundw
          case rel => exact ⟨x0, r + 1, rfl, by go_num, g0, hm.out.2.1, hm.out.2.2, hV2, trivial⟩
          case measure => have := hm.out.1; simp [intOf]; omega
        · have dj : decide (st ≤ u) = false := decide_eq_false hlt
          have HE := Lib.hid (show (r : Int) = V by rw [← hVV.out, qlv_leaf hu0 (by omega)]; omega)
          clear hVV
          go_wp2_with fail
          go_ret
          exact ⟨congrArg (fun z => Ending.returned (.int .i64 z)) HE.out, hb0⟩
set_option maxHeartbeats 8000000 in
theorem ref25_find (st : Int) (A : Option Addr) (n c : Nat) (L : List Qd) (y0 y1 y2 y3 : Int) (w : World) (hQ : Rd encQd 4 w A n L) (hn : n ≤ 100000) :
    Calls Tryz.prog 105 #[.agg #[.int .i64 st, .slice A n c], .agg #[.int .i64 y0, .int .i64 y1, .int .i64 y2, .int .i64 y3]] w fun e w' => ∃ v : Int, e = .returned (.int .i64 v) ∧ decide (0 ≤ v) = L.contains (y0, y1, y2, y3) ∧ Below w.heap.size w w' := by
  obtain ⟨w0, hw0⟩ : ∃ w0, w0 = (w.alloc (.cells #[.int .i64 st, .slice A n c] 46)).alloc (.cells #[.int .i64 y0, .int .i64 y1, .int .i64 y2, .int .i64 y3] 67) := ⟨_, rfl⟩
  have hb0 : Below w.heap.size w w0 := by rw [hw0]; exact ((Below.refl _ _).alloc (Nat.le_refl _) _).alloc (by simp) _
  have hbt : BxW w0 w.heap.size [.int .i64 st, .slice A n c] := by rw [hw0]; exact (BxW.new w [.int .i64 st, .slice A n c] _).of ((Below.refl _ _).alloc (Nat.le_refl _) _)
  have hby : BxW w0 (w.heap.size + 1) [.int .i64 y0, .int .i64 y1, .int .i64 y2, .int .i64 y3] := by
    have h := BxW.new (w.alloc (.cells #[.int .i64 st, .slice A n c] 46)) [.int .i64 y0, .int .i64 y1, .int .i64 y2, .int .i64 y3] 67
    rw [World.size_alloc] at h
    rw [hw0]; exact h
  have hQ0 := Lib.hid (hQ.of hb0)
  have hQl := Lib.hid hQ.len
  obtain ⟨yb, hyb⟩ : ∃ yb, yb = w.heap.size + 1 := ⟨_, rfl⟩
  rw [← hyb] at hby
  clear hQ
  go_enter Tryz.func105, Tryz.ntmps105
  go_wp2_with fail
  rw [← hw0]
  (try rw [← hyb])
  clear hw0 hyb
  go_loopw [5] (fun i wr => ∃ j : Nat, i = .int .i64 j ∧ j ≤ n ∧ Hid ((y0, y1, y2, y3) ∉ L.take j) ∧ Below w0.heap.size w0 wr) (fun i _ => n - (intOf i).toNat)
  case atStart => exact ⟨0, rfl, by omega, Lib.hid (by simp), Below.refl _ _⟩
  case round =>
    obtain ⟨j, rfl, hj, hno, hb⟩ := hrel
    obtain ⟨_, t0, t1, -, -⟩ := (hbt.of hb).open2
    obtain ⟨_, z0, z1, z2, z3, -, -, -, -⟩ := (hby.of hb).open4
    by_cases hlt : j < n
    · have dj : decide ((j : Int) < n) = true := decide_eq_true (by omega)
      have dj' : decide (j < n) = true := decide_eq_true hlt
      obtain ⟨x0, x1, x2, x3, bo, o, hx, rfl, hbo, c0, c1, c2, c3⟩ := (hQ0.out.of hb).qd hlt
      have i0 : (0 : Int) ≤ (j : Int) := by omega
      have i1 : (j : Int) < (n : Int) := by omega
      by_cases hq : x0 = y0 ∧ x1 = y1 ∧ x2 = y2 ∧ x3 = y3
      · have dq : decide (x0 = y0 ∧ x1 = y1 ∧ x2 = y2 ∧ x3 = y3) = true := decide_eq_true hq
        have HE := Lib.hid (show L.contains (y0, y1, y2, y3) = true by
          obtain ⟨rfl, rfl, rfl, rfl⟩ := hq
          exact List.contains_iff_mem.2 (List.mem_of_getElem? hx.out))
        clear hq hx hno
        go_wp2_with fail
        (refine wp_region_ext_lit (by kernel_rfl) (by kernel_rfl) ?_; (repeat (go_big_quiet_step (fail))); refine wpQuiet_nil ?_; intro _ hw'; obtain ⟨z9, hw''⟩ := hw'; subst hw''; have hs9 := z9.size; obtain ⟨hc9, hf9⟩ := bcell z9.below; (try simp only [World.size_alloc, World.size_setCell, World.size_drew] at hc9 hf9); (try simp at hs9))
        have hB1 := below_thru hb0 (below_thru hb z9.below)
        go_wp2_with fail
        go_ret
        exact ⟨(j : Int), rfl, by rw [HE.out]; simp, hB1⟩
      · have dq : decide (x0 = y0 ∧ x1 = y1 ∧ x2 = y2 ∧ x3 = y3) = false := decide_eq_false hq
        have hst := Lib.hid (show (y0, y1, y2, y3) ∉ L.take (j + 1) by
          rw [List.take_add_one, hx.out]
          intro hm
          rcases List.mem_append.1 hm with h | h
          · exact hno.out h
          · simp only [Option.toList_some, List.mem_singleton, Prod.mk.injEq] at h
            exact hq ⟨h.1.symm, h.2.1.symm, h.2.2.1.symm, h.2.2.2.symm⟩)
        clear hq hx hno
        go_wp2_with fail
        (refine wp_region_ext_lit (by kernel_rfl) (by kernel_rfl) ?_; (repeat (go_big_quiet_step (fail))); refine wpQuiet_nil ?_; intro _ hw'; obtain ⟨z9, hw''⟩ := hw'; subst hw''; have hs9 := z9.size; obtain ⟨hc9, hf9⟩ := bcell z9.below; (try simp only [World.size_alloc, World.size_setCell, World.size_drew] at hc9 hf9); (try simp at hs9))
        have hB1 := below_thru hb z9.below
        go_wp2_with fail
        go_roundw
        case rel => exact ⟨j + 1, by go_num, by omega, hst, hB1⟩
        case measure => simp [intOf]; omega
    · obtain rfl : j = n := by omega
      have dj : decide ((j : Int) < j) = false := decide_eq_false (by omega)
      have dj' : decide (j < j) = false := decide_eq_false (by omega)
      have HE := Lib.hid (show L.contains (y0, y1, y2, y3) = false by
        have := hno.out
        rw [List.take_of_length_le (by rw [hQl.out]; exact Nat.le_refl _)] at this
        rw [Bool.eq_false_iff]
        exact fun h => this (List.contains_iff_mem.1 h))
      clear hno
      go_wp2_with fail
      go_ret
      exact ⟨-1, rfl, by rw [HE.out]; decide, below_thru hb0 hb⟩
end Go.Proofs.YtmenokhnanghgaaGreat
end
section
namespace Go.Proofs.YtmenokhnanghgaaGreat
open Go Go.RowKit
set_option maxRecDepth 100000
set_option linter.unusedSimpArgs false
set_option linter.unusedVariables false
theorem ret_boolQ {a b : Bool} (h : b = a) : Ending.returned (.bool a) = .returned (.bool b) := by rw [h]
theorem qOk_bad1 {st : Int} {Q : List Qd} {j : Nat} {x : Qd} (hx : Q[j]? = some x) (h : ¬ (0 ≤ qlv st (qLv st Q j) x.1 ∧ qlv st (qLv st Q j) x.1 < 256 ∧ qlv st (qLv st Q j) x.2.1 = qlv st (qLv st Q j) x.1 ∧ qlv st (qLv st Q j) x.2.2.1 = qlv st (qLv st Q j) x.1 ∧ qlv st (qLv st Q j) x.2.2.2 = qlv st (qLv st Q j) x.1)) : qOk st Q j = false := by
  rw [qOk_at hx]
  unfold qSt
  rw [decide_eq_false h]; rfl
theorem qOk_bad2 {st : Int} {Q : List Qd} {j : Nat} {x : Qd} (hx : Q[j]? = some x) (h : (Q.take j).contains x = true) : qOk st Q j = false := by
  rw [qOk_at hx, h]; simp
theorem qOk_good {st : Int} {Q : List Qd} {j : Nat} {x : Qd} (hx : Q[j]? = some x) (h : 0 ≤ qlv st (qLv st Q j) x.1 ∧ qlv st (qLv st Q j) x.1 < 256 ∧ qlv st (qLv st Q j) x.2.1 = qlv st (qLv st Q j) x.1 ∧ qlv st (qLv st Q j) x.2.2.1 = qlv st (qLv st Q j) x.1 ∧ qlv st (qLv st Q j) x.2.2.2 = qlv st (qLv st Q j) x.1) (h2 : (Q.take j).contains x = false) : qOk st Q j = true := by
  rw [qOk_at hx, h2]
  unfold qSt
  rw [decide_eq_true h]; rfl
theorem kid0_step {st : Int} {Q : List Qd} {j : Nat} {x : Qd} (h : Kid0 st Q j) (hx : Q[j]? = some x) (h0 : 0 ≤ qlv st (qLv st Q j) x.1) : Kid0 st Q (j + 1) := by
  intro i y hi hy
  rcases Nat.lt_or_ge i j with h1 | h1
  · exact h i y h1 hy
  · obtain rfl : i = j := by omega
    rw [hx] at hy
    injection hy with hy
    subst hy
    have := qlv_range h0
    rw [qLv_len] at this
    exact this
/-- The part that is built: its box pb. -/
structure QpS (w0 : World) (pb : Nat) (st : Int) (Q : List Qd) (j : Nat) (A : Option Addr) (c : Nat) (wr : World) : Prop where
  x : BxW wr pb [.int .i64 st, .slice A j c]
  o : Own encQd 4 69 (pb + 1) wr A j c (Q.take j)
  b : Below w0.heap.size w0 wr
set_option maxHeartbeats 32000000 in
theorem ref25_Right (st : Int) (A : Option Addr) (n c : Nat) (Q : List Qd) (w : World) (hQ : Rd encQd 4 w A n Q) (hn : n ≤ 9223372036854775807) :
    Calls Tryz.prog 64 #[.agg #[.int .i64 st, .slice A n c]] w fun e w' => e = .returned (.bool (qR st Q)) ∧ Below w.heap.size w w' := by
  obtain ⟨w0, hw0⟩ : ∃ w0, w0 = w.alloc (.cells #[.int .i64 st, .slice A n c] 46) := ⟨_, rfl⟩
  have hb0 : Below w.heap.size w w0 := by rw [hw0]; exact (Below.refl _ _).alloc (Nat.le_refl _) _
  have hbt : BxW w0 w.heap.size [.int .i64 st, .slice A n c] := by rw [hw0]; exact BxW.new w [.int .i64 st, .slice A n c] _
  have hQ0 := Lib.hid (hQ.of hb0)
  have hQl := Lib.hid hQ.len
  obtain ⟨_, t0, t1, -, -⟩ := hbt.open2
  clear hQ
  by_cases h1 : st < 2
  · have d1 : decide (st < 2) = true := decide_eq_true h1
    have HE := Lib.hid (qR_states (st := st) (Q := Q) (by omega))
    clear h1
    go_enter Tryz.func64, Tryz.ntmps64
    go_wp2_with fail
    rw [← hw0]
    clear hw0
    go_wp2_with fail
    go_ret
    exact ⟨ret_boolQ HE.out, hb0⟩
  have d1 : decide (st < 2) = false := decide_eq_false h1
  by_cases h2 : 8 < st
  · have d2 : decide (8 < st) = true := decide_eq_true h2
    have HE := Lib.hid (qR_states (st := st) (Q := Q) (by omega))
    clear h1 h2
    go_enter Tryz.func64, Tryz.ntmps64
    go_wp2_with fail
    rw [← hw0]
    clear hw0
    go_wp2_with fail
    go_ret
    exact ⟨ret_boolQ HE.out, hb0⟩
  have d2 : decide (8 < st) = false := decide_eq_false h2
  by_cases h3 : 100000 < n
  · have d3 : decide (100000 < (n : Int)) = true := decide_eq_true (by omega)
    have d3' : decide (100000 < n) = true := decide_eq_true h3
    have HE := Lib.hid (qR_len (st := st) hQl.out h3)
    clear h1 h2 h3
    go_enter Tryz.func64, Tryz.ntmps64
    go_wp2_with fail
    rw [← hw0]
    clear hw0
    go_wp2_with fail
    go_ret
    exact ⟨ret_boolQ HE.out, hb0⟩
  have d3 : decide (100000 < (n : Int)) = false := decide_eq_false (by omega)
  have d3' : decide (100000 < n) = false := decide_eq_false h3
  have hst : 2 ≤ st ∧ st ≤ 8 := by omega
  obtain ⟨w1, hw1⟩ : ∃ w1, w1 = w0.alloc (.cells #[.int .i64 st, .slice none 0 0] 46) := ⟨_, rfl⟩
  have hb1 : Below w0.heap.size w0 w1 := by rw [hw1]; exact (Below.refl _ _).alloc (Nat.le_refl _) _
  have hx1 : BxW w1 w0.heap.size [.int .i64 st, .slice none 0 0] := by rw [hw1]; exact BxW.new w0 [.int .i64 st, .slice none 0 0] _
  have hS1 : QpS w0 w0.heap.size st Q 0 none 0 w1 := ⟨hx1, Own.nil_, hb1⟩
  clear h1 h2 hx1 hb1
  go_enter Tryz.func64, Tryz.ntmps64
  go_upto_region 1 with (fail)
  rw [← hw0]
  clear hw0
  go_upto_region 5 with (fail)
  rw [← hw1]
  clear hw1 d1 d2 d3 d3'
  obtain ⟨pb, hpb⟩ : ∃ pb, pb = w0.heap.size := ⟨_, rfl⟩
  rw [← hpb] at hS1 ⊢
  have hpw : w0.heap.size ≤ pb := by omega
  have hwp : w.heap.size < pb := by rw [hpb]; exact hbt.1
  clear hpb t0 t1
  go_wp2_with fail
  go_loopw [4] (fun i wr => ∃ (j : Nat) (A1 : Option Addr) (c1 : Nat), i = .int .i64 (j : Int) ∧ j ≤ n ∧ Kid0 st Q j ∧ Hid (∀ i, i < j → qOk st Q i = true) ∧ QpS w0 pb st Q j A1 c1 wr) (fun i _ => n - (intOf i).toNat)
  case atStart => exact ⟨0, none, 0, rfl, by omega, fun i x hi => by omega, Lib.hid (fun i hi => by omega), hS1⟩
  case round =>
    clear hS1
    obtain ⟨j, A1, c1, rfl, hj, hkid, hok, hS⟩ := hrel
    have hz := hS.b.size
    obtain ⟨_, t0, t1, -, -⟩ := (hbt.of hS.b).open2
    by_cases hlt : j < n
    · have dj : decide ((j : Int) < n) = true := decide_eq_true (by omega)
      have dj' : decide (j < n) = true := decide_eq_true hlt
      obtain ⟨x0, x1, x2, x3, bo, o, hx, rfl, hbo, c0, c1', c2, c3⟩ := (hQ0.out.of hS.b).qd hlt
      have i0 : (0 : Int) ≤ (j : Int) := by omega
      have i1 : (j : Int) < (n : Int) := by omega
      obtain ⟨wk, hwk⟩ : ∃ wk, wk = wr.alloc (.cells #[.int .i64 x0, .int .i64 x1, .int .i64 x2, .int .i64 x3] 67) := ⟨_, rfl⟩
      have hal : Below wr.heap.size wr wk := by rw [hwk]; exact (Below.refl _ _).alloc (Nat.le_refl _) _
      have hxk : BxW wk wr.heap.size [.int .i64 x0, .int .i64 x1, .int .i64 x2, .int .i64 x3] := by rw [hwk]; exact BxW.new wr [_, _, _, _] _
      have hxp := hS.x.of hal
      obtain ⟨kb, hkb⟩ : ∃ kb, kb = wr.heap.size := ⟨_, rfl⟩
      rw [← hkb] at hxk
      have hL0 := Lib.hid ((hS.o.of hal).rd encQd_len)
      have kL := fun w1 id h => ref25_level st A1 j c1 Q j id w1 h hst rfl (by omega) hkid
      have kF := fun w1 h => ref25_find st A1 j c1 (Q.take j) x0 x1 x2 x3 w1 h (by omega)
      have hb1 := fun h => qOk_bad1 (st := st) hx.out h
      have hb2 := fun h => qOk_bad2 (st := st) hx.out h
      have hgd := fun h h2 => qOk_good (st := st) hx.out h h2
      have hkst := fun h => kid0_step hkid hx.out h
      have HBad := fun h => qR_bad (st := st) (i := j) hQl.out hlt h
      simp only at hb1 hgd hkst
      generalize qlv st (qLv st Q j) = LV at kL hb1 hgd hkst
      have hTk := Lib.hid (show Q.take (j + 1) = Q.take j ++ [(x0, x1, x2, x3)] by rw [List.take_add_one, hx.out]; rfl)
      have hBk := Lib.hid (hS.b.trans (hal.mono hz))
      go_upto_region 9 with (fail)
      rw [← hwk]
      (try rw [← hkb])
      clear hkb hwk hx t0 t1 c0 c1' c2 c3
      obtain ⟨hkz, z0, z1, z2, z3, -, -, -, -⟩ := hxk.open4
      obtain ⟨hpz, p0, p1, -, -⟩ := hxp.open2
      go_wp2_with fail
      go_at_call 104
      refine (kL _ x0 hL0.out).mono ?_
      rintro e w2 ⟨rfl, hb⟩
      clear z0 z1 z2 z3 p0 p1
      have hBB := Lib.hid hb
      clear hb
      obtain ⟨_, z0, z1, z2, z3, -, -, -, -⟩ := (hxk.of hBB.out).open4
      obtain ⟨_, p0, p1, -, -⟩ := (hxp.of hBB.out).open2
      by_cases g0 : LV x0 < 0
      · have f0 : decide (LV x0 < 0) = true := decide_eq_true g0
        have HE := Lib.hid (HBad (hb1 (by omega)))
        have hfin := Lib.hid (hb0.trans ((hBk.out.trans (hBB.out.mono hBk.out.size)).mono (show w.heap.size ≤ w0.heap.size from hb0.size)))
        clear HBad hb1 hb2 hgd hkst kL kF hok hkid
        go_wp2_with fail
        go_ret
        exact ⟨ret_boolQ HE.out, hfin.out⟩
      have f0 : decide (LV x0 < 0) = false := decide_eq_false g0
      by_cases g1 : 256 ≤ LV x0
      · have f1 : decide (256 ≤ LV x0) = true := decide_eq_true g1
        have HE := Lib.hid (HBad (hb1 (by omega)))
        have hfin := Lib.hid (hb0.trans ((hBk.out.trans (hBB.out.mono hBk.out.size)).mono (show w.heap.size ≤ w0.heap.size from hb0.size)))
        clear HBad hb1 hb2 hgd hkst kL kF hok hkid
        go_wp2_with fail
        go_ret
        exact ⟨ret_boolQ HE.out, hfin.out⟩
      have f1 : decide (256 ≤ LV x0) = false := decide_eq_false g1
      go_wp2_with fail
      go_at_call 104
      refine (kL _ x1 (hL0.out.of hBB.out)).mono ?_
      rintro e w3 ⟨rfl, hb⟩
      clear z0 z1 z2 z3 p0 p1
      replace hBB := Lib.hid (below_thru hBB.out hb)
      clear hb
      obtain ⟨_, z0, z1, z2, z3, -, -, -, -⟩ := (hxk.of hBB.out).open4
      obtain ⟨_, p0, p1, -, -⟩ := (hxp.of hBB.out).open2
      by_cases g2 : LV x1 ≠ LV x0
      · have f2 : (LV x1 != LV x0) = true := by simpa using g2
        have HE := Lib.hid (HBad (hb1 (fun k => g2 k.2.2.1)))
        have hfin := Lib.hid (hb0.trans ((hBk.out.trans (hBB.out.mono hBk.out.size)).mono (show w.heap.size ≤ w0.heap.size from hb0.size)))
        clear HBad hb1 hb2 hgd hkst kL kF hok hkid
        go_wp2_with fail
        go_ret
        exact ⟨ret_boolQ HE.out, hfin.out⟩
      replace g2 : LV x1 = LV x0 := Classical.byContradiction g2
      have f2 : (LV x1 != LV x0) = false := by simpa using g2
      go_wp2_with fail
      go_at_call 104
      refine (kL _ x2 (hL0.out.of hBB.out)).mono ?_
      rintro e w4 ⟨rfl, hb⟩
      clear z0 z1 z2 z3 p0 p1
      replace hBB := Lib.hid (below_thru hBB.out hb)
      clear hb
      obtain ⟨_, z0, z1, z2, z3, -, -, -, -⟩ := (hxk.of hBB.out).open4
      obtain ⟨_, p0, p1, -, -⟩ := (hxp.of hBB.out).open2
      by_cases g3 : LV x2 ≠ LV x0
      · have f3 : (LV x2 != LV x0) = true := by simpa using g3
        have HE := Lib.hid (HBad (hb1 (fun k => g3 k.2.2.2.1)))
        have hfin := Lib.hid (hb0.trans ((hBk.out.trans (hBB.out.mono hBk.out.size)).mono (show w.heap.size ≤ w0.heap.size from hb0.size)))
        clear HBad hb1 hb2 hgd hkst kL kF hok hkid
        go_wp2_with fail
        go_ret
        exact ⟨ret_boolQ HE.out, hfin.out⟩
      replace g3 : LV x2 = LV x0 := Classical.byContradiction g3
      have f3 : (LV x2 != LV x0) = false := by simpa using g3
      go_wp2_with fail
      go_at_call 104
      refine (kL _ x3 (hL0.out.of hBB.out)).mono ?_
      rintro e w5 ⟨rfl, hb⟩
      clear z0 z1 z2 z3 p0 p1
      replace hBB := Lib.hid (below_thru hBB.out hb)
      clear hb
      obtain ⟨_, z0, z1, z2, z3, -, -, -, -⟩ := (hxk.of hBB.out).open4
      obtain ⟨_, p0, p1, -, -⟩ := (hxp.of hBB.out).open2
      by_cases g4 : LV x3 ≠ LV x0
      · have f4 : (LV x3 != LV x0) = true := by simpa using g4
        have HE := Lib.hid (HBad (hb1 (fun k => g4 k.2.2.2.2)))
        have hfin := Lib.hid (hb0.trans ((hBk.out.trans (hBB.out.mono hBk.out.size)).mono (show w.heap.size ≤ w0.heap.size from hb0.size)))
        clear HBad hb1 hb2 hgd hkst kL kF hok hkid
        go_wp2_with fail
        go_ret
        exact ⟨ret_boolQ HE.out, hfin.out⟩
      replace g4 : LV x3 = LV x0 := Classical.byContradiction g4
      have f4 : (LV x3 != LV x0) = false := by simpa using g4
      go_wp2_with fail
      go_at_call 105
      refine (kF _ (hL0.out.of hBB.out)).mono ?_
      rintro e w6 ⟨fv, rfl, hfv, hb⟩
      clear z0 z1 z2 z3 p0 p1
      replace hBB := Lib.hid (below_thru hBB.out hb)
      clear hb
      obtain ⟨_, z0, z1, z2, z3, -, -, -, -⟩ := (hxk.of hBB.out).open4
      obtain ⟨_, p0, p1, -, -⟩ := (hxp.of hBB.out).open2
      cases hfc : (Q.take j).contains (x0, x1, x2, x3) with
      | true =>
        rw [hfc] at hfv
        have HE := Lib.hid (HBad (hb2 hfc))
        clear hfc
        have hfin := Lib.hid (hb0.trans ((hBk.out.trans (hBB.out.mono hBk.out.size)).mono (show w.heap.size ≤ w0.heap.size from hb0.size)))
        clear HBad hb1 hb2 hgd hkst kL kF hok hkid
        go_wp2_with fail
        go_ret
        exact ⟨ret_boolQ HE.out, hfin.out⟩
      | false =>
        rw [hfc] at hfv
        have hok2 := Lib.hid (hgd ⟨by omega, by omega, g2, g3, g4⟩ hfc)
        have hk2 := hkst (by omega)
        have hS6 : QpS w0 pb st Q j A1 c1 w6 := ⟨hxp.of hBB.out, (hS.o.of hal).of hBB.out, hBk.out.trans (hBB.out.mono hBk.out.size)⟩
        have hQ6 := hQ0.out.of hS6.b
        obtain ⟨y0, y1, y2, y3, bo', o', hy, hAe, hbo', c0, c1', c2, c3⟩ := hQ6.qd hlt
        injection hAe with hAe
        injection hAe with hAe1 hAe2
        subst hAe1 hAe2
        obtain ⟨_, t0, t1, -, -⟩ := (hbt.of hS6.b).open2
        have hrow : ∀ q, (Value.slice A1 j c1).ownBlock = some q → pb < q := fun q hq => by have := (hS6.o.row.lt q hq).1; omega
        have hyx : (y0, y1, y2, y3) = (x0, x1, x2, x3) := by
          have h1 := hTk.out
          rw [List.take_add_one, hy.out] at h1
          have := List.append_cancel_left h1
          simpa using this
        simp only [Prod.mk.injEq] at hyx
        obtain ⟨rfl, rfl, rfl, rfl⟩ := hyx
        have hw7 : Below w6.heap.size w6 (w6.alloc (.cells #[.int .i64 y0, .int .i64 y1, .int .i64 y2, .int .i64 y3] 69)).drew := ((Below.refl _ _).alloc (Nat.le_refl _) _).drew
        have hOw := Lib.hid hS6.o
        have kA : ∀ (A5 : Option Addr) (c5 : Nat) (w5 : World), Own encQd 4 69 (pb + 1) w5 A5 (j + 1) c5 (Q.take j ++ [(y0, y1, y2, y3)]) → (w6.alloc (.cells #[.int .i64 y0, .int .i64 y1, .int .i64 y2, .int .i64 y3] 69)).drew.grownBy w5 (Value.slice A1 j c1).ownBlock →
            w5.cell? ⟨pb, 1, none⟩ = some (.slice A1 j c1) ∧ w5.frozen? ⟨pb, 1, none⟩ = false ∧ Hid (QpS w0 pb st Q (j + 1) A5 c5 (w5.setCell ⟨pb, 1, none⟩ (.slice A5 (j + 1) c5))) := by
          intro A5 c5 w5 hown5 hg5
          have hx5 := (hS6.x.of hw7).grown hg5 (fun e => by have := hrow _ e.symm; omega)
          refine ⟨hx5.2.1 1, hx5.2.2 1, Lib.hid ⟨hx5.put 1 _ (by simp), ?_, ?_⟩⟩
          · rw [hTk.out]; exact hown5.setBelow (Nat.lt_succ_self _) _
          · exact ((below_thru hS6.b hw7).grown hg5 (by have := hS6.b.size; simp only [World.size_alloc, World.size_drew]; omega) (fun q hq => by have := hrow q hq; omega)).setCell hpw _
        have hpb6 := hS6.x.1
        have p16 : w6.cell? ⟨pb, 1, none⟩ = some (.slice A1 j c1) := hS6.x.2.1 1
        have hok3 := Lib.hid (show ∀ i, i < j + 1 → qOk st Q i = true from fun i hi => by
          rcases Nat.lt_or_ge i j with h | h
          · exact hok.out i h
          · obtain rfl : i = j := by omega
            exact hok2.out)
        have hz6 := hS6.b.size
        generalize Q.take j = L1 at hOw kA
        clear hfc hS6 hQ6 hy hS hb1 hb2 hgd hkst HBad kL kF hxp hxk hL0 hBB hok hok2 hkid hTk hrow z0 z1 z2 z3 p0 p1
        go_upto_region 12 with (fail)
        go_region_law
          (refine step_append_el (by rfl) (.tmp 78) (.tmp 84) 44 (by rfl) encQd 4 69 (.agg #[.int .i64 0, .int .i64 0, .int .i64 0, .int .i64 0]) 32 Tryz.underlying44 (by kernel_rfl) rfl (by decide) encQd_len encQd_one (pb + 1) _ _ _ L1 (by rfl) (Own.drew (Own.alloc hOw.out _)) (y0, y1, y2, y3) ⟨w6.heap.size, 0, none⟩ 1 (by rfl) (cells_new w6 (encQd (y0, y1, y2, y3)) 69) (by omega) (by omega) (by simp only [World.size_alloc, World.size_drew]; omega) ?_; intro A5 c5 w5 hown5 hg5 hb5; obtain ⟨o5, fo5, hfin⟩ := kA A5 c5 w5 hown5 hg5)
        all_goals
          go_wp2_with fail
          go_roundw
          case rel => exact ⟨j + 1, A5, c5, by go_num, by omega, hk2, hok3, hfin.out⟩
          case measure => simp [intOf]; omega
    · obtain rfl : j = n := by omega
      have dj : decide ((j : Int) < j) = false := decide_eq_false (by omega)
      have dj' : decide (j < j) = false := decide_eq_false (by omega)
      have HE := Lib.hid (qR_all hst hQl.out (by omega) hok.out)
      have hB := Lib.hid (hb0.trans (hS.b.mono (by omega)))
      clear hok hS hkid
      go_wp2_with fail
      go_ret
      exact ⟨ret_boolQ HE.out, hB.out⟩
end Go.Proofs.YtmenokhnanghgaaGreat
end
section
namespace Go.Proofs.YtmenokhnanghgaaGreat
open Go Go.RowKit
set_option maxRecDepth 100000
set_option linter.unusedSimpArgs false
set_option linter.unusedVariables false
set_option maxHeartbeats 32000000 in
theorem ref55_Quads (st : Int) (A : Option Addr) (n c : Nat) (Q : List Qd) (w : World) (hQ : Rd encQd 4 w A n Q) (hn : n ≤ 9223372036854775807) :
    Calls Tryz.prog 23 #[.agg #[.int .i64 st, .slice A n c]] w fun e w' => ∃ A' n' c', e = .returned (.tuple #[.slice A' n' c', .int .i64 (fqE st Q)]) ∧ Rd encU 1 w' A' n' (fqL st Q) ∧ Below w.heap.size w w' := by
  obtain ⟨w0, hw0⟩ : ∃ w0, w0 = w.alloc (.cells #[.int .i64 st, .slice A n c] 46) := ⟨_, rfl⟩
  have hb0 : Below w.heap.size w w0 := by rw [hw0]; exact (Below.refl _ _).alloc (Nat.le_refl _) _
  have hbt : BxW w0 w.heap.size [.int .i64 st, .slice A n c] := by rw [hw0]; exact BxW.new w [.int .i64 st, .slice A n c] _
  have hQ0 := Lib.hid (hQ.of hb0)
  have kR := fun w1 h => ref25_Right st A n c Q w1 h hn
  have hQl := Lib.hid hQ.len
  cases hr : qR st Q with
  | false =>
    obtain ⟨h1, h2⟩ := fq_bad hr
    rw [hr] at kR
    rw [h1, h2]
    clear hr h1 h2 hQ
    obtain ⟨_, t0, t1, -, -⟩ := hbt.open2
    go_enter Tryz.func23, Tryz.ntmps23
    go_wp2_with fail
    rw [← hw0]
    clear hw0
    go_wp2_with fail; go_at_call 64; refine (kR _ hQ0.out).mono ?_; rintro e w1 ⟨rfl, hb1⟩; have hs1 := hb1.size; (try simp only [World.size_alloc, World.size_drew, World.size_setCell] at hs1)
    go_wp2_with fail
    refine bodyPost_ret (v := .tuple #[.slice none 0 0, .int .i64 2]) (by simp [results, Tryz.results23, go_sem, *, ↓IntWalk.iteOmega]) rfl ?_
    exact ⟨none, 0, 0, rfl, Rd.nil_, below_thru hb0 hb1⟩
  | true =>
    obtain ⟨h1, h2⟩ := fq_ok hr
    rw [hr] at kR
    rw [h1, h2]
    obtain ⟨bd1, bd2, -⟩ := qR_parts hr
    have hkid := Lib.hid (fun i x (hx : Q[i]? = some x) => qR_kids hr hx)
    have hn5 : n ≤ 100000 := by rw [← hQl.out]; exact bd2
    clear hr h1 h2 hQ bd2
    obtain ⟨k, hk⟩ : ∃ k : Nat, (k : Int) = st - 1 := ⟨(st - 1).toNat, by omega⟩
    have hks : (st - 1).toNat = k := by omega
    have hbits := Lib.hid (show hdB 3 ++ digB 3 k ++ gamB Q.length ++ Q.flatMap qdB = qdsB st Q by unfold qdsB; rw [hks])
    have hk7 : k ≤ 7 := by omega
    have e0 : IntKind.i64.wrap (st - 1) = (k : Int) := by rw [IntWalk.i64_in _ (by omega)]; exact hk.symm
    replace hk := Lib.hid hk
    clear hks
    rw [← hbits.out, hQl.out]
    clear hbits
    obtain ⟨X1, hX1⟩ : ∃ X1, X1 = hdB 3 ++ digB 3 k ++ gamB n := ⟨_, rfl⟩
    rw [← hX1]
    replace hX1 := Lib.hid hX1
    obtain ⟨_, t0, t1, -, -⟩ := hbt.open2
    go_enter Tryz.func23, Tryz.ntmps23
    go_wp2_with fail
    rw [← hw0]
    clear hw0
    go_at_call 64
    refine (kR _ hQ0.out).mono ?_
    rintro e w1 ⟨rfl, hb1⟩
    clear t0 t1
    go_wp2_with fail
    go_at_call 39
    refine (ref55_begin 3 (by omega) _).mono ?_
    rintro e w2 ⟨bw, A2, n2, c2, T2, b2, rfl, hX2, hbw, hb2⟩
    have hz1 := hb1.size
    have hwb : w0.heap.size ≤ bw := by omega
    have hB2 := Lib.hid (below_thru hb1 hb2)
    obtain ⟨_, t0, t1, -, -⟩ := (hbt.of hB2.out).open2
    have kW := ref55_bits bw A2 n2 c2 _ T2 b2 w2 k 3 hX2 (by omega) (by omega)
    replace hX2 := Lib.hid hX2
    clear hb1 hb2 kR hz1
    go_wp2_with fail
    go_at_call 53
    refine kW.mono ?_
    rintro e w3 ⟨A3, n3, c3, T3, b3, rfl, hX3, hK3⟩
    have hB3 := hX2.out.go hB2.out hK3 hwb
    replace hB3 := Lib.hid hB3
    clear kW
    clear t0 t1
    obtain ⟨_, t0, t1, -, -⟩ := (hbt.of hB3.out).open2
    have kW := ref55_gamma bw A3 n3 c3 _ T3 b3 w3 n hX3 (by omega)
    replace hX3 := Lib.hid hX3
    clear hK3
    go_wp2_with fail
    go_at_call 54
    refine kW.mono ?_
    rintro e w4 ⟨A4, n4, c4, T4, b4, rfl, hX4, hK4⟩
    have hB4 := hX3.out.go hB3.out hK4 hwb
    replace hB4 := Lib.hid hB4
    clear kW
    clear t0 t1 hK4 hX2 hX3 hB2 hB3
    rw [← hX1.out] at hX4
    replace hX4 := Lib.hid hX4
    clear hX1
    go_wp2_with fail
    go_loopw [5] (fun i wr => ∃ (j : Nat) (A4 : Option Addr) (n4 c4 : Nat) (T4 : List Bool) (b4 : Bool), i = .int .i64 j ∧ j ≤ n ∧ WqX wr bw A4 n4 c4 (X1 ++ (Q.take j).flatMap qdB) T4 b4 ∧ Below w0.heap.size w0 wr) (fun i _ => n - (intOf i).toNat)
    case atStart => exact ⟨0, A4, n4, c4, T4, b4, rfl, by omega, by simpa using hX4.out, hB4.out⟩
    case round =>
      clear hX4 hB4
      obtain ⟨j, A4, n4, c4, T4, b4, rfl, hj, hX4, hB4⟩ := hrel
      have hz4 := hB4.size
      obtain ⟨_, t0, t1, -, -⟩ := (hbt.of hB4).open2
      by_cases hlt : j < n
      · have dj : decide ((j : Int) < n) = true := decide_eq_true (by omega)
        have dj' : decide (j < n) = true := decide_eq_true hlt
        obtain ⟨x0, x1, x2, x3, bo, o, hx, rfl, hbo, cx0, cx1, cx2, cx3⟩ := hQ0.out.qd hlt
        obtain ⟨g0, g1, g2, g3⟩ := hkid.out j _ hx.out
        simp only at g0 g1 g2 g3
        obtain ⟨a, rfl⟩ : ∃ a : Nat, x0 = (a : Int) := ⟨x0.toNat, by omega⟩
        obtain ⟨b, rfl⟩ : ∃ b : Nat, x1 = (b : Int) := ⟨x1.toNat, by omega⟩
        obtain ⟨d, rfl⟩ : ∃ d : Nat, x2 = (d : Int) := ⟨x2.toNat, by omega⟩
        obtain ⟨e9, rfl⟩ : ∃ e9 : Nat, x3 = (e9 : Int) := ⟨x3.toNat, by omega⟩
        have ha : a ≤ 200000 := by omega
        have hb : b ≤ 200000 := by omega
        have hd : d ≤ 200000 := by omega
        have he9 : e9 ≤ 200000 := by omega
        have i0 : (0 : Int) ≤ (j : Int) := by omega
        have i1 : (j : Int) < (n : Int) := by omega
        have hst := Lib.hid (show X1 ++ (Q.take (j + 1)).flatMap qdB = X1 ++ (Q.take j).flatMap qdB ++ qdT a b d e9 4 by rw [flat_step qdB hx.out, List.append_assoc]; simp [qdB, qdT, List.append_assoc])
        replace hX4 := Lib.hid hX4
        replace hB4 := Lib.hid hB4
        clear g0 g1 g2 g3 hx
        go_wp2_with fail
        clear t0 t1
        go_loopw [6] (fun i wq => ∃ (r : Nat) (A7 : Option Addr) (n7 c7 : Nat) (T7 : List Bool) (b7 : Bool), i = .int .i64 r ∧ r ≤ 4 ∧ WqX wq bw A7 n7 c7 (X1 ++ (Q.take j).flatMap qdB ++ qdT a b d e9 r) T7 b7 ∧ Below w0.heap.size w0 wq) (fun i _ => 4 - (intOf i).toNat)
        case atStart => exact ⟨0, A4, n4, c4, T4, b4, rfl, by omega, by simpa [qdT] using hX4.out, hB4.out⟩
        case round =>
          clear hX4 hB4
          obtain ⟨r, A7, n7, c7, T7, b7, rfl, hr, hX7, hB7⟩ := hrel
          obtain ⟨_, t0, t1, -, -⟩ := (hbt.of hB7).open2
          have d0 := (hB7.cell (p := ⟨bo, o + j * 4, none⟩) hbo).trans cx0
          have d1 := (hB7.cell (p := ⟨bo, o + j * 4 + 1, none⟩) hbo).trans cx1
          have d2 := (hB7.cell (p := ⟨bo, o + j * 4 + 2, none⟩) hbo).trans cx2
          have d3 := (hB7.cell (p := ⟨bo, o + j * 4 + 3, none⟩) hbo).trans cx3
          clear cx0 cx1 cx2 cx3
          have hcase : r = 0 ∨ r = 1 ∨ r = 2 ∨ r = 3 ∨ r = 4 := by omega
          rcases hcase with rfl | rfl | rfl | rfl | rfl
          · have kW := ref55_gamma bw A7 n7 c7 _ T7 b7 _ a hX7 (by omega)
            have hX7h := Lib.hid hX7
            have hB7h := Lib.hid hB7
            clear hX7 hB7
            go_wp2_with fail
            go_at_call 54
            refine kW.mono ?_
            rintro e w8 ⟨A8, n8, c8, T8, b8, rfl, hX8, hK8⟩
            have hB8 := Lib.hid (hX7h.out.go hB7h.out hK8 hwb)
            rw [show X1 ++ (Q.take j).flatMap qdB ++ qdT a b d e9 0 ++ gamB a = X1 ++ (Q.take j).flatMap qdB ++ qdT a b d e9 1 by simp only [qdT, List.append_assoc, List.nil_append]] at hX8
            replace hX8 := Lib.hid hX8
            clear kW hK8 hX7h hB7h t0 t1 d0 d1 d2 d3
            go_wp2_with fail
            go_roundw
            case rel => exact ⟨1, A8, n8, c8, T8, b8, by go_num, by omega, hX8.out, hB8.out⟩
            case measure => simp [intOf]
          · have kW := ref55_gamma bw A7 n7 c7 _ T7 b7 _ b hX7 (by omega)
            have hX7h := Lib.hid hX7
            have hB7h := Lib.hid hB7
            clear hX7 hB7
            go_wp2_with fail
            go_at_call 54
            refine kW.mono ?_
            rintro e w8 ⟨A8, n8, c8, T8, b8, rfl, hX8, hK8⟩
            have hB8 := Lib.hid (hX7h.out.go hB7h.out hK8 hwb)
            rw [show X1 ++ (Q.take j).flatMap qdB ++ qdT a b d e9 1 ++ gamB b = X1 ++ (Q.take j).flatMap qdB ++ qdT a b d e9 2 by simp only [qdT, List.append_assoc, List.nil_append]] at hX8
            replace hX8 := Lib.hid hX8
            clear kW hK8 hX7h hB7h t0 t1 d0 d1 d2 d3
            go_wp2_with fail
            go_roundw
            case rel => exact ⟨2, A8, n8, c8, T8, b8, by go_num, by omega, hX8.out, hB8.out⟩
            case measure => simp [intOf]
          · have kW := ref55_gamma bw A7 n7 c7 _ T7 b7 _ d hX7 (by omega)
            have hX7h := Lib.hid hX7
            have hB7h := Lib.hid hB7
            clear hX7 hB7
            go_wp2_with fail
            go_at_call 54
            refine kW.mono ?_
            rintro e w8 ⟨A8, n8, c8, T8, b8, rfl, hX8, hK8⟩
            have hB8 := Lib.hid (hX7h.out.go hB7h.out hK8 hwb)
            rw [show X1 ++ (Q.take j).flatMap qdB ++ qdT a b d e9 2 ++ gamB d = X1 ++ (Q.take j).flatMap qdB ++ qdT a b d e9 3 by simp only [qdT, List.append_assoc, List.nil_append]] at hX8
            replace hX8 := Lib.hid hX8
            clear kW hK8 hX7h hB7h t0 t1 d0 d1 d2 d3
            go_wp2_with fail
            go_roundw
            case rel => exact ⟨3, A8, n8, c8, T8, b8, by go_num, by omega, hX8.out, hB8.out⟩
            case measure => simp [intOf]
          · have kW := ref55_gamma bw A7 n7 c7 _ T7 b7 _ e9 hX7 (by omega)
            have hX7h := Lib.hid hX7
            have hB7h := Lib.hid hB7
            clear hX7 hB7
            go_wp2_with fail
            go_at_call 54
            refine kW.mono ?_
            rintro e w8 ⟨A8, n8, c8, T8, b8, rfl, hX8, hK8⟩
            have hB8 := Lib.hid (hX7h.out.go hB7h.out hK8 hwb)
            rw [show X1 ++ (Q.take j).flatMap qdB ++ qdT a b d e9 3 ++ gamB e9 = X1 ++ (Q.take j).flatMap qdB ++ qdT a b d e9 4 by simp only [qdT, List.append_assoc, List.nil_append]] at hX8
            replace hX8 := Lib.hid hX8
            clear kW hK8 hX7h hB7h t0 t1 d0 d1 d2 d3
            go_wp2_with fail
            go_roundw
            case rel => exact ⟨4, A8, n8, c8, T8, b8, by go_num, by omega, hX8.out, hB8.out⟩
            case measure => simp [intOf]
          · rw [← hst.out] at hX7
            replace hX7 := Lib.hid hX7
            replace hB7 := Lib.hid hB7
            go_wp2_with fail
            go_roundw
            case rel => exact ⟨j + 1, A7, n7, c7, T7, b7, by go_num, by omega, hX7.out, hB7.out⟩
            case measure => simp [intOf]; omega
      · obtain rfl : j = n := by omega
        have dj : decide ((j : Int) < j) = false := decide_eq_false (by omega)
        have dj' : decide (j < j) = false := decide_eq_false (by omega)
        rw [flat_all qdB hQl.out] at hX4
        replace hX4 := Lib.hid hX4
        replace hB4 := Lib.hid hB4
        go_wp2_with fail
        go_at_call 41
        refine (ref55_done bw A4 n4 c4 _ T4 b4 _ hX4.out).mono ?_
        rintro e w9 ⟨A9, n9, c9, rfl, hR9, hb9⟩
        have hB9 := Lib.hid (below_thru hb0 (below_thru hB4.out hb9))
        replace hR9 := Lib.hid hR9
        go_wp2_with fail
        refine bodyPost_ret (v := .tuple #[.slice A9 n9 c9, .int .i64 (endE (X1 ++ Q.flatMap qdB))]) (by simp [results, Tryz.results23, go_sem, *, ↓IntWalk.iteOmega]) rfl ?_
        exact ⟨A9, n9, c9, rfl, hR9.out, hB9.out⟩
end Go.Proofs.YtmenokhnanghgaaGreat
end
