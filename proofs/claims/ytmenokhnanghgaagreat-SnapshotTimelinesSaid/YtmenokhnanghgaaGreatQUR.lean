/- quad's New, Load, Right. quad's Load and Right. -/
import Derived.Test.YtmenokhnanghgaaGreatQudJ
set_option linter.unusedSimpArgs false
set_option linter.unusedVariables false
section
namespace Go.Proofs.YtmenokhnanghgaaGreat
open Go Go.RowKit
set_option maxRecDepth 100000
theorem run_makeQ4 (w : World) : (Instr.makeMap 183 none).run Tryz.prog w = .ok (.map (some w.heap.size)) (w.alloc (.map #[] 0)) := by
  have u := Tryz.underlying183
  simp [Instr.makeMap, go_sem, u]
set_option maxHeartbeats 4000000 in
theorem quad_New (st : Int) (hst : 2 ≤ st ∧ st ≤ 8) (w : World) :
    Calls Tryz.prog 126 #[.int .i64 st] w fun e w' => e = .returned (.tuple #[.pointer (some ⟨w.heap.size + 1, 0, none⟩), .int .i64 0]) ∧ QSt w' (w.heap.size + 1) w.heap.size st none 0 0 none 0 [] [] (fun _ => none) ∧ Below w.heap.size w w' := by
  have d1 : decide (st < 2) = false := decide_eq_false (by omega)
  have d2 : decide (8 < st) = false := decide_eq_false (by omega)
  go_enter Tryz.func126, Tryz.ntmps126
  go_wp2_with fail
  rw [run_makeQ4]
  have hm0 := MK.At.made mkQ4 w
  obtain ⟨w1, hw1⟩ : ∃ w1, w1 = w.alloc (.map #[] 0) := ⟨_, rfl⟩
  have hb1 : Below w.heap.size w w1 := by rw [hw1]; exact (Below.refl _ _).alloc (Nat.le_refl _) _
  have hz1 : w1.heap.size = w.heap.size + 1 := by rw [hw1]; simp
  rw [← hw1] at hm0 ⊢
  clear hw1
  obtain ⟨w2, hw2⟩ : ∃ w2, w2 = w1.alloc (.cells #[.int .i64 st, .slice none 0 0, .slice none 0 0, .map (some w.heap.size)] 185) := ⟨_, rfl⟩
  have hb2 : Below w1.heap.size w1 w2 := by rw [hw2]; exact (Below.refl _ _).alloc (Nat.le_refl _) _
  have hx : BxW w2 (w.heap.size + 1) [.int .i64 st, .slice none 0 0, .slice none 0 0, .map (some w.heap.size)] := by rw [hw2, ← hz1]; exact BxW.new w1 [_, _, _, _] _
  have hQ : QSt w2 (w.heap.size + 1) w.heap.size st none 0 0 none 0 [] [] (fun _ => none) := ⟨hx, Own.nil_, Own.nil_, hm0.of hb2, by omega⟩
  have hB := Lib.hid (hb1.trans (hb2.mono (by omega)))
  replace hQ := Lib.hid hQ
  clear hx hb1 hb2 hm0
  go_wp2_with fail
  try simp only [hz1]
  rw [← hw2]
  clear hw2
  refine bodyPost_ret (v := .tuple #[.pointer (some ⟨w.heap.size + 1, 0, none⟩), .int .i64 0]) (by simp [results, Tryz.results126, go_sem, *, ↓IntWalk.iteOmega]) rfl ?_
  exact ⟨rfl, hQ.out, hB.out⟩
set_option maxHeartbeats 4000000 in
theorem quad_NewN (st : Int) (hst : ¬ (2 ≤ st ∧ st ≤ 8)) (w : World) :
    Calls Tryz.prog 126 #[.int .i64 st] w fun e w' => e = .returned (.tuple #[.pointer none, .int .i64 2]) ∧ Below w.heap.size w w' := by
  by_cases h1 : st < 2
  · have d1 : decide (st < 2) = true := decide_eq_true h1
    go_enter Tryz.func126, Tryz.ntmps126
    go_wp2_with fail
    refine bodyPost_ret (v := .tuple #[.pointer none, .int .i64 2]) (by simp [results, Tryz.results126, go_sem, *, ↓IntWalk.iteOmega]) rfl ?_
    exact ⟨rfl, by (repeat' (first | exact Below.refl _ _ | assumption | (refine Below.alloc ?_ ?_ _) | (refine Below.setCell ?_ ?_ _) | (refine Below.drew ?_) | (refine below_drewN ?_ _) | (refine below_after (Ext.below _) ?_ ?_) | (refine below_after (by assumption) ?_ ?_) | (simp; done) | omega | (simp; omega)))⟩
  · have d1 : decide (st < 2) = false := decide_eq_false h1
    have d2 : decide (8 < st) = true := decide_eq_true (by omega)
    go_enter Tryz.func126, Tryz.ntmps126
    go_wp2_with fail
    refine bodyPost_ret (v := .tuple #[.pointer none, .int .i64 2]) (by simp [results, Tryz.results126, go_sem, *, ↓IntWalk.iteOmega]) rfl ?_
    exact ⟨rfl, by (repeat' (first | exact Below.refl _ _ | assumption | (refine Below.alloc ?_ ?_ _) | (refine Below.setCell ?_ ?_ _) | (refine Below.drew ?_) | (refine below_drewN ?_ _) | (refine below_after (Ext.below _) ?_ ?_) | (refine below_after (by assumption) ?_ ?_) | (simp; done) | omega | (simp; omega)))⟩
end Go.Proofs.YtmenokhnanghgaaGreat
end
section
namespace Go.Proofs.YtmenokhnanghgaaGreat
open Go Go.RowKit
set_option maxRecDepth 100000
/-- A store that holds the first j nodes. -/
structure QLd (w0 : World) (bs mb : Nat) (st : Int) (Q : List Qd) (j : Nat) (wr : World) : Prop where
  s : ∃ NA nc LA lc f, QSt wr bs mb st NA j nc LA lc (Q.take j) (qLv st Q j) f ∧ (∀ k, f k = none ↔ k ∉ Q.take j) ∧ ∀ k v, f k = some v → v < st + j
  ok : ∀ i, i < j → qOk st Q i = true
  b : Below w0.heap.size w0 wr
theorem qOk_no {st : Int} {Q : List Qd} {j : Nat} {x : Qd} {f : Qd → Option Int} (hx : Q[j]? = some x) (hf : ∀ k, f k = none ↔ k ∉ Q.take j) (h : qSt st (qLv st Q j) x = false ∨ f x ≠ none) : qOk st Q j = false := by
  rw [qOk_at hx]
  rcases h with h | h
  · rw [h]; rfl
  · have hm : x ∈ Q.take j := Classical.byContradiction fun k => h ((hf x).2 k)
    rw [List.contains_iff_mem.2 hm]; simp
theorem qOk_ya {st : Int} {Q : List Qd} {j : Nat} {x : Qd} {f : Qd → Option Int} (hx : Q[j]? = some x) (hf : ∀ k, f k = none ↔ k ∉ Q.take j) (h1 : qSt st (qLv st Q j) x = true) (h2 : f x = none) : qOk st Q j = true := by
  rw [qOk_at hx, h1]
  have : (Q.take j).contains x = false := by
    rw [Bool.eq_false_iff]
    intro k
    exact (hf x).1 h2 (List.contains_iff_mem.1 k)
  rw [this]; rfl
theorem putG_mem {Q : List Qd} {j : Nat} {x : Qd} {f : Qd → Option Int} {v : Int} (hx : Q[j]? = some x) (hf : ∀ k, f k = none ↔ k ∉ Q.take j) : ∀ k, putG f x v k = none ↔ k ∉ Q.take (j + 1) := by
  intro k
  rw [List.take_add_one, hx]
  unfold putG
  by_cases e : k = x
  · rw [if_pos e]; simp [e]
  · rw [if_neg e, hf k]; simp [e]
/-- The error of Load. -/
def ldE (st : Int) (Q : List Qd) : Int := if qR st Q = true then 0 else 2
set_option maxHeartbeats 16000000 in
theorem quad_Load (st : Int) (A : Option Addr) (n c : Nat) (Q : List Qd) (w : World) (hR : Rd encQd 4 w A n Q) (hn : n ≤ 9223372036854775807) :
    Calls Tryz.prog 103 #[.agg #[.int .i64 st, .slice A n c]] w fun e w' => (∃ v, e = .returned (.tuple #[v, .int .i64 (ldE st Q)])) ∧ Below w.heap.size w w' := by
  obtain ⟨w0, hw0⟩ : ∃ w0, w0 = w.alloc (.cells #[.int .i64 st, .slice A n c] 46) := ⟨_, rfl⟩
  have hb0 : Below w.heap.size w w0 := by rw [hw0]; exact (Below.refl _ _).alloc (Nat.le_refl _) _
  have hbt : BxW w0 w.heap.size [.int .i64 st, .slice A n c] := by rw [hw0]; exact BxW.new w [.int .i64 st, .slice A n c] _
  have hR0 := Lib.hid (hR.of hb0)
  have hRl := Lib.hid hR.len
  obtain ⟨E, hE⟩ : ∃ E, E = ldE st Q := ⟨_, rfl⟩
  have hEy : qR st Q = true → E = 0 := fun h => by rw [hE]; unfold ldE; rw [if_pos h]
  have hEn : qR st Q = false → E = 2 := fun h => by rw [hE]; unfold ldE; rw [if_neg (by rw [h]; simp)]
  rw [← hE]
  clear hE hR
  obtain ⟨bq, hbq⟩ : ∃ bq, bq = w.heap.size := ⟨_, rfl⟩
  rw [← hbq] at hbt
  have hbq0 := hbt.1
  obtain ⟨_, t0, t1, -, -⟩ := hbt.open2
  have hb0h := Lib.hid hb0
  clear hb0
  by_cases hst : 2 ≤ st ∧ st ≤ 8
  · have kN := quad_New st hst w0
    go_enter Tryz.func103, Tryz.ntmps103
    go_upto_region 1 with (fail)
    rw [← hw0]
    try rw [← hbq]
    clear hw0 hbq
    go_wp2_with fail
    go_at_call 126
    refine kN.mono ?_
    rintro e w1 ⟨rfl, hQ1, hb1⟩
    have t01 := (hb1.cell (p := ⟨bq, 0, none⟩) hbq0).trans t0
    have t11 := (hb1.cell (p := ⟨bq, 1, none⟩) hbq0).trans t1
    have hbq1 := Nat.lt_of_lt_of_le hbq0 hb1.size
    have hB1 := Lib.hid (hb0h.out.trans (hb1.mono hb0h.out.size))
    obtain ⟨bs, hbs⟩ : ∃ bs, bs = w0.heap.size + 1 := ⟨_, rfl⟩
    obtain ⟨mb, hmb⟩ : ∃ mb, mb = w0.heap.size := ⟨_, rfl⟩
    rw [← hbs, ← hmb] at hQ1
    rw [← hbs]
    have hL1 : QLd w0 bs mb st Q 0 w1 := ⟨⟨none, 0, none, 0, fun _ => none, hQ1, fun k => by simp, fun k v h => by cases h⟩, fun i hi => by omega, hb1⟩
    have hmb0 : w0.heap.size ≤ mb := by omega
    replace hL1 := Lib.hid hL1
    clear hbs hmb hQ1 hb1 kN
    by_cases hnn : n ≤ 100000
    · have dn : decide (100000 < (n : Int)) = false := decide_eq_false (by omega)
      go_upto_region 5 with (fail)
      go_loopw [27] (fun v wr => ∃ (j : Nat), v = .int .i64 (j : Int) ∧ j ≤ n ∧ QLd w0 bs mb st Q j wr) (fun v _ => n - (intOf v).toNat)
      case atStart => exact ⟨0, rfl, by omega, hL1.out⟩
      case round =>
        clear hL1 t01 t11 hbq1 hB1
        obtain ⟨j, rfl, hj, hL⟩ := hrel
        have hbr := hL.b
        have s0 := (hbr.cell (p := ⟨bq, 0, none⟩) hbq0).trans t0
        have hbqr := Nat.lt_of_lt_of_le hbq0 hbr.size
        by_cases hlt : j < n
        · have dj : decide ((j : Int) < n) = true := decide_eq_true (by omega)
          have dj' : decide (j < n) = true := decide_eq_true hlt
          obtain ⟨x0, x1, x2, x3, b, o, hx, rfl, hbx, c0, c1, c2, c3⟩ := (hR0.out.of hbr).qd hlt
          obtain ⟨NA, nc, LA, lc, f, hQ, hf1, hf2⟩ := hL.s
          have hok := hL.ok
          have e1 : IntKind.i64.wrap (st + (j : Int)) = st + (j : Int) := IntWalk.i64_in _ (by omega)
          obtain ⟨W, hW⟩ : ∃ W, W = wr.alloc (.cells #[.int .i64 x0, .int .i64 x1, .int .i64 x2, .int .i64 x3] 69) := ⟨_, rfl⟩
          have hbW : Below wr.heap.size wr W := by rw [hW]; exact (Below.refl _ _).alloc (Nat.le_refl _) _
          have hxW : BxW W wr.heap.size [.int .i64 x0, .int .i64 x1, .int .i64 x2, .int .i64 x3] := by rw [hW]; exact BxW.new wr [_, _, _, _] _
          have kJ := quad_Join (hQ.of hbW) hst (show j < 100000 by omega) hf2 x0 x1 x2 x3
          have s0W := (hbW.cell (p := ⟨bq, 0, none⟩) hbqr).trans s0
          obtain ⟨hxz, y0, y1, y2, y3⟩ : wr.heap.size < W.heap.size ∧ W.cell? ⟨wr.heap.size, 0, none⟩ = some (.int .i64 x0) ∧ W.cell? ⟨wr.heap.size, 1, none⟩ = some (.int .i64 x1) ∧ W.cell? ⟨wr.heap.size, 2, none⟩ = some (.int .i64 x2) ∧ W.cell? ⟨wr.heap.size, 3, none⟩ = some (.int .i64 x3) := ⟨hxW.1, hxW.2.1 0, hxW.2.1 1, hxW.2.1 2, hxW.2.1 3⟩
          have hbrW := Lib.hid (hbr.trans (hbW.mono hbr.size))
          have hWz := hbrW.out.size
          clear hQ hL hbr hxW hbW s0
          go_upto_region 7 with (fail)
          rw [← hW]
          clear hW c0 c1 c2 c3
          go_wp2_with fail
          go_at_call 127
          refine kJ.mono ?_
          intro e w5 hjn
          clear kJ y0 y1 y2 y3
          rcases hjn with ⟨hq, hf, rfl, ⟨NA5, nc5, LA5, lc5, hQ5⟩, hb5⟩ | ⟨hbad, v, r, rfl, hvr, hb5⟩
          · have hb5' : Below w0.heap.size w0 w5 := hbrW.out.trans (hb5.mono hmb0)
            have s05 := (hb5'.cell (p := ⟨bq, 0, none⟩) hbq0).trans t0
            have hbq5 := Nat.lt_of_lt_of_le hbq0 hb5'.size
            have hL5 : QLd w0 bs mb st Q (j + 1) w5 := by
              refine ⟨⟨NA5, nc5, LA5, lc5, putG f (x0, x1, x2, x3) (st + (j : Int)), ?_, putG_mem hx.out hf1, ?_⟩, fun i hi => ?_, hb5'⟩
              · rw [show Q.take (j + 1) = Q.take j ++ [(x0, x1, x2, x3)] by rw [List.take_add_one, hx.out]; rfl, qLv_step hx.out]
                exact hQ5
              · intro k v hk
                unfold putG at hk
                by_cases e : k = (x0, x1, x2, x3)
                · rw [if_pos e] at hk; injection hk with hk; omega
                · rw [if_neg e] at hk; have := hf2 k v hk; omega
              · by_cases e : i = j
                · subst e; exact qOk_ya hx.out hf1 hq hf
                · exact hok i (by omega)
            replace hL5 := Lib.hid hL5
            have d5 : (st + (j : Int) != st + (j : Int)) = false := by simp
            clear hQ5 hb5 hb5' hf1 hf2 hok hq hf
            go_wp2_with fail
            go_roundw
            case rel => exact ⟨j + 1, by go_num, by omega, hL5.out⟩
            case measure => simp [intOf]; omega
          · have hb5' : Below w0.heap.size w0 w5 := hbrW.out.trans (hb5.mono hWz)
            have s05 := (hb5'.cell (p := ⟨bq, 0, none⟩) hbq0).trans t0
            have hbq5 := Nat.lt_of_lt_of_le hbq0 hb5'.size
            have hB5 := Lib.hid (hb0h.out.trans (hb5'.mono hb0h.out.size))
            obtain rfl := hEn (qR_bad hRl.out hlt (qOk_no hx.out hf1 hbad))
            clear hb5 hb5' hbad hf1 hf2 hok
            by_cases hr : r = 0
            · subst hr
              have hv : ¬ v = st + (j : Int) := by
                rcases hvr with h | h
                · exact absurd rfl h
                · exact h
              have d5 : (v == st + (j : Int)) = false := by simpa using hv
              have d6 : (v != st + (j : Int)) = true := by simpa using hv
              clear hvr
              go_wp2_with fail
              refine bodyPost_ret (v := .tuple #[.pointer none, .int .i64 2]) (by simp [results, Tryz.results103, go_sem, *, ↓IntWalk.iteOmega]) rfl ?_
              exact ⟨⟨_, rfl⟩, hB5.out⟩
            · have d5 : (r == 0) = false := by simpa using hr
              have d6 : (r != 0) = true := by simpa using hr
              clear hvr
              go_wp2_with fail
              refine bodyPost_ret (v := .tuple #[.pointer none, .int .i64 2]) (by simp [results, Tryz.results103, go_sem, *, ↓IntWalk.iteOmega]) rfl ?_
              exact ⟨⟨_, rfl⟩, hB5.out⟩
        · obtain rfl : j = n := by omega
          have dj : decide ((j : Int) < j) = false := decide_eq_false (by omega)
          have dj' : decide (j < j) = false := decide_eq_false (by omega)
          obtain rfl := hEy (qR_all hst hRl.out hnn hL.ok)
          have hB5 := Lib.hid (hb0h.out.trans (hbr.mono hb0h.out.size))
          go_wp2_with fail
          refine bodyPost_ret (v := .tuple #[.pointer (some ⟨bs, 0, none⟩), .int .i64 0]) (by simp [results, Tryz.results103, go_sem, *, ↓IntWalk.iteOmega]) rfl ?_
          exact ⟨⟨_, rfl⟩, hB5.out⟩
    · have dn : decide (100000 < (n : Int)) = true := decide_eq_true (by omega)
      obtain rfl := hEn (qR_len hRl.out (by omega))
      go_wp2_with fail
      refine bodyPost_ret (v := .tuple #[.pointer none, .int .i64 2]) (by simp [results, Tryz.results103, go_sem, *, ↓IntWalk.iteOmega]) rfl ?_
      exact ⟨⟨_, rfl⟩, hB1.out⟩
  · have kN := quad_NewN st hst w0
    obtain rfl := hEn (qR_states hst)
    go_enter Tryz.func103, Tryz.ntmps103
    go_upto_region 1 with (fail)
    rw [← hw0]
    try rw [← hbq]
    clear hw0 hbq
    go_wp2_with fail
    go_at_call 126
    refine kN.mono ?_
    rintro e w1 ⟨rfl, hb1⟩
    have hB1 := Lib.hid (hb0h.out.trans (hb1.mono hb0h.out.size))
    go_wp2_with fail
    refine bodyPost_ret (v := .tuple #[.pointer none, .int .i64 2]) (by simp [results, Tryz.results103, go_sem, *, ↓IntWalk.iteOmega]) rfl ?_
    exact ⟨⟨_, rfl⟩, hB1.out⟩
set_option maxHeartbeats 4000000 in
theorem quad_Right (st : Int) (A : Option Addr) (n c : Nat) (Q : List Qd) (w : World) (hR : Rd encQd 4 w A n Q) (hn : n ≤ 9223372036854775807) :
    Calls Tryz.prog 63 #[.agg #[.int .i64 st, .slice A n c]] w fun e w' => e = .returned (.bool (qR st Q)) ∧ Below w.heap.size w w' := by
  obtain ⟨w0, hw0⟩ : ∃ w0, w0 = w.alloc (.cells #[.int .i64 st, .slice A n c] 46) := ⟨_, rfl⟩
  have hb0 : Below w.heap.size w w0 := by rw [hw0]; exact (Below.refl _ _).alloc (Nat.le_refl _) _
  have hbt : BxW w0 w.heap.size [.int .i64 st, .slice A n c] := by rw [hw0]; exact BxW.new w [.int .i64 st, .slice A n c] _
  have kL := quad_Load st A n c Q w0 (hR.of hb0) hn
  obtain ⟨hz0, t0, t1, -, -⟩ := hbt.open2
  have hqv : (ldE st Q == 0) = qR st Q := by unfold ldE; cases qR st Q <;> rfl
  generalize ldE st Q = E at kL hqv
  rw [← hqv]
  clear hqv hR hbt
  replace hb0 := Lib.hid hb0
  go_enter Tryz.func63, Tryz.ntmps63
  go_upto_region 1 with (fail)
  rw [← hw0]
  clear hw0
  go_wp2_with fail
  go_at_call 103
  refine kL.mono ?_
  rintro e w1 ⟨⟨v, rfl⟩, hb1⟩
  have hB1 := Lib.hid (hb0.out.trans (hb1.mono hb0.out.size))
  go_wp2_with fail
  go_ret
  exact ⟨rfl, hB1.out⟩
end Go.Proofs.YtmenokhnanghgaaGreat
end
