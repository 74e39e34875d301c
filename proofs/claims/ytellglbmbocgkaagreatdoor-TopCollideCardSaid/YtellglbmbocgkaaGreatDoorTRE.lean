/- The contracts of tree.value and of the reference's Value. The contract of the reference's Value. The contract of tree.Right: the first refusals. The contract of tree.Right: the last node's level, the loops, and all together. The contract of tree.Right: the loops, and all together. The contract of the reference of tree.Right. The contracts of tree.Quiet and its reference. The contracts of the references of tree.Eval (at valid states) and tree.Quiet. -/
import Derived.Test.YtellglbmbocgkaaGreatDoorProg
import Derived.Test.YtellglbmbocgkaaGreatDoorMEM
import Derived.Test.YtellglbmbocgkaaGreatDoorPLN
import Derived.Test.YtellglbmbocgkaaGreatDoorHOO
import Derived.Test.YtellglbmbocgkaaGreatDoorCEL
import Derived.Deep.RegionHeld3
set_option linter.unusedSimpArgs false
set_option linter.unusedVariables false
section
namespace Go.Proofs.YtellglbmbocgkaaGreatDoor
open Go Go.RowKit
set_option maxRecDepth 100000
set_option linter.unusedSimpArgs false
set_option linter.unusedVariables false
/-- The value's walk at j: the node it stands at, the state it reads, and where that leads. -/
theorem val_at {st : Int} {H : List (Int × Int)} {N : List (Int × List Int)} {ins : List Int} {j q : Nat} (h : trR st H N = true) (hl : ins.length = H.length) (hs : ∀ s ∈ ins, 0 ≤ s ∧ s < st) (hj : j < ins.length) (hq : (q : Int) = valK N ins j) :
    q < N.length ∧ ∃ lv nx s r, N[q]? = some (lv, nx) ∧ ins[j]? = some ((s : Nat) : Int) ∧ s < nx.length ∧ nx[s]? = some ((r : Nat) : Int) ∧ ((r : Nat) : Int) = valK N ins (j + 1) := by
  obtain ⟨i1, i2, _⟩ := valK_inv h hl hs j (by omega)
  obtain ⟨⟨lv, nx⟩, hx, hk, _, hlen⟩ := i2 hj
  obtain ⟨k1, _, _⟩ := valK_inv h hl hs (j + 1) (by omega)
  rw [← hq] at hx hk
  have hx : N[q]? = some (lv, nx) := hx
  have hsj : ins[j]? = some ins[j] := List.getElem?_eq_getElem hj
  obtain ⟨s0, s1⟩ := hs ins[j] (List.getElem_mem _)
  obtain ⟨s, hse⟩ : ∃ s : Nat, ((s : Nat) : Int) = ins[j] := ⟨(ins[j]).toNat, by omega⟩
  obtain ⟨r, hre⟩ : ∃ r : Nat, ((r : Nat) : Int) = valK N ins (j + 1) := ⟨(valK N ins (j + 1)).toNat, by omega⟩
  simp only at hlen
  have hlt : s < nx.length := by omega
  refine ⟨by omega, lv, nx, s, r, hx, by rw [hsj, hse], hlt, ?_, hre⟩
  have ht : nx[s]? = some nx[s] := List.getElem?_eq_getElem hlt
  have hv := stepV_at (N := N) (k := (q : Int)) (s := (s : Int)) (x := (lv, nx)) (t := nx[s]) hx ht
  rw [hre, valK_step hsj, ← hq, ← hse, hv]
  exact ht
set_option maxHeartbeats 2000000 in
theorem tree_value (st : Int) (A B C : Option Addr) (n c m d k e : Nat) (H : List (Int × Int)) (N : List (Int × List Int)) (ins : List Int) (w : World) (hN : RdX ekN w B m N) (hI : Rd encI 1 w C k ins) (hk : k ≤ 1000000) (h : trR st H N = true) (hl : ins.length = H.length) (hs : ∀ s ∈ ins, 0 ≤ s ∧ s < st) :
    Calls Tryz.prog 78 #[.agg #[.int .i64 st, .slice A n c, .slice B m d], .slice C k e] w fun e w' => e = .returned (.int .i64 (valT N ins)) ∧ Below w.heap.size w w' := by
  have hm := (trR_parts h).2.2.1
  have hNl := hN.len
  have hIl := hI.len
  rw [hNl] at hm
  have b0 : IntKind.i64.wrap ((m : Int) - 1) = (m : Int) - 1 := IntWalk.i64_in _ (by omega)
  obtain ⟨q0, hq0⟩ : ∃ q0 : Nat, (m : Int) - 1 = q0 := ⟨m - 1, by omega⟩
  have hv0 : (q0 : Int) = valK N ins 0 := by
    show (q0 : Int) = (N.length : Int) - 1
    omega
  replace hq0 := Lib.hid hq0
  replace hv0 := Lib.hid hv0
  replace hNl := Lib.hid hNl
  replace hIl := Lib.hid hIl
  replace hs := Lib.hid hs
  replace hl := Lib.hid hl
  replace h := Lib.hid h
  go_enter Tryz.func78, Tryz.ntmps78
  go_wp2_with fail
  go_loopw [5, 14] (fun v t wr => ∃ j q : Nat, v = .int .i64 q ∧ t = .int .i64 j ∧ j ≤ k ∧ Hid ((q : Int) = valK N ins j) ∧ wr = w.alloc (.cells #[.int .i64 st, .slice A n c, .slice B m d] 25)) (fun _ t _ => k - (intOf t).toNat)
  case atStart => exact ⟨0, q0, by first | exact congrArg (Value.int .i64) hq0.out | exact congrArg (Value.int .i64) hq0.out.symm, rfl, by omega, hv0, rfl⟩
  case round =>
    obtain ⟨j, q, rfl, rfl, hj, hq, rfl⟩ := hrel
    by_cases hlj : j < k
    · have dj : decide ((j : Int) < k) = true := decide_eq_true (by omega)
      obtain ⟨hqm, lv, nx, s, r, hx, hsj, hslt, hr, hre⟩ := val_at h.out hl.out hs.out (by rw [hIl.out]; exact hlj) hq.out
      rw [hNl.out] at hqm
      obtain ⟨x1, bi, oi, hxi, rfl, hbi, hci⟩ := hI.int hlj
      obtain rfl : x1 = (s : Int) := by have := hxi.out; rw [hsj] at this; injection this with this; exact this.symm
      obtain ⟨lv', nx', E, me, ce, b, o, hx', rfl, hb, g1, g2, hE, _⟩ := hN.node hqm
      have e1 := hx'.out
      rw [hx] at e1
      injection e1 with e1
      injection e1 with e1 e2
      subst e1 e2
      have hEl := hE.len
      have hsm : s < me := by omega
      obtain ⟨x2, be, oe, hxe, rfl, hbe, hce⟩ := hE.int hsm
      obtain rfl : x2 = (r : Int) := by have := hxe.out; rw [hr] at this; injection this with this; exact this.symm
      have n1 : (w.alloc (.cells #[.int .i64 st, .slice A n c, .slice (some ⟨b, o, none⟩) m d] 25)).cell? ⟨bi, oi + j, none⟩ = some (.int .i64 s) := by rw [((Below.refl w.heap.size w).alloc (Nat.le_refl _) _).cell (p := ⟨_, _, none⟩) hbi]; exact hci
      have n2 : (w.alloc (.cells #[.int .i64 st, .slice A n c, .slice (some ⟨b, o, none⟩) m d] 25)).cell? ⟨b, o + q * 2 + 1, none⟩ = some (.slice (some ⟨be, oe, none⟩) me ce) := by rw [((Below.refl w.heap.size w).alloc (Nat.le_refl _) _).cell (p := ⟨_, _, none⟩) hb]; exact g2
      have n3 : (w.alloc (.cells #[.int .i64 st, .slice A n c, .slice (some ⟨b, o, none⟩) m d] 25)).cell? ⟨be, oe + s, none⟩ = some (.int .i64 r) := by rw [((Below.refl w.heap.size w).alloc (Nat.le_refl _) _).cell (p := ⟨_, _, none⟩) hbe]; exact hce
      replace hre := Lib.hid hre
      go_wp2
      go_roundw
      case rel => exact ⟨j + 1, r, by first | rfl | skip, by first | go_num | skip, by omega, hre, by first | trivial | rfl⟩
      case measure => simp [intOf]; omega
    · obtain rfl : j = k := by omega
      have dj : decide ((j : Int) < j) = false := decide_eq_false (by omega)
      have hE := Lib.hid (show (q : Int) = valT N ins by rw [hq.out, valK_all hIl.out])
      go_wp2
      go_ret
      exact ⟨ret_int hE.out, by (repeat' (first | exact Below.refl _ _ | assumption | (refine Below.alloc ?_ ?_ _) | (refine Below.setCell ?_ ?_ _) | (refine Below.drew ?_) | (refine below_drewN ?_ _) | (refine below_after (Ext.below _) ?_ ?_) | (refine below_after (by assumption) ?_ ?_) | (simp; done) | omega | (simp; omega)))⟩
end Go.Proofs.YtellglbmbocgkaaGreatDoor
end
section
namespace Go.Proofs.YtellglbmbocgkaaGreatDoor
open Go Go.RowKit
set_option maxRecDepth 100000
set_option linter.unusedSimpArgs false
set_option linter.unusedVariables false
/-- A box of three values. -/
def TrAt (w : World) (b : Nat) (x y z : Value) : Prop := b < w.heap.size ∧ w.cell? ⟨b, 0, none⟩ = some x ∧ w.cell? ⟨b, 1, none⟩ = some y ∧ w.cell? ⟨b, 2, none⟩ = some z
theorem TrAt.of {w w' : World} {b : Nat} {x y z : Value} (h : TrAt w b x y z) (hb : Below w.heap.size w w') : TrAt w' b x y z :=
  ⟨Nat.lt_of_lt_of_le h.1 hb.size, by rw [hb.cell (p := ⟨_, _, none⟩) h.1]; exact h.2.1, by rw [hb.cell (p := ⟨_, _, none⟩) h.1]; exact h.2.2.1, by rw [hb.cell (p := ⟨_, _, none⟩) h.1]; exact h.2.2.2⟩
theorem TrAt.new (w : World) (x y z : Value) (t : TypeId) : TrAt (w.alloc (.cells #[x, y, z] t)) w.heap.size x y z := by
  refine ⟨by simp, ?_, ?_, ?_⟩ <;> simp [cell_alloc_if]
set_option maxHeartbeats 2000000 in
theorem ref_Value (st : Int) (A B C : Option Addr) (n c m d k e : Nat) (H : List (Int × Int)) (N : List (Int × List Int)) (ins : List Int) (w : World) (hN : RdX ekN w B m N) (hI : Rd encI 1 w C k ins) (hk : k ≤ 1000000) (h : trR st H N = true) (hl : ins.length = H.length) (hs : ∀ s ∈ ins, 0 ≤ s ∧ s < st) :
    Calls Tryz.prog 143 #[.agg #[.int .i64 st, .slice A n c, .slice B m d], .slice C k e] w fun e w' => e = .returned (.int .i64 (valT N ins)) ∧ Below w.heap.size w w' := by
  have hm := (trR_parts h).2.2.1
  have hNl := hN.len
  have hIl := hI.len
  rw [hNl] at hm
  have b0 : IntKind.i64.wrap ((m : Int) - 1) = (m : Int) - 1 := IntWalk.i64_in _ (by omega)
  obtain ⟨q0, hq0⟩ : ∃ q0 : Nat, (m : Int) - 1 = q0 := ⟨m - 1, by omega⟩
  have hv0 : (q0 : Int) = valK N ins 0 := by
    show (q0 : Int) = (N.length : Int) - 1
    omega
  replace hq0 := Lib.hid hq0
  replace hv0 := Lib.hid hv0
  replace hNl := Lib.hid hNl
  replace hIl := Lib.hid hIl
  replace hs := Lib.hid hs
  replace hl := Lib.hid hl
  replace h := Lib.hid h
  go_enter Tryz.func143, Tryz.ntmps143
  go_wp2_with fail
  have hbx := TrAt.new w (.int .i64 st) (.slice A n c) (.slice B m d) 25
  have hbe : Below w.heap.size w (w.alloc (.cells #[.int .i64 st, .slice A n c, .slice B m d] 25)) := (Below.refl _ _).alloc (Nat.le_refl _) _
  obtain ⟨we, hwe⟩ : ∃ we, we = w.alloc (.cells #[.int .i64 st, .slice A n c, .slice B m d] 25) := ⟨_, rfl⟩
  rw [← hwe] at hbx hbe ⊢
  have hN := hN.of hbe
  have hI := hI.of hbe
  clear hwe
  go_loopw [5, 6] (fun v t wr => ∃ j q : Nat, v = .int .i64 q ∧ t = .int .i64 j ∧ j ≤ k ∧ Hid ((q : Int) = valK N ins j) ∧ Below we.heap.size we wr) (fun _ t _ => k - (intOf t).toNat)
  case atStart => exact ⟨0, q0, by first | exact congrArg (Value.int .i64) hq0.out | exact congrArg (Value.int .i64) hq0.out.symm, rfl, by omega, hv0, Below.refl _ _⟩
  case round =>
    obtain ⟨j, q, rfl, rfl, hj, hq, hb⟩ := hrel
    have hsz := hb.size
    obtain ⟨hbs, t0, t1, t2⟩ := hbx.of hb
    by_cases hlj : j < k
    · have dj : decide ((j : Int) < k) = true := decide_eq_true (by omega)
      obtain ⟨hqm, lv, nx, s, r, hx, hsj, hslt, hr, hre⟩ := val_at h.out hl.out hs.out (by rw [hIl.out]; exact hlj) hq.out
      rw [hNl.out] at hqm
      obtain ⟨x1, bi, oi, hxi, rfl, hbi, hci⟩ := (hI.of hb).int hlj
      obtain rfl : x1 = (s : Int) := by have := hxi.out; rw [hsj] at this; injection this with this; exact this.symm
      obtain ⟨lv', nx', E, me, ce, b, o, hx', rfl, hbl, g1, g2, hE, _⟩ := (hN.of hb).node hqm
      have e1 := hx'.out
      rw [hx] at e1
      injection e1 with e1
      injection e1 with e1 e2
      subst e1 e2
      have hEl := hE.len
      have hsm : s < me := by omega
      obtain ⟨x2, be, oe, hxe, rfl, hbl2, hce⟩ := hE.int hsm
      obtain rfl : x2 = (r : Int) := by have := hxe.out; rw [hr] at this; injection this with this; exact this.symm
      replace hre := Lib.hid hre
      clear hx hsj hr hx' hxi hxe
      go_wp2_with fail
      (refine wp_region_ext_lit (by kernel_rfl) (by kernel_rfl) ?_; (repeat (go_big_quiet_step (fail))); refine wpQuiet_nil ?_; intro _ hw'; obtain ⟨z1, hw''⟩ := hw'; subst hw''; have hs1 := z1.size; obtain ⟨hc1, hf1⟩ := bcell z1.below; (try simp only [World.size_alloc, World.size_setCell, World.size_drew] at hc1 hf1); (try simp at hs1))
      go_wp2_with fail
      go_roundw
      case rel => exact ⟨j + 1, r, by first | rfl | trivial, by go_num, by omega, hre, by (repeat' (first | exact Below.refl _ _ | assumption | (refine Below.alloc ?_ ?_ _) | (refine Below.setCell ?_ ?_ _) | (refine Below.drew ?_) | (refine below_drewN ?_ _) | (refine below_after (Ext.below _) ?_ ?_) | (refine below_after (by assumption) ?_ ?_) | (simp; done) | omega | (simp; omega)))⟩
      case measure => simp [intOf]; omega
    · obtain rfl : j = k := by omega
      have dj : decide ((j : Int) < j) = false := decide_eq_false (by omega)
      have hE := Lib.hid (show (q : Int) = valT N ins by rw [hq.out, valK_all hIl.out])
      have hfin := below_thru hbe hb
      go_wp2_with fail
      go_ret
      exact ⟨ret_int hE.out, hfin⟩
end Go.Proofs.YtellglbmbocgkaaGreatDoor
end
section
namespace Go.Proofs.YtellglbmbocgkaaGreatDoor
open Go Go.RowKit
set_option maxRecDepth 100000
set_option linter.unusedSimpArgs false
set_option linter.unusedVariables false
set_option maxHeartbeats 2000000 in
theorem tree_Right_head (st : Int) (A B : Option Addr) (n c m d : Nat) (H : List (Int × Int)) (N : List (Int × List Int)) (w : World) (hH : Rd encP 2 w A n H) (hN : RdX ekN w B m N) (hbad : st < 2 ∨ 8 < st ∨ rightL H = false ∨ m < 1 ∨ 4096 < m) :
    Calls Tryz.prog 77 #[.agg #[.int .i64 st, .slice A n c, .slice B m d]] w fun e w' => e = .returned (.bool (trR st H N)) ∧ Below w.heap.size w w' := by
  have hNl := hN.len
  have HE := Lib.hid (show trR st H N = false by
    rcases hbad with h | h | h | h | h
    · exact trR_states (.inl h)
    · exact trR_states (.inr h)
    · exact trR_hood h
    · exact trR_size hNl (.inl h)
    · exact trR_size hNl (.inr h))
  rcases (show (decide (st < 2) = true) ∨ (decide (st < 2) = false ∧ decide (8 < st) = true) ∨ (decide (st < 2) = false ∧ decide (8 < st) = false ∧ rightL H = false) ∨
      (decide (st < 2) = false ∧ decide (8 < st) = false ∧ rightL H = true ∧ decide ((m : Int) < 1) = true) ∨ (decide (st < 2) = false ∧ decide (8 < st) = false ∧ rightL H = true ∧ decide ((m : Int) < 1) = false ∧ decide (4096 < (m : Int)) = true) by
    simp only [decide_eq_true_eq, decide_eq_false_iff_not]
    cases hr : rightL H with
    | false => simp only [true_and, Bool.false_eq_true, false_and, or_false, and_true]; omega
    | true => rw [hr] at hbad; simp only [Bool.true_eq_false, false_or] at hbad; simp only [Bool.true_eq_false, and_false, true_and]; omega) with d1 | ⟨d1, d2⟩ | ⟨d1, d2, hr⟩ | ⟨d1, d2, hr, d3⟩ | ⟨d1, d2, hr, d3, d4⟩
  all_goals
    have kH := fun w1 h1 => hood_Right A n c H w1 h1
    (try rw [hr] at kH)
    (try clear hr)
    clear hbad hNl
    go_enter Tryz.func77, Tryz.ntmps77
    go_wp2_with fail
    (refine wp_region_ext_lit (by kernel_rfl) (by kernel_rfl) ?_; (repeat (go_big_quiet_step ((go_at_call 138; exact calls_ext (kH _ (hH.of (by (repeat' (first | exact Below.refl _ _ | assumption | (refine Below.alloc ?_ ?_ _) | (refine Below.setCell ?_ ?_ _) | (refine Below.drew ?_) | (refine below_drewN ?_ _) | (refine below_after (Ext.below _) ?_ ?_) | (refine below_after (by assumption) ?_ ?_) | (simp; done) | omega | (simp; omega)))))))))); refine wpQuiet_nil ?_; intro _ hw'; obtain ⟨z1, hw''⟩ := hw'; subst hw''; have hs1 := z1.size; obtain ⟨hc1, hf1⟩ := bcell z1.below; (try simp only [World.size_alloc, World.size_setCell, World.size_drew] at hc1 hf1); (try simp at hs1))
    go_wp2_with fail
    go_ret
    exact ⟨ret_bool HE.out.symm, by (repeat' (first | exact Below.refl _ _ | assumption | (refine Below.alloc ?_ ?_ _) | (refine Below.setCell ?_ ?_ _) | (refine Below.drew ?_) | (refine below_drewN ?_ _) | (refine below_after (Ext.below _) ?_ ?_) | (refine below_after (by assumption) ?_ ?_) | (simp; done) | omega | (simp; omega)))⟩
end Go.Proofs.YtellglbmbocgkaaGreatDoor
end
section
namespace Go.Proofs.YtellglbmbocgkaaGreatDoor
open Go Go.RowKit
set_option maxRecDepth 100000
set_option linter.unusedSimpArgs false
set_option linter.unusedVariables false
/-- A box of two values. -/
def DuAt (w : World) (b : Nat) (x y : Value) : Prop := b < w.heap.size ∧ w.cell? ⟨b, 0, none⟩ = some x ∧ w.cell? ⟨b, 1, none⟩ = some y
theorem DuAt.of {w w' : World} {b : Nat} {x y : Value} (h : DuAt w b x y) (hb : Below w.heap.size w w') : DuAt w' b x y :=
  ⟨Nat.lt_of_lt_of_le h.1 hb.size, by rw [hb.cell (p := ⟨_, _, none⟩) h.1]; exact h.2.1, by rw [hb.cell (p := ⟨_, _, none⟩) h.1]; exact h.2.2⟩
theorem DuAt.new (w : World) (x y : Value) (t : TypeId) : DuAt (w.alloc (.cells #[x, y] t)) w.heap.size x y := by
  refine ⟨by simp, ?_, ?_⟩ <;> simp [cell_alloc_if]
theorem last_lv {N : List (Int × List Int)} {q : Nat} {lv : Int} {nx : List Int} (hl : N.length = q + 1) (h : N[q]? = some (lv, nx)) : lastLv N = lv := by
  unfold lastLv; rw [hl, show q + 1 - 1 = q by omega, h]; rfl
set_option maxHeartbeats 2000000 in
theorem tree_Right_last (st : Int) (A B : Option Addr) (n c m d : Nat) (H : List (Int × Int)) (N : List (Int × List Int)) (w : World) (hH : Rd encP 2 w A n H) (hN : RdX ekN w B m N) (h1 : 2 ≤ st) (h2 : st ≤ 8) (hr : rightL H = true) (h3 : 1 ≤ m) (h4 : m ≤ 4096) (hbad : lastLv N ≠ n) :
    Calls Tryz.prog 77 #[.agg #[.int .i64 st, .slice A n c, .slice B m d]] w fun e w' => e = .returned (.bool (trR st H N)) ∧ Below w.heap.size w w' := by
  have hNl := hN.len
  have hHl := hH.len
  obtain ⟨q, rfl⟩ : ∃ q, m = q + 1 := ⟨m - 1, by omega⟩
  obtain ⟨lv, nx, E, me, ce, b, o, hx, rfl, hb, g1, g2, _, _⟩ := hN.node (i := q) (by omega)
  have hlast := last_lv hNl hx.out
  have HE := Lib.hid (show trR st H N = false from trR_last (x := (lv, nx)) hNl hx.out hHl (by rw [hlast] at hbad; exact hbad))
  have d1 : decide (st < 2) = false := decide_eq_false (by omega)
  have d2 : decide (8 < st) = false := decide_eq_false (by omega)
  have d3 : decide (((q + 1 : Nat) : Int) < 1) = false := decide_eq_false (by omega)
  have d3' : decide ((q : Int) + 1 < 1) = false := decide_eq_false (by omega)
  have d4 : decide (4096 < ((q + 1 : Nat) : Int)) = false := decide_eq_false (by omega)
  have d4' : decide (4096 < (q : Int) + 1) = false := decide_eq_false (by omega)
  have b0 : IntKind.i64.wrap ((q : Int) + 1 - 1) = (q : Int) := by rw [IntWalk.i64_in _ (by omega)]; omega
  have d5 : (lv == (n : Int)) = false := by rw [hlast] at hbad; simpa using hbad
  have d6 : (lv != (n : Int)) = true := by rw [hlast] at hbad; simpa using hbad
  have kH := fun w1 h1 => hood_Right A n c H w1 h1
  rw [hr] at kH
  clear hr hbad hlast hNl hHl hx
  go_enter Tryz.func77, Tryz.ntmps77
  go_wp2_with fail
  (refine wp_region_ext_lit (by kernel_rfl) (by kernel_rfl) ?_; (repeat (go_big_quiet_step ((go_at_call 138; exact calls_ext (kH _ (hH.of (by (repeat' (first | exact Below.refl _ _ | assumption | (refine Below.alloc ?_ ?_ _) | (refine Below.setCell ?_ ?_ _) | (refine Below.drew ?_) | (refine below_drewN ?_ _) | (refine below_after (Ext.below _) ?_ ?_) | (refine below_after (by assumption) ?_ ?_) | (simp; done) | omega | (simp; omega)))))))))); refine wpQuiet_nil ?_; intro _ hw'; obtain ⟨z1, hw''⟩ := hw'; subst hw''; have hs1 := z1.size; obtain ⟨hc1, hf1⟩ := bcell z1.below; (try simp only [World.size_alloc, World.size_setCell, World.size_drew] at hc1 hf1); (try simp at hs1))
  go_wp2_with fail
  go_ret
  exact ⟨ret_bool HE.out.symm, by (repeat' (first | exact Below.refl _ _ | assumption | (refine Below.alloc ?_ ?_ _) | (refine Below.setCell ?_ ?_ _) | (refine Below.drew ?_) | (refine below_drewN ?_ _) | (refine below_after (Ext.below _) ?_ ?_) | (refine below_after (by assumption) ?_ ?_) | (simp; done) | omega | (simp; omega)))⟩
end Go.Proofs.YtellglbmbocgkaaGreatDoor
end
section
namespace Go.Proofs.YtellglbmbocgkaaGreatDoor
open Go Go.RowKit
set_option maxRecDepth 100000
set_option linter.unusedSimpArgs false
set_option linter.unusedVariables false
set_option maxHeartbeats 8000000 in
theorem tree_Right_main (st : Int) (A B : Option Addr) (n c m d : Nat) (H : List (Int × Int)) (N : List (Int × List Int)) (w : World) (hH : Rd encP 2 w A n H) (hN : RdX ekN w B m N) (h1 : 2 ≤ st) (h2 : st ≤ 8) (hr : rightL H = true) (h3 : 1 ≤ m) (h4 : m ≤ 4096) (hlv : lastLv N = n) :
    Calls Tryz.prog 77 #[.agg #[.int .i64 st, .slice A n c, .slice B m d]] w fun e w' => e = .returned (.bool (trR st H N)) ∧ Below w.heap.size w w' := by
  have hNl := hN.len
  have hHl := hH.len
  have hn25 : n ≤ 25 := by rw [← hHl]; exact (hood_in hr).1
  obtain ⟨q, rfl⟩ : ∃ q, m = q + 1 := ⟨m - 1, by omega⟩
  obtain ⟨lv0, nx0, E0, me0, ce0, b0, o0, hx0, rfl, hb0, g10, g20, _, _⟩ := hN.node (i := q) (by omega)
  have hlast := last_lv hNl hx0.out
  obtain rfl : lv0 = (n : Int) := by rw [← hlast]; exact hlv
  have HT := Lib.hid (fun (h5 : ∀ i, i < q + 1 → ndOk st n N i = true) => trR_all (st := st) (H := H) (x := ((n : Int), nx0)) ⟨h1, h2⟩ hr hNl ⟨h3, h4⟩ hx0.out hHl rfl h5)
  have HF := Lib.hid (fun (i : Nat) (hi : i < q + 1) (h : ndOk st n N i = false) => trR_node (st := st) (H := H) (N := N) (i := i) (by rw [hNl]; exact hi) (by rw [hHl]; exact h))
  have d1 : decide (st < 2) = false := decide_eq_false (by omega)
  have d2 : decide (8 < st) = false := decide_eq_false (by omega)
  have d3 : decide (((q + 1 : Nat) : Int) < 1) = false := decide_eq_false (by omega)
  have d3' : decide ((q : Int) + 1 < 1) = false := decide_eq_false (by omega)
  have d4 : decide (4096 < ((q + 1 : Nat) : Int)) = false := decide_eq_false (by omega)
  have d4' : decide (4096 < (q : Int) + 1) = false := decide_eq_false (by omega)
  have b0w : IntKind.i64.wrap ((q : Int) + 1 - 1) = (q : Int) := by rw [IntWalk.i64_in _ (by omega)]; omega
  have d5 : ((n : Int) == (n : Int)) = true := by simp
  have d6 : ((n : Int) != (n : Int)) = false := by simp
  have kH := fun w1 h1 => hood_Right A n c H w1 h1
  rw [hr] at kH
  clear hr hlast hlv hx0
  replace hNl := Lib.hid hNl
  replace hHl := Lib.hid hHl
  go_enter Tryz.func77, Tryz.ntmps77
  go_wp2_with fail
  have hbx := TrAt.new w (.int .i64 st) (.slice A n c) (.slice (some ⟨b0, o0, none⟩) (q + 1) d) 25
  have hbe : Below w.heap.size w (w.alloc (.cells #[.int .i64 st, .slice A n c, .slice (some ⟨b0, o0, none⟩) (q + 1) d] 25)) := (Below.refl _ _).alloc (Nat.le_refl _) _
  obtain ⟨we, hwe⟩ : ∃ we, we = w.alloc (.cells #[.int .i64 st, .slice A n c, .slice (some ⟨b0, o0, none⟩) (q + 1) d] 25) := ⟨_, rfl⟩
  rw [← hwe] at hbx hbe ⊢
  replace hH := hH.of hbe
  replace hN := hN.of hbe
  have g10e : we.cell? ⟨b0, o0 + q * 2, none⟩ = some (.int .i64 (n : Int)) := by rw [hbe.cell (p := ⟨_, _, none⟩) hb0]; exact g10
  have hb0e : b0 < we.heap.size := Nat.lt_of_lt_of_le hb0 hbe.size
  clear hwe g10 g20 hb0
  obtain ⟨hbs, t0, t1, t2⟩ := hbx
  (refine wp_region_ext_lit (by kernel_rfl) (by kernel_rfl) ?_; (repeat (go_big_quiet_step ((go_at_call 138; exact calls_ext (kH _ (hH.of (by (repeat' (first | exact Below.refl _ _ | assumption | (refine Below.alloc ?_ ?_ _) | (refine Below.setCell ?_ ?_ _) | (refine Below.drew ?_) | (refine below_drewN ?_ _) | (refine below_after (Ext.below _) ?_ ?_) | (refine below_after (by assumption) ?_ ?_) | (simp; done) | omega | (simp; omega)))))))))); refine wpQuiet_nil ?_; intro _ hw'; obtain ⟨z1, hw''⟩ := hw'; subst hw''; have hs1 := z1.size; obtain ⟨hc1, hf1⟩ := bcell z1.below; (try simp only [World.size_alloc, World.size_setCell, World.size_drew] at hc1 hf1); (try simp at hs1))
  have hB0 : Below we.heap.size we z1.world := z1.below
  obtain ⟨wr0, hwr0⟩ : ∃ wr0, wr0 = z1.world := ⟨_, rfl⟩
  rw [← hwr0] at hB0 ⊢
  have hc0 := (bcell hB0).1
  have hf0 := (bcell hB0).2
  have hs0 := hB0.size
  clear hwr0 hc1 hf1 hs1 z1
  go_wp2_with fail
  clear kH d1 d2 d3 d3' d4 d4' b0w d5 d6 g10e hc0 hf0
  go_loopw [49] (fun t wr => ∃ j : Nat, t = .int .i64 j ∧ j ≤ q + 1 ∧ Below we.heap.size we wr ∧ Hid (∀ i, i < j → ndOk st n N i = true)) (fun t _ => q + 1 - (intOf t).toNat)
  case atStart => exact ⟨0, rfl, by omega, hB0, Lib.hid fun i hi => absurd hi (by omega)⟩
  case round =>
    clear hB0 hs0
    obtain ⟨j, rfl, hj, hb, hok⟩ := hrel
    have hsz := hb.size
    obtain ⟨hbsr, u0, u1, u2⟩ := (show TrAt we w.heap.size _ _ _ from ⟨hbs, t0, t1, t2⟩).of hb
    by_cases hlj : j < q + 1
    · have dj : decide ((j : Int) < (q : Int) + 1) = true := decide_eq_true (by omega)
      have dj' : decide (j < q + 1) = true := decide_eq_true (by omega)
      obtain ⟨lv, nx, E, me, ce, b, o, hx, hAe, hbl, g1, g2, hE, _⟩ := (hN.of hb).node hlj
      injection hAe with hAe
      injection hAe with e1 e2
      subst e1 e2
      have hEl := hE.len
      rcases (show (lv < 1 ∨ (n : Int) < lv ∨ (me : Int) ≠ st) ∨ (1 ≤ lv ∧ lv ≤ n ∧ (me : Int) = st) by omega) with hbad | ⟨l1, l2, l3⟩
      · have HE := Lib.hid (HF.out j hlj (ndOk_head hx.out (by simp only; rw [hEl]; exact hbad)))
        have hways : decide (lv < 1) = true ∨ (decide (lv < 1) = false ∧ decide ((n : Int) < lv) = true) ∨ (decide (lv < 1) = false ∧ decide ((n : Int) < lv) = false ∧ ((me : Int) == st) = false ∧ ((me : Int) != st) = true) := by
          simp only [decide_eq_true_eq, decide_eq_false_iff_not, beq_eq_false_iff_ne, bne_iff_ne]; omega
        clear hbad hx hEl hE
        rcases hways with e1 | ⟨e1, e2⟩ | ⟨e1, e2, e3, e4⟩
        all_goals
          go_wp2_with fail
          go_ret
          exact ⟨ret_bool HE.out.symm, by (repeat' (first | exact Below.refl _ _ | assumption | (refine Below.alloc ?_ ?_ _) | (refine Below.setCell ?_ ?_ _) | (refine Below.drew ?_) | (refine below_drewN ?_ _) | (refine below_after (Ext.below _) ?_ ?_) | (refine below_after (by assumption) ?_ ?_) | (simp; done) | omega | (simp; omega)))⟩
      · subst l3
        have e1 : decide (lv < 1) = false := decide_eq_false (by omega)
        have e2 : decide ((n : Int) < lv) = false := decide_eq_false (by omega)
        have e3 : ((me : Int) == (me : Int)) = true := by simp
        have e4 : ((me : Int) != (me : Int)) = false := by simp
        have hln := hx.out
        replace hx := Lib.hid hln
        clear hln
        replace hEl := Lib.hid hEl
        go_wp2_with fail
        have hdu := DuAt.new wr (.int .i64 lv) (.slice E me ce) 101
        have hbd : Below wr.heap.size wr (wr.alloc (.cells #[.int .i64 lv, .slice E me ce] 101)) := (Below.refl _ _).alloc (Nat.le_refl _) _
        obtain ⟨wa, hwa⟩ : ∃ wa, wa = wr.alloc (.cells #[.int .i64 lv, .slice E me ce] 101) := ⟨_, rfl⟩
        rw [← hwa] at hdu hbd ⊢
        have hba : Below we.heap.size we wa := below_thru hb hbd
        replace hE := hE.of hbd
        clear hwa e1 e2 e3 e4 g1 g2 dj dj'
        go_loopw [76] (fun t wq => ∃ k : Nat, t = .int .i64 k ∧ k ≤ me ∧ Below wa.heap.size wa wq ∧ Hid (∀ k' x, k' < k → nx[k']? = some x → nxOk me N lv j x = true)) (fun t _ => me - (intOf t).toNat)
        case atStart => exact ⟨0, rfl, by omega, Below.refl _ _, Lib.hid fun k' x hk' => absurd hk' (by omega)⟩
        case round =>
          obtain ⟨k, rfl, hk, hbq, hoq⟩ := hrel
          have hsq := hbq.size
          have hsa := hba.size
          have hbw : Below we.heap.size we wr := below_thru hba hbq
          have hfin : Below w.heap.size w wr := below_thru hbe hbw
          obtain ⟨hbt, v0, v1, v2⟩ := (show TrAt we w.heap.size _ _ _ from ⟨hbs, t0, t1, t2⟩).of hbw
          obtain ⟨hbn, n0, n1⟩ := hdu.of hbq
          by_cases hlk : k < me
          · have dk : decide ((k : Int) < me) = true := decide_eq_true (by omega)
            obtain ⟨x2, be, oe, hxe, rfl, hbe2, hce⟩ := (hE.of hbq).int hlk
            rcases (show x2 < 0 ∨ (0 ≤ x2 ∧ lv = 1 ∧ (me : Int) ≤ x2) ∨ (0 ≤ x2 ∧ 1 < lv ∧ (j : Int) ≤ x2) ∨ (0 ≤ x2 ∧ lv = 1 ∧ x2 < me) ∨ (0 ≤ x2 ∧ 1 < lv ∧ x2 < j) by omega) with c1 | ⟨c1, rfl, c3⟩ | ⟨c1, c2, c3⟩ | ⟨c1, rfl, c3⟩ | ⟨c1, c2, c3⟩
            · have HE := Lib.hid (HF.out j hlj (ndOk_elem hx.out hxe.out (nxOk_neg c1)))
              have f1 : decide (x2 < 0) = true := decide_eq_true c1
              clear hxe
              go_wp2_with fail
              (refine wp_region_ext_lit (by kernel_rfl) (by kernel_rfl) ?_; (repeat (go_big_quiet_step (fail))); refine wpQuiet_nil ?_; intro _ hw'; obtain ⟨z3, hw''⟩ := hw'; subst hw''; have hs3 := z3.size; obtain ⟨hc3, hf3⟩ := bcell z3.below; (try simp only [World.size_alloc, World.size_setCell, World.size_drew] at hc3 hf3); (try simp at hs3))
              go_wp2_with fail
              go_ret
              exact ⟨ret_bool HE.out.symm, by (repeat' (first | exact Below.refl _ _ | assumption | (refine Below.alloc ?_ ?_ _) | (refine Below.setCell ?_ ?_ _) | (refine Below.drew ?_) | (refine below_drewN ?_ _) | (refine below_after (Ext.below _) ?_ ?_) | (refine below_after (by assumption) ?_ ?_) | (simp; done) | omega | (simp; omega)))⟩
            · have HE := Lib.hid (HF.out j hlj (ndOk_elem hx.out hxe.out (by simp only; rw [nxOk_leaf c1]; exact decide_eq_false (by omega))))
              have f1 : decide (x2 < 0) = false := decide_eq_false (by omega)
              have f2 : decide ((me : Int) ≤ x2) = true := decide_eq_true c3
              clear hxe
              go_wp2_with fail
              (refine wp_region_ext_lit (by kernel_rfl) (by kernel_rfl) ?_; (repeat (go_big_quiet_step (fail))); refine wpQuiet_nil ?_; intro _ hw'; obtain ⟨z3, hw''⟩ := hw'; subst hw''; have hs3 := z3.size; obtain ⟨hc3, hf3⟩ := bcell z3.below; (try simp only [World.size_alloc, World.size_setCell, World.size_drew] at hc3 hf3); (try simp at hs3))
              go_wp2_with fail
              go_ret
              exact ⟨ret_bool HE.out.symm, by (repeat' (first | exact Below.refl _ _ | assumption | (refine Below.alloc ?_ ?_ _) | (refine Below.setCell ?_ ?_ _) | (refine Below.drew ?_) | (refine below_drewN ?_ _) | (refine below_after (Ext.below _) ?_ ?_) | (refine below_after (by assumption) ?_ ?_) | (simp; done) | omega | (simp; omega)))⟩
            · have HE := Lib.hid (HF.out j hlj (ndOk_elem hx.out hxe.out (nxOk_far c2 c3)))
              have f1 : decide (x2 < 0) = false := decide_eq_false (by omega)
              have f2 : (lv == 1) = false := by simp; omega
              have f3 : decide (1 < lv) = true := decide_eq_true c2
              have f4 : decide ((j : Int) ≤ x2) = true := decide_eq_true c3
              clear hxe
              go_wp2_with fail
              (refine wp_region_ext_lit (by kernel_rfl) (by kernel_rfl) ?_; (repeat (go_big_quiet_step (fail))); refine wpQuiet_nil ?_; intro _ hw'; obtain ⟨z3, hw''⟩ := hw'; subst hw''; have hs3 := z3.size; obtain ⟨hc3, hf3⟩ := bcell z3.below; (try simp only [World.size_alloc, World.size_setCell, World.size_drew] at hc3 hf3); (try simp at hs3))
              go_wp2_with fail
              go_ret
              exact ⟨ret_bool HE.out.symm, by (repeat' (first | exact Below.refl _ _ | assumption | (refine Below.alloc ?_ ?_ _) | (refine Below.setCell ?_ ?_ _) | (refine Below.drew ?_) | (refine below_drewN ?_ _) | (refine below_after (Ext.below _) ?_ ?_) | (refine below_after (by assumption) ?_ ?_) | (simp; done) | omega | (simp; omega)))⟩
            · have HK := Lib.hid (show nxOk me N 1 j x2 = true by rw [nxOk_leaf c1]; exact decide_eq_true c3)
              have f1 : decide (x2 < 0) = false := decide_eq_false (by omega)
              have f2 : decide ((me : Int) ≤ x2) = false := decide_eq_false (by omega)
              go_wp2_with fail
              (refine wp_region_ext_lit (by kernel_rfl) (by kernel_rfl) ?_; (repeat (go_big_quiet_step (fail))); refine wpQuiet_nil ?_; intro _ hw'; obtain ⟨z3, hw''⟩ := hw'; subst hw''; have hs3 := z3.size; obtain ⟨hc3, hf3⟩ := bcell z3.below; (try simp only [World.size_alloc, World.size_setCell, World.size_drew] at hc3 hf3); (try simp at hs3))
              go_wp2_with fail
              go_roundw
              case rel => exact ⟨k + 1, by go_num, by omega, (by (repeat' (first | exact Below.refl _ _ | assumption | (refine Below.alloc ?_ ?_ _) | (refine Below.setCell ?_ ?_ _) | (refine Below.drew ?_) | (refine below_drewN ?_ _) | (refine below_after (Ext.below _) ?_ ?_) | (refine below_after (by assumption) ?_ ?_) | (simp; done) | omega | (simp; omega)))), Lib.hid fun k' x hk' hx' => by
                rcases Nat.lt_or_ge k' k with h | h
                · exact hoq.out k' x h hx'
                · obtain rfl : k' = k := by omega
                  rw [hxe.out] at hx'; injection hx' with hx'; rw [← hx']; exact HK.out⟩
              case measure => simp [intOf]; omega
            · obtain ⟨r, rfl⟩ := Int.eq_ofNat_of_zero_le c1
              obtain ⟨ly, ny, Ey, my, cy, by_, oy, hy, hAy, hbly, y1, _, _, _⟩ := ((hN.of hbw)).node (i := r) (by omega)
              injection hAy with hAy
              injection hAy with e1 e2
              subst e1 e2
              have HQ := Lib.hid (nxOk_node (st := (me : Int)) (i := j) c2 c1 c3 (show N[((r : Nat) : Int).toNat]? = some (ly, ny) from hy.out))
              have f1 : decide ((r : Int) < 0) = false := decide_eq_false (by omega)
              have f2 : (lv == 1) = false := by simp; omega
              have f3 : decide (1 < lv) = true := decide_eq_true c2
              have f4 : decide ((j : Int) ≤ (r : Int)) = false := decide_eq_false (by omega)
              have f4' : decide (j ≤ r) = false := decide_eq_false (by omega)
              have f5 : IntKind.i64.wrap (lv - 1) = lv - 1 := IntWalk.i64_in _ (by omega)
              by_cases hq : ly = lv - 1
              · subst hq
                have f6 : (lv - 1 == lv - 1) = true := by simp
                have f7 : (lv - 1 != lv - 1) = false := by simp
                have HK := Lib.hid (show nxOk me N lv j (r : Int) = true by rw [HQ.out]; exact decide_eq_true rfl)
                clear HQ
                go_wp2_with fail
                (refine wp_region_ext_lit (by kernel_rfl) (by kernel_rfl) ?_; (repeat (go_big_quiet_step (fail))); refine wpQuiet_nil ?_; intro _ hw'; obtain ⟨z3, hw''⟩ := hw'; subst hw''; have hs3 := z3.size; obtain ⟨hc3, hf3⟩ := bcell z3.below; (try simp only [World.size_alloc, World.size_setCell, World.size_drew] at hc3 hf3); (try simp at hs3))
                go_wp2_with fail
                go_roundw
                case rel => exact ⟨k + 1, by go_num, by omega, (by (repeat' (first | exact Below.refl _ _ | assumption | (refine Below.alloc ?_ ?_ _) | (refine Below.setCell ?_ ?_ _) | (refine Below.drew ?_) | (refine below_drewN ?_ _) | (refine below_after (Ext.below _) ?_ ?_) | (refine below_after (by assumption) ?_ ?_) | (simp; done) | omega | (simp; omega)))), Lib.hid fun k' x hk' hx' => by
                  rcases Nat.lt_or_ge k' k with h | h
                  · exact hoq.out k' x h hx'
                  · obtain rfl : k' = k := by omega
                    rw [hxe.out] at hx'; injection hx' with hx'; rw [← hx']; exact HK.out⟩
                case measure => simp [intOf]; omega
              · have f6 : (ly == lv - 1) = false := by simpa using hq
                have f7 : (ly != lv - 1) = true := by simpa using hq
                have HE := Lib.hid (HF.out j hlj (ndOk_elem hx.out hxe.out (by simp only; rw [HQ.out]; exact decide_eq_false hq)))
                clear HQ hxe hq
                go_wp2_with fail
                (refine wp_region_ext_lit (by kernel_rfl) (by kernel_rfl) ?_; (repeat (go_big_quiet_step (fail))); refine wpQuiet_nil ?_; intro _ hw'; obtain ⟨z3, hw''⟩ := hw'; subst hw''; have hs3 := z3.size; obtain ⟨hc3, hf3⟩ := bcell z3.below; (try simp only [World.size_alloc, World.size_setCell, World.size_drew] at hc3 hf3); (try simp at hs3))
                go_wp2_with fail
                go_ret
                exact ⟨ret_bool HE.out.symm, by (repeat' (first | exact Below.refl _ _ | assumption | (refine Below.alloc ?_ ?_ _) | (refine Below.setCell ?_ ?_ _) | (refine Below.drew ?_) | (refine below_drewN ?_ _) | (refine below_after (Ext.below _) ?_ ?_) | (refine below_after (by assumption) ?_ ?_) | (simp; done) | omega | (simp; omega)))⟩
          · obtain rfl : k = me := by omega
            have dk : decide ((k : Int) < k) = false := decide_eq_false (by omega)
            have hnd := Lib.hid (ndOk_all (st := (k : Int)) (N := N) hx.out l1 l2 (by simp only; rw [hEl.out]) (fun k' x hk' hx' => hoq.out k' x (by simp only at hk'; rw [← hEl.out]; exact hk') hx'))
            go_wp2_with fail
            go_roundw
            case rel => exact ⟨j + 1, by go_num, by omega, hbw, Lib.hid fun i hi => by
              rcases Nat.lt_or_ge i j with h | h
              · exact hok.out i h
              · obtain rfl : i = j := by omega
                exact hnd.out⟩
            case measure => simp [intOf]; omega
    · obtain rfl : j = q + 1 := by omega
      have dj : decide ((q : Int) + 1 < (q : Int) + 1) = false := decide_eq_false (by omega)
      have HE := Lib.hid (HT.out hok.out)
      have hfin : Below w.heap.size w wr := below_thru hbe hb
      go_wp2_with fail
      go_ret
      exact ⟨ret_bool HE.out.symm, hfin⟩
theorem tree_Right (st : Int) (A B : Option Addr) (n c m d : Nat) (H : List (Int × Int)) (N : List (Int × List Int)) (w : World) (hH : Rd encP 2 w A n H) (hN : RdX ekN w B m N) :
    Calls Tryz.prog 77 #[.agg #[.int .i64 st, .slice A n c, .slice B m d]] w fun e w' => e = .returned (.bool (trR st H N)) ∧ Below w.heap.size w w' := by
  by_cases hbad : st < 2 ∨ 8 < st ∨ rightL H = false ∨ m < 1 ∨ 4096 < m
  · exact tree_Right_head st A B n c m d H N w hH hN hbad
  · have hr : rightL H = true := by
      cases h : rightL H with
      | true => rfl
      | false => exact absurd (.inr (.inr (.inl h))) hbad
    by_cases hl : lastLv N = n
    · exact tree_Right_main st A B n c m d H N w hH hN (by omega) (by omega) hr (by omega) (by omega) hl
    · exact tree_Right_last st A B n c m d H N w hH hN (by omega) (by omega) hr (by omega) (by omega) hl
end Go.Proofs.YtellglbmbocgkaaGreatDoor
end
section
namespace Go.Proofs.YtellglbmbocgkaaGreatDoor
open Go Go.RowKit
set_option maxRecDepth 100000
set_option linter.unusedSimpArgs false
set_option linter.unusedVariables false
set_option maxHeartbeats 2000000 in
theorem ref12_Right_head (st : Int) (A B : Option Addr) (n c m d : Nat) (H : List (Int × Int)) (N : List (Int × List Int)) (w : World) (hH : Rd encP 2 w A n H) (hN : RdX ekN w B m N) (hbad : st < 2 ∨ 8 < st ∨ rightL H = false ∨ m < 1 ∨ 4096 < m) :
    Calls Tryz.prog 84 #[.agg #[.int .i64 st, .slice A n c, .slice B m d]] w fun e w' => e = .returned (.bool (trR st H N)) ∧ Below w.heap.size w w' := by
  have hNl := hN.len
  have HE := Lib.hid (show trR st H N = false by
    rcases hbad with h | h | h | h | h
    · exact trR_states (.inl h)
    · exact trR_states (.inr h)
    · exact trR_hood h
    · exact trR_size hNl (.inl h)
    · exact trR_size hNl (.inr h))
  rcases (show (decide (st < 2) = true) ∨ (decide (st < 2) = false ∧ decide (8 < st) = true) ∨ (decide (st < 2) = false ∧ decide (8 < st) = false ∧ rightL H = false) ∨
      (decide (st < 2) = false ∧ decide (8 < st) = false ∧ rightL H = true ∧ decide ((m : Int) < 1) = true) ∨ (decide (st < 2) = false ∧ decide (8 < st) = false ∧ rightL H = true ∧ decide ((m : Int) < 1) = false ∧ decide (4096 < (m : Int)) = true) by
    simp only [decide_eq_true_eq, decide_eq_false_iff_not]
    cases hr : rightL H with
    | false => simp only [true_and, Bool.false_eq_true, false_and, or_false, and_true]; omega
    | true => rw [hr] at hbad; simp only [Bool.true_eq_false, false_or] at hbad; simp only [Bool.true_eq_false, and_false, true_and]; omega) with d1 | ⟨d1, d2⟩ | ⟨d1, d2, hr⟩ | ⟨d1, d2, hr, d3⟩ | ⟨d1, d2, hr, d3, d4⟩
  all_goals
    have kH := fun w1 h1 => ref_Right7 A n c H w1 h1
    (try rw [hr] at kH)
    (try clear hr)
    clear hbad hNl
    go_enter Tryz.func84, Tryz.ntmps84
    go_wp2_with (go_at_call 142; refine (kH _ (hH.of (by (repeat' (first | exact Below.refl _ _ | assumption | (refine Below.alloc ?_ ?_ _) | (refine Below.setCell ?_ ?_ _) | (refine Below.drew ?_) | (refine below_drewN ?_ _) | (refine below_after (Ext.below _) ?_ ?_) | (refine below_after (by assumption) ?_ ?_) | (simp; done) | omega | (simp; omega)))))).mono ?_; rintro e w1 ⟨rfl, hb1⟩)
    go_ret
    exact ⟨ret_bool HE.out.symm, by (repeat' (first | exact Below.refl _ _ | assumption | (refine Below.alloc ?_ ?_ _) | (refine Below.setCell ?_ ?_ _) | (refine Below.drew ?_) | (refine below_drewN ?_ _) | (refine below_after (Ext.below _) ?_ ?_) | (refine below_after (by assumption) ?_ ?_) | (simp; done) | omega | (simp; omega)))⟩
set_option maxHeartbeats 8000000 in
theorem ref12_Right_main (st : Int) (A B : Option Addr) (n c m d : Nat) (H : List (Int × Int)) (N : List (Int × List Int)) (w : World) (hH : Rd encP 2 w A n H) (hN : RdX ekN w B m N) (h1 : 2 ≤ st) (h2 : st ≤ 8) (hr : rightL H = true) (h3 : 1 ≤ m) (h4 : m ≤ 4096) :
    Calls Tryz.prog 84 #[.agg #[.int .i64 st, .slice A n c, .slice B m d]] w fun e w' => e = .returned (.bool (trR st H N)) ∧ Below w.heap.size w w' := by
  have hNl := hN.len
  have hHl := hH.len
  have hn25 : n ≤ 25 := by rw [← hHl]; exact (hood_in hr).1
  obtain ⟨q, rfl⟩ : ∃ q, m = q + 1 := ⟨m - 1, by omega⟩
  obtain ⟨lv0, nx0, E0, me0, ce0, b0, o0, hx0, rfl, hb0, g10, g20, _, _⟩ := hN.node (i := q) (by omega)
  have hlast := last_lv hNl hx0.out
  have HT := Lib.hid (fun (e : lv0 = (n : Int)) (h5 : ∀ i, i < q + 1 → ndOk st n N i = true) => trR_all (st := st) (H := H) (x := (lv0, nx0)) ⟨h1, h2⟩ hr hNl ⟨h3, h4⟩ hx0.out hHl e h5)
  have HL := Lib.hid (fun (e : lv0 ≠ (n : Int)) => trR_last (st := st) (H := H) (x := (lv0, nx0)) hNl hx0.out hHl e)
  have HF := Lib.hid (fun (i : Nat) (hi : i < q + 1) (h : ndOk st n N i = false) => trR_node (st := st) (H := H) (N := N) (i := i) (by rw [hNl]; exact hi) (by rw [hHl]; exact h))
  have d1 : decide (st < 2) = false := decide_eq_false (by omega)
  have d2 : decide (8 < st) = false := decide_eq_false (by omega)
  have d3 : decide (((q + 1 : Nat) : Int) < 1) = false := decide_eq_false (by omega)
  have d3' : decide ((q : Int) + 1 < 1) = false := decide_eq_false (by omega)
  have d4 : decide (4096 < ((q + 1 : Nat) : Int)) = false := decide_eq_false (by omega)
  have d4' : decide (4096 < (q : Int) + 1) = false := decide_eq_false (by omega)
  have b0w : IntKind.i64.wrap ((q : Int) + 1 - 1) = (q : Int) := by rw [IntWalk.i64_in _ (by omega)]; omega
  have kH := fun w1 h1 => ref_Right7 A n c H w1 h1
  rw [hr] at kH
  clear hr hlast hx0
  replace hNl := Lib.hid hNl
  replace hHl := Lib.hid hHl
  go_enter Tryz.func84, Tryz.ntmps84
  go_wp2_with fail
  have hbx := TrAt.new w (.int .i64 st) (.slice A n c) (.slice (some ⟨b0, o0, none⟩) (q + 1) d) 25
  have hbe : Below w.heap.size w (w.alloc (.cells #[.int .i64 st, .slice A n c, .slice (some ⟨b0, o0, none⟩) (q + 1) d] 25)) := (Below.refl _ _).alloc (Nat.le_refl _) _
  obtain ⟨we, hwe⟩ : ∃ we, we = w.alloc (.cells #[.int .i64 st, .slice A n c, .slice (some ⟨b0, o0, none⟩) (q + 1) d] 25) := ⟨_, rfl⟩
  rw [← hwe] at hbx hbe ⊢
  replace hH := hH.of hbe
  replace hN := hN.of hbe
  have g10e : we.cell? ⟨b0, o0 + q * 2, none⟩ = some (.int .i64 lv0) := by rw [hbe.cell (p := ⟨_, _, none⟩) hb0]; exact g10
  have hb0e : b0 < we.heap.size := Nat.lt_of_lt_of_le hb0 hbe.size
  clear hwe g10 g20 hb0
  obtain ⟨hbs, t0, t1, t2⟩ := hbx
  go_at_call 142
  refine (kH _ hH).mono ?_
  rintro e w1 ⟨rfl, hB0⟩
  have hc0 := (bcell hB0).1
  have hf0 := (bcell hB0).2
  have hs0 := hB0.size
  go_wp2_with fail
  clear kH d1 d2 d3 d3' d4 d4' hc0 hf0
  go_loopw [4] (fun t wr => ∃ j : Nat, t = .int .i64 j ∧ j ≤ q + 1 ∧ Below we.heap.size we wr ∧ Hid (∀ i, i < j → ndOk st n N i = true)) (fun t _ => q + 1 - (intOf t).toNat)
  case atStart => exact ⟨0, rfl, by omega, hB0, Lib.hid fun i hi => absurd hi (by omega)⟩
  case round =>
    clear hB0 hs0
    obtain ⟨j, rfl, hj, hb, hok⟩ := hrel
    have hsz := hb.size
    obtain ⟨hbsr, u0, u1, u2⟩ := (show TrAt we w.heap.size _ _ _ from ⟨hbs, t0, t1, t2⟩).of hb
    by_cases hlj : j < q + 1
    · have dj : decide ((j : Int) < (q : Int) + 1) = true := decide_eq_true (by omega)
      have dj' : decide (j < q + 1) = true := decide_eq_true (by omega)
      obtain ⟨lv, nx, E, me, ce, b, o, hx, hAe, hbl, g1, g2, hE, _⟩ := (hN.of hb).node hlj
      injection hAe with hAe
      injection hAe with e1 e2
      subst e1 e2
      have hEl := hE.len
      rcases (show (lv < 1 ∨ (n : Int) < lv ∨ (me : Int) ≠ st) ∨ (1 ≤ lv ∧ lv ≤ n ∧ (me : Int) = st) by omega) with hbad | ⟨l1, l2, l3⟩
      · have HE := Lib.hid (HF.out j hlj (ndOk_head hx.out (by simp only; rw [hEl]; exact hbad)))
        have hways : decide (lv < 1) = true ∨ (decide (lv < 1) = false ∧ decide ((n : Int) < lv) = true) ∨ (decide (lv < 1) = false ∧ decide ((n : Int) < lv) = false ∧ ((me : Int) == st) = false ∧ ((me : Int) != st) = true) := by
          simp only [decide_eq_true_eq, decide_eq_false_iff_not, beq_eq_false_iff_ne, bne_iff_ne]; omega
        clear hbad hx hEl hE
        rcases hways with e1 | ⟨e1, e2⟩ | ⟨e1, e2, e3, e4⟩
        all_goals
          go_wp2_with fail
          go_ret
          exact ⟨ret_bool HE.out.symm, by (repeat' (first | exact Below.refl _ _ | assumption | (refine Below.alloc ?_ ?_ _) | (refine Below.setCell ?_ ?_ _) | (refine Below.drew ?_) | (refine below_drewN ?_ _) | (refine below_after (Ext.below _) ?_ ?_) | (refine below_after (by assumption) ?_ ?_) | (simp; done) | omega | (simp; omega)))⟩
      · subst l3
        have e1 : decide (lv < 1) = false := decide_eq_false (by omega)
        have e2 : decide ((n : Int) < lv) = false := decide_eq_false (by omega)
        have e3 : ((me : Int) == (me : Int)) = true := by simp
        have e4 : ((me : Int) != (me : Int)) = false := by simp
        have hln := hx.out
        replace hx := Lib.hid hln
        clear hln
        replace hEl := Lib.hid hEl
        go_wp2_with fail
        have hdu := DuAt.new wr (.int .i64 lv) (.slice E me ce) 101
        have hbd : Below wr.heap.size wr (wr.alloc (.cells #[.int .i64 lv, .slice E me ce] 101)) := (Below.refl _ _).alloc (Nat.le_refl _) _
        obtain ⟨wa, hwa⟩ : ∃ wa, wa = wr.alloc (.cells #[.int .i64 lv, .slice E me ce] 101) := ⟨_, rfl⟩
        rw [← hwa] at hdu hbd ⊢
        have hba : Below we.heap.size we wa := below_thru hb hbd
        replace hE := hE.of hbd
        clear hwa e1 e2 e3 e4 g1 g2 dj dj'
        go_loopw [6] (fun t wq => ∃ k : Nat, t = .int .i64 k ∧ k ≤ me ∧ Below wa.heap.size wa wq ∧ Hid (∀ k' x, k' < k → nx[k']? = some x → nxOk me N lv j x = true)) (fun t _ => me - (intOf t).toNat)
        case atStart => exact ⟨0, rfl, by omega, Below.refl _ _, Lib.hid fun k' x hk' => absurd hk' (by omega)⟩
        case round =>
          obtain ⟨k, rfl, hk, hbq, hoq⟩ := hrel
          have hsq := hbq.size
          have hsa := hba.size
          have hbw : Below we.heap.size we wr := below_thru hba hbq
          have hfin : Below w.heap.size w wr := below_thru hbe hbw
          obtain ⟨hbt, v0, v1, v2⟩ := (show TrAt we w.heap.size _ _ _ from ⟨hbs, t0, t1, t2⟩).of hbw
          obtain ⟨hbn, n0, n1⟩ := hdu.of hbq
          by_cases hlk : k < me
          · have dk : decide ((k : Int) < me) = true := decide_eq_true (by omega)
            obtain ⟨x2, be, oe, hxe, rfl, hbe2, hce⟩ := (hE.of hbq).int hlk
            rcases (show x2 < 0 ∨ (0 ≤ x2 ∧ lv = 1 ∧ (me : Int) ≤ x2) ∨ (0 ≤ x2 ∧ 1 < lv ∧ (j : Int) ≤ x2) ∨ (0 ≤ x2 ∧ lv = 1 ∧ x2 < me) ∨ (0 ≤ x2 ∧ 1 < lv ∧ x2 < j) by omega) with c1 | ⟨c1, rfl, c3⟩ | ⟨c1, c2, c3⟩ | ⟨c1, rfl, c3⟩ | ⟨c1, c2, c3⟩
            · have HE := Lib.hid (HF.out j hlj (ndOk_elem hx.out hxe.out (nxOk_neg c1)))
              have f1 : decide (x2 < 0) = true := decide_eq_true c1
              clear hxe
              go_wp2_with fail
              go_wp2_with fail
              go_ret
              exact ⟨ret_bool HE.out.symm, by (repeat' (first | exact Below.refl _ _ | assumption | (refine Below.alloc ?_ ?_ _) | (refine Below.setCell ?_ ?_ _) | (refine Below.drew ?_) | (refine below_drewN ?_ _) | (refine below_after (Ext.below _) ?_ ?_) | (refine below_after (by assumption) ?_ ?_) | (simp; done) | omega | (simp; omega)))⟩
            · have HE := Lib.hid (HF.out j hlj (ndOk_elem hx.out hxe.out (by simp only; rw [nxOk_leaf c1]; exact decide_eq_false (by omega))))
              have f1 : decide (x2 < 0) = false := decide_eq_false (by omega)
              have f2 : decide ((me : Int) ≤ x2) = true := decide_eq_true c3
              clear hxe
              go_wp2_with fail
              go_wp2_with fail
              go_ret
              exact ⟨ret_bool HE.out.symm, by (repeat' (first | exact Below.refl _ _ | assumption | (refine Below.alloc ?_ ?_ _) | (refine Below.setCell ?_ ?_ _) | (refine Below.drew ?_) | (refine below_drewN ?_ _) | (refine below_after (Ext.below _) ?_ ?_) | (refine below_after (by assumption) ?_ ?_) | (simp; done) | omega | (simp; omega)))⟩
            · have HE := Lib.hid (HF.out j hlj (ndOk_elem hx.out hxe.out (nxOk_far c2 c3)))
              have f1 : decide (x2 < 0) = false := decide_eq_false (by omega)
              have f2 : (lv == 1) = false := by simp; omega
              have f3 : decide (1 < lv) = true := decide_eq_true c2
              have f4 : decide ((j : Int) ≤ x2) = true := decide_eq_true c3
              clear hxe
              go_wp2_with fail
              (refine wp_region_ext_lit (by kernel_rfl) (by kernel_rfl) ?_; (repeat (go_big_quiet_step (fail))); refine wpQuiet_nil ?_; intro _ hw'; obtain ⟨z3, hw''⟩ := hw'; subst hw''; have hs3 := z3.size; obtain ⟨hc3, hf3⟩ := bcell z3.below; (try simp only [World.size_alloc, World.size_setCell, World.size_drew] at hc3 hf3); (try simp at hs3))
              go_wp2_with fail
              go_ret
              exact ⟨ret_bool HE.out.symm, by (repeat' (first | exact Below.refl _ _ | assumption | (refine Below.alloc ?_ ?_ _) | (refine Below.setCell ?_ ?_ _) | (refine Below.drew ?_) | (refine below_drewN ?_ _) | (refine below_after (Ext.below _) ?_ ?_) | (refine below_after (by assumption) ?_ ?_) | (simp; done) | omega | (simp; omega)))⟩
            · have HK := Lib.hid (show nxOk me N 1 j x2 = true by rw [nxOk_leaf c1]; exact decide_eq_true c3)
              have f1 : decide (x2 < 0) = false := decide_eq_false (by omega)
              have f2 : decide ((me : Int) ≤ x2) = false := decide_eq_false (by omega)
              go_wp2_with fail
              (refine wp_region_ext_lit (by kernel_rfl) (by kernel_rfl) ?_; (repeat (go_big_quiet_step (fail))); refine wpQuiet_nil ?_; intro _ hw'; obtain ⟨z3, hw''⟩ := hw'; subst hw''; have hs3 := z3.size; obtain ⟨hc3, hf3⟩ := bcell z3.below; (try simp only [World.size_alloc, World.size_setCell, World.size_drew] at hc3 hf3); (try simp at hs3))
              go_wp2_with fail
              go_roundw
              case rel => exact ⟨k + 1, by go_num, by omega, (by (repeat' (first | exact Below.refl _ _ | assumption | (refine Below.alloc ?_ ?_ _) | (refine Below.setCell ?_ ?_ _) | (refine Below.drew ?_) | (refine below_drewN ?_ _) | (refine below_after (Ext.below _) ?_ ?_) | (refine below_after (by assumption) ?_ ?_) | (simp; done) | omega | (simp; omega)))), Lib.hid fun k' x hk' hx' => by
                rcases Nat.lt_or_ge k' k with h | h
                · exact hoq.out k' x h hx'
                · obtain rfl : k' = k := by omega
                  rw [hxe.out] at hx'; injection hx' with hx'; rw [← hx']; exact HK.out⟩
              case measure => simp [intOf]; omega
            · obtain ⟨r, rfl⟩ := Int.eq_ofNat_of_zero_le c1
              obtain ⟨ly, ny, Ey, my, cy, by_, oy, hy, hAy, hbly, y1, _, _, _⟩ := ((hN.of hbw)).node (i := r) (by omega)
              injection hAy with hAy
              injection hAy with e1 e2
              subst e1 e2
              have HQ := Lib.hid (nxOk_node (st := (me : Int)) (i := j) c2 c1 c3 (show N[((r : Nat) : Int).toNat]? = some (ly, ny) from hy.out))
              have f1 : decide ((r : Int) < 0) = false := decide_eq_false (by omega)
              have f2 : (lv == 1) = false := by simp; omega
              have f3 : decide (1 < lv) = true := decide_eq_true c2
              have f4 : decide ((j : Int) ≤ (r : Int)) = false := decide_eq_false (by omega)
              have f4' : decide (j ≤ r) = false := decide_eq_false (by omega)
              have f5 : IntKind.i64.wrap (lv - 1) = lv - 1 := IntWalk.i64_in _ (by omega)
              by_cases hq : ly = lv - 1
              · subst hq
                have f6 : (lv - 1 == lv - 1) = true := by simp
                have f7 : (lv - 1 != lv - 1) = false := by simp
                have HK := Lib.hid (show nxOk me N lv j (r : Int) = true by rw [HQ.out]; exact decide_eq_true rfl)
                clear HQ
                go_wp2_with fail
                (refine wp_region_ext_lit (by kernel_rfl) (by kernel_rfl) ?_; (repeat (go_big_quiet_step (fail))); refine wpQuiet_nil ?_; intro _ hw'; obtain ⟨z3, hw''⟩ := hw'; subst hw''; have hs3 := z3.size; obtain ⟨hc3, hf3⟩ := bcell z3.below; (try simp only [World.size_alloc, World.size_setCell, World.size_drew] at hc3 hf3); (try simp at hs3))
                go_wp2_with fail
                go_roundw
                case rel => exact ⟨k + 1, by go_num, by omega, (by (repeat' (first | exact Below.refl _ _ | assumption | (refine Below.alloc ?_ ?_ _) | (refine Below.setCell ?_ ?_ _) | (refine Below.drew ?_) | (refine below_drewN ?_ _) | (refine below_after (Ext.below _) ?_ ?_) | (refine below_after (by assumption) ?_ ?_) | (simp; done) | omega | (simp; omega)))), Lib.hid fun k' x hk' hx' => by
                  rcases Nat.lt_or_ge k' k with h | h
                  · exact hoq.out k' x h hx'
                  · obtain rfl : k' = k := by omega
                    rw [hxe.out] at hx'; injection hx' with hx'; rw [← hx']; exact HK.out⟩
                case measure => simp [intOf]; omega
              · have f6 : (ly == lv - 1) = false := by simpa using hq
                have f7 : (ly != lv - 1) = true := by simpa using hq
                have HE := Lib.hid (HF.out j hlj (ndOk_elem hx.out hxe.out (by simp only; rw [HQ.out]; exact decide_eq_false hq)))
                clear HQ hxe hq
                go_wp2_with fail
                (refine wp_region_ext_lit (by kernel_rfl) (by kernel_rfl) ?_; (repeat (go_big_quiet_step (fail))); refine wpQuiet_nil ?_; intro _ hw'; obtain ⟨z3, hw''⟩ := hw'; subst hw''; have hs3 := z3.size; obtain ⟨hc3, hf3⟩ := bcell z3.below; (try simp only [World.size_alloc, World.size_setCell, World.size_drew] at hc3 hf3); (try simp at hs3))
                go_wp2_with fail
                go_ret
                exact ⟨ret_bool HE.out.symm, by (repeat' (first | exact Below.refl _ _ | assumption | (refine Below.alloc ?_ ?_ _) | (refine Below.setCell ?_ ?_ _) | (refine Below.drew ?_) | (refine below_drewN ?_ _) | (refine below_after (Ext.below _) ?_ ?_) | (refine below_after (by assumption) ?_ ?_) | (simp; done) | omega | (simp; omega)))⟩
          · obtain rfl : k = me := by omega
            have dk : decide ((k : Int) < k) = false := decide_eq_false (by omega)
            have hnd := Lib.hid (ndOk_all (st := (k : Int)) (N := N) hx.out l1 l2 (by simp only; rw [hEl.out]) (fun k' x hk' hx' => hoq.out k' x (by simp only at hk'; rw [← hEl.out]; exact hk') hx'))
            go_wp2_with fail
            go_roundw
            case rel => exact ⟨j + 1, by go_num, by omega, hbw, Lib.hid fun i hi => by
              rcases Nat.lt_or_ge i j with h | h
              · exact hok.out i h
              · obtain rfl : i = j := by omega
                exact hnd.out⟩
            case measure => simp [intOf]; omega
    · obtain rfl : j = q + 1 := by omega
      have dj : decide ((q : Int) + 1 < (q : Int) + 1) = false := decide_eq_false (by omega)
      have hfin : Below w.heap.size w wr := below_thru hbe hb
      have g1 : wr.cell? ⟨b0, o0 + q * 2, none⟩ = some (.int .i64 lv0) := by rw [hb.cell (p := ⟨_, _, none⟩) hb0e]; exact g10e
      have hb0r : b0 < wr.heap.size := Nat.lt_of_lt_of_le hb0e hb.size
      by_cases hlv : lv0 = (n : Int)
      · have HE := Lib.hid (HT.out hlv hok.out)
        have d5 : (lv0 == (n : Int)) = true := by simpa using hlv
        clear hlv
        go_wp2_with fail
        (refine wp_region_ext_lit (by kernel_rfl) (by kernel_rfl) ?_; (repeat (go_big_quiet_step (fail))); refine wpQuiet_nil ?_; intro _ hw'; obtain ⟨z3, hw''⟩ := hw'; subst hw''; have hs3 := z3.size; obtain ⟨hc3, hf3⟩ := bcell z3.below; (try simp only [World.size_alloc, World.size_setCell, World.size_drew] at hc3 hf3); (try simp at hs3))
        go_wp2_with fail
        go_ret
        exact ⟨ret_bool HE.out.symm, by (repeat' (first | exact Below.refl _ _ | assumption | (refine Below.alloc ?_ ?_ _) | (refine Below.setCell ?_ ?_ _) | (refine Below.drew ?_) | (refine below_drewN ?_ _) | (refine below_after (Ext.below _) ?_ ?_) | (refine below_after (by assumption) ?_ ?_) | (simp; done) | omega | (simp; omega)))⟩
      · have HE := Lib.hid (HL.out hlv)
        have d5 : (lv0 == (n : Int)) = false := by simpa using hlv
        clear hlv
        go_wp2_with fail
        (refine wp_region_ext_lit (by kernel_rfl) (by kernel_rfl) ?_; (repeat (go_big_quiet_step (fail))); refine wpQuiet_nil ?_; intro _ hw'; obtain ⟨z3, hw''⟩ := hw'; subst hw''; have hs3 := z3.size; obtain ⟨hc3, hf3⟩ := bcell z3.below; (try simp only [World.size_alloc, World.size_setCell, World.size_drew] at hc3 hf3); (try simp at hs3))
        go_wp2_with fail
        go_ret
        exact ⟨ret_bool HE.out.symm, by (repeat' (first | exact Below.refl _ _ | assumption | (refine Below.alloc ?_ ?_ _) | (refine Below.setCell ?_ ?_ _) | (refine Below.drew ?_) | (refine below_drewN ?_ _) | (refine below_after (Ext.below _) ?_ ?_) | (refine below_after (by assumption) ?_ ?_) | (simp; done) | omega | (simp; omega)))⟩
theorem ref12_Right (st : Int) (A B : Option Addr) (n c m d : Nat) (H : List (Int × Int)) (N : List (Int × List Int)) (w : World) (hH : Rd encP 2 w A n H) (hN : RdX ekN w B m N) :
    Calls Tryz.prog 84 #[.agg #[.int .i64 st, .slice A n c, .slice B m d]] w fun e w' => e = .returned (.bool (trR st H N)) ∧ Below w.heap.size w w' := by
  by_cases hbad : st < 2 ∨ 8 < st ∨ rightL H = false ∨ m < 1 ∨ 4096 < m
  · exact ref12_Right_head st A B n c m d H N w hH hN hbad
  · have hr : rightL H = true := by
      cases h : rightL H with
      | true => rfl
      | false => exact absurd (.inr (.inr (.inl h))) hbad
    exact ref12_Right_main st A B n c m d H N w hH hN (by omega) (by omega) hr (by omega) (by omega)
end Go.Proofs.YtellglbmbocgkaaGreatDoor
end
section
namespace Go.Proofs.YtellglbmbocgkaaGreatDoor
open Go Go.RowKit
set_option maxRecDepth 100000
set_option linter.unusedSimpArgs false
set_option linter.unusedVariables false
theorem FrW.tr {W w' : World} {b : Nat} {x y z : Value} (h : FrW W w') (t : TrAt W b x y z) : FrW W w' ∧ w'.cell? ⟨b, 0, none⟩ = some x ∧ w'.cell? ⟨b, 1, none⟩ = some y ∧ w'.cell? ⟨b, 2, none⟩ = some z :=
  ⟨h, (t.of h.below).2⟩
theorem zeros_ok {st : Int} (hst : 0 < st) (n : Nat) : ∀ s ∈ List.replicate n (0 : Int), 0 ≤ s ∧ s < st := by
  intro s hs
  rw [List.eq_of_mem_replicate hs]; omega
section
variable (st : Int) (A B : Option Addr) (n c m d : Nat) (H : List (Int × Int)) (N : List (Int × List Int)) (w : World)
set_option maxHeartbeats 4000000 in
theorem tree_Quiet (hH : Rd encP 2 w A n H) (hN : RdX ekN w B m N) :
    Calls Tryz.prog 36 #[.agg #[.int .i64 st, .slice A n c, .slice B m d]] w fun e w' => e = .returned (.bool (trQ st H N)) ∧ Below w.heap.size w w' := by
  have hHl := hH.len
  cases hr : trR st H N with
  | false =>
    have HE := Lib.hid (show trQ st H N = false by unfold trQ; rw [hr]; rfl)
    have kR := fun w1 h1 h2 => tree_Right st A B n c m d H N w1 h1 h2
    rw [hr] at kR
    clear hr hHl
    go_enter Tryz.func36, Tryz.ntmps36
    go_wp2_with fail
    (refine wp_region_ext_lit (by kernel_rfl) (by kernel_rfl) ?_; (repeat (go_big_quiet_step ((go_at_call 77; exact calls_ext (kR _ (hH.of (by (repeat' (first | exact Below.refl _ _ | assumption | (refine Below.alloc ?_ ?_ _) | (refine Below.setCell ?_ ?_ _) | (refine Below.drew ?_) | (refine below_drewN ?_ _) | (refine below_after (Ext.below _) ?_ ?_) | (refine below_after (by assumption) ?_ ?_) | (simp; done) | omega | (simp; omega))))) (hN.of (by (repeat' (first | exact Below.refl _ _ | assumption | (refine Below.alloc ?_ ?_ _) | (refine Below.setCell ?_ ?_ _) | (refine Below.drew ?_) | (refine below_drewN ?_ _) | (refine below_after (Ext.below _) ?_ ?_) | (refine below_after (by assumption) ?_ ?_) | (simp; done) | omega | (simp; omega)))))))))); refine wpQuiet_nil ?_; intro _ hw'; obtain ⟨z1, hw''⟩ := hw'; subst hw''; have hs1 := z1.size; obtain ⟨hc1, hf1⟩ := bcell z1.below; (try simp only [World.size_alloc, World.size_setCell, World.size_drew] at hc1 hf1); (try simp at hs1))
    go_wp2_with fail
    go_ret
    exact ⟨ret_bool HE.out.symm, by (repeat' (first | exact Below.refl _ _ | assumption | (refine Below.alloc ?_ ?_ _) | (refine Below.setCell ?_ ?_ _) | (refine Below.drew ?_) | (refine below_drewN ?_ _) | (refine below_after (Ext.below _) ?_ ?_) | (refine below_after (by assumption) ?_ ?_) | (simp; done) | omega | (simp; omega)))⟩
  | true =>
    have hn25 : n ≤ 25 := by rw [← hHl]; exact (hood_in (trR_parts hr).2.1).1
    have hst := (trR_parts hr).1
    have HE := Lib.hid (show trQ st H N = (valT N (List.replicate n 0) == 0) by unfold trQ; rw [hr, hHl]; rfl)
    have kR := fun w1 h1 h2 => tree_Right st A B n c m d H N w1 h1 h2
    rw [hr] at kR
    have kV := fun C k w1 h1 h2 => tree_value st A B C n c m d n k H N (List.replicate n 0) w1 h1 h2 (by omega) hr (by simp [hHl]) (zeros_ok (by omega) n)
    generalize valT N (List.replicate n 0) = q at kV HE
    have hmk := fun w => run_make_ints Tryz.underlying54 n (by omega) w
    clear hr hHl
    go_enter Tryz.func36, Tryz.ntmps36
    go_wp2_with fail
    have hbx := TrAt.new w (.int .i64 st) (.slice A n c) (.slice B m d) 25
    have hbe : Below w.heap.size w (w.alloc (.cells #[.int .i64 st, .slice A n c, .slice B m d] 25)) := (Below.refl _ _).alloc (Nat.le_refl _) _
    obtain ⟨we, hwe⟩ : ∃ we, we = w.alloc (.cells #[.int .i64 st, .slice A n c, .slice B m d] 25) := ⟨_, rfl⟩
    rw [← hwe] at hbx hbe ⊢
    replace hH := hH.of hbe
    replace hN := hN.of hbe
    clear hwe
    go_region_held3 (fun w' => FrW we w' ∧ w'.cell? ⟨w.heap.size, 0, none⟩ = some (.int .i64 st) ∧ w'.cell? ⟨w.heap.size, 1, none⟩ = some (.slice A n c) ∧ w'.cell? ⟨w.heap.size, 2, none⟩ = some (.slice B m d))
      (((try go_split_ands); refine FrW.tr ?_ hbx; first | exact FrW.drew (FrW.here _) | exact FrW.drew ‹_› | exact FrW.alloc ‹_› _ | exact FrW.here _ | exact FrW.of ‹_› hb))
      ((first
      | (go_at_call 77; (try go_split_ands); refine (kR _ (hH.of (FrW.below ‹_›)) (hN.of (FrW.below ‹_›))).mono ?_; rintro e w7 ⟨rfl, hb⟩; have hsz := hb.size)
      | (go_at_call 78; (try go_split_ands); refine (kV _ _ _ (hN.of (FrW.below ‹_›)) ((own_made _ _ _ (Nat.le_refl _) _ (by omega)).rd encI_len)).mono ?_; rintro e w7 ⟨rfl, hb⟩; have hsz := hb.size)))
    go_wp2_with fail
    go_ret
    (try go_split_ands)
    exact ⟨ret_bool HE.out.symm, below_thru hbe (FrW.below ‹_›)⟩
end
end Go.Proofs.YtellglbmbocgkaaGreatDoor
end
section
namespace Go.Proofs.YtellglbmbocgkaaGreatDoor
open Go Go.RowKit
set_option maxRecDepth 100000
set_option linter.unusedSimpArgs false
set_option linter.unusedVariables false
section
variable (st : Int) (A B C : Option Addr) (n c m d e : Nat) (H : List (Int × Int)) (N : List (Int × List Int)) (ins : List Int) (w : World)
set_option maxHeartbeats 4000000 in
theorem ref12_EvalV (hH : Rd encP 2 w A n H) (hN : RdX ekN w B m N) (hI : Rd encI 1 w C n ins) (hn : n ≤ 25) (h : trR st H N = true) (hl : ins.length = H.length) (hs : ∀ s ∈ ins, 0 ≤ s ∧ s < st) :
    Calls Tryz.prog 85 #[.agg #[.int .i64 st, .slice A n c, .slice B m d], .slice C n e] w fun e w' => e = .returned (.tuple #[.int .i64 (valT N ins), .int .i64 0]) ∧ Below w.heap.size w w' := by
  have kR := fun w1 h1 h2 => ref12_Right st A B n c m d H N w1 h1 h2
  rw [h] at kR
  have kV := fun w1 h1 h2 => ref_Value st A B C n c m d n e H N ins w1 h1 h2 (by omega) h hl hs
  generalize valT N ins = q at kV
  have hs := Lib.hid hs
  have d0 : ((n : Int) == (n : Int)) = true := by simp
  have d0' : ((n : Int) != (n : Int)) = false := by simp
  clear h hl
  go_enter Tryz.func85, Tryz.ntmps85
  go_wp2_with fail
  have hbx := TrAt.new w (.int .i64 st) (.slice A n c) (.slice B m d) 25
  have hbe : Below w.heap.size w (w.alloc (.cells #[.int .i64 st, .slice A n c, .slice B m d] 25)) := (Below.refl _ _).alloc (Nat.le_refl _) _
  obtain ⟨we, hwe⟩ : ∃ we, we = w.alloc (.cells #[.int .i64 st, .slice A n c, .slice B m d] 25) := ⟨_, rfl⟩
  rw [← hwe] at hbx hbe ⊢
  replace hH := hH.of hbe
  replace hN := hN.of hbe
  replace hI := hI.of hbe
  clear hwe
  go_at_call 84
  refine (kR _ hH hN).mono ?_
  rintro e1 w1 ⟨rfl, hB1⟩
  obtain ⟨hbs, t0, t1, t2⟩ := hbx.of hB1
  go_wp2_with fail
  clear d0 d0' hbs t0 t1 t2
  go_loopw [6] (fun t wr => ∃ j : Nat, t = .int .i64 j ∧ j ≤ n ∧ Below we.heap.size we wr) (fun t _ => n - (intOf t).toNat)
  case atStart => exact ⟨0, rfl, by omega, hB1⟩
  case round =>
    clear hB1
    obtain ⟨j, rfl, hj, hb⟩ := hrel
    have hsz := hb.size
    obtain ⟨hbs, t0, t1, t2⟩ := hbx.of hb
    by_cases hlj : j < n
    · have dj : decide ((j : Int) < n) = true := decide_eq_true (by omega)
      have dj' : decide (j < n) = true := decide_eq_true hlj
      obtain ⟨x1, bi, oi, hxi, rfl, hbi, hci⟩ := (hI.of hb).int hlj
      have hx := hs.out _ (List.mem_of_getElem? hxi.out)
      have d1 : decide (x1 < 0) = false := decide_eq_false (by omega)
      have d2 : decide (st ≤ x1) = false := decide_eq_false (by omega)
      clear hx hxi
      go_wp2_with fail
      (refine wp_region_ext_lit (by kernel_rfl) (by kernel_rfl) ?_; (repeat (go_big_quiet_step (fail))); refine wpQuiet_nil ?_; intro _ hw'; obtain ⟨z3, hw''⟩ := hw'; subst hw''; have hs3 := z3.size; obtain ⟨hc3, hf3⟩ := bcell z3.below; (try simp only [World.size_alloc, World.size_setCell, World.size_drew] at hc3 hf3); (try simp at hs3))
      go_wp2_with fail
      go_roundw
      case rel => exact ⟨j + 1, by go_num, by omega, by (repeat' (first | exact Below.refl _ _ | assumption | (refine Below.alloc ?_ ?_ _) | (refine Below.setCell ?_ ?_ _) | (refine Below.drew ?_) | (refine below_drewN ?_ _) | (refine below_after (Ext.below _) ?_ ?_) | (refine below_after (by assumption) ?_ ?_) | (simp; done) | omega | (simp; omega)))⟩
      case measure => simp [intOf]; omega
    · obtain rfl : j = n := by omega
      have dj : decide ((j : Int) < j) = false := decide_eq_false (by omega)
      have dj' : decide (j < j) = false := decide_eq_false (by omega)
      go_wp2_with (go_at_call 143; refine (kV _ (hN.of hb) (hI.of hb)).mono ?_; rintro e1 w7 ⟨rfl, hb7⟩)
      go_ret2
      exact ⟨rfl, below_thru hbe (below_thru hb hb7)⟩
set_option maxHeartbeats 4000000 in
theorem ref12_Quiet (hH : Rd encP 2 w A n H) (hN : RdX ekN w B m N) :
    Calls Tryz.prog 42 #[.agg #[.int .i64 st, .slice A n c, .slice B m d]] w fun e w' => e = .returned (.bool (trQ st H N)) ∧ Below w.heap.size w w' := by
  have hHl := hH.len
  have kR := fun w1 h1 h2 => ref12_Right st A B n c m d H N w1 h1 h2
  cases hr : trR st H N with
  | false =>
    have HE := Lib.hid (show trQ st H N = false by unfold trQ; rw [hr]; rfl)
    rw [hr] at kR
    clear hr hHl
    go_enter Tryz.func42, Tryz.ntmps42
    go_wp2_with (go_at_call 84; refine (kR _ (hH.of (by (repeat' (first | exact Below.refl _ _ | assumption | (refine Below.alloc ?_ ?_ _) | (refine Below.setCell ?_ ?_ _) | (refine Below.drew ?_) | (refine below_drewN ?_ _) | (refine below_after (Ext.below _) ?_ ?_) | (refine below_after (by assumption) ?_ ?_) | (simp; done) | omega | (simp; omega))))) (hN.of (by (repeat' (first | exact Below.refl _ _ | assumption | (refine Below.alloc ?_ ?_ _) | (refine Below.setCell ?_ ?_ _) | (refine Below.drew ?_) | (refine below_drewN ?_ _) | (refine below_after (Ext.below _) ?_ ?_) | (refine below_after (by assumption) ?_ ?_) | (simp; done) | omega | (simp; omega)))))).mono ?_; rintro e1 w7 ⟨rfl, hb7⟩)
    go_ret
    exact ⟨ret_bool HE.out.symm, by (repeat' (first | exact Below.refl _ _ | assumption | (refine Below.alloc ?_ ?_ _) | (refine Below.setCell ?_ ?_ _) | (refine Below.drew ?_) | (refine below_drewN ?_ _) | (refine below_after (Ext.below _) ?_ ?_) | (refine below_after (by assumption) ?_ ?_) | (simp; done) | omega | (simp; omega)))⟩
  | true =>
    have hn25 : n ≤ 25 := by rw [← hHl]; exact (hood_in (trR_parts hr).2.1).1
    have hst := (trR_parts hr).1
    have HE := Lib.hid (show trQ st H N = (valT N (List.replicate n 0) == 0) by unfold trQ; rw [hr, hHl]; rfl)
    have kV := fun C k w1 h0 h1 h2 => ref12_EvalV st A B C n c m d k H N (List.replicate n 0) w1 h0 h1 h2 hn25 hr (by simp [hHl]) (zeros_ok (by omega) n)
    rw [hr] at kR
    generalize valT N (List.replicate n 0) = q at kV HE
    have hmk := fun w => run_make_ints Tryz.underlying54 n (by omega) w
    clear hr hHl hst
    go_enter Tryz.func42, Tryz.ntmps42
    go_wp2_with fail
    have hbx := TrAt.new w (.int .i64 st) (.slice A n c) (.slice B m d) 25
    have hbe : Below w.heap.size w (w.alloc (.cells #[.int .i64 st, .slice A n c, .slice B m d] 25)) := (Below.refl _ _).alloc (Nat.le_refl _) _
    obtain ⟨we, hwe⟩ : ∃ we, we = w.alloc (.cells #[.int .i64 st, .slice A n c, .slice B m d] 25) := ⟨_, rfl⟩
    rw [← hwe] at hbx hbe ⊢
    replace hH := hH.of hbe
    replace hN := hN.of hbe
    clear hwe
    go_at_call 84
    refine (kR _ hH hN).mono ?_
    rintro e1 w1 ⟨rfl, hB1⟩
    replace hbx := hbx.of hB1
    replace hH := hH.of hB1
    replace hN := hN.of hB1
    replace hbe := below_thru hbe hB1
    clear hB1
    go_wp2_with fail
    go_region_held3 (fun w' => FrW w1 w' ∧ w'.cell? ⟨w.heap.size, 0, none⟩ = some (.int .i64 st) ∧ w'.cell? ⟨w.heap.size, 1, none⟩ = some (.slice A n c) ∧ w'.cell? ⟨w.heap.size, 2, none⟩ = some (.slice B m d))
      (((try go_split_ands); refine FrW.tr ?_ hbx; first | exact FrW.drew (FrW.here _) | exact FrW.drew ‹_› | exact FrW.alloc ‹_› _ | exact FrW.here _ | exact FrW.of ‹_› hb))
      ((first
      | (go_at_call 85; (try go_split_ands); refine (kV _ _ _ (hH.of (FrW.below ‹_›)) (hN.of (FrW.below ‹_›)) ((own_made w1 _ _ (Nat.le_refl _) n (by omega)).drew.rd encI_len)).mono ?_; rintro e w7 ⟨rfl, hb⟩; have hsz := hb.size)
      | fail))
    go_wp2_with fail
    go_ret
    (try go_split_ands)
    exact ⟨ret_bool HE.out.symm, below_thru hbe (FrW.below ‹_›)⟩
end
end Go.Proofs.YtellglbmbocgkaaGreatDoor
end
