/- The contracts of delta.cells and delta.Of. The contract of delta.Apply. Frames in memory. -/
import Derived.Test.YtmenokhnanghgaaGreatCHG
import Derived.Test.YtmenokhnanghgaaGreatSRT
import Derived.Test.YtmenokhnanghgaaGreatMAP
import Derived.Test.YtmenokhnanghgaaGreatDIR
import Derived.Deep.RegionHeld3
import Derived.Test.YtmenokhnanghgaaGreatPLN
import Derived.Test.YtmenokhnanghgaaGreatMEM
set_option linter.unusedSimpArgs false
set_option linter.unusedVariables false
section
namespace Go.Proofs.YtmenokhnanghgaaGreat
open Go Go.RowKit
set_option maxRecDepth 100000
attribute [local go_sem ↓ high] eq_cl neq_cl eq_pt neq_pt eq_cg neq_cg
theorem run_makeMapN (n : Int) (w : World) : (Instr.makeMap 188 (some (.int .i64 n))).run Tryz.prog w = .ok (.map (some w.heap.size)) (w.alloc (.map #[] 0)) := by
  have u := Tryz.underlying188
  simp [Instr.makeMap, go_sem, u]
theorem cm_all {p : List (Int × Int × Int)} {n : Nat} (h : p.length = n) : cmF (p.take n) = cmF p := by
  rw [List.take_of_length_le (by omega)]
set_option maxHeartbeats 2000000 in
theorem del_cells (A : Option Addr) (n c : Nat) (p : List (Int × Int × Int)) (w : World) (hR : Rd encC 3 w A n p) (hr : rightC p = true) :
    Calls Tryz.prog 138 #[.slice A n c] w fun e w' => ∃ b, e = .returned (.map (some b)) ∧ mkPI.At b n (cmF p) w' ∧ b < w'.heap.size ∧ w.heap.size ≤ b ∧ Below w.heap.size w w' := by
  have hn5 : n ≤ 5000 := by rw [← hR.len]; exact (rightC_ok hr).1
  have hr := Lib.hid hr
  go_enter Tryz.func138, Tryz.ntmps138
  go_wp2_with fail
  rw [run_makeMapN]
  have hpm0 := MK.At.made mkPI w
  have hB0 : Below w.heap.size w (w.alloc (.map #[] 0)) := by (repeat' (first | exact Below.refl _ _ | assumption | (refine Below.alloc ?_ ?_ _) | (refine Below.setCell ?_ ?_ _) | (refine Below.drew ?_) | (refine below_drewN ?_ _) | (refine below_after (Ext.below _) ?_ ?_) | (refine below_after (by assumption) ?_ ?_) | (simp; done) | omega | (simp; omega)))
  go_wp2
  go_loopw [11] (fun t wr => ∃ j : Nat, t = .int .i64 j ∧ j ≤ n ∧ mkPI.At w.heap.size j (cmF (p.take j)) wr ∧ Below w.heap.size w wr) (fun t _ => n - (intOf t).toNat)
  case atStart => exact ⟨0, rfl, by omega, hpm0, hB0⟩
  case round =>
    clear hpm0 hB0
    obtain ⟨j, rfl, hj, hpm, hb⟩ := hrel
    obtain ⟨hc, hf⟩ := bcell hb
    have hs := hb.size
    have hlt0 := hpm.lt
    by_cases hlt : j < n
    · have dj : decide ((j : Int) < n) = true := decide_eq_true (by omega)
      obtain ⟨x, y, s, b, o, hx, rfl, hbl, g1, g2, g3⟩ := hR.cell hlt
      obtain ⟨ix, iy⟩ := pt_I64D (rightC_elem hr.out hx.out).1
      have hst := Lib.hid (cm_step hx.out)
      go_wp2_with (first | (at_mapUpdate; refine wpList_mg_put (M := mkPI) rfl _ _ _ _ rfl Tryz.underlying188 w.heap.size j (cmF (p.take j)) rfl (hpm.alloc _) (by omega) (x, y) ⟨ix, iy⟩ s rfl rfl ?_; intro w6 hpm6 hg6))
      have hb6 : Below w.heap.size w w6 := below_map1 (by (repeat' (first | exact Below.refl _ _ | assumption | (refine Below.alloc ?_ ?_ _) | (refine Below.setCell ?_ ?_ _) | (refine Below.drew ?_) | (refine below_drewN ?_ _) | (refine below_after (Ext.below _) ?_ ?_) | (refine below_after (by assumption) ?_ ?_) | (simp; done) | omega | (simp; omega)))) hg6 (by simp; omega) (Nat.le_refl _)
      go_roundw
      case rel => exact ⟨j + 1, by go_num, by omega, by rw [hst.out]; exact hpm6, hb6⟩
      case measure => simp [intOf]; omega
    · obtain rfl : j = n := by omega
      have dj : decide ((j : Int) < j) = false := decide_eq_false (by omega)
      rw [cm_all hR.len] at hpm
      go_wp2
      go_ret
      exact ⟨_, rfl, hpm, hlt0, Nat.le_refl _, hb⟩
end Go.Proofs.YtmenokhnanghgaaGreat
end
section
namespace Go.Proofs.YtmenokhnanghgaaGreat
open Go Go.RowKit
set_option maxRecDepth 100000
attribute [local go_sem ↓ high] eq_cl neq_cl eq_pt neq_pt eq_cg neq_cg
/-- A block of four cells. -/
def QuAt (w : World) (b : Nat) (v0 v1 v2 v3 : Value) : Prop := b < w.heap.size ∧ w.cell? ⟨b, 0, none⟩ = some v0 ∧ w.cell? ⟨b, 1, none⟩ = some v1 ∧ w.cell? ⟨b, 2, none⟩ = some v2 ∧ w.cell? ⟨b, 3, none⟩ = some v3
section
variable {w w' : World} {b : Nat} {v0 v1 v2 v3 : Value} {row : Option Nat}
theorem QuAt.new (w : World) (v0 v1 v2 v3 : Value) (t : TypeId) : QuAt (w.alloc (.cells #[v0, v1, v2, v3] t)) w.heap.size v0 v1 v2 v3 := by
  refine ⟨by simp, ?_, ?_, ?_, ?_⟩ <;> simp [cell_alloc_if]
theorem QuAt.of (h : QuAt w b v0 v1 v2 v3) (hb : Below w.heap.size w w') : QuAt w' b v0 v1 v2 v3 := by
  obtain ⟨hl, h0, h1, h2, h3⟩ := h
  exact ⟨Nat.lt_of_lt_of_le hl hb.size, (hb.cell (p := ⟨b, 0, none⟩) hl).trans h0, (hb.cell (p := ⟨b, 1, none⟩) hl).trans h1, (hb.cell (p := ⟨b, 2, none⟩) hl).trans h2, (hb.cell (p := ⟨b, 3, none⟩) hl).trans h3⟩
theorem QuAt.drew (h : QuAt w b v0 v1 v2 v3) : QuAt w.drew b v0 v1 v2 v3 := h
theorem QuAt.grown (h : QuAt w b v0 v1 v2 v3) (hg : w.grownBy w' row) (hne : some b ≠ row) : QuAt w' b v0 v1 v2 v3 := by
  obtain ⟨hl, h0, h1, h2, h3⟩ := h
  have hbl := hg.block b hl hne
  exact ⟨Nat.lt_of_lt_of_le hl hg.size, (World.cell?_of_block hbl).trans h0, (World.cell?_of_block hbl).trans h1, (World.cell?_of_block hbl).trans h2, (World.cell?_of_block hbl).trans h3⟩
end
theorem quS {w0 w' : World} {b B : Nat} {v0 v1 v2 v3 : Value} (h : QuAt w' b v0 v1 v2 v3) (hB : RowKit.Below B w0 w') : w'.cell? ⟨b, 0, none⟩ = some v0 ∧ w'.cell? ⟨b, 1, none⟩ = some v1 ∧ w'.cell? ⟨b, 2, none⟩ = some v2 ∧ w'.cell? ⟨b, 3, none⟩ = some v3 ∧ RowKit.Below B w0 w' :=
  ⟨h.2.1, h.2.2.1, h.2.2.2.1, h.2.2.2.2, hB⟩
theorem pi_update {w : World} {t : TypeId} (ht : Tryz.prog.underlying t = some (.map 66 3)) {b n : Nat} {f : Int × Int → Option Int} (h : mkPI.At b n f w) (hn : n < 1000000000) {p q : Int} (hp : I64 p) (hq : I64 q) (s : Int) :
    ∃ w', (Instr.mapUpdate t (.map (some b)) (.agg #[.int .i64 p, .int .i64 q]) (.int .i64 s)).run Tryz.prog w = .ok () w' ∧ mkPI.At b (n + 1) (putG f (p, q) s) w' ∧ w.grownBy w' (some b) := by
  obtain ⟨D, h1, h2⟩ := h
  obtain ⟨kl, hkl⟩ := mkPI.key (p, q) ⟨hp, hq⟩
  obtain ⟨w', hrun, r1, r2⟩ := h1.update mkPI.K ht (by unfold Go.maxLen; omega) hkl (mkPI.R_ev s)
  exact ⟨w', hrun, ⟨_, r1, h2.put h1.isMap hkl s⟩, r2⟩
theorem pi_look {b n : Nat} {f : Int × Int → Option Int} {w : World} (h : mkPI.At b n f w) {t : TypeId} (ht : Tryz.prog.underlying t = some (.map 66 3)) {u v r : Int} (hu : I64 u) (hv : I64 v) (hr : (f (u, v)).getD 0 = r) :
    (Instr.lookup t (.map (some b)) (.agg #[.int .i64 u, .int .i64 v]) false).run Tryz.prog w = .ok (.int .i64 r) w := by
  obtain ⟨D, h1, h2⟩ := h
  obtain ⟨kl, hkl⟩ := mkPI.key (u, v) ⟨hu, hv⟩
  obtain ⟨h3, h4⟩ := h2.get hkl rfl
  obtain ⟨z, ps, hrun, hz⟩ := h1.lookup mkPI.K ht (mkPI.zero w) (mkPI.R_ev _) hkl
  obtain ⟨c, rfl, hc⟩ := mkPI.R_inv hz
  injection hc with hc _
  rw [h4] at hc
  injection hc with hc
  have hc' : mkPI.ev ((f (u, v)).getD mkPI.z) = mkPI.ev c := hc
  have e : c = r := (mkPI.eInj _ _ hc').symm.trans hr
  rw [← e]
  exact hrun
theorem frL_len {l : List (Int × Int × Int)} : (frL l).length ≤ 5000 := by
  unfold frL
  split
  · rename_i h
    rw [(srtC_perm _).length_eq]
    exact (frE_zero h).2.2
  · exact Nat.zero_le _
theorem ap_all {p : List (Int × Int × Int)} {l : List (Int × Int × Int × Int)} {m : Nat} (h : l.length = m) : apF p (l.take m) = apF p l := by
  rw [List.take_of_length_le (by omega)]
theorem ap_put {p : List (Int × Int × Int)} {l : List (Int × Int × Int × Int)} {j : Nat} {x y s t : Int} (h : l[j]? = some (x, y, s, t)) (h0 : t ≠ 0) : apF p (l.take (j + 1)) = putG (apF p (l.take j)) (x, y) t := by
  rw [ap_step h]; unfold aqF; rw [if_neg h0]
theorem ap_del {p : List (Int × Int × Int)} {l : List (Int × Int × Int × Int)} {j : Nat} {x y s : Int} (h : l[j]? = some (x, y, s, 0)) : apF p (l.take (j + 1)) = delG (putG (apF p (l.take j)) (x, y) 0) (x, y) := by
  rw [ap_step h]; unfold aqF; rw [if_pos rfl]
theorem ap_in {p : List (Int × Int × Int)} {l : List (Int × Int × Int × Int)} (hp : rightC p = true) (hl : rightG l = true) {q : Int × Int} {s : Int} (h : apF p l q = some s) : q ∈ p.map posD ++ l.map posG := by
  obtain ⟨g1, g2⟩ := ap_fold l (cmF p) (rightG_sorted hl) q
  unfold apF at h
  by_cases e : ∃ c ∈ l, q = (c.1, c.2.1)
  · obtain ⟨c, hc, e⟩ := e
    exact List.mem_append.2 (.inr (List.mem_map.2 ⟨c, hc, e.symm⟩))
  · rw [g2 (fun c hc e' => e ⟨c, hc, e'⟩)] at h
    have := (cm_some hp).1 h
    exact List.mem_append.2 (.inl (List.mem_map.2 ⟨_, (right_get hp).2 this, rfl⟩))
theorem ap_two {p : List (Int × Int × Int)} {l : List (Int × Int × Int × Int)} (h : rightC p = false ∨ rightG l = false) : apE p l = 2 ∧ apL p l = [] := by
  have hn : ¬(rightC p = true ∧ rightG l = true) := by rcases h with h | h <;> simp [h]
  refine ⟨by unfold apE; rw [if_neg hn], by unfold apL; rw [if_neg (fun e => hn ⟨e.1, e.2.1⟩)]⟩
theorem ap_match {p : List (Int × Int × Int)} {l : List (Int × Int × Int × Int)} (hp : rightC p = true) (hl : rightG l = true) (h : fitG p l = false) : apE p l = 17 ∧ apL p l = [] := by
  refine ⟨by unfold apE; rw [if_pos ⟨hp, hl⟩, if_neg (by rw [h]; simp)], by unfold apL; rw [if_neg (fun e => by rw [h] at e; cases e.2.2)]⟩
theorem ap_good {p : List (Int × Int × Int)} {l : List (Int × Int × Int × Int)} (hp : rightC p = true) (hl : rightG l = true) (h : fitG p l = true) : apE p l = frE (apM p l) ∧ apL p l = frL (apM p l) := by
  refine ⟨by unfold apE; rw [if_pos ⟨hp, hl⟩, if_pos h], by unfold apL; rw [if_pos ⟨hp, hl, h⟩]⟩
set_option maxHeartbeats 8000000 in
theorem del_Apply (A B : Option Addr) (n c m d : Nat) (p : List (Int × Int × Int)) (l : List (Int × Int × Int × Int)) (w : World) (hR : Rd encC 3 w A n p) (hS : Rd encG 4 w B m l) (hn : n ≤ 1000000) (hm : m ≤ 1000000) :
    Calls Tryz.prog 128 #[.slice A n c, .slice B m d] w fun e w' => ∃ A' n' c', e = .returned (.tuple #[.slice A' n' c', .int .i64 (apE p l)]) ∧ NewP w.heap.size w' A' n' c' (apL p l) ∧ n' ≤ 5000 ∧ Below w.heap.size w w' := by
  have kA := fun w1 h => pat_Right A n c p w1 h (by omega)
  have kB := fun w1 h => del_Right B m d l w1 h (by omega)
  cases ha : rightC p with
  | false =>
    have HE := Lib.hid (ap_two (l := l) (.inl ha))
    rw [ha] at kA
    clear ha
    go_enter Tryz.func128, Tryz.ntmps128
    go_wp2_with fail; go_at_call 34; refine (kA _ (hR.of (by (repeat' (first | exact Below.refl _ _ | assumption | (refine Below.alloc ?_ ?_ _) | (refine Below.setCell ?_ ?_ _) | (refine Below.drew ?_) | (refine below_drewN ?_ _) | (refine below_after (Ext.below _) ?_ ?_) | (refine below_after (by assumption) ?_ ?_) | (simp; done) | omega | (simp; omega)))))).mono ?_; rintro e w1 ⟨rfl, hb1⟩; have hs1 := hb1.size; (try simp only [World.size_alloc, World.size_drew, World.size_setCell] at hs1)
    go_wp2_with fail
    go_ret2
    exact ⟨none, 0, 0, ret_pe HE.out.1.symm, by rw [HE.out.2]; exact NewP.nil_, by omega, by (repeat' (first | exact Below.refl _ _ | assumption | (refine Below.alloc ?_ ?_ _) | (refine Below.setCell ?_ ?_ _) | (refine Below.drew ?_) | (refine below_drewN ?_ _) | (refine below_after (Ext.below _) ?_ ?_) | (refine below_after (by assumption) ?_ ?_) | (simp; done) | omega | (simp; omega)))⟩
  | true =>
    rw [ha] at kA
    cases hb : rightG l with
    | false =>
      have HE := Lib.hid (ap_two (p := p) (.inr hb))
      rw [hb] at kB
      clear ha hb
      go_enter Tryz.func128, Tryz.ntmps128
      go_wp2_with fail; go_at_call 34; refine (kA _ (hR.of (by (repeat' (first | exact Below.refl _ _ | assumption | (refine Below.alloc ?_ ?_ _) | (refine Below.setCell ?_ ?_ _) | (refine Below.drew ?_) | (refine below_drewN ?_ _) | (refine below_after (Ext.below _) ?_ ?_) | (refine below_after (by assumption) ?_ ?_) | (simp; done) | omega | (simp; omega)))))).mono ?_; rintro e w1 ⟨rfl, hb1⟩; have hs1 := hb1.size; (try simp only [World.size_alloc, World.size_drew, World.size_setCell] at hs1)
      go_wp2_with fail; go_at_call 137; refine (kB _ (hS.of (by (repeat' (first | exact Below.refl _ _ | assumption | (refine Below.alloc ?_ ?_ _) | (refine Below.setCell ?_ ?_ _) | (refine Below.drew ?_) | (refine below_drewN ?_ _) | (refine below_after (Ext.below _) ?_ ?_) | (refine below_after (by assumption) ?_ ?_) | (simp; done) | omega | (simp; omega)))))).mono ?_; rintro e w2 ⟨rfl, hb2⟩; have hs2 := hb2.size; (try simp only [World.size_alloc, World.size_drew, World.size_setCell] at hs2)
      go_wp2_with fail
      go_ret2
      exact ⟨none, 0, 0, ret_pe HE.out.1.symm, by rw [HE.out.2]; exact NewP.nil_, by omega, by (repeat' (first | exact Below.refl _ _ | assumption | (refine Below.alloc ?_ ?_ _) | (refine Below.setCell ?_ ?_ _) | (refine Below.drew ?_) | (refine below_drewN ?_ _) | (refine below_after (Ext.below _) ?_ ?_) | (refine below_after (by assumption) ?_ ?_) | (simp; done) | omega | (simp; omega)))⟩
    | true =>
      rw [hb] at kB
      have hn5 : n ≤ 5000 := by rw [← hR.len]; exact (rightC_ok ha).1
      have hm5 : m ≤ 10000 := by rw [← hS.len]; exact (rightG_ok hb).1
      have kC := fun w1 h => del_cells A n c p w1 h ha
      have hpl := Lib.hid ha
      have hll := Lib.hid hb
      have hal := Lib.hid hR.len
      have hbl := Lib.hid hS.len
      clear ha hb
      go_enter Tryz.func128, Tryz.ntmps128
      go_wp2_with fail; go_at_call 34; refine (kA _ (hR.of (by (repeat' (first | exact Below.refl _ _ | assumption | (refine Below.alloc ?_ ?_ _) | (refine Below.setCell ?_ ?_ _) | (refine Below.drew ?_) | (refine below_drewN ?_ _) | (refine below_after (Ext.below _) ?_ ?_) | (refine below_after (by assumption) ?_ ?_) | (simp; done) | omega | (simp; omega)))))).mono ?_; rintro e w1 ⟨rfl, hb1⟩; have hs1 := hb1.size; (try simp only [World.size_alloc, World.size_drew, World.size_setCell] at hs1)
      go_wp2_with fail; go_at_call 137; refine (kB _ (hS.of (by (repeat' (first | exact Below.refl _ _ | assumption | (refine Below.alloc ?_ ?_ _) | (refine Below.setCell ?_ ?_ _) | (refine Below.drew ?_) | (refine below_drewN ?_ _) | (refine below_after (Ext.below _) ?_ ?_) | (refine below_after (by assumption) ?_ ?_) | (simp; done) | omega | (simp; omega)))))).mono ?_; rintro e w2 ⟨rfl, hb2⟩; have hs2 := hb2.size; (try simp only [World.size_alloc, World.size_drew, World.size_setCell] at hs2)
      go_wp2_with fail; go_at_call 138; refine (kC _ (hR.of (by (repeat' (first | exact Below.refl _ _ | assumption | (refine Below.alloc ?_ ?_ _) | (refine Below.setCell ?_ ?_ _) | (refine Below.drew ?_) | (refine below_drewN ?_ _) | (refine below_after (Ext.below _) ?_ ?_) | (refine below_after (by assumption) ?_ ?_) | (simp; done) | omega | (simp; omega)))))).mono ?_; rintro e w3 ⟨b0, rfl, hpm, hb0, hb0w, hb3⟩; have hs3 := hb3.size; (try simp only [World.size_alloc, World.size_drew, World.size_setCell] at hs3)
      have hB3 : Below w.heap.size w w3 := by (repeat' (first | exact Below.refl _ _ | assumption | (refine Below.alloc ?_ ?_ _) | (refine Below.setCell ?_ ?_ _) | (refine Below.drew ?_) | (refine below_drewN ?_ _) | (refine below_after (Ext.below _) ?_ ?_) | (refine below_after (by assumption) ?_ ?_) | (simp; done) | omega | (simp; omega)))
      have hw3 := hB3.size
      have hb0b : w.heap.size ≤ b0 := by omega
      have hb0' := hb0
      clear hs1 hs2 hs3 hb1 hb2 hb3 kA kB kC hR hb0w
      go_wp2_with fail
      go_loopw [24] (fun t wr => ∃ j : Nat, t = .int .i64 j ∧ j ≤ m ∧ mkPI.At b0 (n + j) (apF p (l.take j)) wr ∧ Hid (∀ (i : Nat) c, i < j → l[i]? = some c → getC p c.1 c.2.1 = c.2.2.1) ∧ Below w.heap.size w wr ∧ w3.heap.size ≤ wr.heap.size) (fun t _ => m - (intOf t).toNat)
      case atStart => exact ⟨0, rfl, by omega, hpm, Lib.hid (fun i c h => absurd h (by omega)), hB3, Nat.le_refl _⟩
      case round =>
        clear hpm hB3
        obtain ⟨j, rfl, hj, hpm, hfit, hb, hw3r⟩ := hrel
        have hsz := hb.size
        have hlt0 := hpm.lt
        by_cases hlj : j < m
        · have dj : decide ((j : Int) < m) = true := decide_eq_true (by omega)
          have dj' : decide (j < m) = true := decide_eq_true hlj
          obtain ⟨x, y, s, t, bo, o, hx, rfl, hbo, g1, g2, g3, g4⟩ := (hS.of hb).chg hlj
          obtain ⟨ix, iy⟩ := pt_I64D (rightG_elem hll.out hx.out).1
          obtain ⟨r, hr0⟩ : ∃ r, getC p x y = r := ⟨_, rfl⟩
          have hr := Lib.hid ((ap_at hpl.out hll.out hx.out).trans hr0)
          go_wp2_with fail
          have hqu := QuAt.new wr (.int .i64 x) (.int .i64 y) (.int .i64 s) (.int .i64 t) 74
          have hbe : Below w.heap.size w (wr.alloc (.cells #[.int .i64 x, .int .i64 y, .int .i64 s, .int .i64 t] 74)) := hb.alloc (by omega) _
          have hpmb := hpm.alloc (.cells #[.int .i64 x, .int .i64 y, .int .i64 s, .int .i64 t] 74)
          obtain ⟨wb, hwb⟩ : ∃ wb, wb = wr.alloc (.cells #[.int .i64 x, .int .i64 y, .int .i64 s, .int .i64 t] 74) := ⟨_, rfl⟩
          have hsb : wb.heap.size = wr.heap.size + 1 := by rw [hwb]; simp
          rw [← hwb] at hqu hbe hpmb ⊢
          clear hwb g1 g2 g3 g4
          obtain ⟨kb, hkb⟩ : ∃ kb, kb = wr.heap.size := ⟨_, rfl⟩
          have hkb0 : kb ≠ b0 := by omega
          have hkbw : w.heap.size ≤ kb := by omega
          rw [← hkb] at hqu ⊢
          clear hkb
          have hlk : ∀ z : Ext wb, (Instr.lookup 188 (.map (some b0)) (.agg #[.int .i64 x, .int .i64 y]) false).run Tryz.prog z.world = .ok (.int .i64 r) z.world := fun z => pi_look (hpmb.of z.below) Tryz.underlying188 ix iy hr.out
          have ⟨_, a0, a1, a2, a3⟩ := hqu
          by_cases hrs : r = s
          · have t0 : (r != s) = false := by simpa using hrs
            have hfit1 := Lib.hid (show ∀ (i : Nat) c, i < j + 1 → l[i]? = some c → getC p c.1 c.2.1 = c.2.2.1 from fun i c hi hc => by
              by_cases e : i = j
              · subst e; rw [hx.out] at hc; cases hc; exact hr0.trans hrs
              · exact hfit.out i c (by omega) hc)
            clear hrs hr0
            (refine wp_region_ext_lit (by kernel_rfl) (by kernel_rfl) ?_; (repeat (go_big_quiet_step ((go_at_call 139; exact calls_ext (del_at _ _ _ _ _))))); refine wpQuiet_nil ?_; intro _ hw'; obtain ⟨z5, hw''⟩ := hw'; subst hw''; have hs5 := z5.size; obtain ⟨hc5, hf5⟩ := bcell z5.below; (try simp only [World.size_alloc, World.size_setCell, World.size_drew] at hc5 hf5); (try simp at hs5))
            have hB5 : Below w.heap.size w z5.world := below_thru hbe z5.below
            have hqu5 := hqu.of z5.below
            have hpm5 := hpmb.of z5.below
            have hs5' : wb.heap.size ≤ z5.world.heap.size := z5.below.size
            clear hc5 hf5 hs5 hlk hqu hpmb hbe hpm hb hlt0 a0 a1 a2 a3
            go_wp2_with fail
            obtain ⟨w5, hw5⟩ : ∃ w5, w5 = z5.world := ⟨_, rfl⟩
            rw [← hw5] at hB5 hqu5 hpm5 hs5' ⊢
            clear hw5
            have hB5s := hB5.size
            go_region_held3 (fun w' => w'.cell? ⟨kb, 0, none⟩ = some (.int .i64 x) ∧ w'.cell? ⟨kb, 1, none⟩ = some (.int .i64 y) ∧ w'.cell? ⟨kb, 2, none⟩ = some (.int .i64 s) ∧ w'.cell? ⟨kb, 3, none⟩ = some (.int .i64 t) ∧ RowKit.Below w.heap.size w w')
              (((try go_split_ands); first | exact quS hqu5.drew (Below.drew hB5) | exact quS (hqu5.drew.of hb) (below_thru (Below.drew hB5) hb) | exact quS ((hqu5.drew.of hb).grown hg6 (fun e => hkb0 (by injection e))) (below_map1 (below_thru (Below.drew hB5) hb) hg6 (below_thru (Below.drew hB5) hb).size hb0b) | fail))
              ((first
              | (go_at_call 139; (try go_split_ands); refine (del_at _ _ _ _ _).mono ?_; rintro e4 w4 ⟨rfl, hb⟩; obtain ⟨w6, hrun6, hpm6, hg6⟩ := pi_update Tryz.underlying188 (hpm5.drew.of hb) (by omega) ix iy t)
              | fail))
            (try go_split_ands)
            have hqu6 := (hqu5.drew.of hb).grown hg6 (fun e => hkb0 (by injection e))
            have hB4 : Below w.heap.size w w4 := below_thru (Below.drew hB5) hb
            have hB6 : Below w.heap.size w w6 := below_map1 hB4 hg6 hB4.size hb0b
            have hs6 : w3.heap.size ≤ w6.heap.size := by have h1 := hg6.size; have h2 := hb.size; simp only [World.size_drew] at h2; omega
            clear hqu5 hpm5 hB5 hb hg6 hrun6 hB4 hs5' hB5s
            by_cases h0 : t = 0
            · subst h0
              have hst := Lib.hid (ap_del (p := p) hx.out)
              have ⟨_, a0, a1, a2, a3⟩ := hqu6
              go_wp2_with fail
              go_at_call 139
              refine (del_at _ _ _ _ _).mono ?_
              rintro e7 w7 ⟨rfl, hb7⟩
              have hpm7 := hpm6.of hb7
              have hB7 := below_thru hB6 hb7
              have hs7 := hb7.size
              clear hb7 hpm6 a0 a1 a2 a3 hqu6
              go_wp2_with (first | (at_delete; refine wpList_pi_del rfl _ _ _ rfl Tryz.underlying188 b0 _ _ rfl hpm7 x y ix iy rfl ?_; intro w8 hpm8 hg8))
              have hb8 : Below w.heap.size w w8 := below_map1 hB7 hg8 hB7.size hb0b
              have hs8 := hg8.size
              go_roundw
              case rel => exact ⟨j + 1, by go_num, by omega, by rw [hst.out]; exact hpm8, hfit1, hb8, by omega⟩
              case measure => simp [intOf]; omega
            · have t1 : (t == 0) = false := by simpa using h0
              have hst := Lib.hid (ap_put (p := p) hx.out h0)
              have ⟨_, a0, a1, a2, a3⟩ := hqu6
              clear h0
              go_wp2_with fail
              go_roundw
              case rel => exact ⟨j + 1, by go_num, by omega, by rw [hst.out]; exact hpm6, hfit1, hB6, by omega⟩
              case measure => simp [intOf]; omega
          · have t0 : (r != s) = true := by simpa using hrs
            have HE := Lib.hid (ap_match hpl.out hll.out (fit_no hx.out (show getC p x y ≠ s from fun e => hrs (hr0.symm.trans e))))
            clear hrs hr0
            (refine wp_region_ext_lit (by kernel_rfl) (by kernel_rfl) ?_; (repeat (go_big_quiet_step ((go_at_call 139; exact calls_ext (del_at _ _ _ _ _))))); refine wpQuiet_nil ?_; intro _ hw'; obtain ⟨z5, hw''⟩ := hw'; subst hw''; have hs5 := z5.size; obtain ⟨hc5, hf5⟩ := bcell z5.below; (try simp only [World.size_alloc, World.size_setCell, World.size_drew] at hc5 hf5); (try simp at hs5))
            have hB5 : Below w.heap.size w z5.world := below_thru hbe z5.below
            go_wp2_with fail
            go_ret2
            exact ⟨none, 0, 0, ret_pe HE.out.1.symm, by rw [HE.out.2]; exact NewP.nil_, by omega, hB5⟩
        · obtain rfl : j = m := by omega
          have dj : decide ((j : Int) < j) = false := decide_eq_false (by omega)
          have dj' : decide (j < j) = false := decide_eq_false (by omega)
          rw [ap_all hbl.out] at hpm
          have hft := fit_yes (p := p) (l := l) (fun i c hc => hfit.out i c (by have := (List.getElem?_eq_some_iff.1 hc).1; rw [hbl.out] at this; exact this) hc)
          have HG := Lib.hid (ap_good hpl.out hll.out hft)
          obtain ⟨wz, hwz⟩ : ∃ wz, wz = wr := ⟨_, rfl⟩
          rw [← hwz] at hpm hb hsz hw3r hlt0 ⊢
          clear hwz hfit hft
          go_wp2_with (first | (at_range; refine wpList_pi_range rfl _ _ rfl Tryz.underlying188 b0 (n + j) (apF p l) rfl hpm ?_; intro w0 cnt0 hrg0 hg0 hs0))
          go_frame
          have hb0 : Below w.heap.size w w0 := hb.grown hg0 (by omega) (fun g e => by cases e)
          clear hpm hg0
          go_loopw [9] (fun v wr => ∃ (E : Option Addr) (q r cnt : Nat) (lf : Int × Int → Bool) (o : List (Int × Int × Int)), v = .slice E q r ∧ mkPI.Rg b0 wz.heap.size (n + j) (apF p l) lf cnt wr ∧ Own encC 3 63 (wz.heap.size + 1) wr E q r o ∧ Hid (CollD (apF p l) lf o) ∧ Below w.heap.size w wr ∧ wz.heap.size + 1 ≤ wr.heap.size) (fun _ wr => wr.rangeLeft b0 wz.heap.size)
          case atStart => exact ⟨none, 0, 0, cnt0, _, [], rfl, hrg0, Own.nil_, Lib.hid CollD.start, hb0, by omega⟩
          case round =>
            clear hrg0 hb0 hs0 hb hsz
            obtain ⟨E, q, r, cnt, lf, o, rfl, hrg, hown, hcol, hb, hzr⟩ := hrel
            have hsz := hb.size
            have hpq : q ≤ 15000 := by
              have h1 := hown.len
              have h2 : o.length ≤ n + j := hcol.out.len (m := p.map posD ++ l.map posG) (fun q s => ap_in hpl.out hll.out) (by rw [List.length_append, List.length_map, List.length_map, hal.out, hbl.out]; exact Nat.le_refl _)
              omega
            go_wp2_with (first | (at_next; refine wpList_pi_next rfl _ rfl b0 wz.heap.size (n + j) (apF p l) lf cnt rfl hrg ?_ ?_))
            · intro hl0
              have hfin := ap_whole hpl.out hll.out hcol.out (fun q h => hl0 q.1 q.2 h.1 h.2)
              have HE := Lib.hid (show apE p l = frE o ∧ apL p l = frL o from ⟨HG.out.1.trans hfin.1.symm, HG.out.2.trans hfin.2.symm⟩)
              have hRo := hown.rd encC_len
              clear hl0 hrg hcol hfin hown
              go_wp2_with fail
              go_at_call 140
              refine (pat_FromN E q r o wr hRo (by omega)).mono ?_
              rintro e w9 ⟨A9, n9, c9, rfl, hN9, hn9, hb9⟩
              have hl9 : n9 ≤ 5000 := by rw [← hN9.rd.len]; exact frL_len
              go_wp2_with fail
              go_ret2
              exact ⟨A9, n9, c9, ret_pe HE.out.1.symm, by rw [HE.out.2]; exact hN9.more hsz, hl9, below_thru hb hb9⟩
            · intro x y s wn cnt1 hix hiy hlx hfx hrg1 hlt1 hgn hsn hen
              have hbn : Below w.heap.size w wn := below_map1 hb hgn (by omega) (by omega)
              have hown1 := hown.overBlock hgn (by omega)
              have hcol1 := Lib.hid (hcol.out.step hfx hlx)
              rw [lfq_ne] at hcol1
              have hoB := OffB.below hown1 (show b0 < wz.heap.size + 1 by omega)
              have hoR := OffB.below hown1 (show wz.heap.size < wz.heap.size + 1 by omega)
              clear hcol hown hb hgn hlx hfx
              have hzn : wz.heap.size + 1 ≤ wn.heap.size := by omega
              replace hlt1 := Lib.hid hlt1
              replace hsn := Lib.hid hsn
              go_wp2_with (first | ((at_builtin; refine wpList_append_elL rfl (.tmp 54) (.tmp 61) 22 rfl encC 3 63 (.agg #[.int .i64 0, .int .i64 0, .int .i64 0]) 24 Tryz.underlying22 (by kernel_rfl) rfl (by decide) encC_len encC_one (wz.heap.size + 1) _ _ _ _ rfl ((hown1.alloc _).alloc _) (x, y, s) ⟨wn.heap.size + 1, 0, none⟩ 1 rfl (by have h := cells_new ((wn.alloc (.cells #[.int .i64 x, .int .i64 y] 66))) (encC (x, y, s)) 63; simp only [World.size_alloc] at h; exact h) (by omega) (by omega) (by first | omega | (simp; done) | (simp; omega)) ?_; intro A9 c9 w9 hown9 hg9 hb9 hl9; have hs9 := hb9.size; (try simp only [World.size_alloc, World.size_setCell, World.size_drew] at hs9)); have hrg9 := ((hrg1.alloc _).alloc _).grown hg9 hoB.ne hoR.ne; have hB9 : Below w.heap.size w w9 := by (repeat' (first | exact Below.refl _ _ | assumption | (refine Below.alloc ?_ ?_ _) | (refine Below.setCell ?_ ?_ _) | (refine Below.drew ?_) | (refine below_drewN ?_ _) | (refine below_after (Ext.below _) ?_ ?_) | (refine below_after (by assumption) ?_ ?_) | (simp; done) | omega | (simp; omega)))))
              go_roundw
              case rel => exact ⟨A9, q + 1, c9, cnt1, _, o ++ [(x, y, s)], rfl, hrg9, hown9, hcol1, hB9, by omega⟩
              case measure => rw [hrg9.left_eq, hrg.left_eq]; exact hlt1.out
end Go.Proofs.YtmenokhnanghgaaGreat
end
section
namespace Go.Proofs.YtmenokhnanghgaaGreat
open Go Go.RowKit
abbrev Hdl := Option Addr × Nat × Nat
def encFr (a : Int × Bool × Hdl × Hdl) : List Value := [.int .i64 a.1, .bool a.2.1, .slice a.2.2.1.1 a.2.2.1.2.1 a.2.2.1.2.2, .slice a.2.2.2.1 a.2.2.2.2.1 a.2.2.2.2.2]
theorem encFr_len (x : Int × Bool × Hdl × Hdl) : (encFr x).length = 4 := rfl
theorem encFr_one : ∀ y, ∀ u ∈ encFr y, u.oneCell' = true := by
  intro y u hu
  simp [encFr] at hu
  rcases hu with rfl | rfl | rfl | rfl <;> rfl
def ekFr : EK (Int × Bool × Hdl × Hdl) TFr where
  enc := encFr
  k := 4
  len := encFr_len
  one := encFr_one
  pos := by omega
  rel w a f := a.1 = f.1 ∧ a.2.1 = f.2.1 ∧ (Rd encC 3 w a.2.2.1.1 a.2.2.1.2.1 f.2.2.1 ∧ a.2.2.1.2.1 ≤ a.2.2.1.2.2) ∧ (Rd encG 4 w a.2.2.2.1 a.2.2.2.2.1 f.2.2.2 ∧ a.2.2.2.2.1 ≤ a.2.2.2.2.2)
  blk a := blkH a.2.2.1 ++ blkH a.2.2.2
  keep h hg hr := ⟨h.1, h.2.1, ⟨h.2.2.1.1.grown hg (fun q hq => hr q (List.mem_append.2 (.inl hq))), h.2.2.1.2⟩, ⟨h.2.2.2.1.grown hg (fun q hq => hr q (List.mem_append.2 (.inr hq))), h.2.2.2.2⟩⟩
  lt h := fun q hq => by
    rcases List.mem_append.1 hq with hq | hq
    · exact h.2.2.1.1.blk_lt q hq
    · exact h.2.2.2.1.blk_lt q hq
theorem RdX.frm {w : World} {A : Option Addr} {n : Nat} {fs : List TFr} (g : RdX ekFr w A n fs) {i : Nat} (hi : i < n) : ∃ gen fu C D CA cn cc DA dn dc b o, Hid (fs[i]? = some (gen, fu, C, D)) ∧ A = some ⟨b, o, none⟩ ∧ b < w.heap.size ∧
    w.cell? ⟨b, o + i * 4, none⟩ = some (.int .i64 gen) ∧ w.cell? ⟨b, o + i * 4 + 1, none⟩ = some (.bool fu) ∧ w.cell? ⟨b, o + i * 4 + 2, none⟩ = some (.slice CA cn cc) ∧ w.cell? ⟨b, o + i * 4 + 3, none⟩ = some (.slice DA dn dc) ∧
    Rd encC 3 w CA cn C ∧ cn ≤ cc ∧ Rd encG 4 w DA dn D ∧ dn ≤ dc := by
  obtain ⟨x, f, b, o, h1, h2, h3, h4, h5, h6, ⟨h7, h8⟩, h9, h10⟩ := g.elem hi
  obtain ⟨gen, fu, C, D⟩ := f
  simp only at h5 h6 h7 h9
  refine ⟨gen, fu, C, D, x.2.2.1.1, x.2.2.1.2.1, x.2.2.1.2.2, x.2.2.2.1, x.2.2.2.2.1, x.2.2.2.2.2, b, o, h1, h2, h3, ?_, ?_, h4 2 _ rfl, h4 3 _ rfl, h7, h8, h9, h10⟩
  · have := h4 0 (.int .i64 x.1) rfl
    rw [h5] at this
    exact this
  · have := h4 1 (.bool x.2.1) rfl
    rw [h6] at this
    exact this
def SmT (fs : List TFr) : Prop := ∀ f ∈ fs, f.2.2.1.length ≤ 1000000 ∧ f.2.2.2.length ≤ 1000000
theorem SmT.at_ {fs : List TFr} (h : SmT fs) {i : Nat} {f : TFr} (hi : fs[i]? = some f) : f.2.2.1.length ≤ 1000000 ∧ f.2.2.2.length ≤ 1000000 := h f (List.mem_of_getElem? hi)
theorem pat_rightT {K : Nat} {fs : List TFr} : ∀ {j}, okTT K fs j → j ≤ fs.length → ∀ p ∈ patL fs j, rightC p = true
  | 0, _, _, p, hp => by cases hp
  | j + 1, h, hj, p, hp => by
    obtain ⟨⟨g, fu, C, D⟩, hf⟩ : ∃ f, fs[j]? = some f := ⟨_, List.getElem?_eq_getElem (by omega)⟩
    rw [pat_step hf] at hp
    rcases List.mem_append.1 hp with hp | hp
    · exact pat_rightT (fun i hi => h i (by omega)) (by omega) p hp
    · obtain rfl : p = _ := by simpa using hp
      have ho := (okT_iff hf).1 (h j (by omega))
      unfold nxP
      cases fu with
      | true => rw [if_pos rfl]; exact (ho.2.2.2.1 rfl).1
      | false => rw [if_neg (by simp)]; exact apL_right (ho.2.2.2.2 rfl).1
theorem FrW.two {W w' : World} {b1 i1 b2 i2 : Nat} {v1 v2 : Value} (h : FrW W w') (hb1 : b1 < W.heap.size) (c1 : W.cell? ⟨b1, i1, none⟩ = some v1) (hb2 : b2 < W.heap.size) (c2 : W.cell? ⟨b2, i2, none⟩ = some v2) :
    FrW W w' ∧ w'.cell? ⟨b1, i1, none⟩ = some v1 ∧ w'.cell? ⟨b2, i2, none⟩ = some v2 :=
  ⟨h, (h.below.cell (p := ⟨_, _, none⟩) hb1).trans c1, (h.below.cell (p := ⟨_, _, none⟩) hb2).trans c2⟩
end Go.Proofs.YtmenokhnanghgaaGreat
end
