/- totaltree's closures at Life; the numerals of small numbers appended. -/
import Derived.Test.YtellglbmbocgkaaGreatDoorLifR
import Derived.Test.YtellglbmbocgkaaGreatDoorBldP
import Derived.Shelf.Strconv.Itoa1
import Derived.Lib.AppendStr
import Derived.Ground.NamesProg
namespace Go.Proofs.YtellglbmbocgkaaGreatDoor
open Go Go.RowKit Go.Shelf
set_option linter.unusedSimpArgs false
set_option linter.unusedVariables false
set_option maxRecDepth 100000
set_option linter.unusedSimpArgs false
set_option linter.unusedVariables false
set_option maxHeartbeats 1000000 in
theorem lif_Index (A : Option Addr) (n c : Nat) (l : List Int) (x : Int) (w : World) (hR : Rd encI 1 w A n l) (hn : n ≤ 1000000) :
    Calls Tryz.prog 168 #[.slice A n c, .int .i64 x] w fun e w' => (∃ k : Int, e = .returned (.int .i64 k) ∧ (0 ≤ k ↔ x ∈ l)) ∧ Below w.heap.size w w' := by
  have hl := Lib.hid hR.len
  go_enter Tryz.func168, Tryz.ntmps168
  go_wp2_with fail
  go_loop [8] (fun i => ∃ j : Nat, j ≤ n ∧ i = .int .i64 j ∧ Hid (∀ r, r < j → l[r]? ≠ some x)) (fun i => n - (intOf i).toNat)
  case atStart => exact ⟨0, by omega, rfl, Lib.hid fun r hr => absurd hr (by omega)⟩
  case round =>
    obtain ⟨j, hj, rfl, hno⟩ := hrel
    by_cases hlt : j < n
    · have dj : decide ((j : Int) < n) = true := decide_eq_true (by omega)
      obtain ⟨y, b, o, hx, rfl, hbl, c0⟩ := hR.int hlt
      by_cases hxy : x = y
      · have q1 : (x == y) = true := by simp [hxy]
        have hin := Lib.hid (show x ∈ l by rw [hxy]; exact List.mem_of_getElem? hx.out)
        clear hxy hx
        go_wp2_with fail
        go_ret
        exact ⟨⟨_, rfl, by simp [hin.out]⟩, by (repeat' (first | exact Below.refl _ _ | assumption | (refine Below.alloc ?_ ?_ _) | (refine Below.setCell ?_ ?_ _) | (refine Below.drew ?_) | (refine below_drewN ?_ _) | (refine below_after (Ext.below _) ?_ ?_) | (refine below_after (by assumption) ?_ ?_) | (simp; done) | omega | (simp; omega)))⟩
      · have q1 : (x == y) = false := by simp [hxy]
        have hst := Lib.hid (show ∀ r, r < j + 1 → l[r]? ≠ some x from fun r hr e => by
          rcases Nat.lt_or_ge r j with h | h
          · exact hno.out r h e
          · obtain rfl : r = j := by omega
            rw [hx.out] at e; injection e with e; exact hxy e.symm)
        clear hxy hx hno
        go_wp2_with fail
        go_round
        case rel => exact ⟨j + 1, by omega, by go_num, hst⟩
        case measure => simp [intOf]; omega
    · have dj : decide ((j : Int) < n) = false := decide_eq_false (by omega)
      have hnin := Lib.hid (show ¬ x ∈ l from fun hm => by
        obtain ⟨r, hr, e⟩ := List.getElem_of_mem hm
        exact hno.out r (by have := hl.out; omega) (by rw [List.getElem?_eq_getElem hr, e]))
      go_wp2_with fail
      go_ret
      exact ⟨⟨_, rfl, by simp [hnin.out]⟩, by (repeat' (first | exact Below.refl _ _ | assumption | (refine Below.alloc ?_ ?_ _) | (refine Below.setCell ?_ ?_ _) | (refine Below.drew ?_) | (refine below_drewN ?_ _) | (refine below_after (Ext.below _) ?_ ?_) | (refine below_after (by assumption) ?_ ?_) | (simp; done) | omega | (simp; omega)))⟩
theorem lif_Contains (A : Option Addr) (n c : Nat) (l : List Int) (x : Int) (q : Bool) (hq : decide (x ∈ l) = q) (w : World) (hR : Rd encI 1 w A n l) (hn : n ≤ 1000000) :
    Calls Tryz.prog 117 #[.slice A n c, .int .i64 x] w fun e w' => e = .returned (.bool q) ∧ Below w.heap.size w w' := by
  go_enter Tryz.func117, Tryz.ntmps117
  go_wp2_with fail
  go_at_call 168
  refine (lif_Index A n c l x _ hR hn).mono ?_
  rintro e w1 ⟨⟨k, rfl, hk⟩, hb1⟩
  have hd : decide (0 ≤ k) = q := by rw [← hq]; exact decide_eq_decide.2 hk
  clear hk hq
  go_wp2_with fail
  go_ret
  exact ⟨rfl, by (repeat' (first | exact Below.refl _ _ | assumption | (refine Below.alloc ?_ ?_ _) | (refine Below.setCell ?_ ?_ _) | (refine Below.drew ?_) | (refine below_drewN ?_ _) | (refine below_after (Ext.below _) ?_ ?_) | (refine below_after (by assumption) ?_ ?_) | (simp; done) | omega | (simp; omega)))⟩
set_option maxHeartbeats 4000000 in
theorem lif_step (cb o c k s : Nat) (w : World) (hc : w.cell? ⟨cb, 0, none⟩ = some (.int .i64 4)) (hcb : cb < w.heap.size) (ho : o ≤ 100) :
    Calls Tryz.prog 115 #[.agg #[.int .i64 (o : Int), .int .i64 (c : Int)], .int .i64 (k : Int), .int .i64 (s : Int), .pointer (some ⟨cb, 0, none⟩)] w fun e w' => e = .returned (.agg #[.int .i64 ((stpO k o s : Nat) : Int), .int .i64 ((stpC k c s : Nat) : Int)]) ∧ Below w.heap.size w w' := by
  by_cases hk : k = 4
  · have q1 : ((k : Int) == 4) = true := by simp [hk]
    have HE := Lib.hid (show stpO k o s = o ∧ stpC k c s = s by unfold stpO stpC; rw [if_pos hk, if_pos hk]; exact ⟨rfl, rfl⟩)
    clear hk
    go_enter Tryz.func115, Tryz.ntmps115
    go_wp2_with fail
    refine bodyPost_ret (v := .agg #[.int .i64 (o : Int), .int .i64 (s : Int)]) (by simp [results, Tryz.results115, go_sem, *, ↓IntWalk.iteOmega]) rfl ?_
    exact ⟨by rw [HE.out.1, HE.out.2], by (repeat' (first | exact Below.refl _ _ | assumption | (refine Below.alloc ?_ ?_ _) | (refine Below.setCell ?_ ?_ _) | (refine Below.drew ?_) | (refine below_drewN ?_ _) | (refine below_after (Ext.below _) ?_ ?_) | (refine below_after (by assumption) ?_ ?_) | (simp; done) | omega | (simp; omega)))⟩
  · have q1 : ((k : Int) == 4) = false := by simp; omega
    by_cases hs : s = 1
    · have q2 : ((s : Int) == 1) = true := by simp [hs]
      have HE := Lib.hid (show stpO k o s = o + 1 ∧ stpC k c s = c by unfold stpO stpC; rw [if_neg hk, if_neg hk, if_pos hs]; exact ⟨rfl, rfl⟩)
      clear hk hs
      go_enter Tryz.func115, Tryz.ntmps115
      go_wp2_with fail
      refine bodyPost_ret (v := .agg #[.int .i64 ((o : Int) + 1), .int .i64 (c : Int)]) (by simp [results, Tryz.results115, go_sem, *, ↓IntWalk.iteOmega]) rfl ?_
      exact ⟨by rw [HE.out.1, HE.out.2]; simp, by (repeat' (first | exact Below.refl _ _ | assumption | (refine Below.alloc ?_ ?_ _) | (refine Below.setCell ?_ ?_ _) | (refine Below.drew ?_) | (refine below_drewN ?_ _) | (refine below_after (Ext.below _) ?_ ?_) | (refine below_after (by assumption) ?_ ?_) | (simp; done) | omega | (simp; omega)))⟩
    · have q2 : ((s : Int) == 1) = false := by simp; omega
      have HE := Lib.hid (show stpO k o s = o ∧ stpC k c s = c by unfold stpO stpC; rw [if_neg hk, if_neg hk, if_neg hs]; exact ⟨rfl, rfl⟩)
      clear hk hs
      go_enter Tryz.func115, Tryz.ntmps115
      go_wp2_with fail
      refine bodyPost_ret (v := .agg #[.int .i64 (o : Int), .int .i64 (c : Int)]) (by simp [results, Tryz.results115, go_sem, *, ↓IntWalk.iteOmega]) rfl ?_
      exact ⟨by rw [HE.out.1, HE.out.2], by (repeat' (first | exact Below.refl _ _ | assumption | (refine Below.alloc ?_ ?_ _) | (refine Below.setCell ?_ ?_ _) | (refine Below.drew ?_) | (refine below_drewN ?_ _) | (refine below_after (Ext.below _) ?_ ?_) | (refine below_after (by assumption) ?_ ?_) | (simp; done) | omega | (simp; omega)))⟩
set_option maxHeartbeats 4000000 in
theorem lif_end (xb o c : Nat) (A B C : Option Addr) (a b d : Nat) (w : World) (hx : BxW w xb [.slice A 9 a, .int .i64 2, .slice B 1 b, .slice C 2 d]) (hB : Rd encI 1 w B 1 [3]) (hC : Rd encI 1 w C 2 [2, 3]) (hc : c ≤ 1) :
    Calls Tryz.prog 116 #[.agg #[.int .i64 (o : Int), .int .i64 (c : Int)], .pointer (some ⟨xb, 0, none⟩)] w fun e w' => e = .returned (.int .i64 ((endN o c : Nat) : Int)) ∧ Below w.heap.size w w' := by
  obtain ⟨hxb, g0, g1, g2, g3, _⟩ := hx.open4
  have hB1 := hB.of ((Below.refl _ w).alloc (Nat.le_refl _) (.cells #[.int .i64 (o : Int), .int .i64 (c : Int)] 184))
  have hC1 := hC.of ((Below.refl _ w).alloc (Nat.le_refl _) (.cells #[.int .i64 (o : Int), .int .i64 (c : Int)] 184))
  have kB := fun q h w1 h1 => lif_Contains B 1 b [3] (o : Int) q h w1 h1 (by omega)
  have kC := fun q h w1 h1 => lif_Contains C 2 d [2, 3] (o : Int) q h w1 h1 (by omega)
  clear hx hB hC
  rcases (show c = 0 ∨ c = 1 by omega) with rfl | rfl
  · by_cases h3 : o = 3
    · have HE := Lib.hid (show endN o 0 = 1 by unfold endN; rw [if_pos rfl, if_pos h3])
      have kB := kB true (by simp [h3])
      clear h3
      go_enter Tryz.func116, Tryz.ntmps116
      go_wp2_with fail; go_at_call 117; refine (kB _ hB1).mono ?_; rintro e w1 ⟨rfl, hb1⟩; have hs1 := hb1.size; (try simp only [World.size_alloc, World.size_drew, World.size_setCell] at hs1)
      go_wp2_with fail
      go_ret
      exact ⟨by rw [HE.out]; rfl, by (repeat' (first | exact Below.refl _ _ | assumption | (refine Below.alloc ?_ ?_ _) | (refine Below.setCell ?_ ?_ _) | (refine Below.drew ?_) | (refine below_drewN ?_ _) | (refine below_after (Ext.below _) ?_ ?_) | (refine below_after (by assumption) ?_ ?_) | (simp; done) | omega | (simp; omega)))⟩
    · have HE := Lib.hid (show endN o 0 = 0 by unfold endN; rw [if_pos rfl, if_neg h3])
      have kB := kB false (by simp; omega)
      clear h3
      go_enter Tryz.func116, Tryz.ntmps116
      go_wp2_with fail; go_at_call 117; refine (kB _ hB1).mono ?_; rintro e w1 ⟨rfl, hb1⟩; have hs1 := hb1.size; (try simp only [World.size_alloc, World.size_drew, World.size_setCell] at hs1)
      go_wp2_with fail
      go_ret
      exact ⟨by rw [HE.out]; rfl, by (repeat' (first | exact Below.refl _ _ | assumption | (refine Below.alloc ?_ ?_ _) | (refine Below.setCell ?_ ?_ _) | (refine Below.drew ?_) | (refine below_drewN ?_ _) | (refine below_after (Ext.below _) ?_ ?_) | (refine below_after (by assumption) ?_ ?_) | (simp; done) | omega | (simp; omega)))⟩
  · by_cases h3 : o = 2 ∨ o = 3
    · have HE := Lib.hid (show endN o 1 = 1 by unfold endN; rw [if_neg (by omega), if_pos h3])
      have kC := kC true (by rcases h3 with h | h <;> simp [h])
      clear h3
      go_enter Tryz.func116, Tryz.ntmps116
      go_wp2_with fail; go_at_call 117; refine (kC _ hC1).mono ?_; rintro e w1 ⟨rfl, hb1⟩; have hs1 := hb1.size; (try simp only [World.size_alloc, World.size_drew, World.size_setCell] at hs1)
      go_wp2_with fail
      go_ret
      exact ⟨by rw [HE.out]; rfl, by (repeat' (first | exact Below.refl _ _ | assumption | (refine Below.alloc ?_ ?_ _) | (refine Below.setCell ?_ ?_ _) | (refine Below.drew ?_) | (refine below_drewN ?_ _) | (refine below_after (Ext.below _) ?_ ?_) | (refine below_after (by assumption) ?_ ?_) | (simp; done) | omega | (simp; omega)))⟩
    · have HE := Lib.hid (show endN o 1 = 0 by unfold endN; rw [if_neg (by omega), if_neg h3])
      have kC := kC false (by simp; omega)
      clear h3
      go_enter Tryz.func116, Tryz.ntmps116
      go_wp2_with fail; go_at_call 117; refine (kC _ hC1).mono ?_; rintro e w1 ⟨rfl, hb1⟩; have hs1 := hb1.size; (try simp only [World.size_alloc, World.size_drew, World.size_setCell] at hs1); obtain ⟨hc1, hf1⟩ := bcell hb1; (try simp only [World.size_alloc, World.size_setCell, World.size_drew] at hc1 hf1)
      go_wp2_with fail
      go_ret
      exact ⟨by rw [HE.out]; rfl, by (repeat' (first | exact Below.refl _ _ | assumption | (refine Below.alloc ?_ ?_ _) | (refine Below.setCell ?_ ?_ _) | (refine Below.drew ?_) | (refine below_drewN ?_ _) | (refine below_after (Ext.below _) ?_ ?_) | (refine below_after (by assumption) ?_ ?_) | (simp; done) | omega | (simp; omega)))⟩
def Tryz.smallL_ren : Go.Shelf.Ren := ⟨fun | 283 => 282 | n => n, fun | 3 => 3 | 9 => 9 | 4 => 4 | n => n, fun | n => n⟩
theorem Tryz.smallL : Go.Proofs.Lays.n283 Tryz.prog Tryz.smallL_ren := {
  mixed := by kernel_rfl
  f283 := Tryz.func282.trans (congrArg some (by kernel_rfl))
  t3 := Tryz.underlying3
  a3 := Tryz.isAgg3
  z3 := Tryz.sizeOf3
  v3 := Tryz.zeroValue3
  t4 := Tryz.underlying4
  a4 := Tryz.isAgg4
  z4 := Tryz.sizeOf4
  v4 := Tryz.zeroValue4
  t9 := Tryz.underlying9
  a9 := Tryz.isAgg9
  z9 := Tryz.sizeOf9
  v9 := Tryz.zeroValue9 }
theorem lif_small (u : Nat) (hu : u < 100) (w : World) : Calls Tryz.prog 282 #[.int .i64 (u : Int)] w fun e w' => e = .returned (.string ⟨(Lib.decDigits u).toArray⟩) ∧ w = w' := by
  refine (Any.internal_strconv_small Tryz.smallL u hu w).mono ?_
  rintro e w' ⟨rfl, rfl⟩
  exact ⟨rfl, rfl⟩
theorem byI_cells (ds : List UInt8) : (byI ds).flatMap encU = Lib.strCells ⟨ds.toArray⟩ := by
  unfold byI Lib.strCells
  induction ds with
  | nil => rfl
  | cons c l ih => simp [encU] at ih ⊢; exact ih
/-- What an appended numeral leaves. -/
def ApU (w w' : World) (B : Nat) (A : Option Addr) (n c : Nat) (l : List Int) (u : Nat) (v : Value) : Prop :=
  ∃ A' c', v = .slice A' (n + (Lib.decDigits u).length) c' ∧ Own encU 1 5 B w' A' (n + (Lib.decDigits u).length) c' (l ++ byI (Lib.decDigits u)) ∧ w.grownBy w' (Value.slice A n c).ownBlock
theorem dec_len (u : Nat) (hu : u < 100) : (Lib.decDigits u).length ≤ 2 ∧ 0 < (Lib.decDigits u).length := by
  rw [Lib.decDigits_length]
  by_cases h10 : u < 10
  · rw [Lib.nDigits_small h10]; omega
  · rw [Lib.nDigits_big h10, Lib.nDigits_small (show u / 10 < 10 by omega)]; omega
set_option maxHeartbeats 4000000 in
theorem lif_AppendUint (B : Nat) (A : Option Addr) (n c : Nat) (l : List Int) (u : Nat) (w : World) (hown : Own encU 1 5 B w A n c l) (hB : B ≤ w.heap.size) (hn : n ≤ 1000) (hu : u < 100) :
    Calls Tryz.prog 263 #[.slice A n c, .int .u64 (u : Int), .int .i64 10] w fun e w' => ∃ v, e = .returned v ∧ ApU w w' B A n c l u v := by
  have kS := fun w1 => lif_small u hu w1
  have hlen := dec_len u hu
  have hsz : (⟨(Lib.decDigits u).toArray⟩ : ByteArray).size = (Lib.decDigits u).length := by simp [ByteArray.size]
  have d1 : decide ((u : Int) < 100) = true := decide_eq_true (by omega)
  have hi : (Tryz.prog.info? 5).map (fun i => (i.zero, i.size, i.bytes)) = some (some (.int .u8 0), 1, 1) := by kernel_rfl
  obtain ⟨i0, hi, hz0, hz1, hz2⟩ := info_parts hi
  have hrow := hown.row
  have hll := Lib.hid hown.len
  clear hown
  go_enter Tryz.func263, Tryz.ntmps263
  go_wp2_with (first
    | (go_at_call 282; refine (kS _).mono ?_; rintro e w' ⟨rfl, rfl⟩)
    | (at_builtin; refine Lib.wpList_append_own_string _ rfl _ _ 229 9 rfl B 5 i0 Tryz.underlying229 Tryz.underlying9 hi hz0 hz1 hz2 _ _ _ rfl hrow ⟨(Lib.decDigits u).toArray⟩ rfl (by rw [hsz]; unfold maxLen; omega) (by rw [hsz]; omega) hB ?_))
  intro v' w1 hown' hgrow _
  rw [← byI_cells, ← List.flatMap_append] at hown'
  go_wp2_with fail
  go_ret
  refine ⟨v', rfl, ?_⟩
  rcases hown'.2 with ⟨_, h0⟩ | ⟨g, cap, cur, rfl, hr⟩
  · omega
  · exact ⟨_, _, rfl, ⟨⟨hown'.1, .inr ⟨g, cap, cur, rfl, hr⟩⟩, by rw [List.length_append, hll.out]; simp [byI]⟩, hgrow⟩
set_option maxHeartbeats 4000000 in
theorem lif_AppendInt0 (B : Nat) (A : Option Addr) (n c : Nat) (l : List Int) (u : Nat) (w : World) (hown : Own encU 1 5 B w A n c l) (hB : B ≤ w.heap.size) (hn : n ≤ 1000) (hu : u < 100) :
    Calls Tryz.prog 222 #[.slice A n c, .int .i64 (u : Int), .int .i64 10] w fun e w' => ∃ v, e = .returned v ∧ ApU w w' B A n c l u v := by
  have e1 : IntKind.u64.wrap (u : Int) = (u : Int) := by unfold IntKind.wrap; simp [IntKind.bits, IntKind.signed]; omega
  have d1 : decide ((u : Int) < 0) = false := decide_eq_false (by omega)
  have kA := fun w1 h1 h2 => lif_AppendUint B A n c l u w1 h1 h2 hn hu
  go_enter Tryz.func222, Tryz.ntmps222
  go_wp2_with fail
  go_at_call 263
  refine (kA _ hown hB).mono ?_
  rintro e w1 ⟨v, rfl, h⟩
  go_wp2_with fail
  go_ret
  exact ⟨v, rfl, h⟩
theorem lif_AppendInt (B : Nat) (A : Option Addr) (n c : Nat) (l : List Int) (u : Nat) (w : World) (hown : Own encU 1 5 B w A n c l) (hB : B ≤ w.heap.size) (hn : n ≤ 1000) (hu : u < 100) :
    Calls Tryz.prog 170 #[.slice A n c, .int .i64 (u : Int), .int .i64 10] w fun e w' => ∃ v, e = .returned v ∧ ApU w w' B A n c l u v := by
  have kA := fun w1 h1 h2 => lif_AppendInt0 B A n c l u w1 h1 h2 hn hu
  go_enter Tryz.func170, Tryz.ntmps170
  go_wp2_with fail
  go_at_call 222
  refine (kA _ hown hB).mono ?_
  rintro e w1 ⟨v, rfl, h⟩
  go_wp2_with fail
  go_ret
  exact ⟨v, rfl, h⟩
end Go.Proofs.YtellglbmbocgkaaGreatDoor
