/- Life's notation read: digits, letter, Right, Parse, Kind. -/
import Derived.Test.YtellglbmbocgkaaGreatDoorLifS
import Derived.Test.YtellglbmbocgkaaGreatDoorBytM
import Derived.Test.YtellglbmbocgkaaGreatDoorLivP
import Derived.Test.YtellglbmbocgkaaGreatDoorBxP
import Derived.Laws.IdiomStrings
namespace Go.Proofs.YtellglbmbocgkaaGreatDoor
open Go Go.RowKit
set_option linter.unusedSimpArgs false
set_option linter.unusedVariables false
set_option maxRecDepth 100000
set_option linter.unusedSimpArgs false
set_option linter.unusedVariables false
def byI (ds : List UInt8) : List Int := ds.map fun c => (c.toNat : Int)
theorem bytes_rd (w : World) (ds : List UInt8) (cap : Nat) (e : TypeId) (fz : Nat × Nat) :
    Rd encU 1 (w.alloc (.cells (bytesRow ⟨ds.toArray⟩ cap) e fz)) (some ⟨w.heap.size, 0, none⟩) ds.length (byI ds) := by
  refine ⟨by simp [byI], fun _ => ⟨w.heap.size, 0, rfl, by simp, fun i x hi j u hu => ?_⟩⟩
  have h0 : (w.alloc (.cells (bytesRow ⟨ds.toArray⟩ cap) e fz)).heap[w.heap.size]? = some (.cells (bytesRow ⟨ds.toArray⟩ cap) e fz) := by
    show (w.heap.push _)[w.heap.size]? = _
    simp
  have hil := (List.getElem?_eq_some_iff.1 hi).1
  have hj : j = 0 := by
    have := (List.getElem?_eq_some_iff.1 hu).1
    simp [encU] at this; exact this
  subst hj
  rw [cell_of_row _ _ _ _ _ _ h0]
  unfold byI at hi hil
  rw [List.length_map] at hil
  rw [List.getElem?_map, List.getElem?_eq_getElem hil] at hi
  unfold bytesRow
  rw [Array.getElem?_append_left (by simp; omega)]
  simp only [Nat.zero_add, Nat.mul_one, Nat.add_zero, Array.getElem?_map]
  have : (ds.toArray)[i]? = some (ds[i]'hil) := by rw [List.getElem?_toArray, List.getElem?_eq_getElem hil]
  rw [this]
  simp at hi
  simp [encU] at hu
  simp [← hu, ← hi]
/-- The numbers that digits tell. -/
def dgL (ds : List UInt8) : List Int := ds.map fun c => (c.toNat : Int) - 48
set_option maxHeartbeats 4000000 in
theorem lif_digits (ds : List UInt8) (w : World) (hd : ∀ c ∈ ds, 48 ≤ c.toNat ∧ c.toNat ≤ 57) (hl : ds.length ≤ 10) (ha : ascB 9 (dgL ds) (-1) = true) :
    Calls Tryz.prog 108 #[.string ⟨ds.toArray⟩] w fun e w' => ∃ A c, e = .returned (.tuple #[.slice A ds.length c, .bool true]) ∧ Own encI 1 3 w.heap.size w' A ds.length c (dgL ds) ∧ Below w.heap.size w w' := by
  have kc := run_bytes_of_string (P := Tryz.prog) w 9 229 5 ⟨ds.toArray⟩ Tryz.underlying9 Tryz.underlying229 Tryz.underlying5
  have hsz : (⟨ds.toArray⟩ : ByteArray).size = ds.length := by simp [ByteArray.size]
  rw [hsz] at kc
  obtain ⟨cap, hcap⟩ : ∃ cap, cap = grownCap w ds.length 0 5 := ⟨_, rfl⟩
  rw [← hcap] at kc
  have hR := bytes_rd w ds cap 5 ((bytesRow ⟨ds.toArray⟩ cap).size, (bytesRow ⟨ds.toArray⟩ cap).size + 1)
  have hB : Below w.heap.size w (w.alloc (.cells (bytesRow ⟨ds.toArray⟩ cap) 5 ((bytesRow ⟨ds.toArray⟩ cap).size, (bytesRow ⟨ds.toArray⟩ cap).size + 1))) := (Below.refl _ _).alloc (Nat.le_refl _) _
  generalize (bytesRow ⟨ds.toArray⟩ cap) = C at kc hR hB
  have hd := Lib.hid hd
  have ha := Lib.hid ha
  have hlb : (byI ds).length = ds.length := by simp [byI]
  generalize hn : ds.length = n at *
  have hn := Lib.hid hn
  have hlb := Lib.hid hlb
  clear hsz hcap
  go_enter Tryz.func108, Tryz.ntmps108
  go_wp2_with fail
  obtain ⟨we, hwe⟩ : ∃ we, we = w.alloc (.cells C 5 (C.size, C.size + 1)) := ⟨_, rfl⟩
  rw [← hwe] at hR hB ⊢
  clear hwe kc
  have hsw := hB.size
  go_loopw [4, 10] (fun v i wr => ∃ (j : Nat) (A : Option Addr) (c : Nat), v = .slice A j c ∧ i = .int .i64 j ∧ j ≤ n ∧ Own encI 1 3 we.heap.size wr A j c (dgL (ds.take j)) ∧ Below we.heap.size we wr) (fun _ i _ => n - (intOf i).toNat)
  case atStart => exact ⟨0, none, 0, rfl, rfl, by omega, Own.nil_, (Below.refl _ _).drew⟩
  case round =>
    obtain ⟨j, A, c, rfl, rfl, hj, hown, hb⟩ := hrel
    have hs := hb.size
    by_cases hlj : j < n
    · have dj : decide ((j : Int) < n) = true := decide_eq_true (by omega)
      obtain ⟨x, b, o, hx, hA, hbl, c0⟩ := (hR.of hb).byte hlj
      injection hA with hA
      injection hA with hA1 hA2
      subst hA1 hA2
      have hjd : j < ds.length := by rw [hn.out]; exact hlj
      have hx1 : x = ((ds[j]'hjd).toNat : Int) := by
        have := hx.out
        unfold byI at this
        rw [List.getElem?_map, List.getElem?_eq_getElem hjd] at this
        simp at this; exact this.symm
      have hr := hd.out _ (List.getElem_mem hjd)
      have hst := Lib.hid (show dgL (ds.take (j + 1)) = dgL (ds.take j) ++ [x - 48] by
        rw [List.take_add_one, List.getElem?_eq_getElem hjd, hx1]
        show dgL (ds.take j ++ [ds[j]'hjd]) = _
        unfold dgL
        rw [List.map_append]; rfl)
      rw [Nat.zero_add] at c0
      have hx0 : 48 ≤ x ∧ x ≤ 57 := by omega
      obtain ⟨hx2, hx3⟩ := hx0
      have d1 : decide (x < 48) = false := decide_eq_false (by omega)
      have d2 : decide (57 < x) = false := decide_eq_false (by omega)
      have e1 : IntKind.u8.wrap (x - 48) = x - 48 := by unfold IntKind.wrap; simp [IntKind.bits, IntKind.signed]; omega
      have e2 : IntKind.i64.wrap (x - 48) = x - 48 := IntWalk.i64_in _ (by omega)
      have hl' := Lib.hid hl
      have hjn := hn.out
      have hj10 : j ≤ 9 := by omega
      clear hx hx1 hr hjd hl hjn
      go_wp2_with (first | (at_builtin; refine wpList_append_el rfl (.tmp 20) (.tmp 24) 54 rfl encI 1 3 (.int .i64 0) 8 Tryz.underlying54 (by kernel_rfl) rfl (by decide) encI_len encI_one (we.heap.size) _ _ _ _ rfl (hown.alloc _) (x - 48) ⟨(wr).heap.size, 0, none⟩ 1 rfl (cells_new (wr) _ _) (by omega) (by omega) (by first | omega | (simp; done) | (simp; omega)) ?_; intro A1 c1 w1 hown1 hg1 hb1; obtain ⟨hc1, hf1⟩ := bcell hb1; have hs1 := hb1.size; (try simp only [World.size_alloc, World.size_setCell, World.size_drew] at hc1 hf1); (try simp at hs1)))
      go_roundw
      case rel => exact ⟨j + 1, A1, c1, rfl, by go_num, by omega, by rw [hst.out]; exact hown1, by (repeat' (first | exact Below.refl _ _ | assumption | (refine Below.alloc ?_ ?_ _) | (refine Below.setCell ?_ ?_ _) | (refine Below.drew ?_) | (refine below_drewN ?_ _) | (refine below_after (Ext.below _) ?_ ?_) | (refine below_after (by assumption) ?_ ?_) | (simp; done) | omega | (simp; omega)))⟩
      case measure => simp [intOf]; omega
    · obtain rfl : j = n := by omega
      have dj : decide ((j : Int) < j) = false := decide_eq_false (by omega)
      have dj' : decide (j < j) = false := decide_eq_false (by omega)
      have ht : ds.take j = ds := List.take_of_length_le (by rw [hn.out]; exact Nat.le_refl _)
      rw [ht] at hown
      have hRd := hown.rd encI_len
      clear ht
      go_wp2_with fail; go_at_call 162; refine (lif_ascends A j c (dgL ds) 9 _ hRd (by omega) ha.out).mono ?_; rintro e w1 ⟨rfl, hb1⟩; have hs1 := hb1.size; (try simp only [World.size_alloc, World.size_drew, World.size_setCell] at hs1)
      go_wp2_with fail
      go_ret2
      exact ⟨A, c, rfl, (hown.of hb1).more hsw, by (repeat' (first | exact Below.refl _ _ | assumption | (refine Below.alloc ?_ ?_ _) | (refine Below.setCell ?_ ?_ _) | (refine Below.drew ?_) | (refine below_drewN ?_ _) | (refine below_after (Ext.below _) ?_ ?_) | (refine below_after (by assumption) ?_ ?_) | (simp; done) | omega | (simp; omega)))⟩
theorem moo_sq : sqL (fun _ _ => true) 1 = mooH := by decide +kernel
theorem lif_Moore (w : World) : Calls Tryz.prog 104 #[.int .i64 1] w fun e w' => ∃ A c, e = .returned (.slice A 9 c) ∧ Rd encP 2 w' A 9 mooH ∧ Below w.heap.size w w' := by
  have kM := fun w1 => collect_Moore 1 (by omega) w1
  go_enter Tryz.func104, Tryz.ntmps104
  go_wp2_with fail
  go_at_call 157
  refine (kM _).mono ?_
  rintro e w1 ⟨A, n, c, rfl, hR, hn, hb⟩
  rw [moo_sq] at hR
  obtain rfl : 9 = n := hR.len
  go_wp2_with fail
  go_ret
  exact ⟨A, c, rfl, hR, hb⟩
theorem lif_letter (A : Option Addr) (c : Nat) (w : World) (hR : Rd encP 2 w A 9 mooH) :
    Calls Tryz.prog 163 #[.slice A 9 c] w fun e w' => e = .returned (.tuple #[.string ⟨#[]⟩, .bool true]) ∧ Below w.heap.size w w' := by
  have kS := fun w1 (A2 : Option Addr) (c2 : Nat) (h : Rd encP 2 w1 A 9 mooH) (h2 : Rd encP 2 w1 A2 9 mooH) => hood_Same A A2 9 9 c c2 mooH mooH w1 h h2 (by omega)
  rw [show sameL mooH mooH = true by decide +kernel] at kS
  go_enter Tryz.func163, Tryz.ntmps163
  go_wp2_with fail
  go_at_call 104
  refine (lif_Moore _).mono ?_
  rintro e w1 ⟨A1, c1, rfl, hR1, hb1⟩
  have hRa := hR.of hb1
  have hs1 := hb1.size
  go_wp2_with fail; go_at_call 214; refine (kS _ _ _ hRa hR1).mono ?_; rintro e w2 ⟨rfl, hb2⟩; have hs2 := hb2.size; (try simp only [World.size_alloc, World.size_drew, World.size_setCell] at hs2)
  go_wp2_with fail
  go_ret2
  exact ⟨rfl, by (repeat' (first | exact Below.refl _ _ | assumption | (refine Below.alloc ?_ ?_ _) | (refine Below.setCell ?_ ?_ _) | (refine Below.drew ?_) | (refine below_drewN ?_ _) | (refine below_after (Ext.below _) ?_ ?_) | (refine below_after (by assumption) ?_ ?_) | (simp; done) | omega | (simp; omega)))⟩
set_option maxHeartbeats 4000000 in
theorem lif_Right (A B C : Option Addr) (a b c : Nat) (w : World) (hA : Rd encP 2 w A 9 mooH) (hB : Rd encI 1 w B 1 [3]) (hC : Rd encI 1 w C 2 [2, 3]) :
    Calls Tryz.prog 109 #[.agg #[.slice A 9 a, .int .i64 2, .slice B 1 b, .slice C 2 c]] w fun e w' => e = .returned (.bool true) ∧ Below w.heap.size w w' := by
  have kL := fun w1 h => lif_letter A a w1 h
  have kB := fun w1 h => lif_ascends B 1 b [3] 8 w1 h (by omega) (by decide +kernel)
  have kC := fun w1 h => lif_ascends C 2 c [2, 3] 8 w1 h (by omega) (by decide +kernel)
  go_enter Tryz.func109, Tryz.ntmps109
  go_wp2_with fail
  have hbx : BxW (w.alloc (.cells #[.slice A 9 a, .int .i64 2, .slice B 1 b, .slice C 2 c] 118)) w.heap.size [.slice A 9 a, .int .i64 2, .slice B 1 b, .slice C 2 c] := BxW.new w _ _
  have hbe : Below w.heap.size w (w.alloc (.cells #[.slice A 9 a, .int .i64 2, .slice B 1 b, .slice C 2 c] 118)) := (Below.refl _ _).alloc (Nat.le_refl _) _
  obtain ⟨we, hwe⟩ : ∃ we, we = w.alloc (.cells #[.slice A 9 a, .int .i64 2, .slice B 1 b, .slice C 2 c] 118) := ⟨_, rfl⟩
  rw [← hwe] at hbx hbe ⊢
  clear hwe
  have hA1 := hA.of hbe
  have hB1 := hB.of hbe
  have hC1 := hC.of hbe
  clear hA hB hC
  obtain ⟨hbl, g0, g1, g2, g3, _⟩ := hbx.open4
  go_wp2_with fail; go_at_call 163; refine (kL _ hA1).mono ?_; rintro e w1 ⟨rfl, hb1⟩; have hs1 := hb1.size; (try simp only [World.size_alloc, World.size_drew, World.size_setCell] at hs1); obtain ⟨hc1, hf1⟩ := bcell hb1; (try simp only [World.size_alloc, World.size_setCell, World.size_drew] at hc1 hf1)
  have hB2 := hB1.of hb1
  go_wp2_with fail; go_at_call 162; refine (kB _ hB2).mono ?_; rintro e w2 ⟨rfl, hb2⟩; have hs2 := hb2.size; (try simp only [World.size_alloc, World.size_drew, World.size_setCell] at hs2); obtain ⟨hc2, hf2⟩ := bcell hb2; (try simp only [World.size_alloc, World.size_setCell, World.size_drew] at hc2 hf2)
  have hC2 := hC1.of (below_thru hb1 hb2)
  go_wp2_with fail; go_at_call 162; refine (kC _ hC2).mono ?_; rintro e w3 ⟨rfl, hb3⟩; have hs3 := hb3.size; (try simp only [World.size_alloc, World.size_drew, World.size_setCell] at hs3)
  go_wp2_with fail
  go_ret
  exact ⟨rfl, by (repeat' (first | exact Below.refl _ _ | assumption | (refine Below.alloc ?_ ?_ _) | (refine Below.setCell ?_ ?_ _) | (refine Below.drew ?_) | (refine below_drewN ?_ _) | (refine below_after (Ext.below _) ?_ ?_) | (refine below_after (by assumption) ?_ ?_) | (simp; done) | omega | (simp; omega)))⟩
/-- A row of many positions is no small box. -/
theorem Rd.box {w : World} {A : Option Addr} {n b : Nat} {l : List (Int × Int)} {vs : List Value} (h : Rd encP 2 w A n l) (hx : BxW w b vs) (hl : vs.length < 2 * n) (i : Nat) (v : Value) : Rd encP 2 (w.setCell ⟨b, i, none⟩ v) A n l := by
  refine ⟨h.1, fun hn => ?_⟩
  obtain ⟨g, o, rfl, hg, hc⟩ := h.2 hn
  have hne : b ≠ g := by
    rintro rfl
    have hln : n - 1 < l.length := by rw [h.1]; omega
    have h1 := hc (n - 1) _ (List.getElem?_eq_getElem hln) 1 _ rfl
    rw [hx.2.1, List.getElem?_eq_none (by omega)] at h1
    cases h1
  refine ⟨g, o, rfl, by rw [World.size_setCell]; exact hg, fun i' x hi j u hu => ?_⟩
  rw [cell_setCell_if, if_neg (fun e => hne e.1)]
  exact hc i' x hi j u hu
theorem arr4 (a b c d : Value) : [a, b, c, d].toArray = #[a, b, c, d] := rfl
set_option maxHeartbeats 4000000 in
theorem lif_Parse (w : World) (hM : Mlx w) : Calls Tryz.prog 61 #[.string ⟨#[66, 51, 47, 83, 50, 51]⟩] w fun e w' => ∃ A a B b C c, e = .returned (.tuple #[.agg #[.slice A 9 a, .int .i64 2, .slice B 1 b, .slice C 2 c], .int .i64 0]) ∧ Rd encP 2 w' A 9 mooH ∧ Rd encI 1 w' B 1 [3] ∧ Rd encI 1 w' C 2 [2, 3] ∧ Below w.heap.size w w' := by
  have k1 := fun w1 => lif_digits [51] w1 (by decide) (by decide) (by decide +kernel)
  have k2 := fun w1 => lif_digits [50, 51] w1 (by decide) (by decide) (by decide +kernel)
  simp only [List.length_cons, List.length_nil, Nat.zero_add, Nat.reduceAdd, show dgL [51] = [3] from rfl, show dgL [50, 51] = [2, 3] from rfl] at k1 k2
  go_enter Tryz.func61, Tryz.ntmps61
  go_wp2_with fail
  have hr := BxW.new w [.slice none 0 0, .int .i64 0, .slice none 0 0, .slice none 0 0] 118
  rw [arr4] at hr
  have hbe : Below w.heap.size w (w.alloc (.cells #[.slice none 0 0, .int .i64 0, .slice none 0 0, .slice none 0 0] 118)) := (Below.refl _ _).alloc (Nat.le_refl _) _
  obtain ⟨we, hwe⟩ : ∃ we, we = w.alloc (.cells #[.slice none 0 0, .int .i64 0, .slice none 0 0, .slice none 0 0] 118) := ⟨_, rfl⟩
  have hse : we.heap.size = w.heap.size + 1 := by rw [hwe]; simp
  rw [← hwe] at hr hbe ⊢
  clear hwe
  have hM1 := hM.of hbe
  clear hM
  (go_at_call 102; refine (lif_pre _).mono ?_; rintro e w' ⟨rfl, rfl⟩)
  go_wp2_with fail; go_at_call 103; refine (lif_cut _ hM1).mono ?_; rintro e w1 ⟨rfl, hb1⟩; have hs1 := hb1.size; (try simp only [World.size_alloc, World.size_drew, World.size_setCell] at hs1)
  go_wp2_with fail
  go_at_call 104
  refine (lif_Moore _).mono ?_
  rintro e w2 ⟨A, a, rfl, hA, hb2⟩
  have hr2 := (hr.of hb1).of hb2
  have hs2 := hb2.size
  go_wp2_with fail
  have hx := BxW.new w2 [.slice A 9 a, .int .i64 2, .slice none 0 0, .slice none 0 0] 118
  rw [arr4] at hx
  have hb3 : Below w2.heap.size w2 (w2.alloc (.cells #[.slice A 9 a, .int .i64 2, .slice none 0 0, .slice none 0 0] 118)) := (Below.refl _ _).alloc (Nat.le_refl _) _
  obtain ⟨w3, hw3⟩ : ∃ w3, w3 = w2.alloc (.cells #[.slice A 9 a, .int .i64 2, .slice none 0 0, .slice none 0 0] 118) := ⟨_, rfl⟩
  have hs3 : w3.heap.size = w2.heap.size + 1 := by rw [hw3]; simp
  rw [← hw3] at hx hb3 ⊢
  clear hw3
  have hr3 := hr2.of hb3
  clear hr hr2 hM1
  (go_at_call 105; refine (lif_sufV _).mono ?_; rintro e w' ⟨rfl, rfl⟩)
  go_wp2_with fail
  (go_at_call 105; refine (lif_sufH _).mono ?_; rintro e w' ⟨rfl, rfl⟩)
  go_wp2_with fail
  go_at_call 108
  refine (k1 _).mono ?_
  rintro e w4 ⟨B, b, rfl, hB, hb4⟩
  have hs4 := hb4.size
  have hx4 := hx.of hb4
  have hr4 := hr3.of hb4
  obtain ⟨_, _, _, g2, _, _, _, f2, _⟩ := hx4.open4
  clear hx hr3
  go_wp2_with fail
  have hx5 := hx4.put 2 (.slice B 1 b) (by simp)
  have hr5 := hr4.off 2 (.slice B 1 b) (b2 := w2.heap.size) (by omega)
  have hB5 := hB.setBelow (b := w2.heap.size) (i := 2) (by omega) (.slice B 1 b)
  have hb5 : Below w2.heap.size w2 (w4.setCell ⟨w2.heap.size, 2, none⟩ (.slice B 1 b)) := by (repeat' (first | exact Below.refl _ _ | assumption | (refine Below.alloc ?_ ?_ _) | (refine Below.setCell ?_ ?_ _) | (refine Below.drew ?_) | (refine below_drewN ?_ _) | (refine below_after (Ext.below _) ?_ ?_) | (refine below_after (by assumption) ?_ ?_) | (simp; done) | omega | (simp; omega)))
  obtain ⟨w5, hw5⟩ : ∃ w5, w5 = w4.setCell ⟨w2.heap.size, 2, none⟩ (.slice B 1 b) := ⟨_, rfl⟩
  have hs5 : w5.heap.size = w4.heap.size := by rw [hw5]; simp
  rw [← hw5] at hx5 hr5 hB5 hb5 ⊢
  clear hw5 hx4 hr4 hB g2 f2
  go_at_call 108
  refine (k2 _).mono ?_
  rintro e w6 ⟨C, c, rfl, hC, hb6⟩
  have hs6 := hb6.size
  have hx6 := hx5.of hb6
  have hr6 := hr5.of hb6
  have hB6 := hB5.of hb6
  obtain ⟨_, _, _, _, g3, _, _, _, f3⟩ := hx6.open4
  clear hx5 hr5 hB5
  go_wp2_with fail
  have hx7 := hx6.put 3 (.slice C 2 c) (by simp)
  have hr7 := hr6.off 3 (.slice C 2 c) (b2 := w2.heap.size) (by omega)
  have hB7 := hB6.setBelow (b := w2.heap.size) (i := 3) (by omega) (.slice C 2 c)
  have hC7 := hC.setBelow (b := w2.heap.size) (i := 3) (by omega) (.slice C 2 c)
  have hb7 : Below w2.heap.size w2 (w6.setCell ⟨w2.heap.size, 3, none⟩ (.slice C 2 c)) := by (repeat' (first | exact Below.refl _ _ | assumption | (refine Below.alloc ?_ ?_ _) | (refine Below.setCell ?_ ?_ _) | (refine Below.drew ?_) | (refine below_drewN ?_ _) | (refine below_after (Ext.below _) ?_ ?_) | (refine below_after (by assumption) ?_ ?_) | (simp; done) | omega | (simp; omega)))
  obtain ⟨w7, hw7⟩ : ∃ w7, w7 = w6.setCell ⟨w2.heap.size, 3, none⟩ (.slice C 2 c) := ⟨_, rfl⟩
  have hs7 : w7.heap.size = w6.heap.size := by rw [hw7]; simp
  rw [← hw7] at hx7 hr7 hB7 hC7 hb7 ⊢
  clear hw7 hx6 hr6 hB6 hC g3 f3
  have hA7 := hA.of hb7
  have hBr := hB7.rd encI_len
  have hCr := hC7.rd encI_len
  refine (lif_Right A B C a b c _ hA7 hBr hCr).mono ?_
  rintro e w8 ⟨rfl, hb8⟩
  have hs8 := hb8.size
  have hx8 := hx7.of hb8
  have hr8 := hr7.of hb8
  obtain ⟨_, g0, g1, g2, g3, _⟩ := hx8.open4
  obtain ⟨hrb, r0, r1, r2, r3, q0, q1, q2, q3⟩ := hr8.open4
  have hb9 : Below w.heap.size w w8 := by (repeat' (first | exact Below.refl _ _ | assumption | (refine Below.alloc ?_ ?_ _) | (refine Below.setCell ?_ ?_ _) | (refine Below.drew ?_) | (refine below_drewN ?_ _) | (refine below_after (Ext.below _) ?_ ?_) | (refine below_after (by assumption) ?_ ?_) | (simp; done) | omega | (simp; omega)))
  have hA8 := hA7.of hb8
  have hB8 := hB7.of hb8
  have hC8 := hC7.of hb8
  clear hx8 hx7 hr7 hA7 hB7 hC7 hBr hCr hb7 hb8 hA
  go_wp2_with fail
  refine bodyPost_ret (v := .tuple #[.agg #[.slice A 9 a, .int .i64 2, .slice B 1 b, .slice C 2 c], .int .i64 0]) (by simp [results, Tryz.results61, go_sem, *, ↓IntWalk.iteOmega]) rfl ?_
  have hrl : ∀ v0 v1 v2 v3 : Value, [v0, v1, v2, v3].length < 2 * 9 := fun _ _ _ _ => by simp
  have z0 := hr8.put 0 (.slice A 9 a) (by simp)
  have z1 := z0.put 1 (.int .i64 2) (by simp)
  have z2 := z1.put 2 (.slice B 1 b) (by simp)
  have hA9 := (((hA8.box hr8 (hrl _ _ _ _) 0 (.slice A 9 a)).box z0 (hrl _ _ _ _) 1 (.int .i64 2)).box z1 (hrl _ _ _ _) 2 (.slice B 1 b)).box z2 (hrl _ _ _ _) 3 (.slice C 2 c)
  have hB9 := (((hB8.setBelow (b := w.heap.size) (i := 0) (by omega) (.slice A 9 a)).setBelow (b := w.heap.size) (i := 1) (by omega) (.int .i64 2)).setBelow (b := w.heap.size) (i := 2) (by omega) (.slice B 1 b)).setBelow (b := w.heap.size) (i := 3) (by omega) (.slice C 2 c)
  have hC9 := (((hC8.setBelow (b := w.heap.size) (i := 0) (by omega) (.slice A 9 a)).setBelow (b := w.heap.size) (i := 1) (by omega) (.int .i64 2)).setBelow (b := w.heap.size) (i := 2) (by omega) (.slice B 1 b)).setBelow (b := w.heap.size) (i := 3) (by omega) (.slice C 2 c)
  exact ⟨A, a, B, b, C, c, rfl, hA9, hB9.rd encI_len, hC9.rd encI_len, by (repeat' (first | exact Below.refl _ _ | assumption | (refine Below.alloc ?_ ?_ _) | (refine Below.setCell ?_ ?_ _) | (refine Below.drew ?_) | (refine below_drewN ?_ _) | (refine below_after (Ext.below _) ?_ ?_) | (refine below_after (by assumption) ?_ ?_) | (simp; done) | omega | (simp; omega)))⟩
set_option maxHeartbeats 4000000 in
theorem lif_Kind (w : World) (hM : Mlx w) : Calls Tryz.prog 60 #[.string ⟨#[66, 51, 47, 83, 50, 51]⟩] w fun e w' => e = .returned (.int .i64 1) ∧ Below w.heap.size w w' := by
  have kP := fun w1 h => lif_Parse w1 h
  go_enter Tryz.func60, Tryz.ntmps60
  go_wp2_with fail
  go_at_call 61
  refine (kP _ hM).mono ?_
  rintro e w1 ⟨A, a, B, b, C, c, rfl, _, _, _, hb⟩
  have hs := hb.size
  go_wp2_with fail
  go_ret
  exact ⟨rfl, by (repeat' (first | exact Below.refl _ _ | assumption | (refine Below.alloc ?_ ?_ _) | (refine Below.setCell ?_ ?_ _) | (refine Below.drew ?_) | (refine below_drewN ?_ _) | (refine below_after (Ext.below _) ?_ ?_) | (refine below_after (by assumption) ?_ ?_) | (simp; done) | omega | (simp; omega)))⟩
end Go.Proofs.YtellglbmbocgkaaGreatDoor
