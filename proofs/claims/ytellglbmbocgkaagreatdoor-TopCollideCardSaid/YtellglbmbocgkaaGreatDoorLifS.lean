/- Strings that the rule's notation needs: CutPrefix, CutSuffix, Cut at the fixed text of Life; digits. -/
import Derived.Test.YtellglbmbocgkaaGreatDoorHOO
import Derived.Test.YtellglbmbocgkaaGreatDoorProg
import Derived.Test.YtellglbmbocgkaaGreatDoorMEM
import Derived.Test.YtellglbmbocgkaaGreatDoorPLN
import Derived.Shelf.Small.Wraps
import Derived.Shelf.Strings.Cut
import Derived.Ground.NamesProg
namespace Go.Proofs.YtellglbmbocgkaaGreatDoor
open Go Go.RowKit Go.Shelf
set_option linter.unusedSimpArgs false
set_option linter.unusedVariables false
set_option maxRecDepth 100000
set_option linter.unusedSimpArgs false
set_option linter.unusedVariables false
def Tryz.cutPre_ren : Go.Shelf.Ren := ⟨fun | 103 => 102 | 210 => 155 | 206 => 153 | n => n, fun | 9 => 9 | 4 => 4 | 24 => 166 | 3 => 3 | n => n, fun | n => n⟩
theorem Tryz.cutPre : Go.Proofs.Lays.n103 Tryz.prog Tryz.cutPre_ren := {
  mixed := by kernel_rfl
  f103 := Tryz.func102.trans (congrArg some (by kernel_rfl))
  f206 := Tryz.func153.trans (congrArg some (by kernel_rfl))
  f210 := Tryz.func155.trans (congrArg some (by kernel_rfl))
  t3 := Tryz.underlying3
  a3 := Tryz.isAgg3
  z3 := Tryz.sizeOf3
  v3 := Tryz.zeroValue3
  t4 := Tryz.underlying4
  a4 := Tryz.isAgg4
  z4 := Tryz.sizeOf4
  v4 := Tryz.zeroValue4
  t9 := Tryz.underlying9
  a9 := Tryz.isAgg9
  z9 := Tryz.sizeOf9
  v9 := Tryz.zeroValue9
  t24 := Tryz.underlying166
  a24 := Tryz.isAgg166
  z24 := Tryz.sizeOf166
  v24 := Tryz.zeroValue166 }
def Tryz.cutSuf_ren : Go.Shelf.Ren := ⟨fun | 104 => 105 | 211 => 159 | 207 => 213 | n => n, fun | 9 => 9 | 4 => 4 | 24 => 166 | 3 => 3 | n => n, fun | n => n⟩
theorem Tryz.cutSuf : Go.Proofs.Lays.n104 Tryz.prog Tryz.cutSuf_ren := {
  mixed := by kernel_rfl
  f104 := Tryz.func105.trans (congrArg some (by kernel_rfl))
  f207 := Tryz.func213.trans (congrArg some (by kernel_rfl))
  f211 := Tryz.func159.trans (congrArg some (by kernel_rfl))
  t3 := Tryz.underlying3
  a3 := Tryz.isAgg3
  z3 := Tryz.sizeOf3
  v3 := Tryz.zeroValue3
  t4 := Tryz.underlying4
  a4 := Tryz.isAgg4
  z4 := Tryz.sizeOf4
  v4 := Tryz.zeroValue4
  t9 := Tryz.underlying9
  a9 := Tryz.isAgg9
  z9 := Tryz.sizeOf9
  v9 := Tryz.zeroValue9
  t24 := Tryz.underlying166
  a24 := Tryz.isAgg166
  z24 := Tryz.sizeOf166
  v24 := Tryz.zeroValue166 }
def Tryz.cutAll_ren : Go.Shelf.Ren := ⟨fun | 145 => 103 | 220 => 156 | 219 => 212 | 217 => 251 | 225 => 252 | 224 => 253 | 267 => 254 | 266 => 276 | 314 => 277 | n => n, fun | 9 => 9 | 4 => 4 | 59 => 168 | 3 => 3 | 5 => 5 | 46 => 216 | 146 => 342 | 51 => 270 | n => n, fun | 1 => 2 | n => n⟩
theorem Tryz.cutAll : Go.Proofs.Lays.n145 Tryz.prog Tryz.cutAll_ren := {
  mixed := by kernel_rfl
  f145 := Tryz.func103.trans (congrArg some (by kernel_rfl))
  f217 := Tryz.func251.trans (congrArg some (by kernel_rfl))
  f219 := Tryz.func212.trans (congrArg some (by kernel_rfl))
  f220 := Tryz.func156.trans (congrArg some (by kernel_rfl))
  f224 := Tryz.func253.trans (congrArg some (by kernel_rfl))
  f225 := Tryz.func252.trans (congrArg some (by kernel_rfl))
  f266 := Tryz.func276.trans (congrArg some (by kernel_rfl))
  f267 := Tryz.func254.trans (congrArg some (by kernel_rfl))
  f314 := Tryz.func277.trans (congrArg some (by kernel_rfl))
  t3 := Tryz.underlying3
  a3 := Tryz.isAgg3
  z3 := Tryz.sizeOf3
  v3 := Tryz.zeroValue3
  t4 := Tryz.underlying4
  a4 := Tryz.isAgg4
  z4 := Tryz.sizeOf4
  v4 := Tryz.zeroValue4
  t5 := Tryz.underlying5
  a5 := Tryz.isAgg5
  z5 := Tryz.sizeOf5
  v5 := Tryz.zeroValue5
  t9 := Tryz.underlying9
  a9 := Tryz.isAgg9
  z9 := Tryz.sizeOf9
  v9 := Tryz.zeroValue9
  t46 := Tryz.underlying216
  a46 := Tryz.isAgg216
  z46 := Tryz.sizeOf216
  v46 := Tryz.zeroValue216
  t51 := Tryz.underlying270
  a51 := Tryz.isAgg270
  z51 := Tryz.sizeOf270
  v51 := Tryz.zeroValue270
  t59 := Tryz.underlying168
  a59 := Tryz.isAgg168
  z59 := Tryz.sizeOf168
  v59 := Tryz.zeroValue168
  t146 := Tryz.underlying342
  a146 := Tryz.isAgg342
  z146 := Tryz.sizeOf342
  v146 := Tryz.zeroValue342
  g1 := by kernel_rfl }
/-- The library's variable MaxLen holds some number. -/
def Mlx (w : World) : Prop := ∃ m : Int, 2 < w.heap.size ∧ w.cell? ⟨2, 0, none⟩ = some (.int .i64 m)
theorem Mlx.of {w w' : World} (h : Mlx w) (hb : Below w.heap.size w w') : Mlx w' := by
  obtain ⟨m, h1, h2⟩ := h
  exact ⟨m, by have := hb.size; omega, by rw [hb.cell (p := ⟨_, _, none⟩) h1]; exact h2⟩
theorem lif_pre (w : World) : Calls Tryz.prog 102 #[.string ⟨#[66, 51, 47, 83, 50, 51]⟩, .string ⟨#[66]⟩] w fun e w' => e = .returned (.tuple #[.string ⟨#[51, 47, 83, 50, 51]⟩, .bool true]) ∧ w = w' := by
  refine (Any.strings_CutPrefix Tryz.cutPre ⟨#[66, 51, 47, 83, 50, 51]⟩ ⟨#[66]⟩ w).mono ?_
  rintro e w' ⟨rfl, rfl⟩
  exact ⟨by rfl, rfl⟩
theorem lif_sufV (w : World) : Calls Tryz.prog 105 #[.string ⟨#[50, 51]⟩, .string ⟨#[86]⟩] w fun e w' => e = .returned (.tuple #[.string ⟨#[50, 51]⟩, .bool false]) ∧ w = w' := by
  refine (Any.strings_CutSuffix Tryz.cutSuf ⟨#[50, 51]⟩ ⟨#[86]⟩ w (by decide)).mono ?_
  rintro e w' ⟨rfl, rfl⟩
  exact ⟨by rfl, rfl⟩
theorem lif_sufH (w : World) : Calls Tryz.prog 105 #[.string ⟨#[50, 51]⟩, .string ⟨#[72]⟩] w fun e w' => e = .returned (.tuple #[.string ⟨#[50, 51]⟩, .bool false]) ∧ w = w' := by
  refine (Any.strings_CutSuffix Tryz.cutSuf ⟨#[50, 51]⟩ ⟨#[72]⟩ w (by decide)).mono ?_
  rintro e w' ⟨rfl, rfl⟩
  exact ⟨by rfl, rfl⟩
theorem lif_cut (w : World) (h : Mlx w) : Calls Tryz.prog 103 #[.string ⟨#[51, 47, 83, 50, 51]⟩, .string ⟨#[47, 83]⟩] w fun e w' => e = .returned (.tuple #[.string ⟨#[51]⟩, .string ⟨#[50, 51]⟩, .bool true]) ∧ Below w.heap.size w w' := by
  obtain ⟨m, _, hm⟩ := h
  refine (Any.strings_Cut Tryz.cutAll ⟨#[51, 47, 83, 50, 51]⟩ ⟨#[47, 83]⟩ m w (by decide) hm).mono ?_
  rintro e w' ⟨rfl, n, rfl⟩
  exact ⟨by rfl, below_drewN (Below.refl _ _) n⟩
/-- A list of small numbers ascends strictly and ends at n. -/
def ascB (n : Int) : List Int → Int → Bool
  | [], _ => true
  | k :: l, m => decide (m < k) && decide (k ≤ n) && ascB n l k
set_option maxHeartbeats 4000000 in
theorem lif_ascends (A : Option Addr) (n c : Nat) (l : List Int) (m : Int) (w : World) (hR : Rd encI 1 w A n l) (hn : n ≤ 1000000) (ha : ascB m l (-1) = true) :
    Calls Tryz.prog 162 #[.slice A n c, .int .i64 m] w fun e w' => e = .returned (.bool true) ∧ Below w.heap.size w w' := by
  have ha := Lib.hid ha
  have hl := Lib.hid hR.len
  go_enter Tryz.func162, Tryz.ntmps162
  go_wp2_with fail
  go_loop [5, 10] (fun t i => ∃ (j : Nat) (v : Int), t = .int .i64 v ∧ i = .int .i64 j ∧ j ≤ n ∧ Hid (ascB m (l.drop j) v = true)) (fun t i => n - (intOf i).toNat)
  case atStart => exact ⟨0, -1, rfl, rfl, by omega, Lib.hid ha.out⟩
  case round =>
    obtain ⟨j, v, rfl, rfl, hj, hv⟩ := hrel
    by_cases hlj : j < n
    · have dj : decide ((j : Int) < n) = true := decide_eq_true (by omega)
      obtain ⟨x, b, o, hx, rfl, hb, c0⟩ := hR.int hlj
      have hd : l.drop j = x :: l.drop (j + 1) := by
        obtain ⟨h1, h2⟩ := List.getElem?_eq_some_iff.1 hx.out
        rw [← h2]; exact List.drop_eq_getElem_cons h1
      have hv2 := hv.out
      rw [hd] at hv2
      simp only [ascB, Bool.and_eq_true, decide_eq_true_eq] at hv2
      obtain ⟨⟨h1, h2⟩, h3⟩ := hv2
      have d1 : decide (x ≤ v) = false := decide_eq_false (by omega)
      have d2 : decide (m < x) = false := decide_eq_false (by omega)
      have h3 := Lib.hid h3
      clear hd hv
      go_wp2_with fail
      go_round
      case rel => exact ⟨j + 1, x, rfl, by go_num, by omega, h3⟩
      case measure => simp [intOf]; omega
    · have dj : decide ((j : Int) < n) = false := decide_eq_false (by omega)
      go_wp2_with fail
      go_ret
      exact ⟨rfl, by (repeat' (first | exact Below.refl _ _ | assumption | (refine Below.alloc ?_ ?_ _) | (refine Below.setCell ?_ ?_ _) | (refine Below.drew ?_) | (refine below_drewN ?_ _) | (refine below_after (Ext.below _) ?_ ?_) | (refine below_after (by assumption) ?_ ?_) | (simp; done) | omega | (simp; omega)))⟩
end Go.Proofs.YtellglbmbocgkaaGreatDoor
