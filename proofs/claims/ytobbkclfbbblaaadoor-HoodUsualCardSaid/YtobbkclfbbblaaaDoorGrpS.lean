/- The contract of the program's Group. -/
import Derived.Test.YtobbkclfbbblaaaDoorSym2
import Derived.Test.YtobbkclfbbblaaaDoorGrpT
import Derived.Test.YtobbkclfbbblaaaDoorOwn
namespace Go.Proofs.YtobbkclfbbblaaaDoor
open Go Go.RowKit
set_option linter.unusedSimpArgs false
set_option linter.unusedVariables false
set_option maxRecDepth 100000
theorem idx8 (S : Nat → Bool) (k : Nat) (hk : k < 8) : ∀ w, (Instr.index 61 (.agg #[.bool (S 0), .bool (S 1), .bool (S 2), .bool (S 3), .bool (S 4), .bool (S 5), .bool (S 6), .bool (S 7)]) (.int .i64 (k : Int))).run Tryd.prog w = .ok (.bool (S k)) w := by
  have h : k = 0 ∨ k = 1 ∨ k = 2 ∨ k = 3 ∨ k = 4 ∨ k = 5 ∨ k = 6 ∨ k = 7 := by omega
  rcases h with rfl | rfl | rfl | rfl | rfl | rfl | rfl | rfl <;> (intro w; kernel_rfl)
theorem sym_ComposeN (a b : Nat) (ha : a < 8) (hb : b < 8) (w : World) (hM : Mx w) :
    Calls Tryd.prog 17 #[.int .i64 (a : Int), .int .i64 (b : Int)] w fun e w' => e = .returned (.int .i64 ((cm a b : Nat) : Int)) ∧ Below w.heap.size w w' := by
  rw [← comp_nat ha hb]; exact sym_Compose _ _ w hM
theorem and7_r8 (x : Int) : bits .and .i64 x 7 = ((r8 x : Nat) : Int) := by rw [i64_and7, r8_cast]
set_option maxHeartbeats 1000000 in
theorem sym_Group (A0 : Option Addr) (nl cl : Nat) (l : List Int) (w : World) (hM : Mx w) (hR : Rd encI 1 w A0 nl l) (hn : nl ≤ 4611686018427387904) :
    Calls Tryd.prog 26 #[.slice A0 nl cl] w fun e w' => ∃ A n c, e = .returned (.slice A n c) ∧ Rd encI 1 w' A n (grp l) ∧ n ≤ 8 ∧ Below w.heap.size w w' := by
  have hz := hM.1
  go_enter Tryd.func26, Tryd.ntmps26
  go_wp2
  go_loopw [16] (fun i wr => ∃ (S : Nat → Bool) (j : Nat), i = .int .i64 j ∧ j ≤ nl ∧ Arr wr w.heap.size S ∧ GInvS l S ∧ Hid (HasS l S j) ∧ Below w.heap.size w wr) (fun i _ => nl - (intOf i).toNat)
  case atStart =>
    refine ⟨fun k => decide (k = 0), 0, rfl, by omega, ⟨by simp, fun k hk => ?_, fun k => by rw [frozen_alloc_if]; simp⟩, GInvS.start l, HasS.start _ _, by (repeat' (first | exact Below.refl _ _ | assumption | (refine Below.alloc ?_ ?_ _) | (refine Below.setCell ?_ ?_ _) | (refine Below.drew ?_) | (refine below_drewN ?_ _) | (refine below_after (Ext.below _) ?_ ?_) | (refine below_after (by assumption) ?_ ?_) | (simp; done) | omega | (simp; omega)))⟩
    rw [cell_alloc_if, if_neg (by omega), if_pos rfl]
    have h : k = 0 ∨ k = 1 ∨ k = 2 ∨ k = 3 ∨ k = 4 ∨ k = 5 ∨ k = 6 ∨ k = 7 := by omega
    rcases h with rfl | rfl | rfl | rfl | rfl | rfl | rfl | rfl <;> rfl
  case round =>
    obtain ⟨S, j, rfl, hj, hA, hG, h1, hb⟩ := hrel
    have hs := hb.size
    by_cases hlt : j < nl
    · obtain ⟨x, b, o, hx, rfl, hbl, hcell⟩ := (hR.of hb).int hlt
      have h7 := and7_r8 x
      have h8 := r8_lt x
      have hca := hA.cell _ h8
      have hfr := hA.free (r8 x)
      go_wp2
      go_roundw
      case rel => exact ⟨_, j + 1, by go_num, by omega, hA.set h8, hG.add (must_base (List.mem_of_getElem? hx.out)), h1.out.step hx.out, by (repeat' (first | exact Below.refl _ _ | assumption | (refine Below.alloc ?_ ?_ _) | (refine Below.setCell ?_ ?_ _) | (refine Below.drew ?_) | (refine below_drewN ?_ _) | (refine below_after (Ext.below _) ?_ ?_) | (refine below_after (by assumption) ?_ ?_) | (simp; done) | omega | (simp; omega)))⟩
      case measure => simp [intOf]; omega
    · obtain rfl : j = nl := by omega
      have h1' : Hid (HasS l S l.length) := by rw [hR.len]; exact h1
      clear h1
      go_wp2
      go_loopw [6] (fun b wr => ∃ (S : Nat → Bool) (ag : Bool), b = .bool ag ∧ Arr wr w.heap.size S ∧ GInvS l S ∧ Hid (HasS l S l.length) ∧ Hid (ag = false → PairsS S 8 0) ∧ Below w.heap.size w wr) (fun b wr => 2 * (9 - cntW wr w.heap.size) + flagOf b)
      case atStart => exact ⟨S, true, rfl, hA, hG, h1', tf, hb⟩
      case round =>
        clear hA hG h1' hb hs
        obtain ⟨S, ag, rfl, hA, hG, h1, hsh, hb⟩ := hrel
        have hs := hb.size
        have hlt0 := hA.lt
        cases ag
        · have hgr := Lib.hid (hG.group h1.out (hsh.out rfl))
          obtain ⟨we, rfl⟩ : ∃ we : World, we = wr := ⟨_, rfl⟩
          have c0 := hA.cell 0 (by omega)
          have c1 := hA.cell 1 (by omega)
          have c2 := hA.cell 2 (by omega)
          have c3 := hA.cell 3 (by omega)
          have c4 := hA.cell 4 (by omega)
          have c5 := hA.cell 5 (by omega)
          have c6 := hA.cell 6 (by omega)
          have c7 := hA.cell 7 (by omega)
          clear hsh h1 hA
          go_wp2
          clear c0 c1 c2 c3 c4 c5 c6 c7
          go_loopw [10, 53] (fun v i wr => ∃ (A' : Option Addr) (n' c' : Nat) (k : Nat), v = .slice A' n' c' ∧ i = .int .i64 k ∧ k ≤ 8 ∧ n' ≤ k ∧ Own encI 1 3 we.heap.size wr A' n' c' (upTo S k) ∧ Below we.heap.size we wr) (fun _ i _ => 8 - (intOf i).toNat)
          case atStart => exact ⟨none, 0, 0, 0, rfl, rfl, by omega, by omega, Own.nil_, Below.refl _ _⟩
          case round =>
            obtain ⟨A', n', c', k, rfl, rfl, hk, hnk, hown, hbe⟩ := hrel
            have hs' := hbe.size
            by_cases hlt : k < 8
            · have hix := idx8 S k hlt
              by_cases hq : S k = true
              · go_wp2_with (first | (at_builtin; refine wpList_append_el rfl (.tmp 58) (.tmp 60) 38 rfl encI 1 3 (.int .i64 0) 8 Tryd.underlying38 (by kernel_rfl) rfl (by decide) encI_len encI_one (we.heap.size) _ _ _ _ rfl (hown.alloc _) ((k : Nat) : Int) ⟨(wr).heap.size, 0, none⟩ 1 rfl (cells_new (wr) _ _) (by omega) (by omega) (by simp; omega) ?_; intro A1 c1 w1 hown1 hg1 hb1; obtain ⟨hc1, hf1⟩ := bcell hb1; have hs1 := hb1.size; (try simp only [World.size_alloc, World.size_setCell, World.size_drew] at hc1 hf1); (try simp at hs1)))
                go_roundw
                case rel => exact ⟨A1, n' + 1, c1, k + 1, rfl, by go_num, by omega, by omega, by rw [upTo_yes hq]; exact hown1, by (repeat' (first | exact Below.refl _ _ | assumption | (refine Below.alloc ?_ ?_ _) | (refine Below.setCell ?_ ?_ _) | (refine Below.drew ?_) | (refine below_drewN ?_ _) | (refine below_after (Ext.below _) ?_ ?_) | (refine below_after (by assumption) ?_ ?_) | (simp; done) | omega | (simp; omega)))⟩
                case measure => simp [intOf]; omega
              · have hq' : S k = false := by simpa using hq
                clear hq
                go_wp2
                go_roundw
                case rel => exact ⟨A', n', c', k + 1, rfl, by go_num, by omega, by omega, by rw [upTo_no hq']; exact hown, hbe⟩
                case measure => simp [intOf]; omega
            · obtain rfl : k = 8 := by omega
              go_wp2
              go_ret
              exact ⟨A', n', c', rfl, by rw [← upTo_grp hgr.out]; exact hown.rd encI_len, by omega, by (repeat' (first | exact Below.refl _ _ | assumption | (refine Below.alloc ?_ ?_ _) | (refine Below.setCell ?_ ?_ _) | (refine Below.drew ?_) | (refine below_drewN ?_ _) | (refine below_after (Ext.below _) ?_ ?_) | (refine below_after (by assumption) ?_ ?_) | (simp; done) | omega | (simp; omega)))⟩
        · clear hsh
          obtain ⟨S0, hS0⟩ : ∃ S0 : Nat → Bool, S0 = S := ⟨_, rfl⟩
          have hc0 : Hid (cntW wr w.heap.size = cnt S0) := by rw [hS0]; exact hA.cntW
          have hle := cnt_le S0
          have hA0 : Hid (S0 = S) := hS0
          clear hS0
          go_wp2
          go_loopw [6, 25] (fun b i wr => ∃ (S : Nat → Bool) (ag : Bool) (a : Nat), b = .bool ag ∧ i = .int .i64 a ∧ a ≤ 8 ∧ Arr wr w.heap.size S ∧ GInvS l S ∧ Hid (HasS l S l.length) ∧ Below w.heap.size w wr ∧ Hid (Stt S0 S ag a 0)) (fun _ i _ => 8 - (intOf i).toNat)
          case atStart => exact ⟨S, false, 0, rfl, rfl, by omega, hA, hG, h1, hb, by rw [hA0.out]; exact Stt.start S⟩
          case round =>
            clear hA hG h1 hb hs hlt0
            obtain ⟨S1, ag, a, rfl, rfl, ha, hA, hG, h1, hb, hst⟩ := hrel
            have hs := hb.size
            have hlt0 := hA.lt
            by_cases hlt : a < 8
            · have hd : decide ((a : Int) < 8) = true := decide_eq_true (by omega)
              go_wp2
              clear hd
              go_loopw [6, 28] (fun b i wr => ∃ (S : Nat → Bool) (ag : Bool) (c : Nat), b = .bool ag ∧ i = .int .i64 c ∧ c ≤ 8 ∧ Arr wr w.heap.size S ∧ GInvS l S ∧ Hid (HasS l S l.length) ∧ Below w.heap.size w wr ∧ Hid (Stt S0 S ag a c)) (fun _ i _ => 8 - (intOf i).toNat)
              case atStart => exact ⟨S1, ag, 0, rfl, rfl, by omega, hA, hG, h1, hb, hst⟩
              case round =>
                clear hA hG h1 hb hs hlt0 hst
                obtain ⟨S2, ag, c, rfl, rfl, hc, hA, hG, h1, hb, hst⟩ := hrel
                have hs := hb.size
                have hlt0 := hA.lt
                by_cases hltc : c < 8
                · have h8 := cm_lt hlt hltc
                  have hca := hA.cell a hlt
                  have hcb := hA.cell c hltc
                  have hcc := hA.cell _ h8
                  have hfr := hA.free (cm a c)
                  cases hSa : S2 a with
                  | false =>
                    rw [hSa] at hca
                    have HS := Lib.hid hSa
                    clear hSa
                    go_wp2_with (first | (go_at_call 17; refine (sym_ComposeN a c hlt hltc _ (hM.of (by (repeat' (first | exact Below.refl _ _ | assumption | (refine Below.alloc ?_ ?_ _) | (refine Below.setCell ?_ ?_ _) | (refine Below.drew ?_) | (refine below_drewN ?_ _) | (refine below_after (Ext.below _) ?_ ?_) | (refine below_after (by assumption) ?_ ?_) | (simp; done) | omega | (simp; omega)))))).mono ?_; rintro e w1 ⟨rfl, hb1⟩; obtain ⟨hc1, hf1⟩ := bcell hb1; have hs1 := hb1.size; (try simp only [World.size_alloc, World.size_setCell, World.size_drew] at hc1 hf1); (try simp at hs1)))
                    go_roundw
                    case rel => exact ⟨S2, ag, c + 1, rfl, by go_num, by omega, hA.of hb1, hG, h1, (by (repeat' (first | exact Below.refl _ _ | assumption | (refine Below.alloc ?_ ?_ _) | (refine Below.setCell ?_ ?_ _) | (refine Below.drew ?_) | (refine below_drewN ?_ _) | (refine below_after (Ext.below _) ?_ ?_) | (refine below_after (by assumption) ?_ ?_) | (simp; done) | omega | (simp; omega)))), hst.out.next fun h => by rw [HS.out] at h; cases h⟩
                    case measure => simp [intOf]; omega
                  | true =>
                    rw [hSa] at hca
                    have HS := Lib.hid hSa
                    clear hSa
                    cases hSb : S2 c with
                    | false =>
                      rw [hSb] at hcb
                      have HT := Lib.hid hSb
                      clear hSb
                      go_wp2_with (first | (go_at_call 17; refine (sym_ComposeN a c hlt hltc _ (hM.of (by (repeat' (first | exact Below.refl _ _ | assumption | (refine Below.alloc ?_ ?_ _) | (refine Below.setCell ?_ ?_ _) | (refine Below.drew ?_) | (refine below_drewN ?_ _) | (refine below_after (Ext.below _) ?_ ?_) | (refine below_after (by assumption) ?_ ?_) | (simp; done) | omega | (simp; omega)))))).mono ?_; rintro e w1 ⟨rfl, hb1⟩; obtain ⟨hc1, hf1⟩ := bcell hb1; have hs1 := hb1.size; (try simp only [World.size_alloc, World.size_setCell, World.size_drew] at hc1 hf1); (try simp at hs1)))
                      go_roundw
                      case rel => exact ⟨S2, ag, c + 1, rfl, by go_num, by omega, hA.of hb1, hG, h1, (by (repeat' (first | exact Below.refl _ _ | assumption | (refine Below.alloc ?_ ?_ _) | (refine Below.setCell ?_ ?_ _) | (refine Below.drew ?_) | (refine below_drewN ?_ _) | (refine below_after (Ext.below _) ?_ ?_) | (refine below_after (by assumption) ?_ ?_) | (simp; done) | omega | (simp; omega)))), hst.out.next fun _ h => by rw [HT.out] at h; cases h⟩
                      case measure => simp [intOf]; omega
                    | true =>
                      rw [hSb] at hcb
                      have HT := Lib.hid hSb
                      clear hSb
                      cases hSc : S2 (cm a c) with
                      | true =>
                        rw [hSc] at hcc
                        have HU := Lib.hid hSc
                        clear hSc
                        go_wp2_with (first | (go_at_call 17; refine (sym_ComposeN a c hlt hltc _ (hM.of (by (repeat' (first | exact Below.refl _ _ | assumption | (refine Below.alloc ?_ ?_ _) | (refine Below.setCell ?_ ?_ _) | (refine Below.drew ?_) | (refine below_drewN ?_ _) | (refine below_after (Ext.below _) ?_ ?_) | (refine below_after (by assumption) ?_ ?_) | (simp; done) | omega | (simp; omega)))))).mono ?_; rintro e w1 ⟨rfl, hb1⟩; obtain ⟨hc1, hf1⟩ := bcell hb1; have hs1 := hb1.size; (try simp only [World.size_alloc, World.size_setCell, World.size_drew] at hc1 hf1); (try simp at hs1)))
                        go_roundw
                        case rel => exact ⟨S2, ag, c + 1, rfl, by go_num, by omega, hA.of hb1, hG, h1, (by (repeat' (first | exact Below.refl _ _ | assumption | (refine Below.alloc ?_ ?_ _) | (refine Below.setCell ?_ ?_ _) | (refine Below.drew ?_) | (refine below_drewN ?_ _) | (refine below_after (Ext.below _) ?_ ?_) | (refine below_after (by assumption) ?_ ?_) | (simp; done) | omega | (simp; omega)))), hst.out.next fun _ _ => HU.out⟩
                        case measure => simp [intOf]; omega
                      | false =>
                        rw [hSc] at hcc
                        have HU := Lib.hid hSc
                        clear hSc
                        go_wp2_with (first | (go_at_call 17; refine (sym_ComposeN a c hlt hltc _ (hM.of (by (repeat' (first | exact Below.refl _ _ | assumption | (refine Below.alloc ?_ ?_ _) | (refine Below.setCell ?_ ?_ _) | (refine Below.drew ?_) | (refine below_drewN ?_ _) | (refine below_after (Ext.below _) ?_ ?_) | (refine below_after (by assumption) ?_ ?_) | (simp; done) | omega | (simp; omega)))))).mono ?_; rintro e w1 ⟨rfl, hb1⟩; obtain ⟨hc1, hf1⟩ := bcell hb1; have hs1 := hb1.size; (try simp only [World.size_alloc, World.size_setCell, World.size_drew] at hc1 hf1); (try simp at hs1)))
                        go_roundw
                        case rel => exact ⟨_, true, c + 1, rfl, by go_num, by omega, (hA.of hb1).set h8, hG.add (must_comp hlt hltc (hG.must _ hlt HS.out) (hG.must _ hltc HT.out)), h1.out.more _, (by (repeat' (first | exact Below.refl _ _ | assumption | (refine Below.alloc ?_ ?_ _) | (refine Below.setCell ?_ ?_ _) | (refine Below.drew ?_) | (refine below_drewN ?_ _) | (refine below_after (Ext.below _) ?_ ?_) | (refine below_after (by assumption) ?_ ?_) | (simp; done) | omega | (simp; omega)))), hst.out.grow h8 HU.out⟩
                        case measure => simp [intOf]; omega
                · obtain rfl : c = 8 := by omega
                  go_wp2
                  go_roundw
                  case rel => exact ⟨S2, ag, a + 1, rfl, by go_num, by omega, hA, hG, h1, hb, hst.out.row⟩
                  case measure => simp [intOf]; omega
            · obtain rfl : a = 8 := by omega
              go_wp2
              go_roundw
              case rel => exact ⟨S1, ag, rfl, hA, hG, h1, hst.out.done, hb⟩
              case measure => rw [hA.cntW, hc0.out]; exact hst.out.less
end Go.Proofs.YtobbkclfbbblaaaDoor
