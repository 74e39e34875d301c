/- The contract of the reference's Group. -/
import Derived.Test.YtobbkclfbbblaaaDoorSym2
import Derived.Test.YtobbkclfbbblaaaDoorInts
import Derived.Test.YtobbkclfbbblaaaDoorGrpQ
import Derived.Test.YtobbkclfbbblaaaDoorOwn
namespace Go.Proofs.YtobbkclfbbblaaaDoor
open Go Go.RowKit
set_option linter.unusedSimpArgs false
set_option linter.unusedVariables false
set_option maxRecDepth 100000
theorem r8_hid (x : Int) : Hid (x % 8 = ((r8 x : Nat) : Int)) := (r8_cast x).symm
theorem ref_ComposeN (a b q : Int) (h : Hid (comp a b = q)) (W : World) :
    Calls Tryd.prog 18 #[.int .i64 a, .int .i64 b] W fun e w' => e = .returned (.int .i64 q) ∧ Below W.heap.size W w' := by
  rw [← h.out, comp_rcomp]; exact ref_Compose a b W
set_option maxHeartbeats 1000000 in
theorem ref_Group (A0 : Option Addr) (nl cl : Nat) (l : List Int) (w : World) (hR : Rd encI 1 w A0 nl l) (hn : nl ≤ 4611686018427387904) :
    Calls Tryd.prog 28 #[.slice A0 nl cl] w fun e w' => ∃ A n c, e = .returned (.slice A n c) ∧ Rd encI 1 w' A n (grp l) ∧ n ≤ 8 ∧ Below w.heap.size w w' := by
  go_enter Tryd.func28, Tryd.ntmps28
  go_wp2
  go_loopw [3, 4] (fun v i wr => ∃ (A : Option Addr) (n c : Nat) (L : List Int) (j : Nat), v = .slice A n c ∧ i = .int .i64 j ∧ j ≤ nl ∧ Own encI 1 3 w.heap.size wr A n c L ∧ GInv l L ∧ Hid (Has1 l L j) ∧ Below w.heap.size w wr) (fun _ i _ => nl - (intOf i).toNat)
  case atStart => exact ⟨_, 1, 1, [0], 0, rfl, rfl, by omega, Own.lit encI_len w 3 w.heap.size (Nat.le_refl _) [0] 1 rfl (by omega) [.int .i64 0] rfl, GInv.start l, fun j m hj => absurd hj (by omega), by (repeat' (first | exact Below.refl _ _ | assumption | (refine Below.alloc ?_ ?_ _) | (refine Below.setCell ?_ ?_ _) | (refine Below.drew ?_) | (refine below_drewN ?_ _) | (refine below_after (Ext.below _) ?_ ?_) | (refine below_after (by assumption) ?_ ?_) | (simp; done) | omega | (simp; omega)))⟩
  case round =>
    obtain ⟨A, n, c, L, j, rfl, rfl, hj, hown, hG, h1, hb⟩ := hrel
    have hs := hb.size
    have hlen := hG.len
    rw [hown.len] at hlen
    by_cases hlt : j < nl
    · obtain ⟨x, b, o, hx, rfl, hbl, hcell⟩ := (hR.of hb).int hlt
      by_cases hq : hasI L (r8 x : Nat) = true
      · go_wp2_with (first | (go_at_call 50; refine (ref_Mod' _ _ (r8_hid _) _).mono ?_; rintro e w' ⟨rfl, rfl⟩) | (go_at_call 29; refine (ref_Has _ _ _ _ _ _ (hown.rd encI_len) (by omega)).mono ?_; rintro e w' ⟨rfl, rfl⟩))
        go_roundw
        case rel => exact ⟨A, n, c, L, j + 1, rfl, by go_num, by omega, hown, hG, h1.out.step hx.out (hasI_iff.1 hq), hb⟩
        case measure => simp [intOf]; omega
      · have hq' : hasI L (r8 x : Nat) = false := by simpa using hq
        clear hq
        go_wp2_with (first | (go_at_call 50; refine (ref_Mod' _ _ (r8_hid _) _).mono ?_; rintro e w' ⟨rfl, rfl⟩) | (go_at_call 29; refine (ref_Has _ _ _ _ _ _ (hown.rd encI_len) (by omega)).mono ?_; rintro e w' ⟨rfl, rfl⟩) | (at_builtin; refine wpList_append_el rfl (.tmp 26) (.tmp 32) 38 rfl encI 1 3 (.int .i64 0) 8 Tryd.underlying38 (by kernel_rfl) rfl (by decide) encI_len encI_one (w.heap.size) _ _ _ _ rfl (hown.alloc _) ((r8 x : Nat) : Int) ⟨(wr).heap.size, 0, none⟩ 1 rfl (cells_new (wr) _ _) (by omega) (by omega) (by simp; omega) ?_; intro A1 c1 w1 hown1 hg1 hb1; obtain ⟨hc1, hf1⟩ := bcell hb1; have hs1 := hb1.size; (try simp only [World.size_alloc, World.size_setCell, World.size_drew] at hc1 hf1); (try simp at hs1)))
        go_roundw
        case rel => exact ⟨A1, n + 1, c1, _, j + 1, rfl, by go_num, by omega, hown1, hG.add (r8_lt x) (must_base (List.mem_of_getElem? hx.out)) hq', (h1.out.more _).step hx.out (by simp), by (repeat' (first | exact Below.refl _ _ | assumption | (refine Below.alloc ?_ ?_ _) | (refine Below.setCell ?_ ?_ _) | (refine Below.drew ?_) | (refine below_drewN ?_ _) | (refine below_after (Ext.below _) ?_ ?_) | (refine below_after (by assumption) ?_ ?_) | (simp; done) | omega | (simp; omega)))⟩
        case measure => simp [intOf]; omega
    · obtain rfl : j = nl := by omega
      have h1' : Hid (Has1 l L l.length) := by rw [hR.len]; exact h1
      clear h1
      go_wp2
      go_loopw [3, 5] (fun v b wr => ∃ (A : Option Addr) (n c : Nat) (L : List Int) (ag : Bool), v = .slice A n c ∧ b = .bool ag ∧ Own encI 1 3 w.heap.size wr A n c L ∧ GInv l L ∧ Hid (Has1 l L l.length) ∧ Hid (ag = false → Shut L) ∧ Below w.heap.size w wr) (fun v b _ => 2 * (9 - lenOf v) + flagOf b)
      case atStart => exact ⟨A, n, c, L, true, rfl, rfl, hown, hG, h1', tf, hb⟩
      case round =>
        clear hown hG h1' hb hs hlen
        obtain ⟨A, n, c, L, ag, rfl, rfl, hown, hG, h1, hsh, hb⟩ := hrel
        have hs := hb.size
        have hlen := hG.len
        rw [hown.len] at hlen
        cases ag
        · have hgr := Lib.hid (hG.group h1.out (hsh.out rfl))
          clear hsh h1
          obtain ⟨we, rfl⟩ : ∃ we : World, we = wr := ⟨_, rfl⟩
          have hRd := hown.rd encI_len
          clear hown
          go_wp2
          go_loopw [9, 10] (fun v i wr => ∃ (A' : Option Addr) (n' c' : Nat) (k : Nat), v = .slice A' n' c' ∧ i = .int .i64 k ∧ k ≤ 8 ∧ n' ≤ k ∧ Own encI 1 3 we.heap.size wr A' n' c' (upTo (memB L) k) ∧ Below we.heap.size we wr) (fun _ i _ => 8 - (intOf i).toNat)
          case atStart => exact ⟨none, 0, 0, 0, rfl, rfl, by omega, by omega, Own.nil_, Below.refl _ _⟩
          case round =>
            obtain ⟨A', n', c', k, rfl, rfl, hk, hnk, hown, hbe⟩ := hrel
            have hs' := hbe.size
            by_cases hlt : k < 8
            · by_cases hq : hasI L (k : Nat) = true
              · go_wp2_with (first | (go_at_call 29; refine (ref_Has _ _ _ _ _ _ (hRd.of hbe) (by omega)).mono ?_; rintro e w' ⟨rfl, rfl⟩) | (at_builtin; refine wpList_append_el rfl (.tmp 79) (.tmp 81) 38 rfl encI 1 3 (.int .i64 0) 8 Tryd.underlying38 (by kernel_rfl) rfl (by decide) encI_len encI_one (we.heap.size) _ _ _ _ rfl (hown.alloc _) ((k : Nat) : Int) ⟨(wr).heap.size, 0, none⟩ 1 rfl (cells_new (wr) _ _) (by omega) (by omega) (by simp; omega) ?_; intro A1 c1 w1 hown1 hg1 hb1; obtain ⟨hc1, hf1⟩ := bcell hb1; have hs1 := hb1.size; (try simp only [World.size_alloc, World.size_setCell, World.size_drew] at hc1 hf1); (try simp at hs1)))
                go_roundw
                case rel => exact ⟨A1, n' + 1, c1, k + 1, rfl, by go_num, by omega, by omega, by rw [upTo_yes hq]; exact hown1, by (repeat' (first | exact Below.refl _ _ | assumption | (refine Below.alloc ?_ ?_ _) | (refine Below.setCell ?_ ?_ _) | (refine Below.drew ?_) | (refine below_drewN ?_ _) | (refine below_after (Ext.below _) ?_ ?_) | (refine below_after (by assumption) ?_ ?_) | (simp; done) | omega | (simp; omega)))⟩
                case measure => simp [intOf]; omega
              · have hq' : hasI L (k : Nat) = false := by simpa using hq
                clear hq
                go_wp2_with (first | (go_at_call 29; refine (ref_Has _ _ _ _ _ _ (hRd.of hbe) (by omega)).mono ?_; rintro e w' ⟨rfl, rfl⟩))
                go_roundw
                case rel => exact ⟨A', n', c', k + 1, rfl, by go_num, by omega, by omega, by rw [upTo_no hq']; exact hown, hbe⟩
                case measure => simp [intOf]; omega
            · obtain rfl : k = 8 := by omega
              go_wp2
              go_ret
              exact ⟨A', n', c', rfl, by rw [← upTo_grp hgr.out]; exact hown.rd encI_len, by omega, by (repeat' (first | exact Below.refl _ _ | assumption | (refine Below.alloc ?_ ?_ _) | (refine Below.setCell ?_ ?_ _) | (refine Below.drew ?_) | (refine below_drewN ?_ _) | (refine below_after (Ext.below _) ?_ ?_) | (refine below_after (by assumption) ?_ ?_) | (simp; done) | omega | (simp; omega)))⟩
        · clear hsh
          go_wp2
          go_loopw [3, 5, 6] (fun v b i wr => ∃ (A' : Option Addr) (n' c' : Nat) (L' : List Int) (ag : Bool) (i' : Nat), v = .slice A' n' c' ∧ b = .bool ag ∧ i = .int .i64 i' ∧ i' ≤ n' ∧ Own encI 1 3 w.heap.size wr A' n' c' L' ∧ GInv l L' ∧ Hid (Has1 l L' l.length) ∧ Below w.heap.size w wr ∧ (ag = false ∧ n' = n ∧ Hid (Pairs L' i' 0) ∨ ag = true ∧ n' = n + 1)) (fun v b i _ => (1 - flagOf b) * (lenOf v + 1 - (intOf i).toNat))
          case atStart => exact ⟨A, n, c, L, false, 0, rfl, rfl, rfl, by omega, hown, hG, h1, hb, .inl ⟨rfl, rfl, Pairs.start L⟩⟩
          case round =>
            clear hown hG h1 hb hs hlen
            obtain ⟨A', n', c', L', ag, i', rfl, rfl, rfl, hi', hown, hG, h1, hb, hst⟩ := hrel
            have hs := hb.size
            have hlen := hG.len
            rw [hown.len] at hlen
            rcases hst with ⟨rfl, rfl, hP⟩ | ⟨rfl, rfl⟩
            · by_cases hlt : i' < n'
              · obtain ⟨x, b, o, hx, rfl, hbl, hcell⟩ := (hown.rd encI_len).int hlt
                go_wp2
                go_loopw [3, 5, 7] (fun v b i wr => ∃ (A' : Option Addr) (n2' c' : Nat) (L' : List Int) (ag : Bool) (k : Nat), v = .slice A' n2' c' ∧ b = .bool ag ∧ i = .int .i64 k ∧ Own encI 1 3 w.heap.size wr A' n2' c' L' ∧ GInv l L' ∧ Hid (Has1 l L' l.length) ∧ Below w.heap.size w wr ∧ (ag = false ∧ n2' = n' ∧ Hid (Pairs L' i' k) ∧ k ≤ n2' ∨ ag = true ∧ n2' = n' + 1)) (fun v b i _ => (1 - flagOf b) * (lenOf v + 1 - (intOf i).toNat))
                case atStart => exact ⟨_, n', c', L', false, 0, rfl, rfl, rfl, hown, hG, h1, hb, .inl ⟨rfl, rfl, hP, by omega⟩⟩
                case round =>
                  have hRd := hown.rd encI_len
                  have hx0 : Hid (L'[i']? = some x) := hx
                  have hold : Hid (L'.length = n') := hown.len
                  clear hown hG h1 hcell hx hlen
                  obtain ⟨A2, n2, c2, L2, ag, k, rfl, rfl, rfl, hown, hG, h1, hb2, hst⟩ := hrel
                  have hs2 := hb2.size
                  have hlen := hG.len
                  rw [hown.len] at hlen
                  rcases hst with ⟨rfl, rfl, hP, hk⟩ | ⟨rfl, rfl⟩
                  · by_cases hlt2 : k < n2
                    · obtain ⟨x, b, o, hx, rfl, hbl, hcell⟩ := (hown.rd encI_len).int hlt
                      obtain ⟨y, b2, o2, hy, e2, hbl2, hcell2⟩ := (hown.rd encI_len).int hlt2
                      injection e2 with e2
                      injection e2 with e3 e4
                      subst e3 e4
                      obtain ⟨q, hq, hq8, hqm⟩ := hG.comp_must (List.mem_of_getElem? hx.out) (List.mem_of_getElem? hy.out)
                      have HQ : Hid (comp x y = (q : Int)) := hq
                      clear hq
                      by_cases hh : hasI L2 (q : Nat) = true
                      · go_wp2
                        (refine wp_region_ext_lit (by kernel_rfl) (by kernel_rfl) ?_; (repeat (go_big_quiet_step ((go_at_call 18; exact calls_ext (ref_ComposeN _ _ _ HQ _))))); refine wpQuiet_nil ?_; intro _ hw'; obtain ⟨z1, hw''⟩ := hw'; subst hw''; have hs1 := z1.size; obtain ⟨hc1, hf1⟩ := bcell z1.below; (try simp only [World.size_alloc, World.size_setCell, World.size_drew] at hc1 hf1); (try simp at hs1))
                        go_wp2_with (first | (go_at_call 29; refine (ref_Has _ _ _ _ _ _ ((hown.rd encI_len).of z1.below) (by omega)).mono ?_; rintro e w' ⟨rfl, rfl⟩))
                        go_roundw
                        case rel => exact ⟨_, n2, c2, L2, false, k + 1, rfl, rfl, by go_num, hown.of z1.below, hG, h1, (by (repeat' (first | exact Below.refl _ _ | assumption | (refine Below.alloc ?_ ?_ _) | (refine Below.setCell ?_ ?_ _) | (refine Below.drew ?_) | (refine below_drewN ?_ _) | (refine below_after (Ext.below _) ?_ ?_) | (refine below_after (by assumption) ?_ ?_) | (simp; done) | omega | (simp; omega)))), .inl ⟨rfl, rfl, hP.out.next hx.out hy.out (by rw [HQ.out]; exact hasI_iff.1 hh), by omega⟩⟩
                        case measure => simp [lenOf, flagOf, intOf]; omega
                      · have hh' : hasI L2 (q : Nat) = false := by simpa using hh
                        clear hh
                        go_wp2
                        (refine wp_region_ext_lit (by kernel_rfl) (by kernel_rfl) ?_; (repeat (go_big_quiet_step ((go_at_call 18; exact calls_ext (ref_ComposeN _ _ _ HQ _))))); refine wpQuiet_nil ?_; intro _ hw'; obtain ⟨z1, hw''⟩ := hw'; subst hw''; have hs1 := z1.size; obtain ⟨hc1, hf1⟩ := bcell z1.below; (try simp only [World.size_alloc, World.size_setCell, World.size_drew] at hc1 hf1); (try simp at hs1))
                        go_wp2_with (first | (go_at_call 29; refine (ref_Has _ _ _ _ _ _ ((hown.rd encI_len).of z1.below) (by omega)).mono ?_; rintro e w' ⟨rfl, rfl⟩) | (at_builtin; refine wpList_append_el rfl (.tmp 68) (.tmp 70) 38 rfl encI 1 3 (.int .i64 0) 8 Tryd.underlying38 (by kernel_rfl) rfl (by decide) encI_len encI_one (w.heap.size) _ _ _ _ rfl ((hown.of z1.below).alloc _) ((q : Nat) : Int) ⟨(z1.world).heap.size, 0, none⟩ 1 rfl (cells_new (z1.world) _ _) (by omega) (by omega) (by simp; omega) ?_; intro A2 c2 w2 hown2 hg2 hb2; obtain ⟨hc2, hf2⟩ := bcell hb2; have hs2 := hb2.size; (try simp only [World.size_alloc, World.size_setCell, World.size_drew] at hc2 hf2); (try simp at hs2)))
                        go_roundw
                        case rel => exact ⟨A2, _, c2, _, true, k + 1, rfl, rfl, by go_num, hown2, hG.add hq8 hqm hh', h1.out.more _, (by (repeat' (first | exact Below.refl _ _ | assumption | (refine Below.alloc ?_ ?_ _) | (refine Below.setCell ?_ ?_ _) | (refine Below.drew ?_) | (refine below_drewN ?_ _) | (refine below_after (Ext.below _) ?_ ?_) | (refine below_after (by assumption) ?_ ?_) | (simp; done) | omega | (simp; omega)))), .inr ⟨rfl, rfl⟩⟩
                        case measure => simp [lenOf, flagOf, intOf]; omega
                    · obtain rfl : k = n2 := by omega
                      go_wp2
                      go_roundw
                      case rel => exact ⟨A2, k, c2, L2, false, i' + 1, rfl, rfl, by go_num, by omega, hown, hG, h1, hb2, .inl ⟨rfl, rfl, hP.out.row (by rw [hown.len]; omega)⟩⟩
                      case measure => simp [lenOf, flagOf, intOf]; omega
                  · by_cases hlt2 : k < n' + 1
                    all_goals
                      go_wp2
                      go_roundw
                      case rel => exact ⟨A2, _, c2, L2, true, i' + 1, rfl, rfl, by go_num, by omega, hown, hG, h1, hb2, .inr ⟨rfl, rfl⟩⟩
                      case measure => simp [lenOf, flagOf, intOf]; omega
              · go_wp2
                go_roundw
                case rel => exact ⟨A', n', c', L', false, rfl, rfl, hown, hG, h1, fun _ => hP.out.all (by rw [hown.len]; omega), hb⟩
                case measure => simp [lenOf, flagOf]; try omega
            · by_cases hlt : i' < n + 1
              all_goals
                go_wp2
                go_roundw
                case rel => exact ⟨A', n + 1, c', L', true, rfl, rfl, hown, hG, h1, tf, hb⟩
                case measure => simp [lenOf, flagOf]; try omega
end Go.Proofs.YtobbkclfbbblaaaDoor
