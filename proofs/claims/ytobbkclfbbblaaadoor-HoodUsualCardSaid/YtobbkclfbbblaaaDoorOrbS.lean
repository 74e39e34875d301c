/- The contract of the program's Orbits. -/
import Derived.Test.YtobbkclfbbblaaaDoorSym5
import Derived.Test.YtobbkclfbbblaaaDoorGrpS
import Derived.Test.YtobbkclfbbblaaaDoorOdd
namespace Go.Proofs.YtobbkclfbbblaaaDoor
open Go Go.RowKit
set_option linter.unusedSimpArgs false
set_option linter.unusedVariables false
set_option maxRecDepth 100000
theorem sym_Orbits_no1 (A0 : Option Addr) (nl cl : Nat) (a b : Int) (w : World) (hs : ¬(1 ≤ a ∧ a ≤ 256 ∧ 1 ≤ b ∧ b ≤ 256)) :
    Calls Tryd.prog 30 #[.slice A0 nl cl, .int .i64 a, .int .i64 b] w fun e w' => e = .returned (.tuple #[.slice none 0 0, .int .i64 2]) ∧ Below w.heap.size w w' := by
  go_enter Tryd.func30, Tryd.ntmps30
  go_wp2
  all_goals first | (exfalso; omega) | (go_ret2; exact ⟨rfl, Below.refl _ _⟩)
theorem sym_Orbits_no2 (A0 : Option Addr) (nl cl : Nat) (a b : Int) (w : World) (ha : 1 ≤ a ∧ a ≤ 256) (hb : 1 ≤ b ∧ b ≤ 256) (hs : 4096 < a * b) :
    Calls Tryd.prog 30 #[.slice A0 nl cl, .int .i64 a, .int .i64 b] w fun e w' => e = .returned (.tuple #[.slice none 0 0, .int .i64 2]) ∧ Below w.heap.size w w' := by
  obtain ⟨hp1, hp2⟩ := prod_bound ha hb
  obtain ⟨ha1, ha2⟩ := ha
  obtain ⟨hb1, hb2⟩ := hb
  go_enter Tryd.func30, Tryd.ntmps30
  go_wp2
  all_goals first | (exfalso; omega) | (go_ret2; exact ⟨rfl, Below.refl _ _⟩)
set_option maxHeartbeats 400000 in
theorem sym_Orbits_no3 (A0 : Option Addr) (nl cl : Nat) (l : List Int) (a b : Int) (w : World) (hM : Mx w) (hR : Rd encI 1 w A0 nl l) (hn : nl ≤ 4611686018427387904) (ha : 1 ≤ a ∧ a ≤ 256) (hb : 1 ≤ b ∧ b ≤ 256) (hs : a * b ≤ 4096) (hab : a ≠ b) (ho : anyOdd (grp l) = true) :
    Calls Tryd.prog 30 #[.slice A0 nl cl, .int .i64 a, .int .i64 b] w fun e w' => e = .returned (.tuple #[.slice none 0 0, .int .i64 2]) ∧ Below w.heap.size w w' := by
  obtain ⟨hp1, hp2⟩ := prod_bound ha hb
  obtain ⟨ha1, ha2⟩ := ha
  obtain ⟨hb1, hb2⟩ := hb
  have hne : (a != b) = true := by simpa using hab
  clear hab
  go_enter Tryd.func30, Tryd.ntmps30
  go_wp2_with (first | (go_at_call 26; refine (sym_Group _ _ _ _ _ (hM.of (by (repeat' (first | exact Below.refl _ _ | assumption | (refine Below.alloc ?_ ?_ _) | (refine Below.setCell ?_ ?_ _) | (refine Below.drew ?_) | (refine below_drewN ?_ _) | (refine below_after (Ext.below _) ?_ ?_) | (refine below_after (by assumption) ?_ ?_) | (simp; done) | omega | (simp; omega))))) hR hn).mono ?_; rintro e w1 ⟨Ag, ng, cg, rfl, hRg, hng, hb1⟩) | (go_at_call 55; refine (containsFunc_odd _ _ _ _ _ hRg (by omega)).mono ?_; rintro e w' ⟨rfl, rfl⟩))
  all_goals first | (exfalso; omega) | (go_ret2; exact ⟨rfl, by (repeat' (first | exact Below.refl _ _ | assumption | (refine Below.alloc ?_ ?_ _) | (refine Below.setCell ?_ ?_ _) | (refine Below.drew ?_) | (refine below_drewN ?_ _) | (refine below_after (Ext.below _) ?_ ?_) | (refine below_after (by assumption) ?_ ?_) | (simp; done) | omega | (simp; omega)))⟩)
set_option maxHeartbeats 1000000 in
theorem sym_Orbits_yes (A0 : Option Addr) (nl cl : Nat) (l : List Int) (a b : Nat) (w : World) (hM : Mx w) (hR : Rd encI 1 w A0 nl l) (hn : nl ≤ 4611686018427387904) (ha : 1 ≤ a ∧ a ≤ 256) (hb : 1 ≤ b ∧ b ≤ 256) (hs : (a : Int) * b ≤ 4096)
    (hab : ((a : Int) != b) = false ∨ ((a : Int) != b) = true ∧ anyOdd (grp l) = false) :
    Calls Tryd.prog 30 #[.slice A0 nl cl, .int .i64 (a : Int), .int .i64 (b : Int)] w fun e w' => ∃ A c, e = .returned (.tuple #[.slice A (b * a) c, .int .i64 0]) ∧ Rd encI 1 w' A (b * a) (orb (wF a b) (grp l) a (b * a)) ∧ Below w.heap.size w w' := by
  obtain ⟨hp1, hp2⟩ := prod_bound (w := a) (h := b) (by omega) (by omega)
  obtain ⟨ha1, ha2⟩ := ha
  obtain ⟨hb1, hb2⟩ := hb
  have hN : ((a * b : Nat) : Int) = (a : Int) * b := by simp
  have hN4 : a * b ≤ 4096 := by omega
  have HN := Lib.hid hN
  clear hN
  have d1 : decide ((a : Int) < 1) = false := decide_eq_false (by omega)
  have d2 : decide ((256 : Int) < a) = false := decide_eq_false (by omega)
  have d3 : decide ((b : Int) < 1) = false := decide_eq_false (by omega)
  have d4 : decide ((256 : Int) < b) = false := decide_eq_false (by omega)
  have d5 : decide ((4096 : Int) < (a : Int) * b) = false := decide_eq_false (by omega)
  rcases hab with hq | ⟨hq, ho⟩
  all_goals
    go_enter Tryd.func30, Tryd.ntmps30
    go_wp2_with (first | (go_at_call 26; refine (sym_Group _ _ _ _ _ (hM.of (by (repeat' (first | exact Below.refl _ _ | assumption | (refine Below.alloc ?_ ?_ _) | (refine Below.setCell ?_ ?_ _) | (refine Below.drew ?_) | (refine below_drewN ?_ _) | (refine below_after (Ext.below _) ?_ ?_) | (refine below_after (by assumption) ?_ ?_) | (simp; done) | omega | (simp; omega))))) hR hn).mono ?_; rintro e w1 ⟨Ag, ng, cg, rfl, hRg, hng, hbg⟩; have hsg := hbg.size) | (go_at_call 55; refine (containsFunc_odd _ _ _ _ _ hRg (by omega)).mono ?_; rintro e w' ⟨rfl, rfl⟩) | (at_make; refine wpList_make_el rfl (.const (.int .i64 0)) (.tmp 51) 38 rfl encI 1 3 (.int .i64 0) 8 Tryd.underlying38 (by kernel_rfl) (w1.heap.size + 1) _ (a * b) rfl rfl (HN.out.symm) (by omega) (by omega) (by simp; try omega) ?_; intro w3 hown3 hb3; obtain ⟨hc3, hf3⟩ := bcell hb3; have hs3 := hb3.size; (try simp only [World.size_alloc, World.size_setCell, World.size_drew] at hc3 hf3); (try simp at hs3)))
  all_goals try (exfalso; omega)
  all_goals
    clear d1 d2 d3 d4 d5 hq
    go_loopw [10, 54] (fun v i wr => ∃ (A : Option Addr) (n c y : Nat), v = .slice A n c ∧ i = .int .i64 y ∧ y ≤ b ∧ Hid (n = y * a) ∧ Own encI 1 3 (w1.heap.size + 1) wr A n c (orb (wF a b) (grp l) a (y * a)) ∧ Below (w1.heap.size + 1) (w1.alloc (.cells #[.int .i64 0, .int .i64 0, .int .i64 a, .int .i64 b] 31)) wr) (fun _ i _ => b - (intOf i).toNat)
    case atStart => exact ⟨_, 0, _, 0, rfl, rfl, by omega, (Nat.zero_mul a).symm, (by simpa [orb] using hown3), by (repeat' (first | exact Below.refl _ _ | assumption | (refine Below.alloc ?_ ?_ _) | (refine Below.setCell ?_ ?_ _) | (refine Below.drew ?_) | (refine below_drewN ?_ _) | (refine below_after (Ext.below _) ?_ ?_) | (refine below_after (by assumption) ?_ ?_) | (simp; done) | omega | (simp; omega)))⟩
    case round =>
      obtain ⟨A, n, c, y, rfl, rfl, hy, hny, hown, hbl⟩ := hrel
      obtain ⟨hcl, hfl⟩ := bcell hbl
      have hsl := hbl.size
      (try simp only [World.size_alloc] at hsl)
      by_cases hlt : y < b
      · have hd : decide ((y : Int) < b) = true := decide_eq_true (by omega)
        go_wp2
        clear hd hcl hfl
        go_loopw [10, 58] (fun v i wr => ∃ (A : Option Addr) (n c x : Nat), v = .slice A n c ∧ i = .int .i64 x ∧ x ≤ a ∧ Hid (n = y * a + x) ∧ Own encI 1 3 (w1.heap.size + 1) wr A n c (orb (wF a b) (grp l) a (y * a + x)) ∧ Below (w1.heap.size + 1) (w1.alloc (.cells #[.int .i64 0, .int .i64 0, .int .i64 a, .int .i64 b] 31)) wr) (fun _ i _ => a - (intOf i).toNat)
        case atStart => exact ⟨A, n, c, 0, rfl, rfl, by omega, hny, hown, hbl⟩
        case round =>
          clear hown hbl hsl hny
          obtain ⟨A, n, c, x, rfl, rfl, hx, hny, hown, hbl⟩ := hrel
          have hsl := hbl.size
          (try simp only [World.size_alloc] at hsl)
          by_cases hltx : x < a
          · have hd : decide ((x : Int) < a) = true := decide_eq_true (by omega)
            have hb1 : y * a + x < b * a := by
              have h1 : (y + 1) * a ≤ b * a := Nat.mul_le_mul_right a hlt
              rw [Nat.add_mul, Nat.one_mul] at h1
              omega
            have hb2 : b * a ≤ 4096 := by rw [Nat.mul_comm]; exact hN4
            have hn4 : n < 4096 := by have := hny.out; omega
            have hz1 : 0 ≤ (y : Int) * a ∧ (y : Int) * a + x ≤ 4096 := by
              have h1 : ((y * a : Nat) : Int) = (y : Int) * a := by simp
              omega
            obtain ⟨hz1, hz2⟩ := hz1
            clear hb1 hb2
            go_wp2
            clear hd
            go_loopw [13, 68] (fun m i wr => ∃ (j : Nat), i = .int .i64 j ∧ j ≤ ng ∧ m = .int .i64 (((grp l).take j).foldl (lstep (wF a b x y) a) ((y : Int) * a + x)) ∧ Own encI 1 3 (w1.heap.size + 1) wr A n c (orb (wF a b) (grp l) a (y * a + x)) ∧ Below (w1.heap.size + 1) (w1.alloc (.cells #[.int .i64 0, .int .i64 0, .int .i64 a, .int .i64 b] 31)) wr) (fun _ i _ => ng - (intOf i).toNat)
            case atStart => exact ⟨0, rfl, by omega, rfl, hown, hbl⟩
            case round =>
              clear hown hbl hsl
              obtain ⟨j, rfl, hj, rfl, hown, hbl⟩ := hrel
              have hsl := hbl.size
              (try simp only [World.size_alloc] at hsl)
              obtain ⟨hcl, hfl⟩ := bcell hbl
              by_cases hltj : j < ng
              · obtain ⟨k, bg, og, hk, rfl, hbg', hcell⟩ := hRg.int hltj
                have hfs := Lib.hid (fold_snoc (W := wF a b x y) (w := a) (m := (y : Int) * a + x) hk.out)
                generalize (((grp l).take j).foldl (lstep (wF a b x y) a) ((y : Int) * a + x)) = m0 at hfs ⊢
                go_wp2_with (first | (go_at_call 20; refine (sym_Within _ _ _ _ _ _ _ _ (hM.of (by (repeat' (first | exact Below.refl _ _ | assumption | (refine Below.alloc ?_ ?_ _) | (refine Below.setCell ?_ ?_ _) | (refine Below.drew ?_) | (refine below_drewN ?_ _) | (refine below_after (Ext.below _) ?_ ?_) | (refine below_after (by assumption) ?_ ?_) | (simp; done) | omega | (simp; omega)))))).mono ?_; rintro e w5 ⟨rfl, hb5⟩; obtain ⟨hc5, hf5⟩ := bcell hb5; have hs5 := hb5.size; (try simp only [World.size_alloc, World.size_setCell, World.size_drew] at hc5 hf5); (try simp at hs5)))
                go_roundw
                case rel => exact ⟨j + 1, by go_num, by omega, by rw [hfs.out]; rfl, (hown.of hb5).alloc _, by (repeat' (first | exact Below.refl _ _ | assumption | (refine Below.alloc ?_ ?_ _) | (refine Below.setCell ?_ ?_ _) | (refine Below.drew ?_) | (refine below_drewN ?_ _) | (refine below_after (Ext.below _) ?_ ?_) | (refine below_after (by assumption) ?_ ?_) | (simp; done) | omega | (simp; omega)))⟩
                case measure => simp [intOf]; omega
              · obtain rfl : j = ng := by omega
                have hle : ((grp l).take j).foldl (lstep (wF a b x y) a) ((y : Int) * a + x) = least (wF a b) (grp l) a x y := by rw [List.take_of_length_le (by rw [hRg.len]; omega)]; rfl
                rw [hle]
                have hsn := Lib.hid (orb_snoc (wF a b) (grp l) a x y hltx)
                generalize least (wF a b) (grp l) a x y = m0 at hsn ⊢
                clear hle
                go_wp2_with (first | (at_builtin; refine wpList_append_el rfl (.tmp 88) (.tmp 90) 38 rfl encI 1 3 (.int .i64 0) 8 Tryd.underlying38 (by kernel_rfl) rfl (by decide) encI_len encI_one (w1.heap.size + 1) _ _ _ _ rfl (hown.alloc _) m0 ⟨(wr).heap.size, 0, none⟩ 1 rfl (cells_new (wr) _ _) (by omega) (by omega) (by simp; omega) ?_; intro A6 c6 w6 hown6 hg6 hb6; obtain ⟨hc6, hf6⟩ := bcell hb6; have hs6 := hb6.size; (try simp only [World.size_alloc, World.size_setCell, World.size_drew] at hc6 hf6); (try simp at hs6)))
                go_roundw
                case rel => exact ⟨A6, n + 1, c6, x + 1, rfl, by go_num, by omega, (by rw [hny.out]; rfl), by rw [← Nat.add_assoc, hsn.out]; exact hown6, by (repeat' (first | exact Below.refl _ _ | assumption | (refine Below.alloc ?_ ?_ _) | (refine Below.setCell ?_ ?_ _) | (refine Below.drew ?_) | (refine below_drewN ?_ _) | (refine below_after (Ext.below _) ?_ ?_) | (refine below_after (by assumption) ?_ ?_) | (simp; done) | omega | (simp; omega)))⟩
                case measure => simp [intOf]; omega
          · obtain rfl : x = a := by omega
            go_wp2
            go_roundw
            case rel => exact ⟨A, n, c, y + 1, rfl, by go_num, by omega, (by rw [Nat.add_mul, Nat.one_mul]; exact hny), by rw [Nat.add_mul, Nat.one_mul]; exact hown, hbl⟩
            case measure => simp [intOf]; omega
      · obtain rfl : y = b := by omega
        have hr := hown.rd encI_len
        go_wp2
        go_ret2
        refine ⟨A, c, ?_, ?_, by (repeat' (first | exact Below.refl _ _ | assumption | (refine Below.alloc ?_ ?_ _) | (refine Below.setCell ?_ ?_ _) | (refine Below.drew ?_) | (refine below_drewN ?_ _) | (refine below_after (Ext.below _) ?_ ?_) | (refine below_after (by assumption) ?_ ?_) | (simp; done) | omega | (simp; omega)))⟩
        · rw [hny.out]; rfl
        · rw [hny.out] at hr; exact hr
end Go.Proofs.YtobbkclfbbblaaaDoor
