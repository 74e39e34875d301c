/- The contracts of slices.Compact at positions and of point.Sort. -/
import Derived.Test.YtnhnkmppmicjoaaSortW
namespace Go.Proofs.Ytnhnkmppmicjoaa
open Go Go.RowKit Go.Shelf Go.Sort
set_option linter.unusedSimpArgs false
set_option linter.unusedVariables false
set_option maxRecDepth 100000
attribute [local go_sem ↓ high] eq_pt neq_pt
theorem rd_pt_own {e : TypeId} {B g n c : Nat} {w : World} {l : List (Int × Int)} (h : Own encP 2 e B w (some ⟨g, 0, none⟩) n c l) {i : Nat} {x y : Int} (hi : i < n) (hx : l[i]? = some (x, y)) : w.cell? ⟨g, i * 2, none⟩ = some (.int .i64 x) ∧ w.cell? ⟨g, i * 2 + 1, none⟩ = some (.int .i64 y) ∧ w.frozen? ⟨g, i * 2, none⟩ = false ∧ w.frozen? ⟨g, i * 2 + 1, none⟩ = false := by
  have h1 := own_cells encP_len h (j := i * 2) (by omega)
  have h2 := own_cells encP_len h (j := i * 2 + 1) (by omega)
  have e1 := flatMap_get encP_len l i (x, y) hx 0 _ rfl
  have e2 := flatMap_get encP_len l i (x, y) hx 1 _ rfl
  rw [Nat.add_zero] at e1
  exact ⟨h1.1.trans e1, h2.1.trans e2, h1.2, h2.2⟩
/-- Nothing of l ahead of k is equal to the one ahead of it. -/
def noRep (l : List (Int × Int)) (k : Nat) : Prop := compL (l.take k) = l.take k
theorem noRep_step {l : List (Int × Int)} {k : Nat} {a b : Int × Int} (h : noRep l k) (hk : 0 < k) (ha : l[k - 1]? = some a) (hb : l[k]? = some b) (hne : a ≠ b) : noRep l (k + 1) := by
  unfold noRep at h ⊢
  rw [compL_ne hk ha hb hne, h, List.take_add_one, hb]; rfl
set_option maxHeartbeats 2000000 in
theorem compact_pt (B : Nat) (A : Option Addr) (n c : Nat) (l : List (Int × Int)) (w : World) (hown : Own encP 2 23 B w A n c l) (hB : B ≤ w.heap.size) (hn : n ≤ 1000000) :
    Calls Try.prog 57 #[.slice A n c] w fun e w' => ∃ A' n' c', e = .returned (.slice A' n' c') ∧ Rd encP 2 w' A' n' (compL l) ∧ n' ≤ n ∧ Below B w w' := by
  rcases Nat.lt_or_ge n 2 with h2 | h2
  · have he : compL l = l := by
      have := hown.len
      match l, this with
      | [], _ => rfl
      | [a], _ => rfl
      | a :: b :: l, h => simp at h; omega
    have HE := Lib.hid he
    clear he
    go_enter Try.func57, Try.ntmps57
    go_wp2
    go_ret
    exact ⟨_, _, _, rfl, by rw [HE.out]; exact hown.rd encP_len, by omega, Below.refl _ _⟩
  · rcases hown.row.2 with ⟨_, hz⟩ | ⟨gb, cap, cur, hv, hg, hh, hnc, hcm, _⟩
    · exact absurd hz (by omega)
    · injection hv with h1 _ h3
      subst h1 h3
      clear hh
      unfold maxLen at hcm
      obtain ⟨hbg, hlt⟩ := own_lt hown
      have hl := Lib.hid hown.len
      have z23 : ∀ w, (zeroValue 23).run Try.prog w = .ok (.agg #[.int .i64 0, .int .i64 0]) w := Try.zeroValue23
      go_enter Try.func57, Try.ntmps57
      go_wp2
      go_loopw [3] (fun i wr => ∃ k : Nat, i = .int .i64 k ∧ 1 ≤ k ∧ k ≤ n ∧ Hid (noRep l k) ∧ Own encP 2 23 B wr (some ⟨gb, 0, none⟩) n c l ∧ Below B w wr) (fun i _ => n - (intOf i).toNat)
      case atStart => exact ⟨1, rfl, by omega, by omega, (by
        show compL (l.take 1) = l.take 1
        match l with
        | [] => rfl
        | a :: l => rfl), hown, Below.refl _ _⟩
      case round =>
        clear hown hlt
        obtain ⟨k, rfl, hk1, hkn, hrep, hown, hb⟩ := hrel
        have hs := hb.size
        by_cases hlt : k < n
        · have hgs := (own_lt hown).2
          obtain ⟨p, hp⟩ : ∃ p, l[k - 1]? = some p := ⟨_, List.getElem?_eq_getElem (by rw [hl.out]; omega)⟩
          obtain ⟨q, hq⟩ : ∃ q, l[k]? = some q := ⟨_, List.getElem?_eq_getElem (by rw [hl.out]; omega)⟩
          obtain ⟨px, py⟩ := p
          obtain ⟨qx, qy⟩ := q
          obtain ⟨p1, p2, _, _⟩ := rd_pt_own hown (by omega) hp
          obtain ⟨q1, q2, _, _⟩ := rd_pt_own hown hlt hq
          have hkm : ((k : Int) - 1).toNat = k - 1 := by omega
          have hk0 : (0 : Int) ≤ (k : Int) - 1 := by omega
          have wk : IntKind.i64.wrap ((k : Int) - 1) = (k : Int) - 1 := IntWalk.i64_in _ (by omega)
          by_cases hdup : qx = px ∧ qy = py
          · obtain ⟨rfl, rfl⟩ := hdup
            have HC : Hid (compL (l.take (k + 1)) = l.take k) := (compL_eq hk1 hp hq).trans hrep.out
            have hp := Lib.hid hp
            have hq := Lib.hid hq
            have hkc : k < c := by omega
            go_wp2_with fail
            (refine wp_region_ext_lit (by kernel_rfl) (by kernel_rfl) ?_; (repeat (go_big_quiet_step (fail))); refine wpQuiet_nil ?_; intro _ hw'; obtain ⟨z1, hw''⟩ := hw'; subst hw''; have hs1 := z1.size; obtain ⟨hc1, hf1⟩ := bcell z1.below; (try simp only [World.size_alloc, World.size_setCell, World.size_drew] at hc1 hf1); (try simp at hs1))
            go_wp2
            clear p1 p2 q1 q2 hk0 hkm wk
            go_loopw [3, 5] (fun i i2 wq => ∃ (K k2 : Nat) (L : List (Int × Int)), i = .int .i64 K ∧ i2 = .int .i64 k2 ∧ 1 ≤ k2 ∧ k + k2 ≤ n ∧ K < k + k2 ∧ Hid (compL (l.take (k + k2)) = L.take K) ∧ Own encP 2 23 B wq (some ⟨gb, 0, none⟩) n c L ∧ Hid (∀ i, k + k2 - 1 ≤ i → L[i]? = l[i]?) ∧ Below B w wq) (fun _ i2 _ => n - (intOf i2).toNat)
            case atStart => exact ⟨k, 1, l, rfl, rfl, by omega, by omega, by omega, HC, hown.of z1.below, (fun i _ => rfl), by (repeat' (first | exact Below.refl _ _ | assumption | (refine Below.alloc ?_ ?_ _) | (refine Below.setCell ?_ ?_ _) | (refine Below.drew ?_) | (refine below_drewN ?_ _) | (refine below_after (Ext.below _) ?_ ?_) | (refine below_after (by assumption) ?_ ?_) | (simp; done) | omega | (simp; omega)))⟩
            case round =>
              clear hown hb hs hgs
              obtain ⟨K, k2, L, rfl, rfl, hk2, hkk, hKk, hcp, hown, hrest, hb⟩ := hrel
              have hs := hb.size
              have hgs := (own_lt hown).2
              have hLn := Lib.hid hown.len
              by_cases hlt2 : k + k2 < n
              · have dk : decide ((k2 : Int) < ((n - k : Nat) : Int)) = true := decide_eq_true (by omega)
                obtain ⟨p, hp⟩ : ∃ p, l[k + k2 - 1]? = some p := ⟨_, List.getElem?_eq_getElem (by rw [hl.out]; omega)⟩
                obtain ⟨q, hq⟩ : ∃ q, l[k + k2]? = some q := ⟨_, List.getElem?_eq_getElem (by rw [hl.out]; omega)⟩
                obtain ⟨px, py⟩ := p
                obtain ⟨qx', qy'⟩ := q
                obtain ⟨p1, p2, _, _⟩ := rd_pt_own hown (i := k + k2 - 1) (by omega) ((hrest.out _ (by omega)).trans hp)
                obtain ⟨q1, q2, _, _⟩ := rd_pt_own hown hlt2 ((hrest.out _ (by omega)).trans hq)
                rw [show (k + k2 - 1) * 2 = k * 2 + (k2 - 1) * 2 by omega] at p1 p2
                rw [show (k + k2) * 2 = k * 2 + k2 * 2 by omega] at q1 q2
                have hkm : ((k2 : Int) - 1).toNat = k2 - 1 := by omega
                have hk0 : (0 : Int) ≤ (k2 : Int) - 1 := by omega
                have wk : IntKind.i64.wrap ((k2 : Int) - 1) = (k2 : Int) - 1 := IntWalk.i64_in _ (by omega)
                by_cases hne : qx' = px ∧ qy' = py
                · obtain ⟨rfl, rfl⟩ := hne
                  have HC2 : Hid (compL (l.take (k + (k2 + 1))) = L.take K) := by show _ = _; rw [← Nat.add_assoc, compL_eq (by omega) hp hq]; exact hcp.out
                  have hp := Lib.hid hp
                  have hq := Lib.hid hq
                  go_wp2_with fail
                  (refine wp_region_ext_lit (by kernel_rfl) (by kernel_rfl) ?_; (repeat (go_big_quiet_step (fail))); refine wpQuiet_nil ?_; intro _ hw'; obtain ⟨z2, hw''⟩ := hw'; subst hw''; have hs2 := z2.size; obtain ⟨hc2, hf2⟩ := bcell z2.below; (try simp only [World.size_alloc, World.size_setCell, World.size_drew] at hc2 hf2); (try simp at hs2))
                  go_wp2
                  go_roundw
                  case rel => exact ⟨K, k2 + 1, L, rfl, by go_num, by omega, by omega, by omega, HC2, hown.of z2.below, (fun i hi => hrest.out i (by omega)), by (repeat' (first | exact Below.refl _ _ | assumption | (refine Below.alloc ?_ ?_ _) | (refine Below.setCell ?_ ?_ _) | (refine Below.drew ?_) | (refine below_drewN ?_ _) | (refine below_after (Ext.below _) ?_ ?_) | (refine below_after (by assumption) ?_ ?_) | (simp; done) | omega | (simp; omega)))⟩
                  case measure => simp [intOf]; omega
                · have hd : decide (qx' = px ∧ qy' = py) = false := decide_eq_false hne
                  have HC2 : Hid (compL (l.take (k + (k2 + 1))) = (L.set K (qx', qy')).take (K + 1)) := by
                    show _ = _
                    rw [← Nat.add_assoc, compL_ne (by omega) hp hq (fun e => hne (by injection e with e1 e2; exact ⟨e1.symm, e2.symm⟩)), hcp.out, List.take_add_one, List.take_set_of_le (Nat.le_refl _), List.getElem?_set_self (by rw [hLn.out]; omega)]; rfl
                  have HR2 : Hid (∀ i, k + (k2 + 1) - 1 ≤ i → (L.set K (qx', qy'))[i]? = l[i]?) := fun i hi => by
                    rw [List.getElem?_set_ne (by omega)]; exact hrest.out i (by omega)
                  have hp := Lib.hid hp
                  have hq := Lib.hid hq
                  clear hne
                  obtain ⟨u, hu⟩ : ∃ u, L[K]? = some u := ⟨_, List.getElem?_eq_getElem (by rw [hLn.out]; omega)⟩
                  obtain ⟨k1, k2', f1, f2⟩ := rd_pt_own hown (show K < n by omega) (x := u.1) (y := u.2) hu
                  clear hu
                  go_wp2_with fail
                  (refine wp_region_ext_lit (by kernel_rfl) (by kernel_rfl) ?_; (repeat (go_big_quiet_step (fail))); refine wpQuiet_nil ?_; intro _ hw'; obtain ⟨z2, hw''⟩ := hw'; subst hw''; have hs2 := z2.size; obtain ⟨hc2, hf2⟩ := bcell z2.below; (try simp only [World.size_alloc, World.size_setCell, World.size_drew] at hc2 hf2); (try simp at hs2))
                  go_wp2
                  go_roundw
                  case rel => exact ⟨K + 1, k2 + 1, L.set K (qx', qy'), by go_num, by go_num, by omega, by omega, by omega, HC2, own_row2 (hown.of z2.below) (by omega) _ _, HR2, ((below_after z2.below hb (by omega)).setCell (by simp; omega) _).setCell (by simp; omega) _⟩
                  case measure => simp [intOf]; omega
              · have hk2e : k + k2 = n := by omega
                have dk : decide ((k2 : Int) < ((n - k : Nat) : Int)) = false := decide_eq_false (by omega)
                have hcl : ∀ ty, (Builtin.clear_ #[24] ty #[.slice (some ⟨gb, K * 2, none⟩) (n - K) (c - K)]).run Try.prog wr = .ok (.tuple #[]) (wr.setCells gb (K * 2) (Builtin.zeroCells (Value.agg #[.int .i64 0, .int .i64 0]).cells (n - K)).toList) :=
                  fun ty => run_clear_k wr _ _ ty _ 2 Try.underlying24 z23 rfl (by omega) (by decide) gb (K * 2) _ _ (by omega) (fun j hj => own_some encP_len hown (by omega)) (fun j hj => (own_cells encP_len hown (by omega)).2)
                have hKc : K < c := by omega
                have hKn : K < n := by omega
                go_wp2
                go_ret
                have hE : compL l = L.take K := by
                  have := hcp.out
                  rwa [List.take_of_length_le (by rw [hl.out]; omega)] at this
                exact ⟨_, _, _, rfl, by rw [hE]; exact rd_cleared encP_len hown (by omega) _, by omega, below_setCells hbg _ _ _ _ hb⟩
          · have hd : decide (qx = px ∧ qy = py) = false := decide_eq_false hdup
            have HC : Hid (noRep l (k + 1)) := noRep_step hrep.out hk1 hp hq (fun e => hdup (by injection e with e1 e2; exact ⟨e1.symm, e2.symm⟩))
            have hp := Lib.hid hp
            have hq := Lib.hid hq
            clear hdup
            go_wp2_with fail
            (refine wp_region_ext_lit (by kernel_rfl) (by kernel_rfl) ?_; (repeat (go_big_quiet_step (fail))); refine wpQuiet_nil ?_; intro _ hw'; obtain ⟨z1, hw''⟩ := hw'; subst hw''; have hs1 := z1.size; obtain ⟨hc1, hf1⟩ := bcell z1.below; (try simp only [World.size_alloc, World.size_setCell, World.size_drew] at hc1 hf1); (try simp at hs1))
            go_wp2
            go_roundw
            case rel => exact ⟨k + 1, by go_num, by omega, by omega, HC, hown.of z1.below, by (repeat' (first | exact Below.refl _ _ | assumption | (refine Below.alloc ?_ ?_ _) | (refine Below.setCell ?_ ?_ _) | (refine Below.drew ?_) | (refine below_drewN ?_ _) | (refine below_after (Ext.below _) ?_ ?_) | (refine below_after (by assumption) ?_ ?_) | (simp; done) | omega | (simp; omega)))⟩
            case measure => simp [intOf]; omega
        · obtain rfl : k = n := by omega
          have he : compL l = l := by
            have := hrep.out
            unfold noRep at this
            rwa [List.take_of_length_le (by rw [hl.out]; omega)] at this
          have HE := Lib.hid he
          clear he
          go_wp2
          go_ret
          exact ⟨_, _, _, rfl, by rw [HE.out]; exact hown.rd encP_len, by omega, hb⟩
/-- point.Sort: the positions in order, each once. -/
theorem point_Sort (A : Option Addr) (n c : Nat) (l : List (Int × Int)) (w : World) (hR : Rd encP 2 w A n l) (hn : n ≤ 1000000) :
    Calls Try.prog 16 #[.slice A n c] w fun e w' => ∃ A' n' c', e = .returned (.slice A' n' c') ∧ Rd encP 2 w' A' n' (sortL befQ l) ∧ n' ≤ n ∧ Below w.heap.size w w' := by
  have eg : ∀ args w, (callFunc 17 args).run Try.prog w = .ok (.enter 17 args) w := enters_of Try.func17 (by kernel_rfl) rfl
  have hcmp : ∀ (x y : Int × Int) (W : World), Calls Try.prog 17 #[.agg (encP x).toArray, .agg (encP y).toArray] W fun e w' => e = .returned (.int .i64 (cmpQ x y)) ∧ ∃ q os, w' = grow (W.drewN q) os := fun x y W => point_CompareG x.1 x.2 y.1 y.2 W
  go_enter Try.func16, Try.ntmps16
  go_wp2_with fail
  go_at_call 55
  refine (clone_pt _ _ _ _ _ hR hn).mono ?_
  rintro e w1 ⟨A1, c1, rfl, hown1, hb1⟩
  have hs1 := hb1.size
  go_wp2_with fail
  go_at_call 56
  refine (sortFunc_pt _ cmpQ swo_cmpQ eg hcmp w.heap.size _ _ _ _ _ hown1 hs1 hn).mono ?_
  rintro e w2 ⟨rfl, l', hown2, hperm, hpw, hb2⟩
  have hs2 := hb2.size
  go_wp2_with fail
  go_at_call 57
  refine (compact_pt w.heap.size _ _ _ _ _ hown2 (by omega) hn).mono ?_
  rintro e w3 ⟨A3, n3, c3, rfl, hR3, hn3, hb3⟩
  go_wp2_with fail
  go_ret
  have he : compL l' = sortL befQ l := comp_sort lin_befQ (fun x => hperm.mem_iff) (by
    unfold SW
    refine hpw.imp fun {a b} h => ?_
    rw [lt_cmpQ] at h; exact h)
  exact ⟨_, _, _, rfl, by rw [← he]; exact hR3, hn3, (hb1.trans hb2).trans hb3⟩
end Go.Proofs.Ytnhnkmppmicjoaa
