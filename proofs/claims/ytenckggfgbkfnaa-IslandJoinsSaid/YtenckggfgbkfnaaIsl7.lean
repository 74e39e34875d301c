/- The contracts of the reference's insert, of Count and of same. -/
import Derived.Test.YtenckggfgbkfnaaIsl3
import Derived.Test.YtenckggfgbkfnaaPLN
namespace Go.Proofs.Ytenckggfgbkfnaa
open Go Go.RowKit
set_option linter.unusedSimpArgs false
set_option linter.unusedVariables false
set_option maxRecDepth 100000
attribute [local go_sem ↓ high] eq_cl neq_cl eq_pt neq_pt
/-- What lay in the world as the call began lies in no block of a row of the call's own. -/
theorem off_old {α β γ : Type} {K : EK α β} {e : TypeId} {enc : γ → List Value} {k n c q : Nat} {w wr : World} {A : Option Addr} {bs : List β} {h : Option Addr × Nat × Nat} {l : List γ} (hR : Rd enc k w h.1 h.2.1 l) (hX : OwnX K e w.heap.size wr A n c bs) : ∀ q ∈ blkH h, some q ≠ (Value.slice A n c).ownBlock := by
  intro q hq e1
  have h1 := hR.blk_lt q hq
  have h2 := hX.ge q e1.symm
  omega
theorem insW_flag {L : List (List (Int × Int × Int))} {p x : List (Int × Int × Int)} {k : Nat} (h : L[k]? = some x) (hd : (insW L p k).2 = true) : insW L p (k + 1) = ((insW L p k).1 ++ [x], true) := by
  rw [insW_step h]; unfold stepI; rw [hd]; simp
theorem insW_put {L : List (List (Int × Int × Int))} {p x : List (Int × Int × Int)} {k : Nat} (h : L[k]? = some x) (hd : (insW L p k).2 = false) (hl : ltM p x = true) : insW L p (k + 1) = ((insW L p k).1 ++ [p] ++ [x], true) := by
  rw [insW_step h]; unfold stepI; rw [hd, hl]; simp
theorem insW_pass {L : List (List (Int × Int × Int))} {p x : List (Int × Int × Int)} {k : Nat} (h : L[k]? = some x) (hd : (insW L p k).2 = false) (hl : ltM p x = false) : insW L p (k + 1) = ((insW L p k).1 ++ [x], false) := by
  rw [insW_step h]; unfold stepI; rw [hd, hl]; simp
set_option maxHeartbeats 4000000 in
theorem ref36_insert (A P : Option Addr) (n c q u : Nat) (L : List (List (Int × Int × Int))) (p : List (Int × Int × Int)) (w : World) (hL : RdX ekC w A n L) (hp : Rd encC 3 w P q p) (hq : 1 ≤ q) (hqu : q ≤ u) (hne : ∀ l ∈ L, l ≠ []) (hn : n ≤ 1000) :
    Calls Try.prog 31 #[.slice A n c, .slice P q u] w fun e w' => ∃ A' n' c', e = .returned (.slice A' n' c') ∧ RdX ekC w' A' n' (insF L p) ∧ Below w.heap.size w w' := by
  obtain ⟨bp, op, rfl, hbp, _⟩ := hp.2 (by omega)
  have hlen := Lib.hid hL.len
  have hne := Lib.hid hne
  have hp1 := hp.take hq
  have hu1 : (1 : Int) ≤ (u : Int) := by omega
  go_enter Try.func31, Try.ntmps31
  go_wp2
  go_loopw [5, 6, 7] (fun v f t wr => ∃ (E : Option Addr) (m s k : Nat), v = .slice E m s ∧ f = .bool (insW L p k).2 ∧ t = .int .i64 k ∧ k ≤ n ∧ m ≤ k + 1 ∧ OwnX ekC 23 w.heap.size wr E m s (insW L p k).1 ∧ Below w.heap.size w wr) (fun _ _ t _ => n - (intOf t).toNat)
  case atStart => exact ⟨none, 0, 0, 0, rfl, rfl, rfl, by omega, by omega, OwnX.nil_, Below.refl _ _⟩
  case round =>
    obtain ⟨E, m, s, k, rfl, rfl, rfl, hk, hm, hX, hb⟩ := hrel
    have hs := hb.size
    by_cases hlk : k < n
    · have dk : decide ((k : Int) < n) = true := decide_eq_true (by omega)
      obtain ⟨F, m2, c2, l, bo, o, hx, rfl, hbl, g1', hRl', hmc⟩ := hL.pat hlk
      have g1 : wr.cell? ⟨bo, o + k, none⟩ = some (.slice F m2 c2) := (hb.cell (p := ⟨bo, o + k, none⟩) hbl).trans g1'
      have hm2 : 1 ≤ m2 := by rw [← hRl'.len]; exact List.length_pos_iff.2 (hne.out l (List.mem_of_getElem? hx.out))
      obtain ⟨bf, of_, rfl, hbf, _⟩ := hRl'.2 (by omega)
      have hc1 : (1 : Int) ≤ (c2 : Int) := by omega
      have hml := hX.len
      have hwl := insW_len (L := L) (p := p) (k := k) (by rw [hlen.out]; omega)
      cases hd : (insW L p k).2 with
      | true =>
        have HN := Lib.hid (insW_flag hx.out hd)
        obtain rfl : m = k + 1 := by rw [← hml, hwl, if_pos hd]
        have HD := Lib.hid hd
        clear hwl hml
        go_wp2_with fail
        (refine wp_region_ext_lit (by kernel_rfl) (by kernel_rfl) ?_; (repeat (go_big_quiet_step (fail))); refine wpQuiet_nil ?_; intro _ hw'; obtain ⟨z3, hw''⟩ := hw'; subst hw''; have hs3 := z3.size; obtain ⟨hc3, hf3⟩ := bcell z3.below; (try simp only [World.size_alloc, World.size_setCell, World.size_drew] at hc3 hf3); (try simp at hs3))
        go_wp2_with (first | (at_builtin; refine wpList_append_x (K := ekC) rfl (.tmp 31) (.tmp 36) 25 rfl 23 (.slice none 0 0) 24 Try.underlying25 (by kernel_rfl) rfl (w.heap.size) _ _ _ _ rfl ((hX.of z3.below).alloc _) (some ⟨bf, of_, none⟩, m2, c2) _ (⟨hRl'.of (by (repeat' (first | exact Below.refl _ _ | assumption | (refine Below.alloc ?_ ?_ _) | (refine Below.setCell ?_ ?_ _) | (refine Below.drew ?_) | (refine below_drewN ?_ _) | (refine below_after (Ext.below _) ?_ ?_) | (refine below_after (by assumption) ?_ ?_) | (simp; done) | omega | (simp; omega)))), hmc⟩) (off_old (h := (some ⟨bf, of_, none⟩, m2, c2)) (q := 0) hRl' (hX.of z3.below)) ⟨(z3.world).heap.size, 0, none⟩ 1 rfl (cells_new (z3.world) (encH (some ⟨bf, of_, none⟩, m2, c2)) 23) (by omega) (by omega) (by first | omega | (simp; done) | (simp; omega)) ?_; intro A6 c6 w6 hown6 hg6 hb6; obtain ⟨hc6, hf6⟩ := bcell hb6; have hs6 := hb6.size; (try simp only [World.size_alloc, World.size_setCell, World.size_drew] at hc6 hf6); (try simp at hs6)))
        go_roundw
        case rel => exact ⟨A6, k + 1 + 1, c6, k + 1, rfl, by rw [HN.out], by go_num, by omega, by omega, by rw [HN.out]; exact hown6, by (repeat' (first | exact Below.refl _ _ | assumption | (refine Below.alloc ?_ ?_ _) | (refine Below.setCell ?_ ?_ _) | (refine Below.drew ?_) | (refine below_drewN ?_ _) | (refine below_after (Ext.below _) ?_ ?_) | (refine below_after (by assumption) ?_ ?_) | (simp; done) | omega | (simp; omega)))⟩
        case measure => simp [intOf]; omega
      | false =>
        obtain rfl : m = k := by rw [← hml, hwl, if_neg (by rw [hd]; simp)]; rfl
        have kC := fun w9 h1 h2 => ref05_Compare (some ⟨bp, op, none⟩) (some ⟨bf, of_, none⟩) 1 1 u c2 (p.take 1) (l.take 1) w9 h1 h2 (by omega) (by omega)
        have hl1 := hRl'.take hm2
        cases hlt : ltM p l with
        | true =>
          have dl : decide (cmpL (p.take 1) (l.take 1) < 0) = true := hlt
          have HN := Lib.hid (insW_put hx.out hd hlt)
          have HD := Lib.hid hd
          generalize cmpL (p.take 1) (l.take 1) = v at kC dl
          clear hwl hml hlt
          go_wp2_with fail
          (refine wp_region_ext_lit (by kernel_rfl) (by kernel_rfl) ?_; (repeat (go_big_quiet_step ((go_at_call 32; exact calls_ext (kC _ (hp1.of (by (repeat' (first | exact Below.refl _ _ | assumption | (refine Below.alloc ?_ ?_ _) | (refine Below.setCell ?_ ?_ _) | (refine Below.drew ?_) | (refine below_drewN ?_ _) | (refine below_after (Ext.below _) ?_ ?_) | (refine below_after (by assumption) ?_ ?_) | (simp; done) | omega | (simp; omega))))) (hl1.of (by (repeat' (first | exact Below.refl _ _ | assumption | (refine Below.alloc ?_ ?_ _) | (refine Below.setCell ?_ ?_ _) | (refine Below.drew ?_) | (refine below_drewN ?_ _) | (refine below_after (Ext.below _) ?_ ?_) | (refine below_after (by assumption) ?_ ?_) | (simp; done) | omega | (simp; omega)))))))))); refine wpQuiet_nil ?_; intro _ hw'; obtain ⟨z3, hw''⟩ := hw'; subst hw''; have hs3 := z3.size; obtain ⟨hc3, hf3⟩ := bcell z3.below; (try simp only [World.size_alloc, World.size_setCell, World.size_drew] at hc3 hf3); (try simp at hs3))
          go_wp2_with (first | (at_builtin; refine wpList_append_x (K := ekC) rfl (.tmp 27) (.tmp 29) 25 rfl 23 (.slice none 0 0) 24 Try.underlying25 (by kernel_rfl) rfl (w.heap.size) _ _ _ _ rfl ((hX.of z3.below).alloc _) (some ⟨bp, op, none⟩, q, u) _ (⟨hp.of (by (repeat' (first | exact Below.refl _ _ | assumption | (refine Below.alloc ?_ ?_ _) | (refine Below.setCell ?_ ?_ _) | (refine Below.drew ?_) | (refine below_drewN ?_ _) | (refine below_after (Ext.below _) ?_ ?_) | (refine below_after (by assumption) ?_ ?_) | (simp; done) | omega | (simp; omega)))), hqu⟩) (off_old (h := (some ⟨bp, op, none⟩, q, u)) (q := 0) hp (hX.of z3.below)) ⟨(z3.world).heap.size, 0, none⟩ 1 rfl (cells_new (z3.world) (encH (some ⟨bp, op, none⟩, q, u)) 23) (by omega) (by omega) (by first | omega | (simp; done) | (simp; omega)) ?_; intro A5 c5 w5 hown5 hg5 hb5; obtain ⟨hc5, hf5⟩ := bcell hb5; have hs5 := hb5.size; (try simp only [World.size_alloc, World.size_setCell, World.size_drew] at hc5 hf5); (try simp at hs5)) | (at_builtin; refine wpList_append_x (K := ekC) rfl (.tmp 31) (.tmp 36) 25 rfl 23 (.slice none 0 0) 24 Try.underlying25 (by kernel_rfl) rfl (w.heap.size) _ _ _ _ rfl (hown5.alloc _) (some ⟨bf, of_, none⟩, m2, c2) _ (⟨hRl'.of (by (repeat' (first | exact Below.refl _ _ | assumption | (refine Below.alloc ?_ ?_ _) | (refine Below.setCell ?_ ?_ _) | (refine Below.drew ?_) | (refine below_drewN ?_ _) | (refine below_after (Ext.below _) ?_ ?_) | (refine below_after (by assumption) ?_ ?_) | (simp; done) | omega | (simp; omega)))), hmc⟩) (off_old (h := (some ⟨bf, of_, none⟩, m2, c2)) (q := 0) hRl' hown5) ⟨(w5).heap.size, 0, none⟩ 1 rfl (cells_new (w5) (encH (some ⟨bf, of_, none⟩, m2, c2)) 23) (by omega) (by omega) (by first | omega | (simp; done) | (simp; omega)) ?_; intro A6 c6 w6 hown6 hg6 hb6; obtain ⟨hc6, hf6⟩ := bcell hb6; have hs6 := hb6.size; (try simp only [World.size_alloc, World.size_setCell, World.size_drew] at hc6 hf6); (try simp at hs6)))
          go_roundw
          case rel => exact ⟨A6, m + 1 + 1, c6, m + 1, rfl, by rw [HN.out], by go_num, by omega, by omega, by rw [HN.out]; exact hown6, by (repeat' (first | exact Below.refl _ _ | assumption | (refine Below.alloc ?_ ?_ _) | (refine Below.setCell ?_ ?_ _) | (refine Below.drew ?_) | (refine below_drewN ?_ _) | (refine below_after (Ext.below _) ?_ ?_) | (refine below_after (by assumption) ?_ ?_) | (simp; done) | omega | (simp; omega)))⟩
          case measure => simp [intOf]; omega
        | false =>
          have dl : decide (cmpL (p.take 1) (l.take 1) < 0) = false := hlt
          have HN := Lib.hid (insW_pass hx.out hd hlt)
          have HD := Lib.hid hd
          generalize cmpL (p.take 1) (l.take 1) = v at kC dl
          clear hwl hml hlt
          go_wp2_with fail
          (refine wp_region_ext_lit (by kernel_rfl) (by kernel_rfl) ?_; (repeat (go_big_quiet_step ((go_at_call 32; exact calls_ext (kC _ (hp1.of (by (repeat' (first | exact Below.refl _ _ | assumption | (refine Below.alloc ?_ ?_ _) | (refine Below.setCell ?_ ?_ _) | (refine Below.drew ?_) | (refine below_drewN ?_ _) | (refine below_after (Ext.below _) ?_ ?_) | (refine below_after (by assumption) ?_ ?_) | (simp; done) | omega | (simp; omega))))) (hl1.of (by (repeat' (first | exact Below.refl _ _ | assumption | (refine Below.alloc ?_ ?_ _) | (refine Below.setCell ?_ ?_ _) | (refine Below.drew ?_) | (refine below_drewN ?_ _) | (refine below_after (Ext.below _) ?_ ?_) | (refine below_after (by assumption) ?_ ?_) | (simp; done) | omega | (simp; omega)))))))))); refine wpQuiet_nil ?_; intro _ hw'; obtain ⟨z3, hw''⟩ := hw'; subst hw''; have hs3 := z3.size; obtain ⟨hc3, hf3⟩ := bcell z3.below; (try simp only [World.size_alloc, World.size_setCell, World.size_drew] at hc3 hf3); (try simp at hs3))
          go_wp2_with (first | (at_builtin; refine wpList_append_x (K := ekC) rfl (.tmp 31) (.tmp 36) 25 rfl 23 (.slice none 0 0) 24 Try.underlying25 (by kernel_rfl) rfl (w.heap.size) _ _ _ _ rfl ((hX.of z3.below).alloc _) (some ⟨bf, of_, none⟩, m2, c2) _ (⟨hRl'.of (by (repeat' (first | exact Below.refl _ _ | assumption | (refine Below.alloc ?_ ?_ _) | (refine Below.setCell ?_ ?_ _) | (refine Below.drew ?_) | (refine below_drewN ?_ _) | (refine below_after (Ext.below _) ?_ ?_) | (refine below_after (by assumption) ?_ ?_) | (simp; done) | omega | (simp; omega)))), hmc⟩) (off_old (h := (some ⟨bf, of_, none⟩, m2, c2)) (q := 0) hRl' (hX.of z3.below)) ⟨(z3.world).heap.size, 0, none⟩ 1 rfl (cells_new (z3.world) (encH (some ⟨bf, of_, none⟩, m2, c2)) 23) (by omega) (by omega) (by first | omega | (simp; done) | (simp; omega)) ?_; intro A6 c6 w6 hown6 hg6 hb6; obtain ⟨hc6, hf6⟩ := bcell hb6; have hs6 := hb6.size; (try simp only [World.size_alloc, World.size_setCell, World.size_drew] at hc6 hf6); (try simp at hs6)))
          go_roundw
          case rel => exact ⟨A6, m + 1, c6, m + 1, rfl, by rw [HN.out], by go_num, by omega, by omega, by rw [HN.out]; exact hown6, by (repeat' (first | exact Below.refl _ _ | assumption | (refine Below.alloc ?_ ?_ _) | (refine Below.setCell ?_ ?_ _) | (refine Below.drew ?_) | (refine below_drewN ?_ _) | (refine below_after (Ext.below _) ?_ ?_) | (refine below_after (by assumption) ?_ ?_) | (simp; done) | omega | (simp; omega)))⟩
          case measure => simp [intOf]; omega
    · obtain rfl : k = n := by omega
      have dk : decide ((k : Int) < k) = false := decide_eq_false (by omega)
      have HF := Lib.hid (show insF L p = if (insW L p k).2 = true then (insW L p k).1 else (insW L p k).1 ++ [p] by unfold insF; rw [hlen.out])
      cases hd : (insW L p k).2 with
      | true =>
        have HF' := Lib.hid (show insF L p = (insW L p k).1 by rw [HF.out, if_pos hd])
        clear HF
        have HD := Lib.hid hd
        go_wp2_with fail
        go_ret
        exact ⟨E, m, s, rfl, by rw [HF'.out]; exact hX.rd, hb⟩
      | false =>
        have HF' := Lib.hid (show insF L p = (insW L p k).1 ++ [p] by rw [HF.out, if_neg (by rw [hd]; simp)])
        clear HF
        have HD := Lib.hid hd
        go_wp2_with (first | (at_builtin; refine wpList_append_x (K := ekC) rfl (.tmp 40) (.tmp 42) 25 rfl 23 (.slice none 0 0) 24 Try.underlying25 (by kernel_rfl) rfl (w.heap.size) _ _ _ _ rfl (hX.alloc _) (some ⟨bp, op, none⟩, q, u) _ (⟨hp.of (by (repeat' (first | exact Below.refl _ _ | assumption | (refine Below.alloc ?_ ?_ _) | (refine Below.setCell ?_ ?_ _) | (refine Below.drew ?_) | (refine below_drewN ?_ _) | (refine below_after (Ext.below _) ?_ ?_) | (refine below_after (by assumption) ?_ ?_) | (simp; done) | omega | (simp; omega)))), hqu⟩) (off_old (h := (some ⟨bp, op, none⟩, q, u)) (q := 0) hp hX) ⟨(wr).heap.size, 0, none⟩ 1 rfl (cells_new (wr) (encH (some ⟨bp, op, none⟩, q, u)) 23) (by omega) (by omega) (by first | omega | (simp; done) | (simp; omega)) ?_; intro A5 c5 w5 hown5 hg5 hb5; obtain ⟨hc5, hf5⟩ := bcell hb5; have hs5 := hb5.size; (try simp only [World.size_alloc, World.size_setCell, World.size_drew] at hc5 hf5); (try simp at hs5)))
        go_ret
        exact ⟨A5, m + 1, c5, rfl, by rw [HF'.out]; exact hown5.rd, by (repeat' (first | exact Below.refl _ _ | assumption | (refine Below.alloc ?_ ?_ _) | (refine Below.setCell ?_ ?_ _) | (refine Below.drew ?_) | (refine below_drewN ?_ _) | (refine below_after (Ext.below _) ?_ ?_) | (refine below_after (by assumption) ?_ ?_) | (simp; done) | omega | (simp; omega)))⟩
theorem isl_Count (A : Option Addr) (n c : Nat) (l : List (Int × Int × Int)) (d : Int) (w : World) (hR : Rd encC 3 w A n l) (hn : n ≤ 1000000) :
    Calls Try.prog 11 #[.slice A n c, .int .i64 d] w fun e w' => e = .returned (.tuple #[.int .i64 ((prtsL l d).length : Nat), .int .i64 (prtsE l d)]) ∧ Below w.heap.size w w' := by
  go_enter Try.func11, Try.ntmps11
  go_wp2_with fail; go_at_call 9; refine (isl_Parts _ _ _ _ _ _ hR hn).mono ?_; rintro e w1 ⟨A1, n1, c1, rfl, h1, hn1, hb1⟩; have hs1 := hb1.size; (try simp only [World.size_alloc, World.size_drew, World.size_setCell] at hs1)
  have hl := Lib.hid h1.len
  clear h1
  go_wp2_with fail
  go_ret2
  exact ⟨by rw [hl.out]; rfl, hb1⟩
/-- Lists of patterns that are alike. -/
def sameLL (a b : List (List (Int × Int × Int))) : Bool := decide (a = b)
set_option maxHeartbeats 2000000 in
theorem law36_same (A B : Option Addr) (n m c d : Nat) (a b : List (List (Int × Int × Int))) (w : World) (hA : RdX ekC w A n a) (hB : RdX ekC w B m b) (hn : n ≤ 1000000) (hm : m ≤ 1000000) (ha : ∀ l ∈ a, l.length ≤ 1000000) (hb : ∀ l ∈ b, l.length ≤ 1000000) :
    Calls Try.prog 12 #[.slice A n c, .slice B m d] w fun e w' => e = .returned (.bool (sameLL a b)) ∧ Below w.heap.size w w' := by
  have hla := Lib.hid hA.len
  have hlb := Lib.hid hB.len
  have ha := Lib.hid ha
  have hbb := Lib.hid hb
  clear hb
  by_cases hnm : n = m
  · subst hnm
    have dnm : ((n : Int) != (n : Int)) = false := by simp
    go_enter Try.func12, Try.ntmps12
    go_wp2_with fail
    go_loopw [13] (fun t wr => ∃ k : Nat, t = .int .i64 k ∧ k ≤ n ∧ Hid (a.take k = b.take k) ∧ Below w.heap.size w wr) (fun t _ => n - (intOf t).toNat)
    case atStart => exact ⟨0, rfl, by omega, Lib.hid rfl, Below.refl _ _⟩
    case round =>
      obtain ⟨k, rfl, hk, he, hb⟩ := hrel
      have hs := hb.size
      by_cases hlk : k < n
      · have dk : decide ((k : Int) < n) = true := decide_eq_true (by omega)
        obtain ⟨F, m2, c2, l, bo, o, hx, rfl, hbl, g1, hRl, _⟩ := (hA.of hb).pat hlk
        obtain ⟨G, m3, c3, r, bo', o', hy, rfl, hbl', g2, hRr, _⟩ := (hB.of hb).pat hlk
        have k1 : m2 ≤ 1000000 := by rw [← hRl.len]; exact ha.out l (List.mem_of_getElem? hx.out)
        have k2 : m3 ≤ 1000000 := by rw [← hRr.len]; exact hbb.out r (List.mem_of_getElem? hy.out)
        cases hq : sameL l r with
        | true =>
          have hst := Lib.hid (show a.take (k + 1) = b.take (k + 1) by
            rw [List.take_add_one, List.take_add_one, hx.out, hy.out, he.out]
            have : l = r := by unfold sameL at hq; exact of_decide_eq_true hq
            rw [this])
          have kS := fun w9 h1 h2 => ref05_SameV hq F G m2 m3 c2 c3 w9 h1 h2 k1 k2
          clear hq
          go_wp2_with fail
          (refine wp_region_ext_lit (by kernel_rfl) (by kernel_rfl) ?_; (repeat (go_big_quiet_step ((go_at_call 18; exact calls_ext (kS _ (hRl.of (by (repeat' (first | exact Below.refl _ _ | assumption | (refine Below.alloc ?_ ?_ _) | (refine Below.setCell ?_ ?_ _) | (refine Below.drew ?_) | (refine below_drewN ?_ _) | (refine below_after (Ext.below _) ?_ ?_) | (refine below_after (by assumption) ?_ ?_) | (simp; done) | omega | (simp; omega))))) (hRr.of (by (repeat' (first | exact Below.refl _ _ | assumption | (refine Below.alloc ?_ ?_ _) | (refine Below.setCell ?_ ?_ _) | (refine Below.drew ?_) | (refine below_drewN ?_ _) | (refine below_after (Ext.below _) ?_ ?_) | (refine below_after (by assumption) ?_ ?_) | (simp; done) | omega | (simp; omega)))))))))); refine wpQuiet_nil ?_; intro _ hw'; obtain ⟨z3, hw''⟩ := hw'; subst hw''; have hs3 := z3.size; obtain ⟨hc3, hf3⟩ := bcell z3.below; (try simp only [World.size_alloc, World.size_setCell, World.size_drew] at hc3 hf3); (try simp at hs3))
          go_wp2_with fail
          go_roundw
          case rel => exact ⟨k + 1, by go_num, by omega, hst, by (repeat' (first | exact Below.refl _ _ | assumption | (refine Below.alloc ?_ ?_ _) | (refine Below.setCell ?_ ?_ _) | (refine Below.drew ?_) | (refine below_drewN ?_ _) | (refine below_after (Ext.below _) ?_ ?_) | (refine below_after (by assumption) ?_ ?_) | (simp; done) | omega | (simp; omega)))⟩
          case measure => simp [intOf]; omega
        | false =>
          have HE := Lib.hid (show sameLL a b = false by
            unfold sameLL
            refine decide_eq_false fun e => ?_
            have h1 := hx.out
            rw [e, hy.out] at h1
            injection h1 with h1
            unfold sameL at hq
            exact (of_decide_eq_false hq) h1.symm)
          have kS := fun w9 h1 h2 => ref05_SameV hq F G m2 m3 c2 c3 w9 h1 h2 k1 k2
          clear hq
          go_wp2_with fail
          (refine wp_region_ext_lit (by kernel_rfl) (by kernel_rfl) ?_; (repeat (go_big_quiet_step ((go_at_call 18; exact calls_ext (kS _ (hRl.of (by (repeat' (first | exact Below.refl _ _ | assumption | (refine Below.alloc ?_ ?_ _) | (refine Below.setCell ?_ ?_ _) | (refine Below.drew ?_) | (refine below_drewN ?_ _) | (refine below_after (Ext.below _) ?_ ?_) | (refine below_after (by assumption) ?_ ?_) | (simp; done) | omega | (simp; omega))))) (hRr.of (by (repeat' (first | exact Below.refl _ _ | assumption | (refine Below.alloc ?_ ?_ _) | (refine Below.setCell ?_ ?_ _) | (refine Below.drew ?_) | (refine below_drewN ?_ _) | (refine below_after (Ext.below _) ?_ ?_) | (refine below_after (by assumption) ?_ ?_) | (simp; done) | omega | (simp; omega)))))))))); refine wpQuiet_nil ?_; intro _ hw'; obtain ⟨z3, hw''⟩ := hw'; subst hw''; have hs3 := z3.size; obtain ⟨hc3, hf3⟩ := bcell z3.below; (try simp only [World.size_alloc, World.size_setCell, World.size_drew] at hc3 hf3); (try simp at hs3))
          go_wp2_with fail
          go_ret
          exact ⟨ret_bool HE.out.symm, by (repeat' (first | exact Below.refl _ _ | assumption | (refine Below.alloc ?_ ?_ _) | (refine Below.setCell ?_ ?_ _) | (refine Below.drew ?_) | (refine below_drewN ?_ _) | (refine below_after (Ext.below _) ?_ ?_) | (refine below_after (by assumption) ?_ ?_) | (simp; done) | omega | (simp; omega)))⟩
      · obtain rfl : k = n := by omega
        have dk : decide ((k : Int) < k) = false := decide_eq_false (by omega)
        have HE := Lib.hid (show sameLL a b = true by
          unfold sameLL
          have h1 := he.out
          rw [List.take_of_length_le (by rw [hla.out]; exact Nat.le_refl _), List.take_of_length_le (by rw [hlb.out]; exact Nat.le_refl _)] at h1
          exact decide_eq_true h1)
        go_wp2_with fail
        go_ret
        exact ⟨ret_bool HE.out.symm, hb⟩
  · have dnm : ((n : Int) != (m : Int)) = true := by simp only [bne_iff_ne, ne_eq]; omega
    have HE := Lib.hid (show sameLL a b = false by
      unfold sameLL
      exact decide_eq_false fun e => hnm (by rw [← hla.out, ← hlb.out, e]))
    clear hnm
    go_enter Try.func12, Try.ntmps12
    go_wp2_with fail
    go_ret
    exact ⟨ret_bool HE.out.symm, by (repeat' (first | exact Below.refl _ _ | assumption | (refine Below.alloc ?_ ?_ _) | (refine Below.setCell ?_ ?_ _) | (refine Below.drew ?_) | (refine below_drewN ?_ _) | (refine below_after (Ext.below _) ?_ ?_) | (refine below_after (by assumption) ?_ ?_) | (simp; done) | omega | (simp; omega)))⟩
end Go.Proofs.Ytenckggfgbkfnaa
