/- The walk of IslandJoins. -/
import Derived.Test.YtenckggfgbkfnaaAwake36
import Derived.Test.YtenckggfgbkfnaaIslU
namespace Go.Proofs.Ytenckggfgbkfnaa
open Go Go.RowKit
set_option linter.unusedSimpArgs false
set_option linter.unusedVariables false
set_option maxRecDepth 100000
attribute [local go_sem ↓ high] eq_cl neq_cl eq_pt neq_pt
theorem joins_plain {l : List (Int × Int × Int)} {d : Int} (h : rightC l = true) (h1 : 1 ≤ d) (h8 : d ≤ 8) : ∃ L R : List (List (Int × Int × Int)), prtsE l d = 0 ∧ prtsL l d = L ∧ L.length ≤ l.length ∧ (∀ q ∈ L, q.length ≤ l.length) ∧
    mgE L [] = 0 ∧ (∀ L', mgOut L [] L' → L' = L) ∧ mgE L (chainP (L.length - 1)) = 0 ∧ (∀ L', mgOut L (chainP (L.length - 1)) L' → L' = R) ∧ ((l.length = 0 ∧ R = []) ∨ (0 < l.length ∧ R = [l])) := by
  have hE := prtsE_ok (l := l) (d := d) ⟨h, h1, h8⟩
  obtain ⟨L, hL⟩ : ∃ L, prtsN l d l.length = L := ⟨_, rfl⟩
  obtain ⟨g1, g2, g3, g4, g5⟩ := prts_good h hL
  have hf := prts_flat (l := l) (d := d)
  have hw := prts_heads (d := d) (rightC_sorted h)
  have hs := rightC_sorted h
  rw [hL] at hf hw
  have h0 : mgE L [] = 0 := mgE_ok g1 rfl g2 (by omega)
  have hc : mgE L (chainP (L.length - 1)) = 0 := mgE_ok g1 chain_good g2 (by omega)
  have hlen : L.length ≤ l.length := by
    rw [← g4]
    have : ∀ M : List (List (Int × Int × Int)), (∀ q ∈ M, q ≠ []) → M.length ≤ M.flatten.length := by
      intro M
      induction M with
      | nil => intro _; simp
      | cons q M ih =>
        intro hq
        have h1 := ih fun x hx => hq x (by simp [hx])
        have h2 := List.length_pos_iff.2 (hq q (by simp))
        simp only [List.length_cons, List.flatten_cons, List.length_append]
        omega
    exact this L fun q hq => (g5 q hq).2
  have hq : ∀ q ∈ L, q.length ≤ l.length := by
    intro q hq
    rw [← g4]
    exact (List.sublist_flatten_of_mem hq).length_le
  refine ⟨L, if L.length = 0 then [] else [l], hE.1, by rw [hE.2, hL], hlen, hq, h0, fun L' hM => mg_unique (hM.2 h0) (mg_none hw fun q hq => (g5 q hq).1), hc, fun L' hM => ?_, ?_⟩
  · by_cases hz : L.length = 0
    · rw [if_pos hz]
      obtain rfl := List.length_eq_zero_iff.1 hz
      exact mg_unique (hM.2 hc) ⟨List.Pairwise.nil, fun q => ⟨fun hq => (by cases hq), fun ⟨i, hi, _⟩ => (by cases hi)⟩⟩
    · rw [if_neg hz]
      exact mg_unique (hM.2 hc) (mg_chain (by omega) hs hf)
  · by_cases hz : L.length = 0
    · rw [if_pos hz]
      obtain rfl := List.length_eq_zero_iff.1 hz
      exact .inl ⟨by rw [← g4]; rfl, rfl⟩
    · rw [if_neg hz]
      exact .inr ⟨by omega, rfl⟩
set_option maxHeartbeats 8000000 in
theorem law_ijoins (A : Option Addr) (n c : Nat) (l : List (Int × Int × Int)) (x : Int) (hx0 : 0 ≤ x) (hx1 : x ≤ 255) (w : World) (hR : Rd encC 3 w A n l) :
    Calls Try.prog 7 #[.slice A n c, .int .u8 x] w fun e w' => e = .returned (.bool true) ∧ Below w.heap.size w w' := by
  by_cases hf : n ≤ 120
  · have df : decide (120 < (n : Int)) = false := decide_eq_false (by omega)
    have hlen := hR.len
    have b0 : 0 ≤ x.tmod 8 ∧ x.tmod 8 ≤ 7 := by
      have h1 := Int.tmod_lt_of_pos x (show (0 : Int) < 8 by omega)
      have h2 := Int.tmod_nonneg 8 hx0
      omega
    have e0 : IntKind.i64.wrap x = x := IntWalk.i64_in _ (by omega)
    generalize hd0 : x.tmod 8 = r at b0
    have f0 : IntKind.i64.wrap r = r := IntWalk.i64_in _ (by omega)
    have f1 : IntKind.i64.wrap (1 + r) = 1 + r := IntWalk.i64_in _ (by omega)
    cases hr : rightC l with
    | false =>
      have hE := prtsE_bad (l := l) (d := 1 + r) (fun h => by rw [hr] at h; cases h.1)
      have kP := fun w1 h1 => isl_PartsV (p := 0) A n c w1 hE.1 hE.2 rfl h1 (by omega)
      clear hE hr
      go_enter Try.func7, Try.ntmps7
      go_wp2_with fail; go_at_call 9; refine (kP _ hR).mono ?_; rintro e w1 ⟨A1, c1, rfl, h1, hb1⟩; have hs1 := hb1.size; (try simp only [World.size_alloc, World.size_drew, World.size_setCell] at hs1)
      go_wp2_with fail; go_at_call 8; refine (awake_36 _).mono ?_; rintro e w5 ⟨rfl, hb5⟩; have hs5 := hb5.size; (try simp only [World.size_alloc, World.size_drew, World.size_setCell] at hs5)
      go_wp2_with fail
      go_ret
      exact ⟨rfl, by (repeat' (first | exact Below.refl _ _ | assumption | (refine Below.alloc ?_ ?_ _) | (refine Below.setCell ?_ ?_ _) | (refine Below.drew ?_) | (refine below_drewN ?_ _) | (refine below_after (Ext.below _) ?_ ?_) | (refine below_after (by assumption) ?_ ?_) | (simp; done) | omega | (simp; omega)))⟩
    | true =>
      obtain ⟨L, R, hE, hL, hLn, hq, m0, m1, m2, m3, hend⟩ := joins_plain hr (d := 1 + r) (by omega) (by omega)
      have kP := fun w1 h1 => isl_PartsV A n c w1 hE hL rfl h1 (by omega)
      obtain ⟨p, hp⟩ : ∃ p, L.length = p := ⟨_, rfl⟩
      rw [hp] at kP m2 m3 hLn
      have hbd : ∀ q ∈ L, q.length ≤ 100000 := fun q h => Nat.le_trans (hq q h) (by omega)
      have hbd2 : ∀ q ∈ L, q.length ≤ 1000000 := fun q h => Nat.le_trans (hq q h) (by omega)
      have kM := fun (A1 : Option Addr) (c1 : Nat) w1 h1 => isl_MergeV A1 none p 0 c1 0 w1 m0 m1 hp h1 Rd.nil_ (by omega) (by omega) hbd
      have kN := fun (A1 B1 : Option Addr) (c1 c2 u : Nat) (hu : R.length = u) w1 h1 h2 => isl_MergeV A1 B1 p (p - 1) c1 c2 w1 m2 m3 hu h1 h2 (by omega) (by omega) hbd
      have kS := fun (A1 A2 : Option Addr) (c1 c2 : Nat) w1 h1 h2 => law36_sameV (L := L) A1 A2 p c1 c2 w1 h1 h2 (by omega) hbd2
      have hp120 : p ≤ 120 := by omega
      rw [hlen] at hend
      clear hE hL hq m0 m1 m2 m3 hbd hbd2 hr hLn
      go_enter Try.func7, Try.ntmps7
      go_wp2_with fail; go_at_call 9; refine (kP _ hR).mono ?_; rintro e w1 ⟨A1, c1, rfl, h1, hb1⟩; have hs1 := hb1.size; (try simp only [World.size_alloc, World.size_drew, World.size_setCell] at hs1)
      have hR1 := hR.of hb1
      go_wp2_with fail; go_at_call 15; refine (kM _ _ _ h1).mono ?_; rintro e w2 ⟨A2, c2, rfl, h2, hb2⟩; have hs2 := hb2.size; (try simp only [World.size_alloc, World.size_drew, World.size_setCell] at hs2)
      have hR2 := hR1.of hb2
      have h12 := h1.of hb2
      have hB2 : Below w.heap.size w w2 := by (repeat' (first | exact Below.refl _ _ | assumption | (refine Below.alloc ?_ ?_ _) | (refine Below.setCell ?_ ?_ _) | (refine Below.drew ?_) | (refine below_drewN ?_ _) | (refine below_after (Ext.below _) ?_ ?_) | (refine below_after (by assumption) ?_ ?_) | (simp; done) | omega | (simp; omega)))
      have hs0 := hB2.size
      clear kP kM hb1 hb2 hs1 hs2 hR hR1 h1
      go_wp2_with fail
      go_loopw [9, 10] (fun v t wr => ∃ (B : Option Addr) (m s k : Nat), v = .slice B m s ∧ t = .int .i64 k ∧ Hid (m + 1 = k) ∧ k ≤ p + 1 ∧ Hid (m ≤ p - 1) ∧ Own encP 2 41 w2.heap.size wr B m s (chainP m) ∧ Below w2.heap.size w2 wr) (fun _ t _ => p - (intOf t).toNat)
      case atStart => exact ⟨none, 0, 0, 1, rfl, rfl, Lib.hid rfl, by omega, Lib.hid (by omega), Own.nil_, Below.refl _ _⟩
      case round =>
        obtain ⟨B, m, s, k, rfl, rfl, hkm, hk, hmp, hO, hb⟩ := hrel
        have hs := hb.size
        have hkm' := hkm.out
        have hm120 : m ≤ 120 := by omega
        have hk1 : 1 ≤ k := by omega
        clear hkm'
        by_cases hlk : k < p
        · have dk : decide ((k : Int) < p) = true := decide_eq_true (by omega)
          go_wp2_with (first | (at_builtin; refine wpList_append_el rfl (.tmp 40) (.tmp 45) 34 rfl encP 2 41 (.agg #[.int .i64 0, .int .i64 0]) 16 Try.underlying34 (by kernel_rfl) rfl (by decide) encP_len encP_one (w2.heap.size) _ _ _ _ rfl (hO.alloc _) ((k : Int), (k : Int) - 1) ⟨(wr).heap.size, 0, none⟩ 1 rfl (cells_new (wr) _ _) (by omega) (by omega) (by first | omega | (simp; done) | (simp; omega)) ?_; intro A5 c5 w5 hown5 hg5 hb5; obtain ⟨hc5, hf5⟩ := bcell hb5; have hs5 := hb5.size; (try simp only [World.size_alloc, World.size_setCell, World.size_drew] at hc5 hf5); (try simp at hs5)))
          go_roundw
          case rel =>
            refine ⟨A5, m + 1, c5, k + 1, rfl, by go_num, Lib.hid (by rw [hkm.out]), by omega, Lib.hid (by have := hkm.out; omega), ?_, by (repeat' (first | exact Below.refl _ _ | assumption | (refine Below.alloc ?_ ?_ _) | (refine Below.setCell ?_ ?_ _) | (refine Below.drew ?_) | (refine below_drewN ?_ _) | (refine below_after (Ext.below _) ?_ ?_) | (refine below_after (by assumption) ?_ ?_) | (simp; done) | omega | (simp; omega)))⟩
            rw [chain_step, show (((m + 1 : Nat) : Int), (m : Int)) = ((k : Int), (k : Int) - 1) by have := hkm.out; simp only [Prod.mk.injEq]; omega]
            exact hown5
          case measure => simp [intOf]; omega
        · have dk : decide ((k : Int) < p) = false := decide_eq_false (by omega)
          obtain rfl : m = p - 1 := by have := hkm.out; have := hmp.out; omega
          clear hkm hmp
          have hP := hO.rd encP_len
          clear hO
          rcases hend with ⟨hn, hRn⟩ | ⟨hn, hRn⟩
          · subst hn hRn
            go_wp2_with fail; go_at_call 15; refine (kN _ _ _ _ 0 rfl _ (h12.of (by (repeat' (first | exact Below.refl _ _ | assumption | (refine Below.alloc ?_ ?_ _) | (refine Below.setCell ?_ ?_ _) | (refine Below.drew ?_) | (refine below_drewN ?_ _) | (refine below_after (Ext.below _) ?_ ?_) | (refine below_after (by assumption) ?_ ?_) | (simp; done) | omega | (simp; omega))))) hP).mono ?_; rintro e w3 ⟨A3, c3, rfl, h3, hb3⟩; have hs3 := hb3.size; (try simp only [World.size_alloc, World.size_drew, World.size_setCell] at hs3)
            go_wp2_with fail; go_at_call 12; refine (kS _ _ _ _ _ (h2.of (by (repeat' (first | exact Below.refl _ _ | assumption | (refine Below.alloc ?_ ?_ _) | (refine Below.setCell ?_ ?_ _) | (refine Below.drew ?_) | (refine below_drewN ?_ _) | (refine below_after (Ext.below _) ?_ ?_) | (refine below_after (by assumption) ?_ ?_) | (simp; done) | omega | (simp; omega))))) (h12.of (by (repeat' (first | exact Below.refl _ _ | assumption | (refine Below.alloc ?_ ?_ _) | (refine Below.setCell ?_ ?_ _) | (refine Below.drew ?_) | (refine below_drewN ?_ _) | (refine below_after (Ext.below _) ?_ ?_) | (refine below_after (by assumption) ?_ ?_) | (simp; done) | omega | (simp; omega)))))).mono ?_; rintro e w4 ⟨rfl, hb4⟩; have hs4 := hb4.size; (try simp only [World.size_alloc, World.size_drew, World.size_setCell] at hs4)
            go_wp2_with fail; go_at_call 8; refine (awake_36 _).mono ?_; rintro e w5 ⟨rfl, hb5⟩; have hs5 := hb5.size; (try simp only [World.size_alloc, World.size_drew, World.size_setCell] at hs5)
            go_wp2_with fail
            go_ret
            exact ⟨rfl, by (repeat' (first | exact Below.refl _ _ | assumption | (refine Below.alloc ?_ ?_ _) | (refine Below.setCell ?_ ?_ _) | (refine Below.drew ?_) | (refine below_drewN ?_ _) | (refine below_after (Ext.below _) ?_ ?_) | (refine below_after (by assumption) ?_ ?_) | (simp; done) | omega | (simp; omega)))⟩
          · subst hRn
            have d0 : ((n : Int) == 0) = false := by simp; omega
            go_wp2_with fail; go_at_call 15; refine (kN _ _ _ _ 1 rfl _ (h12.of (by (repeat' (first | exact Below.refl _ _ | assumption | (refine Below.alloc ?_ ?_ _) | (refine Below.setCell ?_ ?_ _) | (refine Below.drew ?_) | (refine below_drewN ?_ _) | (refine below_after (Ext.below _) ?_ ?_) | (refine below_after (by assumption) ?_ ?_) | (simp; done) | omega | (simp; omega))))) hP).mono ?_; rintro e w3 ⟨A3, c3, rfl, h3, hb3⟩; have hs3 := hb3.size; (try simp only [World.size_alloc, World.size_drew, World.size_setCell] at hs3)
            go_wp2_with fail; go_at_call 12; refine (kS _ _ _ _ _ (h2.of (by (repeat' (first | exact Below.refl _ _ | assumption | (refine Below.alloc ?_ ?_ _) | (refine Below.setCell ?_ ?_ _) | (refine Below.drew ?_) | (refine below_drewN ?_ _) | (refine below_after (Ext.below _) ?_ ?_) | (refine below_after (by assumption) ?_ ?_) | (simp; done) | omega | (simp; omega))))) (h12.of (by (repeat' (first | exact Below.refl _ _ | assumption | (refine Below.alloc ?_ ?_ _) | (refine Below.setCell ?_ ?_ _) | (refine Below.drew ?_) | (refine below_drewN ?_ _) | (refine below_after (Ext.below _) ?_ ?_) | (refine below_after (by assumption) ?_ ?_) | (simp; done) | omega | (simp; omega)))))).mono ?_; rintro e w4 ⟨rfl, hb4⟩; have hs4 := hb4.size; (try simp only [World.size_alloc, World.size_drew, World.size_setCell] at hs4)
            have h34 := h3.of hb4
            obtain ⟨F, m4, c4, l4, bo, o, hx, rfl, hbl, g1, hR4, _⟩ := h34.pat (i := 0) (by omega)
            have hx := hx.out
            simp only [List.getElem?_cons_zero, Option.some.injEq] at hx
            subst hx
            have hR5 := hR2.of (show Below w2.heap.size w2 w4 from by (repeat' (first | exact Below.refl _ _ | assumption | (refine Below.alloc ?_ ?_ _) | (refine Below.setCell ?_ ?_ _) | (refine Below.drew ?_) | (refine below_drewN ?_ _) | (refine below_after (Ext.below _) ?_ ?_) | (refine below_after (by assumption) ?_ ?_) | (simp; done) | omega | (simp; omega))))
            obtain rfl : m4 = n := by rw [← hR4.len, hlen]
            have d0 : ((m4 : Int) == 0) = false := by simp; omega
            rw [Nat.add_zero] at g1
            go_wp2_with fail; go_at_call 18; refine (ref05_SameV (sameL_self l) _ _ _ _ _ _ _ hR4 hR5 (by omega) (by omega)).mono ?_; rintro e w6 ⟨rfl, hb6⟩; have hs6 := hb6.size; (try simp only [World.size_alloc, World.size_drew, World.size_setCell] at hs6)
            go_wp2_with fail; go_at_call 8; refine (awake_36 _).mono ?_; rintro e w5 ⟨rfl, hb5⟩; have hs5 := hb5.size; (try simp only [World.size_alloc, World.size_drew, World.size_setCell] at hs5)
            go_wp2_with fail
            go_ret
            exact ⟨rfl, by (repeat' (first | exact Below.refl _ _ | assumption | (refine Below.alloc ?_ ?_ _) | (refine Below.setCell ?_ ?_ _) | (refine Below.drew ?_) | (refine below_drewN ?_ _) | (refine below_after (Ext.below _) ?_ ?_) | (refine below_after (by assumption) ?_ ?_) | (simp; done) | omega | (simp; omega)))⟩
  · have df : decide (120 < (n : Int)) = true := decide_eq_true (by omega)
    go_enter Try.func7, Try.ntmps7
    go_wp2_with (first | (go_at_call 8; refine (awake_36 _).mono ?_; rintro e w5 ⟨rfl, hb5⟩; obtain ⟨hc5, hf5⟩ := bcell hb5; have hs5 := hb5.size; (try simp only [World.size_alloc, World.size_setCell, World.size_drew] at hc5 hf5); (try simp at hs5)))
    go_ret
    exact ⟨rfl, by (repeat' (first | exact Below.refl _ _ | assumption | (refine Below.alloc ?_ ?_ _) | (refine Below.setCell ?_ ?_ _) | (refine Below.drew ?_) | (refine below_drewN ?_ _) | (refine below_after (Ext.below _) ?_ ?_) | (refine below_after (by assumption) ?_ ?_) | (simp; done) | omega | (simp; omega)))⟩
end Go.Proofs.Ytenckggfgbkfnaa
