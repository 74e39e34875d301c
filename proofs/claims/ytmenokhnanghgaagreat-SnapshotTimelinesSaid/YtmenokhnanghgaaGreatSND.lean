/- Plain: the place of a cell list's element, unchecked. Plain: reading goes forward. snapshot's reader: times, for any closure whose rounds are known. -/
import Derived.Test.YtmenokhnanghgaaGreatSNE
import Derived.Test.YtmenokhnanghgaaGreatSNO
set_option linter.unusedSimpArgs false
set_option linter.unusedVariables false
section
namespace Go.Proofs.YtmenokhnanghgaaGreat
open Go Go.RowKit
def plcX (bs : List Bool) (first : Bool) (b c : Int) (s : RS) : (Int × Int) × RS :=
  if first = true then (((sgnR bs s).1, (sgnR bs (sgnR bs s).2).1), (sgnR bs (sgnR bs s).2).2)
  else if (gamR bs s).1 = 0 then ((addF (addF b (gamR bs (gamR bs s).2).1) 1, c), (gamR bs (gamR bs s).2).2)
  else (((sgnR bs (gamR bs s).2).1, addF c (gamR bs s).1), (sgnR bs (gamR bs s).2).2)
theorem plc_X (bs : List Bool) (first : Bool) (b c : Int) (s : RS) : plcP bs first b c s = chkR (plcX bs first b c s).1.1 (plcX bs first b c s).1.2 (plcX bs first b c s).2 := by
  unfold plcP plcX
  split
  · rfl
  · split <;> rfl
theorem valid_cases {X Y : Int} (h : validB X Y = false) : decide (1048576 < max X Y) = true ∨ (decide (1048576 < max X Y) = false ∧ decide (min X Y < -1048576) = true) := by
  unfold validB at h
  simp only [decide_eq_true_eq, decide_eq_false_iff_not] at h ⊢; omega
theorem valid_ok {X Y : Int} (h : validB X Y = true) : decide (1048576 < max X Y) = false ∧ decide (min X Y < -1048576) = false := by
  unfold validB at h
  simp only [decide_eq_true_eq, decide_eq_false_iff_not] at h ⊢; omega
end Go.Proofs.YtmenokhnanghgaaGreat
end
section
namespace Go.Proofs.YtmenokhnanghgaaGreat
open Go
section
variable {bs : List Bool} {s : RS} {n : Nat}
theorem bitsR_mono : s.1 ≤ (bitsR bs n s).2.1 := by
  unfold bitsR
  split
  · split <;> simp
  · exact Nat.le_refl _
theorem bitsR_adv (h : (bitsR bs n s).2.2 = 0) : (bitsR bs n s).2.1 = s.1 + n := by
  unfold bitsR at h ⊢
  by_cases h0 : s.2 = 0
  · rw [if_pos h0] at h ⊢
    by_cases h1 : n ≤ bs.length - s.1
    · rw [if_pos h1]
    · rw [if_neg h1] at h; exact absurd h (show ¬ (4 : Int) = 0 by decide)
  · rw [if_neg h0] at h; exact absurd h h0
theorem gamR_mono : s.1 ≤ (gamR bs s).2.1 := by
  unfold gamR
  split
  · split
    · split
      · split <;> simp
      · simp
    · simp
  · exact Nat.le_refl _
theorem sgnR_mono : s.1 ≤ (sgnR bs s).2.1 := gamR_mono
theorem chkR_fst {x y : Int} : (chkR x y s).2.1 = s.1 := by unfold chkR; split <;> rfl
theorem plcP_mono {first : Bool} {b c : Int} : s.1 ≤ (plcP bs first b c s).2.1 := by
  unfold plcP
  split
  · rw [chkR_fst]; exact Nat.le_trans sgnR_mono sgnR_mono
  · split
    · rw [chkR_fst]; exact Nat.le_trans gamR_mono gamR_mono
    · rw [chkR_fst]; exact Nat.le_trans gamR_mono sgnR_mono
/-- What is behind a place goes forward. -/
def TkM {β : Type} (tk : Int → Int → RS → β × RS) : Prop := ∀ x y s, s.1 ≤ (tk x y s).2.1 ∧ ((tk x y s).2.2 = 0 → s.1 + 1 ≤ (tk x y s).2.1)
theorem tkC_m (bs : List Bool) : TkM (tkC bs) := fun x y s => ⟨bitsR_mono, fun h => by have := bitsR_adv h; unfold tkC; simp only; omega⟩
theorem tkG_m (bs : List Bool) : TkM (tkG bs) := fun x y s => by
  refine ⟨Nat.le_trans bitsR_mono bitsR_mono, fun h => ?_⟩
  have h1 := bitsR_adv (show (bitsR bs 3 (bitsR bs 3 s).2).2.2 = 0 from h)
  have h2 := bitsR_mono (bs := bs) (s := s) (n := 3)
  unfold tkG
  simp only; omega
theorem rndP_m {β : Type} {tk : Int → Int → RS → β × RS} (ht : TkM tk) (i : Nat) (a : List β × Int × Int) : s.1 ≤ (rndP bs tk i a s).2.1 ∧ ((rndP bs tk i a s).2.2 = 0 → s.1 + 1 ≤ (rndP bs tk i a s).2.1) := by
  have h1 := plcP_mono (bs := bs) (s := s) (first := i == 0) (b := a.2.1) (c := a.2.2)
  have h2 := ht (plcP bs (i == 0) a.2.1 a.2.2 s).1.1 (plcP bs (i == 0) a.2.1 a.2.2 s).1.2 (plcP bs (i == 0) a.2.1 a.2.2 s).2
  unfold rndP
  simp only
  exact ⟨Nat.le_trans h1 h2.1, fun k => by have := h2.2 k; omega⟩
theorem rndP_v {β : Type} {tk : Int → Int → RS → β × RS} (ht : TkOk bs tk) {i : Nat} {a : List β × Int × Int} (h : (rndP bs tk i a s).2.2 = 0) : validB (rndP bs tk i a s).1.2.1 (rndP bs tk i a s).1.2.2 = true := by
  unfold rndP at h ⊢
  simp only at h ⊢
  refine plcP_ok ?_
  by_cases k : (plcP bs (i == 0) a.2.1 a.2.2 s).2.2 = 0
  · exact k
  · rw [ht.2.1 _ _ _ k] at h; exact absurd h k
theorem rndP_len {β : Type} {tk : Int → Int → RS → β × RS} {i : Nat} {a : List β × Int × Int} : (rndP bs tk i a s).1.1.length = a.1.length + 1 := by unfold rndP; simp
end
end Go.Proofs.YtmenokhnanghgaaGreat
end
section
namespace Go.Proofs.YtmenokhnanghgaaGreat
open Go Go.RowKit
set_option maxRecDepth 100000
set_option maxHeartbeats 8000000 in
theorem snp_timesN {α : Type} (f : Nat → α → RS → α × RS) (Inv : α → RS → World → Prop) (K : Nat) (caps : List Value) (br bi : Nat) (A : Option Addr) (n c : Nat) (l : List Int)
    (eK : ∀ args w, (callFunc K args).run Tryz.prog w = .ok (.enter K args) w)
    (hRS : ∀ a s w, Inv a s w → RdS w br bi A n c l s)
    (hstep : ∀ (i : Nat) a s w, s.2 = 0 → Inv a s w → Calls Tryz.prog K (.int .i64 (i : Int) :: caps).toArray w fun e w' => e = void ∧ Inv (f i a s).1 (f i a s).2 w')
    (a0 : α) (s0 : RS) (w : World) (h : RdS w br bi A n c l s0) (hgo : ∀ w', RdS w' br bi A n c l (gamR (unB l) s0).2 → Fr2 (RB br bi) w w' → Inv a0 (gamR (unB l) s0).2 w') :
    Calls Tryz.prog 56 #[.pointer (some ⟨br, 0, none⟩), .func (.func K) #[] caps.toArray] w fun e w' => e = void ∧ Inv (lpR f (gamR (unB l) s0).1.toNat 0 a0 (gamR (unB l) s0).2).1 (lpR f (gamR (unB l) s0).1.toNat 0 a0 (gamR (unB l) s0).2).2 w' := by
  have kG := snp_gamma br bi A n c l s0 w h
  have hnn := gamR_nn (bs := unB l) (s := s0)
  generalize gamR (unB l) s0 = g at kG hnn hgo ⊢
  obtain ⟨v, s1⟩ := g
  simp only at kG hnn hgo ⊢
  obtain ⟨N, rfl⟩ : ∃ N : Nat, v = (N : Int) := ⟨v.toNat, by omega⟩
  rw [Int.toNat_natCast]
  clear h
  go_enter Tryz.func56, Tryz.ntmps56
  go_wp2_with fail
  go_at_call 59
  refine kG.mono ?_
  rintro e w1 ⟨rfl, hS1, hf1⟩
  have hI1 := Lib.hid (hgo _ hS1 hf1)
  clear kG hS1 hf1
  go_wp2_with fail
  go_loopw [4] (fun i wr => ∃ (j : Nat) (a : α) (s : RS), i = .int .i64 j ∧ j ≤ N ∧ Hid (lpR f N 0 a0 s1 = lpR f (N - j) j a s) ∧ Inv a s wr) (fun i _ => N - (intOf i).toNat)
  case atStart => exact ⟨0, a0, s1, rfl, by omega, Lib.hid rfl, hI1.out⟩
  case round =>
    clear hI1
    obtain ⟨j, a, s, rfl, hj, hst, hI⟩ := hrel
    have hS := hRS _ _ _ hI
    obtain ⟨p, er⟩ := s
    obtain ⟨_, b0, b1, f0, f1⟩ := hS.box.open2
    simp only at b1
    by_cases hlt : j < N
    · have dj : decide ((j : Int) < N) = true := decide_eq_true (by omega)
      have dj' : decide (j < N) = true := decide_eq_true hlt
      by_cases he : er = 0
      · subst he
        have hst2 := Lib.hid (hst.out.trans (lpR_step (f := f) (a := a) (s := (p, 0)) hlt rfl))
        have kS := hstep j a (p, 0) wr rfl hI
        clear hst
        go_wp2_with fail
        go_at_fn K
        refine kS.mono ?_
        rintro e w3 ⟨rfl, hI3⟩
        replace hI3 := Lib.hid hI3
        clear kS b0 b1 f0 f1
        go_wp2_with fail
        go_roundw
        case rel => exact ⟨j + 1, _, _, by go_num, by omega, hst2, hI3.out⟩
        case measure => simp [intOf]; omega
      · have d1 : (er == 0) = false := by simpa using he
        have hst2 := Lib.hid (hst.out.trans (lpR_bad (f := f) (n := N - j) (i := j) (a := a) (s := (p, er)) he))
        go_wp2_with fail
        go_end0
        rw [hst2.out]
        exact ⟨rfl, hI⟩
    · obtain rfl : j = N := by omega
      have dj : decide ((j : Int) < j) = false := decide_eq_false (by omega)
      have dj' : decide (j < j) = false := decide_eq_false (by omega)
      have hst2 := Lib.hid (hst.out.trans (lpR_done (f := f) (n := j) (i := j) (a := a) (s := (p, er)) (Nat.le_refl _)))
      go_wp2_with fail
      go_end0
      rw [hst2.out]
      exact ⟨rfl, hI⟩
end Go.Proofs.YtmenokhnanghgaaGreat
end
