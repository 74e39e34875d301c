/- Plain: the tree of Life as the program builds it; keys of nodes; the glider. No program in sight. -/
import Derived.Test.YtellglbmbocgkaaGreatDoorLivP
import Derived.Lib.ItoaNum
namespace Go.Proofs.YtellglbmbocgkaaGreatDoor
open Go
set_option linter.unusedSimpArgs false
set_option linter.unusedVariables false
set_option linter.unusedSimpArgs false
set_option linter.unusedVariables false
def valD (l : List UInt8) : Nat := l.foldl (fun v c => 10 * v + (c.toNat - 48)) 0
theorem valD_snoc (l : List UInt8) (c : UInt8) : valD (l ++ [c]) = 10 * valD l + (c.toNat - 48) := by
  unfold valD; rw [List.foldl_append]; rfl
theorem digit_val {d : Nat} (h : d < 10) : (UInt8.ofNat (48 + d)).toNat - 48 = d := by
  rw [UInt8.toNat_ofNat']; omega
theorem digit_ne {d : Nat} (h : d < 10) : UInt8.ofNat (48 + d) ≠ 32 := by
  intro e
  have := congrArg UInt8.toNat e
  rw [UInt8.toNat_ofNat'] at this
  have h2 : (32 : UInt8).toNat = 32 := rfl
  omega
theorem valD_dec : ∀ u : Nat, valD (Lib.decDigits u) = u := by
  intro u
  induction u using Nat.strongRecOn with
  | _ u ih =>
    rw [Lib.decDigits]
    split
    · rename_i h
      show 10 * 0 + ((UInt8.ofNat (48 + u)).toNat - 48) = u
      rw [digit_val h]; omega
    · rename_i h
      rw [valD_snoc, ih (u / 10) (by omega), digit_val (by omega)]; omega
theorem dec_ne : ∀ u : Nat, ∀ c ∈ Lib.decDigits u, c ≠ 32 := by
  intro u
  induction u using Nat.strongRecOn with
  | _ u ih =>
    rw [Lib.decDigits]
    split
    · rename_i h
      intro c hc
      rw [List.mem_singleton] at hc
      rw [hc]; exact digit_ne h
    · rename_i h
      intro c hc
      rcases List.mem_append.1 hc with h1 | h1
      · exact ih (u / 10) (by omega) c h1
      · rw [List.mem_singleton] at h1
        rw [h1]; exact digit_ne (by omega)
theorem split32 : ∀ {a a' b b' : List UInt8}, (∀ c ∈ a, c ≠ 32) → (∀ c ∈ a', c ≠ 32) → a ++ 32 :: b = a' ++ 32 :: b' → a = a' ∧ b = b'
  | [], [], b, b', _, _, h => ⟨rfl, by simpa using h⟩
  | [], x :: a', b, b', _, h2, h => by
    simp only [List.nil_append, List.cons_append] at h
    injection h with h3 h4
    exact absurd h3.symm (h2 x (by simp))
  | x :: a, [], b, b', h1, _, h => by
    simp only [List.nil_append, List.cons_append] at h
    injection h with h3 h4
    exact absurd h3 (h1 x (by simp))
  | x :: a, y :: a', b, b', h1, h2, h => by
    simp only [List.cons_append] at h
    injection h with h3 h4
    have := split32 (fun c hc => h1 c (by simp [hc])) (fun c hc => h2 c (by simp [hc])) h4
    exact ⟨by rw [h3, this.1], this.2⟩
def kyS (lv a b : Nat) : List UInt8 := UInt8.ofNat lv :: (32 :: Lib.decDigits a) ++ (32 :: Lib.decDigits b)
theorem kyS_inj {lv a b lv' a' b' : Nat} (h1 : lv < 256) (h2 : lv' < 256) (h : kyS lv a b = kyS lv' a' b') : lv = lv' ∧ a = a' ∧ b = b' := by
  unfold kyS at h
  simp only [List.cons_append] at h
  injection h with h3 h4
  injection h4 with _ h4
  have h5 := split32 (dec_ne a) (dec_ne a') h4
  refine ⟨?_, by rw [← valD_dec a, h5.1, valD_dec], by rw [← valD_dec b, h5.2, valD_dec]⟩
  have := congrArg UInt8.toNat h3
  rw [UInt8.toNat_ofNat', UInt8.toNat_ofNat'] at this
  omega
abbrev Pl := Nat × Nat × Nat
abbrev Nd2 := Nat × Nat × Nat
def stpO (k o s : Nat) : Nat := if k = 4 then o else if s = 1 then o + 1 else o
def stpC (k c s : Nat) : Nat := if k = 4 then s else c
def endN (o c : Nat) : Nat := if c = 0 then (if o = 3 then 1 else 0) else if o = 2 ∨ o = 3 then 1 else 0
abbrev BSt := List (Pl × Nat) × List Nd2
def lookP (l : List (Pl × Nat)) (p : Pl) : Option Nat := (l.find? fun x => decide (x.1 = p)).map (·.2)
def idxN (l : List Nd2) (x : Nd2) : Option Nat := l.findIdx? fun y => decide (y = x)
def addN (s : BSt) (p : Pl) (x : Nd2) : Nat × BSt := match idxN s.2 x with
  | some k => (k, (p, k) :: s.1, s.2)
  | none => (s.2.length, (p, s.2.length) :: s.1, s.2 ++ [x])
def bvS : Nat → Nat → Nat → BSt → Nat × BSt
  | 0, o, c, s => (endN o c, s)
  | d + 1, o, c, s => match lookP s.1 (9 - (d + 1), o, c) with
    | some id => (id, s)
    | none => addN (bvS d (stpO (9 - (d + 1)) o 1) (stpC (9 - (d + 1)) c 1) (bvS d (stpO (9 - (d + 1)) o 0) (stpC (9 - (d + 1)) c 0) s).2).2 (9 - (d + 1), o, c) (d + 1, (bvS d (stpO (9 - (d + 1)) o 0) (stpC (9 - (d + 1)) c 0) s).1, (bvS d (stpO (9 - (d + 1)) o 1) (stpC (9 - (d + 1)) c 1) (bvS d (stpO (9 - (d + 1)) o 0) (stpC (9 - (d + 1)) c 0) s).2).1)
def nd2 (x : Nd2) : Nd := ((x.1 : Nat), [((x.2.1 : Nat) : Int), ((x.2.2 : Nat) : Int)])
def lifP : List Nd2 := (bvS 9 0 0 ([], [])).2.2
def lifM : List Nd := lifP.map nd2
theorem lookP_cons (l : List (Pl × Nat)) (p q : Pl) (k : Nat) : lookP ((p, k) :: l) q = if q = p then some k else lookP l q := by
  unfold lookP
  rw [List.find?_cons]
  by_cases h : q = p
  · subst h; simp
  · rw [if_neg h]
    have : decide ((p, k).1 = q) = false := decide_eq_false (fun e => h e.symm)
    rw [this]
theorem addN_len (s : BSt) (p : Pl) (x : Nd2) : (addN s p x).2.1.length = s.1.length + 1 ∧ (addN s p x).2.2.length ≤ s.2.length + 1 := by
  unfold addN; split <;> simp
theorem bvS_len : ∀ (d o c : Nat) (s : BSt), (bvS d o c s).2.1.length + 1 ≤ s.1.length + 2 ^ d ∧ (bvS d o c s).2.2.length + 1 ≤ s.2.length + 2 ^ d
  | 0, o, c, s => ⟨Nat.le_refl _, Nat.le_refl _⟩
  | d + 1, o, c, s => by
    rw [bvS]
    have h2 : 1 ≤ 2 ^ (d + 1) := Nat.one_le_two_pow
    split
    · exact ⟨by simp only; omega, by simp only; omega⟩
    · have h3 := addN_len (bvS d (stpO (9 - (d + 1)) o 1) (stpC (9 - (d + 1)) c 1) (bvS d (stpO (9 - (d + 1)) o 0) (stpC (9 - (d + 1)) c 0) s).2).2 (9 - (d + 1), o, c) (d + 1, (bvS d (stpO (9 - (d + 1)) o 0) (stpC (9 - (d + 1)) c 0) s).1, (bvS d (stpO (9 - (d + 1)) o 1) (stpC (9 - (d + 1)) c 1) (bvS d (stpO (9 - (d + 1)) o 0) (stpC (9 - (d + 1)) c 0) s).2).1)
      have h4 := bvS_len d (stpO (9 - (d + 1)) o 1) (stpC (9 - (d + 1)) c 1) (bvS d (stpO (9 - (d + 1)) o 0) (stpC (9 - (d + 1)) c 0) s).2
      have h5 := bvS_len d (stpO (9 - (d + 1)) o 0) (stpC (9 - (d + 1)) c 0) s
      rw [Nat.pow_succ] at h2 ⊢
      exact ⟨by omega, by omega⟩
def gliP : List Cel := [(1, 0, 1), (2, 1, 1), (0, 2, 1), (1, 2, 1), (2, 2, 1)]
def gliQ : List Cel := [(2, 1, 1), (3, 2, 1), (1, 3, 1), (2, 3, 1), (3, 3, 1)]
theorem lif_run : runE 2 mooH lifM gliP 4 = 0 := by decide +kernel
theorem lif_got : runL 2 mooH lifM gliP 4 = gliQ := by kernel_rfl
theorem lif_len : lifM.length ≤ 100 := by decide +kernel
end Go.Proofs.YtellglbmbocgkaaGreatDoor
