/- Plain facts on bits: numbers as bits, codes, bytes, and readers of bits. No program in sight. Plain facts on bytes: bits packed into bytes and taken out of them. No program in sight. Plain facts on forms: cell lists, trees, stores and timelines as bits, and what reads them. No program in sight. Plain: what was written is read, and what is read was written so. No program in sight. Plain: valid stores of quadtrees. No program in sight. Plain: each form comes back, and a form that is accepted is the form of what was read. No program in sight. Plain: what a writer of limited room holds when bits are handed to it. -/
import Derived.Test.YtmenokhnanghgaaGreatPLN
set_option linter.unusedSimpArgs false
set_option linter.unusedVariables false
section
namespace Go.Proofs.YtmenokhnanghgaaGreat
open Go Go.RowKit
/-- The lowest n bits of v, the highest first. -/
def digB : Nat → Nat → List Bool
  | 0, _ => []
  | n + 1, v => v.testBit n :: digB n v
/-- The number with these bits. -/
def numB (l : List Bool) : Nat := l.foldl (fun v b => 2 * v + b.toNat) 0
theorem digB_len : ∀ (n v : Nat), (digB n v).length = n
  | 0, _ => rfl
  | n + 1, v => by rw [digB, List.length_cons, digB_len n v]
theorem numB_snoc (l : List Bool) (b : Bool) : numB (l ++ [b]) = 2 * numB l + b.toNat := by
  unfold numB; rw [List.foldl_append]; rfl
theorem numB_fold (l : List Bool) : ∀ a : Nat, l.foldl (fun v b => 2 * v + b.toNat) a = a * 2 ^ l.length + numB l := by
  unfold numB
  induction l with
  | nil => intro a; simp
  | cons b l ih =>
    intro a
    rw [List.foldl_cons, List.foldl_cons, ih, ih (2 * 0 + b.toNat), List.length_cons, Nat.pow_succ]
    have : (2 * a + b.toNat) * 2 ^ l.length = a * (2 ^ l.length * 2) + b.toNat * 2 ^ l.length := by
      rw [Nat.add_mul, Nat.mul_comm 2 a, Nat.mul_assoc, Nat.mul_comm 2]
    rw [this]; simp; omega
theorem numB_cons (b : Bool) (l : List Bool) : numB (b :: l) = b.toNat * 2 ^ l.length + numB l := by
  have := numB_fold l (2 * 0 + b.toNat)
  rw [show numB (b :: l) = l.foldl (fun v b => 2 * v + b.toNat) (2 * 0 + b.toNat) from rfl, this]; simp
theorem numB_lt : ∀ l : List Bool, numB l < 2 ^ l.length
  | [] => by decide
  | b :: l => by
    rw [numB_cons, List.length_cons, Nat.pow_succ]
    have h1 := numB_lt l
    have h2 : b.toNat * 2 ^ l.length ≤ 2 ^ l.length := by
      cases b <;> simp
    omega
theorem digB_mod : ∀ (n v : Nat), digB n (v % 2 ^ n) = digB n v := by
  have key : ∀ (n m v : Nat), n ≤ m → digB n (v % 2 ^ m) = digB n v := by
    intro n
    induction n with
    | zero => intro m v _; rfl
    | succ n ih =>
      intro m v hm
      rw [digB, digB, ih m v (by omega), Nat.testBit_mod_two_pow]
      simp [show n < m from by omega]
  exact fun n v => key n n v (Nat.le_refl n)
theorem numB_digB : ∀ (n v : Nat), numB (digB n v) = v % 2 ^ n
  | 0, v => by rw [digB]; simp [numB, Nat.mod_one]
  | n + 1, v => by
    rw [digB, numB_cons, digB_len, numB_digB n v, Nat.testBit_eq_decide_div_mod_eq]
    have h1 : v % 2 ^ (n + 1) = v % 2 ^ n + 2 ^ n * (v / 2 ^ n % 2) := by rw [Nat.pow_succ]; exact Nat.mod_mul
    rw [h1]
    rcases Nat.mod_two_eq_zero_or_one (v / 2 ^ n) with h | h <;> rw [h] <;> simp [Nat.add_comm]
theorem numB_dig {n v : Nat} (h : v < 2 ^ n) : numB (digB n v) = v := by rw [numB_digB, Nat.mod_eq_of_lt h]
theorem digB_numB : ∀ l : List Bool, digB l.length (numB l) = l
  | [] => rfl
  | b :: l => by
    have h1 := numB_lt l
    rw [List.length_cons, digB, numB_cons]
    congr 1
    · rw [Nat.testBit_eq_decide_div_mod_eq]
      cases b
      · simp [Nat.div_eq_of_lt h1]
      · have : (true.toNat * 2 ^ l.length + numB l) / 2 ^ l.length = 1 := by
          rw [Bool.toNat_true, Nat.one_mul, Nat.add_div_left _ (Nat.two_pow_pos _), Nat.div_eq_of_lt h1]
        rw [this]; rfl
    · have h2 := digB_mod l.length (b.toNat * 2 ^ l.length + numB l)
      rw [← h2, Nat.mul_comm, Nat.mul_add_mod, digB_mod]
      exact digB_numB l
theorem digB_inj {n a b : Nat} (ha : a < 2 ^ n) (hb : b < 2 ^ n) (h : digB n a = digB n b) : a = b := by
  rw [← numB_dig ha, ← numB_dig hb, h]
/-- The Elias gamma code of n + 1. -/
def gamB (n : Nat) : List Bool := List.replicate (Nat.log2 (n + 1)) false ++ digB (Nat.log2 (n + 1) + 1) (n + 1)
def foldZ (n : Int) : Nat := if 0 ≤ n then (2 * n).toNat else (-2 * n - 1).toNat
def unfZ (n : Int) : Int := if n % 2 = 1 then -(n / 2) - 1 else n / 2
def sgnB (n : Int) : List Bool := gamB (foldZ n)
theorem gamB_len (n : Nat) : (gamB n).length = 2 * Nat.log2 (n + 1) + 1 := by
  unfold gamB; rw [List.length_append, List.length_replicate, digB_len]; omega
theorem unf_fold (n : Int) : unfZ (foldZ n : Nat) = n := by
  unfold unfZ foldZ
  split <;> split <;> omega
theorem fold_unf {v : Nat} : foldZ (unfZ (v : Int)) = v := by
  unfold unfZ foldZ
  split <;> split <;> omega
/-- The number of zeros at the head. -/
def zrs (l : List Bool) : Nat := (l.takeWhile (fun b => !b)).length
theorem zrs_le (l : List Bool) : zrs l ≤ l.length := by
  unfold zrs; exact (List.takeWhile_prefix _).length_le
theorem zrs_cons (b : Bool) (l : List Bool) : zrs (b :: l) = if b = true then 0 else zrs l + 1 := by
  unfold zrs; cases b <;> simp
theorem zrs_rep (k : Nat) (l : List Bool) : zrs (List.replicate k false ++ true :: l) = k := by
  induction k with
  | zero => simp [zrs_cons]
  | succ k ih => rw [List.replicate_succ, List.cons_append, zrs_cons]; simp [ih]
theorem zrs_split : ∀ l : List Bool, zrs l < l.length → ∃ r, l = List.replicate (zrs l) false ++ true :: r
  | [], h => by simp at h
  | true :: l, h => ⟨l, by simp [zrs_cons]⟩
  | false :: l, h => by
    rw [zrs_cons] at h
    simp only [Bool.false_eq_true, if_false, List.length_cons] at h
    obtain ⟨r, hr⟩ := zrs_split l (by omega)
    refine ⟨r, ?_⟩
    rw [zrs_cons]
    simp only [Bool.false_eq_true, if_false, List.replicate_succ, List.cons_append]
    rw [← hr]
theorem zrs_at : ∀ (l : List Bool) (z : Nat), z < l.length → (∀ i, i < z → l[i]? = some false) → l[z]? = some true → zrs l = z
  | [], z, h, _, _ => by simp at h
  | b :: l, 0, _, _, h => by simp at h; subst h; simp [zrs_cons]
  | b :: l, z + 1, h, h1, h2 => by
    have hb := h1 0 (by omega)
    simp at hb h2 h
    subst hb
    rw [zrs_cons, zrs_at l z (by omega) (fun i hi => by have := h1 (i + 1) (by omega); simpa using this) (by simpa using h2)]
    rfl
theorem zrs_ge : ∀ (l : List Bool) (z : Nat), z ≤ l.length → (∀ i, i < z → l[i]? = some false) → z ≤ zrs l
  | _, 0, _, _ => Nat.zero_le _
  | [], z + 1, h, _ => by simp at h
  | b :: l, z + 1, h, h1 => by
    have hb := h1 0 (by omega)
    simp at hb h
    subst hb
    have := zrs_ge l z (by omega) (fun i hi => by have := h1 (i + 1) (by omega); simpa using this)
    rw [zrs_cons]; simp; omega
/-- A reader's state: the place and the error. -/
abbrev RS := Nat × Int
def bitsR (bs : List Bool) (n : Nat) (s : RS) : Int × RS :=
  if s.2 = 0 then (if n ≤ bs.length - s.1 then ((numB ((bs.drop s.1).take n) : Nat), s.1 + n, 0) else (0, s.1, 4)) else (0, s)
def gamR (bs : List Bool) (s : RS) : Int × RS :=
  if s.2 = 0 then
    (if zrs (bs.drop s.1) < 64 then
      (if 2 * zrs (bs.drop s.1) + 1 ≤ bs.length - s.1 then
        (if numB ((bs.drop (s.1 + zrs (bs.drop s.1))).take (zrs (bs.drop s.1) + 1)) ≤ 9223372036854775808 then
          (((numB ((bs.drop (s.1 + zrs (bs.drop s.1))).take (zrs (bs.drop s.1) + 1)) : Nat) : Int) - 1, s.1 + (2 * zrs (bs.drop s.1) + 1), 0) else (0, s.1, 3))
      else (0, s.1, 4)) else (0, s.1, 3)) else (0, s)
def sgnR (bs : List Bool) (s : RS) : Int × RS := (unfZ (gamR bs s).1, (gamR bs s).2)
def endR (bs : List Bool) (s : RS) : Bool := decide (bs.length - s.1 < 8) && (bs.drop s.1).all (fun b => !b)
section
variable {bs r : List Bool} {n v m k at' : Nat} {s s' : RS}
theorem bitsR_bad (h : s.2 ≠ 0) : bitsR bs n s = (0, s) := by unfold bitsR; rw [if_neg h]
theorem gamR_bad (h : s.2 ≠ 0) : gamR bs s = (0, s) := by unfold gamR; rw [if_neg h]
theorem sgnR_bad (h : s.2 ≠ 0) : sgnR bs s = (0, s) := by unfold sgnR; rw [gamR_bad h]; rfl
theorem take_app (a b : List Bool) : (a ++ b).take a.length = a := by simp
theorem drop_app_eq {a : List Bool} {p : Nat} (h : bs.drop p = a ++ r) : bs.drop (p + a.length) = r := by
  rw [← List.drop_drop, h]; simp
theorem drop_len {a : List Bool} {p : Nat} (h : bs.drop p = a ++ r) : a.length + r.length = bs.length - p := by
  have := congrArg List.length h
  rw [List.length_drop, List.length_append] at this; omega
/-- What was written with n bits is read with n bits. -/
theorem bits_rt {p : Nat} (h : bs.drop p = digB n v ++ r) (hv : v < 2 ^ n) : bitsR bs n (p, 0) = ((v : Int), p + n, 0) := by
  have hl := drop_len h
  rw [digB_len] at hl
  unfold bitsR
  rw [if_pos rfl, if_pos (by show n ≤ bs.length - p; omega)]
  show ((numB ((bs.drop p).take n) : Int), _) = _
  have h1 : (bs.drop p).take n = digB n v := by
    rw [h]
    have := take_app (digB n v) r
    rw [digB_len] at this; exact this
  rw [h1, numB_dig hv]
theorem bits_inv {p : Nat} {x : Int} (h : bitsR bs n (p, 0) = (x, s')) (h0 : s'.2 = 0) (hp : p ≤ bs.length) :
    ∃ v : Nat, x = v ∧ v < 2 ^ n ∧ s'.1 = p + n ∧ p + n ≤ bs.length ∧ bs.drop p = digB n v ++ bs.drop (p + n) := by
  unfold bitsR at h
  rw [if_pos rfl] at h
  by_cases hn : n ≤ bs.length - p
  · rw [if_pos hn] at h
    injection h with h1 h2
    have hl : ((bs.drop p).take n).length = n := by rw [List.length_take, List.length_drop]; omega
    refine ⟨_, h1.symm, ?_, by rw [← h2], by omega, ?_⟩
    · have := numB_lt ((bs.drop p).take n); rwa [hl] at this
    · have := digB_numB ((bs.drop p).take n)
      rw [hl] at this
      rw [this, ← List.drop_drop, List.take_append_drop]
  · rw [if_neg hn] at h
    injection h with h1 h2
    rw [← h2] at h0; exact absurd h0 (show ¬ (4 : Int) = 0 by decide)
theorem log2_lt (n : Nat) : n + 1 < 2 ^ (Nat.log2 (n + 1) + 1) := Nat.lt_log2_self
theorem log2_le (n : Nat) : 2 ^ Nat.log2 (n + 1) ≤ n + 1 := Nat.log2_self_le (by omega)
theorem digB_log (n : Nat) : ∃ t, digB (Nat.log2 (n + 1) + 1) (n + 1) = true :: t ∧ t.length = Nat.log2 (n + 1) := by
  refine ⟨digB (Nat.log2 (n + 1)) (n + 1), ?_, digB_len _ _⟩
  rw [digB]
  congr 1
  rw [Nat.testBit_eq_decide_div_mod_eq]
  have h1 := log2_lt n
  have h2 := log2_le n
  have : (n + 1) / 2 ^ Nat.log2 (n + 1) = 1 := by
    rw [Nat.pow_succ] at h1
    apply Nat.div_eq_of_lt_le <;> omega
  rw [this]; rfl
theorem log2_small {n : Nat} (h : n < 9223372036854775808) : Nat.log2 (n + 1) < 64 := by
  have h2 := log2_le n
  have : 2 ^ Nat.log2 (n + 1) < 2 ^ 64 := Nat.lt_of_le_of_lt h2 (by omega)
  exact (Nat.pow_lt_pow_iff_right (by omega)).1 this
/-- What was written as a gamma code is read as one. -/
theorem gam_rt {p : Nat} (h : bs.drop p = gamB n ++ r) (hv : n < 9223372036854775808) : gamR bs (p, 0) = ((n : Int), p + (gamB n).length, 0) := by
  have hl := drop_len h
  rw [gamB_len] at hl
  obtain ⟨t, ht, htl⟩ := digB_log n
  have hz : zrs (bs.drop p) = Nat.log2 (n + 1) := by
    rw [h, gamB, ht, List.append_assoc, List.cons_append, zrs_rep]
  have h64 := log2_small hv
  have hd : (bs.drop (p + Nat.log2 (n + 1))).take (Nat.log2 (n + 1) + 1) = digB (Nat.log2 (n + 1) + 1) (n + 1) := by
    have h1 : bs.drop p = List.replicate (Nat.log2 (n + 1)) false ++ (digB (Nat.log2 (n + 1) + 1) (n + 1) ++ r) := by
      rw [h, gamB, List.append_assoc]
    have h2 := drop_app_eq h1
    rw [List.length_replicate] at h2
    rw [h2]
    have := take_app (digB (Nat.log2 (n + 1) + 1) (n + 1)) r
    rw [digB_len] at this; exact this
  have hnum : numB (digB (Nat.log2 (n + 1) + 1) (n + 1)) = n + 1 := numB_dig (log2_lt n)
  unfold gamR
  rw [if_pos rfl]
  show (if zrs (bs.drop p) < 64 then _ else _) = _
  simp only [hz]
  rw [if_pos h64, if_pos (by omega), hd, hnum, if_pos (by omega), gamB_len]
  congr 1
  omega
theorem gam_inv {p : Nat} {x : Int} (h : gamR bs (p, 0) = (x, s')) (h0 : s'.2 = 0) (hp : p ≤ bs.length) :
    ∃ n : Nat, x = n ∧ n < 9223372036854775808 ∧ s'.1 = p + (gamB n).length ∧ p + (gamB n).length ≤ bs.length ∧ bs.drop p = gamB n ++ bs.drop (p + (gamB n).length) := by
  unfold gamR at h
  rw [if_pos rfl] at h
  have e : ∀ z, zrs (bs.drop p) = z → _ := fun z hz => by
    have h' := h
    simp only [hz] at h'
    exact h'
  obtain ⟨z, hz⟩ : ∃ z, zrs (bs.drop p) = z := ⟨_, rfl⟩
  have h' := e z hz
  clear h e
  by_cases h1 : z < 64
  · rw [if_pos h1] at h'
    by_cases h2 : 2 * z + 1 ≤ bs.length - p
    · rw [if_pos h2] at h'
      by_cases h3 : numB ((bs.drop (p + z)).take (z + 1)) ≤ 9223372036854775808
      · rw [if_pos h3] at h'
        injection h' with h4 h5
        have hzl : zrs (bs.drop p) < (bs.drop p).length := by rw [hz, List.length_drop]; omega
        obtain ⟨r0, hr0⟩ := zrs_split _ hzl
        rw [hz] at hr0
        have hdz : bs.drop (p + z) = true :: r0 := by
          have := drop_app_eq hr0
          rwa [List.length_replicate] at this
        obtain ⟨m, hm⟩ : ∃ m, numB ((bs.drop (p + z)).take (z + 1)) = m := ⟨_, rfl⟩
        rw [hm] at h3 h4
        have htl : ((bs.drop (p + z)).take (z + 1)).length = z + 1 := by rw [List.length_take, List.length_drop]; omega
        have hlo : 2 ^ z ≤ m := by
          rw [← hm, hdz, List.take_succ_cons, numB_cons]
          have : (r0.take z).length = z := by
            have := htl
            rw [hdz, List.take_succ_cons, List.length_cons] at this; omega
          rw [this]; simp
        have hhi : m < 2 ^ (z + 1) := by
          have := numB_lt ((bs.drop (p + z)).take (z + 1))
          rwa [htl, hm] at this
        have hpos : 0 < 2 ^ z := Nat.two_pow_pos z
        obtain ⟨n, rfl⟩ : ∃ n, m = n + 1 := ⟨m - 1, by omega⟩
        have hlog : Nat.log2 (n + 1) = z := by
          rw [Nat.log2_eq_iff (by omega)]; exact ⟨hlo, hhi⟩
        have hg : gamB n = List.replicate z false ++ (bs.drop (p + z)).take (z + 1) := by
          have := digB_numB ((bs.drop (p + z)).take (z + 1))
          rw [htl, hm] at this
          rw [gamB, hlog, this]
        have hgl : (gamB n).length = 2 * z + 1 := by rw [gamB_len, hlog]
        refine ⟨n, by omega, by omega, by rw [← h5, hgl], by omega, ?_⟩
        rw [hg, List.append_assoc]
        have e2 : p + (List.replicate z false ++ (bs.drop (p + z)).take (z + 1)).length = p + z + (z + 1) := by
          rw [List.length_append, List.length_replicate, htl]; omega
        rw [e2, ← List.drop_drop (i := z + 1), List.take_append_drop, hdz]
        exact hr0
      · rw [if_neg h3] at h'
        injection h' with h4 h5
        rw [← h5] at h0; exact absurd h0 (show ¬ (3 : Int) = 0 by decide)
    · rw [if_neg h2] at h'
      injection h' with h4 h5
      rw [← h5] at h0; exact absurd h0 (show ¬ (4 : Int) = 0 by decide)
  · rw [if_neg h1] at h'
    injection h' with h4 h5
    rw [← h5] at h0; exact absurd h0 (show ¬ (3 : Int) = 0 by decide)
theorem foldZ_lt {z : Int} (h : -4611686018427387904 ≤ z ∧ z ≤ 4611686018427387903) : foldZ z < 9223372036854775808 := by
  unfold foldZ; split <;> omega
theorem sgn_rt {p : Nat} {z : Int} (h : bs.drop p = sgnB z ++ r) (hz : -4611686018427387904 ≤ z ∧ z ≤ 4611686018427387903) : sgnR bs (p, 0) = (z, p + (sgnB z).length, 0) := by
  have := gam_rt h (foldZ_lt hz)
  unfold sgnR
  rw [this, unf_fold]; rfl
theorem sgn_inv {p : Nat} {x : Int} (h : sgnR bs (p, 0) = (x, s')) (h0 : s'.2 = 0) (hp : p ≤ bs.length) :
    s'.1 = p + (sgnB x).length ∧ p + (sgnB x).length ≤ bs.length ∧ bs.drop p = sgnB x ++ bs.drop (p + (sgnB x).length) ∧ -4611686018427387904 ≤ x ∧ x ≤ 4611686018427387903 := by
  unfold sgnR at h
  injection h with h1 h2
  obtain ⟨n, h3, h4, h5, h6, h7⟩ := gam_inv (x := (gamR bs (p, 0)).1) (s' := s') (by rw [← h2]) h0 hp
  rw [h3] at h1
  have hx : foldZ x = n := by rw [← h1, fold_unf]
  unfold sgnB
  rw [hx]
  refine ⟨h5, h6, h7, ?_⟩
  unfold foldZ at hx
  split at hx <;> omega
/-- The error stays, the place stays within the bits. -/
theorem bitsR_le (h : s.1 ≤ bs.length) : (bitsR bs n s).2.1 ≤ bs.length := by
  unfold bitsR; split
  · split
    · show s.1 + n ≤ _; omega
    · exact h
  · exact h
theorem gamR_le (h : s.1 ≤ bs.length) : (gamR bs s).2.1 ≤ bs.length := by
  unfold gamR; split
  · split
    · split
      · split
        · show s.1 + _ ≤ _; omega
        · exact h
      · exact h
    · exact h
  · exact h
theorem gamR_nn : 0 ≤ (gamR bs s).1 ∧ (gamR bs s).1 ≤ 9223372036854775807 := by
  by_cases h : s.2 = 0
  · by_cases hp : (gamR bs s).2.2 = 0
    · unfold gamR
      rw [if_pos h]
      split
      · rename_i h1
        split
        · rename_i h2
          split
          · rename_i h3
            refine ⟨?_, ?_⟩
            · show (0 : Int) ≤ ((numB _ : Nat) : Int) - 1
              have hzl : zrs (bs.drop s.1) < (bs.drop s.1).length := by rw [List.length_drop]; omega
              obtain ⟨r0, hr0⟩ := zrs_split _ hzl
              have hdz : bs.drop (s.1 + zrs (bs.drop s.1)) = true :: r0 := by
                have := drop_app_eq hr0
                rwa [List.length_replicate] at this
              rw [hdz, List.take_succ_cons, numB_cons]
              have : 0 < 2 ^ (r0.take (zrs (bs.drop s.1))).length := Nat.two_pow_pos _
              simp only [Bool.toNat_true, Nat.one_mul]
              omega
            · show ((numB _ : Nat) : Int) - 1 ≤ _
              omega
          · simp
        · simp
      · simp
    · unfold gamR at hp ⊢
      rw [if_pos h] at hp ⊢
      split
      · rename_i h1
        rw [if_pos h1] at hp
        split
        · rename_i h2
          rw [if_pos h2] at hp
          split
          · rename_i h3
            rw [if_pos h3] at hp
            exact absurd rfl hp
          · simp
        · simp
      · simp
  · rw [gamR_bad h]; simp
end
end Go.Proofs.YtmenokhnanghgaaGreat
end
section
namespace Go.Proofs.YtmenokhnanghgaaGreat
open Go Go.RowKit
/-- The eight bits of byte j. -/
def octB (T : List Bool) (j : Nat) : List Bool := [T.getD (8 * j) false, T.getD (8 * j + 1) false, T.getD (8 * j + 2) false, T.getD (8 * j + 3) false, T.getD (8 * j + 4) false, T.getD (8 * j + 5) false, T.getD (8 * j + 6) false, T.getD (8 * j + 7) false]
def byteAt (T : List Bool) (j : Nat) : Nat := numB (octB T j)
/-- The bits as bytes, filled with zeros. -/
def pkB (T : List Bool) : List Int := (List.range ((T.length + 7) / 8)).map fun j => ((byteAt T j : Nat) : Int)
/-- The bits of bytes. -/
def unB (l : List Int) : List Bool := l.flatMap fun x => digB 8 x.toNat
section
variable {T : List Bool} {b : Bool} {j : Nat}
theorem pkB_len (T : List Bool) : (pkB T).length = (T.length + 7) / 8 := by unfold pkB; simp
theorem byteAt_lt (T : List Bool) (j : Nat) : byteAt T j < 256 := by
  have := numB_lt (octB T j)
  rwa [show (octB T j).length = 8 from rfl, show 2 ^ 8 = 256 from rfl] at this
theorem pkB_get (h : j < (T.length + 7) / 8) : (pkB T)[j]? = some ((byteAt T j : Nat) : Int) := by
  unfold pkB; rw [List.getElem?_map, List.getElem?_range h]; rfl
theorem pkB_mem {x : Int} (h : x ∈ pkB T) : 0 ≤ x ∧ x ≤ 255 := by
  unfold pkB at h
  rw [List.mem_map] at h
  obtain ⟨j, _, rfl⟩ := h
  have := byteAt_lt T j
  omega
theorem getD_snoc (T : List Bool) (b : Bool) (i : Nat) : (T ++ [b]).getD i false = if i = T.length then b else T.getD i false := by
  by_cases h : i < T.length
  · rw [if_neg (by omega)]
    rw [List.getD_eq_getElem?_getD, List.getD_eq_getElem?_getD, List.getElem?_append_left h]
  · by_cases e : i = T.length
    · subst e; simp
    · rw [if_neg e, List.getD_eq_getElem?_getD, List.getD_eq_getElem?_getD, List.getElem?_eq_none (by simp; omega), List.getElem?_eq_none (by omega)]
theorem getD_out {i : Nat} (h : T.length ≤ i) : T.getD i false = false := by
  rw [List.getD_eq_getElem?_getD, List.getElem?_eq_none h]; rfl
theorem octB_other (h : j ≠ T.length / 8) : octB (T ++ [b]) j = octB T j := by
  unfold octB
  simp only [getD_snoc]
  have : ∀ k, k < 8 → 8 * j + k ≠ T.length := fun k hk e => by omega
  rw [if_neg (by have := this 0; omega), if_neg (this 1 (by omega)), if_neg (this 2 (by omega)), if_neg (this 3 (by omega)), if_neg (this 4 (by omega)), if_neg (this 5 (by omega)), if_neg (this 6 (by omega)), if_neg (this 7 (by omega))]
theorem byteAt_out (h : T.length ≤ 8 * j) : byteAt T j = 0 := by
  unfold byteAt octB
  rw [getD_out (by omega), getD_out (by omega), getD_out (by omega), getD_out (by omega), getD_out (by omega), getD_out (by omega), getD_out (by omega), getD_out (by omega)]
  rfl
/-- One bit more: the byte of its place. -/
theorem byteAt_snoc (T : List Bool) (b : Bool) : byteAt (T ++ [b]) (T.length / 8) = if b = true then byteAt T (T.length / 8) ||| (128 >>> (T.length % 8)) else byteAt T (T.length / 8) := by
  obtain ⟨u, hu⟩ : ∃ u, T.length / 8 = u := ⟨_, rfl⟩
  obtain ⟨r, hr⟩ : ∃ r, T.length % 8 = r := ⟨_, rfl⟩
  have hl : T.length = 8 * u + r := by omega
  have hr8 : r < 8 := by omega
  rw [hu, hr]
  unfold byteAt octB
  simp only [getD_snoc, hl]
  have e7 : r ≤ 7 → T.getD (8 * u + 7) false = false := fun h => getD_out (by omega)
  have e6 : r ≤ 6 → T.getD (8 * u + 6) false = false := fun h => getD_out (by omega)
  have e5 : r ≤ 5 → T.getD (8 * u + 5) false = false := fun h => getD_out (by omega)
  have e4 : r ≤ 4 → T.getD (8 * u + 4) false = false := fun h => getD_out (by omega)
  have e3 : r ≤ 3 → T.getD (8 * u + 3) false = false := fun h => getD_out (by omega)
  have e2 : r ≤ 2 → T.getD (8 * u + 2) false = false := fun h => getD_out (by omega)
  have e1 : r ≤ 1 → T.getD (8 * u + 1) false = false := fun h => getD_out (by omega)
  have e0 : r ≤ 0 → T.getD (8 * u) false = false := fun h => getD_out (by omega)
  have hc : r = 0 ∨ r = 1 ∨ r = 2 ∨ r = 3 ∨ r = 4 ∨ r = 5 ∨ r = 6 ∨ r = 7 := by omega
  rcases hc with rfl | rfl | rfl | rfl | rfl | rfl | rfl | rfl
  · rw [e7 (by omega), e6 (by omega), e5 (by omega), e4 (by omega), e3 (by omega), e2 (by omega), e1 (by omega), e0 (by omega)]
    simp only [Nat.add_right_cancel_iff, Nat.add_left_cancel_iff, Nat.add_zero, Nat.reduceEqDiff, if_true, if_false, show ¬ (8 * u = 8 * u + 1) by omega, show ¬ (8 * u + 1 = 8 * u) by omega, show ¬ (8 * u + 2 = 8 * u) by omega, show ¬ (8 * u + 3 = 8 * u) by omega, show ¬ (8 * u + 4 = 8 * u) by omega, show ¬ (8 * u + 5 = 8 * u) by omega, show ¬ (8 * u + 6 = 8 * u) by omega, show ¬ (8 * u + 7 = 8 * u) by omega]
    revert b; decide
  · rw [e7 (by omega), e6 (by omega), e5 (by omega), e4 (by omega), e3 (by omega), e2 (by omega), e1 (by omega)]
    simp only [Nat.add_left_cancel_iff, Nat.reduceEqDiff, if_true, if_false, show ¬ (8 * u = 8 * u + 1) by omega]
    generalize T.getD (8 * u) false = x0
    revert b x0; decide
  · rw [e7 (by omega), e6 (by omega), e5 (by omega), e4 (by omega), e3 (by omega), e2 (by omega)]
    simp only [Nat.add_left_cancel_iff, Nat.reduceEqDiff, if_true, if_false, show ¬ (8 * u = 8 * u + 2) by omega]
    generalize T.getD (8 * u) false = x0, T.getD (8 * u + 1) false = x1
    revert b x0 x1; decide
  · rw [e7 (by omega), e6 (by omega), e5 (by omega), e4 (by omega), e3 (by omega)]
    simp only [Nat.add_left_cancel_iff, Nat.reduceEqDiff, if_true, if_false, show ¬ (8 * u = 8 * u + 3) by omega]
    generalize T.getD (8 * u) false = x0, T.getD (8 * u + 1) false = x1, T.getD (8 * u + 2) false = x2
    revert b x0 x1 x2; decide
  · rw [e7 (by omega), e6 (by omega), e5 (by omega), e4 (by omega)]
    simp only [Nat.add_left_cancel_iff, Nat.reduceEqDiff, if_true, if_false, show ¬ (8 * u = 8 * u + 4) by omega]
    generalize T.getD (8 * u) false = x0, T.getD (8 * u + 1) false = x1, T.getD (8 * u + 2) false = x2, T.getD (8 * u + 3) false = x3
    revert b x0 x1 x2 x3; decide
  · rw [e7 (by omega), e6 (by omega), e5 (by omega)]
    simp only [Nat.add_left_cancel_iff, Nat.reduceEqDiff, if_true, if_false, show ¬ (8 * u = 8 * u + 5) by omega]
    generalize T.getD (8 * u) false = x0, T.getD (8 * u + 1) false = x1, T.getD (8 * u + 2) false = x2, T.getD (8 * u + 3) false = x3, T.getD (8 * u + 4) false = x4
    revert b x0 x1 x2 x3 x4; decide
  · rw [e7 (by omega), e6 (by omega)]
    simp only [Nat.add_left_cancel_iff, Nat.reduceEqDiff, if_true, if_false, show ¬ (8 * u = 8 * u + 6) by omega]
    generalize T.getD (8 * u) false = x0, T.getD (8 * u + 1) false = x1, T.getD (8 * u + 2) false = x2, T.getD (8 * u + 3) false = x3, T.getD (8 * u + 4) false = x4, T.getD (8 * u + 5) false = x5
    revert b x0 x1 x2 x3 x4 x5; decide
  · rw [e7 (by omega)]
    simp only [Nat.add_left_cancel_iff, Nat.reduceEqDiff, if_true, if_false, show ¬ (8 * u = 8 * u + 7) by omega]
    generalize T.getD (8 * u) false = x0, T.getD (8 * u + 1) false = x1, T.getD (8 * u + 2) false = x2, T.getD (8 * u + 3) false = x3, T.getD (8 * u + 4) false = x4, T.getD (8 * u + 5) false = x5, T.getD (8 * u + 6) false = x6
    revert b x0 x1 x2 x3 x4 x5 x6; decide
theorem pkB_new (h : T.length % 8 = 0) (b : Bool) : pkB (T ++ [b]) = pkB T ++ [if b = true then 128 else 0] := by
  have hl : (T.length + 1 + 7) / 8 = (T.length + 7) / 8 + 1 := by omega
  have hu : T.length / 8 = (T.length + 7) / 8 := by omega
  unfold pkB
  rw [List.length_append, List.length_singleton, hl, List.range_succ, List.map_append, List.map_singleton]
  congr 1
  · refine List.map_congr_left fun j hj => ?_
    rw [List.mem_range] at hj
    unfold byteAt; rw [octB_other (by omega)]
  · have := byteAt_snoc T b
    rw [hu, byteAt_out (T := T) (by omega), h] at this
    rw [this]
    cases b <;> rfl
theorem pkB_old (h : T.length % 8 ≠ 0) (b : Bool) : pkB (T ++ [b]) = (pkB T).set (T.length / 8) (((if b = true then byteAt T (T.length / 8) ||| (128 >>> (T.length % 8)) else byteAt T (T.length / 8)) : Nat) : Int) := by
  have hl : (T.length + 1 + 7) / 8 = (T.length + 7) / 8 := by omega
  apply List.ext_getElem?
  intro j
  rw [List.getElem?_set]
  by_cases hj : j < (T.length + 7) / 8
  · rw [pkB_get (by rw [List.length_append, List.length_singleton, hl]; exact hj)]
    by_cases e : T.length / 8 = j
    · rw [if_pos e, if_pos (by rw [pkB_len]; omega), ← e, byteAt_snoc]
    · rw [if_neg e, pkB_get hj]
      unfold byteAt; rw [octB_other (fun k => e k.symm)]
  · rw [List.getElem?_eq_none (by rw [pkB_len, List.length_append, List.length_singleton, hl]; omega)]
    by_cases e : T.length / 8 = j
    · omega
    · rw [if_neg e, List.getElem?_eq_none (by rw [pkB_len]; omega)]
theorem unB_len : ∀ l : List Int, (unB l).length = 8 * l.length
  | [] => rfl
  | x :: l => by
    have := unB_len l
    unfold unB at this ⊢
    rw [List.flatMap_cons, List.length_append, digB_len, this, List.length_cons]; omega
theorem unB_cons (x : Int) (l : List Int) : unB (x :: l) = digB 8 x.toNat ++ unB l := rfl
theorem unB_app (a c : List Int) : unB (a ++ c) = unB a ++ unB c := by unfold unB; simp
theorem digB_get : ∀ (n v i : Nat), i < n → (digB n v)[i]? = some (v.testBit (n - 1 - i))
  | 0, v, i, h => by omega
  | n + 1, v, 0, h => by rw [digB]; simp
  | n + 1, v, i + 1, h => by
    rw [digB, List.getElem?_cons_succ, digB_get n v i (by omega)]
    congr 2; omega
/-- The bit at a place. -/
theorem unB_get : ∀ (l : List Int) (i : Nat) (x : Int), l[i / 8]? = some x → (unB l)[i]? = some (x.toNat.testBit (7 - i % 8))
  | [], i, x, h => by simp at h
  | y :: l, i, x, h => by
    rw [unB_cons]
    by_cases hi : i < 8
    · rw [show i / 8 = 0 by omega] at h
      simp at h
      subst h
      rw [List.getElem?_append_left (by rw [digB_len]; exact hi), digB_get 8 _ i hi]
      congr 2; omega
    · rw [List.getElem?_append_right (by rw [digB_len]; omega), digB_len]
      obtain ⟨q, hq⟩ : ∃ q, i / 8 = q + 1 := ⟨i / 8 - 1, by omega⟩
      rw [hq, List.getElem?_cons_succ] at h
      have := unB_get l (i - 8) x (by rw [show (i - 8) / 8 = q by omega]; exact h)
      rw [this]
      congr 3; omega
theorem octB_get (T : List Bool) (j k : Nat) (hk : k < 8) : (octB T j)[k]? = some (T.getD (8 * j + k) false) := by
  unfold octB
  have hc : k = 0 ∨ k = 1 ∨ k = 2 ∨ k = 3 ∨ k = 4 ∨ k = 5 ∨ k = 6 ∨ k = 7 := by omega
  rcases hc with rfl | rfl | rfl | rfl | rfl | rfl | rfl | rfl <;> rfl
theorem digB_byte (T : List Bool) (j : Nat) : digB 8 (byteAt T j) = octB T j := digB_numB (octB T j)
/-- Packed bits come out again, with zeros behind them. -/
theorem un_pk (T : List Bool) : unB (pkB T) = T ++ List.replicate (8 * ((T.length + 7) / 8) - T.length) false := by
  apply List.ext_getElem?
  intro i
  by_cases hi : i < 8 * ((T.length + 7) / 8)
  · have h1 : (pkB T)[i / 8]? = some ((byteAt T (i / 8) : Nat) : Int) := pkB_get (by omega)
    rw [unB_get _ i _ h1, Int.toNat_natCast]
    have h2 := digB_get 8 (byteAt T (i / 8)) (i % 8) (by omega)
    rw [digB_byte, octB_get _ _ _ (by omega)] at h2
    rw [show 8 * (i / 8) + i % 8 = i by omega] at h2
    injection h2 with h2
    rw [show 7 - i % 8 = 8 - 1 - i % 8 by omega, ← h2]
    by_cases hT : i < T.length
    · rw [List.getElem?_append_left hT, List.getD_eq_getElem?_getD, List.getElem?_eq_getElem hT]; rfl
    · rw [List.getElem?_append_right (by omega), getD_out (by omega), List.getElem?_replicate, if_pos (by omega)]
  · rw [List.getElem?_eq_none (by rw [unB_len, pkB_len]; omega), List.getElem?_eq_none (by rw [List.length_append, List.length_replicate]; omega)]
theorem unB_inj : ∀ {a c : List Int}, (∀ x ∈ a, 0 ≤ x ∧ x ≤ 255) → (∀ x ∈ c, 0 ≤ x ∧ x ≤ 255) → unB a = unB c → a = c
  | [], [], _, _, _ => rfl
  | [], y :: c, _, _, h => by have := congrArg List.length h; rw [unB_len, unB_len] at this; simp at this
  | x :: a, [], _, _, h => by have := congrArg List.length h; rw [unB_len, unB_len] at this; simp at this
  | x :: a, y :: c, ha, hc, h => by
    rw [unB_cons, unB_cons] at h
    have h1 := List.append_inj h (by rw [digB_len, digB_len])
    have hx := ha x (by simp)
    have hy := hc y (by simp)
    have e : x.toNat = y.toNat := digB_inj (n := 8) (by omega) (by omega) h1.1
    have e2 : x = y := by omega
    rw [e2, unB_inj (fun z hz => ha z (by simp [hz])) (fun z hz => hc z (by simp [hz])) h1.2]
/-- Bytes whose bits are some bits and less than a byte of zeros are these bits packed. -/
theorem pk_un {l : List Int} (hl : ∀ x ∈ l, 0 ≤ x ∧ x ≤ 255) {p : Nat} (hp : p ≤ (unB l).length) (hz : (unB l).length - p < 8) (h0 : (unB l).drop p = List.replicate ((unB l).length - p) false) : pkB ((unB l).take p) = l := by
  refine unB_inj (fun x hx => pkB_mem hx) hl ?_
  have hlen : ((unB l).take p).length = p := by rw [List.length_take]; omega
  rw [un_pk, hlen]
  have h8 := unB_len l
  have : 8 * ((p + 7) / 8) - p = (unB l).length - p := by omega
  rw [this, ← h0, List.take_append_drop]
theorem all_false {l : List Bool} (h : l.all (fun b => !b) = true) : l = List.replicate l.length false := by
  rw [List.all_eq_true] at h
  rw [List.eq_replicate_iff]
  refine ⟨rfl, fun b hb => ?_⟩
  have := h b hb
  cases b
  · rfl
  · cases this
/-- A number is 0 when all its bits are. -/
theorem numB_zero : ∀ l : List Bool, numB l = 0 ↔ l.all (fun b => !b) = true
  | [] => by simp [numB]
  | b :: l => by
    have ih := numB_zero l
    rw [numB_cons, List.all_cons, Bool.and_eq_true, ← ih]
    have : 0 < 2 ^ l.length := Nat.two_pow_pos _
    cases b <;> simp
/-- The end is reached behind what was packed. -/
theorem end_pk {T : List Bool} : endR (unB (pkB T)) (T.length, 0) = true := by
  unfold endR
  have h := un_pk T
  have hl := unB_len (pkB T)
  rw [pkB_len] at hl
  rw [hl, Bool.and_eq_true]
  refine ⟨by simp; omega, ?_⟩
  show ((unB (pkB T)).drop T.length).all _ = true
  rw [h, List.drop_left]
  simp
/-- One bit more of a number. -/
theorem numB_take {l : List Bool} {k : Nat} {b : Bool} (h : l[k]? = some b) : numB (l.take (k + 1)) = 2 * numB (l.take k) + b.toNat := by
  have hk : k < l.length := by
    rcases Nat.lt_or_ge k l.length with h1 | h1
    · exact h1
    · rw [List.getElem?_eq_none h1] at h; cases h
  rw [List.take_add_one, h]
  exact numB_snoc _ _
end
end Go.Proofs.YtmenokhnanghgaaGreat
end
section
namespace Go.Proofs.YtmenokhnanghgaaGreat
open Go Go.RowKit
def addF (a b : Int) : Int := a + min b 4194304
def plcB (first : Bool) (b c x y : Int) : List Bool :=
  if first = true then sgnB x ++ sgnB y else if y = c then gamB 0 ++ gamB (x - b - 1).toNat else gamB (y - c).toNat ++ sgnB x
section
variable {α β : Type}
def prvL (ps : α → Int × Int) (l : List α) (i : Nat) : Int × Int := if i = 0 then (0, 0) else ((l[i - 1]?).map ps).getD (0, 0)
def elB (ps : α → Int × Int) (cd : α → List Bool) (l : List α) (i : Nat) : List Bool := match l[i]? with
  | none => []
  | some a => plcB (i == 0) (prvL ps l i).1 (prvL ps l i).2 (ps a).1 (ps a).2 ++ cd a
def elsB (ps : α → Int × Int) (cd : α → List Bool) (l : List α) (n : Nat) : List Bool := (List.range n).flatMap (elB ps cd l)
def lstB (ps : α → Int × Int) (cd : α → List Bool) (l : List α) : List Bool := gamB l.length ++ elsB ps cd l l.length
theorem elsB_zero (ps : α → Int × Int) (cd : α → List Bool) (l : List α) : elsB ps cd l 0 = [] := rfl
theorem elsB_succ (ps : α → Int × Int) (cd : α → List Bool) (l : List α) (n : Nat) : elsB ps cd l (n + 1) = elsB ps cd l n ++ elB ps cd l n := by
  unfold elsB; rw [List.range_succ, List.flatMap_append]; simp
theorem elB_at {ps : α → Int × Int} {cd : α → List Bool} {l : List α} {i : Nat} {a : α} (h : l[i]? = some a) : elB ps cd l i = plcB (i == 0) (prvL ps l i).1 (prvL ps l i).2 (ps a).1 (ps a).2 ++ cd a := by
  unfold elB; rw [h]
theorem prvL_succ {ps : α → Int × Int} {l : List α} {i : Nat} {a : α} (h : l[i]? = some a) : prvL ps l (i + 1) = ps a := by
  unfold prvL; rw [if_neg (by omega), Nat.add_sub_cancel, h]; rfl
def lpR (f : Nat → α → RS → α × RS) : Nat → Nat → α → RS → α × RS
  | 0, _, a, s => (a, s)
  | n + 1, i, a, s => if s.2 = 0 then lpR f n (i + 1) (f i a s).1 (f i a s).2 else (a, s)
theorem lpR_bad {f : Nat → α → RS → α × RS} {n i : Nat} {a : α} {s : RS} (h : s.2 ≠ 0) : lpR f n i a s = (a, s) := by
  cases n with
  | zero => rfl
  | succ n => rw [lpR, if_neg h]
theorem lpR_step {f : Nat → α → RS → α × RS} {n i : Nat} {a : α} {s : RS} (hi : i < n) (h : s.2 = 0) : lpR f (n - i) i a s = lpR f (n - (i + 1)) (i + 1) (f i a s).1 (f i a s).2 := by
  rw [show n - i = (n - (i + 1)) + 1 by omega, lpR, if_pos h]
theorem lpR_done {f : Nat → α → RS → α × RS} {n i : Nat} {a : α} {s : RS} (hi : n ≤ i) : lpR f (n - i) i a s = (a, s) := by
  rw [show n - i = 0 by omega]; rfl
theorem lpR_same {f g : Nat → α → RS → α × RS} (h : ∀ i a s, s.2 = 0 → (f i a s).2 = (g i a s).2 ∧ ((f i a s).2.2 = 0 → (f i a s).1 = (g i a s).1)) :
    ∀ (n i : Nat) (a : α) (s : RS), (lpR f n i a s).2 = (lpR g n i a s).2 ∧ ((lpR f n i a s).2.2 = 0 → (lpR f n i a s).1 = (lpR g n i a s).1)
  | 0, i, a, s => ⟨rfl, fun _ => rfl⟩
  | n + 1, i, a, s => by
    by_cases hs : s.2 = 0
    · rw [lpR, if_pos hs, lpR, if_pos hs]
      obtain ⟨h1, h2⟩ := h i a s hs
      by_cases he : (f i a s).2.2 = 0
      · rw [← h1, ← h2 he]
        exact lpR_same h n (i + 1) _ _
      · rw [lpR_bad he, lpR_bad (by rw [← h1]; exact he)]
        exact ⟨h1, fun k => absurd k he⟩
    · rw [lpR_bad hs, lpR_bad hs]
      exact ⟨rfl, fun _ => rfl⟩
theorem lpR_keep {f : Nat → α → RS → α × RS} {P : α → RS → Prop} (h : ∀ i a s, s.2 = 0 → P a s → P (f i a s).1 (f i a s).2) :
    ∀ (n i : Nat) (a : α) (s : RS), P a s → P (lpR f n i a s).1 (lpR f n i a s).2
  | 0, _, _, _, hp => hp
  | n + 1, i, a, s, hp => by
    by_cases hs : s.2 = 0
    · rw [lpR, if_pos hs]; exact lpR_keep h n (i + 1) _ _ (h i a s hs hp)
    · rw [lpR_bad hs]; exact hp
def chkR (x y : Int) (s : RS) : (Int × Int) × RS := if s.2 = 0 ∧ validB x y = false then ((x, y), s.1, 3) else ((x, y), s)
def plcP (bs : List Bool) (first : Bool) (b c : Int) (s : RS) : (Int × Int) × RS :=
  if first = true then chkR (sgnR bs s).1 (sgnR bs (sgnR bs s).2).1 (sgnR bs (sgnR bs s).2).2
  else if (gamR bs s).1 = 0 then chkR (addF (addF b (gamR bs (gamR bs s).2).1) 1) c (gamR bs (gamR bs s).2).2
  else chkR (sgnR bs (gamR bs s).2).1 (addF c (gamR bs s).1) (sgnR bs (gamR bs s).2).2
def plcQ (bs : List Bool) (first : Bool) (b c : Int) (s : RS) : (Int × Int) × RS :=
  if first = true then chkR (sgnR bs s).1 (sgnR bs (sgnR bs s).2).1 (sgnR bs (sgnR bs s).2).2
  else if (gamR bs s).2.2 = 0 ∧ (gamR bs s).1 = 0 then chkR (b + 1 + min (gamR bs (gamR bs s).2).1 4194304) (c + min (gamR bs s).1 4194304) (gamR bs (gamR bs s).2).2
  else chkR (sgnR bs (gamR bs s).2).1 (c + min (gamR bs s).1 4194304) (sgnR bs (gamR bs s).2).2
theorem chkR_snd {x y x' y' : Int} {s : RS} (h : s.2 ≠ 0) : (chkR x y s).2 = (chkR x' y' s).2 := by
  unfold chkR; rw [if_neg (fun k => h k.1), if_neg (fun k => h k.1)]
theorem chkR_bad {x y : Int} {s : RS} (h : s.2 ≠ 0) : chkR x y s = ((x, y), s) := by
  unfold chkR; rw [if_neg (fun k => h k.1)]
theorem chkR_ok {x y : Int} {s : RS} (h : (chkR x y s).2.2 = 0) : s.2 = 0 ∧ validB x y = true ∧ chkR x y s = ((x, y), s) := by
  unfold chkR at h ⊢
  by_cases k : s.2 = 0 ∧ validB x y = false
  · rw [if_pos k] at h; exact absurd h (show ¬ (3 : Int) = 0 by decide)
  · rw [if_neg k] at h ⊢
    refine ⟨h, ?_, rfl⟩
    cases hv : validB x y
    · exact absurd ⟨h, hv⟩ k
    · rfl
variable {bs : List Bool} {first : Bool} {b c : Int} {s : RS}
theorem plc_same : (plcP bs first b c s).2 = (plcQ bs first b c s).2 ∧ ((plcP bs first b c s).2.2 = 0 → (plcP bs first b c s).1 = (plcQ bs first b c s).1) := by
  unfold plcP plcQ
  cases first
  · simp only [Bool.false_eq_true, if_false]
    by_cases hg : (gamR bs s).2.2 = 0
    · by_cases hd : (gamR bs s).1 = 0
      · rw [if_pos hd, if_pos ⟨hg, hd⟩, hd]
        have e1 : addF (addF b (gamR bs (gamR bs s).2).1) 1 = b + 1 + min (gamR bs (gamR bs s).2).1 4194304 := by unfold addF; omega
        have e2 : c + min (0 : Int) 4194304 = c := by omega
        rw [e1, e2]
        exact ⟨rfl, fun _ => rfl⟩
      · rw [if_neg hd, if_neg (fun k => hd k.2)]
        exact ⟨rfl, fun _ => rfl⟩
    · have hn : ¬ ((gamR bs s).2.2 = 0 ∧ (gamR bs s).1 = 0) := fun k => hg k.1
      rw [if_neg hn]
      by_cases hd : (gamR bs s).1 = 0
      · rw [if_pos hd, gamR_bad hg, sgnR_bad hg]
        exact ⟨chkR_snd hg, fun k => absurd (chkR_ok k).1 hg⟩
      · rw [if_neg hd, sgnR_bad hg]
        exact ⟨chkR_snd hg, fun k => absurd (chkR_ok k).1 hg⟩
  · simp only [if_true]
    exact ⟨trivial, fun _ => trivial⟩
theorem chkR_le {x y : Int} (h : s.1 ≤ bs.length) : (chkR x y s).2.1 ≤ bs.length := by
  unfold chkR; split <;> exact h
theorem plcP_le (h : s.1 ≤ bs.length) : (plcP bs first b c s).2.1 ≤ bs.length := by
  unfold plcP
  split
  · exact chkR_le (gamR_le (gamR_le h))
  · split
    · exact chkR_le (gamR_le (gamR_le h))
    · exact chkR_le (gamR_le (gamR_le h))
theorem plcP_ok (h : (plcP bs first b c s).2.2 = 0) : validB (plcP bs first b c s).1.1 (plcP bs first b c s).1.2 = true := by
  unfold plcP at h ⊢
  split
  · rename_i h1; rw [if_pos h1] at h; rw [(chkR_ok h).2.2]; exact (chkR_ok h).2.1
  · rename_i h1; rw [if_neg h1] at h
    split
    · rename_i h2; rw [if_pos h2] at h; rw [(chkR_ok h).2.2]; exact (chkR_ok h).2.1
    · rename_i h2; rw [if_neg h2] at h; rw [(chkR_ok h).2.2]; exact (chkR_ok h).2.1
def rndP (bs : List Bool) (tk : Int → Int → RS → β × RS) (i : Nat) (a : List β × Int × Int) (s : RS) : (List β × Int × Int) × RS :=
  ((a.1 ++ [(tk (plcP bs (i == 0) a.2.1 a.2.2 s).1.1 (plcP bs (i == 0) a.2.1 a.2.2 s).1.2 (plcP bs (i == 0) a.2.1 a.2.2 s).2).1], (plcP bs (i == 0) a.2.1 a.2.2 s).1), (tk (plcP bs (i == 0) a.2.1 a.2.2 s).1.1 (plcP bs (i == 0) a.2.1 a.2.2 s).1.2 (plcP bs (i == 0) a.2.1 a.2.2 s).2).2)
def rndQ (bs : List Bool) (tk : Int → Int → RS → β × RS) (i : Nat) (a : List β × Int × Int) (s : RS) : (List β × Int × Int) × RS :=
  ((a.1 ++ [(tk (plcQ bs (i == 0) a.2.1 a.2.2 s).1.1 (plcQ bs (i == 0) a.2.1 a.2.2 s).1.2 (plcQ bs (i == 0) a.2.1 a.2.2 s).2).1], (plcQ bs (i == 0) a.2.1 a.2.2 s).1), (tk (plcQ bs (i == 0) a.2.1 a.2.2 s).1.1 (plcQ bs (i == 0) a.2.1 a.2.2 s).1.2 (plcQ bs (i == 0) a.2.1 a.2.2 s).2).2)
def clsP (bs : List Bool) (tk : Int → Int → RS → β × RS) (s : RS) : (List β × Int × Int) × RS := lpR (rndP bs tk) (gamR bs s).1.toNat 0 ([], 0, 0) (gamR bs s).2
def clsQ (bs : List Bool) (tk : Int → Int → RS → β × RS) (s : RS) : (List β × Int × Int) × RS := lpR (rndQ bs tk) (gamR bs s).1.toNat 0 ([], 0, 0) (gamR bs s).2
def TkOk (bs : List Bool) (tk : Int → Int → RS → β × RS) : Prop := (∀ x y x' y' s, (tk x y s).2 = (tk x' y' s).2) ∧ (∀ x y s, s.2 ≠ 0 → (tk x y s).2 = s) ∧ ∀ x y s, s.1 ≤ bs.length → (tk x y s).2.1 ≤ bs.length
theorem cls_same {tk : Int → Int → RS → β × RS} (ht : TkOk bs tk) : (clsP bs tk s).2 = (clsQ bs tk s).2 ∧ ((clsP bs tk s).2.2 = 0 → (clsP bs tk s).1 = (clsQ bs tk s).1) := by
  unfold clsP clsQ
  refine lpR_same (fun i a s hs => ?_) _ _ _ _
  obtain ⟨h1, h2⟩ := plc_same (bs := bs) (first := i == 0) (b := a.2.1) (c := a.2.2) (s := s)
  unfold rndP rndQ
  by_cases he : (plcP bs (i == 0) a.2.1 a.2.2 s).2.2 = 0
  · rw [← h1, ← h2 he]; exact ⟨rfl, fun _ => rfl⟩
  · refine ⟨?_, fun k => ?_⟩
    · rw [← h1]; exact ht.1 _ _ _ _ _
    · rw [show (tk (plcP bs (i == 0) a.2.1 a.2.2 s).1.1 (plcP bs (i == 0) a.2.1 a.2.2 s).1.2 (plcP bs (i == 0) a.2.1 a.2.2 s).2).2 = _ from ht.2.1 _ _ _ he] at k
      exact absurd k he
def tkC (bs : List Bool) (x y : Int) (s : RS) : Cel × RS := ((x, y, (bitsR bs 3 s).1), (bitsR bs 3 s).2)
def tkG (bs : List Bool) (x y : Int) (s : RS) : Chg × RS := ((x, y, (bitsR bs 3 s).1, (bitsR bs 3 (bitsR bs 3 s).2).1), (bitsR bs 3 (bitsR bs 3 s).2).2)
theorem tkC_ok (bs : List Bool) : TkOk bs (tkC bs) := ⟨fun _ _ _ _ _ => rfl, fun x y s h => by unfold tkC; rw [bitsR_bad h], fun x y s h => bitsR_le h⟩
theorem tkG_ok (bs : List Bool) : TkOk bs (tkG bs) := ⟨fun _ _ _ _ _ => rfl, fun x y s h => by unfold tkG; rw [bitsR_bad h, bitsR_bad h], fun x y s h => bitsR_le (bitsR_le h)⟩
theorem rndP_le {tk : Int → Int → RS → β × RS} (ht : TkOk bs tk) {i : Nat} {a : List β × Int × Int} (h : s.1 ≤ bs.length) : (rndP bs tk i a s).2.1 ≤ bs.length := ht.2.2 _ _ _ (plcP_le h)
theorem clsP_le {tk : Int → Int → RS → β × RS} (ht : TkOk bs tk) (h : s.1 ≤ bs.length) : (clsP bs tk s).2.1 ≤ bs.length :=
  lpR_keep (P := fun _ s => s.1 ≤ bs.length) (fun i a s _ hp => rndP_le ht hp) _ _ _ _ (gamR_le h)
end
def opnR (bs : List Bool) (kind : Int) : RS :=
  if (bitsR bs 4 (bitsR bs 4 (0, 0)).2).2.2 = 0 ∧ ¬ ((bitsR bs 4 (0, 0)).1 = kind ∧ (bitsR bs 4 (bitsR bs 4 (0, 0)).2).1 = 1) then ((bitsR bs 4 (bitsR bs 4 (0, 0)).2).2.1, 3) else (bitsR bs 4 (bitsR bs 4 (0, 0)).2).2
def cloR (bs : List Bool) (s : RS) (right : Bool) : Int := if s.2 = 0 then (if endR bs s = true ∧ right = true then 0 else 3) else s.2
theorem cloR_ok {bs : List Bool} {s : RS} {r : Bool} (h : cloR bs s r = 0) : s.2 = 0 ∧ endR bs s = true ∧ r = true := by
  unfold cloR at h
  by_cases h1 : s.2 = 0
  · rw [if_pos h1] at h
    by_cases h2 : endR bs s = true ∧ r = true
    · exact ⟨h1, h2.1, h2.2⟩
    · rw [if_neg h2] at h; exact absurd h (by decide)
  · rw [if_neg h1] at h; exact absurd h h1
theorem cloR_same {bs : List Bool} {s : RS} {r r' : Bool} (h : s.2 = 0 → r = r') : cloR bs s r = cloR bs s r' := by
  unfold cloR
  by_cases h1 : s.2 = 0
  · rw [if_pos h1, if_pos h1, h h1]
  · rw [if_neg h1, if_neg h1]
theorem opnR_le (bs : List Bool) (kind : Int) : (opnR bs kind).1 ≤ bs.length := by
  unfold opnR; split <;> exact bitsR_le (bitsR_le (Nat.zero_le _))
def gmsR (bs : List Bool) (s : RS) : Nat → List Int × RS
  | 0 => ([], s)
  | k + 1 => ((gmsR bs s k).1 ++ [(gamR bs (gmsR bs s k).2).1], (gamR bs (gmsR bs s k).2).2)
abbrev Nd := Int × List Int
abbrev Qd := Int × Int × Int × Int
def psC (c : Cel) : Int × Int := (c.1, c.2.1)
def psG (c : Chg) : Int × Int := (c.1, c.2.1)
def cdC (c : Cel) : List Bool := digB 3 c.2.2.toNat
def cdG (c : Chg) : List Bool := digB 3 c.2.2.1.toNat ++ digB 3 c.2.2.2.toNat
def hdB (kind : Nat) : List Bool := digB 4 kind ++ digB 4 1
def patB (p : List Cel) : List Bool := hdB 1 ++ lstB psC cdC p
def pt3B (p : Int × Int) : List Bool := digB 3 (p.1 + 2).toNat ++ digB 3 (p.2 + 2).toNat
def gmsB (l : List Int) : List Bool := l.flatMap fun n => gamB n.toNat
def ndB (x : Nd) : List Bool := gamB x.1.toNat ++ gmsB x.2
def treB (st : Int) (H : List (Int × Int)) (N : List Nd) : List Bool := hdB 2 ++ digB 3 (st - 1).toNat ++ gamB H.length ++ H.flatMap pt3B ++ gamB N.length ++ N.flatMap ndB
def qdB (x : Qd) : List Bool := gamB x.1.toNat ++ gamB x.2.1.toNat ++ gamB x.2.2.1.toNat ++ gamB x.2.2.2.toNat
def qdsB (st : Int) (Q : List Qd) : List Bool := hdB 3 ++ digB 3 (st - 1).toNat ++ gamB Q.length ++ Q.flatMap qdB
def frB (f : TFr) : List Bool := gamB f.1.toNat ++ (if f.2.1 = true then digB 1 1 ++ lstB psC cdC f.2.2.1 else digB 1 0 ++ lstB psG cdG f.2.2.2)
def timB (key : Int) (fs : List TFr) : List Bool := hdB 4 ++ gamB key.toNat ++ gamB fs.length ++ fs.flatMap frB
def endE (T : List Bool) : Int := if T.length ≤ 524288 then 0 else 6
def endL (T : List Bool) : List Int := if T.length ≤ 524288 then pkB T else []
def tpS (bs : List Bool) : (List Cel × Int × Int) × RS := clsP bs (tkC bs) (opnR bs 1)
def tpE (bs : List Bool) : Int := cloR bs (tpS bs).2 (rightC (tpS bs).1.1)
def tpL (bs : List Bool) : List Cel := if tpE bs = 0 then (tpS bs).1.1 else []
def tpQ (bs : List Bool) : (List Cel × Int × Int) × RS := clsQ bs (tkC bs) (opnR bs 1)
theorem tpQ_same (bs : List Bool) : cloR bs (tpQ bs).2 (rightC (tpQ bs).1.1) = tpE bs ∧ (tpE bs = 0 → (tpQ bs).1.1 = tpL bs) := by
  obtain ⟨h1, h2⟩ := cls_same (bs := bs) (s := opnR bs 1) (tkC_ok bs)
  unfold tpE tpL tpS tpQ
  rw [← h1]
  refine ⟨(cloR_same fun h => by rw [h2 h]).symm, fun h => ?_⟩
  unfold tpE tpS
  rw [if_pos h, h2 (cloR_ok h).1]
def hdR (bs : List Bool) (_ : Nat) (a : List (Int × Int)) (s : RS) : List (Int × Int) × RS := (a ++ [((bitsR bs 3 s).1 - 2, (bitsR bs 3 (bitsR bs 3 s).2).1 - 2)], (bitsR bs 3 (bitsR bs 3 s).2).2)
def ndR (bs : List Bool) (st : Nat) (_ : Nat) (a : List Nd) (s : RS) : List Nd × RS := (a ++ [((gamR bs s).1, (gmsR bs (gamR bs s).2 st).1)], (gmsR bs (gamR bs s).2 st).2)
def ttH (bs : List Bool) : List (Int × Int) × RS := lpR (hdR bs) (gamR bs (bitsR bs 3 (opnR bs 2)).2).1.toNat 0 [] (gamR bs (bitsR bs 3 (opnR bs 2)).2).2
def ttS (bs : List Bool) : Int := (bitsR bs 3 (opnR bs 2)).1 + 1
def ttN (bs : List Bool) : List Nd × RS := lpR (ndR bs (ttS bs).toNat) (gamR bs (ttH bs).2).1.toNat 0 [] (gamR bs (ttH bs).2).2
def ttE (bs : List Bool) : Int := cloR bs (ttN bs).2 (trR (ttS bs) (ttH bs).1 (ttN bs).1)
def qdR (bs : List Bool) (_ : Nat) (a : List Qd) (s : RS) : List Qd × RS :=
  (a ++ [((gamR bs s).1, (gamR bs (gamR bs s).2).1, (gamR bs (gamR bs (gamR bs s).2).2).1, (gamR bs (gamR bs (gamR bs (gamR bs s).2).2).2).1)], (gamR bs (gamR bs (gamR bs (gamR bs s).2).2).2).2)
def tqS (bs : List Bool) : Int := (bitsR bs 3 (opnR bs 3)).1 + 1
def tqN (bs : List Bool) : List Qd × RS := lpR (qdR bs) (gamR bs (bitsR bs 3 (opnR bs 3)).2).1.toNat 0 [] (gamR bs (bitsR bs 3 (opnR bs 3)).2).2
def frP (bs : List Bool) (_ : Nat) (a : List TFr) (s : RS) : List TFr × RS :=
  if (bitsR bs 1 (gamR bs s).2).1 = 1 then (a ++ [((gamR bs s).1, true, (clsP bs (tkC bs) (bitsR bs 1 (gamR bs s).2).2).1.1, [])], (clsP bs (tkC bs) (bitsR bs 1 (gamR bs s).2).2).2)
  else (a ++ [((gamR bs s).1, false, [], (clsP bs (tkG bs) (bitsR bs 1 (gamR bs s).2).2).1.1)], (clsP bs (tkG bs) (bitsR bs 1 (gamR bs s).2).2).2)
def tmK (bs : List Bool) : Int × RS := gamR bs (opnR bs 4)
def tmF (bs : List Bool) : List TFr × RS := lpR (frP bs) (gamR bs (tmK bs).2).1.toNat 0 [] (gamR bs (tmK bs).2).2
def tmE (bs : List Bool) : Int := cloR bs (tmF bs).2 (tlB (tmK bs).1 (tmF bs).1)
end Go.Proofs.YtmenokhnanghgaaGreat
end
section
namespace Go.Proofs.YtmenokhnanghgaaGreat
open Go Go.RowKit
/-- The bits from p to q are T. -/
def RdB (bs : List Bool) (p : Nat) (T : List Bool) (q : Nat) : Prop := q = p + T.length ∧ q ≤ bs.length ∧ bs.drop p = T ++ bs.drop q
section
variable {bs T U : List Bool} {p q r n v : Nat} {s : RS}
theorem RdB.nil (h : p ≤ bs.length) : RdB bs p [] p := ⟨rfl, h, rfl⟩
theorem RdB.trans (h : RdB bs p T q) (h' : RdB bs q U r) : RdB bs p (T ++ U) r :=
  ⟨by rw [h'.1, h.1, List.length_append]; omega, h'.2.1, by rw [h.2.2, h'.2.2, List.append_assoc]⟩
theorem RdB.split (h : RdB bs p (T ++ U) r) : ∃ q, RdB bs p T q ∧ RdB bs q U r := by
  have h1 := h.1
  have h2 := h.2.1
  rw [List.length_append] at h1
  have h3 := h.2.2
  rw [List.append_assoc] at h3
  have h4 := drop_app_eq h3
  exact ⟨p + T.length, ⟨rfl, by omega, by rw [h4]; exact h3⟩, by omega, h2, h4⟩
theorem RdB.le (h : RdB bs p T q) : q ≤ bs.length := h.2.1
theorem rs_eq (h : s.2 = 0) : s = (s.1, 0) := by rw [← h]
theorem tr_eq {α : Type} {r : α × RS} {x : α} (h1 : r.1 = x) (h2 : r.2.1 = q) (h3 : r.2.2 = 0) : r = (x, q, 0) := by
  rw [← h1, ← h2, ← h3]
theorem bits_go (h : RdB bs p (digB n v) q) (hv : v < 2 ^ n) : bitsR bs n (p, 0) = ((v : Int), q, 0) := by
  rw [bits_rt h.2.2 hv, h.1, digB_len]
theorem gam_go (h : RdB bs p (gamB n) q) (hv : n < 9223372036854775808) : gamR bs (p, 0) = ((n : Int), q, 0) := by
  rw [gam_rt h.2.2 hv, h.1]
theorem sgn_go {z : Int} (h : RdB bs p (sgnB z) q) (hz : -4611686018427387904 ≤ z ∧ z ≤ 4611686018427387903) : sgnR bs (p, 0) = (z, q, 0) := by
  rw [sgn_rt h.2.2 hz, h.1]
theorem bits_bk (h : (bitsR bs n (p, 0)).2.2 = 0) (hp : p ≤ bs.length) : ∃ v q, bitsR bs n (p, 0) = (((v : Nat) : Int), q, 0) ∧ v < 2 ^ n ∧ RdB bs p (digB n v) q := by
  obtain ⟨v, h1, h2, h3, h4, h5⟩ := bits_inv (s' := (bitsR bs n (p, 0)).2) (x := (bitsR bs n (p, 0)).1) rfl h hp
  exact ⟨v, p + n, tr_eq h1 h3 h, h2, by rw [digB_len], h4, h5⟩
theorem gam_bk (h : (gamR bs (p, 0)).2.2 = 0) (hp : p ≤ bs.length) : ∃ n q, gamR bs (p, 0) = (((n : Nat) : Int), q, 0) ∧ n < 9223372036854775808 ∧ RdB bs p (gamB n) q := by
  obtain ⟨v, h1, h2, h3, h4, h5⟩ := gam_inv (s' := (gamR bs (p, 0)).2) (x := (gamR bs (p, 0)).1) rfl h hp
  exact ⟨v, p + (gamB v).length, tr_eq h1 h3 h, h2, rfl, h4, h5⟩
theorem sgn_bk (h : (sgnR bs (p, 0)).2.2 = 0) (hp : p ≤ bs.length) : ∃ z q, sgnR bs (p, 0) = (z, q, 0) ∧ RdB bs p (sgnB z) q := by
  obtain ⟨h1, h2, h3, h4⟩ := sgn_inv (s' := (sgnR bs (p, 0)).2) (x := (sgnR bs (p, 0)).1) rfl h hp
  exact ⟨(sgnR bs (p, 0)).1, _, tr_eq rfl h1 h, rfl, h2, h3⟩
theorem bits_ok (h : (bitsR bs n s).2.2 = 0) : s.2 = 0 := by
  by_cases k : s.2 = 0
  · exact k
  · rw [bitsR_bad k] at h; exact h
theorem gam_ok (h : (gamR bs s).2.2 = 0) : s.2 = 0 := by
  by_cases k : s.2 = 0
  · exact k
  · rw [gamR_bad k] at h; exact h
theorem sgn_ok (h : (sgnR bs s).2.2 = 0) : s.2 = 0 := gam_ok h
theorem chk_good {x y : Int} (h : validB x y = true) : chkR x y s = ((x, y), s) := by
  unfold chkR; rw [if_neg (fun k => by rw [h] at k; cases k.2)]
/-- A place that was written is read. -/
theorem plc_go {f : Bool} {b c x y : Int} (h : RdB bs p (plcB f b c x y) q) (hv : validB x y = true) (hf : f = false → validB b c = true ∧ befP b c x y = true) : plcP bs f b c (p, 0) = ((x, y), q, 0) := by
  have hv' := hv
  unfold validB at hv'
  rw [decide_eq_true_eq] at hv'
  unfold plcB at h
  unfold plcP
  cases f with
  | true =>
    rw [if_pos rfl] at h ⊢
    obtain ⟨m, h1, h2⟩ := h.split
    rw [sgn_go h1 (by omega), sgn_go h2 (by omega)]
    exact chk_good hv
  | false =>
    obtain ⟨hb, hc⟩ := hf rfl
    unfold validB at hb
    unfold befP at hc
    rw [decide_eq_true_eq] at hb hc
    rw [if_neg (by simp)] at h ⊢
    by_cases e : y = c
    · rw [if_pos e] at h
      obtain ⟨m, h1, h2⟩ := h.split
      rw [gam_go h1 (by omega), if_pos (by rfl)]
      simp only
      rw [gam_go h2 (by omega)]
      have e2 : addF (addF b (((x - b - 1).toNat : Nat) : Int)) 1 = x := by unfold addF; omega
      simp only
      rw [e2, ← e]
      exact chk_good hv
    · rw [if_neg e] at h
      obtain ⟨m, h1, h2⟩ := h.split
      rw [gam_go h1 (by omega), if_neg (by simp only; omega)]
      simp only
      rw [sgn_go h2 (by omega)]
      have e2 : addF c (((y - c).toNat : Nat) : Int) = y := by unfold addF; omega
      simp only
      rw [e2]
      exact chk_good hv
theorem plc_bk {f : Bool} {b c : Int} (h : (plcP bs f b c (p, 0)).2.2 = 0) (hp : p ≤ bs.length) (hf : f = false → validB b c = true) : ∃ x y q, plcP bs f b c (p, 0) = ((x, y), q, 0) ∧ validB x y = true ∧ RdB bs p (plcB f b c x y) q := by
  unfold plcP at h ⊢
  cases f with
  | true =>
    rw [if_pos rfl] at h ⊢
    obtain ⟨k1, k2, k3⟩ := chkR_ok h
    have k0 := sgn_ok k1
    obtain ⟨x, q1, e1, r1⟩ := sgn_bk k0 hp
    rw [e1] at k1 k2 k3 h ⊢
    obtain ⟨y, q2, e2, r2⟩ := sgn_bk k1 r1.le
    simp only at k1 k2 k3 h ⊢
    rw [e2] at k2 k3 ⊢
    exact ⟨x, y, q2, k3, k2, by unfold plcB; rw [if_pos rfl]; exact r1.trans r2⟩
  | false =>
    have hb := hf rfl
    unfold validB at hb
    rw [decide_eq_true_eq] at hb
    rw [if_neg (by simp)] at h ⊢
    by_cases hd : (gamR bs (p, 0)).1 = 0
    · rw [if_pos hd] at h ⊢
      obtain ⟨k1, k2, k3⟩ := chkR_ok h
      have k0 := gam_ok k1
      obtain ⟨d, q1, e1, hd1, r1⟩ := gam_bk k0 hp
      rw [e1] at k1 k2 k3 h hd ⊢
      simp only at k1 k2 k3 h hd ⊢
      obtain ⟨g, q2, e2, hg, r2⟩ := gam_bk k1 r1.le
      rw [e2] at k2 k3 ⊢
      simp only at k2 k3 ⊢
      refine ⟨_, c, q2, k3, k2, ?_⟩
      unfold validB at k2
      rw [decide_eq_true_eq] at k2
      unfold addF at k2 ⊢
      unfold plcB
      rw [if_neg (by simp), if_pos rfl]
      have e3 : (b + min (g : Int) 4194304 + min 1 4194304 - b - 1).toNat = g := by omega
      rw [e3]
      have e4 : d = 0 := by omega
      rw [e4] at r1
      exact r1.trans r2
    · rw [if_neg hd] at h ⊢
      obtain ⟨k1, k2, k3⟩ := chkR_ok h
      have k0 := sgn_ok k1
      obtain ⟨d, q1, e1, hd1, r1⟩ := gam_bk k0 hp
      rw [e1] at k1 k2 k3 h hd ⊢
      simp only at k1 k2 k3 h hd ⊢
      obtain ⟨x, q2, e2, r2⟩ := sgn_bk k1 r1.le
      rw [e2] at k2 k3 ⊢
      simp only at k2 k3 ⊢
      refine ⟨x, _, q2, k3, k2, ?_⟩
      unfold validB at k2
      rw [decide_eq_true_eq] at k2
      unfold addF at k2 ⊢
      unfold plcB
      rw [if_neg (by simp), if_neg (by omega)]
      have e3 : (c + min (d : Int) 4194304 - c).toNat = d := by omega
      rw [e3]
      exact r1.trans r2
end
section
variable {α : Type} {bs : List Bool} {p q : Nat} {ps : α → Int × Int} {cd : α → List Bool} {l : List α} {tk : Int → Int → RS → α × RS}
theorem elB_app (m : List α) {i : Nat} (h : i < l.length) : elB ps cd (l ++ m) i = elB ps cd l i := by
  unfold elB
  rw [List.getElem?_append_left h, List.getElem?_eq_getElem h]
  have : prvL ps (l ++ m) i = prvL ps l i := by
    unfold prvL
    split
    · rfl
    · rw [List.getElem?_append_left (by omega)]
  simp only [this]
theorem elsB_app (m : List α) : ∀ {n : Nat}, n ≤ l.length → elsB ps cd (l ++ m) n = elsB ps cd l n
  | 0, _ => rfl
  | n + 1, h => by rw [elsB_succ, elsB_succ, elsB_app m (by omega), elB_app m (by omega)]
/-- A loop of which each round is known. -/
theorem lpR_inv {α : Type} {f : Nat → α → RS → α × RS} {P : Nat → α → RS → Prop} (h : ∀ i a s, s.2 = 0 → P i a s → (f i a s).2.2 = 0 → P (i + 1) (f i a s).1 (f i a s).2) :
    ∀ (n i : Nat) (a : α) (s : RS), P i a s → (lpR f n i a s).2.2 = 0 → P (i + n) (lpR f n i a s).1 (lpR f n i a s).2
  | 0, _, _, _, hp, _ => hp
  | n + 1, i, a, s, hp, h0 => by
    by_cases hs : s.2 = 0
    · rw [lpR, if_pos hs] at h0 ⊢
      have hf : (f i a s).2.2 = 0 := by
        by_cases k : (f i a s).2.2 = 0
        · exact k
        · rw [lpR_bad k] at h0; exact h0
      rw [show i + (n + 1) = i + 1 + n by omega]
      exact lpR_inv h n (i + 1) _ _ (h i a s hs hp hf) h0
    · rw [lpR_bad hs] at h0; exact absurd h0 hs
theorem lpR_ok {α : Type} {f : Nat → α → RS → α × RS} {n i : Nat} {a : α} {s : RS} (h : (lpR f n i a s).2.2 = 0) : s.2 = 0 := by
  by_cases k : s.2 = 0
  · exact k
  · rw [lpR_bad k] at h; exact h
/-- A loop that runs as known. -/
theorem lpR_run {α : Type} {f : Nat → α → RS → α × RS} {A : Nat → α} {S : Nat → Nat} {n : Nat} (h : ∀ i, i < n → f i (A i) (S i, 0) = (A (i + 1), S (i + 1), 0)) : ∀ k i, i + k = n → lpR f k i (A i) (S i, 0) = (A n, S n, 0)
  | 0, i, e => by rw [← e]; rfl
  | k + 1, i, e => by
    rw [lpR, if_pos rfl, h i (by omega)]
    exact lpR_run h k (i + 1) (by omega)
/-- A cell list that was written is read. -/
theorem cls_go (h : RdB bs p (lstB ps cd l) q) (hn : l.length < 9223372036854775808) (ht : ∀ a ∈ l, ∀ p q, RdB bs p (cd a) q → tk (ps a).1 (ps a).2 (p, 0) = (a, q, 0))
    (hv : ∀ (i : Nat) (a : α), l[i]? = some a → validB (ps a).1 (ps a).2 = true) (hs : ∀ (i : Nat) (a b : α), l[i]? = some a → l[i + 1]? = some b → befP (ps a).1 (ps a).2 (ps b).1 (ps b).2 = true) : clsP bs tk (p, 0) = ((l, prvL ps l l.length), q, 0) := by
  unfold lstB at h
  obtain ⟨p1, h1, h2⟩ := h.split
  unfold clsP
  rw [gam_go h1 hn]
  simp only [Int.toNat_natCast]
  have hq := h2.1
  have key : ∀ i, i ≤ l.length → RdB bs p1 (elsB ps cd l i) (p1 + (elsB ps cd l i).length) := by
    intro i hi
    have : ∃ r, elsB ps cd l l.length = elsB ps cd l i ++ r := by
      obtain ⟨k, hk⟩ : ∃ k, l.length = i + k := ⟨l.length - i, by omega⟩
      rw [hk]
      clear hk hi hq h1 h2
      induction k with
      | zero => exact ⟨[], by simp⟩
      | succ k ih =>
        obtain ⟨r, hr⟩ := ih
        exact ⟨r ++ elB ps cd l (i + k), by rw [← Nat.add_assoc, elsB_succ, hr, List.append_assoc]⟩
    obtain ⟨r, hr⟩ := this
    rw [hr] at h2
    obtain ⟨m, k1, _⟩ := h2.split
    have := k1.1
    rw [← this]; exact k1
  have := lpR_run (f := rndP bs tk) (A := fun i => (l.take i, prvL ps l i)) (S := fun i => p1 + (elsB ps cd l i).length) (n := l.length) (fun i hi => by
    obtain ⟨a, ha⟩ : ∃ a, l[i]? = some a := ⟨_, List.getElem?_eq_getElem hi⟩
    have k := key (i + 1) (by omega)
    rw [elsB_succ, elB_at ha] at k
    obtain ⟨m1, k1, k2⟩ := k.split
    obtain ⟨m2, k3, k4⟩ := k2.split
    have e1 : m1 = p1 + (elsB ps cd l i).length := k1.1
    rw [e1] at k3
    have hpl : plcP bs (i == 0) (prvL ps l i).1 (prvL ps l i).2 (p1 + (elsB ps cd l i).length, 0) = (((ps a).1, (ps a).2), m2, 0) := by
      refine plc_go k3 (hv i a ha) (fun hf => ?_)
      have hi0 : i ≠ 0 := by
        intro e; rw [e] at hf; simp at hf
      obtain ⟨j, rfl⟩ : ∃ j, i = j + 1 := ⟨i - 1, by omega⟩
      obtain ⟨b, hb⟩ : ∃ b, l[j]? = some b := ⟨_, List.getElem?_eq_getElem (by omega)⟩
      rw [prvL_succ hb]
      exact ⟨hv j b hb, hs j b a hb ha⟩
    unfold rndP
    simp only
    rw [hpl]
    simp only
    rw [ht a (List.mem_of_getElem? ha) _ _ k4]
    simp only
    rw [prvL_succ ha, elsB_succ, elB_at ha, List.take_add_one, ha]
    simp only [Option.toList_some]) l.length 0 (by omega)
  rw [List.take_length] at this
  have e0 : prvL ps l 0 = (0, 0) := rfl
  rw [e0, List.take_zero, elsB_zero, List.length_nil, Nat.add_zero] at this
  rw [this, ← hq]
/-- A cell list that is read was written so. -/
theorem cls_bk (hk : TkOk bs tk) (h : (clsP bs tk (p, 0)).2.2 = 0) (hp : p ≤ bs.length) (ht : ∀ x y p, p ≤ bs.length → (tk x y (p, 0)).2.2 = 0 → ∃ a q, tk x y (p, 0) = (a, q, 0) ∧ ps a = (x, y) ∧ RdB bs p (cd a) q) :
    ∃ l pr q, clsP bs tk (p, 0) = ((l, pr), q, 0) ∧ RdB bs p (lstB ps cd l) q := by
  have h0 : (gamR bs (p, 0)).2.2 = 0 := lpR_ok h
  obtain ⟨n, p1, e1, hn, r1⟩ := gam_bk h0 hp
  unfold clsP at h ⊢
  rw [e1] at h ⊢
  simp only [Int.toNat_natCast] at h ⊢
  have key := lpR_inv (f := rndP bs tk) (P := fun i (a : List α × Int × Int) s => a.1.length = i ∧ s.2 = 0 ∧ RdB bs p1 (elsB ps cd a.1 i) s.1 ∧ a.2 = prvL ps a.1 i ∧ (i ≠ 0 → validB a.2.1 a.2.2 = true)) (fun i a s hs hP hf => by
    obtain ⟨k1, k2, k3, k4, k5⟩ := hP
    have es := rs_eq k2
    have hpo : (plcP bs (i == 0) a.2.1 a.2.2 s).2.2 = 0 := by
      by_cases k : (plcP bs (i == 0) a.2.1 a.2.2 s).2.2 = 0
      · exact k
      · unfold rndP at hf
        simp only at hf
        rw [hk.2.1 _ _ _ k] at hf; exact absurd hf k
    rw [es] at hpo hf ⊢
    obtain ⟨x, y, q1, e2, hv, r2⟩ := plc_bk hpo k3.le (fun e => k5 (by intro e3; rw [e3] at e; simp at e))
    unfold rndP at hf ⊢
    simp only at hf ⊢
    rw [e2] at hf ⊢
    simp only at hf ⊢
    obtain ⟨b, q2, e3, hb, r3⟩ := ht x y q1 r2.le hf
    rw [e3]
    simp only
    have hl : (a.1 ++ [b])[i]? = some b := by rw [← k1]; simp
    refine ⟨by rw [List.length_append, k1]; rfl, trivial, ?_, ?_, fun _ => hv⟩
    · rw [elsB_succ, elsB_app _ (by omega), elB_at hl]
      have : prvL ps (a.1 ++ [b]) i = a.2 := by
        rw [k4]
        unfold prvL
        split
        · rfl
        · rw [List.getElem?_append_left (by omega)]
      rw [this, hb]
      exact k3.trans (r2.trans r3)
    · rw [prvL_succ hl, hb]) n 0 ([], 0, 0) (p1, 0) ⟨rfl, rfl, RdB.nil r1.le, rfl, fun k => absurd rfl k⟩ h
  obtain ⟨k1, k2, k3, k4, _⟩ := key
  rw [Nat.zero_add] at k1 k3
  refine ⟨(lpR (rndP bs tk) n 0 ([], 0, 0) (p1, 0)).1.1, (lpR (rndP bs tk) n 0 ([], 0, 0) (p1, 0)).1.2, (lpR (rndP bs tk) n 0 ([], 0, 0) (p1, 0)).2.1, tr_eq rfl rfl k2, ?_⟩
  unfold lstB
  rw [k1]
  exact r1.trans k3
/-- A list of which each element is read by itself. -/
theorem lps_go {f : Nat → List α → RS → List α × RS} {T : α → List Bool} (h : RdB bs p (l.flatMap T) q) (hf : ∀ i a m p q, a ∈ l → RdB bs p (T a) q → f i m (p, 0) = (m ++ [a], q, 0)) (n : Nat) (hn : l.length = n) : lpR f n 0 [] (p, 0) = (l, q, 0) := by
  have key : ∀ (k : List α) (i : Nat) (m : List α) (p : Nat), (∀ a ∈ k, a ∈ l) → RdB bs p (k.flatMap T) q → lpR f k.length i m (p, 0) = (m ++ k, q, 0) := by
    intro k
    induction k with
    | nil =>
      intro i m p _ hk
      have := hk.1
      simp at this
      rw [this]; simp [lpR]
    | cons a k ih =>
      intro i m p hm hk
      rw [List.flatMap_cons] at hk
      obtain ⟨r, h1, h2⟩ := hk.split
      rw [List.length_cons, lpR, if_pos rfl, hf i a m p r (hm a (by simp)) h1]
      rw [ih (i + 1) (m ++ [a]) r (fun b hb => hm b (by simp [hb])) h2, List.append_assoc]; rfl
  rw [← hn]
  have := key l 0 [] p (fun _ h => h) h
  rw [List.nil_append] at this; exact this
theorem lps_bk {f : Nat → List α → RS → List α × RS} {T : α → List Bool} {n : Nat} (h : (lpR f n 0 [] (p, 0)).2.2 = 0) (hp : p ≤ bs.length) (hf : ∀ i m p, p ≤ bs.length → (f i m (p, 0)).2.2 = 0 → ∃ a q, f i m (p, 0) = (m ++ [a], q, 0) ∧ RdB bs p (T a) q) :
    ∃ l q, lpR f n 0 [] (p, 0) = (l, q, 0) ∧ l.length = n ∧ RdB bs p (l.flatMap T) q := by
  have key := lpR_inv (f := f) (P := fun i (a : List α) s => a.length = i ∧ s.2 = 0 ∧ RdB bs p (a.flatMap T) s.1) (fun i a s hs hP hf' => by
    obtain ⟨k1, k2, k3⟩ := hP
    rw [rs_eq k2] at hf' ⊢
    obtain ⟨b, q1, e1, r1⟩ := hf i a s.1 k3.le hf'
    rw [e1]
    refine ⟨by rw [List.length_append, k1]; rfl, rfl, ?_⟩
    rw [List.flatMap_append, List.flatMap_cons, List.flatMap_nil, List.append_nil]
    exact k3.trans r1) n 0 [] (p, 0) ⟨rfl, rfl, RdB.nil hp⟩ h
  obtain ⟨k1, k2, k3⟩ := key
  exact ⟨_, _, tr_eq rfl rfl k2, by rw [k1]; omega, k3⟩
end
end Go.Proofs.YtmenokhnanghgaaGreat
end
section
namespace Go.Proofs.YtmenokhnanghgaaGreat
open Go Go.RowKit
/-- The level of a node, the levels of the stored nodes known. -/
def qlv (st : Int) (ls : List Int) (id : Int) : Int := if id < 0 ∨ st + ls.length ≤ id then -1 else if id < st then 0 else ls.getD (id - st).toNat 0
/-- The levels of the first nodes. -/
def qLv (st : Int) (Q : List Qd) : Nat → List Int
  | 0 => []
  | i + 1 => qLv st Q i ++ [qlv st (qLv st Q i) ((Q[i]?).map (·.1)).get! + 1]
def qSt (st : Int) (ls : List Int) (x : Qd) : Bool := decide (0 ≤ qlv st ls x.1 ∧ qlv st ls x.1 < 256 ∧ qlv st ls x.2.1 = qlv st ls x.1 ∧ qlv st ls x.2.2.1 = qlv st ls x.1 ∧ qlv st ls x.2.2.2 = qlv st ls x.1)
def qOk (st : Int) (Q : List Qd) (i : Nat) : Bool := match Q[i]? with
  | none => true
  | some x => qSt st (qLv st Q i) x && !(Q.take i).contains x
def qR (st : Int) (Q : List Qd) : Bool := decide (2 ≤ st ∧ st ≤ 8) && decide (Q.length ≤ 100000) && (List.range Q.length).all (qOk st Q)
section
variable {st : Int} {Q : List Qd} {n i : Nat} {x : Qd}
theorem qLv_len : ∀ i, (qLv st Q i).length = i
  | 0 => rfl
  | i + 1 => by rw [qLv, List.length_append, qLv_len i]; rfl
theorem qLv_step (h : Q[i]? = some x) : qLv st Q (i + 1) = qLv st Q i ++ [qlv st (qLv st Q i) x.1 + 1] := by
  rw [qLv, h]; rfl
theorem qR_states (h : ¬(2 ≤ st ∧ st ≤ 8)) : qR st Q = false := by
  unfold qR; rw [decide_eq_false h]; rfl
theorem qR_len (hl : Q.length = n) (h : 100000 < n) : qR st Q = false := by
  unfold qR; rw [decide_eq_false (p := Q.length ≤ 100000) (by omega)]; simp
theorem qR_bad (hl : Q.length = n) (hi : i < n) (h : qOk st Q i = false) : qR st Q = false := by
  unfold qR
  rw [Bool.and_eq_false_iff]
  right
  rw [List.all_eq_false]
  exact ⟨i, by simp; omega, by simp [h]⟩
theorem qR_all (h1 : 2 ≤ st ∧ st ≤ 8) (hl : Q.length = n) (h2 : n ≤ 100000) (h : ∀ i, i < n → qOk st Q i = true) : qR st Q = true := by
  unfold qR
  rw [decide_eq_true h1, decide_eq_true (p := Q.length ≤ 100000) (by omega), Bool.true_and, Bool.true_and, List.all_eq_true]
  intro i hi
  exact h i (by simp at hi; omega)
theorem qR_parts (h : qR st Q = true) : (2 ≤ st ∧ st ≤ 8) ∧ Q.length ≤ 100000 ∧ ∀ i, qOk st Q i = true := by
  unfold qR at h
  rw [Bool.and_eq_true, Bool.and_eq_true, decide_eq_true_eq, decide_eq_true_eq, List.all_eq_true] at h
  refine ⟨h.1.1, h.1.2, fun i => ?_⟩
  by_cases hi : i < Q.length
  · exact h.2 i (by simpa using hi)
  · unfold qOk; rw [List.getElem?_eq_none (by omega)]
theorem qOk_at (h : Q[i]? = some x) : qOk st Q i = (qSt st (qLv st Q i) x && !(Q.take i).contains x) := by
  unfold qOk; rw [h]
theorem qlv_range {ls : List Int} {k : Int} (h : 0 ≤ qlv st ls k) : 0 ≤ k ∧ k < st + ls.length := by
  unfold qlv at h
  by_cases e : k < 0 ∨ st + ls.length ≤ k
  · rw [if_pos e] at h; omega
  · omega
theorem qlv_out {ls : List Int} {k : Int} (h : k < 0 ∨ st + ls.length ≤ k) : qlv st ls k = -1 := by unfold qlv; rw [if_pos h]
theorem qlv_leaf {ls : List Int} {k : Int} (h0 : 0 ≤ k) (h : k < st) : qlv st ls k = 0 := by
  unfold qlv; rw [if_neg (by omega), if_pos h]
theorem qlv_node {ls : List Int} {k : Int} {j : Nat} {v : Int} (hk : k = st + j) (hs : 0 ≤ st) (hj : ls[j]? = some v) : qlv st ls k = v := by
  have hl : j < ls.length := by
    rcases Nat.lt_or_ge j ls.length with h | h
    · exact h
    · rw [List.getElem?_eq_none h] at hj; cases hj
  unfold qlv
  rw [if_neg (by omega), if_neg (by omega)]
  have : (k - st).toNat = j := by omega
  rw [this, List.getD_eq_getElem?_getD, hj]; rfl
/-- The numbers in a valid store. -/
theorem qR_kids (h : qR st Q = true) (hx : Q[i]? = some x) : (0 ≤ x.1 ∧ x.1 < st + i) ∧ (0 ≤ x.2.1 ∧ x.2.1 < st + i) ∧ (0 ≤ x.2.2.1 ∧ x.2.2.1 < st + i) ∧ (0 ≤ x.2.2.2 ∧ x.2.2.2 < st + i) := by
  have h1 := (qR_parts h).2.2 i
  rw [qOk_at hx, Bool.and_eq_true] at h1
  have h2 := h1.1
  unfold qSt at h2
  rw [decide_eq_true_eq] at h2
  obtain ⟨k1, k2, k3, k4, k5⟩ := h2
  have hl := qLv_len (st := st) (Q := Q) i
  have a1 := qlv_range k1
  have a2 := qlv_range (k := x.2.1) (ls := qLv st Q i) (st := st) (by omega)
  have a3 := qlv_range (k := x.2.2.1) (ls := qLv st Q i) (st := st) (by omega)
  have a4 := qlv_range (k := x.2.2.2) (ls := qLv st Q i) (st := st) (by omega)
  rw [hl] at a1 a2 a3 a4
  exact ⟨a1, a2, a3, a4⟩
end
end Go.Proofs.YtmenokhnanghgaaGreat
end
section
namespace Go.Proofs.YtmenokhnanghgaaGreat
open Go Go.RowKit
section
variable {bs : List Bool} {p q : Nat} {kind : Nat}
theorem rd_pk (T : List Bool) : RdB (unB (pkB T)) 0 T T.length := by
  have h := un_pk T
  refine ⟨by omega, by rw [h, List.length_append]; omega, ?_⟩
  rw [List.drop_zero]
  conv => lhs; rw [h]
  rw [h, List.drop_left]
theorem rd_back {data : List Int} {T : List Bool} (hd : ∀ x ∈ data, 0 ≤ x ∧ x ≤ 255) (h : RdB (unB data) 0 T q) (he : endR (unB data) (q, 0) = true) : pkB T = data ∧ T.length ≤ 8 * data.length := by
  unfold endR at he
  rw [Bool.and_eq_true, decide_eq_true_eq] at he
  have h3 := h.2.2
  rw [List.drop_zero] at h3
  have hq := h.1
  have hT : (unB data).take q = T := by
    rw [h3, hq]; simp
  have hle := h.2.1
  have hz := all_false he.2
  rw [List.length_drop] at hz
  have := pk_un hd hle he.1 hz
  rw [hT] at this
  refine ⟨this, ?_⟩
  rw [← unB_len]; omega
theorem opn_go (h : RdB bs 0 (hdB kind) q) (hk : kind < 16) : opnR bs (kind : Int) = (q, 0) := by
  unfold hdB at h
  obtain ⟨m, h1, h2⟩ := h.split
  unfold opnR
  rw [bits_go h1 (by omega)]
  simp only
  rw [bits_go h2 (by omega)]
  simp only
  rw [if_neg (by simp)]
theorem opn_bk (h : (opnR bs (kind : Int)).2 = 0) : ∃ q, opnR bs (kind : Int) = (q, 0) ∧ RdB bs 0 (hdB kind) q := by
  unfold opnR at h ⊢
  by_cases hc : (bitsR bs 4 (bitsR bs 4 (0, 0)).2).2.2 = 0 ∧ ¬ ((bitsR bs 4 (0, 0)).1 = kind ∧ (bitsR bs 4 (bitsR bs 4 (0, 0)).2).1 = 1)
  · rw [if_pos hc] at h; exact absurd h (show ¬ (3 : Int) = 0 by decide)
  · rw [if_neg hc] at h ⊢
    have h0 := bits_ok h
    have hcc : (bitsR bs 4 (0, 0)).1 = kind ∧ (bitsR bs 4 (bitsR bs 4 (0, 0)).2).1 = 1 := by
      by_cases k : (bitsR bs 4 (0, 0)).1 = kind ∧ (bitsR bs 4 (bitsR bs 4 (0, 0)).2).1 = 1
      · exact k
      · exact absurd ⟨h, k⟩ hc
    obtain ⟨a, q1, e1, ha, r1⟩ := bits_bk h0 (Nat.zero_le _)
    rw [e1] at h hcc ⊢
    simp only at h hcc ⊢
    obtain ⟨b, q2, e2, hb, r2⟩ := bits_bk h r1.le
    rw [e2] at hcc ⊢
    simp only at hcc ⊢
    have ea : a = kind := by omega
    have eb : b = 1 := by omega
    rw [ea] at r1
    rw [eb] at r2
    exact ⟨q2, rfl, r1.trans r2⟩
theorem cellsC_go {l : List Cel} (hr : rightC l = true) (h : RdB bs p (lstB psC cdC l) q) : clsP bs (tkC bs) (p, 0) = ((l, prvL psC l l.length), q, 0) := by
  have hs := rightC_sorted hr
  refine cls_go h (by have := (rightC_ok hr).1; omega) (fun a ha p q h1 => ?_) (fun i a hi => ?_) (fun i a b ha hb => ?_)
  · obtain ⟨i, hi, rfl⟩ := List.getElem_of_mem ha
    have := rightC_elem hr (x := l[i].1) (y := l[i].2.1) (s := l[i].2.2) (List.getElem?_eq_getElem hi)
    unfold cdC at h1
    unfold tkC
    rw [bits_go h1 (by omega)]
    show ((_, _, ((l[i].2.2.toNat : Nat) : Int)), _) = _
    rw [show ((l[i].2.2.toNat : Nat) : Int) = l[i].2.2 by omega]
    rfl
  · obtain ⟨x, y, s⟩ := a
    have := (rightC_elem hr hi).1
    unfold Pt at this
    show validB x y = true
    unfold validB; rw [decide_eq_true_eq]; omega
  · unfold SSC at hs
    rw [List.pairwise_iff_getElem] at hs
    have hi1 : i + 1 < l.length := by
      rcases Nat.lt_or_ge (i + 1) l.length with h | h
      · exact h
      · rw [List.getElem?_eq_none h] at hb; cases hb
    rw [List.getElem?_eq_getElem (by omega)] at ha hb
    injection ha with ha
    injection hb with hb
    have := hs i (i + 1) (by omega) hi1 (by omega)
    rw [ha, hb] at this
    exact this
theorem cellsG_go {l : List Chg} (hr : rightG l = true) (h : RdB bs p (lstB psG cdG l) q) : clsP bs (tkG bs) (p, 0) = ((l, prvL psG l l.length), q, 0) := by
  have hs := rightG_sorted hr
  refine cls_go h (by have := (rightG_ok hr).1; omega) (fun a ha p q h1 => ?_) (fun i a hi => ?_) (fun i a b ha hb => ?_)
  · obtain ⟨i, hi, rfl⟩ := List.getElem_of_mem ha
    have := rightG_elem hr (x := l[i].1) (y := l[i].2.1) (f := l[i].2.2.1) (t := l[i].2.2.2) (List.getElem?_eq_getElem hi)
    unfold cdG at h1
    obtain ⟨m, k1, k2⟩ := h1.split
    unfold tkG
    rw [bits_go k1 (by omega)]
    simp only
    rw [bits_go k2 (by omega)]
    show ((_, _, ((l[i].2.2.1.toNat : Nat) : Int), ((l[i].2.2.2.toNat : Nat) : Int)), _) = _
    rw [show ((l[i].2.2.1.toNat : Nat) : Int) = l[i].2.2.1 by omega, show ((l[i].2.2.2.toNat : Nat) : Int) = l[i].2.2.2 by omega]
    rfl
  · obtain ⟨x, y, s, t⟩ := a
    have := (rightG_elem hr hi).1
    unfold Pt at this
    show validB x y = true
    unfold validB; rw [decide_eq_true_eq]; omega
  · have hi1 : i + 1 < l.length := by
      rcases Nat.lt_or_ge (i + 1) l.length with h | h
      · exact h
      · rw [List.getElem?_eq_none h] at hb; cases hb
    unfold SSG at hs
    rw [List.pairwise_iff_getElem] at hs
    rw [List.getElem?_eq_getElem (by omega)] at ha hb
    injection ha with ha
    injection hb with hb
    have := hs i (i + 1) (by omega) hi1 (by omega)
    rw [ha, hb] at this
    exact this
theorem cellsC_bk (h : (clsP bs (tkC bs) (p, 0)).2.2 = 0) (hp : p ≤ bs.length) : ∃ l pr q, clsP bs (tkC bs) (p, 0) = ((l, pr), q, 0) ∧ RdB bs p (lstB psC cdC l) q := by
  refine cls_bk (tkC_ok bs) h hp (fun x y p hp h1 => ?_)
  unfold tkC at h1 ⊢
  obtain ⟨v, q, e1, hv, r1⟩ := bits_bk h1 hp
  rw [e1]
  exact ⟨_, _, rfl, rfl, by unfold cdC; simpa using r1⟩
theorem cellsG_bk (h : (clsP bs (tkG bs) (p, 0)).2.2 = 0) (hp : p ≤ bs.length) : ∃ l pr q, clsP bs (tkG bs) (p, 0) = ((l, pr), q, 0) ∧ RdB bs p (lstB psG cdG l) q := by
  refine cls_bk (tkG_ok bs) h hp (fun x y p hp h1 => ?_)
  unfold tkG at h1 ⊢
  have h0 := bits_ok h1
  obtain ⟨v, q, e1, hv, r1⟩ := bits_bk h0 hp
  rw [e1] at h1 ⊢
  simp only at h1 ⊢
  obtain ⟨v2, q2, e2, hv2, r2⟩ := bits_bk h1 r1.le
  rw [e2]
  exact ⟨_, _, rfl, rfl, by unfold cdG; simpa using r1.trans r2⟩
theorem cloR_yes {s : RS} {r : Bool} (h : s.2 = 0) (he : endR bs s = true) (hr : r = true) : cloR bs s r = 0 := by
  unfold cloR; rw [if_pos h, if_pos ⟨he, hr⟩]
theorem pat_back {l : List Cel} (hr : rightC l = true) : tpE (unB (pkB (patB l))) = 0 ∧ tpL (unB (pkB (patB l))) = l := by
  have h := rd_pk (patB l)
  have he := end_pk (T := patB l)
  obtain ⟨bs, hbs⟩ : ∃ bs, bs = unB (pkB (patB l)) := ⟨_, rfl⟩
  rw [← hbs] at h he ⊢
  have h' := h
  unfold patB at h'
  obtain ⟨m, h1, h2⟩ := h'.split
  have e1 := opn_go h1 (by omega)
  have e2 := cellsC_go hr h2
  have e3 : tpS bs = ((l, prvL psC l l.length), (patB l).length, 0) := by
    unfold tpS
    rw [show opnR bs 1 = (m, 0) from e1]
    exact e2
  have hE : tpE bs = 0 := by
    unfold tpE
    rw [e3]
    exact cloR_yes rfl he hr
  refine ⟨hE, ?_⟩
  unfold tpL
  rw [if_pos hE, e3]
theorem pat_form {data : List Int} (hd : ∀ x ∈ data, 0 ≤ x ∧ x ≤ 255) (h : tpE (unB data) = 0) : rightC (tpL (unB data)) = true ∧ pkB (patB (tpL (unB data))) = data ∧ (patB (tpL (unB data))).length ≤ 8 * data.length := by
  have hL : tpL (unB data) = (tpS (unB data)).1.1 := by unfold tpL; rw [if_pos h]
  rw [hL]
  unfold tpE at h
  obtain ⟨h1, h2, h3⟩ := cloR_ok h
  refine ⟨h3, ?_⟩
  unfold tpS at h1
  have h0 := gam_ok (lpR_ok h1)
  obtain ⟨q0, e0, r0⟩ := opn_bk (kind := 1) h0
  rw [show opnR (unB data) 1 = (q0, 0) from e0] at h1
  obtain ⟨l, pr, q, e1, r1⟩ := cellsC_bk h1 r0.le
  have e3 : tpS (unB data) = ((l, pr), q, 0) := by
    unfold tpS; rw [show opnR (unB data) 1 = (q0, 0) from e0]; exact e1
  rw [e3] at h2 ⊢
  exact rd_back hd (r0.trans r1) h2
theorem gms_go {l : List Int} (hl : ∀ x ∈ l, 0 ≤ x ∧ x < 9223372036854775808) (h : RdB bs p (gmsB l) q) (n : Nat) (hn : l.length = n) : gmsR bs (p, 0) n = (l, q, 0) := by
  have key : ∀ k, k ≤ l.length → ∀ q, RdB bs p (gmsB (l.take k)) q → gmsR bs (p, 0) k = (l.take k, q, 0) := by
    intro k
    induction k with
    | zero =>
      intro _ q h
      have := h.1
      simp [gmsB] at this
      rw [this]; rfl
    | succ k ih =>
      intro hk q h
      obtain ⟨a, ha⟩ : ∃ a, l[k]? = some a := ⟨_, List.getElem?_eq_getElem (by omega)⟩
      have e : l.take (k + 1) = l.take k ++ [a] := by rw [List.take_add_one, ha]; rfl
      have e2 : gmsB (l.take (k + 1)) = gmsB (l.take k) ++ gamB a.toNat := by
        rw [e]; unfold gmsB; rw [List.flatMap_append]; simp
      rw [e2] at h
      obtain ⟨m, h1, h2⟩ := h.split
      have hx := hl a (List.mem_of_getElem? ha)
      rw [gmsR, ih (by omega) m h1]
      simp only
      rw [gam_go h2 (by omega), e]
      simp only
      rw [show ((a.toNat : Nat) : Int) = a by omega]
  have := key n (by omega) q (by rw [List.take_of_length_le (by omega)]; exact h)
  rw [List.take_of_length_le (by omega)] at this
  exact this
theorem gms_ok {s : RS} : ∀ {k : Nat}, (gmsR bs s k).2.2 = 0 → s.2 = 0
  | 0, h => h
  | k + 1, h => gms_ok (gam_ok h)
theorem gms_bk (hp : p ≤ bs.length) : ∀ {k : Nat}, (gmsR bs (p, 0) k).2.2 = 0 → ∃ l q, gmsR bs (p, 0) k = (l, q, 0) ∧ l.length = k ∧ RdB bs p (gmsB l) q
  | 0, h => ⟨[], p, rfl, rfl, RdB.nil hp⟩
  | k + 1, h => by
    rw [gmsR] at h ⊢
    simp only at h ⊢
    obtain ⟨l, m, e1, hl, r1⟩ := gms_bk hp (k := k) (gam_ok h)
    rw [e1] at h ⊢
    simp only at h ⊢
    obtain ⟨n, q, e2, hn, r2⟩ := gam_bk h r1.le
    rw [e2]
    refine ⟨l ++ [(n : Int)], q, rfl, by rw [List.length_append, hl]; rfl, ?_⟩
    have : gmsB (l ++ [(n : Int)]) = gmsB l ++ gamB n := by unfold gmsB; rw [List.flatMap_append]; simp
    rw [this]
    exact r1.trans r2
theorem trR_bounds {st : Int} {H : List (Int × Int)} {N : List Nd} (h : trR st H N = true) : (2 ≤ st ∧ st ≤ 8) ∧ H.length ≤ 25 ∧ (∀ o ∈ H, (-2 ≤ o.1 ∧ o.1 ≤ 2) ∧ -2 ≤ o.2 ∧ o.2 ≤ 2) ∧ N.length ≤ 4096 ∧ ∀ x ∈ N, (1 ≤ x.1 ∧ x.1 ≤ 25) ∧ (x.2.length : Int) = st ∧ ∀ k ∈ x.2, 0 ≤ k ∧ k ≤ 4096 := by
  obtain ⟨h1, h2, h3, h4, h5⟩ := trR_parts h
  have hH : H.length ≤ 25 ∧ ∀ o ∈ H, (-2 ≤ o.1 ∧ o.1 ≤ 2) ∧ -2 ≤ o.2 ∧ o.2 ≤ 2 := by
    unfold rightL at h2
    rw [Bool.and_eq_true, decide_eq_true_eq, List.all_eq_true] at h2
    refine ⟨h2.1.2, fun o ho => ?_⟩
    obtain ⟨i, hi, rfl⟩ := List.getElem_of_mem ho
    have := h2.2 i (by simpa using hi)
    unfold okAt at this
    rw [List.getElem?_eq_getElem hi] at this
    simp only [Bool.and_eq_true] at this
    have k1 := this.1.1
    have k2 := this.1.2
    unfold inR at k1 k2
    simp only [decide_eq_true_eq] at k1 k2
    exact ⟨k1, k2⟩
  refine ⟨h1, hH.1, hH.2, h3.2, fun x hx => ?_⟩
  obtain ⟨i, hi, rfl⟩ := List.getElem_of_mem hx
  obtain ⟨k1, k2, k3, k4⟩ := ndOk_parts (h5 i hi) (List.getElem?_eq_getElem hi)
  refine ⟨⟨k1, by have := hH.1; omega⟩, k3, fun k hk => ?_⟩
  obtain ⟨j, hj, rfl⟩ := List.getElem_of_mem hk
  have := k4 j _ (List.getElem?_eq_getElem hj)
  unfold nxOk at this
  simp only [Bool.and_eq_true, Bool.or_eq_true, decide_eq_true_eq] at this
  omega
theorem nd_go {st : Int} {N : List Nd} (hN : ∀ x ∈ N, (1 ≤ x.1 ∧ x.1 ≤ 25) ∧ (x.2.length : Int) = st ∧ ∀ k ∈ x.2, 0 ≤ k ∧ k ≤ 4096) (h : RdB bs p (N.flatMap ndB) q) : lpR (ndR bs st.toNat) N.length 0 [] (p, 0) = (N, q, 0) := by
  refine lps_go h (fun i a m p q ha h1 => ?_) _ rfl
  obtain ⟨⟨k1, k2⟩, k3, k4⟩ := hN a ha
  unfold ndB at h1
  obtain ⟨r, h2, h3⟩ := h1.split
  unfold ndR
  rw [gam_go h2 (by omega)]
  simp only
  rw [gms_go (fun x hx => by have := k4 x hx; omega) h3 _ (by omega)]
  simp only
  rw [show ((a.1.toNat : Nat) : Int) = a.1 by omega]
theorem hd_go {H : List (Int × Int)} (hH : ∀ o ∈ H, (-2 ≤ o.1 ∧ o.1 ≤ 2) ∧ -2 ≤ o.2 ∧ o.2 ≤ 2) (h : RdB bs p (H.flatMap pt3B) q) : lpR (hdR bs) H.length 0 [] (p, 0) = (H, q, 0) := by
  refine lps_go h (fun i a m p q ha h1 => ?_) _ rfl
  have k := hH a ha
  unfold pt3B at h1
  obtain ⟨r, h2, h3⟩ := h1.split
  unfold hdR
  rw [bits_go h2 (by omega)]
  simp only
  rw [bits_go h3 (by omega)]
  simp only
  rw [show (((a.1 + 2).toNat : Nat) : Int) - 2 = a.1 by omega, show (((a.2 + 2).toNat : Nat) : Int) - 2 = a.2 by omega]
theorem tre_back {st : Int} {H : List (Int × Int)} {N : List Nd} (hr : trR st H N = true) : ttE (unB (pkB (treB st H N))) = 0 ∧ ttS (unB (pkB (treB st H N))) = st ∧ (ttH (unB (pkB (treB st H N)))).1 = H ∧ (ttN (unB (pkB (treB st H N)))).1 = N := by
  obtain ⟨b1, b2, b3, b4, b5⟩ := trR_bounds hr
  have h := rd_pk (treB st H N)
  have he := end_pk (T := treB st H N)
  obtain ⟨bs, hbs⟩ : ∃ bs, bs = unB (pkB (treB st H N)) := ⟨_, rfl⟩
  rw [← hbs] at h he ⊢
  have h' := h
  unfold treB at h'
  obtain ⟨m1, h', r6⟩ := h'.split
  obtain ⟨m2, h', r5⟩ := h'.split
  obtain ⟨m3, h', r4⟩ := h'.split
  obtain ⟨m4, h', r3⟩ := h'.split
  obtain ⟨m5, r1, r2⟩ := h'.split
  have e1 := opn_go r1 (by omega)
  have e2 := bits_go r2 (by omega)
  have e3 := gam_go r3 (by omega)
  have e4 := hd_go b3 r4
  have e5 := gam_go r5 (by omega)
  have e6 := nd_go b5 r6
  have eS : ttS bs = st := by
    unfold ttS
    rw [show opnR bs 2 = (m5, 0) from e1, e2]
    simp only; omega
  have eH : ttH bs = (H, m2, 0) := by
    unfold ttH
    rw [show opnR bs 2 = (m5, 0) from e1, e2]
    simp only
    rw [e3]
    simp only [Int.toNat_natCast]
    exact e4
  have eN : ttN bs = (N, (treB st H N).length, 0) := by
    unfold ttN
    rw [eH, eS]
    simp only
    rw [e5]
    simp only [Int.toNat_natCast]
    exact e6
  refine ⟨?_, eS, by rw [eH], by rw [eN]⟩
  unfold ttE
  rw [eN, eS, eH]
  exact cloR_yes rfl he hr
theorem tre_form {data : List Int} (hd : ∀ x ∈ data, 0 ≤ x ∧ x ≤ 255) (h : ttE (unB data) = 0) : trR (ttS (unB data)) (ttH (unB data)).1 (ttN (unB data)).1 = true ∧ pkB (treB (ttS (unB data)) (ttH (unB data)).1 (ttN (unB data)).1) = data ∧ (treB (ttS (unB data)) (ttH (unB data)).1 (ttN (unB data)).1).length ≤ 8 * data.length := by
  unfold ttE at h
  obtain ⟨h1, h2, h3⟩ := cloR_ok h
  refine ⟨h3, ?_⟩
  obtain ⟨bs, hbs⟩ : ∃ bs, bs = unB data := ⟨_, rfl⟩
  rw [← hbs] at h1 h2 h3 ⊢
  unfold ttN at h1
  have h4 := gam_ok (lpR_ok h1)
  unfold ttH at h4
  have h5 := gam_ok (lpR_ok h4)
  have h6 := bits_ok h5
  obtain ⟨q0, e0, r0⟩ := opn_bk (kind := 2) h6
  have e0' : opnR bs 2 = (q0, 0) := e0
  rw [e0'] at h5
  obtain ⟨v, q1, e1, hv, r1⟩ := bits_bk h5 r0.le
  have h4' := lpR_ok h4
  rw [e0', e1] at h4 h4'
  simp only at h4 h4'
  obtain ⟨n, q2, e2, hn, r2⟩ := gam_bk h4' r1.le
  rw [e2] at h4
  simp only at h4
  obtain ⟨H, q3, e3, hH, r3⟩ := lps_bk (T := pt3B) h4 r2.le (fun i m p hp k => by
    unfold hdR at k ⊢
    simp only at k ⊢
    have k0 := bits_ok k
    obtain ⟨v, q, e, hv, r⟩ := bits_bk k0 hp
    rw [e] at k ⊢
    simp only at k ⊢
    obtain ⟨v2, q', e', hv', r'⟩ := bits_bk k r.le
    rw [e']
    refine ⟨_, _, rfl, ?_⟩
    unfold pt3B
    simp only
    rw [show ((v : Int) - 2 + 2).toNat = v by omega, show ((v2 : Int) - 2 + 2).toNat = v2 by omega]
    exact r.trans r')
  have eS : ttS bs = (v : Int) + 1 := by unfold ttS; rw [e0', e1]
  have eH : ttH bs = (H, q3, 0) := by
    unfold ttH
    rw [e0', e1]; simp only
    rw [e2]; simp only
    exact e3
  have h1' := lpR_ok h1
  rw [eH] at h1 h1'
  simp only at h1 h1'
  obtain ⟨n2, q4, e4, hn2, r4⟩ := gam_bk h1' r3.le
  rw [e4] at h1
  simp only at h1
  obtain ⟨N, q5, e5, hN, r5⟩ := lps_bk (T := ndB) h1 r4.le (fun i m p hp k => by
    unfold ndR at k ⊢
    simp only at k ⊢
    have k0 := gms_ok k
    obtain ⟨v, q, e, hv, r⟩ := gam_bk k0 hp
    rw [e] at k ⊢
    simp only at k ⊢
    obtain ⟨l, q', e', hl, r'⟩ := gms_bk r.le k
    rw [e']
    refine ⟨_, _, rfl, ?_⟩
    unfold ndB
    simp only [Int.toNat_natCast]
    exact r.trans r')
  have eN : ttN bs = (N, q5, 0) := by
    unfold ttN
    rw [eH]; simp only
    rw [e4]; simp only
    exact e5
  rw [eN] at h2
  rw [eS, eH, eN]
  rw [hbs] at h2 r0 r1 r2 r3 r4 r5
  refine rd_back hd ?_ h2
  unfold treB
  rw [show ((v : Int) + 1 - 1).toNat = v by omega, hH, hN]
  simp only [Int.toNat_natCast]
  exact ((((r0.trans r1).trans r2).trans r3).trans r4).trans r5
theorem qds_back {st : Int} {Q : List Qd} (hr : qR st Q = true) : (tqN (unB (pkB (qdsB st Q)))).2.2 = 0 ∧ cloR (unB (pkB (qdsB st Q))) (tqN (unB (pkB (qdsB st Q)))).2 (qR (tqS (unB (pkB (qdsB st Q)))) (tqN (unB (pkB (qdsB st Q)))).1) = 0 ∧ tqS (unB (pkB (qdsB st Q))) = st ∧ (tqN (unB (pkB (qdsB st Q)))).1 = Q := by
  obtain ⟨b1, b2, _⟩ := qR_parts hr
  have h := rd_pk (qdsB st Q)
  have he := end_pk (T := qdsB st Q)
  obtain ⟨bs, hbs⟩ : ∃ bs, bs = unB (pkB (qdsB st Q)) := ⟨_, rfl⟩
  rw [← hbs] at h he ⊢
  have h' := h
  unfold qdsB at h'
  obtain ⟨m1, h', r4⟩ := h'.split
  obtain ⟨m2, h', r3⟩ := h'.split
  obtain ⟨m3, r1, r2⟩ := h'.split
  have e1 := opn_go r1 (by omega)
  have e2 := bits_go r2 (by omega)
  have e3 := gam_go r3 (by omega)
  have eS : tqS bs = st := by
    unfold tqS
    rw [show opnR bs 3 = (m3, 0) from e1, e2]
    simp only; omega
  have e4 : lpR (qdR bs) Q.length 0 [] (m1, 0) = (Q, (qdsB st Q).length, 0) := by
    refine lps_go r4 (fun i a m p q ha h1 => ?_) _ rfl
    obtain ⟨j, hj, rfl⟩ := List.getElem_of_mem ha
    obtain ⟨k1, k2, k3, k4⟩ := qR_kids hr (List.getElem?_eq_getElem hj)
    unfold qdB at h1
    obtain ⟨r, h1, h5⟩ := h1.split
    obtain ⟨r, h1, h4⟩ := h1.split
    obtain ⟨r, h2, h3⟩ := h1.split
    unfold qdR
    rw [gam_go h2 (by omega)]
    simp only
    rw [gam_go h3 (by omega)]
    simp only
    rw [gam_go h4 (by omega)]
    simp only
    rw [gam_go h5 (by omega)]
    simp only
    rw [show ((Q[j].1.toNat : Nat) : Int) = Q[j].1 by omega, show ((Q[j].2.1.toNat : Nat) : Int) = Q[j].2.1 by omega, show ((Q[j].2.2.1.toNat : Nat) : Int) = Q[j].2.2.1 by omega, show ((Q[j].2.2.2.toNat : Nat) : Int) = Q[j].2.2.2 by omega]
  have eN : tqN bs = (Q, (qdsB st Q).length, 0) := by
    unfold tqN
    rw [show opnR bs 3 = (m3, 0) from e1, e2]
    simp only
    rw [e3]
    simp only [Int.toNat_natCast]
    exact e4
  refine ⟨by rw [eN], ?_, eS, by rw [eN]⟩
  rw [eN, eS]
  exact cloR_yes rfl he hr
theorem tim_back {key : Int} {fs : List TFr} (hr : tlB key fs = true) : tmE (unB (pkB (timB key fs))) = 0 ∧ (tmK (unB (pkB (timB key fs)))).1 = key ∧ (tmF (unB (pkB (timB key fs)))).1 = fs := by
  obtain ⟨K, hK, hK1, hK2, hlen, hok⟩ := tlB_ok hr
  have h := rd_pk (timB key fs)
  have he := end_pk (T := timB key fs)
  obtain ⟨bs, hbs⟩ : ∃ bs, bs = unB (pkB (timB key fs)) := ⟨_, rfl⟩
  rw [← hbs] at h he ⊢
  have h' := h
  unfold timB at h'
  obtain ⟨m1, h', r4⟩ := h'.split
  obtain ⟨m2, h', r3⟩ := h'.split
  obtain ⟨m3, r1, r2⟩ := h'.split
  have e1 := opn_go r1 (by omega)
  have e2 := gam_go r2 (by omega)
  have e3 := gam_go r3 (by omega)
  have eK : tmK bs = (key, m2, 0) := by
    unfold tmK
    rw [show opnR bs 4 = (m3, 0) from e1, e2, show ((key.toNat : Nat) : Int) = key by omega]
  have e4 : lpR (frP bs) fs.length 0 [] (m1, 0) = (fs, (timB key fs).length, 0) := by
    refine lps_go r4 (fun i a m p q ha h1 => ?_) _ rfl
    obtain ⟨j, hj, rfl⟩ := List.getElem_of_mem ha
    obtain ⟨⟨g, fu, C, D⟩, hf⟩ : ∃ f, fs[j] = f := ⟨_, rfl⟩
    have hf' : fs[j]? = some (g, fu, C, D) := by rw [List.getElem?_eq_getElem hj, hf]
    rw [hf] at h1 ⊢
    obtain ⟨k1, k2, k3, k4, k5⟩ := (okT_iff hf').1 (hok j)
    have hg0 : 0 ≤ g := by
      have : ∀ j, -1 ≤ lastG fs j := by
        intro j
        induction j with
        | zero => exact Int.le_refl _
        | succ j ih =>
          show -1 ≤ (match fs[j]? with | none => -1 | some f => f.1)
          cases hq : fs[j]? with
          | none => exact Int.le_refl _
          | some f =>
            obtain ⟨g2, fu2, C2, D2⟩ := f
            have := ((okT_iff hq).1 (hok j)).1
            simp only; omega
      have := this j
      omega
    unfold frB at h1
    obtain ⟨r, h2, h3⟩ := h1.split
    unfold frP
    simp only at h2 h3
    rw [gam_go h2 (by omega)]
    simp only
    cases fu with
    | true =>
      rw [if_pos rfl] at h3
      obtain ⟨r2, h4, h5⟩ := h3.split
      rw [bits_go h4 (by omega)]
      simp only
      rw [if_pos (by rfl), cellsC_go (k4 rfl).1 h5, (k4 rfl).2]
      simp only
      rw [show ((g.toNat : Nat) : Int) = g by omega]
    | false =>
      rw [if_neg (by simp)] at h3
      obtain ⟨r2, h4, h5⟩ := h3.split
      rw [bits_go h4 (by omega)]
      simp only
      rw [if_neg (by simp), cellsG_go (apE_right (k5 rfl).1).2.1 h5, (k5 rfl).2]
      simp only
      rw [show ((g.toNat : Nat) : Int) = g by omega]
  have eF : tmF bs = (fs, (timB key fs).length, 0) := by
    unfold tmF
    rw [eK]
    simp only
    rw [e3]
    simp only [Int.toNat_natCast]
    exact e4
  refine ⟨?_, by rw [eK], by rw [eF]⟩
  unfold tmE
  rw [eF, eK]
  exact cloR_yes rfl he hr
theorem tim_form {data : List Int} (hd : ∀ x ∈ data, 0 ≤ x ∧ x ≤ 255) (h : tmE (unB data) = 0) : tlB (tmK (unB data)).1 (tmF (unB data)).1 = true ∧ pkB (timB (tmK (unB data)).1 (tmF (unB data)).1) = data ∧ (timB (tmK (unB data)).1 (tmF (unB data)).1).length ≤ 8 * data.length := by
  unfold tmE at h
  obtain ⟨h1, h2, h3⟩ := cloR_ok h
  refine ⟨h3, ?_⟩
  obtain ⟨bs, hbs⟩ : ∃ bs, bs = unB data := ⟨_, rfl⟩
  rw [← hbs] at h1 h2 h3 ⊢
  unfold tmF at h1
  have h4 := gam_ok (lpR_ok h1)
  unfold tmK at h4
  have h5 := gam_ok h4
  obtain ⟨q0, e0, r0⟩ := opn_bk (kind := 4) h5
  have e0' : opnR bs 4 = (q0, 0) := e0
  rw [e0'] at h4
  obtain ⟨v, q1, e1, hv, r1⟩ := gam_bk h4 r0.le
  have eK : tmK bs = ((v : Int), q1, 0) := by unfold tmK; rw [e0', e1]
  have h1' := lpR_ok h1
  rw [eK] at h1 h1'
  simp only at h1 h1'
  obtain ⟨n, q2, e2, hn, r2⟩ := gam_bk h1' r1.le
  rw [e2] at h1
  simp only at h1
  obtain ⟨fs, q3, e3, hfs, r3⟩ := lps_bk (T := frB) h1 r2.le (fun i m p hp k => by
    unfold frP at k ⊢
    by_cases hc : (bitsR bs 1 (gamR bs (p, 0)).2).1 = 1
    · rw [if_pos hc] at k ⊢
      simp only at k ⊢
      have k1 : (bitsR bs 1 (gamR bs (p, 0)).2).2.2 = 0 := gam_ok (lpR_ok k)
      have k0 := gam_ok (bits_ok k1)
      obtain ⟨g, q, e, hv, r⟩ := gam_bk (bits_ok k1) hp
      rw [e] at k k1 hc ⊢
      simp only at k k1 hc ⊢
      obtain ⟨b, q', e', hb, r'⟩ := bits_bk k1 r.le
      rw [e'] at k hc ⊢
      simp only at k hc ⊢
      obtain ⟨l, pr, q'', e'', r''⟩ := cellsC_bk k r'.le
      rw [e'']
      refine ⟨_, _, rfl, ?_⟩
      unfold frB
      simp only [Int.toNat_natCast, if_true]
      have : b = 1 := by omega
      rw [this] at r'
      exact r.trans (r'.trans r'')
    · rw [if_neg hc] at k ⊢
      simp only at k ⊢
      have k1 : (bitsR bs 1 (gamR bs (p, 0)).2).2.2 = 0 := gam_ok (lpR_ok k)
      obtain ⟨g, q, e, hv, r⟩ := gam_bk (bits_ok k1) hp
      rw [e] at k k1 hc ⊢
      simp only at k k1 hc ⊢
      obtain ⟨b, q', e', hb, r'⟩ := bits_bk k1 r.le
      rw [e'] at k hc ⊢
      simp only at k hc ⊢
      obtain ⟨l, pr, q'', e'', r''⟩ := cellsG_bk k r'.le
      rw [e'']
      refine ⟨_, _, rfl, ?_⟩
      unfold frB
      simp only [Int.toNat_natCast, Bool.false_eq_true, if_false]
      have : b = 0 := by omega
      rw [this] at r'
      exact r.trans (r'.trans r''))
  have eF : tmF bs = (fs, q3, 0) := by
    unfold tmF
    rw [eK]; simp only
    rw [e2]; simp only
    exact e3
  rw [eF] at h2
  rw [eF, eK]
  rw [hbs] at h2 r0 r1 r2 r3
  refine rd_back hd ?_ h2
  unfold timB
  simp only [Int.toNat_natCast]
  rw [hfs]
  simp only [Int.toNat_natCast]
  exact ((r0.trans r1).trans r2).trans r3
end
end Go.Proofs.YtmenokhnanghgaaGreat
end
section
namespace Go.Proofs.YtmenokhnanghgaaGreat
open Go
/-- What a writer holds, and says, when it is handed some bits. -/
def wrT (T X : List Bool) : List Bool := if T.length + X.length ≤ 524288 then T ++ X else T
def wrE (T X : List Bool) : Int := if T.length + X.length ≤ 524288 then 0 else 6
section
variable {T X : List Bool}
theorem wr_fits (h : T.length + X.length ≤ 524288) : wrT T X = T ++ X ∧ wrE T X = 0 := by unfold wrT wrE; rw [if_pos h, if_pos h]; exact ⟨rfl, rfl⟩
theorem wr_full (h : ¬ T.length + X.length ≤ 524288) : wrT T X = T ∧ wrE T X = 6 := by unfold wrT wrE; rw [if_neg h, if_neg h]; exact ⟨rfl, rfl⟩
end
/-- A writer's state when the bits X have been handed to it. -/
def Wst (T : List Bool) (e : Int) (X : List Bool) : Prop := (X.length ≤ 524288 → T = X ∧ e = 0) ∧ (524288 < X.length → e = 6)
section
variable {T X Y : List Bool} {e : Int}
theorem Wst.nil_ : Wst [] 0 [] := ⟨fun _ => ⟨rfl, rfl⟩, fun h => absurd h (by simp)⟩
theorem Wst.step (h : Wst T 0 X) (Y : List Bool) : Wst (wrT T Y) (wrE T Y) (X ++ Y) := by
  by_cases hX : X.length ≤ 524288
  · obtain ⟨rfl, _⟩ := h.1 hX
    by_cases hf : T.length + Y.length ≤ 524288
    · obtain ⟨h1, h2⟩ := wr_fits hf
      rw [h1, h2]
      exact ⟨fun _ => ⟨rfl, rfl⟩, fun k => by rw [List.length_append] at k; omega⟩
    · obtain ⟨h1, h2⟩ := wr_full hf
      rw [h1, h2]
      exact ⟨fun k => by rw [List.length_append] at k; omega, fun _ => rfl⟩
  · have := h.2 (by omega)
    exact absurd this (by decide)
theorem Wst.stuck (h : Wst T e X) (he : e ≠ 0) (Y : List Bool) : Wst T e (X ++ Y) := by
  have hX : 524288 < X.length := by
    refine Nat.lt_of_not_le fun k => he (h.1 k).2
  exact ⟨fun k => by rw [List.length_append] at k; omega, fun _ => h.2 hX⟩
theorem Wst.end_ (h : Wst T e X) : e = endE X ∧ (e = 0 → pkB T = endL X) := by
  unfold endE endL
  by_cases hX : X.length ≤ 524288
  · rw [if_pos hX, if_pos hX]
    obtain ⟨rfl, h2⟩ := h.1 hX
    exact ⟨h2, fun _ => rfl⟩
  · rw [if_neg hX, if_neg hX]
    have := h.2 (by omega)
    exact ⟨this, fun k => by omega⟩
end
/-- A number that is written: with some bits, as a gamma code, as a signed one. -/
inductive PartV where
  | fix (v b : Nat)
  | gam (n : Nat)
  | sgn (z : Int)
def PartV.ok : PartV → Prop
  | .fix v b => b ≤ 64 ∧ v < 2 ^ b ∧ v < 9223372036854775808
  | .gam n => n < 9223372036854775808
  | .sgn z => -4611686018427387904 ≤ z ∧ z ≤ 4611686018427387903
def PartV.bits : PartV → List Bool
  | .fix v b => digB b v
  | .gam n => gamB n
  | .sgn z => sgnB z
def ptsB (l : List PartV) : List Bool := l.flatMap PartV.bits
theorem ptsB_step {l : List PartV} {j : Nat} {p : PartV} (h : l[j]? = some p) : ptsB (l.take (j + 1)) = ptsB (l.take j) ++ p.bits := by
  unfold ptsB
  rw [List.take_add_one, h, List.flatMap_append]; simp
end Go.Proofs.YtmenokhnanghgaaGreat
end
