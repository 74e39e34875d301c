/- Plain: what visiting keeps; the two maps as functions. -/
import Derived.Test.YtellglbmbocgkaaGreatDoorBldP
import Derived.Test.YtellglbmbocgkaaGreatDoorMAP
namespace Go.Proofs.YtellglbmbocgkaaGreatDoor
open Go
set_option linter.unusedSimpArgs false
set_option linter.unusedVariables false
set_option linter.unusedSimpArgs false
set_option linter.unusedVariables false
def plI (p : Pl) : Int × Int × Int := ((p.1 : Int), (p.2.1 : Int), (p.2.2 : Int))
theorem plI_inj {p q : Pl} (h : plI p = plI q) : p = q := by
  obtain ⟨a, b, c⟩ := p
  obtain ⟨a', b', c'⟩ := q
  unfold plI at h
  simp only [Prod.mk.injEq] at h ⊢
  omega
def fSn (l : List (Pl × Nat)) (x : Int × Int × Int) : Option Int := (l.find? fun y => decide (plI y.1 = x)).map fun (y : Pl × Nat) => (y.2 : Int)
theorem fSn_cons (l : List (Pl × Nat)) (p : Pl) (k : Nat) : fSn ((p, k) :: l) = putG (fSn l) (plI p) (k : Int) := by
  funext x
  unfold fSn putG
  rw [List.find?_cons]
  by_cases h : x = plI p
  · subst h; simp
  · rw [if_neg h]
    have : decide (plI (p, k).1 = x) = false := decide_eq_false (fun e => h e.symm)
    rw [this]
theorem fSn_look (l : List (Pl × Nat)) (p : Pl) : fSn l (plI p) = (lookP l p).map fun (k : Nat) => (k : Int) := by
  induction l with
  | nil => rfl
  | cons x l ih =>
    obtain ⟨q, k⟩ := x
    rw [lookP_cons, fSn_cons]
    unfold putG
    by_cases h : p = q
    · subst h; simp
    · rw [if_neg h, if_neg (fun e => h (plI_inj e)), ih]
def kyN (y : Nd2) : List UInt8 := kyS y.1 y.2.1 y.2.2
def fId (N : List Nd2) (k : List UInt8) : Option Int := (N.findIdx? fun y => decide (kyN y = k)).map fun (i : Nat) => (i : Int)
theorem kyN_inj {x y : Nd2} (h1 : x.1 ≤ 9) (h2 : y.1 ≤ 9) (h : kyN x = kyN y) : x = y := by
  obtain ⟨e1, e2, e3⟩ := kyS_inj (by omega) (by omega) h
  exact Prod.ext e1 (Prod.ext e2 e3)
def okLv (N : List Nd2) : Prop := ∀ y ∈ N, y.1 ≤ 9
theorem find_congr {α : Type} {p q : α → Bool} : ∀ {N : List α}, (∀ y ∈ N, p y = q y) → N.findIdx? p = N.findIdx? q
  | [], _ => rfl
  | y :: N, h => by
    rw [List.findIdx?_cons, List.findIdx?_cons, h y (by simp), find_congr fun z hz => h z (by simp [hz])]
theorem fId_idx {N : List Nd2} {x : Nd2} (hN : okLv N) (hx : x.1 ≤ 9) : fId N (kyN x) = (idxN N x).map fun (i : Nat) => (i : Int) := by
  unfold fId idxN
  congr 1
  refine find_congr ?_
  intro y hy
  exact decide_eq_decide.2 ⟨fun e => kyN_inj (hN y hy) hx e, fun e => by rw [e]⟩
theorem fId_snoc {N : List Nd2} {x : Nd2} (hN : okLv N) (hx : x.1 ≤ 9) (h : idxN N x = none) : fId (N ++ [x]) = putG (fId N) (kyN x) (N.length : Int) := by
  funext k
  unfold putG
  by_cases e : k = kyN x
  · subst e
    rw [if_pos rfl]
    have h0 : N.findIdx? (fun y => decide (kyN y = kyN x)) = none := by
      have h1 := fId_idx hN hx
      rw [h] at h1
      unfold fId at h1
      exact Option.map_eq_none_iff.1 h1
    unfold fId
    rw [List.findIdx?_append, h0]
    simp
  · rw [if_neg e]
    unfold fId
    rw [List.findIdx?_append]
    have : List.findIdx? (fun y => decide (kyN y = k)) [x] = none := by simp; exact fun e' => e e'.symm
    rw [this]
    cases List.findIdx? (fun y => decide (kyN y = k)) N <;> rfl
theorem idxN_lt {N : List Nd2} {x : Nd2} {k : Nat} (h : idxN N x = some k) : k < N.length := by
  unfold idxN at h
  exact (List.findIdx?_eq_some_iff_getElem.1 h).1
structure OkS (s : BSt) : Prop where
  ids : ∀ e ∈ s.1, e.2 < s.2.length
  lv : okLv s.2
theorem OkS.nil_ : OkS ([], []) := ⟨fun e h => (by cases h), fun e h => (by cases h)⟩
theorem lookP_mem {l : List (Pl × Nat)} {p : Pl} {k : Nat} (h : lookP l p = some k) : ∃ e ∈ l, e.2 = k := by
  unfold lookP at h
  cases h1 : l.find? (fun x => decide (x.1 = p)) with
  | none => rw [h1] at h; cases h
  | some e => rw [h1] at h; simp at h; exact ⟨e, List.mem_of_find?_eq_some h1, h⟩
theorem addN_ok {s : BSt} (h : OkS s) {p : Pl} {x : Nd2} (hx : x.1 ≤ 9) : OkS (addN s p x).2 ∧ s.2 <+: (addN s p x).2.2 ∧ (addN s p x).1 < (addN s p x).2.2.length := by
  unfold addN
  cases hi : idxN s.2 x with
  | some k =>
    have hk := idxN_lt hi
    refine ⟨⟨fun e he => ?_, h.lv⟩, List.prefix_refl _, hk⟩
    rcases List.mem_cons.1 he with rfl | he
    · exact hk
    · exact h.ids e he
  | none =>
    refine ⟨⟨fun e he => ?_, fun y hy => ?_⟩, List.prefix_append _ _, by simp⟩
    · rw [List.length_append]
      rcases List.mem_cons.1 he with rfl | he
      · simp
      · have := h.ids e he; simp; omega
    · rcases List.mem_append.1 hy with hy | hy
      · exact h.lv y hy
      · rw [List.mem_singleton] at hy; rw [hy]; exact hx
theorem bvS_ok : ∀ (d o c : Nat) (s : BSt), d ≤ 9 → OkS s → OkS (bvS d o c s).2 ∧ s.2 <+: (bvS d o c s).2.2 ∧ ((bvS d o c s).1 < (bvS d o c s).2.2.length ∨ (bvS d o c s).1 ≤ 1)
  | 0, o, c, s, _, h => ⟨h, List.prefix_refl _, .inr (by show endN o c ≤ 1; unfold endN; split <;> split <;> omega)⟩
  | d + 1, o, c, s, hd, h => by
    rw [bvS]
    split
    · rename_i id hl
      obtain ⟨e, he, rfl⟩ := lookP_mem hl
      exact ⟨h, List.prefix_refl _, .inl (h.ids e he)⟩
    · obtain ⟨a1, a2, _⟩ := bvS_ok d (stpO (9 - (d + 1)) o 0) (stpC (9 - (d + 1)) c 0) s (by omega) h
      obtain ⟨b1, b2, _⟩ := bvS_ok d (stpO (9 - (d + 1)) o 1) (stpC (9 - (d + 1)) c 1) (bvS d (stpO (9 - (d + 1)) o 0) (stpC (9 - (d + 1)) c 0) s).2 (by omega) a1
      obtain ⟨c1, c2, c3⟩ := addN_ok b1 (p := (9 - (d + 1), o, c)) (x := (d + 1, (bvS d (stpO (9 - (d + 1)) o 0) (stpC (9 - (d + 1)) c 0) s).1, (bvS d (stpO (9 - (d + 1)) o 1) (stpC (9 - (d + 1)) c 1) (bvS d (stpO (9 - (d + 1)) o 0) (stpC (9 - (d + 1)) c 0) s).2).1)) hd
      exact ⟨c1, (a2.trans b2).trans c2, .inl c3⟩
theorem bvS_new {d o c : Nat} {s : BSt} (h : lookP s.1 (9 - (d + 1), o, c) = none) : bvS (d + 1) o c s = addN (bvS d (stpO (9 - (d + 1)) o 1) (stpC (9 - (d + 1)) c 1) (bvS d (stpO (9 - (d + 1)) o 0) (stpC (9 - (d + 1)) c 0) s).2).2 (9 - (d + 1), o, c) (d + 1, (bvS d (stpO (9 - (d + 1)) o 0) (stpC (9 - (d + 1)) c 0) s).1, (bvS d (stpO (9 - (d + 1)) o 1) (stpC (9 - (d + 1)) c 1) (bvS d (stpO (9 - (d + 1)) o 0) (stpC (9 - (d + 1)) c 0) s).2).1) := by
  rw [bvS, h]
theorem bvS_old {d o c k : Nat} {s : BSt} (h : lookP s.1 (9 - (d + 1), o, c) = some k) : bvS (d + 1) o c s = (k, s) := by
  rw [bvS, h]
theorem addN_old {s : BSt} {p : Pl} {x : Nd2} {k : Nat} (h : idxN s.2 x = some k) : addN s p x = (k, (p, k) :: s.1, s.2) := by unfold addN; rw [h]
theorem addN_new {s : BSt} {p : Pl} {x : Nd2} (h : idxN s.2 x = none) : addN s p x = (s.2.length, (p, s.2.length) :: s.1, s.2 ++ [x]) := by unfold addN; rw [h]
theorem kyN_at (d a b : Nat) : kyN (d, a, b) = UInt8.ofNat d :: ((32 :: Lib.decDigits a) ++ (32 :: Lib.decDigits b)) := rfl
end Go.Proofs.YtellglbmbocgkaaGreatDoor
