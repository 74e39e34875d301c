/- Plain: motions, ships and shots, and shots that do not meet. No program in sight. -/
import Derived.Test.YtellglbmbocgkaaGreatDoorPLN
import Derived.Test.YtellglbmbocgkaaGreatDoorCEL
import Derived.Test.YtellglbmbocgkaaGreatDoorALB
namespace Go.Proofs.YtellglbmbocgkaaGreatDoor
open Go Go.RowKit
set_option linter.unusedSimpArgs false
set_option linter.unusedVariables false
def hdC (l : List Cel) : Cel := l.getD 0 (0, 0, 0)
theorem hdC_at {l : List Cel} {c : Cel} (h : l[0]? = some c) : hdC l = c := by unfold hdC; rw [List.getD_eq_getElem?_getD, h]; rfl
def mvX (a b : List Cel) : Int := (hdC b).1 - (hdC a).1
def mvY (a b : List Cel) : Int := (hdC b).2.1 - (hdC a).2.1
def mvO (a b : List Cel) : Bool := decide (a.length = b.length) && (decide (0 < a.length) && decide (b = a.map (mv5 (mvX a b) (mvY a b))))
theorem mvO_len {a b : List Cel} (h : a.length ≠ b.length) : mvO a b = false := by unfold mvO; rw [decide_eq_false h]; rfl
theorem mvO_nil {a b : List Cel} (h : a.length = 0) : mvO a b = false := by unfold mvO; rw [show decide (0 < a.length) = false from decide_eq_false (by omega)]; simp
theorem mvO_bad {a b : List Cel} {j : Nat} {c d : Cel} (h1 : a[j]? = some c) (h2 : b[j]? = some d) (h : d ≠ mv5 (mvX a b) (mvY a b) c) : mvO a b = false := by
  unfold mvO
  rw [show decide (b = a.map (mv5 (mvX a b) (mvY a b))) = false from decide_eq_false fun e => h ?_]
  · simp
  · have := congrArg (fun l => l[j]?) e
    simp only [List.getElem?_map, h1, h2, Option.map_some, Option.some.injEq] at this
    exact this
theorem mvO_good {a b : List Cel} {n : Nat} (h1 : a.length = n) (h2 : b.length = n) (h0 : 0 < n) (h : ∀ j c d, j < n → a[j]? = some c → b[j]? = some d → d = mv5 (mvX a b) (mvY a b) c) : mvO a b = true := by
  unfold mvO
  rw [decide_eq_true (show a.length = b.length by omega), decide_eq_true (show 0 < a.length by omega), Bool.true_and, Bool.true_and, decide_eq_true_eq]
  apply List.ext_getElem?
  intro j
  rw [List.getElem?_map]
  rcases Nat.lt_or_ge j n with hj | hj
  · have e1 : a[j]? = some (a[j]'(by omega)) := List.getElem?_eq_getElem (by omega)
    have e2 : b[j]? = some (b[j]'(by omega)) := List.getElem?_eq_getElem (by omega)
    rw [e1, e2, Option.map_some, h j _ _ hj e1 e2]
  · rw [List.getElem?_eq_none (by omega), List.getElem?_eq_none (by omega)]; rfl
abbrev Mot := Int × Int × Int
def finG (H : List (Int × Int)) (N : List (Int × List Int)) (p : List Cel) : Nat → Nat → List Cel → Int × Bool × Mot
  | 0, _, _ => (0, false, 0, 0, 0)
  | f + 1, g, q => if q.length = 0 then (0, false, 0, 0, 0) else (if stE H N q = 0 then (if mvO p (stL H N q) = true then (0, true, (g : Int), mvX p (stL H N q), mvY p (stL H N q)) else finG H N p f (g + 1) (stL H N q)) else (stE H N q, false, 0, 0, 0))
def fndF (st : Int) (H : List (Int × Int)) (N : List (Int × List Int)) (p : List Cel) (most : Int) : Int × Bool × Mot :=
  if fitE st H N p = 0 then (if 1 ≤ most ∧ most ≤ 64 then finG H N p most.toNat 1 p else (2, false, 0, 0, 0)) else (fitE st H N p, false, 0, 0, 0)
section
variable {st : Int} {H : List (Int × Int)} {N : List (Int × List Int)} {p q : List Cel} {f g : Nat} {most : Int}
theorem fin_nil (h : q.length = 0) : finG H N p f g q = (0, false, 0, 0, 0) := by
  cases f with
  | zero => rfl
  | succ f => show (if _ then _ else _) = _; rw [if_pos h]
theorem fin_err (h : q.length ≠ 0) (he : stE H N q ≠ 0) : finG H N p (f + 1) g q = (stE H N q, false, 0, 0, 0) := by
  show (if _ then _ else _) = _; rw [if_neg h, if_neg he]
theorem fin_hit (h : q.length ≠ 0) (he : stE H N q = 0) (hm : mvO p (stL H N q) = true) : finG H N p (f + 1) g q = (0, true, (g : Int), mvX p (stL H N q), mvY p (stL H N q)) := by
  show (if _ then _ else _) = _; rw [if_neg h, if_pos he, if_pos hm]
theorem fin_next (h : q.length ≠ 0) (he : stE H N q = 0) (hm : mvO p (stL H N q) = false) : finG H N p (f + 1) g q = finG H N p f (g + 1) (stL H N q) := by
  show (if _ then _ else _) = _; rw [if_neg h, if_pos he, if_neg (by rw [hm]; simp)]
theorem fnd_unfit (h : fitE st H N p ≠ 0) : fndF st H N p most = (fitE st H N p, false, 0, 0, 0) := by unfold fndF; rw [if_neg h]
theorem fnd_arg (h : fitE st H N p = 0) (hm : ¬ (1 ≤ most ∧ most ≤ 64)) : fndF st H N p most = (2, false, 0, 0, 0) := by unfold fndF; rw [if_pos h, if_neg hm]
theorem fnd_go {M : Nat} (h : fitE st H N p = 0) (h1 : 1 ≤ M) (h2 : M ≤ 64) : fndF st H N p (M : Int) = finG H N p M 1 p := by unfold fndF; rw [if_pos h, if_pos (by omega), Int.toNat_natCast]
theorem fnd_has (h : (fndF st H N p most).2.1 = true) : (1 ≤ most ∧ most ≤ 64) ∧ fitE st H N p = 0 := by
  by_cases h1 : fitE st H N p = 0
  · by_cases h2 : 1 ≤ most ∧ most ≤ 64
    · exact ⟨h2, h1⟩
    · rw [fnd_arg h1 h2] at h; cases h
  · rw [fnd_unfit h1] at h; cases h
end
abbrev ShpT := List Cel × Mot
abbrev ShtT := Int × Int × Int × Int × Int
def hasF (st : Int) (H : List (Int × Int)) (N : List (Int × List Int)) (p : List Cel) (m : Mot) : Bool := (fndF st H N p m.1).2.1 && decide ((fndF st H N p m.1).2.2 = m)
def shpR (st : Int) (H : List (Int × Int)) (N : List (Int × List Int)) (s : ShpT) : Bool :=
  (arOk (bxPos s.1) && (decide (arW (bxPos s.1) ≤ 10000) && decide (arH (bxPos s.1) ≤ 10000))) && (hasF st H N s.1 s.2 && decide ((fndF st H N s.1 s.2.1).1 = 0))
def phaO (st : Int) (H : List (Int × Int)) (N : List (Int × List Int)) (s : ShpT) (n : Int) : Bool := decide (0 ≤ n ∧ n ≤ 10000) && shpR st H N s
def phaE (st : Int) (H : List (Int × Int)) (N : List (Int × List Int)) (s : ShpT) (n : Int) : Int :=
  if trQ st H N = true then (if phaO st H N s n = true then runE st H N s.1 (n.tmod s.2.1) else 2) else 11
def phaL (st : Int) (H : List (Int × Int)) (N : List (Int × List Int)) (s : ShpT) (n : Int) : List Cel :=
  if trQ st H N = true then (if phaO st H N s n = true then hmL (runL st H N s.1 (n.tmod s.2.1)) else []) else []
def shpAt (S : List ShpT) (i : Int) : ShpT := S.getD i.toNat ([], 0, 0, 0)
def plcE (st : Int) (H : List (Int × Int)) (N : List (Int × List Int)) (S : List ShpT) (x : ShtT) : Int :=
  if trQ st H N = true then (if 0 ≤ x.1 ∧ x.1 < (S.length : Int) then (if 0 ≤ x.2.2.1 ∧ x.2.2.1 ≤ 7 then (if phaE st H N (shpAt S x.1) x.2.1 = 0 then (if tuE (phaL st H N (shpAt S x.1) x.2.1) = 0 then shE (hmL (tuL x.2.2.1 (phaL st H N (shpAt S x.1) x.2.1))) x.2.2.2.1 x.2.2.2.2 else tuE (phaL st H N (shpAt S x.1) x.2.1)) else phaE st H N (shpAt S x.1) x.2.1) else 2) else 13) else 11
def plcL (st : Int) (H : List (Int × Int)) (N : List (Int × List Int)) (S : List ShpT) (x : ShtT) : List Cel :=
  if plcE st H N S x = 0 then shL (hmL (tuL x.2.2.1 (phaL st H N (shpAt S x.1) x.2.1))) x.2.2.2.1 x.2.2.2.2 else []
section
variable {st : Int} {H : List (Int × Int)} {N : List (Int × List Int)} {p : List Cel} {s : ShpT} {S : List ShpT} {x : ShtT} {n nn : Int}
theorem has_period (h : shpR st H N s = true) : 1 ≤ s.2.1 ∧ s.2.1 ≤ 64 := by
  unfold shpR hasF at h
  simp only [Bool.and_eq_true] at h
  exact (fnd_has h.2.1.1).1
theorem run_small : (runL st H N p nn).length ≤ 5000 := by
  by_cases h : runE st H N p nn = 0
  · by_cases hf : fitE st H N p = 0
    · unfold runL
      rw [if_pos h]
      exact (rightC_ok (it_fits (fit_iff.1 hf) _).pat).1
    · exfalso; unfold runE at h; rw [if_neg hf] at h; exact hf h
  · unfold runL; rw [if_neg h]; simp
theorem pha_small : (phaL st H N s n).length ≤ 5000 := by
  unfold phaL
  split
  · split
    · rw [hm_len]; exact run_small
    · simp
  · simp
theorem tu_small {l : List Cel} {k : Int} (h : l.length ≤ 5000) : (tuL k l).length ≤ 5000 := by
  unfold tuL
  split
  · rw [tr_len]; exact h
  · simp
theorem sh_small {l : List Cel} {dx dy : Int} (h : l.length ≤ 5000) : (shL l dx dy).length ≤ 5000 := by
  unfold shL
  split
  · rw [List.length_map]; exact h
  · simp
theorem plc_small : (plcL st H N S x).length ≤ 5000 := by
  unfold plcL
  split
  · refine sh_small ?_
    rw [hm_len]
    exact tu_small pha_small
  · simp
end
def itsG (H : List (Int × Int)) (N : List (Int × List Int)) (ps : List (List Cel)) (g : Nat) : List (List Cel) := ps.map fun p => (itS H N p g).2
def AloneT (H : List (Int × Int)) (N : List (Int × List Int)) (ps : List (List Cel)) (n : Nat) : Prop :=
  frE ps.flatten = 0 ∧ ∀ g, 1 ≤ g → g ≤ n → (∀ p ∈ ps, (itS H N p g).1 = 0) ∧ (itS H N (frL ps.flatten) g).1 = 0 ∧ frE (itsG H N ps g).flatten = 0 ∧ frL (itsG H N ps g).flatten = (itS H N (frL ps.flatten) g).2
theorem its_zero {H : List (Int × Int)} {N : List (Int × List Int)} {ps : List (List Cel)} : itsG H N ps 0 = ps := by
  unfold itsG
  exact (List.map_congr_left fun p _ => rfl).trans (List.map_id _)
theorem alone_end {H : List (Int × Int)} {N : List (Int × List Int)} {ps : List (List Cel)} {n : Nat} (h : AloneT H N ps n) : frE (itsG H N ps n).flatten = 0 ∧ frL (itsG H N ps n).flatten = (itS H N (frL ps.flatten) n).2 := by
  rcases Nat.eq_zero_or_pos n with rfl | h0
  · rw [its_zero]; exact ⟨h.1, rfl⟩
  · exact (h.2 n h0 (Nat.le_refl _)).2.2
end Go.Proofs.YtellglbmbocgkaaGreatDoor
