/- Plain: the parts split the pattern; a greater distance joins whole parts; what joining makes of the parts. -/
import Derived.Test.YtenckggfgbkfnaaPLN
namespace Go.Proofs.Ytenckggfgbkfnaa
open Go Go.RowKit
set_option linter.unusedSimpArgs false
set_option linter.unusedVariables false
theorem flat_pick {α : Type} {A : Nat → List α} {a : α} {j : Nat} : ∀ n : Nat, ((List.range n).flatMap fun i => A i ++ if (j == i) = true then [a] else []).Perm ((List.range n).flatMap A ++ if j < n then [a] else [])
  | 0 => by simp
  | n + 1 => by
    have ih := flat_pick (A := A) (a := a) (j := j) n
    rw [List.range_succ, List.flatMap_append, List.flatMap_append]
    simp only [List.flatMap_cons, List.flatMap_nil, List.append_nil]
    refine (ih.append_right _).trans ?_
    by_cases hj : j = n
    · subst hj
      simp
    · have h1 : (j == n) = false := by simpa using hj
      rw [h1]
      simp only [Bool.false_eq_true, if_false, List.append_nil]
      by_cases hlt : j < n
      · rw [if_pos hlt, if_pos (show j < n + 1 by omega), List.append_assoc, List.append_assoc]
        exact List.perm_append_comm.append_left _
      · rw [if_neg hlt, if_neg (show ¬ j < n + 1 by omega)]
        simp
theorem sel_split {α : Type} {l : List α} {g : Nat → Nat} {n : Nat} (hg : ∀ k, k < l.length → g k < n) : ∀ m, m ≤ l.length → ((List.range n).flatMap fun i => selN l (fun k => g k == i) m).Perm (l.take m)
  | 0, _ => by
    have : ∀ R : List Nat, (R.flatMap fun i => selN l (fun k => g k == i) 0) = [] := by
      intro R; induction R with
      | nil => rfl
      | cons i R ih => rw [List.flatMap_cons, ih]; rfl
    rw [this]; simp
  | m + 1, hm => by
    have ha : l[m]? = some l[m] := List.getElem?_eq_getElem (by omega)
    have e : (fun i => selN l (fun k => g k == i) (m + 1)) = fun i => selN l (fun k => g k == i) m ++ if (g m == i) = true then [l[m]] else [] := by
      funext i; exact selN_step ha
    rw [e]
    refine (flat_pick n).trans ?_
    rw [if_pos (hg m (by omega)), List.take_add_one, ha]
    exact (sel_split hg m (by omega)).append_right _
section
variable {l : List (Int × Int × Int)} {d : Int}
theorem prts_flat : (prtsN l d l.length).flatten.Perm l := by
  have key : ∀ R : List Nat, (∀ i ∈ R, i < l.length) → (R.flatMap fun i => if gpI l d i = i then [prt l d i] else []).flatten = R.flatMap (prt l d) := by
    intro R
    induction R with
    | nil => intro _; rfl
    | cons i R ih =>
      intro h
      rw [List.flatMap_cons, List.flatMap_cons, List.flatten_append, ih fun k hk => h k (by simp [hk])]
      congr 1
      by_cases he : gpI l d i = i
      · rw [if_pos he]; simp
      · rw [if_neg he, prt_none (h i (by simp)) he]; rfl
  unfold prtsN
  rw [key _ fun i hi => by simpa using hi]
  have h := sel_split (l := l) (g := gpI l d) (n := l.length) (fun k hk => Nat.lt_of_le_of_lt (gpI_le hk) hk) l.length (Nat.le_refl _)
  rw [List.take_length] at h
  exact h
theorem prtsN_mem {m : Nat} {x : List (Int × Int × Int)} : x ∈ prtsN l d m ↔ ∃ i, i < m ∧ gpI l d i = i ∧ x = prt l d i := by
  unfold prtsN
  rw [List.mem_flatMap]
  constructor
  · rintro ⟨i, hi, hx⟩
    by_cases he : gpI l d i = i
    · rw [if_pos he] at hx
      exact ⟨i, by simpa using hi, he, by simpa using hx⟩
    · rw [if_neg he] at hx; cases hx
  · rintro ⟨i, hi, he, rfl⟩
    exact ⟨i, by simpa using hi, by rw [if_pos he]; simp⟩
theorem prts_pw : ∀ m : Nat, m ≤ l.length → (prtsN l d m).Pairwise fun x y => ∃ a b, a < b ∧ b < l.length ∧ gpI l d a = a ∧ gpI l d b = b ∧ x = prt l d a ∧ y = prt l d b
  | 0, _ => by unfold prtsN; simp
  | m + 1, hm => by
    rw [prtsN_step, List.pairwise_append]
    refine ⟨prts_pw m (by omega), ?_, fun x hx y hy => ?_⟩
    · split
      · exact List.pairwise_singleton _ _
      · exact List.Pairwise.nil
    · by_cases he : gpI l d m = m
      · rw [if_pos he] at hy
        obtain ⟨i, hi, hie, rfl⟩ := prtsN_mem.1 hx
        exact ⟨i, m, hi, by omega, hie, he, rfl, by simpa using hy⟩
      · rw [if_neg he] at hy; cases hy
theorem prts_two {i j : Nat} {x y : List (Int × Int × Int)} (hx : (prtsN l d l.length)[i]? = some x) (hy : (prtsN l d l.length)[j]? = some y) (h : i < j) : ∃ a b, a < b ∧ b < l.length ∧ gpI l d a = a ∧ gpI l d b = b ∧ x = prt l d a ∧ y = prt l d b := by
  have hp := prts_pw (l := l) (d := d) l.length (Nat.le_refl _)
  rw [List.pairwise_iff_getElem] at hp
  obtain ⟨hi, rfl⟩ := List.getElem?_eq_some_iff.1 hx
  obtain ⟨hj, rfl⟩ := List.getElem?_eq_some_iff.1 hy
  exact hp i j hi hj h
theorem prts_far {i j : Nat} {x y : List (Int × Int × Int)} (hx : (prtsN l d l.length)[i]? = some x) (hy : (prtsN l d l.length)[j]? = some y) (h : j < i) : ∀ c ∈ x, ∀ e ∈ y, nrD d c e = false := by
  obtain ⟨a, b, hab, hb, ha, hb', rfl, rfl⟩ := prts_two hy hx h
  intro c hc e he
  obtain ⟨k, hk, g1, h1⟩ := selN_mem.1 hc
  obtain ⟨k', hk', g2, h2⟩ := selN_mem.1 he
  cases hn : nrD d c e with
  | false => rfl
  | true =>
    have := gpI_eq (Rch.one h1 h2 hn)
    have e1 : gpI l d k = b := by simpa using g1
    have e2 : gpI l d k' = a := by simpa using g2
    omega
theorem nrD_more {a b : Int × Int × Int} (h : nrD d a b = true) : nrD (d + 1) a b = true := by
  unfold nrD at *; simp only [decide_eq_true_eq] at *; omega
theorem Rch.more {i j : Nat} (h : Rch l d i j) : Rch l (d + 1) i j := by
  induction h with
  | refl h => exact .refl h
  | step _ h1 h2 h3 ih => exact .step ih h1 h2 (nrD_more h3)
theorem cnt_pick {α : Type} {q : α → Bool} {f : Nat → List α} {j : Nat} : ∀ n : Nat, (∀ i, i < n → (f i).countP q = if i = j then 1 else 0) → ((List.range n).flatMap f).countP q = if j < n then 1 else 0
  | 0, _ => by simp
  | n + 1, h => by
    rw [List.range_succ, List.flatMap_append, List.countP_append, cnt_pick n fun i hi => h i (by omega)]
    simp only [List.flatMap_cons, List.flatMap_nil, List.append_nil]
    rw [h n (by omega)]
    by_cases h1 : j < n
    · rw [if_pos h1, if_neg (by omega), if_pos (by omega)]
    · rw [if_neg h1]
      by_cases h2 : n = j
      · rw [if_pos h2, if_pos (by omega)]
      · rw [if_neg h2, if_neg (by omega)]
theorem prts_in (hS : SSC l) {x : List (Int × Int × Int)} (hx : x ∈ prtsN l d l.length) : (prtsN l (d + 1) l.length).countP (fun y => nearP x y) = 1 := by
  obtain ⟨a, ha, hae, rfl⟩ := prtsN_mem.1 hx
  have hb := gpI_le (l := l) (d := d + 1) ha
  unfold prtsN
  rw [cnt_pick (j := gpI l (d + 1) a) l.length fun i hi => ?_, if_pos (by omega)]
  by_cases he : gpI l (d + 1) i = i
  · rw [if_pos he, List.countP_singleton]
    by_cases hij : i = gpI l (d + 1) a
    · rw [if_pos hij, if_pos]
      refine nearP_iff.2 ⟨l[a], selN_mem.2 ⟨a, ha, by simpa using hae, List.getElem?_eq_getElem ha⟩, l[a], selN_mem.2 ⟨a, ha, by simpa using hij.symm, List.getElem?_eq_getElem ha⟩, rfl⟩
    · rw [if_neg hij, if_neg]
      intro hn
      obtain ⟨c, hc, e, he', hp⟩ := nearP_iff.1 hn
      obtain ⟨k, hk, g1, h1⟩ := selN_mem.1 hc
      obtain ⟨k', hk', g2, h2⟩ := selN_mem.1 he'
      have e1 : gpI l d k = a := by simpa using g1
      have e2 : gpI l (d + 1) k' = i := by simpa using g2
      obtain ⟨cx, cy, cs⟩ := c
      obtain ⟨ex, ey, es⟩ := e
      unfold posD at hp
      injection hp with p1 p2
      simp only at p1 p2
      subst p1 p2
      have := ssc_pos hS h1 h2
      subst this
      have h3 : gpI l d k = gpI l d a := by rw [e1, hae]
      have h4 := gpI_eq (gpI_rch hk ha h3).more
      exact hij (by rw [← h4, e2])
  · rw [if_neg he, if_neg (fun e => he (by rw [e]; exact gpI_idem ha))]
    rfl
theorem prt_right (h : rightC l = true) {i : Nat} : rightC (prt l d i) = true := by
  have hs := selN_sub (l := l) (p := fun k => gpI l d k == i) (Nat.le_refl l.length)
  rw [List.take_length] at hs
  have h1 := rightC_ok h
  refine rightC_of (Nat.le_trans hs.length_le h1.1) (fun p hp => ?_) (prt_ssc (rightC_sorted h))
  obtain ⟨k, hk⟩ := List.getElem?_of_mem (hs.subset hp)
  exact rightC_elem h hk
theorem sel_head {α : Type} {l : List α} {p : Nat → Bool} {a : Nat} {z : α} (hz : l[a]? = some z) (hp : p a = true) (hn : ∀ k, k < a → p k = false) : ∀ m, m ≤ l.length → (selN l p m).head? = if a < m then some z else none
  | 0, _ => by rfl
  | m + 1, hm => by
    have hl : l[m]? = some l[m] := List.getElem?_eq_getElem (by omega)
    have ih := sel_head hz hp hn m (by omega)
    rw [selN_step hl, List.head?_append, ih]
    by_cases h1 : a < m
    · rw [if_pos h1, if_pos (show a < m + 1 by omega)]; rfl
    · rw [if_neg h1]
      by_cases h2 : a = m
      · subst h2
        rw [if_pos (show a < a + 1 by omega), if_pos hp, ← hz, hl]; rfl
      · rw [if_neg (show ¬ a < m + 1 by omega), hn m (by omega)]; rfl
theorem prt_head {a : Nat} (ha : a < l.length) (h : gpI l d a = a) : (prt l d a).headD (0, 0, 0) = l[a] := by
  have h1 := sel_head (l := l) (p := fun k => gpI l d k == a) (List.getElem?_eq_getElem ha) (by simpa using h) (fun k hk => by
    have := gpI_le (l := l) (d := d) (show k < l.length by omega)
    simp; omega) l.length (Nat.le_refl _)
  rw [if_pos ha] at h1
  unfold prt
  rw [List.headD_eq_head?_getD, h1]; rfl
theorem prts_heads (hS : SSC l) : (prtsN l d l.length).Pairwise fun a b => hdBef a b = true := by
  refine (prts_pw l.length (Nat.le_refl _)).imp ?_
  rintro x y ⟨a, b, hab, hb, ha, hb', rfl, rfl⟩
  unfold hdBef
  rw [prt_head (by omega) ha, prt_head hb hb']
  exact ssc_lt hS (List.getElem?_eq_getElem (by omega)) (List.getElem?_eq_getElem hb) hab
theorem prts_good (h : rightC l = true) {L : List (List (Int × Int × Int))} (hL : prtsN l d l.length = L) : L.any badL = false ∧ (L.flatten.map posD).Nodup ∧ L.flatten.length ≤ 5000 ∧ L.flatten.length = l.length ∧ ∀ q ∈ L, SSC q ∧ q ≠ [] := by
  subst hL
  have hf := prts_flat (l := l) (d := d)
  have h1 := rightC_ok h
  have hS := rightC_sorted h
  refine ⟨?_, ((hf.map posD).nodup_iff).2 (ssc_iff.1 hS).2, by rw [hf.length_eq]; exact h1.1, hf.length_eq, fun q hq => ?_⟩
  · rw [Bool.eq_false_iff]
    intro hn
    obtain ⟨q, hq, hb⟩ := List.any_eq_true.1 hn
    obtain ⟨i, hi, he, rfl⟩ := prtsN_mem.1 hq
    rw [badL_good.2 ⟨prt_some hi he, prt_right h⟩] at hb
    cases hb
  · obtain ⟨i, hi, he, rfl⟩ := prtsN_mem.1 hq
    exact ⟨prt_ssc hS, prt_some hi he⟩
end
theorem catN_one {ls : List (List (Int × Int × Int))} {i : Nat} : ∀ m, catN ls (fun k => k == i) m = if i < m then (ls[i]?).getD [] else []
  | 0 => by unfold catN; simp
  | m + 1 => by
    have ih := catN_one (ls := ls) (i := i) m
    unfold catN at ih ⊢
    rw [List.range_succ, List.flatMap_append, ih]
    simp only [List.flatMap_cons, List.flatMap_nil, List.append_nil]
    by_cases h1 : i < m
    · rw [if_pos h1, if_pos (show i < m + 1 by omega), if_neg (by simp; omega)]; simp
    · rw [if_neg h1]
      by_cases h2 : m = i
      · subst h2
        rw [if_pos (show (m == m) = true by simp), if_pos (show m < m + 1 by omega)]; simp
      · rw [if_neg (by simpa using h2), if_neg (show ¬ i < m + 1 by omega)]; rfl
theorem catN_all {ls : List (List (Int × Int × Int))} : ∀ m, m ≤ ls.length → catN ls (fun _ => true) m = (ls.take m).flatten
  | 0, _ => by unfold catN; simp
  | m + 1, h => by
    have hl : ls[m]? = some ls[m] := List.getElem?_eq_getElem (by omega)
    rw [catN_step hl, catN_all m (by omega), List.take_add_one, hl, List.flatten_append]
    congr 1
    simp
theorem mg_none {ls : List (List (Int × Int × Int))} (hw : ls.Pairwise fun a b => hdBef a b = true) (hs : ∀ q ∈ ls, SSC q) : IsMg ls [] ls := by
  refine ⟨hw, fun q => ?_⟩
  have key : ∀ i (hi : i < ls.length), clsP ls [] i = ls[i] := by
    intro i hi
    rw [← patR_cls (tells_start (n := ls.length)) hi]
    unfold patR
    rw [show (fun k => (id k : Nat) == id i) = fun k => k == i from rfl, catN_one, if_pos hi, List.getElem?_eq_getElem hi]
    exact srt_eq (ssc_iff.1 (hs _ (List.getElem_mem hi))).2 (hs _ (List.getElem_mem hi)) fun z => Iff.rfl
  constructor
  · intro hq
    obtain ⟨i, hi, rfl⟩ := List.getElem_of_mem hq
    exact ⟨i, hi, (key i hi).symm⟩
  · rintro ⟨i, hi, rfl⟩
    rw [key i hi]; exact List.getElem_mem hi
/-- The pairs that link each pattern with the one before. -/
def chainP (m : Nat) : List (Int × Int) := (List.range m).map fun i => (((i + 1 : Nat) : Int), (i : Int))
theorem chain_step (m : Nat) : chainP (m + 1) = chainP m ++ [(((m + 1 : Nat) : Int), (m : Int))] := by
  unfold chainP; rw [List.range_succ, List.map_append]; rfl
theorem chain_len (m : Nat) : (chainP m).length = m := by unfold chainP; simp
theorem chain_lnk {n : Nat} : ∀ i, i < n → Lnk n (chainP (n - 1)) i 0
  | 0, h => .refl h
  | i + 1, h => by
    refine .trans (.pair ?_ h (by omega)) (chain_lnk i (by omega))
    unfold chainP
    exact List.mem_map.2 ⟨i, by simp; omega, rfl⟩
theorem chain_tells {n : Nat} : Tells n (chainP (n - 1)) fun _ => 0 := fun i k hi hk => ⟨fun _ => (chain_lnk i hi).trans (chain_lnk k hk).symm, fun _ => rfl⟩
theorem chain_good {n : Nat} : (chainP (n - 1)).any (badP n) = false := by
  rw [Bool.eq_false_iff]
  intro h
  obtain ⟨p, hp, hb⟩ := List.any_eq_true.1 h
  unfold chainP at hp
  obtain ⟨i, hi, rfl⟩ := List.mem_map.1 hp
  have : i < n - 1 := by simpa using hi
  unfold badP at hb
  simp only [decide_eq_true_eq] at hb
  omega
theorem mg_chain {ls : List (List (Int × Int × Int))} {l : List (Int × Int × Int)} (h0 : 0 < ls.length) (hl : SSC l) (hp : ls.flatten.Perm l) : IsMg ls (chainP (ls.length - 1)) [l] := by
  refine ⟨List.pairwise_singleton _ _, fun q => ?_⟩
  have key : ∀ i, i < ls.length → clsP ls (chainP (ls.length - 1)) i = l := by
    intro i hi
    rw [← patR_cls (chain_tells (n := ls.length)) hi]
    unfold patR
    rw [show (fun k : Nat => (0 : Nat) == 0) = fun _ => true from rfl, catN_all _ (Nat.le_refl _), List.take_length]
    exact srt_eq ((hp.map posD).nodup_iff.2 (ssc_iff.1 hl).2) hl fun z => (hp.mem_iff).symm
  constructor
  · intro hq
    exact ⟨0, h0, by rw [key 0 h0]; simpa using hq⟩
  · rintro ⟨i, hi, rfl⟩
    rw [key i hi]; simp
end Go.Proofs.Ytenckggfgbkfnaa
