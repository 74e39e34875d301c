/- Plain facts on building patterns out of cells in any order. No program in sight. -/
import Derived.Test.YtnhnkmppmicjoaaCellP
import Derived.Test.YtnhnkmppmicjoaaSortP
namespace Go.Proofs.Ytnhnkmppmicjoaa
open Go Go.RowKit
set_option linter.unusedSimpArgs false
set_option linter.unusedVariables false
/-- What is wrong with one cell. -/
def frBad (c : Int × Int × Int) : Int := if validB c.1 c.2.1 = true then (if 0 ≤ c.2.2 ∧ c.2.2 ≤ 7 then 0 else 10) else 5
def frFirst : List (Int × Int × Int) → Int
  | [] => 0
  | c :: l => if frBad c = 0 then frFirst l else frBad c
theorem frFirst_bad : ∀ {l : List (Int × Int × Int)} {j : Nat} {c : Int × Int × Int} {e : Int}, (∀ i d, i < j → l[i]? = some d → frBad d = 0) → l[j]? = some c → frBad c = e → e ≠ 0 → frFirst l = e
  | [], j, c, e, _, h, _, _ => by simp at h
  | d :: l, 0, c, e, _, h, he, hn => by
    have : d = c := by simpa using h
    subst this
    unfold frFirst
    rw [he, if_neg hn]
  | d :: l, j + 1, c, e, hg, h, he, hn => by
    unfold frFirst
    rw [if_pos (hg 0 d (by omega) rfl)]
    exact frFirst_bad (fun i x hi hx => hg (i + 1) x (Nat.succ_lt_succ hi) (by simpa using hx)) (by simpa using h) he hn
theorem frFirst_good : ∀ {l : List (Int × Int × Int)}, (∀ (i : Nat) d, l[i]? = some d → frBad d = 0) → frFirst l = 0
  | [], _ => rfl
  | d :: l, hg => by
    unfold frFirst
    rw [if_pos (hg 0 d rfl)]
    exact frFirst_good fun i x hx => hg (i + 1) x (by simpa using hx)
/-- The cells with a state. -/
def nzC (c : Int × Int × Int) : Bool := decide (0 < c.2.2)
def nz (l : List (Int × Int × Int)) : List (Int × Int × Int) := l.filter nzC
theorem nz_step {l : List (Int × Int × Int)} {j : Nat} {c : Int × Int × Int} (h : l[j]? = some c) : nz (l.take (j + 1)) = nz (l.take j) ++ (if nzC c = true then [c] else []) := by
  unfold nz
  rw [List.take_add_one, List.filter_append, h]
  simp [List.filter_cons]
/-- Insertion behind those at the same position. -/
def insC : List (Int × Int × Int) → Int × Int × Int → List (Int × Int × Int)
  | [], c => [c]
  | d :: p, c => if cBef c d = true then c :: d :: p else d :: insC p c
def srtC (l : List (Int × Int × Int)) : List (Int × Int × Int) := l.foldl insC []
/-- No cell stands ahead of one that it is behind. -/
def WC (l : List (Int × Int × Int)) : Prop := l.Pairwise fun a b => cBef b a = false
theorem insC_perm : ∀ (p : List (Int × Int × Int)) (c : Int × Int × Int), (insC p c).Perm (c :: p)
  | [], c => List.Perm.refl _
  | d :: p, c => by
    unfold insC
    split
    · exact List.Perm.refl _
    · exact (List.Perm.cons d (insC_perm p c)).trans (List.Perm.swap c d p)
theorem cBef_asym {a b : Int × Int × Int} (h : cBef a b = true) : cBef b a = false := by
  unfold cBef befP at *; simp only [decide_eq_true_eq, decide_eq_false_iff_not] at *; omega
theorem cBef_weak {a b c : Int × Int × Int} (h1 : cBef a b = true) (h2 : cBef c b = false) : cBef c a = false := by
  unfold cBef befP at *; simp only [decide_eq_true_eq, decide_eq_false_iff_not] at *; omega
theorem insC_wc : ∀ (p : List (Int × Int × Int)) (c : Int × Int × Int), WC p → WC (insC p c)
  | [], c, _ => by simp [insC, WC]
  | d :: p, c, h => by
    unfold WC at h
    obtain ⟨h1, h2⟩ := List.pairwise_cons.1 h
    unfold insC
    split
    · rename_i hc
      refine List.pairwise_cons.2 ⟨fun x hx => ?_, h⟩
      rcases List.mem_cons.1 hx with rfl | hm
      · exact cBef_asym hc
      · exact cBef_weak hc (h1 x hm)
    · rename_i hc
      refine List.pairwise_cons.2 ⟨fun x hx => ?_, insC_wc p c h2⟩
      rcases List.mem_cons.1 ((insC_perm p c).mem_iff.1 hx) with rfl | hm
      · simpa using hc
      · exact h1 x hm
theorem srtC_aux : ∀ (l o : List (Int × Int × Int)), WC o → WC (l.foldl insC o) ∧ (l.foldl insC o).Perm (l ++ o)
  | [], o, h => ⟨h, List.Perm.refl _⟩
  | c :: l, o, h => by
    obtain ⟨h1, h2⟩ := srtC_aux l (insC o c) (insC_wc o c h)
    refine ⟨h1, h2.trans ?_⟩
    exact ((insC_perm o c).append_left l).trans List.perm_middle
theorem srtC_wc (l : List (Int × Int × Int)) : WC (srtC l) := (srtC_aux l [] List.Pairwise.nil).1
theorem srtC_perm (l : List (Int × Int × Int)) : (srtC l).Perm l := by
  have := (srtC_aux l [] List.Pairwise.nil).2
  simpa [srtC] using this
def posD (c : Int × Int × Int) : Int × Int := (c.1, c.2.1)
theorem ssc_iff {l : List (Int × Int × Int)} : SSC l ↔ WC l ∧ (l.map posD).Nodup := by
  unfold SSC WC List.Nodup
  rw [List.pairwise_map]
  constructor
  · intro h
    refine ⟨h.imp fun hab => cBef_asym hab, h.imp fun {a b} hab e => ?_⟩
    unfold posD at e
    injection e with e1 e2
    unfold cBef befP at hab
    simp only [decide_eq_true_eq] at hab
    omega
  · rintro ⟨h1, h2⟩
    rw [List.pairwise_iff_getElem] at *
    intro i j hi hj hij
    have a := h1 i j hi hj hij
    have b := h2 i j hi hj hij
    unfold posD at b
    unfold cBef befP at *
    simp only [decide_eq_true_eq, decide_eq_false_iff_not] at *
    rcases Classical.em (l[j].2.1 = l[i].2.1) with e | e
    · rcases Classical.em (l[j].1 = l[i].1) with f | f
      · exact absurd (by rw [e, f]) b
      · omega
    · omega
theorem ssc_unique : ∀ (a b : List (Int × Int × Int)), SSC a → SSC b → (∀ x, x ∈ a ↔ x ∈ b) → a = b
  | [], [], _, _, _ => rfl
  | [], y :: b, _, _, he => absurd ((he y).2 (by simp)) (by simp)
  | x :: a, [], _, _, he => absurd ((he x).1 (by simp)) (by simp)
  | x :: a, y :: b, ha, hb, he => by
    obtain ⟨h1, h2⟩ := List.pairwise_cons.1 ha
    obtain ⟨h3, h4⟩ := List.pairwise_cons.1 hb
    have hxy : x = y := by
      rcases List.mem_cons.1 ((he x).1 (by simp)) with e | hm
      · exact e
      · rcases List.mem_cons.1 ((he y).2 (by simp)) with e | hm2
        · exact e.symm
        · have := cBef_asym (h3 x hm)
          rw [h1 y hm2] at this; cases this
    subst hxy
    rw [ssc_unique a b h2 h4 fun z => ?_]
    constructor
    · intro hz
      rcases List.mem_cons.1 ((he z).1 (by simp [hz])) with e | hm
      · subst e; have := h1 z hz; rw [cBef_irr] at this; cases this
      · exact hm
    · intro hz
      rcases List.mem_cons.1 ((he z).2 (by simp [hz])) with e | hm
      · subst e; have := h3 z hz; rw [cBef_irr] at this; cases this
      · exact hm
theorem ssc_perm {l m : List (Int × Int × Int)} (hp : l.Perm m) (hl : WC l) (hm : WC m) : SSC l ↔ SSC m := by
  rw [ssc_iff, ssc_iff]
  have := (hp.map posD).nodup_iff
  exact ⟨fun ⟨_, h⟩ => ⟨hm, this.1 h⟩, fun ⟨_, h⟩ => ⟨hl, this.2 h⟩⟩
/-- Each cell is ahead of the next one. -/
def ssB : List (Int × Int × Int) → Bool
  | [] => true
  | [_] => true
  | a :: b :: l => cBef a b && ssB (b :: l)
theorem ssB_iff : ∀ {l : List (Int × Int × Int)}, ssB l = true ↔ SSC l
  | [] => by simp [ssB, SSC]
  | [a] => by simp [ssB, SSC]
  | a :: b :: l => by
    have ih := ssB_iff (l := b :: l)
    unfold ssB
    rw [Bool.and_eq_true, ih]
    constructor
    · rintro ⟨h1, h2⟩
      refine List.pairwise_cons.2 ⟨fun x hx => ?_, h2⟩
      rcases List.mem_cons.1 hx with rfl | hm
      · exact h1
      · exact cBef_tr h1 ((List.pairwise_cons.1 h2).1 x hm)
    · intro h
      obtain ⟨h1, h2⟩ := List.pairwise_cons.1 h
      exact ⟨h1 b (by simp), h2⟩
/-- The code that From returns, and the pattern. -/
def frE (l : List (Int × Int × Int)) : Int := if frFirst l = 0 then (if ssB (srtC (nz l)) = true then (if (nz l).length ≤ 5000 then 0 else 6) else 8) else frFirst l
def frL (l : List (Int × Int × Int)) : List (Int × Int × Int) := if frE l = 0 then srtC (nz l) else []
theorem frL_no {l : List (Int × Int × Int)} {e : Int} (h : frE l = e) (hn : e ≠ 0) : frL l = [] := by unfold frL; rw [if_neg (by rw [h]; exact hn)]
theorem frL_ok {l : List (Int × Int × Int)} (h : frE l = 0) : frL l = srtC (nz l) := by unfold frL; rw [if_pos h]
theorem frE_first {l : List (Int × Int × Int)} {e : Int} (h : frFirst l = e) (hn : e ≠ 0) : frE l = e := by unfold frE; rw [h, if_neg hn]
theorem frE_twice {l : List (Int × Int × Int)} (h : frFirst l = 0) (hs : ssB (srtC (nz l)) = false) : frE l = 8 := by unfold frE; rw [if_pos h, if_neg (by rw [hs]; simp)]
theorem frE_size {l : List (Int × Int × Int)} (h : frFirst l = 0) (hs : ssB (srtC (nz l)) = true) (hz : 5000 < (nz l).length) : frE l = 6 := by unfold frE; rw [if_pos h, if_pos hs, if_neg (by omega)]
theorem frE_ok {l : List (Int × Int × Int)} (h : frFirst l = 0) (hs : ssB (srtC (nz l)) = true) (hz : (nz l).length ≤ 5000) : frE l = 0 := by unfold frE; rw [if_pos h, if_pos hs, if_pos hz]
/-- A sorted list of the cells whose neighbours stand at different positions is the pattern. -/
theorem sorted_distinct {l' m : List (Int × Int × Int)} (hp : l'.Perm m) (hw : WC l') (hd : ∀ j a b, l'[j]? = some a → l'[j + 1]? = some b → posD a ≠ posD b) : ssB (srtC m) = true ∧ srtC m = l' := by
  have hs : SSC l' := by
    refine pairwise_of_next (r := fun a b => cBef a b = true) (fun a b c h1 h2 => cBef_tr h1 h2) l' fun j a b ha hb => ?_
    have h1 := (List.getElem?_eq_some_iff.1 ha)
    have h2 := (List.getElem?_eq_some_iff.1 hb)
    have hwk := (List.pairwise_iff_getElem.1 hw) j (j + 1) h1.1 h2.1 (by omega)
    rw [h1.2, h2.2] at hwk
    have hne := hd j a b ha hb
    unfold posD at hne
    unfold cBef befP at *
    simp only [decide_eq_true_eq, decide_eq_false_iff_not] at *
    rcases Classical.em (b.2.1 = a.2.1) with e | e
    · rcases Classical.em (b.1 = a.1) with f | f
      · exact absurd (by rw [e, f]) hne
      · omega
    · omega
  have hsm : SSC (srtC m) := (ssc_perm ((srtC_perm m).trans hp.symm) (srtC_wc m) hw).2 hs
  exact ⟨ssB_iff.2 hsm, ssc_unique _ _ hsm hs fun x => ((srtC_perm m).trans hp.symm).mem_iff⟩
/-- Two neighbours at one position: it is none. -/
theorem sorted_twice {l' m : List (Int × Int × Int)} {j : Nat} {a b : Int × Int × Int} (hp : l'.Perm m) (hw : WC l') (ha : l'[j]? = some a) (hb : l'[j + 1]? = some b) (he : posD a = posD b) : ssB (srtC m) = false := by
  rw [Bool.eq_false_iff]
  intro h
  have hs := (ssc_perm ((srtC_perm m).trans hp.symm) (srtC_wc m) hw).1 (ssB_iff.1 h)
  have h1 := (List.getElem?_eq_some_iff.1 ha)
  have h2 := (List.getElem?_eq_some_iff.1 hb)
  have := (List.pairwise_iff_getElem.1 hs) j (j + 1) h1.1 h2.1 (by omega)
  rw [h1.2, h2.2] at this
  unfold posD at he
  injection he with e1 e2
  unfold cBef befP at this
  simp only [decide_eq_true_eq] at this
  omega
end Go.Proofs.Ytnhnkmppmicjoaa
