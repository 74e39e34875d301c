/- The state of Merge: rows by sets' own indices, as they grow and as they are sorted. -/
import Derived.Test.YtenckggfgbkfnaaIsl5
import Derived.Test.YtenckggfgbkfnaaPLN
import Derived.Test.YtenckggfgbkfnaaMEM
import Derived.Test.YtenckggfgbkfnaaMapJ
namespace Go.Proofs.Ytenckggfgbkfnaa
open Go Go.RowKit
set_option linter.unusedSimpArgs false
set_option linter.unusedVariables false
/-- A set of positions as the map that holds it. -/
def setF (T : List (Int × Int)) : Int × Int → Option Unit := fun p => if p ∈ T then some () else none
theorem setF_nil : setF [] = fun _ => none := by funext p; unfold setF; simp
theorem setF_put (T : List (Int × Int)) (p : Int × Int) : putG (setF T) p () = setF (T ++ [p]) := by
  funext q; unfold putG setF
  by_cases h : q = p
  · subst h; simp
  · rw [if_neg h]; simp [h]
theorem setF_in {T : List (Int × Int)} {p : Int × Int} (h : p ∈ T) : (setF T p).isSome = true := by unfold setF; rw [if_pos h]; rfl
theorem setF_out {T : List (Int × Int)} {p : Int × Int} (h : p ∉ T) : (setF T p).isSome = false := by unfold setF; rw [if_neg h]; rfl
theorem Own.keepG {α : Type} {enc : α → List Value} {k : Nat} {e : TypeId} {B n c : Nat} {w w' : World} {A : Option Addr} {l : List α} {row : Option Nat} (h : Own enc k e B w A n c l) (hg : w.grownBy w' row) (hne : (Value.slice A n c).ownBlock = none ∨ (Value.slice A n c).ownBlock ≠ row) : Own enc k e B w' A n c l := ⟨h.row.kept hg hne, h.len⟩
theorem catN_empty {ls : List (List (Int × Int × Int))} {p : Nat → Bool} : ∀ {m : Nat}, (∀ k, k < m → p k = false) → catN ls p m = []
  | 0, _ => rfl
  | m + 1, h => by
    have h0 : catN ls p m = [] := catN_empty fun k hk => h k (by omega)
    unfold catN at *
    rw [List.range_succ, List.flatMap_append, h0]
    simp [h m (by omega)]
/-- The rows, by sets' own indices, of the first i lists. -/
structure Jst (ls : List (List (Int × Int × Int))) (f : Nat → Nat) (i B : Nat) (e : TypeId) (jf : Int → Option (Option Addr × Nat × Nat)) (w : World) : Prop where
  keys : ∀ x A n c, jf x = some (A, n, c) → ∃ r : Nat, x = r ∧ (∃ k, k < i ∧ f k = r) ∧ Own encC 3 e B w A n c (catN ls (fun k => f k == r) i)
  has : ∀ k, k < i → (jf (f k : Nat)).isSome = true
  apart : ∀ x y A n c A' n' c', x ≠ y → jf x = some (A, n, c) → jf y = some (A', n', c') → (Value.slice A n c).ownBlock = none ∨ (Value.slice A n c).ownBlock ≠ (Value.slice A' n' c').ownBlock
section
variable {ls : List (List (Int × Int × Int))} {f : Nat → Nat} {i B : Nat} {e : TypeId} {jf : Int → Option (Option Addr × Nat × Nat)} {w w' w'' : World}
theorem Jst.start : Jst ls f 0 B e (fun _ => none) w := ⟨fun x A n c h => (by cases h), fun k hk => absurd hk (by omega), fun x y A n c A' n' c' _ h => (by cases h)⟩
theorem Jst.kept {row : Option Nat} (h : Jst ls f i B e jf w) (hg : w.grownBy w' row) (hr : ∀ b, row = some b → b < B) : Jst ls f i B e jf w' := by
  refine ⟨fun x A n c hx => ?_, h.has, h.apart⟩
  obtain ⟨r, h1, h2, h3⟩ := h.keys x A n c hx
  refine ⟨r, h1, h2, h3.keepG hg ?_⟩
  cases ho : (Value.slice A n c).ownBlock with
  | none => exact .inl rfl
  | some q =>
    right
    intro e1
    have := hr q e1.symm
    have := (h3.row.lt q ho).1
    omega
/-- The row of the i-th list's set, as it stands. -/
theorem Jst.at0 (h : Jst ls f i B e jf w) {A : Option Addr} {n c : Nat} (h0 : (jf (f i : Nat)).getD (none, 0, 0) = (A, n, c)) : Own encC 3 e B w A n c (catN ls (fun k => f k == f i) i) := by
  cases hj : jf (f i : Nat) with
  | none =>
    rw [hj] at h0
    have e0 : ((none, 0, 0) : Option Addr × Nat × Nat) = (A, n, c) := h0
    injection e0 with e1 e2
    injection e2 with e2 e3
    subst e1 e2 e3
    rw [catN_empty fun k hk => ?_]
    · exact Own.nil_
    · cases hq : (f k == f i) with
      | false => rfl
      | true =>
        have := h.has k hk
        rw [show f k = f i from by simpa using hq, hj] at this
        cases this
  | some p =>
    rw [hj] at h0
    have e0 : p = (A, n, c) := h0
    subst e0
    obtain ⟨r, h1, _, h3⟩ := h.keys _ A n c hj
    have : f i = r := by omega
    rw [this]; exact h3
theorem Jst.step {l : List (Int × Int × Int)} {bj : Nat} (h : Jst ls f i B e jf w) (hl : ls[i]? = some l) {A A2 : Option Addr} {n c n2 c2 : Nat} (h0 : (jf (f i : Nat)).getD (none, 0, 0) = (A, n, c)) (hown : Own encC 3 e B w' A2 n2 c2 (catN ls (fun k => f k == f i) i ++ l)) (hg : w.grownBy w' (Value.slice A n c).ownBlock)
    (hloc : (Value.slice A2 n2 c2).ownBlock = (Value.slice A n c).ownBlock ∨ (Value.slice A2 n2 c2).ownBlock = some w.heap.size) (hg2 : w'.grownBy w'' (some bj)) (hbj : bj < B) : Jst ls f (i + 1) B e (putG jf (f i : Nat) (A2, n2, c2)) w'' := by
  have fresh : ∀ y A' n' c', y ≠ ((f i : Nat) : Int) → jf y = some (A', n', c') → (Value.slice A' n' c').ownBlock = none ∨ (Value.slice A' n' c').ownBlock ≠ (Value.slice A n c).ownBlock := by
    intro y A' n' c' hy hj
    cases hj0 : jf (f i : Nat) with
    | none =>
      rw [hj0] at h0
      have e0 : ((none, 0, 0) : Option Addr × Nat × Nat) = (A, n, c) := h0
      injection e0 with e1 e2
      injection e2 with e2 e3
      subst e1 e2 e3
      cases ho : (Value.slice A' n' c').ownBlock with
      | none => exact .inl rfl
      | some q => right; intro e; cases e
    | some p =>
      rw [hj0] at h0
      have e0 : p = (A, n, c) := h0
      subst e0
      exact h.apart y _ A' n' c' A n c hy hj hj0
  have loc2 : ∀ y A' n' c', y ≠ ((f i : Nat) : Int) → jf y = some (A', n', c') → (Value.slice A' n' c').ownBlock = none ∨ (Value.slice A' n' c').ownBlock ≠ (Value.slice A2 n2 c2).ownBlock := by
    intro y A' n' c' hy hj
    rcases hloc with hl | hl
    · rw [hl]; exact fresh y A' n' c' hy hj
    · cases ho : (Value.slice A' n' c').ownBlock with
      | none => exact .inl rfl
      | some q =>
        right
        rw [hl]
        intro e1
        injection e1 with e1
        obtain ⟨r, _, _, h3⟩ := h.keys y A' n' c' hj
        have := (h3.row.lt q ho).2
        omega
  have notj : ∀ {A' : Option Addr} {n' c' : Nat} {l' : List (Int × Int × Int)}, Own encC 3 e B w' A' n' c' l' → (Value.slice A' n' c').ownBlock = none ∨ (Value.slice A' n' c').ownBlock ≠ some bj := by
    intro A' n' c' l' ho
    cases hq : (Value.slice A' n' c').ownBlock with
    | none => exact .inl rfl
    | some q =>
      right
      intro e1
      injection e1 with e1
      have := (ho.row.lt q hq).1
      omega
  refine ⟨fun x A' n' c' hx => ?_, fun k hk => ?_, fun x y A' n' c' A'' n'' c'' hne hx hy => ?_⟩
  · unfold putG at hx
    by_cases ex : x = ((f i : Nat) : Int)
    · rw [if_pos ex] at hx
      injection hx with hx
      injection hx with e1 e2
      injection e2 with e2 e3
      subst e1 e2 e3
      refine ⟨f i, ex, ⟨i, by omega, rfl⟩, ?_⟩
      rw [catN_step hl, if_pos (by simp)]
      exact hown.keepG hg2 (notj hown)
    · rw [if_neg ex] at hx
      obtain ⟨r, h1, ⟨k, hk, hf⟩, h3⟩ := h.keys x A' n' c' hx
      refine ⟨r, h1, ⟨k, by omega, hf⟩, ?_⟩
      have hr : (f i == r) = false := by
        cases hq : (f i == r) with
        | false => rfl
        | true => exact absurd (by rw [h1, show f i = r from by simpa using hq]) ex
      rw [catN_step hl, hr]
      simp only [Bool.false_eq_true, if_false, List.append_nil]
      have h4 := h3.keepG hg (fresh x A' n' c' ex hx)
      exact h4.keepG hg2 (notj h4)
  · unfold putG
    split
    · rfl
    · rename_i hne
      refine h.has k ?_
      rcases Nat.lt_or_ge k i with h1 | h1
      · exact h1
      · obtain rfl : k = i := by omega
        exact absurd rfl hne
  · unfold putG at hx hy
    by_cases ex : x = ((f i : Nat) : Int)
    · by_cases ey : y = ((f i : Nat) : Int)
      · exact absurd (ex.trans ey.symm) hne
      · rw [if_pos ex] at hx
        rw [if_neg ey] at hy
        injection hx with hx
        injection hx with e1 e2
        injection e2 with e2 e3
        subst e1 e2 e3
        rcases loc2 y A'' n'' c'' ey hy with h1 | h1
        · cases ho : (Value.slice A2 n2 c2).ownBlock with
          | none => exact .inl rfl
          | some q => right; rw [h1]; intro e1; cases e1
        · exact .inr (fun e1 => h1 e1.symm)
    · rw [if_neg ex] at hx
      by_cases ey : y = ((f i : Nat) : Int)
      · rw [if_pos ey] at hy
        injection hy with hy
        injection hy with e1 e2
        injection e2 with e2 e3
        subst e1 e2 e3
        exact loc2 x A' n' c' ex hx
      · rw [if_neg ey] at hy
        exact h.apart x y A' n' c' A'' n'' c'' hne hx hy
end
/-- The rows while they are sorted, one after the other: lf tells which are still to come. -/
structure Rst (ls : List (List (Int × Int × Int))) (f : Nat → Nat) (B Z : Nat) (e : TypeId) (jf : Int → Option (Option Addr × Nat × Nat)) (lf : Int → Bool) (w : World) : Prop where
  keys : ∀ x A n c, jf x = some (A, n, c) → ∃ r : Nat, x = r ∧ Own encC 3 e B w A n c (if lf x = true then catN ls (fun k => f k == r) ls.length else patR ls f r) ∧ ∀ q, (Value.slice A n c).ownBlock = some q → q < Z
section
variable {ls : List (List (Int × Int × Int))} {f : Nat → Nat} {B Z : Nat} {e : TypeId} {jf : Int → Option (Option Addr × Nat × Nat)} {lf : Int → Bool} {w w' : World}
theorem Rst.start (h : Jst ls f ls.length B e jf w) : Rst ls f B w.heap.size e jf (fun x => (jf x).isSome) w :=
  ⟨fun x A n c hx => by
    obtain ⟨r, h1, _, h3⟩ := h.keys x A n c hx
    refine ⟨r, h1, ?_, fun q hq => (h3.row.lt q hq).2⟩
    rw [if_pos (by rw [hx]; rfl)]
    exact h3⟩
theorem Rst.kept {row : Option Nat} (h : Rst ls f B Z e jf lf w) (hg : w.grownBy w' row) (hr : ∀ b, row = some b → Z ≤ b) : Rst ls f B Z e jf lf w' :=
  ⟨fun x A n c hx => by
    obtain ⟨r, h1, h2, h3⟩ := h.keys x A n c hx
    refine ⟨r, h1, h2.keepG hg ?_, h3⟩
    cases ho : (Value.slice A n c).ownBlock with
    | none => exact .inl rfl
    | some q =>
      right
      intro e1
      have := hr q e1.symm
      have := h3 q ho
      omega⟩
/-- One row is sorted. -/
theorem Rst.sorted (h : Rst ls f B Z e jf lf w) (ha : ∀ x y A n c A' n' c', x ≠ y → jf x = some (A, n, c) → jf y = some (A', n', c') → (Value.slice A n c).ownBlock = none ∨ (Value.slice A n c).ownBlock ≠ (Value.slice A' n' c').ownBlock)
    {x : Int} {A : Option Addr} {n c r : Nat} (hx : jf x = some (A, n, c)) (hr : x = (r : Nat)) (hown : Own encC 3 e B w' A n c (patR ls f r)) (hg : w.grownBy w' (Value.slice A n c).ownBlock) : Rst ls f B Z e jf (fun y => lf y && decide (y ≠ x)) w' :=
  ⟨fun y A' n' c' hy => by
    obtain ⟨r', h1, h2, h3⟩ := h.keys y A' n' c' hy
    by_cases ey : y = x
    · subst ey
      rw [hx] at hy
      injection hy with hy
      injection hy with e1 e2
      injection e2 with e2 e3
      subst e1 e2 e3
      refine ⟨r', h1, ?_, h3⟩
      rw [if_neg (by simp), show r' = r by omega]
      exact hown
    · refine ⟨r', h1, ?_, h3⟩
      have e1 : (lf y && decide (y ≠ x)) = lf y := by simp [ey]
      rw [e1]
      exact h2.keepG hg (ha y x A' n' c' A n c ey hy hx)⟩
end
theorem sort_fin2 {l' m : List (Int × Int × Int)} (hp : l'.Perm m) (hw : WC l') (hn : (m.map posD).Nodup) : l' = srtC m := by
  have h1 : SSC l' := ssc_iff.2 ⟨hw, (hp.map posD).nodup_iff.2 hn⟩
  have h2 : SSC (srtC m) := ssc_iff.2 ⟨srtC_wc m, ((srtC_perm m).map posD).nodup_iff.2 hn⟩
  exact ssc_unique _ _ h1 h2 fun z => by rw [hp.mem_iff, (srtC_perm m).mem_iff]
/-- The head at a set's own index. -/
def hdOf (jf : Int → Option (Option Addr × Nat × Nat)) (r : Nat) : Option Addr × Nat × Nat := (jf (r : Nat)).getD (none, 0, 0)
/-- The sets that have been met, in the order in which they were. -/
def Vis (jf : Int → Option (Option Addr × Nat × Nat)) (lf : Int → Bool) (rs : List Nat) : Prop := rs.Nodup ∧ ∀ r : Nat, r ∈ rs ↔ (jf (r : Nat)).isSome = true ∧ lf (r : Nat) = false
theorem Vis.start {jf : Int → Option (Option Addr × Nat × Nat)} : Vis jf (fun x => (jf x).isSome) [] := ⟨List.nodup_nil, fun r => ⟨fun h => (by cases h), fun ⟨h1, h2⟩ => by simp only at h2; rw [h1] at h2; cases h2⟩⟩
theorem Vis.step {jf : Int → Option (Option Addr × Nat × Nat)} {lf : Int → Bool} {rs : List Nat} {r : Nat} (h : Vis jf lf rs) (h1 : (jf (r : Nat)).isSome = true) (h2 : lf (r : Nat) = true) : Vis jf (fun y => lf y && decide (y ≠ ((r : Nat) : Int))) (rs ++ [r]) := by
  refine ⟨?_, fun q => ?_⟩
  · rw [List.nodup_append]
    refine ⟨h.1, by simp, fun a ha b hb e => ?_⟩
    obtain rfl : b = r := by simpa using hb
    subst e
    have := ((h.2 a).1 ha).2
    rw [h2] at this; cases this
  · rw [List.mem_append, h.2 q]
    by_cases e : q = r
    · subst e; simp [h1]
    · have e' : ((q : Nat) : Int) ≠ (r : Int) := by omega
      simp [e, e']
theorem ownBlock_of_blk {A : Option Addr} {n c q : Nat} (hq : q ∈ blkH (A, n, c)) : (Value.slice A n c).ownBlock = some q := by
  unfold blkH at hq
  split at hq
  · cases hq
  · cases A with
    | none => simp at hq
    | some a =>
      simp at hq
      subst hq
      rfl
section
variable {ls : List (List (Int × Int × Int))} {f : Nat → Nat} {B Z : Nat} {e : TypeId} {jf : Int → Option (Option Addr × Nat × Nat)} {lf : Int → Bool} {w : World}
/-- All rows are sorted: the heads that were met read as the sets' patterns. -/
theorem Rst.heads {e' : TypeId} {Bo : Nat} {E : Option Addr} {m s : Nat} {rs : List Nat} (h : Rst ls f B Z e jf lf w) (hv : Vis jf lf rs) (hown : Own encH 1 e' Bo w E m s (rs.map (hdOf jf))) (hBo : Z ≤ Bo) : OwnX (ekB B) e' Bo w E m s (rs.map (patR ls f)) := by
  have key : ∀ r ∈ rs, ∃ A n c, hdOf jf r = (A, n, c) ∧ jf (r : Nat) = some (A, n, c) ∧ Own encC 3 e B w A n c (patR ls f r) ∧ ∀ q, (Value.slice A n c).ownBlock = some q → q < Z := by
    intro r hr
    obtain ⟨h1, h2⟩ := (hv.2 r).1 hr
    obtain ⟨p, hp⟩ := Option.isSome_iff_exists.1 h1
    obtain ⟨A, n, c⟩ := p
    obtain ⟨r', e1, e2, e3⟩ := h.keys _ A n c hp
    rw [if_neg (by rw [h2]; simp), show r' = r by omega] at e2
    exact ⟨A, n, c, by unfold hdOf; rw [hp]; rfl, hp, e2, e3⟩
  refine ⟨rs.map (hdOf jf), hown, ⟨by simp, fun i a b ha hb => ?_⟩, fun a ha q hq e1 => ?_⟩
  · rw [List.getElem?_map] at ha hb
    cases hr : rs[i]? with
    | none => rw [hr] at ha; cases ha
    | some r =>
      rw [hr] at ha hb
      simp only [Option.map_some, Option.some.injEq] at ha hb
      obtain ⟨A, n, c, k1, _, k3, k4⟩ := key r (List.mem_of_getElem? hr)
      subst hb
      rw [← ha, k1]
      refine ⟨⟨k3.rd encC_len, ?_⟩, k3.ge⟩
      rcases k3.row.2 with ⟨h0, _⟩ | ⟨g, cap, cur, hv', hg, hh, h1, r'⟩
      · injection h0 with _ e1 e2; simp only; omega
      · injection hv' with _ e1 e2; simp only; omega
  · obtain ⟨r, hr, rfl⟩ := List.mem_map.1 ha
    obtain ⟨A, n, c, k1, _, k3, k4⟩ := key r hr
    rw [k1] at hq
    have h1 := k4 q (ownBlock_of_blk hq)
    have h2 := (hown.row.lt q e1.symm).1
    omega
end
theorem cat_len {ls : List (List (Int × Int × Int))} {p : Nat → Bool} {i : Nat} (hi : i ≤ ls.length) : (catN ls p i).length ≤ sumL ls i := (catN_sub hi).length_le
end Go.Proofs.Ytenckggfgbkfnaa
