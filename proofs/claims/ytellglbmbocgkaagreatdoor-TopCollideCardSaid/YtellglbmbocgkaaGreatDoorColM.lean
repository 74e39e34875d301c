/- Ships and shots in memory; a row of patterns of the call's own whose elements are stored anew. Over any program. -/
import Derived.Test.YtellglbmbocgkaaGreatDoorColP
import Derived.Test.YtellglbmbocgkaaGreatDoorMEM
import Derived.Test.YtellglbmbocgkaaGreatDoorBxP
namespace Go.Proofs.YtellglbmbocgkaaGreatDoor
open Go Go.RowKit
set_option linter.unusedSimpArgs false
set_option linter.unusedVariables false
def encSh (a : (Option Addr × Nat × Nat) × Mot) : List Value := [.slice a.1.1 a.1.2.1 a.1.2.2, .int .i64 a.2.1, .int .i64 a.2.2.1, .int .i64 a.2.2.2]
theorem encSh_len (x : (Option Addr × Nat × Nat) × Mot) : (encSh x).length = 4 := rfl
theorem encSh_one : ∀ y, ∀ u ∈ encSh y, u.oneCell' = true := by
  intro y u hu
  simp [encSh] at hu
  rcases hu with rfl | rfl | rfl | rfl <;> rfl
def ekSh : EK ((Option Addr × Nat × Nat) × Mot) ShpT where
  enc := encSh
  k := 4
  len := encSh_len
  one := encSh_one
  pos := by omega
  rel w a s := (Rd encC 3 w a.1.1 a.1.2.1 s.1 ∧ a.1.2.1 ≤ a.1.2.2) ∧ a.2 = s.2
  blk a := blkH a.1
  keep h hg hr := ⟨⟨h.1.1.grown hg hr, h.1.2⟩, h.2⟩
  lt h := h.1.1.blk_lt
theorem RdX.shp {w : World} {A : Option Addr} {n : Nat} {S : List ShpT} (g : RdX ekSh w A n S) {i : Nat} (hi : i < n) : ∃ l P X Y E m c b o, Hid (S[i]? = some (l, P, X, Y)) ∧ A = some ⟨b, o, none⟩ ∧ b < w.heap.size ∧
    w.cell? ⟨b, o + i * 4, none⟩ = some (.slice E m c) ∧ w.cell? ⟨b, o + i * 4 + 1, none⟩ = some (.int .i64 P) ∧ w.cell? ⟨b, o + i * 4 + 2, none⟩ = some (.int .i64 X) ∧ w.cell? ⟨b, o + i * 4 + 3, none⟩ = some (.int .i64 Y) ∧
    Rd encC 3 w E m l ∧ m ≤ c := by
  obtain ⟨x, s, b, o, h1, h2, h3, h4, ⟨h5, h6⟩, h7⟩ := g.elem hi
  obtain ⟨l, P, X, Y⟩ := s
  obtain ⟨⟨E, m, c⟩, P', X', Y'⟩ := x
  simp only [Prod.mk.injEq] at h5 h6 h7
  obtain ⟨rfl, rfl, rfl⟩ := h7
  exact ⟨l, P', X', Y', E, m, c, b, o, h1, h2, h3, h4 0 _ rfl, h4 1 _ rfl, h4 2 _ rfl, h4 3 _ rfl, h5, h6⟩
theorem shp_at {S : List ShpT} {i : Nat} {s : ShpT} (h : S[i]? = some s) : shpAt S (i : Int) = s := by unfold shpAt; rw [Int.toNat_natCast, List.getD_eq_getElem?_getD, h]; rfl
def encSt (x : ShtT) : List Value := [.int .i64 x.1, .int .i64 x.2.1, .int .i64 x.2.2.1, .int .i64 x.2.2.2.1, .int .i64 x.2.2.2.2]
theorem Rd.sht {w : World} {A : Option Addr} {n : Nat} {L : List ShtT} (g : Rd encSt 5 w A n L) {i : Nat} (hi : i < n) : ∃ a b c d e bo o, Hid (L[i]? = some (a, b, c, d, e)) ∧ A = some ⟨bo, o, none⟩ ∧ bo < w.heap.size ∧
    w.cell? ⟨bo, o + i * 5, none⟩ = some (.int .i64 a) ∧ w.cell? ⟨bo, o + i * 5 + 1, none⟩ = some (.int .i64 b) ∧ w.cell? ⟨bo, o + i * 5 + 2, none⟩ = some (.int .i64 c) ∧ w.cell? ⟨bo, o + i * 5 + 3, none⟩ = some (.int .i64 d) ∧ w.cell? ⟨bo, o + i * 5 + 4, none⟩ = some (.int .i64 e) := by
  obtain ⟨x, b, o, h3, h4, h5, h6⟩ := g.elem hi
  obtain ⟨x1, x2, x3, x4, x5⟩ := x
  exact ⟨x1, x2, x3, x4, x5, b, o, h3, h4, h5, h6 0 _ rfl, h6 1 _ rfl, h6 2 _ rfl, h6 3 _ rfl, h6 4 _ rfl⟩
theorem OwnX.setP {e : TypeId} {B g n c : Nat} {w : World} {ls : List (List (Int × Int × Int))} (h : OwnX ekC e B w (some ⟨g, 0, none⟩) n c ls) {i : Nat} (hi : i < n) {E : Option Addr} {m k : Nat} {l : List (Int × Int × Int)} (hR : Rd encC 3 w E m l) (hmk : m ≤ k) (hE : ∀ q ∈ blkH (E, m, k), q ≠ g) :
    OwnX ekC e B (w.setCell ⟨g, i, none⟩ (.slice E m k)) (some ⟨g, 0, none⟩) n c (ls.set i l) := by
  obtain ⟨xs0, h1, h2, h3⟩ := h
  have hl : i < xs0.length := by rw [h1.len]; exact hi
  have hgr := grownBy_set w g i (.slice E m k)
  have hob : (Value.slice (some ⟨g, 0, none⟩) n c).ownBlock = some g ∨ n = 0 := by
    rcases h1.row.2 with ⟨h0, _⟩ | ⟨g', cap, cur, hv, _⟩
    · cases h0
    · exact .inl rfl
  have hob : (Value.slice (some ⟨g, 0, none⟩) n c).ownBlock = some g := by rcases hob with h | h; exact h; omega
  refine ⟨xs0.set i (E, m, k), ⟨?_, by simp [h1.len]⟩, ⟨by simp [h2.1], fun j a b ha hb => ?_⟩, fun a ha q hq => ?_⟩
  · have hs := (h1.row.stored i (.slice E m k)).1
    have he : (xs0.flatMap ekC.enc).set i (.slice E m k) = (xs0.set i (E, m, k)).flatMap ekC.enc := by
      have hone : ∀ ys : List (Option Addr × Nat × Nat), ys.flatMap ekC.enc = ys.map fun x => Value.slice x.1 x.2.1 x.2.2 := fun ys => by
        induction ys with
        | nil => rfl
        | cons y ys ih => rw [List.flatMap_cons, ih, List.map_cons]; rfl
      rw [hone, hone, List.map_set]
    rw [← he]; exact hs
  · rw [List.getElem?_set] at ha hb
    by_cases e1 : i = j
    · subst e1
      rw [if_pos rfl, if_pos hl] at ha
      rw [if_pos rfl, if_pos (by rw [← h2.1]; exact hl)] at hb
      injection ha with ha
      injection hb with hb
      subst ha hb
      exact ⟨hR.grown (h := (E, m, k)) hgr (fun q hq e2 => hE q hq (by injection e2)), hmk⟩
    · rw [if_neg e1] at ha hb
      refine ekC.keep (h2.2 j a b ha hb) hgr fun q hq e2 => ?_
      have := h3 a (List.mem_of_getElem? ha) q hq
      rw [hob] at this
      exact this e2
  · rw [hob]
    rcases List.mem_or_eq_of_mem_set ha with hm | rfl
    · have := h3 a hm q hq
      rw [hob] at this
      exact this
    · intro e2; injection e2 with e2; exact hE q hq e2
end Go.Proofs.YtellglbmbocgkaaGreatDoor
