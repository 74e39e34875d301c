/- The contracts of direct.place, its reference, direct.of, and the new state of a cell. The contract of direct.step. The contract of direct.History. -/
import Derived.Test.YtmenokhnanghgaaGreatTRE
import Derived.Test.YtmenokhnanghgaaGreatPLN
import Derived.Test.YtmenokhnanghgaaGreatMAP
import Derived.Test.YtmenokhnanghgaaGreatCEL
import Derived.Test.YtmenokhnanghgaaGreatSRT
import Derived.Test.YtmenokhnanghgaaGreatMEM
import Derived.Maps.AppendAt
set_option linter.unusedSimpArgs false
set_option linter.unusedVariables false
section
namespace Go.Proofs.YtmenokhnanghgaaGreat
open Go Go.RowKit
set_option maxRecDepth 100000
theorem below_map1 {B b : Nat} {w0 w w' : World} (h : Below B w0 w) (hg : w.grownBy w' (some b)) (hw : B ≤ w.heap.size) (hB : B ≤ b) : Below B w0 w' :=
  h.grown hg hw fun g e => by injection e with e; omega
end Go.Proofs.YtmenokhnanghgaaGreat
end
section
namespace Go.Proofs.YtmenokhnanghgaaGreat
open Go Go.RowKit
set_option maxRecDepth 100000
theorem TrAt.grown {w w' : World} {b : Nat} {x y z : Value} {row : Option Nat} (h : TrAt w b x y z) (hg : w.grownBy w' row) (hne : some b ≠ row) : TrAt w' b x y z := by
  have hbl := hg.block b h.1 hne
  have hc : ∀ i, w'.cell? ⟨b, i, none⟩ = w.cell? ⟨b, i, none⟩ := fun i => World.cell?_of_block hbl
  exact ⟨Nat.lt_of_lt_of_le h.1 hg.size, by rw [hc]; exact h.2.1, by rw [hc]; exact h.2.2.1, by rw [hc]; exact h.2.2.2⟩
theorem DuAt.grown {w w' : World} {b : Nat} {x y : Value} {row : Option Nat} (h : DuAt w b x y) (hg : w.grownBy w' row) (hne : some b ≠ row) : DuAt w' b x y := by
  have hbl := hg.block b h.1 hne
  have hc : ∀ i, w'.cell? ⟨b, i, none⟩ = w.cell? ⟨b, i, none⟩ := fun i => World.cell?_of_block hbl
  exact ⟨Nat.lt_of_lt_of_le h.1 hg.size, by rw [hc]; exact h.2.1, by rw [hc]; exact h.2.2⟩
theorem Own.overBlock {α : Type} {enc : α → List Value} {k : Nat} {e : TypeId} {B b n c : Nat} {w w' : World} {A : Option Addr} {l : List α} (h : Own enc k e B w A n c l) (hg : w.grownBy w' (some b)) (hb : b < B) : Own enc k e B w' A n c l := by
  refine ⟨⟨h.row.1, ?_⟩, h.len⟩
  rcases h.row.2 with h0 | ⟨g, cap, cur, hv, hge, hh, r⟩
  · exact .inl h0
  · exact .inr ⟨g, cap, cur, hv, hge, (hg.block g (Array.getElem?_eq_some_iff.1 hh).1 (fun e => by injection e with e; omega)).trans hh, r⟩
def DnAt (b K : Nat) (cand : List (Int × Int)) (w : World) : Prop := ∃ g : Int × Int → Option Bool, mkPB.At b K g w ∧ ∀ q, (g q).getD false = decide (q ∈ cand)
theorem DnAt.made (w : World) : DnAt w.heap.size 0 [] (w.alloc (.map #[] 0)) := ⟨fun _ => none, MK.At.made mkPB w, fun q => by simp⟩
theorem DnAt.of {b K : Nat} {cand : List (Int × Int)} {w w' : World} (h : DnAt b K cand w) (hb : Below w.heap.size w w') : DnAt b K cand w' := by
  obtain ⟨g, h1, h2⟩ := h; exact ⟨g, h1.of hb, h2⟩
theorem DnAt.grown {b K : Nat} {cand : List (Int × Int)} {w w' : World} {row : Option Nat} (h : DnAt b K cand w) (hg : w.grownBy w' row) (hne : some b ≠ row) : DnAt b K cand w' := by
  obtain ⟨g, h1, h2⟩ := h; exact ⟨g, h1.grown hg hne, h2⟩
theorem DnAt.mono {b K K' : Nat} {cand : List (Int × Int)} {w : World} (h : DnAt b K cand w) (hk : K ≤ K') : DnAt b K' cand w := by
  obtain ⟨g, h1, h2⟩ := h; exact ⟨g, h1.mono hk, h2⟩
end Go.Proofs.YtmenokhnanghgaaGreat
end
section
namespace Go.Proofs.YtmenokhnanghgaaGreat
open Go Go.RowKit
set_option maxRecDepth 100000
theorem OwnX.cap {e : TypeId} {B n c : Nat} {w : World} {A : Option Addr} {bs : List (List (Int × Int × Int))} (h : OwnX ekC e B w A n c bs) : n ≤ c := by
  obtain ⟨xs0, h1, _, _⟩ := h
  exact own_cap h1
section
variable (st : Int) (A B D : Option Addr) (n c m d k e : Nat) (H : List (Int × Int)) (N : List (Int × List Int)) (p : List (Int × Int × Int)) (w : World)
end
end Go.Proofs.YtmenokhnanghgaaGreat
end
