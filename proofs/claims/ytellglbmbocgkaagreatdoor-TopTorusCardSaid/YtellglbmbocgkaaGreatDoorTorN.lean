/- Plain: the generations of a grid in a torus of 32 by 32. -/
import Derived.Test.YtellglbmbocgkaaGreatDoorPLN
import Derived.Test.YtellglbmbocgkaaGreatDoorTorM
namespace Go.Proofs.YtellglbmbocgkaaGreatDoor
open Go Go.RowKit
set_option linter.unusedSimpArgs false
set_option linter.unusedVariables false
/-- A grid's states. -/
structure OkG (st : Int) (g : List Int) : Prop where
  len : g.length = 1024
  st : ∀ s ∈ g, 0 ≤ s ∧ s < st
theorem OkG.le {st st' : Int} {g : List Int} (h : OkG st g) (hs : st ≤ st') : OkG st' g := ⟨h.len, fun s hg => by have := h.st s hg; omega⟩
section
variable {st : Int} {H : List (Int × Int)} {N : List (Int × List Int)} {g : List Int} {x y : Int}
/-- The states of the neighbours of a cell of a torus. -/
def nbG (H : List (Int × Int)) (g : List Int) (x y : Int) : List Int := H.map fun o => g.getD (mdT (y + o.2) * 32 + mdT (x + o.1)) 0
theorem nbG_len : (nbG H g x y).length = H.length := by simp [nbG]
theorem nbG_at {j : Nat} {o : Int × Int} (h : H[j]? = some o) : (nbG H g x y)[j]? = some (g.getD (mdT (y + o.2) * 32 + mdT (x + o.1)) 0) := by
  unfold nbG; rw [List.getElem?_map, h]; rfl
theorem nbG_ok (h0 : 0 < st) (hg : OkG st g) : ∀ s ∈ nbG H g x y, 0 ≤ s ∧ s < st := by
  intro s hs
  obtain ⟨o, _, rfl⟩ := List.mem_map.1 hs
  rw [List.getD_eq_getElem?_getD]
  cases h : g[mdT (y + o.2) * 32 + mdT (x + o.1)]? with
  | none => exact ⟨by simp, by simpa using h0⟩
  | some v => exact hg.st v (List.mem_of_getElem? h)
/-- The next generation in the torus. -/
def nxG (H : List (Int × Int)) (N : List (Int × List Int)) (g : List Int) : List Int := (List.range 1024).map fun i => valT N (nbG H g ((i % 32 : Nat) : Int) ((i / 32 : Nat) : Int))
theorem nxG_len (g : List Int) : (nxG H N g).length = 1024 := by unfold nxG; simp
theorem nxG_at {i : Nat} (h : i < 1024) : (nxG H N g)[i]? = some (valT N (nbG H g ((i % 32 : Nat) : Int) ((i / 32 : Nat) : Int))) := by
  unfold nxG; rw [List.getElem?_map, List.getElem?_range h]; rfl
theorem nxG_ok (hr : trR st H N = true) (hg : OkG st g) : OkG st (nxG H N g) := by
  refine ⟨nxG_len g, fun s hs => ?_⟩
  obtain ⟨i, _, rfl⟩ := List.mem_map.1 hs
  have h2 := (trR_parts hr).1
  exact valT_range hr nbG_len (nbG_ok (by omega) hg)
def itG (H : List (Int × Int)) (N : List (Int × List Int)) (g : List Int) : Nat → List Int
  | 0 => g
  | k + 1 => nxG H N (itG H N g k)
theorem itG_ok (hr : trR st H N = true) (hg : OkG st g) : ∀ k, OkG st (itG H N g k)
  | 0 => hg
  | k + 1 => nxG_ok hr (itG_ok hr hg k)
/-- The first i cells of the next generation, zeros behind them. -/
def pgG (H : List (Int × Int)) (N : List (Int × List Int)) (g : List Int) (i : Nat) : List Int := (nxG H N g).take i ++ List.replicate (1024 - i) 0
theorem pgG_zero : pgG H N g 0 = List.replicate 1024 0 := rfl
theorem pgG_all : pgG H N g 1024 = nxG H N g := by
  unfold pgG
  rw [List.take_of_length_le (by rw [nxG_len]; omega)]
  simp
theorem pgG_set {i : Nat} {v : Int} (h : i < 1024) (hv : v = valT N (nbG H g ((i % 32 : Nat) : Int) ((i / 32 : Nat) : Int))) : (pgG H N g i).set i v = pgG H N g (i + 1) := by
  unfold pgG
  have hl : ((nxG H N g).take i).length = i := by rw [List.length_take, nxG_len]; omega
  rw [List.set_append, if_neg (by omega), hl, Nat.sub_self, show 1024 - i = (1024 - (i + 1)) + 1 by omega, List.replicate_succ, List.set_cons_zero, List.take_add_one, nxG_at h, hv]
  simp
end
end Go.Proofs.YtellglbmbocgkaaGreatDoor
