/- Plain facts on orbits: no program in sight. -/
import Derived.Test.YtobbkclfbbblaaaDoorGrpQ
namespace Go.Proofs.YtobbkclfbbblaaaDoor
open Go Go.RowKit
set_option linter.unusedSimpArgs false
set_option linter.unusedVariables false
def odd (k : Int) : Bool := decide (k.tmod 2 = 1)
def anyOdd (l : List Int) : Bool := l.any odd
def keeps (k w h : Int) : Bool := !odd (k % 8) || decide (w = h)
/-- One step of the least number of an orbit: q is what Within gives. -/
def lstep (W : Int → Int × Int) (w : Int) (m k : Int) : Int := min m (wrap64 (wrap64 ((W k).2 * w) + (W k).1))
def least (W : Int → Int → Int → Int × Int) (g : List Int) (w x y : Int) : Int := g.foldl (lstep (W x y) w) (y * w + x)
def orb (W : Int → Int → Int → Int × Int) (g : List Int) (w n : Nat) : List Int := (List.range n).map fun i => least W g w ((i % w : Nat) : Int) ((i / w : Nat) : Int)
theorem orb_len (W : Int → Int → Int → Int × Int) (g : List Int) (w n : Nat) : (orb W g w n).length = n := by simp [orb]
theorem orb_snoc (W : Int → Int → Int → Int × Int) (g : List Int) (w x y : Nat) (hx : x < w) : orb W g w (y * w + x + 1) = orb W g w (y * w + x) ++ [least W g w (x : Int) (y : Int)] := by
  unfold orb
  rw [List.range_succ, List.map_append, List.map_singleton]
  have h1 : (y * w + x) % w = x := by rw [Nat.mul_comm, Nat.mul_add_mod]; exact Nat.mod_eq_of_lt hx
  have h2 : (y * w + x) / w = y := by rw [Nat.mul_comm, Nat.mul_add_div (by omega)]; simp [Nat.div_eq_of_lt hx]
  rw [h1, h2]
theorem fold_snoc {W : Int → Int × Int} {w m : Int} {g : List Int} {i : Nat} {k : Int} (h : g[i]? = some k) : (g.take (i + 1)).foldl (lstep W w) m = lstep W w ((g.take i).foldl (lstep W w) m) k := by
  obtain ⟨hi, e⟩ := List.getElem?_eq_some_iff.1 h
  rw [List.take_succ_eq_append_getElem hi, List.foldl_append, e]
  rfl
/-- Are the sides of a grid valid? -/
def sideB (w h : Int) : Bool := decide (1 ≤ w ∧ w ≤ 256 ∧ 1 ≤ h ∧ h ≤ 256 ∧ w * h ≤ 4096)
theorem prod_bound {w h : Int} (hw : 1 ≤ w ∧ w ≤ 256) (hh : 1 ≤ h ∧ h ≤ 256) : 1 ≤ w * h ∧ w * h ≤ 65536 := by
  have h1 := Int.mul_le_mul hw.2 hh.2 (by omega) (by omega)
  have h2 := Int.mul_le_mul hw.1 hh.1 (by omega) (by omega)
  omega
theorem grp_mem {l : List Int} {k : Int} (h : k ∈ grp l) : 0 ≤ k ∧ k < 8 := by
  unfold grp at h
  obtain ⟨i, hi, rfl⟩ := List.mem_map.1 h
  have := (List.mem_filter.1 hi).1
  simp at this
  omega
theorem keeps_grp {l : List Int} {k w h : Int} (hk : k ∈ grp l) : keeps k w h = (!odd k || decide (w = h)) := by
  have := grp_mem hk
  unfold keeps
  rw [Int.emod_eq_of_lt this.1 this.2]
end Go.Proofs.YtobbkclfbbblaaaDoor
