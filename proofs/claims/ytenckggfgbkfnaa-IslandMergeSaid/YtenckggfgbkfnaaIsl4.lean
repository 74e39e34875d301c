/- The contract of root: the way to a set's own index. -/
import Derived.Test.YtenckggfgbkfnaaPLN
import Derived.Test.YtenckggfgbkfnaaIsl3
namespace Go.Proofs.Ytenckggfgbkfnaa
open Go Go.RowKit
set_option linter.unusedSimpArgs false
set_option linter.unusedVariables false
set_option maxRecDepth 100000
attribute [local go_sem ↓ high] eq_cl neq_cl eq_pt neq_pt
theorem grown_set (w : World) (a : Addr) (u : Value) : w.grownBy (w.setCell a u) (some a.block) :=
  ⟨rfl, rfl, rfl, by simp, fun i _ hi => by
    have h : a.block ≠ i := fun e => hi (by rw [e])
    simp [World.setCell, Array.getElem?_modify, h]⟩
theorem grown_drew {w w' : World} {row : Option Nat} (h : w.grownBy w' row) : w.grownBy w'.drew row := ⟨h.os, h.tape, h.output, h.size, h.block⟩
/-- The forest as it lies in the world. -/
structure UFt (g B n c : Nat) (e : TypeId) (f dep : Nat → Nat) (w : World) : Prop where
  ex : ∃ gl, Own encI 1 e B w (some ⟨g, 0, none⟩) n c gl ∧ UF n gl f dep
theorem UFt.of {g B n c : Nat} {e : TypeId} {f dep : Nat → Nat} {w w' : World} (h : UFt g B n c e f dep w) (hb : Below w.heap.size w w') : UFt g B n c e f dep w' := by
  obtain ⟨gl, h1, h2⟩ := h.ex
  exact ⟨gl, h1.of hb, h2⟩
theorem UFt.lt {g B n c : Nat} {e : TypeId} {f dep : Nat → Nat} {w : World} (h : UFt g B n c e f dep w) : B ≤ g ∧ g < w.heap.size := by
  obtain ⟨gl, h1, h2⟩ := h.ex
  exact own_lt h1
theorem UFt.drew {g B n c : Nat} {e : TypeId} {f dep : Nat → Nat} {w : World} (h : UFt g B n c e f dep w) : UFt g B n c e f dep w.drew := by
  obtain ⟨gl, h1, h2⟩ := h.ex
  exact ⟨gl, h1.drew, h2⟩
theorem UFt.grown {g B n c : Nat} {e : TypeId} {f dep : Nat → Nat} {w w' : World} {row : Option Nat} (h : UFt g B n c e f dep w) (hg : w.grownBy w' row) (hr : some g ≠ row) : UFt g B n c e f dep w' := by
  obtain ⟨gl, h1, h2⟩ := h.ex
  refine ⟨gl, ⟨⟨h1.row.1, ?_⟩, h1.len⟩, h2⟩
  rcases h1.row.2 with h0 | ⟨g', cap, cur, hv, hge, hh, r⟩
  · exact .inl h0
  · injection hv with hA hB hC
    injection hA with hA
    injection hA with hA
    subst hA hC
    exact .inr ⟨g, c, cur, rfl, hge, (hg.block g (Array.getElem?_eq_some_iff.1 hh).1 hr).trans hh, r⟩
set_option maxHeartbeats 4000000 in
theorem isl_root (g B n c i : Nat) (f dep : Nat → Nat) (w : World) (h : UFt g B n c 3 f dep w) (hi : i < n) (hn : n ≤ 1000000) :
    Calls Try.prog 27 #[.slice (some ⟨g, 0, none⟩) n c, .int .i64 i] w fun e w' => e = .returned (.int .i64 ((f i : Nat) : Int)) ∧ UFt g B n c 3 f dep w' ∧ w.grownBy w' (some g) := by
  go_enter Try.func27, Try.ntmps27
  go_wp2
  go_loopw [1] (fun v wr => ∃ (k : Nat), v = .int .i64 k ∧ k < n ∧ Hid (f k = f i) ∧ UFt g B n c 3 f dep wr ∧ w.grownBy wr (some g)) (fun v _ => dep (intOf v).toNat)
  case atStart => exact ⟨i, rfl, hi, Lib.hid rfl, h, World.grownBy.refl w _⟩
  case round =>
    clear h
    obtain ⟨k, rfl, hk, hf, hu, hg⟩ := hrel
    obtain ⟨gl, hO, hU⟩ := hu.ex
    obtain ⟨x, hx, g0, g1, g2, _, _⟩ := hO.intCell hk
    by_cases hne : x = (k : Int)
    · subst hne
      have dn : ((k : Int) != (k : Int)) = false := by simp
      have HR := Lib.hid (show f i = k by rw [← hf.out]; exact hU.at_root hk hx.out)
      go_wp2_with fail
      go_ret
      exact ⟨ret_int (by rw [HR.out]), hu, hg⟩
    · obtain ⟨j, hj, hjn, _⟩ := hU.nxt k hk
      have hxj := hx.out
      rw [hj] at hxj
      injection hxj with hxj
      subst hxj
      obtain ⟨y, hy, _, g3, g4, _, _⟩ := hO.intCell hjn
      obtain ⟨hU', m, rfl, hm, hfm, hdm⟩ := hU.halve hk hx.out hne (by rw [Int.toNat_natCast]; exact hy.out)
      have dn : ((j : Int) != (k : Int)) = true := by simp only [bne_iff_ne, ne_eq]; exact hne
      have hfm := Lib.hid (hfm.trans hf.out)
      have hdm := Lib.hid hdm
      clear hj hne hf
      go_wp2_with fail
      go_roundw
      case rel => exact ⟨m, rfl, hm, hfm, ⟨_, own_setI hO hk m, hU'⟩, hg.andThen (grown_set wr ⟨g, k, none⟩ _) (fun q hq => .inr hq)⟩
      case measure => simp [intOf]; exact hdm.out
end Go.Proofs.Ytenckggfgbkfnaa
