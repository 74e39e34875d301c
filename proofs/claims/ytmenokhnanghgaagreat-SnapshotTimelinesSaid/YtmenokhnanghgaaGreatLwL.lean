/- Laws of chapter 55: contracts in the laws' shape. By mklaw55.py. -/
import Derived.Test.YtmenokhnanghgaaGreatAwk55
import Derived.Test.YtmenokhnanghgaaGreatTRE
import Derived.Test.YtmenokhnanghgaaGreatFEW
namespace Go.Proofs.YtmenokhnanghgaaGreat
open Go Go.RowKit
set_option linter.unusedSimpArgs false
set_option linter.unusedVariables false
set_option maxRecDepth 100000
set_option linter.unusedSimpArgs false
set_option linter.unusedVariables false
theorem tlB_smT {key : Int} {fs : List TFr} (h : tlB key fs = true) : SmT fs := by
  obtain ⟨K, _, _, _, _, hok⟩ := tlB_ok h
  intro f hf
  obtain ⟨j, hj, rfl⟩ := List.getElem_of_mem hf
  have hje : fs[j]? = some fs[j] := List.getElem?_eq_getElem hj
  obtain ⟨⟨g, fu, C, D⟩, hfj⟩ : ∃ q, q = fs[j] := ⟨_, rfl⟩
  rw [← hfj] at hje ⊢
  obtain ⟨_, _, _, k1, k2⟩ := (okT_iff hje).1 (hok j)
  cases fu with
  | true =>
    obtain ⟨r1, r2⟩ := k1 rfl
    have := (rightC_ok r1).1
    subst r2
    exact ⟨by show C.length ≤ 1000000; omega, by simp⟩
  | false =>
    obtain ⟨r1, r2⟩ := k2 rfl
    have := (rightG_ok (apE_right r1).2.1).1
    subst r2
    exact ⟨by simp, by show D.length ≤ 1000000; omega⟩
theorem tm_smT {data : List Int} (hd : ByL data) (h : tmE (unB data) = 0) : SmT (tmV (unB data)).2 := by
  have hV : tmV (unB data) = ((tmK (unB data)).1, (tmF (unB data)).1) := by unfold tmV; rw [if_pos h]
  rw [hV]
  exact tlB_smT (tim_form hd h).1
section
variable {w : World} {A B : Option Addr} {n m c d : Nat} {l : List Cel} {st key : Int} {H : List (Int × Int)} {N : List Nd} {Q : List Qd} {fs : List TFr} {data : List Int}
theorem same54 (ka : Int) {c d : Nat} (hF : RdX ekFr w A n fs) (hG : RdX ekFr w B m fs) (hs : SmT fs) (hn : n ≤ 1000000) : Calls Tryz.prog 32 #[.agg #[.int .i64 ka, .slice A n c], .agg #[.int .i64 ka, .slice B m d]] w fun e w' => e = .returned (.bool true) ∧ Below w.heap.size w w' := by
  have k := ref54_Same ka ka A B n c m d fs fs w hF hG hs hs hn
  rwa [tlS_selfA] at k
end
end Go.Proofs.YtmenokhnanghgaaGreat
