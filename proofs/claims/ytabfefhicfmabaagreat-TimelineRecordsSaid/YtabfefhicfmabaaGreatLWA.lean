/- The contract of chapter 54's few. The answers of chapter 54's calls are small. Plain. -/
import Derived.Test.YtabfefhicfmabaaGreatALV
set_option linter.unusedSimpArgs false
set_option linter.unusedVariables false
section
namespace Go.Proofs.YtabfefhicfmabaaGreat
open Go Go.RowKit
set_option maxRecDepth 100000
/-- A timeline of at most 40 frames of at most 100 cells and changes. -/
def fewF (fs : List TFr) : Bool := decide (fs.length ≤ 40) && fs.all fun f => decide (f.2.2.1.length ≤ 100) && decide (f.2.2.2.length ≤ 100)
theorem few_no {fs : List TFr} {f : TFr} {j : Nat} (hf : fs[j]? = some f) (h : 100 < f.2.2.1.length ∨ 100 < f.2.2.2.length) : fewF fs = false := by
  unfold fewF
  rw [Bool.and_eq_false_iff]
  right
  rw [List.all_eq_false]
  refine ⟨f, List.mem_of_getElem? hf, ?_⟩
  rw [Bool.and_eq_true, decide_eq_true_eq, decide_eq_true_eq]
  omega
theorem few_all {fs : List TFr} {n : Nat} (hl : fs.length = n) (h : ∀ (i : Nat) f, i < n → fs[i]? = some f → f.2.2.1.length ≤ 100 ∧ f.2.2.2.length ≤ 100) : fewF fs = decide ((n : Int) ≤ 40) := by
  unfold fewF
  rw [show (fs.all fun f => decide (f.2.2.1.length ≤ 100) && decide (f.2.2.2.length ≤ 100)) = true from ?_, Bool.and_true, hl, decide_eq_decide]
  · omega
  · rw [List.all_eq_true]
    intro f hf
    obtain ⟨i, hi, rfl⟩ := List.getElem_of_mem hf
    have := h i _ (by omega) (List.getElem?_eq_getElem hi)
    rw [Bool.and_eq_true, decide_eq_true_eq, decide_eq_true_eq]
    exact this
end Go.Proofs.YtabfefhicfmabaaGreat
end
section
namespace Go.Proofs.YtabfefhicfmabaaGreat
open Go Go.RowKit
theorem of_len (a b : List Cel) : (ofL a b).length ≤ 10000 := by
  unfold ofL
  split
  · rename_i h
    have := ofR_right h.1 h.2
    unfold rightG at this
    rw [Bool.and_eq_true, decide_eq_true_eq] at this
    exact this.1
  · simp
theorem getD_small {l : List (List Cel)} (h : ∀ p ∈ l, rightC p = true) (i : Nat) : (l.getD i []).length ≤ 5000 := by
  rw [List.getD_eq_getElem?_getD]
  cases hx : l[i]? with
  | none => simp
  | some x => rw [Option.getD_some]; exact (rightC_ok (h x (List.mem_of_getElem? hx))).1
theorem bld_sm {K : Nat} {g : List Int} {l : List (List Cel)} (h : ∀ p ∈ l, rightC p = true) : ∀ n, SmT (bldL K g l n)
  | 0 => fun f hf => by cases hf
  | n + 1 => fun f hf => by
    rcases List.mem_append.1 hf with hf | hf
    · exact bld_sm h n f hf
    · obtain rfl : f = bldF K g l n := by simpa using hf
      unfold bldF
      have h1 := getD_small h n
      have h2 := of_len (l.getD (n - 1) []) (l.getD n [])
      constructor
      · show (if n % K = 0 then _ else _ : List Cel).length ≤ _
        split
        · omega
        · simp
      · show (if n % K = 0 then _ else _ : List Chg).length ≤ _
        split
        · simp
        · omega
theorem sm_nil : SmT [] := fun f hf => by cases hf
theorem rc_sm (st : Int) (H : List (Int × Int)) (N : List (Int × List Int)) (p : List Cel) (nn key : Int) : SmT (rcL st H N p nn key) ∧ (rcL st H N p nn key).length ≤ 1000000 := by
  unfold rcL
  split
  · rename_i h
    obtain ⟨h1, h2, h3, h4⟩ := rc_ok h
    obtain ⟨n, rfl⟩ : ∃ n : Nat, nn = n := ⟨nn.toNat, by omega⟩
    exact ⟨bld_sm (his_right h1 h4) _, by rw [bld_len]; omega⟩
  · exact ⟨sm_nil, by simp⟩
end Go.Proofs.YtabfefhicfmabaaGreat
end
