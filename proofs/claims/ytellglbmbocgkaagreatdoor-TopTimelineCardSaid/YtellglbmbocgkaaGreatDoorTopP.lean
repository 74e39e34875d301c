/- The frames of a recorded run are small. Plain. -/
import Derived.Test.YtellglbmbocgkaaGreatDoorTim8
namespace Go.Proofs.YtellglbmbocgkaaGreatDoor
open Go Go.RowKit
set_option linter.unusedSimpArgs false
set_option linter.unusedVariables false
theorem of_len (a b : List Cel) : (ofL a b).length ≤ 10000 := by
  unfold ofL
  split
  · rename_i h
    have := ofR_right h.1 h.2
    unfold rightG at this
    rw [Bool.and_eq_true, decide_eq_true_eq] at this
    exact this.1
  · simp
theorem getD_small {l : List (List Cel)} (h : ∀ p ∈ l, rightC p = true) (i : Nat) : (l.getD i []).length ≤ 5000 := by
  rw [List.getD_eq_getElem?_getD]
  cases hx : l[i]? with
  | none => simp
  | some x => rw [Option.getD_some]; exact (rightC_ok (h x (List.mem_of_getElem? hx))).1
theorem bld_sm {K : Nat} {g : List Int} {l : List (List Cel)} (h : ∀ p ∈ l, rightC p = true) : ∀ n, SmT (bldL K g l n)
  | 0 => fun f hf => by cases hf
  | n + 1 => fun f hf => by
    rcases List.mem_append.1 hf with hf | hf
    · exact bld_sm h n f hf
    · obtain rfl : f = bldF K g l n := by simpa using hf
      unfold bldF
      have h1 := getD_small h n
      have h2 := of_len (l.getD (n - 1) []) (l.getD n [])
      constructor
      · show (if n % K = 0 then _ else _ : List Cel).length ≤ _
        split
        · omega
        · simp
      · show (if n % K = 0 then _ else _ : List Chg).length ≤ _
        split
        · simp
        · omega
theorem sm_nil : SmT [] := fun f hf => by cases hf
theorem rc_sm (st : Int) (H : List (Int × Int)) (N : List (Int × List Int)) (p : List Cel) (nn key : Int) : SmT (rcL st H N p nn key) ∧ (rcL st H N p nn key).length ≤ 1000000 := by
  unfold rcL
  split
  · rename_i h
    obtain ⟨h1, h2, h3, h4⟩ := rc_ok h
    obtain ⟨n, rfl⟩ : ∃ n : Nat, nn = n := ⟨nn.toNat, by omega⟩
    exact ⟨bld_sm (his_right h1 h4) _, by rw [bld_len]; omega⟩
  · exact ⟨sm_nil, by simp⟩
end Go.Proofs.YtellglbmbocgkaaGreatDoor
