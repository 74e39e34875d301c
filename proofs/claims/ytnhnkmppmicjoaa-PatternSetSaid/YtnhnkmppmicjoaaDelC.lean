/- The contract of slices.Delete at one cell of a row of the call's own. -/
import Derived.Test.YtnhnkmppmicjoaaSplice
import Derived.Test.YtnhnkmppmicjoaaSearch
import Derived.Deep.RegionLaw
namespace Go.Proofs.Ytnhnkmppmicjoaa
open Go Go.RowKit
set_option linter.unusedSimpArgs false
set_option linter.unusedVariables false
set_option maxRecDepth 100000
attribute [local go_sem ↓ high] eq_cl neq_cl eq_pt neq_pt
set_option maxHeartbeats 4000000 in
theorem delete_ce (B g n c k : Nat) (l : List (Int × Int × Int)) (w : World) (hO : Own encC 3 50 B w (some ⟨g, 0, none⟩) n c l) (hk : k < n) (hn : n ≤ 1000000) :
    Calls Try.prog 76 #[.slice (some ⟨g, 0, none⟩) n c, .int .i64 k, .int .i64 ((k : Int) + 1)] w fun e w' => e = .returned (.slice (some ⟨g, 0, none⟩) (n - 1) c) ∧ Rd encC 3 w' (some ⟨g, 0, none⟩) (n - 1) (l.take k ++ l.drop (k + 1)) ∧ Below B w w' := by
  obtain ⟨cur, hh, hg, hnc, hcm, hcur, hcl⟩ := own_block hO
  have hgs := (own_lt hO).2
  have hc63 : c ≤ 9223372036854775807 := by unfold maxLen at hcm; omega
  have hlen := hO.len
  obtain ⟨news, hnews⟩ : ∃ news, news = (l.drop (k + 1)).flatMap encC := ⟨_, rfl⟩
  have s1 : Hid (news.length = (n - (k + 1)) * 3) := by rw [hnews]; show _ = _; rw [flatMap_len encC_len]; simp [hlen]
  have s2 : Hid (∀ u ∈ news, u.oneCell' = true) := by
    intro u hu
    rw [hnews] at hu
    obtain ⟨x, _, hx⟩ := List.mem_flatMap.1 hu
    exact encC_one x u hx
  have hOd := hO.drew
  have s3 : Hid (∀ t, t < news.length → (w.drew.cell? ⟨g, 0 + k * 3 + t, none⟩).isSome = true ∧ w.drew.frozen? ⟨g, 0 + k * 3 + t, none⟩ = false) := by
    intro t ht
    rw [s1.out] at ht
    have hj : 0 + k * 3 + t < n * 3 := by omega
    exact ⟨own_some encC_len hOd hj, (own_cells encC_len hOd hj).2⟩
  obtain ⟨A, hA, hsrc⟩ : ∃ A : Addr, (if c = k + 1 then (some ⟨g, 0, none⟩ : Option Addr) else some ⟨g, (k + 1) * 3, none⟩) = some A ∧ Hid (∀ t u, news[t]? = some u → w.drew.cell? (A.add t) = some u) := by
    by_cases h : c = k + 1
    · refine ⟨⟨g, 0, none⟩, by simp [h], fun t u hu => ?_⟩
      have h0 : news.length = 0 := by rw [s1.out]; omega
      rw [List.length_eq_zero_iff.1 h0] at hu
      simp at hu
    · refine ⟨⟨g, (k + 1) * 3, none⟩, by simp [h], fun t u hu => ?_⟩
      have ht := (List.getElem?_eq_some_iff.1 hu).1
      rw [s1.out] at ht
      have hj : (k + 1) * 3 + t < n * 3 := by omega
      rw [Addr.add_lit, (own_cells encC_len hOd hj).1]
      rw [hnews, flatMap_drop encC_len, List.getElem?_drop] at hu
      exact hu
  obtain ⟨W1, hW1⟩ : ∃ W1, W1 = w.drew.setCells g (0 + k * 3) news := ⟨_, rfl⟩
  have hO1 : Own encC 3 50 B W1 (some ⟨g, 0, none⟩) n c (l.take k ++ l.drop (k + 1) ++ l.drop (n - 1)) := by
    have h := own_lay encC_len hOd (i := k) (m := l.drop (k + 1)) (by simp [hlen]; omega)
    rw [hW1, hnews, Nat.zero_add]
    rwa [show k + (l.drop (k + 1)).length = n - 1 by simp [hlen]; omega] at h
  have hB1 : Below B w W1 := by rw [hW1]; exact below_setCells hg _ _ _ _ ((Below.refl _ _).drew)
  have hW : Hid (W1 = w.drew.setCells g (0 + k * 3) news) := hW1
  have hcl : ∀ ty n' c', n' = 1 → (Builtin.clear_ #[47] ty #[.slice (some ⟨g, (n - 1) * 3, none⟩) n' c']).run Try.prog W1 = .ok (.tuple #[]) (W1.setCells g ((n - 1) * 3) (Builtin.zeroCells (Value.agg #[.int .i64 0, .int .i64 0, .int .i64 0]).cells 1).toList) := by
    rintro ty n' c' rfl
    exact run_clear_k W1 47 50 ty (.agg #[.int .i64 0, .int .i64 0, .int .i64 0]) 3 Try.underlying47 Try.zeroValue50 rfl (by decide) (encC_one (0, 0, 0)) g _ 1 c' (by decide)
      (fun j hj => own_some encC_len hO1 (by omega)) (fun j hj => (own_cells encC_len hO1 (by omega)).2)
  have HR : Hid (Rd encC 3 (W1.setCells g ((n - 1) * 3) (Builtin.zeroCells (Value.agg #[.int .i64 0, .int .i64 0, .int .i64 0]).cells 1).toList) (some ⟨g, 0, none⟩) (n - 1) (l.take k ++ l.drop (k + 1))) := by
    have h := rd_cleared encC_len hO1 (m := n - 1) (by omega) (Builtin.zeroCells (Value.agg #[.int .i64 0, .int .i64 0, .int .i64 0]).cells 1).toList
    rwa [List.take_left' (by simp [hlen]; omega)] at h
  have HB : Hid (Below B w (W1.setCells g ((n - 1) * 3) (Builtin.zeroCells (Value.agg #[.int .i64 0, .int .i64 0, .int .i64 0]).cells 1).toList)) := below_setCells hg _ _ _ _ hB1
  clear hW1 hO1 hB1 hnews hOd hcur hlen
  have hkn : k + (n - (k + 1)) = n - 1 := by omega
  have hn1 : ((n : Int) - 1).toNat = n - 1 := by omega
  have hnn : n - (n - 1) = 1 := by omega
  have hcn : ¬ (c = n - 1) := by omega
  have hcl' := fun ty c' => hcl ty 1 c' rfl
  clear hcl
  have hkc : k ≤ c := by omega
  have hjc : k + 1 ≤ c := by omega
  have hk1 : (0 : Int) ≤ (k : Int) + 1 := by omega
  have hk2 : (k : Int) + 1 ≤ (n : Int) := by omega
  have hjt : ((k : Int) + 1).toNat = k + 1 := by omega
  have dk : decide ((k : Int) = (k : Int) + 1) = false := decide_eq_false (by omega)
  have dk2 : ((k : Int) == (k : Int) + 1) = false := by simp only [beq_eq_false_iff_ne, ne_eq]; omega
  go_enter Try.func76, Try.ntmps76
  go_wp2_with fail
  go_region_law (refine step_append_room rfl (.tmp 22) (.tmp 25) 47 (by rfl) 50 Try.t50 3 Try.underlying47 (by kernel_rfl) (by rfl) g 0 k c (by simp [Act.eval, Act.put]) A (n - (k + 1)) (c - (k + 1)) news (by simp [Act.eval, Act.put, hA]) s1.out hsrc.out s2.out (by omega) s3.out ?_; rw [← hW.out])
  go_wp2
  go_ret
  exact ⟨rfl, HR.out, HB.out⟩
end Go.Proofs.Ytnhnkmppmicjoaa
