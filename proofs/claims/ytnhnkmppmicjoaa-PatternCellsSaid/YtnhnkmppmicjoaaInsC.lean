/- The contract of slices.Insert of one cell into a row of the call's own. -/
import Derived.Test.YtnhnkmppmicjoaaDelC
import Derived.Test.YtnhnkmppmicjoaaAppT
import Derived.Shelf.Spec.SlicesInsertGrow
namespace Go.Proofs.Ytnhnkmppmicjoaa
open Go Go.RowKit
set_option linter.unusedSimpArgs false
set_option linter.unusedVariables false
set_option maxRecDepth 100000
attribute [local go_sem ↓ high] eq_cl neq_cl eq_pt neq_pt
set_option maxHeartbeats 4000000 in
theorem insert_end (B : Nat) (A : Option Addr) (n c vc : Nat) (l : List (Int × Int × Int)) (x y s : Int) (w : World) (hB : B ≤ w.heap.size) (hO : Own encC 3 50 B w A n c l) (hn : n ≤ 1000000) :
    Calls Try.prog 77 #[.slice A n c, .int .i64 n, .slice (some ⟨w.heap.size, 0, none⟩) 1 vc] (w.alloc (.cells #[.int .i64 x, .int .i64 y, .int .i64 s] 50)) fun e w' => ∃ A' c', e = .returned (.slice A' (n + 1) c') ∧ Rd encC 3 w' A' (n + 1) (l ++ [(x, y, s)]) ∧ Below B w w' := by
  have hOa := hO.alloc (.cells #[.int .i64 x, .int .i64 y, .int .i64 s] 50)
  have hb0 : Below B w (w.alloc (.cells #[.int .i64 x, .int .i64 y, .int .i64 s] 50)) := (Below.refl _ _).alloc hB _
  have hcn := cells_new w (encC (x, y, s)) 50
  go_enter Try.func77, Try.ntmps77
  go_wp2_with (first | (at_builtin; refine wpList_append_el2 rfl (.tmp 23) (.tmp 24) 47 46 rfl encC 3 50 (.agg #[.int .i64 0, .int .i64 0, .int .i64 0]) 24 Try.underlying47 Try.underlying46 (by kernel_rfl) rfl (by decide) encC_len encC_one B _ _ _ _ rfl hOa (x, y, s) ⟨w.heap.size, 0, none⟩ vc rfl hcn (by omega) (by omega) (by simp; omega) ?_; intro A5 c5 w5 hown5 hg5 hb5))
  all_goals (go_ret; first | exact ⟨A5, c5, rfl, hown5.rd encC_len, hb0.trans hb5⟩ | exact ⟨A5, ⟨c5, rfl⟩, hown5.rd encC_len, hb0.trans hb5⟩)
end Go.Proofs.Ytnhnkmppmicjoaa
