/- The contracts of the reference's insert and From. -/
import Derived.Test.YtnhapgbjaeaamaaGreatDoorMEM
import Derived.Test.YtnhapgbjaeaamaaGreatDoorFrom
namespace Go.Proofs.YtnhapgbjaeaamaaGreatDoor
open Go Go.RowKit
set_option linter.unusedSimpArgs false
set_option linter.unusedVariables false
set_option maxRecDepth 100000
attribute [local go_sem ↓ high] eq_cl neq_cl eq_pt neq_pt
theorem insC_done : ∀ {q : List (Int × Int × Int)} {c d : Int × Int × Int} (r : List (Int × Int × Int)), d ∈ q → cBef c d = true → insC (q ++ r) c = insC q c ++ r
  | [], _, _, _, h, _ => by simp at h
  | x :: q, c, d, r, h, hb => by
    show (if cBef c x = true then c :: x :: (q ++ r) else x :: insC (q ++ r) c) = (if cBef c x = true then c :: x :: q else x :: insC q c) ++ r
    by_cases hc : cBef c x = true
    · rw [if_pos hc, if_pos hc]; rfl
    · rw [if_neg hc, if_neg hc]
      rcases List.mem_cons.1 h with rfl | hm
      · exact absurd hb hc
      · rw [insC_done r hm hb]; rfl
theorem insC_none : ∀ {q : List (Int × Int × Int)} {c : Int × Int × Int} (r : List (Int × Int × Int)), (∀ d, d ∈ q → cBef c d = false) → insC (q ++ r) c = q ++ insC r c
  | [], _, _, _ => rfl
  | x :: q, c, r, h => by
    show (if cBef c x = true then c :: x :: (q ++ r) else x :: insC (q ++ r) c) = x :: (q ++ insC r c)
    rw [if_neg (by rw [h x (by simp)]; simp), insC_none r fun d hd => h d (by simp [hd])]
/-- What the loop has put out ahead of j. -/
def insAt (p : List (Int × Int × Int)) (c : Int × Int × Int) (q : Bool) (j : Nat) : List (Int × Int × Int) := if q = true then insC (p.take j) c else p.take j
def dnAt (p : List (Int × Int × Int)) (c : Int × Int × Int) (j : Nat) : Bool := (p.take j).any fun d => cBef c d
theorem dnAt_step {p : List (Int × Int × Int)} {c d : Int × Int × Int} {j : Nat} (h : p[j]? = some d) : dnAt p c (j + 1) = (dnAt p c j || cBef c d) := by
  unfold dnAt; rw [List.take_add_one, List.any_append, h]; simp
theorem insAt_done {p : List (Int × Int × Int)} {c d : Int × Int × Int} {j : Nat} (h : p[j]? = some d) (hq : dnAt p c j = true) : insAt p c true (j + 1) = insAt p c true j ++ [d] := by
  unfold insAt
  rw [if_pos rfl, if_pos rfl, List.take_add_one, h]
  unfold dnAt at hq
  obtain ⟨x, hx, hb⟩ := List.any_eq_true.1 hq
  exact insC_done _ hx hb
theorem dnAt_no {p : List (Int × Int × Int)} {c : Int × Int × Int} {j : Nat} (hq : dnAt p c j = false) : ∀ d, d ∈ p.take j → cBef c d = false := by
  intro d hd
  unfold dnAt at hq
  rw [List.any_eq_false] at hq
  simpa using hq d hd
theorem insAt_here {p : List (Int × Int × Int)} {c d : Int × Int × Int} {j : Nat} (h : p[j]? = some d) (hq : dnAt p c j = false) (hb : cBef c d = true) : insAt p c true (j + 1) = (insAt p c false j ++ [c]) ++ [d] := by
  unfold insAt
  rw [if_pos rfl, if_neg (by simp), List.take_add_one, h, insC_none _ (dnAt_no hq)]
  show p.take j ++ (if cBef c d = true then c :: d :: [] else d :: insC [] c) = _
  rw [if_pos hb]; simp
theorem insAt_past {p : List (Int × Int × Int)} {c d : Int × Int × Int} {j : Nat} (h : p[j]? = some d) : insAt p c false (j + 1) = insAt p c false j ++ [d] := by
  unfold insAt
  rw [if_neg (by simp), if_neg (by simp), List.take_add_one, h]; rfl
theorem insAt_end {p : List (Int × Int × Int)} {c : Int × Int × Int} {n : Nat} (hl : p.length = n) (q : Bool) (hq : dnAt p c n = q) : (if q = true then insAt p c true n else insAt p c false n ++ [c]) = insC p c := by
  have ht : p.take n = p := List.take_of_length_le (by omega)
  unfold insAt
  rw [ht]
  cases q with
  | true => rfl
  | false =>
    rw [if_neg (by simp), if_neg (by simp)]
    have := insC_none (q := p) (c := c) [] (by have := dnAt_no hq; rwa [ht] at this)
    rw [List.append_nil] at this
    rw [this]; rfl
theorem own_capR {α : Type} {enc : α → List Value} {k : Nat} {e : TypeId} {B n c : Nat} {w : World} {A : Option Addr} {l : List α} (h : Own enc k e B w A n c l) : n ≤ c := by
  rcases h.row.2 with ⟨h0, _⟩ | ⟨g, cap, cur, hv, hg, hh, h1, r⟩
  · injection h0 with _ e1 e2; omega
  · injection hv with _ e1 e2; omega
set_option maxHeartbeats 4000000 in
theorem ref05_insertN (A : Option Addr) (n c : Nat) (l : List (Int × Int × Int)) (x y s : Int) (w : World) (hR : Rd encC 3 w A n l) (hn : n ≤ 1000000) :
    Calls Tryz.prog 101 #[.slice A n c, .agg #[.int .i64 x, .int .i64 y, .int .i64 s]] w fun e w' => ∃ A' c', e = .returned (.slice A' (n + 1) c') ∧ NewP w.heap.size w' A' (n + 1) c' (insC l (x, y, s)) ∧ Below w.heap.size w w' := by
  go_enter Tryz.func101, Tryz.ntmps101
  go_wp2
  go_loopw [5, 6, 7] (fun v q i wr => ∃ (B : Option Addr) (m d j : Nat), v = .slice B m d ∧ q = .bool (dnAt l (x, y, s) j) ∧ i = .int .i64 j ∧ j ≤ n ∧ m = j + (if dnAt l (x, y, s) j = true then 1 else 0) ∧ Own encC 3 49 (w.heap.size + 1) wr B m d (insAt l (x, y, s) (dnAt l (x, y, s) j) j) ∧ Below (w.heap.size + 1) (w.alloc (.cells #[.int .i64 x, .int .i64 y, .int .i64 s] 49)) wr) (fun _ _ i _ => n - (intOf i).toNat)
  case atStart => exact ⟨none, 0, 0, 0, rfl, rfl, rfl, by omega, rfl, Own.nil_, by (repeat' (first | exact Below.refl _ _ | assumption | (refine Below.alloc ?_ ?_ _) | (refine Below.setCell ?_ ?_ _) | (refine Below.drew ?_) | (refine below_drewN ?_ _) | (refine below_after (Ext.below _) ?_ ?_) | (refine below_after (by assumption) ?_ ?_) | (simp; done) | omega | (simp; omega)))⟩
  case round =>
    obtain ⟨B, m, d, j, rfl, rfl, rfl, hj, hm, hown, hb⟩ := hrel
    obtain ⟨hc, hf⟩ := bcell hb
    have hs := hb.size
    (try simp only [World.size_alloc] at hs)
    by_cases hlt : j < n
    · have dj : decide ((j : Int) < n) = true := decide_eq_true (by omega)
      obtain ⟨x', y', s', bo, o, hx, rfl, hbl, g1, g2, g3⟩ := hR.cell hlt
      have hst := dnAt_step (c := (x, y, s)) hx.out
      cases hq : dnAt l (x, y, s) j with
      | true =>
        rw [hq] at hst hown hm
        rw [Bool.true_or] at hst
        have HD := Lib.hid hst
        have HI := Lib.hid (insAt_done hx.out hq)
        obtain rfl : m = j + 1 := by simpa using hm
        clear hst hq hm
        go_wp2_with fail
        (refine wp_region_ext_lit (by kernel_rfl) (by kernel_rfl) ?_; (repeat (go_big_quiet_step (fail))); refine wpQuiet_nil ?_; intro _ hw'; obtain ⟨z1, hw''⟩ := hw'; subst hw''; have hs1 := z1.size; obtain ⟨hc1, hf1⟩ := bcell z1.below; (try simp only [World.size_alloc, World.size_setCell, World.size_drew] at hc1 hf1); (try simp at hs1))
        go_wp2_with (first | (at_builtin; refine wpList_append_el rfl (.tmp 28) (.tmp 33) 36 rfl encC 3 49 (.agg #[.int .i64 0, .int .i64 0, .int .i64 0]) 24 Tryz.underlying36 (by kernel_rfl) rfl (by decide) encC_len encC_one (w.heap.size + 1) _ _ _ _ rfl ((hown.of z1.below).alloc _) (x', y', s') ⟨(z1.world).heap.size, 0, none⟩ 1 rfl (cells_new (z1.world) _ _) (by omega) (by omega) (by first | omega | (simp; done) | (simp; omega)) ?_; intro A2 c2 w2 hown2 hg2 hb2; obtain ⟨hc2, hf2⟩ := bcell hb2; have hs2 := hb2.size; (try simp only [World.size_alloc, World.size_setCell, World.size_drew] at hc2 hf2); (try simp at hs2)))
        go_roundw
        case rel => exact ⟨A2, j + 1 + 1, c2, j + 1, rfl, by rw [HD.out], by go_num, by omega, by rw [HD.out]; rfl, by rw [HD.out, HI.out]; exact hown2, by (repeat' (first | exact Below.refl _ _ | assumption | (refine Below.alloc ?_ ?_ _) | (refine Below.setCell ?_ ?_ _) | (refine Below.drew ?_) | (refine below_drewN ?_ _) | (refine below_after (Ext.below _) ?_ ?_) | (refine below_after (by assumption) ?_ ?_) | (simp; done) | omega | (simp; omega)))⟩
        case measure => simp [intOf]; omega
      | false =>
        rw [hq] at hst hown hm
        rw [Bool.false_or] at hst
        obtain rfl : m = j := by simpa using hm
        cases hbf : cBef (x, y, s) (x', y', s') with
        | true =>
          rw [hbf] at hst
          have HD := Lib.hid hst
          have HI := Lib.hid (insAt_here hx.out hq hbf)
          have kB := fun w1 => ref05_beforeV (show befP x y x' y' = true from hbf) s s' w1
          clear hst hq hm hbf
          go_wp2_with fail
          (refine wp_region_ext_lit (by kernel_rfl) (by kernel_rfl) ?_; (repeat (go_big_quiet_step ((go_at_call 72; exact calls_ext (kB _))))); refine wpQuiet_nil ?_; intro _ hw'; obtain ⟨z1, hw''⟩ := hw'; subst hw''; have hs1 := z1.size; obtain ⟨hc1, hf1⟩ := bcell z1.below; (try simp only [World.size_alloc, World.size_setCell, World.size_drew] at hc1 hf1); (try simp at hs1))
          go_wp2_with (first | (at_builtin; refine wpList_append_el rfl (.tmp 24) (.tmp 26) 36 rfl encC 3 49 (.agg #[.int .i64 0, .int .i64 0, .int .i64 0]) 24 Tryz.underlying36 (by kernel_rfl) rfl (by decide) encC_len encC_one (w.heap.size + 1) _ _ _ _ rfl ((hown.of z1.below).alloc _) (x, y, s) ⟨(z1.world).heap.size, 0, none⟩ 1 rfl (cells_new (z1.world) _ _) (by omega) (by omega) (by first | omega | (simp; done) | (simp; omega)) ?_; intro A2 c2 w2 hown2 hg2 hb2; obtain ⟨hc2, hf2⟩ := bcell hb2; have hs2 := hb2.size; (try simp only [World.size_alloc, World.size_setCell, World.size_drew] at hc2 hf2); (try simp at hs2)) | (at_builtin; refine wpList_append_el rfl (.tmp 28) (.tmp 33) 36 rfl encC 3 49 (.agg #[.int .i64 0, .int .i64 0, .int .i64 0]) 24 Tryz.underlying36 (by kernel_rfl) rfl (by decide) encC_len encC_one (w.heap.size + 1) _ _ _ _ rfl (hown2.alloc _) (x', y', s') ⟨(w2).heap.size, 0, none⟩ 1 rfl (cells_new (w2) _ _) (by omega) (by omega) (by first | omega | (simp; done) | (simp; omega)) ?_; intro A3 c3 w3 hown3 hg3 hb3; obtain ⟨hc3, hf3⟩ := bcell hb3; have hs3 := hb3.size; (try simp only [World.size_alloc, World.size_setCell, World.size_drew] at hc3 hf3); (try simp at hs3)))
          go_roundw
          case rel => exact ⟨A3, m + 1 + 1, c3, m + 1, rfl, by rw [HD.out], by go_num, by omega, by rw [HD.out]; rfl, by rw [HD.out, HI.out]; exact hown3, by (repeat' (first | exact Below.refl _ _ | assumption | (refine Below.alloc ?_ ?_ _) | (refine Below.setCell ?_ ?_ _) | (refine Below.drew ?_) | (refine below_drewN ?_ _) | (refine below_after (Ext.below _) ?_ ?_) | (refine below_after (by assumption) ?_ ?_) | (simp; done) | omega | (simp; omega)))⟩
          case measure => simp [intOf]; omega
        | false =>
          rw [hbf] at hst
          have HD := Lib.hid hst
          have HI := Lib.hid (insAt_past (c := (x, y, s)) hx.out)
          have kB := fun w1 => ref05_beforeV (show befP x y x' y' = false from hbf) s s' w1
          clear hst hq hm hbf
          go_wp2_with fail
          (refine wp_region_ext_lit (by kernel_rfl) (by kernel_rfl) ?_; (repeat (go_big_quiet_step ((go_at_call 72; exact calls_ext (kB _))))); refine wpQuiet_nil ?_; intro _ hw'; obtain ⟨z1, hw''⟩ := hw'; subst hw''; have hs1 := z1.size; obtain ⟨hc1, hf1⟩ := bcell z1.below; (try simp only [World.size_alloc, World.size_setCell, World.size_drew] at hc1 hf1); (try simp at hs1))
          go_wp2_with (first | (at_builtin; refine wpList_append_el rfl (.tmp 28) (.tmp 33) 36 rfl encC 3 49 (.agg #[.int .i64 0, .int .i64 0, .int .i64 0]) 24 Tryz.underlying36 (by kernel_rfl) rfl (by decide) encC_len encC_one (w.heap.size + 1) _ _ _ _ rfl ((hown.of z1.below).alloc _) (x', y', s') ⟨(z1.world).heap.size, 0, none⟩ 1 rfl (cells_new (z1.world) _ _) (by omega) (by omega) (by first | omega | (simp; done) | (simp; omega)) ?_; intro A3 c3 w3 hown3 hg3 hb3; obtain ⟨hc3, hf3⟩ := bcell hb3; have hs3 := hb3.size; (try simp only [World.size_alloc, World.size_setCell, World.size_drew] at hc3 hf3); (try simp at hs3)))
          go_roundw
          case rel => exact ⟨A3, m + 1, c3, m + 1, rfl, by rw [HD.out], by go_num, by omega, by rw [HD.out]; rfl, by rw [HD.out, HI.out]; exact hown3, by (repeat' (first | exact Below.refl _ _ | assumption | (refine Below.alloc ?_ ?_ _) | (refine Below.setCell ?_ ?_ _) | (refine Below.drew ?_) | (refine below_drewN ?_ _) | (refine below_after (Ext.below _) ?_ ?_) | (refine below_after (by assumption) ?_ ?_) | (simp; done) | omega | (simp; omega)))⟩
          case measure => simp [intOf]; omega
    · obtain rfl : j = n := by omega
      have dj : decide ((j : Int) < j) = false := decide_eq_false (by omega)
      have hend := insAt_end (c := (x, y, s)) hR.len _ rfl
      cases hq : dnAt l (x, y, s) j with
      | true =>
        rw [hq] at hend hown hm
        rw [if_pos rfl] at hend
        obtain rfl : m = j + 1 := by simpa using hm
        have HE := Lib.hid hend
        clear hend hq hm
        go_wp2
        go_ret
        exact ⟨B, d, rfl, by rw [← HE.out]; exact (NewP.own hown).more (by omega), by (repeat' (first | exact Below.refl _ _ | assumption | (refine Below.alloc ?_ ?_ _) | (refine Below.setCell ?_ ?_ _) | (refine Below.drew ?_) | (refine below_drewN ?_ _) | (refine below_after (Ext.below _) ?_ ?_) | (refine below_after (by assumption) ?_ ?_) | (simp; done) | omega | (simp; omega)))⟩
      | false =>
        rw [hq] at hend hown hm
        rw [if_neg (by simp)] at hend
        obtain rfl : m = j := by simpa using hm
        have HE := Lib.hid hend
        clear hend hq hm
        go_wp2_with (first | (at_builtin; refine wpList_append_el rfl (.tmp 37) (.tmp 39) 36 rfl encC 3 49 (.agg #[.int .i64 0, .int .i64 0, .int .i64 0]) 24 Tryz.underlying36 (by kernel_rfl) rfl (by decide) encC_len encC_one (w.heap.size + 1) _ _ _ _ rfl (hown.alloc _) (x, y, s) ⟨(wr).heap.size, 0, none⟩ 1 rfl (cells_new (wr) _ _) (by omega) (by omega) (by first | omega | (simp; done) | (simp; omega)) ?_; intro A3 c3 w3 hown3 hg3 hb3; obtain ⟨hc3, hf3⟩ := bcell hb3; have hs3 := hb3.size; (try simp only [World.size_alloc, World.size_setCell, World.size_drew] at hc3 hf3); (try simp at hs3)))
        go_ret
        exact ⟨A3, c3, rfl, by rw [← HE.out]; exact (NewP.own hown3).more (by omega), by (repeat' (first | exact Below.refl _ _ | assumption | (refine Below.alloc ?_ ?_ _) | (refine Below.setCell ?_ ?_ _) | (refine Below.drew ?_) | (refine below_drewN ?_ _) | (refine below_after (Ext.below _) ?_ ?_) | (refine below_after (by assumption) ?_ ?_) | (simp; done) | omega | (simp; omega)))⟩
theorem ref05_insertC (A : Option Addr) (n c : Nat) (l : List (Int × Int × Int)) (x y s : Int) (w : World) (hR : Rd encC 3 w A n l) (hn : n ≤ 1000000) :
    Calls Tryz.prog 101 #[.slice A n c, .agg #[.int .i64 x, .int .i64 y, .int .i64 s]] w fun e w' => ∃ A' c', e = .returned (.slice A' (n + 1) c') ∧ Rd encC 3 w' A' (n + 1) (insC l (x, y, s)) ∧ n + 1 ≤ c' ∧ Below w.heap.size w w' :=
  (ref05_insertN A n c l x y s w hR hn).mono fun _ _ ⟨A', c', h1, h2, h3⟩ => ⟨A', c', h1, h2.rd, h2.cap, h3⟩
theorem ref05_insert (A : Option Addr) (n c : Nat) (l : List (Int × Int × Int)) (x y s : Int) (w : World) (hR : Rd encC 3 w A n l) (hn : n ≤ 1000000) :
    Calls Tryz.prog 101 #[.slice A n c, .agg #[.int .i64 x, .int .i64 y, .int .i64 s]] w fun e w' => ∃ A' c', e = .returned (.slice A' (n + 1) c') ∧ Rd encC 3 w' A' (n + 1) (insC l (x, y, s)) ∧ Below w.heap.size w w' :=
  (ref05_insertC A n c l x y s w hR hn).mono fun _ _ ⟨A', c', h1, h2, _, h3⟩ => ⟨A', c', h1, h2, h3⟩
end Go.Proofs.YtnhapgbjaeaamaaGreatDoor
