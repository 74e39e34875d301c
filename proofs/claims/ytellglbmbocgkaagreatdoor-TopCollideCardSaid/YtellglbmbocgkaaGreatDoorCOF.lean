/- The contracts of collide.disjoint, joined and placed. The contract of collide.Meet: what follows where it finds no meeting. The contract of collide.Result. -/
import Derived.Test.YtellglbmbocgkaaGreatDoorCOL
import Derived.Test.YtellglbmbocgkaaGreatDoorALB
import Derived.Test.YtellglbmbocgkaaGreatDoorSRT
import Derived.Test.YtellglbmbocgkaaGreatDoorMEM
import Derived.Test.YtellglbmbocgkaaGreatDoorCEL
import Derived.Deep.RegionLaw
set_option linter.unusedSimpArgs false
set_option linter.unusedVariables false
section
namespace Go.Proofs.YtellglbmbocgkaaGreatDoor
open Go Go.RowKit
set_option maxRecDepth 100000
set_option linter.unusedSimpArgs false
set_option linter.unusedVariables false
set_option maxHeartbeats 8000000 in
theorem col_disjoint (A : Option Addr) (n c : Nat) (ps : List (List Cel)) (w : World) (hR : RdX ekC w A n ps) (hnc : n ≤ c) (hn : n ≤ 16) (hsm : ∀ p ∈ ps, p.length ≤ 5000) :
    Calls Tryz.prog 50 #[.slice A n c] w fun e w' => ∃ b, e = .returned (.bool b) ∧ Below w.heap.size w w' := by
  replace hsm := Lib.hid hsm
  go_enter Tryz.func50, Tryz.ntmps50
  go_wp2_with fail
  go_loopw [9] (fun t wr => ∃ j : Nat, t = .int .i64 j ∧ j ≤ n ∧ Below w.heap.size w wr) (fun t _ => n - (intOf t).toNat)
  case atStart => exact ⟨0, rfl, by omega, Below.refl _ _⟩
  case round =>
    obtain ⟨j, rfl, hj, hb⟩ := hrel
    obtain ⟨wo, rfl⟩ : ∃ wo : World, wo = wr := ⟨_, rfl⟩
    by_cases hlt : j < n
    · have dj : decide ((j : Int) < n) = true := decide_eq_true (by omega)
      have dj' : decide (j < n) = true := decide_eq_true hlt
      have hRo := hR.of hb
      obtain ⟨E, m, cp, l, b, o, hx, hAe, hbl, g1, hR1, hmc⟩ := hRo.pat hlt
      have hl1 : m ≤ 5000 := by rw [← hR1.len]; exact hsm.out l (List.mem_of_getElem? hx.out)
      subst hAe
      have hc0 : ¬ c = 0 := by omega
      have i0 : (0 : Int) ≤ (j : Int) := by omega
      have i1 : (j : Int) ≤ (c : Int) := by omega
      have i2 : j ≤ c := by omega
      clear hx
      go_wp2_with fail
      go_loopw [18] (fun t wr => ∃ k : Nat, t = .int .i64 k ∧ k ≤ j ∧ Below wo.heap.size wo wr) (fun t _ => j - (intOf t).toNat)
      case atStart => exact ⟨0, rfl, by omega, Below.refl _ _⟩
      case round =>
        obtain ⟨k, rfl, hk, hb2⟩ := hrel
        by_cases hkj : k < j
        · have dk : decide ((k : Int) < j) = true := decide_eq_true (by omega)
          have dk' : decide (k < j) = true := decide_eq_true hkj
          obtain ⟨E2, m2, cp2, l2, b2, o2, hx2, hA2, hbl2, g2, hR2, hmc2⟩ := (hRo.of hb2).pat (show k < n by omega)
          injection hA2 with hA2
          injection hA2 with hA3 hA4
          subst hA3 hA4
          have hl2 : m2 ≤ 5000 := by rw [← hR2.len]; exact hsm.out l2 (List.mem_of_getElem? hx2.out)
          have kD := alg_Disjoint E E2 m m2 cp cp2 l l2 wr (hR1.of hb2) hR2 hmc hmc2 (by omega)
          clear hx2
          generalize djB l l2 = v at kD
          go_wp2_with fail
          go_at_call 91
          refine kD.mono ?_
          rintro e3 w3 ⟨rfl, hb3⟩
          cases v with
          | true =>
            go_wp2_with fail
            go_roundw
            case rel => exact ⟨k + 1, by go_num, by omega, below_thru hb2 hb3⟩
            case measure => simp [intOf]; omega
          | false =>
            go_wp2_with fail
            go_ret
            exact ⟨false, rfl, below_thru (below_thru hb hb2) hb3⟩
        · obtain rfl : k = j := by omega
          have dk : decide ((k : Int) < k) = false := decide_eq_false (by omega)
          have dk' : decide (k < k) = false := decide_eq_false hkj
          go_wp2_with fail
          go_roundw
          case rel => exact ⟨k + 1, by go_num, by omega, below_thru hb hb2⟩
          case measure => simp [intOf]; omega
    · obtain rfl : j = n := by omega
      have dj : decide ((j : Int) < j) = false := decide_eq_false (by omega)
      have dj' : decide (j < j) = false := decide_eq_false hlt
      go_wp2_with fail
      go_ret
      exact ⟨true, rfl, hb⟩
theorem flat_step {ps : List (List Cel)} {j : Nat} {l : List Cel} (h : ps[j]? = some l) : (ps.take (j + 1)).flatten = (ps.take j).flatten ++ l := by
  rw [List.take_add_one, h]; simp
set_option maxHeartbeats 8000000 in
theorem col_joined (A : Option Addr) (n c : Nat) (ps : List (List Cel)) (w : World) (hR : RdX ekC w A n ps) (hn : n ≤ 16) (hsm : ∀ p ∈ ps, p.length ≤ 5000) :
    Calls Tryz.prog 51 #[.slice A n c] w fun e w' => ∃ A2 n2 c2, e = .returned (.tuple #[.slice A2 n2 c2, .int .i64 (frE ps.flatten)]) ∧ NewP w.heap.size w' A2 n2 c2 (frL ps.flatten) ∧ n2 ≤ 1000000 ∧ Below w.heap.size w w' := by
  have hpl := Lib.hid hR.len
  replace hsm := Lib.hid hsm
  have kF := fun E q g w1 h1 h2 => pat_FromN E q g ps.flatten w1 h1 h2
  generalize frE ps.flatten = fe at kF ⊢
  generalize frL ps.flatten = fl at kF ⊢
  go_enter Tryz.func51, Tryz.ntmps51
  go_wp2_with fail
  go_loopw [4, 9] (fun v t wr => ∃ (E : Option Addr) (q g j : Nat), v = .slice E q g ∧ t = .int .i64 j ∧ j ≤ n ∧ q ≤ 5000 * j ∧ Own encC 3 79 w.heap.size wr E q g (ps.take j).flatten ∧ Below w.heap.size w wr) (fun _ t _ => n - (intOf t).toNat)
  case atStart => exact ⟨none, 0, 0, 0, rfl, rfl, by omega, by omega, Own.nil_, Below.refl _ _⟩
  case round =>
    obtain ⟨E, q, g, j, rfl, rfl, hj, hq, hown, hb⟩ := hrel
    have hs := hb.size
    by_cases hlt : j < n
    · have dj : decide ((j : Int) < n) = true := decide_eq_true (by omega)
      have dj' : decide (j < n) = true := decide_eq_true hlt
      obtain ⟨F, m, cp, l, b, o, hx, hAe, hbl, g1, hR1, hmc⟩ := (hR.of hb).pat hlt
      have hl1 : m ≤ 5000 := by rw [← hR1.len]; exact hsm.out l (List.mem_of_getElem? hx.out)
      have hst := Lib.hid (flat_step hx.out)
      subst hAe
      clear hx
      go_wp2_with (first | (at_builtin; refine wpList_append_els rfl (.tmp 13) (.tmp 14) 26 27 rfl encC 3 79 (.agg #[.int .i64 0, .int .i64 0, .int .i64 0]) 24 Tryz.underlying26 Tryz.underlying27 (by kernel_rfl) rfl (by decide) encC_len encC_one (w.heap.size) _ _ _ _ rfl (hown) _ _ _ _ rfl (hR1) (by omega) (by omega) (by first | omega | (simp; done) | (simp; omega)) ?_; intro A5 c5 w5 hown5 hg5 hb5; obtain ⟨hc5, hf5⟩ := bcell hb5; have hs5 := hb5.size; (try simp only [World.size_alloc, World.size_setCell, World.size_drew] at hc5 hf5); (try simp at hs5); (try simp only [Nat.zero_add, List.nil_append] at hown5)))
      go_roundw
      case rel => exact ⟨A5, q + m, c5, j + 1, by first | rfl | (congr 1 <;> omega), by go_num, by omega, by omega, by rw [hst.out]; exact hown5, below_after hb5 hb (Nat.le_refl _)⟩
      case measure => simp [intOf]; omega
    · obtain rfl : j = n := by omega
      have dj : decide ((j : Int) < j) = false := decide_eq_false (by omega)
      have dj' : decide (j < j) = false := decide_eq_false hlt
      rw [List.take_of_length_le (by rw [hpl.out]; exact Nat.le_refl _)] at hown
      have kF2 := kF E q g wr (hown.rd encC_len) (by omega)
      go_wp2_with fail
      go_at_call 74
      refine kF2.mono ?_
      rintro e3 w3 ⟨A3, n3, c3, rfl, hR3, hn3, hb3⟩
      go_wp2_with fail
      go_ret2
      exact ⟨A3, n3, c3, rfl, hR3.more hs, by omega, below_thru hb hb3⟩
section
variable (st : Int) (A B S D : Option Addr) (n c m d k u nl v : Nat) (H : List (Int × Int)) (N : List (Int × List Int)) (SL : List ShpT) (L : List ShtT) (w : World)
theorem map_stepP {L : List ShtT} {j : Nat} {x : ShtT} (f : ShtT → List Cel) (h : L[j]? = some x) : (L.take (j + 1)).map f = (L.take j).map f ++ [f x] := by
  rw [List.take_add_one, h]; simp
set_option maxHeartbeats 16000000 in
theorem col_placed (hM : Mx w) (hH : Rd encP 2 w A n H) (hN : RdX ekN w B m N) (hS : RdX ekSh w S k SL) (hL : Rd encSt 5 w D nl L) (hk : k ≤ 8) (hnl : nl ≤ 16) (hsm : ∀ x ∈ SL, x.1.length ≤ 1000000) :
    Calls Tryz.prog 49 #[.agg #[.int .i64 st, .slice A n c, .slice B m d], .slice S k u, .slice D nl v] w fun e' w' => ∃ A2 n2 c2 er, e' = .returned (.tuple #[.slice A2 n2 c2, .int .i64 er]) ∧ (er = 0 → trQ st H N = true ∧ (∀ x ∈ L, plcE st H N SL x = 0) ∧ n2 = nl ∧ OwnX ekC 27 w.heap.size w' A2 n2 c2 (L.map (plcL st H N SL))) ∧ Below w.heap.size w w' := by
  have kQ := fun w1 h1 h2 => tree_Quiet st A B n c m d H N w1 h1 h2
  obtain ⟨tq, htq⟩ : ∃ x, trQ st H N = x := ⟨_, rfl⟩
  rw [htq] at kQ
  replace htq := Lib.hid htq
  replace hsm := Lib.hid hsm
  have hll := Lib.hid hL.len
  have d1 : decide (8 < (k : Int)) = false := decide_eq_false (by omega)
  have d2 : decide (16 < (nl : Int)) = false := decide_eq_false (by omega)
  have d1' : decide (8 < k) = false := decide_eq_false (by omega)
  have d2' : decide (16 < nl) = false := decide_eq_false (by omega)
  go_enter Tryz.func49, Tryz.ntmps49
  go_wp2_with fail
  have hbt := TrAt.new w (.int .i64 st) (.slice A n c) (.slice B m d) 25
  have hB : Below w.heap.size w (w.alloc (.cells #[.int .i64 st, .slice A n c, .slice B m d] 25)) := (Below.refl _ _).alloc (Nat.le_refl _) _
  obtain ⟨we, hwe⟩ : ∃ we, we = w.alloc (.cells #[.int .i64 st, .slice A n c, .slice B m d] 25) := ⟨_, rfl⟩
  rw [← hwe] at hbt hB ⊢
  clear hwe
  replace hH := hH.of hB
  replace hN := hN.of hB
  replace hS := hS.of hB
  replace hL := hL.of hB
  replace hM := hM.of hB
  go_at_call 36
  refine (kQ _ hH hN).mono ?_
  rintro e1 w1 ⟨rfl, hb1⟩
  have hB1 := below_thru hB hb1
  have hbt1 := hbt.of hb1
  replace hH := hH.of hb1
  replace hN := hN.of hb1
  replace hS := hS.of hb1
  replace hL := hL.of hb1
  replace hM := hM.of hb1
  clear hbt hB hb1 kQ
  cases tq with
  | false =>
    go_wp2_with fail
    go_ret2
    exact ⟨none, 0, 0, 11, rfl, fun h => by omega, hB1⟩
  | true =>
    go_wp2_with fail
    clear d1 d2 d1' d2'
    go_loopw [8, 26] (fun x t wr => ∃ (E : Option Addr) (g j : Nat), x = .slice E j g ∧ t = .int .i64 j ∧ j ≤ nl ∧ OwnX ekC 27 w1.heap.size wr E j g ((L.take j).map (plcL st H N SL)) ∧ Hid (∀ x ∈ L.take j, plcE st H N SL x = 0) ∧ Below w1.heap.size w1 wr) (fun _ t _ => nl - (intOf t).toNat)
    case atStart => exact ⟨none, 0, 0, rfl, rfl, by omega, OwnX.nil_, Lib.hid (fun x hx => by cases hx), Below.refl _ _⟩
    case round =>
      obtain ⟨E, g, j, rfl, rfl, hj, hX, hok, hb⟩ := hrel
      have hs := hb.size
      have hs1 := hB1.size
      by_cases hlt : j < nl
      · have dj : decide ((j : Int) < nl) = true := decide_eq_true (by omega)
        have dj' : decide (j < nl) = true := decide_eq_true hlt
        obtain ⟨a, f, s, X, Y, bo, o, hx, hDe, hbl, g0, g1, g2, g3, g4⟩ := (hL.of hb).sht hlt
        subst hDe
        have kP := fun w1 h0 h1 h2 h3 => shp_Place st A B S n c m d k u H N SL a f s X Y w1 h0 h1 h2 h3 hsm.out
        have hba : Below wr.heap.size wr (wr.alloc (.cells #[.int .i64 a, .int .i64 f, .int .i64 s, .int .i64 X, .int .i64 Y] 72)) := (Below.refl _ _).alloc (Nat.le_refl _) _
        have hbw := below_thru hb hba
        obtain ⟨tbl, t0, t1, t2⟩ := hbt1.of hbw
        have hXa := hX.of hba
        by_cases he : plcE st H N SL (a, f, s, X, Y) = 0
        · have hst := Lib.hid (map_stepP (plcL st H N SL) hx.out)
          have hok2 := Lib.hid (show ∀ x ∈ L.take (j + 1), plcE st H N SL x = 0 from fun x hx2 => by
            rw [List.take_add_one, hx.out] at hx2
            rcases List.mem_append.1 hx2 with h1 | h1
            · exact hok.out x h1
            · simp at h1; subst h1; exact he)
          rw [he] at kP
          generalize plcL st H N SL (a, f, s, X, Y) = pl at kP hst
          clear he hx
          go_wp2_with fail
          go_at_call 26
          refine (kP _ (hM.of hbw) (hH.of hbw) (hN.of hbw) (hS.of hbw)).mono ?_
          rintro e5 w5 ⟨A5, n5, c5, rfl, hN5, hb5⟩
          have hs5 := hb5.size
          have hbw5 := below_thru hbw hb5
          have hX5 := hXa.of hb5
          have hsx : w1.heap.size ≤ w5.heap.size := hbw5.size
          clear t0 t1 t2 g0 g1 g2 g3 g4
          go_wp2_with (first | (at_builtin; refine wpList_append_x (K := ekC) rfl (.tmp 40) (.tmp 42) 37 rfl 27 (.slice none 0 0) 24 Tryz.underlying37 (by kernel_rfl) rfl (w1.heap.size) _ _ _ _ rfl (hX5.alloc _) (A5, n5, c5) _ (⟨hN5.rd.of (by (repeat' (first | exact Below.refl _ _ | assumption | (refine Below.alloc ?_ ?_ _) | (refine Below.setCell ?_ ?_ _) | (refine Below.drew ?_) | (refine below_drewN ?_ _) | (refine below_after (Ext.below _) ?_ ?_) | (refine below_after (by assumption) ?_ ?_) | (simp; done) | omega | (simp; omega)))), hN5.cap⟩) (hN5.off (fun q hq => by have := hXa.lt q hq; exact this)) ⟨(w5).heap.size, 0, none⟩ 1 rfl (cells_new (w5) (encH (A5, n5, c5)) 27) (by omega) (by omega) (by first | omega | (simp; done) | (simp; omega)) ?_; intro A6 c6 w6 hown6 hg6 hb6; obtain ⟨hc6, hf6⟩ := bcell hb6; have hs6 := hb6.size; (try simp only [World.size_alloc, World.size_setCell, World.size_drew] at hc6 hf6); (try simp at hs6)))
          go_roundw
          case rel => exact ⟨A6, c6, j + 1, rfl, by go_num, by omega, by rw [hst.out]; exact hown6, hok2, below_after hb6 (hbw5.alloc (by have := hbw5.size; omega) _) (Nat.le_refl _)⟩
          case measure => simp [intOf]; omega
        · generalize plcE st H N SL (a, f, s, X, Y) = qe at kP he
          have r0 : (qe != 0) = true := by simpa using he
          have r1 : (qe == 0) = false := by simpa using he
          have he' := Lib.hid he
          clear he hx
          go_wp2_with fail
          go_at_call 26
          refine (kP _ (hM.of hbw) (hH.of hbw) (hN.of hbw) (hS.of hbw)).mono ?_
          rintro e5 w5 ⟨A5, n5, c5, rfl, hN5, hb5⟩
          have hbw5 := below_thru hbw hb5
          clear t0 t1 t2 g0 g1 g2 g3 g4
          go_wp2_with fail
          go_ret2
          exact ⟨none, 0, 0, qe, rfl, fun h => absurd h he'.out, below_thru hB1 hbw5⟩
      · obtain rfl : j = nl := by omega
        have dj : decide ((j : Int) < j) = false := decide_eq_false (by omega)
        have dj' : decide (j < j) = false := decide_eq_false hlt
        rw [List.take_of_length_le (by rw [hll.out]; exact Nat.le_refl _)] at hX hok
        go_wp2_with fail
        go_ret2
        exact ⟨E, j, g, 0, rfl, fun _ => ⟨htq.out, hok.out, rfl, hX.more hs1⟩, below_thru hB1 hb⟩
end
end Go.Proofs.YtellglbmbocgkaaGreatDoor
end
section
namespace Go.Proofs.YtellglbmbocgkaaGreatDoor
open Go Go.RowKit
set_option maxRecDepth 100000
set_option linter.unusedSimpArgs false
set_option linter.unusedVariables false
section
variable {st : Int} {H : List (Int × Int)} {N : List (Int × List Int)} {ps : List (List Cel)} {p : List Cel} {g i : Nat}
theorem step_it (h0 : (itS H N p g).1 = 0) (h : stpE st H N (itS H N p g).2 = 0) : (itS H N p (g + 1)).1 = 0 ∧ (itS H N p (g + 1)).2 = stpL st H N (itS H N p g).2 := by
  have hf : fitE st H N (itS H N p g).2 = 0 := by
    by_cases hf : fitE st H N (itS H N p g).2 = 0
    · exact hf
    · unfold stpE at h; rw [if_neg hf] at h; exact absurd h hf
  have hs : stE H N (itS H N p g).2 = 0 := by unfold stpE at h; rw [if_pos hf] at h; exact h
  rw [it_step h0]
  refine ⟨hs, ?_⟩
  unfold stpL
  rw [if_pos hf]
theorem it_small : (itS H N p (g + 1)).2.length ≤ 5000 := by
  have key : ∀ q : List Cel, (stL H N q).length ≤ 5000 := fun q => by
    unfold stL
    split
    · rename_i he
      rw [(srtC_perm _).length_eq]
      unfold stE at he
      by_cases hp : (genR H N q).all plD = true
      · rw [if_pos hp] at he
        by_cases hl : 5000 < (genR H N q).length
        · rw [if_pos hl] at he; omega
        · omega
      · rw [if_neg hp] at he; omega
    · simp
  by_cases h0 : (itS H N p g).1 = 0
  · rw [it_step h0]
    have := key (itS H N p g).2
    show (stL H N (itS H N p g).2).length ≤ _
    exact this
  · show (if _ then _ else _ : Int × List Cel).2.length ≤ _
    rw [if_neg h0]; simp
def mixG (H : List (Int × Int)) (N : List (Int × List Int)) (ps : List (List Cel)) (g i : Nat) : List (List Cel) := (itsG H N ps (g + 1)).take i ++ (itsG H N ps g).drop i
theorem its_len : (itsG H N ps g).length = ps.length := by unfold itsG; simp
theorem its_at (h : ps[i]? = some p) : (itsG H N ps g)[i]? = some (itS H N p g).2 := by unfold itsG; rw [List.getElem?_map, h]; rfl
theorem mix_zero : mixG H N ps g 0 = itsG H N ps g := by unfold mixG; simp
theorem mix_all (h : ps.length = i) : mixG H N ps g i = itsG H N ps (g + 1) := by
  unfold mixG
  rw [List.take_of_length_le (by rw [its_len]; omega), List.drop_eq_nil_of_le (by rw [its_len]; omega), List.append_nil]
theorem mix_at (h : ps[i]? = some p) : (mixG H N ps g i)[i]? = some (itS H N p g).2 := by
  have hl := (List.getElem?_eq_some_iff.1 h).1
  unfold mixG
  rw [List.getElem?_append_right (by rw [List.length_take, its_len]; omega), List.length_take, its_len, Nat.min_eq_left (by omega), Nat.sub_self, List.getElem?_drop, Nat.add_zero, its_at h]
theorem mix_set (h : ps[i]? = some p) : (mixG H N ps g i).set i (itS H N p (g + 1)).2 = mixG H N ps g (i + 1) := by
  have hl := (List.getElem?_eq_some_iff.1 h).1
  have h1 := its_at (H := H) (N := N) (g := g + 1) h
  have h2 := its_at (H := H) (N := N) (g := g) h
  unfold mixG
  have hd : (itsG H N ps g).drop i = (itS H N p g).2 :: (itsG H N ps g).drop (i + 1) := by
    rw [List.drop_eq_getElem_cons (by rw [its_len]; exact hl)]
    congr 1
    rw [List.getElem?_eq_getElem (by rw [its_len]; exact hl)] at h2
    injection h2
  rw [hd, List.set_append, if_neg (by rw [List.length_take, its_len]; omega), List.length_take, its_len, Nat.min_eq_left (by omega), Nat.sub_self, List.set_cons_zero, List.take_add_one, h1]
  simp
theorem alone_zero (h : frE ps.flatten = 0) : AloneT H N ps 0 := ⟨h, fun g h1 h2 => by omega⟩
theorem alone_step {n : Nat} (h : AloneT H N ps n) (h1 : ∀ p ∈ ps, (itS H N p (n + 1)).1 = 0) (h2 : (itS H N (frL ps.flatten) (n + 1)).1 = 0) (h3 : frE (itsG H N ps (n + 1)).flatten = 0) (h4 : frL (itsG H N ps (n + 1)).flatten = (itS H N (frL ps.flatten) (n + 1)).2) : AloneT H N ps (n + 1) := by
  refine ⟨h.1, fun g g1 g2 => ?_⟩
  by_cases e : g = n + 1
  · subst e; exact ⟨h1, h2, h3, h4⟩
  · exact h.2 g g1 (by omega)
end
theorem OwnX.capX {α β : Type} {K : EK α β} {e : TypeId} {B n c : Nat} {w : World} {A : Option Addr} {bs : List β} (g : OwnX K e B w A n c bs) : n ≤ c := by
  obtain ⟨us, h1, _, _⟩ := g
  rcases h1.row.2 with ⟨h0, h⟩ | ⟨g, cap, cur, hv, _, _, h, _⟩
  · injection h0 with _ h2 h3; omega
  · injection hv with _ h2 h3; omega
theorem OwnX.head {e : TypeId} {B n c : Nat} {w : World} {A : Option Addr} {bs : List (List Cel)} (h : OwnX ekC e B w A n c bs) {i : Nat} (hi : i < n) : ∃ g E m k l, A = some ⟨g, 0, none⟩ ∧ B ≤ g ∧ g < w.heap.size ∧ (Value.slice A n c).ownBlock = some g ∧ Hid (bs[i]? = some l) ∧ w.cell? ⟨g, i, none⟩ = some (.slice E m k) ∧ w.frozen? ⟨g, i, none⟩ = false ∧ Rd encC 3 w E m l ∧ m ≤ k := by
  obtain ⟨E, m, k, l, b, o, hx, hA, hb, h1, h2, h3⟩ := h.rd.pat hi
  have hlt := h.lt
  obtain ⟨us, g1, _, _⟩ := h
  have hrow := g1.row
  rcases hrow.2 with ⟨h0, h5⟩ | ⟨g, cap, cur, hv, hge, _⟩
  · omega
  · have hA2 : A = some ⟨g, 0, none⟩ := by injection hv
    rw [hA] at hA2
    injection hA2 with hA2
    injection hA2 with e1 e2
    subst e1 e2
    subst hA
    rw [Nat.zero_add] at h1
    exact ⟨b, E, m, k, l, rfl, hge, hb, rfl, hx, h1, hrow.frozenAt i, h2, h3⟩
section
variable (st : Int) (A B S D : Option Addr) (n c m d k u nl v : Nat) (H : List (Int × Int)) (N : List (Int × List Int)) (SL : List ShpT) (L : List ShtT) (w : World)
def MetNo (gg : Nat) : Prop := trQ st H N = true ∧ (∀ x ∈ L, plcE st H N SL x = 0) ∧ AloneT H N (L.map (plcL st H N SL)) gg
set_option maxHeartbeats 32000000 in
theorem col_Meet (gg : Nat) (hgg : gg ≤ 10000) (hM : Mx w) (hH : Rd encP 2 w A n H) (hN : RdX ekN w B m N) (hS : RdX ekSh w S k SL) (hL : Rd encSt 5 w D nl L) (hk : k ≤ 8) (hnl : nl ≤ 16) (hsm : ∀ x ∈ SL, x.1.length ≤ 1000000) :
    Calls Tryz.prog 24 #[.agg #[.int .i64 st, .slice A n c, .slice B m d], .slice S k u, .slice D nl v, .int .i64 (gg : Int)] w fun e' w' => ∃ kk er : Int, e' = .returned (.tuple #[.int .i64 kk, .int .i64 er]) ∧ (kk = -1 → er = 0 → MetNo st H N SL L gg) ∧ Below w.heap.size w w' := by
  have kP := fun w1 h0 h1 h2 h3 h4 => col_placed st A B S D n c m d k u nl v H N SL L w1 h0 h1 h2 h3 h4 hk hnl hsm
  have d1 : decide ((gg : Int) < 0) = false := decide_eq_false (by omega)
  have d2 : decide (10000 < (gg : Int)) = false := decide_eq_false (by omega)
  have d2' : decide (10000 < gg) = false := decide_eq_false (by omega)
  have hpsm := Lib.hid (show ∀ p ∈ L.map (plcL st H N SL), p.length ≤ 5000 from fun p hp => by
    obtain ⟨x, _, rfl⟩ := List.mem_map.1 hp
    exact plc_small)
  have hpl := Lib.hid (show (L.map (plcL st H N SL)).length = nl by rw [List.length_map]; exact hL.len)
  have hmn := Lib.hid (fun (h0 : trQ st H N = true ∧ ∀ x ∈ L, plcE st H N SL x = 0) (h : AloneT H N (L.map (plcL st H N SL)) gg) => show MetNo st H N SL L gg from ⟨h0.1, h0.2, h⟩)
  generalize MetNo st H N SL L gg = MM at hmn ⊢
  generalize hpsE : L.map (plcL st H N SL) = ps at kP hpsm hpl hmn
  clear hpsE
  go_enter Tryz.func24, Tryz.ntmps24
  go_wp2_with fail
  (try go_step3)
  have hbt := TrAt.new w (.int .i64 st) (.slice A n c) (.slice B m d) 25
  have hB : Below w.heap.size w (w.alloc (.cells #[.int .i64 st, .slice A n c, .slice B m d] 25)) := (Below.refl _ _).alloc (Nat.le_refl _) _
  obtain ⟨we, hwe⟩ : ∃ we, we = w.alloc (.cells #[.int .i64 st, .slice A n c, .slice B m d] 25) := ⟨_, rfl⟩
  rw [← hwe] at hbt hB ⊢
  clear hwe
  obtain ⟨tb, htb⟩ : ∃ b, b = w.heap.size := ⟨_, rfl⟩
  rw [← htb] at hbt ⊢
  clear htb
  replace hH := hH.of hB
  replace hN := hN.of hB
  replace hS := hS.of hB
  replace hL := hL.of hB
  replace hM := hM.of hB
  have ⟨_, t0, t1, t2⟩ := hbt
  go_wp2_with fail
  clear t0 t1 t2
  go_at_call 49
  refine (kP _ hM hH hN hS hL).mono ?_
  rintro e1 w1 ⟨A2, n2, c2, er1, rfl, hres, hb1⟩
  have hB1 := below_thru hB hb1
  have hs1 := hb1.size
  by_cases h0 : er1 = 0
  case neg =>
    have r0 : (er1 != 0) = true := by simpa using h0
    have r1 : (er1 == 0) = false := by simpa using h0
    have hz := Lib.hid h0
    clear h0 hres
    go_wp2_with fail
    (try rw [Exit.noGoto_ret])
    go_ret2
    exact ⟨0, er1, rfl, fun h _ => by omega, hB1⟩
  obtain ⟨hq1, hq2, hn2, hX⟩ := hres h0
  subst h0 hn2
  have hpl0 := Lib.hid (hmn.out ⟨hq1, hq2⟩)
  clear hres hq1 hq2 kP hmn
  have hrow : ∀ q, (Value.slice A2 n2 c2).ownBlock = some q → we.heap.size ≤ q ∧ q < w1.heap.size := fun q hq => ⟨by obtain ⟨us, g1, _, _⟩ := hX; exact (g1.row.lt q hq).1, hX.lt q hq⟩
  have hcap := hX.capX
  have kD := col_disjoint A2 n2 c2 ps w1 hX.rd hcap hnl hpsm.out
  go_wp2_with fail
  go_at_call 50
  refine kD.mono ?_
  rintro e2 w2 ⟨dj, rfl, hb2⟩
  have hB2 := below_thru hB1 hb2
  have hw2 := below_thru hb1 hb2
  cases dj with
  | false =>
    go_wp2_with fail
    (try rw [Exit.noGoto_ret])
    go_ret2
    exact ⟨0, 0, rfl, fun h _ => by omega, hB2⟩
  | true =>
  have hX2 := hX.of hb2
  have kJ := col_joined A2 n2 c2 ps w2 hX2.rd hnl hpsm.out
  have hal0 := Lib.hid (fun h => alone_zero (H := H) (N := N) (ps := ps) h)
  go_wp2_with fail
  go_at_call 51
  refine kJ.mono ?_
  rintro e3 w3 ⟨E3, q3, c3, rfl, hW3, hq3, hb3⟩
  have hs2 := hb2.size
  have hb3s := hb3.size
  have hB3 := below_thru hB2 hb3
  have hw3 := below_thru hw2 hb3
  have hX3 := hX2.of hb3
  by_cases hfe : frE ps.flatten = 0
  case neg =>
    generalize frE ps.flatten = fe at hfe
    have r0 : (fe != 0) = true := by simpa using hfe
    have r1 : (fe == 0) = false := by simpa using hfe
    clear hfe hal0
    go_wp2_with fail
    (try rw [Exit.noGoto_ret])
    go_ret2
    exact ⟨0, fe, rfl, fun h _ => by omega, hB3⟩
  have hA0 := Lib.hid (hal0.out hfe)
  rw [hfe]
  replace hW3 := hW3.more hs2
  have hWd := Lib.hid (show ∃ W, frL ps.flatten = W from ⟨_, rfl⟩)
  obtain ⟨W, hWE⟩ := hWd.out
  rw [hWE] at hW3
  replace hWE := Lib.hid hWE
  clear hfe hal0 hWd kD kJ hX hX2 hb1 hb2 hb3 hB1 hB2 hw2 hB3 d1 d2 d2'
  go_wp2_with fail
  (try go_step3)
  (try go_wp2_with fail)
  go_loopw [12, 13, 14] (fun t12 t13 t14 wr => ∃ (E : Option Addr) (q g jj : Nat), t12 = .slice E q g ∧ t13 = .int .i64 (-1) ∧ t14 = .int .i64 ((jj : Int) + 1) ∧ jj ≤ gg ∧ q ≤ 1000000 ∧ NewP w1.heap.size wr E q g (itS H N W jj).2 ∧ OwnX ekC 27 we.heap.size wr A2 n2 c2 (itsG H N ps jj) ∧ Hid (∀ p ∈ ps, (itS H N p jj).1 = 0) ∧ Hid ((itS H N W jj).1 = 0) ∧ Hid (AloneT H N ps jj) ∧ w1.heap.size ≤ wr.heap.size ∧ Below we.heap.size we wr) (fun _ _ t14 _ => gg + 1 - (intOf t14).toNat)
  case atStart => exact ⟨E3, q3, c3, 0, rfl, rfl, rfl, by omega, hq3, hW3, by rw [its_zero]; exact hX3, Lib.hid (fun p _ => rfl), Lib.hid rfl, hA0, Nat.le_trans hs2 hb3s, hw3⟩
  case round =>
    clear hX3 hW3 hA0 hw3
    obtain ⟨E, q, g, jj, rfl, rfl, rfl, hjj, hq, hW, hX, hi1, hi2, hAl, hws, hb⟩ := hrel
    obtain ⟨wo, rfl⟩ : ∃ wo : World, wo = wr := ⟨_, rfl⟩
    have hsz := hb.size
    by_cases hlt : jj < gg
    case neg =>
      obtain rfl : jj = gg := by omega
      have dj : decide ((jj : Int) + 1 ≤ jj) = false := decide_eq_false (by omega)
      have dj' : decide (jj + 1 ≤ jj) = false := decide_eq_false (by omega)
      have hfin := below_thru hB hb
      go_wp2_with fail
      (try rw [Exit.noGoto_ret])
      go_ret2
      exact ⟨-1, 0, rfl, fun _ _ => hpl0.out hAl.out, hfin⟩
    have dj : decide ((jj : Int) + 1 ≤ gg) = true := decide_eq_true (by omega)
    have dj' : decide (jj + 1 ≤ gg) = true := decide_eq_true (by omega)
    go_wp2_with fail
    go_loopw [52] (fun t wr => ∃ i : Nat, t = .int .i64 (i : Int) ∧ i ≤ n2 ∧ NewP w1.heap.size wr E q g (itS H N W jj).2 ∧ OwnX ekC 27 we.heap.size wr A2 n2 c2 (mixG H N ps jj i) ∧ Hid (∀ (k : Nat) p, k < i → ps[k]? = some p → (itS H N p (jj + 1)).1 = 0) ∧ w1.heap.size ≤ wr.heap.size ∧ Below we.heap.size we wr) (fun t _ => n2 - (intOf t).toNat)
    case atStart => exact ⟨0, rfl, by omega, hW, by rw [mix_zero]; exact hX, Lib.hid (fun k p h => absurd h (by omega)), hws, hb⟩
    case round =>
      clear hW hX hb hsz
      obtain ⟨i, rfl, hi, hW, hX, hok, hws2, hb⟩ := hrel
      have hsz := hb.size
      by_cases hil : i < n2
      · have di : decide ((i : Int) < n2) = true := decide_eq_true (by omega)
        have di' : decide (i < n2) = true := decide_eq_true hil
        obtain ⟨gb, F, mf, kf, l, hAe, hge, hgl, hob, hl, g1, f1, hRl, hmk⟩ := hX.head hil
        obtain ⟨p, hp⟩ : ∃ p, ps[i]? = some p := ⟨_, List.getElem?_eq_getElem (by rw [hpl.out]; exact hil)⟩
        have hlE : l = (itS H N p jj).2 := by
          have := hl.out
          rw [mix_at hp] at this
          injection this with this
          exact this.symm
        have hpz := hi1.out p (List.mem_of_getElem? hp)
        have hl5 : mf ≤ 1000000 := by
          rw [← hRl.len, hlE]
          by_cases hj0 : jj = 0
          · subst hj0; have := hpsm.out p (List.mem_of_getElem? hp); show p.length ≤ _; omega
          · obtain ⟨j2, rfl⟩ : ∃ j2, jj = j2 + 1 := ⟨jj - 1, by omega⟩
            have := it_small (H := H) (N := N) (p := p) (g := j2); omega
        have hgb1 := (hrow gb hob).2
        obtain ⟨_, t0, t1, t2⟩ := hbt.of hb
        have hbl : tb < wr.heap.size := (hbt.of hb).1
        have hstp := fun (h : stpE st H N l = 0) => step_it (st := st) hpz (by rw [← hlE]; exact h)
        have kS := direct_Step st A B F n c m d mf kf H N l wr.drew (hH.of hb.drew) (hN.of hb.drew) (hRl.of (Below.refl _ _).drew) hl5
        subst hAe
        have kS2 : Calls Tryz.prog 52 #[.agg #[.int .i64 st, .slice A n c, .slice B m d], .slice F mf kf] wr.drew fun e' w' => ∃ A7 n7 c7, e' = .returned (.tuple #[.slice A7 n7 c7, .int .i64 (stpE st H N l)]) ∧ gb < w'.heap.size ∧ w'.cell? ⟨gb, i, none⟩ = some (.slice F mf kf) ∧ w'.frozen? ⟨gb, i, none⟩ = false ∧
            Hid (NewP w1.heap.size (w'.setCell ⟨gb, i, none⟩ (.slice A7 n7 c7)) E q g (itS H N W jj).2 ∧ OwnX ekC 27 we.heap.size (w'.setCell ⟨gb, i, none⟩ (.slice A7 n7 c7)) (some ⟨gb, 0, none⟩) n2 c2 ((mixG H N ps jj i).set i (stpL st H N l)) ∧ w1.heap.size ≤ (w'.setCell ⟨gb, i, none⟩ (.slice A7 n7 c7)).heap.size ∧ Below we.heap.size we (w'.setCell ⟨gb, i, none⟩ (.slice A7 n7 c7))) := by
          refine kS.mono fun e' w' ⟨A7, n7, c7, h1, h2, h3⟩ => ?_
          have h3' : Below wr.heap.size wr w' := ⟨h3.os, h3.tape, h3.output, h3.size, h3.block⟩
          have h3s := h3'.size
          refine ⟨A7, n7, c7, h1, by omega, (h3'.cell (p := ⟨_, _, none⟩) hgl).trans g1, (h3'.frozen (p := ⟨_, _, none⟩) hgl).trans f1, Lib.hid ⟨?_, ?_, by rw [World.size_setCell]; omega, (below_thru hb h3').setCell hge _⟩⟩
          · have hW' := hW.of h3'
            exact ⟨Rd.grown (h := (E, q, g)) hW'.rd (grownBy_set w' gb i _) (fun z hz e => by injection e with e; have := hW'.loc z hz; omega), hW'.cap, hW'.loc⟩
          · refine (hX.of h3').setP hil h2.rd h2.cap fun z hz e => ?_
            have := h2.loc z hz
            have hd : wr.drew.heap.size = wr.heap.size := rfl
            omega
        clear kS hW hX hRl f1 hb
        have i0 : (0 : Int) ≤ (i : Int) := by omega
        have i1 : (i : Int) < (n2 : Int) := by omega
        by_cases he : stpE st H N l = 0
        · have hnx := Lib.hid (hstp he)
          have hst2 := Lib.hid (show (mixG H N ps jj i).set i (stpL st H N l) = mixG H N ps jj (i + 1) by
            have := mix_set (H := H) (N := N) (g := jj) hp
            rw [(hstp he).2, ← hlE] at this
            exact this)
          have hok2 := Lib.hid (show ∀ (k : Nat) p, k < i + 1 → ps[k]? = some p → (itS H N p (jj + 1)).1 = 0 from fun k p' hk hp' => by
            by_cases ek : k = i
            · subst ek; rw [hp] at hp'; injection hp' with hp'; subst hp'; exact hnx.out.1
            · exact hok.out k p' (by omega) hp')
          rw [he, hst2.out] at kS2
          clear he hstp hnx hst2 hok hlE hl hp hpz
          go_wp2_with fail
          go_region_law
            (go_simp; go_at_call 52; refine kS2.mono ?_; rintro e7 w7 ⟨A7, n7, c7, rfl, hg7, x7, f7, hs7⟩)
          all_goals
            go_wp2_with fail
            go_roundw
            case rel => exact ⟨i + 1, by go_num, by omega, hs7.out.1, hs7.out.2.1, hok2, hs7.out.2.2⟩
            case measure => simp [intOf]; omega
        · generalize stpE st H N l = qe at kS2 he
          have r0 : (qe != 0) = true := by simpa using he
          have r1 : (qe == 0) = false := by simpa using he
          clear he hstp hok hlE hl hp hpz
          go_wp2_with fail
          go_region_law
            (go_simp; go_at_call 52; refine kS2.mono ?_; rintro e7 w7 ⟨A7, n7, c7, rfl, hg7, x7, f7, hs7⟩)
          all_goals
            have hfin := below_thru hB hs7.out.2.2.2
            go_wp2_with fail
            (try rw [Exit.noGoto_ret])
            go_ret2
            exact ⟨0, qe, rfl, fun h _ => by omega, hfin⟩
      · obtain rfl : i = n2 := by omega
        have di : decide ((i : Int) < i) = false := decide_eq_false (by omega)
        have di' : decide (i < i) = false := decide_eq_false hil
        rw [mix_all hpl.out] at hX
        have hiN := Lib.hid (show ∀ p ∈ ps, (itS H N p (jj + 1)).1 = 0 from fun p hp => by
          obtain ⟨k, hk, rfl⟩ := List.getElem_of_mem hp
          exact hok.out k _ (by rw [hpl.out] at hk; exact hk) (List.getElem?_eq_getElem hk))
        have hsm2 := Lib.hid (show ∀ p ∈ itsG H N ps (jj + 1), p.length ≤ 5000 from fun p hp => by
          obtain ⟨x, _, rfl⟩ := List.mem_map.1 hp
          exact it_small)
        have kS := direct_Step st A B E n c m d q g H N (itS H N W jj).2 wr (hH.of hb) (hN.of hb) hW.rd hq
        have hstp := fun (h : stpE st H N (itS H N W jj).2 = 0) => step_it (st := st) hi2.out h
        have ⟨tbl, t0, t1, t2⟩ := hbt.of hb
        by_cases he : stpE st H N (itS H N W jj).2 = 0
        case neg =>
          generalize stpE st H N (itS H N W jj).2 = qe at kS he
          have r0 : (qe != 0) = true := by simpa using he
          have r1 : (qe == 0) = false := by simpa using he
          clear he hstp
          go_wp2_with fail
          go_at_call 52
          refine kS.mono ?_
          rintro e7 w7 ⟨A7, n7, c7, rfl, hN7, hb7⟩
          have hfin := below_thru hB (below_thru hb hb7)
          go_wp2_with fail
          (try rw [Exit.noGoto_ret])
          go_ret2
          exact ⟨0, qe, rfl, fun h _ => by omega, hfin⟩
        obtain ⟨hz1, hz2⟩ := hstp he
        rw [he, ← hz2] at kS
        have hWl := Lib.hid (show (itS H N W (jj + 1)).2.length ≤ 5000 from it_small)
        replace hz1 := Lib.hid hz1
        clear he hstp hz2 hW hok
        go_wp2_with fail
        go_at_call 52
        refine kS.mono ?_
        rintro e7 w7 ⟨A7, n7, c7, rfl, hN7, hb7⟩
        have hs7 := hb7.size
        have hb7' := below_thru hb hb7
        have hX7 := hX.of hb7
        have hN7' := hN7.more hws2
        have hn7 : n7 ≤ 1000000 := by rw [← hN7.rd.len]; have := hWl.out; omega
        clear t0 t1 t2 tbl kS hX hN7
        have kD := col_disjoint A2 i c2 _ w7 hX7.rd hcap hnl hsm2.out
        go_wp2_with fail
        go_at_call 50
        refine kD.mono ?_
        rintro e8 w8 ⟨dj8, rfl, hb8⟩
        have hb8' := below_thru hb7' hb8
        have hs8 := hb8.size
        cases dj8 with
        | false =>
          have hfin := below_thru hB hb8'
          go_wp2_with fail
          (try rw [Exit.noGoto_ret])
          go_ret2
          exact ⟨(jj : Int) + 1, 0, rfl, fun h _ => by omega, hfin⟩
        | true =>
        have hX8 := hX7.of hb8
        have kJ := col_joined A2 i c2 _ w8 hX8.rd hnl hsm2.out
        have hal := Lib.hid (fun h3 h4 => alone_step hAl.out hiN.out (by rw [hWE.out]; exact hz1.out) h3 (by rw [hWE.out]; exact h4))
        go_wp2_with fail
        go_at_call 51
        refine kJ.mono ?_
        rintro e9 w9 ⟨A9, n9, c9, rfl, hJ9, hn9, hb9⟩
        have hb9' := below_thru hb8' hb9
        have hs9 := hb9.size
        by_cases hfe : frE (itsG H N ps (jj + 1)).flatten = 0
        case neg =>
          generalize frE (itsG H N ps (jj + 1)).flatten = fe at hfe
          have r0 : (fe != 0) = true := by simpa using hfe
          have r1 : (fe == 0) = false := by simpa using hfe
          have hfin := below_thru hB hb9'
          clear hfe hal
          go_wp2_with fail
          (try rw [Exit.noGoto_ret])
          go_ret2
          exact ⟨(jj : Int) + 1, 0, rfl, fun h _ => by omega, hfin⟩
        rw [hfe]
        have hN9 := (hN7'.of hb8).of hb9
        have kE := pat_Same A9 A7 n9 n7 c9 c7 _ _ w9 hJ9.rd hN9.rd hn9
        have hX9 := hX8.of hb9
        by_cases hsa : sameL (frL (itsG H N ps (jj + 1)).flatten) (itS H N W (jj + 1)).2 = true
        case neg =>
          rw [show sameL (frL (itsG H N ps (jj + 1)).flatten) (itS H N W (jj + 1)).2 = false by simpa using hsa] at kE
          clear hsa hal
          go_wp2_with fail
          go_at_call 40
          refine kE.mono ?_
          rintro e10 w10 ⟨rfl, hb10⟩
          have hfin := below_thru hB (below_thru hb9' hb10)
          go_wp2_with fail
          (try rw [Exit.noGoto_ret])
          go_ret2
          exact ⟨(jj : Int) + 1, 0, rfl, fun h _ => by omega, hfin⟩
        rw [hsa] at kE
        have hal2 := Lib.hid (hal.out hfe (by unfold sameL at hsa; exact of_decide_eq_true hsa))
        clear hsa hal hfe
        go_wp2_with fail
        go_at_call 40
        refine kE.mono ?_
        rintro e10 w10 ⟨rfl, hb10⟩
        have hb10' := below_thru hb9' hb10
        have hs10 := hb10.size
        go_wp2_with fail
        go_roundw
        case rel => exact ⟨A7, n7, c7, jj + 1, rfl, rfl, by go_num, by omega, hn7, hN9.of hb10, hX9.of hb10, hiN, hz1, hal2, by omega, hb10'⟩
        case measure => simp [intOf]; omega
end
end Go.Proofs.YtellglbmbocgkaaGreatDoor
end
section
namespace Go.Proofs.YtellglbmbocgkaaGreatDoor
open Go Go.RowKit
set_option maxRecDepth 100000
set_option linter.unusedSimpArgs false
set_option linter.unusedVariables false
section
variable (st : Int) (A B S D : Option Addr) (n c m d k u nl v : Nat) (H : List (Int × Int)) (N : List (Int × List Int)) (SL : List ShpT) (L : List ShtT) (w : World)
set_option maxHeartbeats 16000000 in
theorem col_start (hM : Mx w) (hH : Rd encP 2 w A n H) (hN : RdX ekN w B m N) (hS : RdX ekSh w S k SL) (hL : Rd encSt 5 w D nl L) (hk : k ≤ 8) (hnl : nl ≤ 16) (hsm : ∀ x ∈ SL, x.1.length ≤ 1000000) :
    Calls Tryz.prog 53 #[.agg #[.int .i64 st, .slice A n c, .slice B m d], .slice S k u, .slice D nl v] w fun e' w' => ∃ A2 n2 c2 er, e' = .returned (.tuple #[.slice A2 n2 c2, .int .i64 er]) ∧ (er = 0 → Rd encC 3 w' A2 n2 (frL (L.map (plcL st H N SL)).flatten)) ∧ n2 ≤ 1000000 ∧ n2 ≤ c2 ∧ Below w.heap.size w w' := by
  have kP := fun w1 h0 h1 h2 h3 h4 => col_placed st A B S D n c m d k u nl v H N SL L w1 h0 h1 h2 h3 h4 hk hnl hsm
  have hpsm := Lib.hid (show ∀ p ∈ L.map (plcL st H N SL), p.length ≤ 5000 from fun p hp => by
    obtain ⟨x, _, rfl⟩ := List.mem_map.1 hp
    exact plc_small)
  generalize hpsE : L.map (plcL st H N SL) = ps at kP hpsm ⊢
  clear hpsE
  go_enter Tryz.func53, Tryz.ntmps53
  go_wp2_with fail
  have hbt := TrAt.new w (.int .i64 st) (.slice A n c) (.slice B m d) 25
  have hB : Below w.heap.size w (w.alloc (.cells #[.int .i64 st, .slice A n c, .slice B m d] 25)) := (Below.refl _ _).alloc (Nat.le_refl _) _
  obtain ⟨we, hwe⟩ : ∃ we, we = w.alloc (.cells #[.int .i64 st, .slice A n c, .slice B m d] 25) := ⟨_, rfl⟩
  rw [← hwe] at hbt hB ⊢
  clear hwe
  go_at_call 49
  refine (kP _ (hM.of hB) (hH.of hB) (hN.of hB) (hS.of hB) (hL.of hB)).mono ?_
  rintro e1 w1 ⟨A2, n2, c2, er1, rfl, hres, hb1⟩
  have hB1 := below_thru hB hb1
  by_cases h0 : er1 = 0
  case neg =>
    have r0 : (er1 != 0) = true := by simpa using h0
    have r1 : (er1 == 0) = false := by simpa using h0
    have hz := Lib.hid h0
    clear h0 hres
    go_wp2_with fail
    go_ret2
    exact ⟨none, 0, 0, er1, rfl, fun h => absurd h hz.out, by omega, by omega, hB1⟩
  obtain ⟨_, _, hn2, hX⟩ := hres h0
  subst h0 hn2
  clear hres kP
  have kD := col_disjoint A2 n2 c2 ps w1 hX.rd hX.capX hnl hpsm.out
  go_wp2_with fail
  go_at_call 50
  refine kD.mono ?_
  rintro e2 w2 ⟨dj, rfl, hb2⟩
  have hB2 := below_thru hB1 hb2
  cases dj with
  | false =>
    go_wp2_with fail
    go_ret2
    exact ⟨none, 0, 0, 8, rfl, fun h => by omega, by omega, by omega, hB2⟩
  | true =>
  have kJ := col_joined A2 n2 c2 ps w2 (hX.of hb2).rd hnl hpsm.out
  go_wp2_with fail
  go_at_call 51
  refine kJ.mono ?_
  rintro e3 w3 ⟨E3, q3, c3, rfl, hW3, hq3, hb3⟩
  go_wp2_with fail
  go_ret2
  exact ⟨E3, q3, c3, _, rfl, fun _ => hW3.rd, hq3, hW3.cap, below_thru hB2 hb3⟩
set_option maxHeartbeats 16000000 in
theorem col_Result (gg : Nat) (hM : Mx w) (hH : Rd encP 2 w A n H) (hN : RdX ekN w B m N) (hS : RdX ekSh w S k SL) (hL : Rd encSt 5 w D nl L) (hk : k ≤ 8) (hnl : nl ≤ 16) (hsm : ∀ x ∈ SL, x.1.length ≤ 1000000) :
    Calls Tryz.prog 25 #[.agg #[.int .i64 st, .slice A n c, .slice B m d], .slice S k u, .slice D nl v, .int .i64 (gg : Int)] w fun e' w' => ∃ A2 n2 c2 er, e' = .returned (.tuple #[.slice A2 n2 c2, .int .i64 er]) ∧ (er = 0 → runE st H N (frL (L.map (plcL st H N SL)).flatten) (gg : Int) = 0 ∧ Rd encC 3 w' A2 n2 (runL st H N (frL (L.map (plcL st H N SL)).flatten) (gg : Int))) ∧ n2 ≤ c2 ∧ Below w.heap.size w w' := by
  have kP := fun w1 h0 h1 h2 h3 h4 => col_start st A B S D n c m d k u nl v H N SL L w1 h0 h1 h2 h3 h4 hk hnl hsm
  generalize frL (L.map (plcL st H N SL)).flatten = W at kP ⊢
  go_enter Tryz.func25, Tryz.ntmps25
  go_wp2_with fail
  have hbt := TrAt.new w (.int .i64 st) (.slice A n c) (.slice B m d) 25
  have hB : Below w.heap.size w (w.alloc (.cells #[.int .i64 st, .slice A n c, .slice B m d] 25)) := (Below.refl _ _).alloc (Nat.le_refl _) _
  obtain ⟨we, hwe⟩ : ∃ we, we = w.alloc (.cells #[.int .i64 st, .slice A n c, .slice B m d] 25) := ⟨_, rfl⟩
  rw [← hwe] at hbt hB ⊢
  clear hwe
  replace hH := hH.of hB
  replace hN := hN.of hB
  go_at_call 53
  refine (kP _ (hM.of hB) hH hN (hS.of hB) (hL.of hB)).mono ?_
  rintro e1 w1 ⟨A2, n2, c2, er1, rfl, hres, hn2, hc2, hb1⟩
  have hB1 := below_thru hB hb1
  by_cases h0 : er1 = 0
  case neg =>
    have r0 : (er1 != 0) = true := by simpa using h0
    have r1 : (er1 == 0) = false := by simpa using h0
    have hz := Lib.hid h0
    clear h0 hres
    go_wp2_with fail
    go_ret2
    exact ⟨none, 0, 0, er1, rfl, fun h => absurd h hz.out, by omega, hB1⟩
  have hW := hres h0
  subst h0
  clear hres kP
  have kR := direct_Run st A B A2 n c m d n2 c2 H N W w1 (gg : Int) (hH.of hb1) (hN.of hb1) hW hn2 hc2
  obtain ⟨_, t0, t1, t2⟩ := hbt.of hb1
  go_wp2_with fail
  go_at_call 17
  refine kR.mono ?_
  rintro e2 w2 ⟨A3, n3, c3, rfl, hR3, hc3, hb2⟩
  go_wp2_with fail
  go_ret2
  exact ⟨A3, n3, c3, _, rfl, fun h => ⟨h, hR3⟩, hc3, below_thru hB1 hb2⟩
end
end Go.Proofs.YtellglbmbocgkaaGreatDoor
end
