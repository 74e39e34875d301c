/- Record, the program's and the reference's. By mktim8.py. -/
import Derived.Test.YtellglbmbocgkaaGreatDoorTMF
import Derived.Test.YtellglbmbocgkaaGreatDoorCHG
import Derived.Test.YtellglbmbocgkaaGreatDoorPLN
import Derived.Test.YtellglbmbocgkaaGreatDoorMEM
import Derived.Test.YtellglbmbocgkaaGreatDoorSRT
import Derived.Test.YtellglbmbocgkaaGreatDoorCEL
import Derived.Deep.RegionHeld3
import Derived.Test.YtellglbmbocgkaaGreatDoorTMC
import Derived.Test.YtellglbmbocgkaaGreatDoorDIR
namespace Go.Proofs.YtellglbmbocgkaaGreatDoor
open Go Go.RowKit
set_option linter.unusedSimpArgs false
set_option linter.unusedVariables false
set_option maxRecDepth 100000
set_option linter.unusedSimpArgs false
set_option linter.unusedVariables false
def rcK (st : Int) (H : List (Int × Int)) (N : List (Int × List Int)) (p : List Cel) (n key : Int) : Int := if rcE st H N p n key = 0 then key else 0
theorem rc_no {st : Int} {H : List (Int × Int)} {N : List (Int × List Int)} {p : List Cel} {n key q : Int} (h : rcE st H N p n key = q) (hq : q ≠ 0) : rcE st H N p n key = q ∧ rcL st H N p n key = [] ∧ rcK st H N p n key = 0 := by
  refine ⟨h, ?_, ?_⟩
  · unfold rcL; rw [if_neg (by rw [h]; exact hq)]
  · unfold rcK; rw [if_neg (by rw [h]; exact hq)]
theorem rc_yes {st : Int} {H : List (Int × Int)} {N : List (Int × List Int)} {p : List Cel} {n K : Nat} (h : rcE st H N p n K = 0) : rcE st H N p n K = 0 ∧ rcL st H N p n K = bldL K (nnL (n + 1)) (hisL st H N p n) (n + 1) ∧ rcK st H N p n K = K := by
  refine ⟨h, ?_, ?_⟩
  · unfold rcL; rw [if_pos h, Int.toNat_natCast, Int.toNat_natCast]
  · unfold rcK; rw [if_pos h]
theorem ret_tle {key E : Int} {B : Option Addr} {m d : Nat} {key' E' : Int} (hk : key = key') (hE : E = E') : Ending.returned (.tuple #[.agg #[.int .i64 key, .slice B m d], .int .i64 E]) = .returned (.tuple #[.agg #[.int .i64 key', .slice B m d], .int .i64 E']) := by rw [hk, hE]
theorem OwnX.capX {α β : Type} {K : EK α β} {e : TypeId} {B n c : Nat} {w : World} {A : Option Addr} {bs : List β} (h : OwnX K e B w A n c bs) : n ≤ c := by
  obtain ⟨us, h1, _, _⟩ := h
  rcases h1.row.2 with ⟨h0, _⟩ | ⟨g, cap, cur, hv, hg, hh, h2, r⟩
  · injection h0 with _ e1 e2; omega
  · injection hv with _ e1 e2; omega
theorem two_boxesR (w : World) (x y z : Value) (t t' : TypeId) : ∃ we, we = (w.alloc (.cells #[x, y, z] t)).alloc (.cells #[.int .i64 0, .slice none 0 0] t') ∧
    TrAt we w.heap.size x y z ∧ BxW we (w.heap.size + 1) [.int .i64 0, .slice none 0 0] ∧ Below w.heap.size w we ∧ we.heap.size = w.heap.size + 2 := by
  have h := BxW.new (w.alloc (.cells #[x, y, z] t)) [.int .i64 0, .slice none 0 0] t'
  rw [World.size_alloc] at h
  exact ⟨_, rfl, (TrAt.new w x y z t).of ((Below.refl _ _).alloc (Nat.le_refl _) _), h, ((Below.refl _ _).alloc (Nat.le_refl _) _).alloc (by simp) _, by simp⟩
theorem his_right {st : Int} {H : List (Int × Int)} {N : List (Int × List Int)} {p : List Cel} {n : Nat} (hf : FitsR st H N p) (hr : runE st H N p n = 0) : ∀ q ∈ hisL st H N p n, rightC q = true := by
  intro q hq
  obtain ⟨i, hi⟩ := List.getElem?_of_mem hq
  have hi2 : i < n + 1 := by have := (List.getElem?_eq_some_iff.1 hi).1; rw [his_len' hr] at this; omega
  rw [his_get hr (by omega)] at hi
  injection hi with hi
  rw [← hi]
  exact (it_fits hf i).pat
set_option maxHeartbeats 8000000 in
theorem tl_Record (st : Int) (A B D : Option Addr) (n c m d k e : Nat) (H : List (Int × Int)) (N : List (Int × List Int)) (p : List Cel) (nn key : Int) (w : World) (hH : Rd encP 2 w A n H) (hN : RdX ekN w B m N) (hR : Rd encC 3 w D k p) (hk : k ≤ 1000000) (hke : k ≤ e) :
    Calls Tryz.prog 8 #[.agg #[.int .i64 st, .slice A n c, .slice B m d], .slice D k e, .int .i64 nn, .int .i64 key] w fun e w' => ∃ B' m' d', e = .returned (.tuple #[.agg #[.int .i64 (rcK st H N p nn key), .slice B' m' d'], .int .i64 (rcE st H N p nn key)]) ∧ RdX ekFr w' B' m' (rcL st H N p nn key) ∧ m' ≤ d' ∧ Below w.heap.size w w' := by
  have k0 := fun w1 h1 h2 h3 => direct_Run st A B D n c m d k e H N p w1 0 h1 h2 h3 hk hke
  have k1 := fun w1 h1 h2 h3 => direct_History st A B D n c m d k e H N p w1 nn h1 h2 h3 hk hke
  by_cases h0 : runE st H N p 0 = 0
  · rw [h0] at k0
    have hf : FitsR st H N p := fit_iff.1 (by rw [← run0]; exact h0)
    by_cases ha : nn < 0 ∨ 10000 < nn ∨ key < 1 ∨ 100 < key
    · have HE := Lib.hid (rc_no (q := 2) (show rcE st H N p nn key = 2 by unfold rcE; rw [if_pos h0, if_pos ha]) (by omega))
      clear h0 hf k1
      by_cases q0 : nn < 0
      · have da : decide (nn < 0) = true := decide_eq_true (by omega)
        clear ha q0
        go_enter Tryz.func8, Tryz.ntmps8
        go_wp2_with fail
        obtain ⟨we, hwe, hbt, hrb, hB, hsw⟩ := two_boxesR w (.int .i64 st) (.slice A n c) (.slice B m d) 25 33
        rw [← hwe]
        clear hwe
        obtain ⟨rb, hrbe⟩ : ∃ rb, rb = w.heap.size + 1 := ⟨_, rfl⟩
        rw [← hrbe] at hrb ⊢
        have hrg : w.heap.size ≤ rb := by omega
        clear hrbe
        replace hH := hH.of hB
        replace hN := hN.of hB
        replace hR := hR.of hB
        have ⟨_, t0, t1, t2⟩ := hbt
        go_wp2_with fail
        go_at_call 17
        refine (k0 _ hH hN hR).mono ?_
        rintro e1 w1 ⟨A2, n2, c2, rfl, _, _, hb1⟩
        clear t0 t1 t2
        replace hH := hH.of hb1
        replace hN := hN.of hb1
        replace hR := hR.of hb1
        replace hrb := hrb.of hb1
        replace hbt := hbt.of hb1
        replace hB := below_thru hB hb1
        have hs1 := hb1.size
        clear hb1
        have ⟨_, t0, t1, t2⟩ := hbt
        have ⟨_, r0, r1, fr0, fr1⟩ := hrb.open2
        go_wp2_with fail
        refine bodyPost_ret (v := .tuple #[.agg #[.int .i64 0, .slice none 0 0], .int .i64 2]) (by simp [results, Tryz.results8, go_sem, *, ↓IntWalk.iteOmega]) rfl ?_
        exact ⟨none, 0, 0, ret_tle HE.out.2.2.symm HE.out.1.symm, by rw [HE.out.2.1]; exact RdX.nil_, by omega, (hB.setCell hrg _).setCell hrg _⟩
      · skip
        by_cases q1 : 10000 < nn
        · have da : decide (nn < 0) = false := decide_eq_false (by omega)
          have db : decide (10000 < nn) = true := decide_eq_true (by omega)
          clear ha q0 q1
          go_enter Tryz.func8, Tryz.ntmps8
          go_wp2_with fail
          obtain ⟨we, hwe, hbt, hrb, hB, hsw⟩ := two_boxesR w (.int .i64 st) (.slice A n c) (.slice B m d) 25 33
          rw [← hwe]
          clear hwe
          obtain ⟨rb, hrbe⟩ : ∃ rb, rb = w.heap.size + 1 := ⟨_, rfl⟩
          rw [← hrbe] at hrb ⊢
          have hrg : w.heap.size ≤ rb := by omega
          clear hrbe
          replace hH := hH.of hB
          replace hN := hN.of hB
          replace hR := hR.of hB
          have ⟨_, t0, t1, t2⟩ := hbt
          go_wp2_with fail
          go_at_call 17
          refine (k0 _ hH hN hR).mono ?_
          rintro e1 w1 ⟨A2, n2, c2, rfl, _, _, hb1⟩
          clear t0 t1 t2
          replace hH := hH.of hb1
          replace hN := hN.of hb1
          replace hR := hR.of hb1
          replace hrb := hrb.of hb1
          replace hbt := hbt.of hb1
          replace hB := below_thru hB hb1
          have hs1 := hb1.size
          clear hb1
          have ⟨_, t0, t1, t2⟩ := hbt
          have ⟨_, r0, r1, fr0, fr1⟩ := hrb.open2
          go_wp2_with fail
          refine bodyPost_ret (v := .tuple #[.agg #[.int .i64 0, .slice none 0 0], .int .i64 2]) (by simp [results, Tryz.results8, go_sem, *, ↓IntWalk.iteOmega]) rfl ?_
          exact ⟨none, 0, 0, ret_tle HE.out.2.2.symm HE.out.1.symm, by rw [HE.out.2.1]; exact RdX.nil_, by omega, (hB.setCell hrg _).setCell hrg _⟩
        · skip
          by_cases q2 : key < 1
          · have da : decide (nn < 0) = false := decide_eq_false (by omega)
            have db : decide (10000 < nn) = false := decide_eq_false (by omega)
            have dc : decide (key < 1) = true := decide_eq_true (by omega)
            clear ha q0 q1 q2
            go_enter Tryz.func8, Tryz.ntmps8
            go_wp2_with fail
            obtain ⟨we, hwe, hbt, hrb, hB, hsw⟩ := two_boxesR w (.int .i64 st) (.slice A n c) (.slice B m d) 25 33
            rw [← hwe]
            clear hwe
            obtain ⟨rb, hrbe⟩ : ∃ rb, rb = w.heap.size + 1 := ⟨_, rfl⟩
            rw [← hrbe] at hrb ⊢
            have hrg : w.heap.size ≤ rb := by omega
            clear hrbe
            replace hH := hH.of hB
            replace hN := hN.of hB
            replace hR := hR.of hB
            have ⟨_, t0, t1, t2⟩ := hbt
            go_wp2_with fail
            go_at_call 17
            refine (k0 _ hH hN hR).mono ?_
            rintro e1 w1 ⟨A2, n2, c2, rfl, _, _, hb1⟩
            clear t0 t1 t2
            replace hH := hH.of hb1
            replace hN := hN.of hb1
            replace hR := hR.of hb1
            replace hrb := hrb.of hb1
            replace hbt := hbt.of hb1
            replace hB := below_thru hB hb1
            have hs1 := hb1.size
            clear hb1
            have ⟨_, t0, t1, t2⟩ := hbt
            have ⟨_, r0, r1, fr0, fr1⟩ := hrb.open2
            go_wp2_with fail
            refine bodyPost_ret (v := .tuple #[.agg #[.int .i64 0, .slice none 0 0], .int .i64 2]) (by simp [results, Tryz.results8, go_sem, *, ↓IntWalk.iteOmega]) rfl ?_
            exact ⟨none, 0, 0, ret_tle HE.out.2.2.symm HE.out.1.symm, by rw [HE.out.2.1]; exact RdX.nil_, by omega, (hB.setCell hrg _).setCell hrg _⟩
          · have da : decide (nn < 0) = false := decide_eq_false (by omega)
            have db : decide (10000 < nn) = false := decide_eq_false (by omega)
            have dc : decide (key < 1) = false := decide_eq_false (by omega)
            have dd : decide (100 < key) = true := decide_eq_true (by omega)
            clear ha q0 q1 q2
            go_enter Tryz.func8, Tryz.ntmps8
            go_wp2_with fail
            obtain ⟨we, hwe, hbt, hrb, hB, hsw⟩ := two_boxesR w (.int .i64 st) (.slice A n c) (.slice B m d) 25 33
            rw [← hwe]
            clear hwe
            obtain ⟨rb, hrbe⟩ : ∃ rb, rb = w.heap.size + 1 := ⟨_, rfl⟩
            rw [← hrbe] at hrb ⊢
            have hrg : w.heap.size ≤ rb := by omega
            clear hrbe
            replace hH := hH.of hB
            replace hN := hN.of hB
            replace hR := hR.of hB
            have ⟨_, t0, t1, t2⟩ := hbt
            go_wp2_with fail
            go_at_call 17
            refine (k0 _ hH hN hR).mono ?_
            rintro e1 w1 ⟨A2, n2, c2, rfl, _, _, hb1⟩
            clear t0 t1 t2
            replace hH := hH.of hb1
            replace hN := hN.of hb1
            replace hR := hR.of hb1
            replace hrb := hrb.of hb1
            replace hbt := hbt.of hb1
            replace hB := below_thru hB hb1
            have hs1 := hb1.size
            clear hb1
            have ⟨_, t0, t1, t2⟩ := hbt
            have ⟨_, r0, r1, fr0, fr1⟩ := hrb.open2
            go_wp2_with fail
            refine bodyPost_ret (v := .tuple #[.agg #[.int .i64 0, .slice none 0 0], .int .i64 2]) (by simp [results, Tryz.results8, go_sem, *, ↓IntWalk.iteOmega]) rfl ?_
            exact ⟨none, 0, 0, ret_tle HE.out.2.2.symm HE.out.1.symm, by rw [HE.out.2.1]; exact RdX.nil_, by omega, (hB.setCell hrg _).setCell hrg _⟩
    · obtain ⟨NN, rfl⟩ : ∃ NN : Nat, nn = NN := ⟨nn.toNat, by omega⟩
      obtain ⟨K, rfl⟩ : ∃ K : Nat, key = K := ⟨key.toNat, by omega⟩
      have da : decide ((NN : Int) < 0) = false := decide_eq_false (by omega)
      have db : decide (10000 < (NN : Int)) = false := decide_eq_false (by omega)
      have db' : decide (10000 < NN) = false := decide_eq_false (by omega)
      have dc : decide ((K : Int) < 1) = false := decide_eq_false (by omega)
      have dc' : decide (K < 1) = false := decide_eq_false (by omega)
      have dcz : decide (K = 0) = false := decide_eq_false (by omega)
      have dd : decide (100 < (K : Int)) = false := decide_eq_false (by omega)
      have dd' : decide (100 < K) = false := decide_eq_false (by omega)
      have hw1 : IntKind.i64.wrap ((NN : Int) + 1) = (NN : Int) + 1 := IntWalk.i64_in _ (by omega)
      by_cases hs : 1000 ≤ NN
      · have HE := Lib.hid (rc_no (q := 6) (show rcE st H N p NN K = 6 by unfold rcE; rw [if_pos h0, if_neg ha, if_pos (by omega)]) (by omega))
        have ds : decide (1000 ≤ (NN : Int)) = true := decide_eq_true (by omega)
        have ds' : decide (1000 ≤ NN) = true := decide_eq_true (by omega)
        have dt : decide (1000 < (NN : Int) + 1) = true := decide_eq_true (by omega)
        have dt' : decide (1000 < NN + 1) = true := decide_eq_true (by omega)
        clear h0 hf k1 ha hs
        go_enter Tryz.func8, Tryz.ntmps8
        go_wp2_with fail
        obtain ⟨we, hwe, hbt, hrb, hB, hsw⟩ := two_boxesR w (.int .i64 st) (.slice A n c) (.slice B m d) 25 33
        rw [← hwe]
        clear hwe
        obtain ⟨rb, hrbe⟩ : ∃ rb, rb = w.heap.size + 1 := ⟨_, rfl⟩
        rw [← hrbe] at hrb ⊢
        have hrg : w.heap.size ≤ rb := by omega
        clear hrbe
        replace hH := hH.of hB
        replace hN := hN.of hB
        replace hR := hR.of hB
        have ⟨_, t0, t1, t2⟩ := hbt
        go_wp2_with fail
        go_at_call 17
        refine (k0 _ hH hN hR).mono ?_
        rintro e1 w1 ⟨A2, n2, c2, rfl, _, _, hb1⟩
        clear t0 t1 t2
        replace hH := hH.of hb1
        replace hN := hN.of hb1
        replace hR := hR.of hb1
        replace hrb := hrb.of hb1
        replace hbt := hbt.of hb1
        replace hB := below_thru hB hb1
        have hs1 := hb1.size
        clear hb1
        have ⟨_, t0, t1, t2⟩ := hbt
        have ⟨_, r0, r1, fr0, fr1⟩ := hrb.open2
        go_wp2_with fail
        refine bodyPost_ret (v := .tuple #[.agg #[.int .i64 0, .slice none 0 0], .int .i64 6]) (by simp [results, Tryz.results8, go_sem, *, ↓IntWalk.iteOmega]) rfl ?_
        exact ⟨none, 0, 0, ret_tle HE.out.2.2.symm HE.out.1.symm, by rw [HE.out.2.1]; exact RdX.nil_, by omega, (hB.setCell hrg _).setCell hrg _⟩
      · have ds : decide (1000 ≤ (NN : Int)) = false := decide_eq_false (by omega)
        have ds' : decide (1000 ≤ NN) = false := decide_eq_false (by omega)
        have dt : decide (1000 < (NN : Int) + 1) = false := decide_eq_false (by omega)
        have dt' : decide (1000 < NN + 1) = false := decide_eq_false (by omega)
        by_cases h1 : runE st H N p NN = 0
        · have HE := Lib.hid (rc_yes (show rcE st H N p NN K = 0 by unfold rcE; rw [if_pos h0, if_neg ha, if_neg (by omega)]; exact h1))
          have hkb : 1 ≤ K ∧ K ≤ 100 := by omega
          have hnb : NN < 1000 := by omega
          have hlen := Lib.hid (his_len' h1)
          have hri := Lib.hid (his_right hf h1)
          rw [h1] at k1
          clear h0 hf ha hs h1
          go_enter Tryz.func8, Tryz.ntmps8
          go_wp2_with fail
          obtain ⟨we, hwe, hbt, hrb, hB, hsw⟩ := two_boxesR w (.int .i64 st) (.slice A n c) (.slice B m d) 25 33
          rw [← hwe]
          clear hwe
          obtain ⟨rb, hrbe⟩ : ∃ rb, rb = w.heap.size + 1 := ⟨_, rfl⟩
          rw [← hrbe] at hrb ⊢
          have hrg : w.heap.size ≤ rb := by omega
          clear hrbe
          replace hH := hH.of hB
          replace hN := hN.of hB
          replace hR := hR.of hB
          have ⟨_, t0, t1, t2⟩ := hbt
          go_wp2_with fail
          go_at_call 17
          refine (k0 _ hH hN hR).mono ?_
          rintro e1 w1 ⟨A2, n2, c2, rfl, _, _, hb1⟩
          clear t0 t1 t2
          replace hH := hH.of hb1
          replace hN := hN.of hb1
          replace hR := hR.of hb1
          replace hrb := hrb.of hb1
          replace hbt := hbt.of hb1
          replace hB := below_thru hB hb1
          have hs1 := hb1.size
          clear hb1
          have ⟨_, t0, t1, t2⟩ := hbt
          have ⟨_, r0, r1, fr0, fr1⟩ := hrb.open2
          go_wp2_with fail
          go_at_call 9
          refine (k1 _ hH hN hR).mono ?_
          rintro e2 w2 ⟨A3, n3, c3, rfl, hl3, hc3, hb2⟩
          clear t0 t1 t2
          replace hH := hH.of hb2
          replace hN := hN.of hb2
          replace hR := hR.of hb2
          replace hrb := hrb.of hb2
          replace hbt := hbt.of hb2
          replace hB := below_thru hB hb2
          have hs2 := hb2.size
          clear hb2
          have ⟨_, t0, t1, t2⟩ := hbt
          have ⟨_, r0, r1, fr0, fr1⟩ := hrb.open2
          have hn3 := Lib.hid (show n3 = NN + 1 by rw [← hl3.len, hlen.out])
          have hn3b : n3 ≤ 1000 := by rw [hn3.out]; omega
          have kM := fun w1 h => tl_madeR K n3 c3 A3 (hisL st H N p NN) w1 hkb h hri.out hn3b
          go_wp2_with fail
          go_at_call 30
          refine (kM _ hl3).mono ?_
          rintro e3 w3 ⟨B', m', d', rfl, hO, hb3⟩
          replace hrb := hrb.of hb3
          have hs3 := hb3.size
          replace hB := below_thru hB hb3
          have ⟨_, x0, x1, fx0, fx1⟩ := hrb.open2
          clear r0 r1 fr0 fr1
          go_wp2_with fail
          refine bodyPost_ret (v := .tuple #[.agg #[.int .i64 (K : Int), .slice B' m' d'], .int .i64 0]) (by simp [results, Tryz.results8, go_sem, *, ↓IntWalk.iteOmega]) rfl ?_
          refine ⟨B', m', d', ret_tle HE.out.2.2.symm HE.out.1.symm, ?_, hO.capX, (hB.setCell hrg _).setCell hrg _⟩
          rw [HE.out.2.1, ← hn3.out]
          exact hO.rd.set2 hrb _ _
        · have HE := Lib.hid (rc_no (q := runE st H N p NN) (show rcE st H N p NN K = runE st H N p NN by unfold rcE; rw [if_pos h0, if_neg ha, if_neg (by omega)]) h1)
          generalize runE st H N p NN = q1 at k1 h1 HE
          have hq1 : (q1 != 0) = true := by simpa using h1
          clear h0 hf ha hs h1
          go_enter Tryz.func8, Tryz.ntmps8
          go_wp2_with fail
          obtain ⟨we, hwe, hbt, hrb, hB, hsw⟩ := two_boxesR w (.int .i64 st) (.slice A n c) (.slice B m d) 25 33
          rw [← hwe]
          clear hwe
          obtain ⟨rb, hrbe⟩ : ∃ rb, rb = w.heap.size + 1 := ⟨_, rfl⟩
          rw [← hrbe] at hrb ⊢
          have hrg : w.heap.size ≤ rb := by omega
          clear hrbe
          replace hH := hH.of hB
          replace hN := hN.of hB
          replace hR := hR.of hB
          have ⟨_, t0, t1, t2⟩ := hbt
          go_wp2_with fail
          go_at_call 17
          refine (k0 _ hH hN hR).mono ?_
          rintro e1 w1 ⟨A2, n2, c2, rfl, _, _, hb1⟩
          clear t0 t1 t2
          replace hH := hH.of hb1
          replace hN := hN.of hb1
          replace hR := hR.of hb1
          replace hrb := hrb.of hb1
          replace hbt := hbt.of hb1
          replace hB := below_thru hB hb1
          have hs1 := hb1.size
          clear hb1
          have ⟨_, t0, t1, t2⟩ := hbt
          have ⟨_, r0, r1, fr0, fr1⟩ := hrb.open2
          go_wp2_with fail
          go_at_call 9
          refine (k1 _ hH hN hR).mono ?_
          rintro e2 w2 ⟨A3, n3, c3, rfl, _, _, hb2⟩
          clear t0 t1 t2
          replace hH := hH.of hb2
          replace hN := hN.of hb2
          replace hR := hR.of hb2
          replace hrb := hrb.of hb2
          replace hbt := hbt.of hb2
          replace hB := below_thru hB hb2
          have hs2 := hb2.size
          clear hb2
          have ⟨_, t0, t1, t2⟩ := hbt
          have ⟨_, r0, r1, fr0, fr1⟩ := hrb.open2
          go_wp2_with fail
          refine bodyPost_ret (v := .tuple #[.agg #[.int .i64 0, .slice none 0 0], .int .i64 q1]) (by simp [results, Tryz.results8, go_sem, *, ↓IntWalk.iteOmega]) rfl ?_
          exact ⟨none, 0, 0, ret_tle HE.out.2.2.symm HE.out.1.symm, by rw [HE.out.2.1]; exact RdX.nil_, by omega, (hB.setCell hrg _).setCell hrg _⟩
  · have HE := Lib.hid (rc_no (q := runE st H N p 0) (show rcE st H N p nn key = runE st H N p 0 by unfold rcE; rw [if_neg h0]) h0)
    generalize runE st H N p 0 = q0 at k0 h0 HE
    have hq0 : (q0 != 0) = true := by simpa using h0
    clear h0 k1
    go_enter Tryz.func8, Tryz.ntmps8
    go_wp2_with fail
    obtain ⟨we, hwe, hbt, hrb, hB, hsw⟩ := two_boxesR w (.int .i64 st) (.slice A n c) (.slice B m d) 25 33
    rw [← hwe]
    clear hwe
    obtain ⟨rb, hrbe⟩ : ∃ rb, rb = w.heap.size + 1 := ⟨_, rfl⟩
    rw [← hrbe] at hrb ⊢
    have hrg : w.heap.size ≤ rb := by omega
    clear hrbe
    replace hH := hH.of hB
    replace hN := hN.of hB
    replace hR := hR.of hB
    have ⟨_, t0, t1, t2⟩ := hbt
    go_wp2_with fail
    go_at_call 17
    refine (k0 _ hH hN hR).mono ?_
    rintro e1 w1 ⟨A2, n2, c2, rfl, _, _, hb1⟩
    clear t0 t1 t2
    replace hH := hH.of hb1
    replace hN := hN.of hb1
    replace hR := hR.of hb1
    replace hrb := hrb.of hb1
    replace hbt := hbt.of hb1
    replace hB := below_thru hB hb1
    have hs1 := hb1.size
    clear hb1
    have ⟨_, t0, t1, t2⟩ := hbt
    have ⟨_, r0, r1, fr0, fr1⟩ := hrb.open2
    go_wp2_with fail
    refine bodyPost_ret (v := .tuple #[.agg #[.int .i64 0, .slice none 0 0], .int .i64 q0]) (by simp [results, Tryz.results8, go_sem, *, ↓IntWalk.iteOmega]) rfl ?_
    exact ⟨none, 0, 0, ret_tle HE.out.2.2.symm HE.out.1.symm, by rw [HE.out.2.1]; exact RdX.nil_, by omega, (hB.setCell hrg _).setCell hrg _⟩
end Go.Proofs.YtellglbmbocgkaaGreatDoor
