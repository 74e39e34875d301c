/- The reference's Counted and Right at Life's neighbourhood; the state of Totals' loops. The reference's tree of Life. -/
import Derived.Test.YtabfefhicfmabaaGreatRED
import Derived.Test.YtabfefhicfmabaaGreatHOO
import Derived.Test.YtabfefhicfmabaaGreatREW
import Derived.Test.YtabfefhicfmabaaGreatTMC
set_option linter.unusedSimpArgs false
set_option linter.unusedVariables false
section
namespace Go.Proofs.YtabfefhicfmabaaGreat
open Go Go.RowKit
set_option maxRecDepth 100000
theorem moo_sq : sqL (fun _ _ => true) 1 = mooH := by decide +kernel
theorem moo_idx : idxP mooH 0 0 = 4 := by decide +kernel
theorem ref_Moore1 (w : World) : Calls Tryz.prog 60 #[.int .i64 1] w fun e w' => ∃ A c, e = .returned (.slice A 9 c) ∧ Rd encP 2 w' A 9 mooH ∧ Below w.heap.size w w' := by
  refine (ref_Moore 1 (by omega) w).mono ?_
  rintro e w' ⟨A, n, c, rfl, hR, _, hb⟩
  rw [moo_sq] at hR
  obtain rfl : 9 = n := by rw [← hR.len]; rfl
  exact ⟨A, c, rfl, hR, hb⟩
set_option maxHeartbeats 4000000 in
theorem ref14_Counted (A : Option Addr) (c : Nat) (w : World) (hR : Rd encP 2 w A 9 mooH) :
    Calls Tryz.prog 175 #[.slice A 9 c] w fun e w' => e = .returned (.bool true) ∧ Below w.heap.size w w' := by
  have kS := fun E d w1 h1 h2 => ref_SameP A E 9 9 c d mooH mooH w1 h1 h2 (by omega)
  have es : sameL mooH mooH = true := decide_eq_true rfl
  rw [es] at kS
  go_enter Tryz.func175, Tryz.ntmps175
  go_wp2_with fail
  go_at_call 60
  refine (ref_Moore1 _).mono ?_
  rintro e1 w1 ⟨E, d, rfl, hE, hb1⟩
  go_wp2_with fail
  go_at_call 215
  refine (kS _ _ _ (hR.of hb1) hE).mono ?_
  rintro e2 w2 ⟨rfl, hb2⟩
  go_wp2_with fail
  go_ret
  exact ⟨rfl, below_thru hb1 hb2⟩
set_option maxHeartbeats 4000000 in
theorem ref14_Right (A B C : Option Addr) (c d e : Nat) (w : World) (hA : Rd encP 2 w A 9 mooH) (hB : Rd encI 1 w B 1 [3]) (hC : Rd encI 1 w C 2 [2, 3]) :
    Calls Tryz.prog 124 #[.agg #[.slice A 9 c, .int .i64 2, .slice B 1 d, .slice C 2 e]] w fun e w' => e = .returned (.bool true) ∧ Below w.heap.size w w' := by
  have kB := fun w1 h => ref14_ascending B 1 d [3] 8 w1 h (by omega) (fun i y h => by
    rcases i with _ | i
    · simp at h; omega
    · simp at h) (fun i y z h1 h2 => by simp at h2)
  have kC := fun w1 h => ref14_ascending C 2 e [2, 3] 8 w1 h (by omega) (fun i y h => by
    rcases i with _ | _ | i
    · simp at h; omega
    · simp at h; omega
    · simp at h) (fun i y z h1 h2 => by
    rcases i with _ | i
    · simp at h1 h2; omega
    · simp at h2)
  have kA := fun w1 h => ref14_Counted A c w1 h
  go_enter Tryz.func124, Tryz.ntmps124
  go_wp2_with fail
  have hxb := BxW.new w [.slice A 9 c, .int .i64 2, .slice B 1 d, .slice C 2 e] 86
  have hB0 : Below w.heap.size w (w.alloc (.cells #[.slice A 9 c, .int .i64 2, .slice B 1 d, .slice C 2 e] 86)) := by (repeat' (first | exact Below.refl _ _ | assumption | (refine Below.alloc ?_ ?_ _) | (refine Below.setCell ?_ ?_ _) | (refine Below.drew ?_) | (refine below_drewN ?_ _) | (refine below_after (Ext.below _) ?_ ?_) | (refine below_after (by assumption) ?_ ?_) | (simp; done) | omega | (simp; omega)))
  obtain ⟨we, hwe⟩ : ∃ we, we = w.alloc (.cells #[.slice A 9 c, .int .i64 2, .slice B 1 d, .slice C 2 e] 86) := ⟨_, rfl⟩
  rw [show ∀ a b c d : Value, [a, b, c, d].toArray = #[a, b, c, d] from fun _ _ _ _ => rfl] at hxb
  rw [← hwe] at hxb hB0 ⊢
  clear hwe
  replace hA := hA.of hB0
  replace hB := hB.of hB0
  replace hC := hC.of hB0
  have ⟨_, x0, x1, x2, x3, _, _, _, _⟩ := hxb.open4
  go_wp2_with fail
  go_at_call 175
  refine (kA _ hA).mono ?_
  rintro e1 w1 ⟨rfl, hb1⟩
  clear x0 x1 x2 x3
  replace hB := hB.of hb1
  replace hC := hC.of hb1
  replace hxb := hxb.of hb1
  replace hB0 := below_thru hB0 hb1
  clear hb1
  have ⟨_, x0, x1, x2, x3, _, _, _, _⟩ := hxb.open4
  go_wp2_with fail
  go_at_call 176
  refine (kB _ hB).mono ?_
  rintro e2 w2 ⟨rfl, hb1⟩
  clear x0 x1 x2 x3
  replace hC := hC.of hb1
  replace hxb := hxb.of hb1
  replace hB0 := below_thru hB0 hb1
  clear hb1
  have ⟨_, x0, x1, x2, x3, _, _, _, _⟩ := hxb.open4
  go_wp2_with fail
  go_at_call 176
  refine (kC _ hC).mono ?_
  rintro e3 w3 ⟨rfl, hb1⟩
  replace hB0 := below_thru hB0 hb1
  go_wp2_with fail
  go_ret
  exact ⟨rfl, hB0⟩
structure TtS (we : World) (tb lvl : Nat) (v0 v1 : Value) (BA HA E : Option Addr) (bn bc hn hc m q : Nat) (b h : List Int) (N : List Nd) (wr : World) : Prop where
  t : BxW wr tb [v0, v1, .slice E m q]
  f : FrG we tb wr
  b : Own encI 1 3 we.heap.size wr BA bn bc b
  bl : ∀ g, (Value.slice BA bn bc).ownBlock = some g → g < lvl
  h : Own encI 1 3 lvl wr HA hn hc h
  o : OwnO ekN 111 we.heap.size (fun g => (Value.slice HA hn hc).ownBlock = some g) wr E m q N
  tl : tb < we.heap.size
  l1 : we.heap.size ≤ lvl
  l2 : lvl ≤ wr.heap.size
section
variable {we wn w1 w2 w3 : World} {tb lvl : Nat} {v0 v1 : Value} {BA HA E : Option Addr} {bn bc hn hc m q : Nat} {b h : List Int} {N : List Nd}
theorem TtS.of (s : TtS we tb lvl v0 v1 BA HA E bn bc hn hc m q b h N wn) (hb : Below wn.heap.size wn w1) : TtS we tb lvl v0 v1 BA HA E bn bc hn hc m q b h N w1 :=
  ⟨s.t.of hb, s.f.of hb, s.b.of hb, s.bl, s.h.of hb, s.o.of hb, s.tl, s.l1, Nat.le_trans s.l2 hb.size⟩
theorem TtS.here (s : TtS we tb lvl v0 v1 BA HA E bn bc hn hc m q b h N w1) {HA' : Option Addr} {hc' : Nat} {y : Int} (hown : Own encI 1 3 lvl w2 HA' (hn + 1) hc' (h ++ [y])) (hg : w1.grownBy w2 (Value.slice HA hn hc).ownBlock)
    (hl : (Value.slice HA' (hn + 1) hc').ownBlock = (Value.slice HA hn hc).ownBlock ∨ (Value.slice HA' (hn + 1) hc').ownBlock = some w1.heap.size) : TtS we tb lvl v0 v1 BA HA' E bn bc (hn + 1) hc' m q b (h ++ [y]) N w2 := by
  have hh := fun g hq => (s.h.row.lt g hq)
  have h1 := s.l1
  have h2 := s.tl
  refine ⟨s.t.grown hg (fun e => by have := (hh _ e.symm).1; omega), ⟨s.f.g.andThen hg (fun g hq => .inl (by have := (hh g hq).1; omega))⟩, s.b.over2 hg (fun g hq e => by have := s.bl g hq; have := (hh g e).1; omega), s.bl, hown, s.o.grow hg (fun g hq e => (s.o.apart s.h (by decide)).1 g hq e) (fun g hq => .inl hq) (fun g hq e => ?_), s.tl, s.l1, Nat.le_trans s.l2 hg.size⟩
  rcases hl with hl | hl
  · rw [hl] at e; exact e
  · rw [hl] at e; injection e with e; omega
theorem TtS.node (s : TtS we tb lvl v0 v1 BA HA E bn bc hn hc m q b h N w2) {E' : Option Addr} {q' : Nat} {x : Nd} (hO : OwnO ekN 111 we.heap.size (fun g => (Value.slice HA hn hc).ownBlock = some g) w3 E' (m + 1) q' (N ++ [x])) (hg : w2.grownBy w3 (Value.slice E m q).ownBlock) :
    TtS we tb lvl v0 v1 BA HA E' bn bc hn hc (m + 1) q' b h (N ++ [x]) (w3.setCell ⟨tb, 2, none⟩ (.slice E' (m + 1) q')) := by
  have hh := fun g hq => (s.o.lt g hq).1
  have h1 := s.l1
  have h2 := s.tl
  have h3 := s.l2
  have h4 := hg.size
  refine ⟨(s.t.grown hg (fun e => by have := hh _ e.symm; omega)).put 2 _ (by simp), ⟨(s.f.g.andThen hg (fun g hq => .inl (hh g hq))).andThen (grownBy_set _ _ _ _) (fun g hq => .inr hq)⟩, ((s.b.over2 hg (fun g hq e => (s.o.apart s.b (by decide)).1 g e hq)).setBelow s.tl _), s.bl, ((s.h.over2 hg (fun g hq e => (s.o.apart s.h (by decide)).1 g e hq)).setBelow (by omega) _), hO.setOld s.tl _ _, s.tl, s.l1, by simp only [World.size_setCell]; omega⟩
end
end Go.Proofs.YtabfefhicfmabaaGreat
end
section
namespace Go.Proofs.YtabfefhicfmabaaGreat
open Go Go.RowKit
set_option maxRecDepth 100000
theorem three_boxesL (w : World) (a b c d : Value) (t t' : TypeId) : ∃ we, we = (w.alloc (.cells #[a, b, c, d] t)).alloc (.cells #[.int .i64 0, .slice none 0 0, .slice none 0 0] t') ∧
    BxW we w.heap.size [a, b, c, d] ∧ BxW we (w.heap.size + 1) [.int .i64 0, .slice none 0 0, .slice none 0 0] ∧ Below w.heap.size w we ∧ we.heap.size = w.heap.size + 2 := by
  have h := BxW.new (w.alloc (.cells #[a, b, c, d] t)) [.int .i64 0, .slice none 0 0, .slice none 0 0] t'
  rw [World.size_alloc] at h
  exact ⟨_, rfl, (BxW.new w [_, _, _, _] t).of ((Below.refl _ _).alloc (Nat.le_refl _) _), h, ((Below.refl _ _).alloc (Nat.le_refl _) _).alloc (by simp) _, by simp⟩
theorem lvN_row {i c : Nat} {b : List Int} (T : List Nd) (s : Nat) (h : s < 2) : (T ++ lvN i b (2 * c + s)) ++ [ndA i c s b] = T ++ lvN i b (2 * c + s + 1) := by
  rw [lvN_succ i c s b h, List.append_assoc]
theorem BxW.open3 {w : World} {b : Nat} {x y z : Value} (h : BxW w b [x, y, z]) : b < w.heap.size ∧ w.cell? ⟨b, 0, none⟩ = some x ∧ w.cell? ⟨b, 1, none⟩ = some y ∧ w.cell? ⟨b, 2, none⟩ = some z ∧ w.frozen? ⟨b, 0, none⟩ = false ∧ w.frozen? ⟨b, 1, none⟩ = false ∧ w.frozen? ⟨b, 2, none⟩ = false := ⟨h.1, h.2.1 0, h.2.1 1, h.2.1 2, h.2.2 0, h.2.2 1, h.2.2 2⟩
theorem RdX.takeN {α β : Type} {K : EK α β} {w : World} {A : Option Addr} {n : Nat} {bs : List β} (h : RdX K w A n bs) {j : Nat} (hj : j ≤ n) : RdX K w A j (bs.take j) := by
  obtain ⟨xs, h1, h2⟩ := h
  refine ⟨xs.take j, h1.take hj, by simp [h2.1], fun q a c ha hc => ?_⟩
  rw [List.getElem?_take] at ha hc
  split at ha
  · rename_i hq
    rw [if_pos hq] at hc
    exact h2.2 _ a c ha hc
  · cases ha
theorem erl_of {l : List Nd} (h : erlB l = true) : ErlN l := by
  unfold erlB at h
  have key : ∀ (i : Nat) (x : Nd), l[i]? = some x → x.2.length ≤ 1000 ∧ (1 < x.1 → ∀ k ∈ x.2, 0 ≤ k ∧ k.toNat < i) := by
    intro i x hx
    have hi := (List.getElem?_eq_some_iff.1 hx).1
    have h1 := List.all_eq_true.1 h i (List.mem_range.2 hi)
    rw [show l.getD i (0, []) = x by rw [List.getD_eq_getElem?_getD, hx]; rfl] at h1
    rw [Bool.and_eq_true, decide_eq_true_eq] at h1
    refine ⟨h1.1, fun hl k hk => ?_⟩
    have h2 := h1.2
    rw [decide_eq_true hl, Bool.not_true, Bool.false_or] at h2
    have h3 := List.all_eq_true.1 h2 k hk
    rw [Bool.and_eq_true, decide_eq_true_eq, decide_eq_true_eq] at h3
    exact h3
  exact ⟨fun i x hx => (key i x hx).1, fun i x hx => (key i x hx).2⟩
theorem dag_of {l : List Nd} {cls : List Int} (h : dagB l cls = true) : DagN l cls := by
  intro i x hx hl k hk
  have hi := (List.getElem?_eq_some_iff.1 hx).1
  have h1 := List.all_eq_true.1 h i (List.mem_range.2 hi)
  rw [show l.getD i (0, []) = x by rw [List.getD_eq_getElem?_getD, hx]; rfl, decide_eq_true hl, Bool.not_true, Bool.false_or] at h1
  have h3 := List.all_eq_true.1 h1 k hk
  rw [Bool.and_eq_true, Bool.and_eq_true, Bool.and_eq_true, decide_eq_true_eq, decide_eq_true_eq, decide_eq_true_eq, decide_eq_true_eq] at h3
  exact ⟨h3.1.1.1, h3.1.1.2, h3.1.2, h3.2⟩
set_option maxHeartbeats 64000000 in
theorem ref14_Totals (A B C : Option Addr) (c d e : Nat) (w : World) (hA : Rd encP 2 w A 9 mooH) (hB : Rd encI 1 w B 1 [3]) (hC : Rd encI 1 w C 2 [2, 3]) :
    Calls Tryz.prog 59 #[.agg #[.slice A 9 c, .int .i64 2, .slice B 1 d, .slice C 2 e]] w fun e w' => ∃ B' m' d', e = .returned (.tuple #[.agg #[.int .i64 2, .slice A 9 c, .slice B' m' d'], .int .i64 0]) ∧ Rd encP 2 w' A 9 mooH ∧ RdX ekN w' B' m' lifeN ∧ Below w.heap.size w w' := by
  have hA0 := hA
  have kR := fun w1 h1 h2 h3 => ref14_Right A B C c d e w1 h1 h2 h3
  have kI := fun w1 h => ref_IndexP A 9 c mooH 0 0 w1 h (by omega)
  rw [moo_idx] at kI
  have kN := fun (s q : Nat) (hs : s < 2) w1 h1 h2 => ref14_Next A B C 9 c 1 d 2 e [3] [2, 3] s q w1 h1 h2 hs (by omega) (by omega)
  go_enter Tryz.func59, Tryz.ntmps59
  go_wp2_with fail
  obtain ⟨we, hwe, hxb, hrb, hB0, hsw⟩ := three_boxesL w (.slice A 9 c) (.int .i64 2) (.slice B 1 d) (.slice C 2 e) 86 25
  rw [← hwe]
  clear hwe
  obtain ⟨xb, hxe⟩ : ∃ xb, xb = w.heap.size := ⟨_, rfl⟩
  obtain ⟨rb, hre⟩ : ∃ rb, rb = w.heap.size + 1 := ⟨_, rfl⟩
  rw [← hxe] at hxb
  rw [← hre] at hrb
  rw [← hre, ← hxe]
  have hrg : w.heap.size ≤ rb := by omega
  have hxg : w.heap.size ≤ xb := by omega
  have hxr : xb ≠ rb := by omega
  clear hre hxe
  replace hA := hA.of hB0
  replace hB := hB.of hB0
  replace hC := hC.of hB0
  obtain ⟨xl, x0, x1, x2, x3, -, -, -, -⟩ := hxb.open4
  go_wp2_with fail
  go_at_call 124
  refine (kR _ hA hB hC).mono ?_
  rintro e1 w1 ⟨rfl, hb1⟩
  clear x0 x1 x2 x3 kR
  replace hA := hA.of hb1
  replace hB := hB.of hb1
  replace hC := hC.of hb1
  replace hxb := hxb.of hb1
  replace hrb := hrb.of hb1
  replace hB0 := below_thru hB0 hb1
  clear hb1
  obtain ⟨xl, x0, x1, x2, x3, -, -, -, -⟩ := hxb.open4
  go_wp2_with fail
  (refine wp_region_ext_lit (by kernel_rfl) (by kernel_rfl) ?_; (repeat (go_big_quiet_step ((go_at_call 125; exact calls_ext (kI _ (hA.of (Ext.below _))))))); refine wpQuiet_nil ?_; intro _ hw'; obtain ⟨z1, hw''⟩ := hw'; subst hw''; have hs1 := z1.size; obtain ⟨hc1, hf1⟩ := bcell z1.below; (try simp only [World.size_alloc, World.size_setCell, World.size_drew] at hc1 hf1); (try simp at hs1))
  have hb1 : Below w1.heap.size w1 z1.world := by (repeat' (first | exact Below.refl _ _ | assumption | (refine Below.alloc ?_ ?_ _) | (refine Below.setCell ?_ ?_ _) | (refine Below.drew ?_) | (refine below_drewN ?_ _) | (refine below_after (Ext.below _) ?_ ?_) | (refine below_after (by assumption) ?_ ?_) | (simp; done) | omega | (simp; omega)))
  clear x0 x1 x2 x3 kI hc1 hf1 hs1
  replace hA := hA.of hb1
  replace hB := hB.of hb1
  replace hC := hC.of hb1
  replace hxb := hxb.of hb1
  replace hrb := hrb.of hb1
  replace hB0 := below_thru hB0 hb1
  clear hb1
  generalize z1.world = w2 at *
  obtain ⟨xl, x0, x1, x2, x3, -, -, -, -⟩ := hxb.open4
  go_upto_region 5 with (fail)
  have htb := BxW.new w2 [.int .i64 2, .slice A 9 c, .slice none 0 0] 25
  rw [show ∀ a b c : Value, [a, b, c].toArray = #[a, b, c] from fun _ _ _ => rfl] at htb
  have hb3 : Below w2.heap.size w2 (w2.alloc (.cells #[.int .i64 2, .slice A 9 c, .slice none 0 0] 25)) := (Below.refl _ _).alloc (Nat.le_refl _) _
  obtain ⟨w3, hw3⟩ : ∃ w3, w3 = w2.alloc (.cells #[.int .i64 2, .slice A 9 c, .slice none 0 0] 25) := ⟨_, rfl⟩
  obtain ⟨tb, htbe⟩ : ∃ tb, tb = w2.heap.size := ⟨_, rfl⟩
  have hs3 : w3.heap.size = w2.heap.size + 1 := by rw [hw3]; simp
  rw [← hw3] at htb hb3 ⊢
  rw [← htbe] at htb hs3 ⊢
  have hxt : xb < tb := by have := hxb.1; omega
  have hrt : rb < tb := by have := hrb.1; omega
  have htl : tb < w3.heap.size := by omega
  have hsz2 := hB0.size
  have htg : w.heap.size ≤ tb := by omega
  clear hw3 htbe x0 x1 x2 x3 hs3
  replace hA := hA.of hb3
  replace hB := hB.of hb3
  replace hC := hC.of hb3
  replace hxb := hxb.of hb3
  replace hrb := hrb.of hb3
  replace hB0 := below_thru hB0 hb3
  clear hb3
  go_wp2_with fail
  go_loopw [7, 8] (fun v i wr => ∃ (BA : Option Addr) (bc m j : Nat), v = .slice BA m bc ∧ i = .int .i64 j ∧ j ≤ 10 ∧ Hid (m = 2 * j) ∧ Own encI 1 3 w3.heap.size wr BA m bc (bl0 [3] [2, 3] m) ∧ Below w3.heap.size w3 wr) (fun _ i _ => 10 - (intOf i).toNat)
  case atStart => exact ⟨none, 0, 0, 0, rfl, rfl, by omega, Lib.hid rfl, Own.nil_, Below.refl _ _⟩
  case round =>
    obtain ⟨BA, bc, m, j, rfl, rfl, hj, hm, hown, hb⟩ := hrel
    have hsz := hb.size
    by_cases hlj : j < 10
    · have dj : decide ((j : Int) ≤ 9) = true := decide_eq_true (by omega)
      have dj' : decide (j ≤ 9) = true := decide_eq_true (by omega)
      go_wp2_with fail
      go_loopw [7, 9] (fun v i wr => ∃ (BA : Option Addr) (bc m s : Nat), v = .slice BA m bc ∧ i = .int .i64 s ∧ s ≤ 2 ∧ Hid (m = 2 * j + s) ∧ Own encI 1 3 w3.heap.size wr BA m bc (bl0 [3] [2, 3] m) ∧ Below w3.heap.size w3 wr) (fun _ i _ => 2 - (intOf i).toNat)
      case atStart => exact ⟨BA, bc, m, 0, rfl, rfl, by omega, hm, hown, hb⟩
      case round =>
        clear hown hb hsz hm
        obtain ⟨BA, bc, m, s, rfl, rfl, hs, hm, hown, hb⟩ := hrel
        have hsz := hb.size
        obtain ⟨xl, x0, x1, x2, x3, -, -, -, -⟩ := (hxb.of hb).open4
        by_cases hls : s < 2
        · have ds : decide ((s : Int) < 2) = true := decide_eq_true (by omega)
          have ds' : decide (s < 2) = true := decide_eq_true hls
          have kN1 := kN s j hls
          have hst := Lib.hid (show bl0 [3] [2, 3] (m + 1) = bl0 [3] [2, 3] m ++ [nxS [3] [2, 3] s j] by rw [hm.out]; exact bl0_succ _ _ j s hls)
          have hm1 := Lib.hid (show m + 1 = 2 * j + (s + 1) by have := hm.out; omega)
          have hmb : m ≤ 20 := by have := hm.out; omega
          generalize nxS [3] [2, 3] s j = y at kN1 hst
          clear kN hm
          go_wp2_with fail
          go_at_call 126
          refine (kN1 _ (hB.of hb) (hC.of hb)).mono ?_
          rintro e4 w4 ⟨rfl, hb4⟩
          have hs4 := hb4.size
          have hown4 := hown.of hb4
          have hB4 : Below w3.heap.size w3 w4 := below_thru hb hb4
          clear x0 x1 x2 x3 hown hb4
          go_wp2_with (first | (at_builtin; refine wpList_append_el rfl (.tmp 43) (.tmp 48) 84 rfl encI 1 3 (.int .i64 0) 8 Tryz.underlying84 (by kernel_rfl) rfl (by decide) encI_len encI_one (w3.heap.size) _ _ _ _ rfl (hown4.alloc _) y ⟨(w4).heap.size, 0, none⟩ 1 rfl (cells_new (w4) _ _) (by omega) (by omega) (by first | omega | (simp; done) | (simp; omega)) ?_; intro A5 c5 w5 hown5 hg5 hb5; obtain ⟨hc5, hf5⟩ := bcell hb5; have hs5 := hb5.size; (try simp only [World.size_alloc, World.size_setCell, World.size_drew] at hc5 hf5); (try simp at hs5)))
          go_roundw
          case rel => exact ⟨A5, c5, m + 1, s + 1, rfl, by go_num, by omega, hm1, by rw [hst.out]; exact hown5, by (repeat' (first | exact Below.refl _ _ | assumption | (refine Below.alloc ?_ ?_ _) | (refine Below.setCell ?_ ?_ _) | (refine Below.drew ?_) | (refine below_drewN ?_ _) | (refine below_after (Ext.below _) ?_ ?_) | (refine below_after (by assumption) ?_ ?_) | (simp; done) | omega | (simp; omega)))⟩
          case measure => simp [intOf]; omega
        · obtain rfl : s = 2 := by omega
          have hm1 := Lib.hid (show m = 2 * (j + 1) by have := hm.out; omega)
          go_wp2_with fail
          go_roundw
          case rel => exact ⟨BA, bc, m, j + 1, rfl, by go_num, by omega, hm1, hown, hb⟩
          case measure => simp [intOf]; omega
    · have dj : decide ((j : Int) ≤ 9) = false := decide_eq_false (by omega)
      have dj' : decide (j ≤ 9) = false := decide_eq_false (by omega)
      obtain rfl : m = 20 := by have := hm.out; omega
      clear kN hB hC hm hlj hj
      have hsl := hown.row.lt
      have hsb := hb.size
      have hB1 : Below w.heap.size w wr := below_thru hB0 hb
      have htw := htb.of hb
      obtain ⟨W4, hW4⟩ : ∃ W4, W4 = wr := ⟨_, rfl⟩
      subst hW4
      go_wp2_with fail
      go_loopw [7, 10] (fun v i wr => ∃ (BA E : Option Addr) (bn bc m q k : Nat), v = .slice BA bn bc ∧ i = .int .i64 (8 - (k : Int)) ∧ k ≤ 9 ∧ BxW wr tb [.int .i64 2, .slice A 9 c, .slice E m q] ∧ FrG w3 tb wr ∧ Own encI 1 3 w3.heap.size wr BA bn bc (ndK [3] [2, 3] k).2 ∧ OwnO ekN 111 w3.heap.size (fun _ => False) wr E m q (ndK [3] [2, 3] k).1) (fun _ i _ => (intOf i + 1).toNat)
      case atStart => exact ⟨BA, none, 20, bc, 0, 0, 0, rfl, rfl, by omega, htw, (FrG.here _ _).of hb, hown, OwnO.nil_⟩
      case round =>
        clear hown hsl htw hsb
        obtain ⟨BA, E, bn, bc, m, q, k, rfl, rfl, hk, hT, hF, hbe, hO⟩ := hrel
        by_cases hk9 : k < 9
        · obtain ⟨i, hik⟩ : ∃ i : Nat, i = 8 - k := ⟨_, rfl⟩
          rw [show (8 : Int) - (k : Int) = (i : Int) by omega]
          have di : decide ((i : Int) ≥ 0) = true := decide_eq_true (by omega)
          have di' : decide ((0 : Int) ≤ (i : Int)) = true := decide_eq_true (by omega)
          have hbl := hbe.len
          rw [ndK_below _ _ _ hk] at hbl
          have hbn := Lib.hid (show bn = 2 * (i + 2) by omega)
          have hi8 : i ≤ 8 := by omega
          have hstep := Lib.hid (show ndK [3] [2, 3] (k + 1) = ((ndK [3] [2, 3] k).1 ++ lvN i (ndK [3] [2, 3] k).2 (2 * (i + 1)), lvH m (2 * (i + 1))) by rw [ndK, ← hik, hO.len])
          have hml : m ≤ 200 := by have := ndK_len [3] [2, 3] k hk; rw [hO.len] at this; omega
          have hik1 := Lib.hid (show (i : Int) - 1 = 8 - ((k + 1 : Nat) : Int) by omega)
          have hTl := Lib.hid hO.len
          obtain ⟨bb, hbb⟩ : ∃ bb, bb = (ndK [3] [2, 3] k).2 := ⟨_, rfl⟩
          obtain ⟨T, hTe⟩ : ∃ T, T = (ndK [3] [2, 3] k).1 := ⟨_, rfl⟩
          rw [← hbb] at hbe hstep
          rw [← hTe] at hO hstep hTl
          have hk1 : k + 1 ≤ 9 := hk9
          have hw3s := hF.g.size
          have tS : TtS w3 tb wr.heap.size (.int .i64 2) (.slice A 9 c) BA none E bn bc 0 0 m q bb (lvH m 0) (T ++ lvN i bb 0) wr := by
            refine ⟨hT, hF, hbe, fun g hg => (hbe.row.lt g hg).2, Own.nil_, ?_, htl, hw3s, Nat.le_refl _⟩
            show OwnO ekN _ _ _ wr E m q (T ++ [])
            rw [List.append_nil]
            exact hO.weak (fun q _ h => by cases h)
          clear hbb hTe hik hbl hT hF hbe hO hk9 hk
          obtain ⟨lvl, hlvl⟩ : ∃ lvl, lvl = wr.heap.size := ⟨_, rfl⟩
          rw [← hlvl] at tS
          clear hlvl hw3s
          go_wp2_with fail
          go_loopw [11, 12] (fun v u wr => ∃ (HA E : Option Addr) (hn hc m' q j : Nat), v = .slice HA hn hc ∧ u = .int .i64 j ∧ j ≤ i + 1 ∧ Hid (hn = 2 * j) ∧ Hid (m' = m + hn) ∧ TtS w3 tb lvl (.int .i64 2) (.slice A 9 c) BA HA E bn bc hn hc m' q bb (lvH m hn) (T ++ lvN i bb hn) wr) (fun _ u _ => i + 1 - (intOf u).toNat)
          case atStart => exact ⟨none, E, 0, 0, m, q, 0, rfl, rfl, by omega, Lib.hid rfl, Lib.hid rfl, tS⟩
          case round =>
            clear tS
            obtain ⟨HA, E, hn, hc, m', q, j, rfl, rfl, hj, hhn, hmm, tS⟩ := hrel
            by_cases hlj : j ≤ i
            · have dj : decide ((j : Int) ≤ (i : Int)) = true := decide_eq_true (by omega)
              have dj' : decide (j ≤ i) = true := decide_eq_true hlj
              go_wp2_with fail
              go_loopw [11, 13] (fun v u wr => ∃ (HA E : Option Addr) (hn hc m' q s : Nat), v = .slice HA hn hc ∧ u = .int .i64 s ∧ s ≤ 2 ∧ Hid (hn = 2 * j + s) ∧ Hid (m' = m + hn) ∧ TtS w3 tb lvl (.int .i64 2) (.slice A 9 c) BA HA E bn bc hn hc m' q bb (lvH m hn) (T ++ lvN i bb hn) wr) (fun _ u _ => 2 - (intOf u).toNat)
              case atStart => exact ⟨HA, E, hn, hc, m', q, 0, rfl, rfl, by omega, hhn, hmm, tS⟩
              case round =>
                clear tS hhn hmm
                obtain ⟨HA, E, hn, hc, m', q, s, rfl, rfl, hs, hhn, hmm, tS⟩ := hrel
                have x1 : wr.cell? ⟨xb, 1, none⟩ = some (.int .i64 2) := tS.f.cell hxb.1 (by omega) (hxb.2.1 1)
                by_cases hls : s < 2
                · have ds : decide ((s : Int) < 2) = true := decide_eq_true (by omega)
                  have ds' : decide (s < 2) = true := decide_eq_true hls
                  obtain ⟨lv, hlv⟩ : ∃ lv, lv = 9 - i := ⟨_, rfl⟩
                  have w9 : IntKind.i64.wrap (9 - (i : Int)) = (lv : Int) := by rw [IntWalk.i64_in _ (by omega)]; omega
                  replace hlv := Lib.hid hlv
                  have hnw := Lib.hid (show lvH m (hn + 1) = lvH m hn ++ [(m' : Int)] by rw [lvH_succ, hmm.out])
                  have hnd := Lib.hid (show (T ++ lvN i bb hn) ++ [ndA i j s bb] = T ++ lvN i bb (hn + 1) by rw [hhn.out]; exact lvN_row T s hls)
                  have hh1 := Lib.hid (show hn + 1 = 2 * j + (s + 1) by have := hhn.out; omega)
                  have hm1 := Lib.hid (show m' + 1 = m + (hn + 1) by have := hmm.out; omega)
                  have hm5 : m' ≤ 400 := by have := hmm.out; have := hhn.out; omega
                  have hh5 : hn ≤ 100 := by have := hhn.out; omega
                  obtain ⟨wn, hwn⟩ : ∃ wn, wn = wr := ⟨_, rfl⟩
                  subst hwn
                  have hnb := BxW.new wn [.int .i64 (lv : Int), .slice none 0 0] 111
                  rw [show ∀ a b : Value, [a, b].toArray = #[a, b] from fun _ _ => rfl] at hnb
                  have hal : Below wn.heap.size wn (wn.alloc (.cells #[.int .i64 (lv : Int), .slice none 0 0] 111)) := (Below.refl _ _).alloc (Nat.le_refl _) _
                  obtain ⟨nb, hnbe⟩ : ∃ nb, nb = wn.heap.size := ⟨_, rfl⟩
                  obtain ⟨v0, hv0⟩ : ∃ v0, v0 = bb.getD (ixB i j s 0) 0 := ⟨_, rfl⟩
                  obtain ⟨v1, hv1⟩ : ∃ v1, v1 = bb.getD (ixB i j s 1) 0 := ⟨_, rfl⟩
                  have hvv : ndA i j s bb = ((lv : Int), [v0, v1]) := by rw [hv0, hv1, hlv.out]; rfl
                  rw [hvv] at hnd
                  have hV := Lib.hid (show ∀ v, v < 2 → ([v0, v1] : List Int).take (v + 1) = [v0, v1].take v ++ [bb.getD (ixB i j s v) 0] from fun v hv => by
                    rcases (show v = 0 ∨ v = 1 by omega) with rfl | rfl
                    · rw [← hv0]; rfl
                    · rw [← hv1]; rfl)
                  clear hvv hv0 hv1 hhn
                  have hwb : Below wn.heap.size wn (wn.alloc (.cells #[.int .i64 (lv : Int), .slice none 0 0] 111)) ∧ wn.heap.size + 1 ≤ (wn.alloc (.cells #[.int .i64 (lv : Int), .slice none 0 0] 111)).heap.size := ⟨hal, by simp⟩
                  rw [← hnbe] at hnb
                  go_upto_region 24 with (fail)
                  rw [← hnbe]
                  have hns : nb = wn.heap.size := hnbe
                  have hNS := Lib.hid hns
                  clear hnbe hns hal
                  generalize wn.alloc (.cells #[.int .i64 (lv : Int), .slice none 0 0] 111) = wp at *
                  go_wp2_with fail
                  go_loopw [15] (fun u wr => ∃ (NA : Option Addr) (r v : Nat), u = .int .i64 v ∧ v ≤ 2 ∧ BxW wr nb [.int .i64 (lv : Int), .slice NA v r] ∧ Own encI 1 3 (wn.heap.size + 1) wr NA v r ([v0, v1].take v) ∧ Below wn.heap.size wn wr ∧ wn.heap.size + 1 ≤ wr.heap.size) (fun u _ => 2 - (intOf u).toNat)
                  case atStart => exact ⟨none, 0, 0, rfl, by omega, hnb, Own.nil_, hwb.1, hwb.2⟩
                  case round =>
                    clear hnb hwb
                    obtain ⟨NA, r, v, rfl, hv, hnb, hown, hb, hsp⟩ := hrel
                    have hsz := hb.size
                    have x1r : wr.cell? ⟨xb, 1, none⟩ = some (.int .i64 2) := (hb.cell (p := ⟨xb, _, none⟩) (by have := tS.f.g.size; have := hxb.1; show xb < _; omega)).trans x1
                    obtain ⟨nl, n0, n1, fn0, fn1⟩ := hnb.open2
                    by_cases hlv2 : v < 2
                    · have dv : decide ((v : Int) < 2) = true := decide_eq_true (by omega)
                      have dv' : decide (v < 2) = true := decide_eq_true hlv2
                      have hbw := (tS.b.of hb).rd encI_len
                      obtain ⟨ix, hix⟩ : ∃ ix, ix = ixB i j s v := ⟨_, rfl⟩
                      have hVv := hV.out v hlv2
                      rw [← hix] at hVv
                      have hixn : ix < bn := by rw [hbn.out, hix]; unfold ixB; split; omega; split <;> omega
                      obtain ⟨y, b7, o7, hy, he7, hbl7, y7⟩ := hbw.int hixn
                      subst he7
                      rw [show bb.getD ix 0 = y from getD_of hy.out] at hVv
                      replace hVv := Lib.hid hVv
                      have p0 : (0 : Int) ≤ (ix : Int) := by omega
                      have p1 : (ix : Int) < (bn : Int) := by omega
                      obtain ⟨j2, hj2⟩ : ∃ j2, j2 = 2 * j := ⟨_, rfl⟩
                      have q1 : IntKind.i64.wrap ((j : Int) * 2) = (j2 : Int) := by rw [IntWalk.i64_in _ (by omega)]; omega
                      have hh8 : hn ≤ 100 := hh5
                      by_cases h4 : i = 4
                      · have c4 : ((i : Int) == 4) = true := by rw [beq_iff_eq]; omega
                        have q2 : IntKind.i64.wrap ((j2 : Int) + (v : Int)) = (ix : Int) := by rw [IntWalk.i64_in _ (by omega), hix]; unfold ixB; rw [if_pos h4]; omega
                        clear hj2 hix h4 hbw hy hV hnw hnd hh1 hm1 hm5 hh5 hh8 hmm hstep hbn hTl hik1 hlv w9 dj dj' di di' ds ds' hxr
                        have hwz := hsz
                        go_upto_region 29 with (fail)
                        go_region_law (refine step_append_el (by rfl) (.tmp 96) (.tmp 106) 84 (by rfl) encI 1 3 (.int .i64 0) 8 Tryz.underlying84 (by kernel_rfl) rfl (by decide) encI_len encI_one (wn.heap.size + 1) NA _ r _ (by rfl) (Own.al (Own.drewO hown) _) y _ 1 (by rfl) (news_of (vs := [.int .i64 y]) (BxW.new _ _ _)) (by omega) (by omega) (by simp only [World.size_alloc, World.size_drew]; omega) ?_; intro A5 c5 w5 hown5 hg5 hb5; have hnb5 := BxW.grown (BxW.al (BxW.drew hnb) _) hg5 (fun e => by have h1 := (hown.row.lt _ e.symm).1; have h2 := hNS.out; omega); have ⟨_, n50, n51, fn50, fn51⟩ := hnb5.open2)
                        all_goals
                          have hsz5 := hb5.size
                          (try simp only [World.size_alloc, World.size_drew] at hsz5)
                          have hb6 : Below wn.heap.size wn w5 := Below.trans (((hb.drew).alloc hsz _)) (hb5.mono (by omega))
                          go_wp2_with fail
                          go_roundw
                          case rel => exact ⟨A5, c5, v + 1, by go_num, by omega, hnb5.put 1 _ (by simp), by rw [hVv.out]; exact hown5.setBelow (by have := hNS.out; omega) _, hb6.setCell (show wn.heap.size ≤ nb by have := hNS.out; omega) _, by simp only [World.size_setCell]; omega⟩
                          case measure => simp [intOf]; omega
                      · have c4 : ((i : Int) == 4) = false := by rw [beq_eq_false_iff_ne]; omega
                        by_cases h1 : v = 1
                        · have c5 : ((v : Int) == 1) = true := by rw [beq_iff_eq]; omega
                          obtain ⟨j1, hj1⟩ : ∃ j1, j1 = j + 1 := ⟨_, rfl⟩
                          obtain ⟨j3, hj3⟩ : ∃ j3, j3 = 2 * j1 := ⟨_, rfl⟩
                          have q3 : IntKind.i64.wrap ((j : Int) + 1) = (j1 : Int) := by rw [IntWalk.i64_in _ (by omega)]; omega
                          have q4 : IntKind.i64.wrap ((j1 : Int) * 2) = (j3 : Int) := by rw [IntWalk.i64_in _ (by omega)]; omega
                          have q2 : IntKind.i64.wrap ((j3 : Int) + (s : Int)) = (ix : Int) := by rw [IntWalk.i64_in _ (by omega), hix]; unfold ixB; rw [if_neg h4, if_pos h1]; omega
                          clear h1 h4 hj1 hj3 q1 hj2 hix hbw hy hV hnw hnd hh1 hm1 hm5 hh5 hh8 hmm hstep hbn hTl hik1 hlv w9 dj dj' di di' ds ds'
                          go_upto_region 31 with (fail)
                          go_region_law (refine step_append_el (by rfl) (.tmp 113) (.tmp 124) 84 (by rfl) encI 1 3 (.int .i64 0) 8 Tryz.underlying84 (by kernel_rfl) rfl (by decide) encI_len encI_one (wn.heap.size + 1) NA _ r _ (by rfl) (Own.al (Own.drewO hown) _) y _ 1 (by rfl) (news_of (vs := [.int .i64 y]) (BxW.new _ _ _)) (by omega) (by omega) (by simp only [World.size_alloc, World.size_drew]; omega) ?_; intro A5 c5 w5 hown5 hg5 hb5; have hnb5 := BxW.grown (BxW.al (BxW.drew hnb) _) hg5 (fun e => by have h1 := (hown.row.lt _ e.symm).1; have h2 := hNS.out; omega); have ⟨_, n50, n51, fn50, fn51⟩ := hnb5.open2)
                          all_goals
                            have hsz5 := hb5.size
                            (try simp only [World.size_alloc, World.size_drew] at hsz5)
                            have hb6 : Below wn.heap.size wn w5 := Below.trans (((hb.drew).alloc hsz _)) (hb5.mono (by omega))
                            go_wp2_with fail
                            go_roundw
                            case rel => exact ⟨A5, c5, v + 1, by go_num, by omega, hnb5.put 1 _ (by simp), by rw [hVv.out]; exact hown5.setBelow (by have := hNS.out; omega) _, hb6.setCell (show wn.heap.size ≤ nb by have := hNS.out; omega) _, by simp only [World.size_setCell]; omega⟩
                            case measure => simp [intOf]; omega
                        · have c5 : ((v : Int) == 1) = false := by rw [beq_eq_false_iff_ne]; omega
                          have q2 : IntKind.i64.wrap ((j2 : Int) + (s : Int)) = (ix : Int) := by rw [IntWalk.i64_in _ (by omega), hix]; unfold ixB; rw [if_neg h4, if_neg h1]; omega
                          clear h1 h4 hj2 hix hbw hy hV hnw hnd hh1 hm1 hm5 hh5 hh8 hmm hstep hbn hTl hik1 hlv w9 dj dj' di di' ds ds'
                          go_upto_region 27 with (fail)
                          go_region_law (refine step_append_el (by rfl) (.tmp 78) (.tmp 88) 84 (by rfl) encI 1 3 (.int .i64 0) 8 Tryz.underlying84 (by kernel_rfl) rfl (by decide) encI_len encI_one (wn.heap.size + 1) NA _ r _ (by rfl) (Own.al (Own.drewO hown) _) y _ 1 (by rfl) (news_of (vs := [.int .i64 y]) (BxW.new _ _ _)) (by omega) (by omega) (by simp only [World.size_alloc, World.size_drew]; omega) ?_; intro A5 c5 w5 hown5 hg5 hb5; have hnb5 := BxW.grown (BxW.al (BxW.drew hnb) _) hg5 (fun e => by have h1 := (hown.row.lt _ e.symm).1; have h2 := hNS.out; omega); have ⟨_, n50, n51, fn50, fn51⟩ := hnb5.open2)
                          all_goals
                            have hsz5 := hb5.size
                            (try simp only [World.size_alloc, World.size_drew] at hsz5)
                            have hb6 : Below wn.heap.size wn w5 := Below.trans (((hb.drew).alloc hsz _)) (hb5.mono (by omega))
                            go_wp2_with fail
                            go_roundw
                            case rel => exact ⟨A5, c5, v + 1, by go_num, by omega, hnb5.put 1 _ (by simp), by rw [hVv.out]; exact hown5.setBelow (by have := hNS.out; omega) _, hb6.setCell (show wn.heap.size ≤ nb by have := hNS.out; omega) _, by simp only [World.size_setCell]; omega⟩
                            case measure => simp [intOf]; omega
                    · obtain rfl : v = 2 := by omega
                      have tS1 := tS.of hb
                      have y2 : wr.cell? ⟨tb, 2, none⟩ = some (.slice E m' q) := tS1.t.2.1 2
                      have hl12 := tS.l2
                      have hl11 := tS.l1
                      have hhr := tS.h.row.lt
                      rw [show ([v0, v1] : List Int).take 2 = [v0, v1] from rfl] at hown
                      obtain ⟨W1, hW1⟩ : ∃ W1, W1 = wr := ⟨_, rfl⟩
                      subst hW1
                      clear hV hbn hstep hTl hik1 hlv w9 x1
                      go_wp2_with (first
                        | ((at_builtin; refine wpList_append_elL rfl (.tmp 127) (.tmp 131) 84 rfl encI 1 3 (.int .i64 0) 8 Tryz.underlying84 (by kernel_rfl) rfl (by decide) encI_len encI_one (lvl) _ _ _ _ rfl (tS1.h.alloc _) (m' : Int) ⟨(W1).heap.size, 0, none⟩ 1 rfl (cells_new (W1) _ _) (by omega) (by omega) (by first | omega | (simp; done) | (simp; omega)) ?_; intro A7 c7 w7 hown7 hg7 hb7 hl7; obtain ⟨hc7, hf7⟩ := bcell hb7; have hs7 := hb7.size; (try simp only [World.size_alloc, World.size_setCell, World.size_drew] at hc7 hf7); (try simp at hs7)); clear hc7 hf7; have tS7 := TtS.here (tS1.of (w1 := W1.alloc (.cells #[.int .i64 (m' : Int)] 3)) ((Below.refl _ _).alloc (Nat.le_refl _) _)) hown7 hg7 hl7; have hN7 := (hown.of (w' := W1.alloc (.cells #[.int .i64 (m' : Int)] 3)) ((Below.refl _ _).alloc (Nat.le_refl _) _)).over2 hg7 (fun g h1 h2 => by have h3 := (hown.row.lt g h1).1; have h4 := (hhr g h2).2; omega); have hnb7 := (BxW.al hnb (.cells #[.int .i64 (m' : Int)] 3)).grown hg7 (fun e => by have h4 := (hhr _ e.symm).2; have h2 := hNS.out; omega); clear n0 n1 fn0 fn1 y2; have ⟨_, n0, n1, fn0, fn1⟩ := hnb7.open2; have y2 : w7.cell? ⟨tb, 2, none⟩ = some (.slice E m' q) := tS7.t.2.1 2; have tS8 := tS7.of (w1 := w7.alloc (.cells #[.int .i64 (lv : Int), .slice NA 2 r] 111)) ((Below.refl _ _).alloc (Nat.le_refl _) _); have hN8 := hN7.of (w' := w7.alloc (.cells #[.int .i64 (lv : Int), .slice NA 2 r] 111)) ((Below.refl _ _).alloc (Nat.le_refl _) _))
                        | (at_builtin; refine wpList_append_o (K := ekN) rfl (.tmp 134) (.tmp 136) 23 rfl 111 (.agg #[.int .i64 0, .slice none 0 0]) 32 Tryz.underlying23 (by kernel_rfl) rfl w3.heap.size _ _ _ _ rfl tS8.o ((lv : Int), NA, 2, r) ((lv : Int), [v0, v1]) ⟨rfl, hN8.rd encI_len, hN8.capO⟩ (fun g hg => ⟨fun e => (tS8.o.apart hN8 (by decide)).2 g (hN8.blk g hg).1 e.symm, fun e => (by have h1 := hown.row.lt g (hN8.blk g hg).1; rcases hl7 with h5 | h5 <;> rw [h5] at e; (have h3 := hhr g e; omega); (injection e with e; simp only [World.size_alloc] at e; omega)), by have h1 := (hN8.blk g hg).2.1; omega⟩) ⟨w7.heap.size, 0, none⟩ 1 rfl (cells_new w7 (encN ((lv : Int), NA, 2, r)) 111) (by omega) (by omega) (by first | omega | (simp; done) | (simp; omega)) ?_; intro A9 c9 w9 hO9 hg9 hb9 hl9; have ht9 := tS8.t.grown hg9 (fun e => by have h1 := (tS8.o.lt _ e.symm).1; have h2 := tS8.tl; omega); have z2 : w9.cell? ⟨tb, 2, none⟩ = some (.slice E m' q) := ht9.2.1 2; have fz2 := ht9.2.2 2)
                        | fail)
                      go_roundw
                      case rel => exact ⟨A7, A9, hn + 1, c7, m' + 1, c9, s + 1, rfl, by go_num, by omega, hh1, hm1, by rw [hnw.out, ← hnd.out]; exact tS8.node hO9 hg9⟩
                      case measure => simp [intOf]; omega
                · obtain rfl : s = 2 := by omega
                  have hm1 := Lib.hid (show hn = 2 * (j + 1) by have := hhn.out; omega)
                  go_wp2_with fail
                  go_roundw
                  case rel => exact ⟨HA, E, hn, hc, m', q, j + 1, rfl, by go_num, by omega, hm1, hmm, tS⟩
                  case measure => simp [intOf]; omega
            · obtain rfl : j = i + 1 := by omega
              have dj : decide (((i + 1 : Nat) : Int) ≤ (i : Int)) = false := decide_eq_false (by omega)
              have dj' : decide (i + 1 ≤ i) = false := decide_eq_false (by omega)
              have hhb : hn = 2 * (i + 1) := hhn.out
              have hst2 := Lib.hid (hstep.out.trans (by rw [← hhb]))
              clear hstep hhn hhb
              go_wp2_with fail
              go_roundw
              case rel => exact ⟨HA, E, hn, hc, m', q, k + 1, rfl, by rw [← hik1.out], hk1, tS.t, tS.f, by rw [hst2.out]; exact tS.h.more tS.l1, by rw [hst2.out]; exact tS.o.weak (fun _ _ h => h.elim)⟩
              case measure => simp [intOf]
        · obtain rfl : k = 9 := by omega
          rw [show (8 : Int) - ((9 : Nat) : Int) = -1 by omega]
          have di : decide ((-1 : Int) ≥ 0) = false := rfl
          have di' : decide ((0 : Int) ≤ -1) = false := rfl
          have hbl := hbe.len
          rw [ndK_below _ _ _ (by omega)] at hbl
          obtain ⟨y, b7, o7, hy, he7, hbl7, y7⟩ := (hbe.rd encI_len).int (i := 0) (by omega)
          subst he7
          rw [Nat.add_zero] at y7
          obtain rfl : y = 88 := by have := getD_of (d := (0 : Int)) hy.out; rw [ev54_5] at this; exact this.symm
          have hm90 : m = 90 := by have := hO.len; rw [ev54_23] at this; exact this.symm
          subst hm90
          have hq90 := hO.cap
          obtain ⟨g, rfl⟩ : ∃ g, E = some ⟨g, 0, none⟩ := by
            obtain ⟨xs0, h1, _, _⟩ := hO
            rcases h1.row.2 with ⟨_, h0⟩ | ⟨g, cap, cur, hv, _⟩
            · omega
            · injection hv with h1; exact ⟨g, h1⟩
          have hq0 : ¬ q = 0 := by omega
          have b1 : (89 : Int) ≤ (q : Int) := by omega
          have b2 : (0 : Int) < (bn : Int) := by omega
          have b2' : 0 < bn := by omega
          have b1' : 89 ≤ q := by omega
          have w89 : IntKind.i64.wrap 89 = 89 := rfl
          have hBw : Below w.heap.size w wr := hB0.grown hF.g (by have := hB0.size; omega) (fun k e => by injection e with e; omega)
          have hrbw := hrb.grown hF.g (fun e => by injection e with e; omega)
          obtain ⟨-, t0, t1, t2, u0, u1, u2⟩ := hT.open3
          clear hy hbl
          go_upto_region 35 with (fail)
          go_region_law (fail)
          all_goals
            have hTz : BxW ((wr.setCell ⟨tb, 2, none⟩ (.slice (some ⟨g, 0, none⟩) 89 q)).drew) tb [.int .i64 2, .slice A 9 c, .slice (some ⟨g, 0, none⟩) 89 q] := (hT.put 2 _ (by simp)).drew
            have hOz := (hO.setOld htl 2 (.slice (some ⟨g, 0, none⟩) 89 q)).of (Below.refl _ _).drew
            have hBz : Below w.heap.size w ((wr.setCell ⟨tb, 2, none⟩ (.slice (some ⟨g, 0, none⟩) 89 q)).drew) := (hBw.setCell htg _).drew
            have hrz : BxW ((wr.setCell ⟨tb, 2, none⟩ (.slice (some ⟨g, 0, none⟩) 89 q)).drew) rb [.int .i64 0, .slice none 0 0, .slice none 0 0] := (hrbw.off 2 _ (by omega)).drew
            obtain ⟨wz, hwz⟩ : ∃ wz, wz = ((wr.setCell ⟨tb, 2, none⟩ (.slice (some ⟨g, 0, none⟩) 89 q)).drew) := ⟨_, rfl⟩
            rw [← hwz] at hTz hOz hBz hrz
            first | rw [← hwz] | (change Exit.then _ _ _ _ ((wr.setCell ⟨tb, 2, none⟩ (.slice (some ⟨g, 0, none⟩) 89 q)).drew); rw [← hwz])
            clear hwz t0 t1 t2 u0 u1 u2 y7
            have hNz : RdX ekN wz (some ⟨g, 0, none⟩) 89 (totN [3] [2, 3]) := hOz.rd.takeN (by omega)
            have kD := ref13_Reduce 2 A (some ⟨g, 0, none⟩) 9 c 89 q mooH (totN [3] [2, 3]) wz (hA0.of hBz) hNz ev54_4 (by omega) (by omega) (erl_of ev54_1) (dag_of ev54_2)
            obtain ⟨-, t0, t1, t2, -, -, -⟩ := hTz.open3
            go_wp2_with fail
            go_at_call 127
            refine kD.mono ?_
            rintro e9 w9 ⟨B9, m9, d9, rfl, hO9, hb9⟩
            have hrl := hrz.1
            have hr9 := hrz.of hb9
            obtain ⟨-, r0, r1, r2, f0, f1, f2⟩ := hr9.open3
            have hB9 := below_thru hBz hb9
            clear t0 t1 t2 kD
            go_wp2_with fail
            refine bodyPost_ret (v := .tuple #[.agg #[.int .i64 2, .slice A 9 c, .slice B9 m9 d9], .int .i64 0]) (by simp [results, Tryz.results59, go_sem, *, ↓IntWalk.iteOmega]) rfl ?_
            have hBf : Below w.heap.size w (((w9.setCell ⟨rb, 0, none⟩ (.int .i64 2)).setCell ⟨rb, 1, none⟩ (.slice A 9 c)).setCell ⟨rb, 2, none⟩ (.slice B9 m9 d9)) := ((hB9.setCell hrg _).setCell hrg _).setCell hrg _
            exact ⟨B9, m9, d9, rfl, hA0.of hBf, (((hO9.setOld (b := rb) hrl 0 _).setOld hrl 1 _).setOld hrl 2 _).rd, hBf⟩
end Go.Proofs.YtabfefhicfmabaaGreat
end
