/- gridstep.Run at a torus of 32 by 32. -/
import Derived.Test.YtellglbmbocgkaaGreatDoorTorD
namespace Go.Proofs.YtellglbmbocgkaaGreatDoor
open Go Go.RowKit Go.Shelf
set_option linter.unusedSimpArgs false
set_option linter.unusedVariables false
set_option maxRecDepth 100000
set_option linter.unusedSimpArgs false
set_option linter.unusedVariables false
attribute [local go_sem] Oper.semAt_some
theorem rd_keep {w w' : World} {A : Option Addr} {n b : Nat} {l : List Int} (h : Rd encI 1 w A n l) (hg : w.grownBy w' (some b)) (ho : ∃ o : Obj, w.heap[b]? = some o ∧ o.isCells = false) : Rd encI 1 w' A n l := by
  refine ⟨h.1, fun hn => ?_⟩
  obtain ⟨b', o, e, hlt, hc⟩ := h.2 hn
  exact ⟨b', o, e, Nat.lt_of_lt_of_le hlt hg.size, fun i x hi j u hu => cell_kept (hc i x hi j u hu) hg (fun r e => by cases e; exact ho)⟩
/-- What the last round leaves. -/
def ZbG (w w2 : World) (H : List (Int × Int)) (N : List (Int × List Int)) (g : List Int) (nn : Nat) (W3 : World) : Prop := ∃ (G : Option Addr) (c' : Nat), BxW W3 (w.heap.size + 1 + 1 + 1) [.int .i64 32, .int .i64 32, .int .i64 1, .slice G 1024 c'] ∧ BxW W3 (w.heap.size + 1 + 1 + 1 + 1) [.int .i64 0] ∧ Rd encI 1 W3 G 1024 (itG H N g nn) ∧ Below w.heap.size w W3 ∧ w2.heap.size + 2 ≤ W3.heap.size ∧ ∃ r : Loop, W3.heap[w2.heap.size + 1]? = some (.loop r)
theorem rd_ne {w : World} {A : Option Addr} {n b : Nat} {l : List Int} {vs : List Value} (h : Rd encI 1 w A n l) (hb : BxW w b vs) (hn : vs.length < n) : ∀ b' o, A = some ⟨b', o, none⟩ → b' ≠ b := by
  rintro b' o rfl rfl
  obtain ⟨b2, o2, e, hlt, hc⟩ := h.2 (by omega)
  injection e with e
  injection e with e1 e2
  subst e1 e2
  have hl : l.length = n := h.1
  have hi : l[n - 1]? = some (l[n - 1]'(by omega)) := List.getElem?_eq_getElem (by omega)
  have := hc (n - 1) _ hi 0 (.int .i64 (l[n - 1]'(by omega))) rfl
  have h2 := hb.2.1 (o + (n - 1) * 1 + 0)
  rw [this, List.getElem?_eq_none (by omega)] at h2
  cases h2
theorem rd_setN {w : World} {A : Option Addr} {n b i : Nat} {v : Value} {l : List Int} (h : Rd encI 1 w A n l) (hne : ∀ b' o, A = some ⟨b', o, none⟩ → b' ≠ b) : Rd encI 1 (w.setCell ⟨b, i, none⟩ v) A n l := by
  refine ⟨h.1, fun hn => ?_⟩
  obtain ⟨b', o, e, hlt, hc⟩ := h.2 hn
  have := hne b' o e
  refine ⟨b', o, e, by simpa [World.setCell] using hlt, fun i x hi j u hu => ?_⟩
  rw [cell_setCell_if, if_neg (by omega)]
  exact hc i x hi j u hu
set_option maxHeartbeats 8000000 in
theorem gs_Run (st : Int) (A B D : Option Addr) (n cc m d c nn : Nat) (H : List (Int × Int)) (N : List (Int × List Int)) (g : List Int) (w : World) (hH : Rd encP 2 w A n H) (hN : RdX ekN w B m N) (hR : Rd encI 1 w D 1024 g) (hr : trR st H N = true) (hg : OkG st g) (hnn : nn ≤ 100) :
    Calls Tryz.prog 20 #[.agg #[.int .i64 st, .slice A n cc, .slice B m d], .agg #[.int .i64 32, .int .i64 32, .int .i64 1, .slice D 1024 c], .int .i64 (nn : Int)] w fun e w' => ∃ G c', e = .returned (.tuple #[.agg #[.int .i64 32, .int .i64 32, .int .i64 1, .slice G 1024 c'], .int .i64 0]) ∧ Rd encI 1 w' G 1024 (itG H N g nn) ∧ Below w.heap.size w w' := by
  have kF := fun w1 h1 h2 h3 => gs_fits st A B D n cc m d c H N g w1 h1 h2 h3 hr hg
  have kR := fun w1 => gs_run A B D st n cc m d c w1
  have d1 : decide ((nn : Int) < 0) = false := decide_eq_false (by omega)
  have d2 : decide ((10000 : Int) < nn) = false := decide_eq_false (by omega)
  have d3 : decide ((nn : Int) > 10000) = false := decide_eq_false (by omega)
  refine (callsIn_wide (n := 3)).1 ?_
  refine callsIn_of_wp_marks Tryz.func20 rfl trivial ?_ rfl
  simp only [Tryz.ntmps20, List.size_toArray, List.length_cons, List.length_nil, Nat.reduceAdd, Nat.reduceSub, Array.replicate_succ, Array.replicate_zero, List.push_toArray, List.append_toArray, List.nil_append, List.cons_append]
  gi_wp2_with fail
  have tr0 := TrAt.new w (.int .i64 st) (.slice A n cc) (.slice B m d) 25
  have bg0 := BxW.new (w.alloc (.cells #[.int .i64 st, .slice A n cc, .slice B m d] 25)) [.int .i64 32, .int .i64 32, .int .i64 1, .slice D 1024 c] 56
  have bn0 := BxW.new ((w.alloc (.cells #[.int .i64 st, .slice A n cc, .slice B m d] 25)).alloc (.cells #[.int .i64 32, .int .i64 32, .int .i64 1, .slice D 1024 c] 56)) [.int .i64 (nn : Int)] 3
  have br0 := BxW.new (((w.alloc (.cells #[.int .i64 st, .slice A n cc, .slice B m d] 25)).alloc (.cells #[.int .i64 32, .int .i64 32, .int .i64 1, .slice D 1024 c] 56)).alloc (.cells #[.int .i64 (nn : Int)] 3)) [.int .i64 0, .int .i64 0, .int .i64 0, .slice none 0 0] 56
  have be0 := BxW.new ((((w.alloc (.cells #[.int .i64 st, .slice A n cc, .slice B m d] 25)).alloc (.cells #[.int .i64 32, .int .i64 32, .int .i64 1, .slice D 1024 c] 56)).alloc (.cells #[.int .i64 (nn : Int)] 3)).alloc (.cells #[.int .i64 0, .int .i64 0, .int .i64 0, .slice none 0 0] 56)) [.int .i64 0] 34
  rw [arr4T] at bg0 br0
  rw [show ([.int .i64 (nn : Int)] : List Value).toArray = #[.int .i64 (nn : Int)] from rfl] at bn0
  rw [show ([.int .i64 0] : List Value).toArray = #[.int .i64 0] from rfl] at be0
  simp only [World.size_alloc] at bg0 bn0 br0 be0
  have al := fun (w1 : World) (o : Obj) => ((Below.refl _ w1).alloc (Nat.le_refl _) o : Below w1.heap.size w1 (w1.alloc o))
  have tr1 := (((tr0.of (al _ (.cells #[.int .i64 32, .int .i64 32, .int .i64 1, .slice D 1024 c] 56))).of (al _ (.cells #[.int .i64 (nn : Int)] 3))).of (al _ (.cells #[.int .i64 0, .int .i64 0, .int .i64 0, .slice none 0 0] 56))).of (al _ (.cells #[.int .i64 0] 34))
  have bg1 := ((bg0.of (al _ (.cells #[.int .i64 (nn : Int)] 3))).of (al _ (.cells #[.int .i64 0, .int .i64 0, .int .i64 0, .slice none 0 0] 56))).of (al _ (.cells #[.int .i64 0] 34))
  have bn1 := (bn0.of (al _ (.cells #[.int .i64 0, .int .i64 0, .int .i64 0, .slice none 0 0] 56))).of (al _ (.cells #[.int .i64 0] 34))
  have br1 := br0.of (al _ (.cells #[.int .i64 0] 34))
  have hbe : Below w.heap.size w (((((w.alloc (.cells #[.int .i64 st, .slice A n cc, .slice B m d] 25)).alloc (.cells #[.int .i64 32, .int .i64 32, .int .i64 1, .slice D 1024 c] 56)).alloc (.cells #[.int .i64 (nn : Int)] 3)).alloc (.cells #[.int .i64 0, .int .i64 0, .int .i64 0, .slice none 0 0] 56)).alloc (.cells #[.int .i64 0] 34)) := by (repeat' (first | exact Below.refl _ _ | assumption | (refine Below.alloc ?_ ?_ _) | (refine Below.setCell ?_ ?_ _) | (refine Below.drew ?_) | (refine below_drewN ?_ _) | (refine below_after (Ext.below _) ?_ ?_) | (refine below_after (by assumption) ?_ ?_) | (simp; done) | omega | (simp; omega)))
  obtain ⟨we, hwe⟩ : ∃ we, we = (((((w.alloc (.cells #[.int .i64 st, .slice A n cc, .slice B m d] 25)).alloc (.cells #[.int .i64 32, .int .i64 32, .int .i64 1, .slice D 1024 c] 56)).alloc (.cells #[.int .i64 (nn : Int)] 3)).alloc (.cells #[.int .i64 0, .int .i64 0, .int .i64 0, .slice none 0 0] 56)).alloc (.cells #[.int .i64 0] 34)) := ⟨_, rfl⟩
  have hse : we.heap.size = w.heap.size + 1 + 1 + 1 + 1 + 1 := by rw [hwe]; simp
  rw [← hwe] at tr1 bg1 bn1 br1 be0 hbe ⊢
  clear hwe tr0 bg0 bn0 br0 al
  obtain ⟨hbt, t0, t1, t2⟩ := tr1
  obtain ⟨_, y0, y1, y2, y3, _⟩ := bg1.open4
  refine ⟨trivial, ?_⟩
  gi_at_call 46
  refine (callsIn_wide.2 (kF _ (hH.of hbe) (hN.of hbe) (hR.of hbe))).mono ?_
  rintro e w1 ⟨rfl, hb1⟩
  have bn2 := bn1.of hb1
  have br2 := br1.of hb1
  have be2 := be0.of hb1
  have tr2 := TrAt.of ⟨hbt, t0, t1, t2⟩ hb1
  have bg2 := bg1.of hb1
  have hB1 := hbe.trans (hb1.mono hbe.size)
  have hs1 := hb1.size
  obtain ⟨_, u0, u1, u2⟩ := tr2
  obtain ⟨_, x0, x1, x2, x3, _⟩ := bg2.open4
  have n0 := bn2.2.1 0
  simp only [List.getElem?_cons_zero] at n0
  gi_wp2_with fail
  refine ⟨trivial, ?_⟩
  gi_at_call 47
  refine (callsIn_wide.2 (kR _)).mono ?_
  rintro e w2 ⟨rfl, htr, hbg, hb2⟩
  have bn3 := bn2.of hb2
  have br3 := br2.of hb2
  have be3 := be2.of hb2
  have hB2 := hB1.trans (hb2.mono hB1.size)
  gi_wp2_with fail
  have hs2 := hb2.size
  have hbgl := hbg.1
  refine wpIn_rangeT rfl (by omega) (gf := 89) (lb := #[.pointer (some ⟨w1.heap.size + 1, 0, none⟩), .pointer (some ⟨w1.heap.size, 0, none⟩)]) rfl trivial (enters_of Tryz.func89 (by kernel_rfl) rfl) (w1.heap.size + 1) nn (TkG (w1.heap.size + 1) H N g) ?seq hbgl ?ps
    (fun k vs W a1 W1 => ∃ (G : Option Addr) (c' bx : Nat), vs = #[.int .i64 (k : Int), .agg #[.int .i64 32, .int .i64 32, .int .i64 1, .slice G 1024 c']] ∧ W.heap.size ≤ bx ∧ BxW W1 bx [.int .i64 32, .int .i64 32, .int .i64 1, .slice G 1024 c'] ∧
      a1 = { tmps := #[.agg #[.int .i64 st, .slice A n cc, .slice B m d], .agg #[.int .i64 32, .int .i64 32, .int .i64 1, .slice D 1024 c], .int .i64 (nn : Int), .pointer (some ⟨w.heap.size, 0, none⟩), .pointer (some ⟨w.heap.size + 1, 0, none⟩), .pointer (some ⟨w.heap.size + 1 + 1, 0, none⟩), .pointer (some ⟨w.heap.size + 1 + 1 + 1, 0, none⟩), .pointer (some ⟨w.heap.size + 1 + 1 + 1 + 1, 0, none⟩), .int .i64 0, .int .i64 (k : Int), .pointer (some ⟨bx, 0, none⟩), .agg #[.int .i64 st, .slice A n cc, .slice B m d], .agg #[.int .i64 32, .int .i64 32, .int .i64 1, .slice D 1024 c], .int .i64 0, .int .i64 0, .bool false, undef, undef, .int .i64 (nn : Int), .bool false, .bool false, .int .i64 (nn : Int), .bool false, .bool false, undef, .agg #[.int .i64 st, .slice A n cc, .slice B m d], .agg #[.int .i64 32, .int .i64 32, .int .i64 1, .slice D 1024 c], .func (.func 89) #[] #[.pointer (some ⟨w1.heap.size + 1, 0, none⟩), .pointer (some ⟨w1.heap.size, 0, none⟩)], .int .i64 (k : Int), .agg #[.int .i64 32, .int .i64 32, .int .i64 1, .slice G 1024 c'], undef, undef, undef, undef, undef], defers := [] })
    (ZbG w w2 H N g nn)
    ?assign ?body ?stop
  case seq =>
    intro l Z W0 hb0 hY
    have hw0 := hB2.trans (hb0.mono hB2.size)
    exact run1_in nn w1.heap.size (w1.heap.size + 1) st A B n cc m d H N g w W0 hH hN hr hg hw0 (htr.of hb0) (by omega) (by have := hb0.size; omega) (by omega) ⟨_, D, c, rfl, hbg.of hb0, hR.of hw0⟩ hnn l Z hY
  case ps =>
    rintro k W vs ⟨G, c', rfl, _⟩
    rfl
  case assign =>
    rintro l k vs W K hk hgW ⟨G, c', rfl, hbx, hRd⟩ hK
    gi_wp2
    exact hK _ _ ((Below.refl _ _).alloc (Nat.le_refl _) _) ⟨G, c', W.heap.size, rfl, Nat.le_refl _, BxW.new W [.int .i64 32, .int .i64 32, .int .i64 1, .slice G 1024 c'] 56, rfl⟩
  case body =>
    rintro k vs W a1 W1 W2 hk hgW hsz ⟨G, c', rfl, hbx, hRd⟩ hbW ⟨G', c'', bx, hvs, hbxl, hbx1, rfl⟩ hg2 hr1 ⟨r, hrl⟩
    obtain ⟨rfl, rfl⟩ : G = G' ∧ c' = c'' := by simpa using hvs
    have hRW1 := hRd.of hbW
    have hRW2 := rd_keep hRW1 hg2 (by obtain ⟨r1, h⟩ := hr1; exact ⟨_, h, rfl⟩)
    have bn4 := ((bn3.grown hgW (fun e => by injection e with e; omega)).of hbW).grown hg2 (fun e => by injection e with e; omega)
    have br4 := ((br3.grown hgW (fun e => by injection e with e; omega)).of hbW).grown hg2 (fun e => by injection e with e; omega)
    have be4 := ((be3.grown hgW (fun e => by injection e with e; omega)).of hbW).grown hg2 (fun e => by injection e with e; omega)
    have bx4 := hbx1.grown hg2 (fun e => by injection e with e; omega)
    have hBW : Below w.heap.size w W := hB2.grown hgW hB2.size (fun q e => by injection e with e; omega)
    have hBW2 : Below w.heap.size w W2 := (hBW.trans (hbW.mono hBW.size)).grown hg2 ((hBW.trans (hbW.mono hBW.size)).size) (fun q e => by injection e with e; omega)
    have hsz2 : w2.heap.size + 2 ≤ W2.heap.size := by have := hg2.size; have := hbW.size; omega
    have n4 := bn4.2.1 0
    simp only [List.getElem?_cons_zero] at n4
    have e4 := be4.2.1 0
    simp only [List.getElem?_cons_zero] at e4
    have ef4 := be4.2.2 0
    obtain ⟨_, q0, q1, q2, q3, _⟩ := bx4.open4
    obtain ⟨_, r0, r1', r2, r3, f0, f1, f2, f3⟩ := br4.open4
    have hne6 := rd_ne hRW2 br4 (by simp)
    have hne7 := rd_ne hRW2 be4 (by simp)
    by_cases hkn : k = nn
    · subst hkn
      have hZ : ∀ W4 : World, W4 = (((((W2.setCell ⟨w.heap.size + 1 + 1 + 1, 0, none⟩ (.int .i64 32)).setCell ⟨w.heap.size + 1 + 1 + 1, 1, none⟩ (.int .i64 32)).setCell ⟨w.heap.size + 1 + 1 + 1, 2, none⟩ (.int .i64 1)).setCell ⟨w.heap.size + 1 + 1 + 1, 3, none⟩ (.slice G 1024 c')).setCell ⟨w.heap.size + 1 + 1 + 1 + 1, 0, none⟩ (.int .i64 0)) → ZbG w w2 H N g k W4 ∧ W4.heap[w2.heap.size + 1]? = W2.heap[w2.heap.size + 1]? ∧ W4.heap[w2.heap.size]? = W2.heap[w2.heap.size]? := by
        rintro W4 rfl
        have hh : ∀ q, w.heap.size + 1 + 1 + 1 + 1 < q → (((((W2.setCell ⟨w.heap.size + 1 + 1 + 1, 0, none⟩ (.int .i64 32)).setCell ⟨w.heap.size + 1 + 1 + 1, 1, none⟩ (.int .i64 32)).setCell ⟨w.heap.size + 1 + 1 + 1, 2, none⟩ (.int .i64 1)).setCell ⟨w.heap.size + 1 + 1 + 1, 3, none⟩ (.slice G 1024 c')).setCell ⟨w.heap.size + 1 + 1 + 1 + 1, 0, none⟩ (.int .i64 0)).heap[q]? = W2.heap[q]? := fun q hq => by
          rw [Below.heap_setCell _ _ _ q (by show q ≠ w.heap.size + 1 + 1 + 1 + 1; omega), Below.heap_setCell _ _ _ q (by show q ≠ w.heap.size + 1 + 1 + 1; omega), Below.heap_setCell _ _ _ q (by show q ≠ w.heap.size + 1 + 1 + 1; omega), Below.heap_setCell _ _ _ q (by show q ≠ w.heap.size + 1 + 1 + 1; omega), Below.heap_setCell _ _ _ q (by show q ≠ w.heap.size + 1 + 1 + 1; omega)]
        refine ⟨⟨G, c', (br4.put4).off (b2 := w.heap.size + 1 + 1 + 1 + 1) _ _ (by omega), ((((be4.off (b2 := w.heap.size + 1 + 1 + 1) _ _ (by omega)).off (b2 := w.heap.size + 1 + 1 + 1) _ _ (by omega)).off (b2 := w.heap.size + 1 + 1 + 1) _ _ (by omega)).off (b2 := w.heap.size + 1 + 1 + 1) _ _ (by omega)).put 0 _ (by simp), rd_setN (rd_setN (rd_setN (rd_setN (rd_setN hRW2 hne6) hne6) hne6) hne6) hne7, ?_, ?_, r, ?_⟩, hh _ (by omega), hh _ (by omega)⟩
        · exact ((((hBW2.setCell (by show w.heap.size ≤ w.heap.size + 1 + 1 + 1; omega) _).setCell (by show w.heap.size ≤ w.heap.size + 1 + 1 + 1; omega) _).setCell (by show w.heap.size ≤ w.heap.size + 1 + 1 + 1; omega) _).setCell (by show w.heap.size ≤ w.heap.size + 1 + 1 + 1; omega) _).setCell (by show w.heap.size ≤ w.heap.size + 1 + 1 + 1 + 1; omega) _
        · simpa using hsz2
        · rw [hh _ (by omega)]; exact hrl
      gi_wp2
      first
      | exact ⟨rfl, hZ _ rfl⟩
      | exact hZ _ rfl
    · have dk : ((k : Int) == (nn : Int)) = false := by simp; omega
      have dk' : (k == nn) = false := by simp; omega
      have dk2 : decide ((k : Int) = (nn : Int)) = false := decide_eq_false (by omega)
      have dk3 : decide (k = nn) = false := decide_eq_false hkn
      gi_wp2
      exact ⟨by omega, Below.refl _ _⟩
  case stop =>
    rintro W3 W5 ⟨G, c', hbr, hbe, hRd, hB3, hs3, r, hrl⟩ hg5 hD
    gi_wp2
    have hbr5 := (hbr.grown hg5 (fun e => by injection e with e; omega)).grown (grownBy_putObj' W5 w2.heap.size (.deferred none)) (fun e => by injection e with e; omega)
    have hbe5 := (hbe.grown hg5 (fun e => by injection e with e; omega)).grown (grownBy_putObj' W5 w2.heap.size (.deferred none)) (fun e => by injection e with e; omega)
    obtain ⟨_, q0, q1, q2, q3, _⟩ := hbr5.open4
    have e5 := hbe5.2.1 0
    simp only [List.getElem?_cons_zero] at e5
    have hR5 := rd_keep (rd_keep hRd hg5 ⟨_, hrl, rfl⟩) (grownBy_putObj' W5 w2.heap.size (.deferred none)) ⟨_, hD, rfl⟩
    have hB5 := (hB3.grown hg5 hB3.size (fun q e => by injection e with e; omega)).grown (grownBy_putObj' W5 w2.heap.size (.deferred none)) ((hB3.grown hg5 hB3.size (fun q e => by injection e with e; omega)).size) (fun q e => by injection e with e; omega)
    refine ⟨by simp, .inl ⟨_, _, rfl, run_takeDeferred hD, ?_⟩⟩
    refine ⟨.tuple #[.agg #[.int .i64 32, .int .i64 32, .int .i64 1, .slice G 1024 c'], .int .i64 0], ?_, G, c', rfl, hR5, hB5⟩
    simp [results, Tryz.f20, go_sem, q0, q1, q2, q3, e5]
end Go.Proofs.YtellglbmbocgkaaGreatDoor
