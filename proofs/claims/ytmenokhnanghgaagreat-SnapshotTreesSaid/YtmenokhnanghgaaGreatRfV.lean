/- The reference's constant tree, at one position. -/
import Derived.Test.YtmenokhnanghgaaGreatTRE
import Derived.Test.YtmenokhnanghgaaGreatSNM
import Derived.Test.YtmenokhnanghgaaGreatSnpS
import Derived.Test.YtmenokhnanghgaaGreatRFA
namespace Go.Proofs.YtmenokhnanghgaaGreat
open Go Go.RowKit
set_option linter.unusedSimpArgs false
set_option linter.unusedVariables false
set_option maxRecDepth 100000
set_option linter.unusedSimpArgs false
set_option linter.unusedVariables false
/-- Two boxes: the result's and the node's. -/
structure AlS (w : World) (rb xb : Nat) (lv : Int) (k : Int) (j : Nat) (E : Option Addr) (c : Nat) (wr : World) : Prop where
  r : BxW wr rb [.int .i64 0, .slice none 0 0]
  x : BxW wr xb [.int .i64 lv, .slice E j c]
  e : Own encI 1 3 (xb + 1) wr E j c (List.replicate j k)
  b : Below w.heap.size w wr
set_option maxHeartbeats 8000000 in
theorem ref12_all (lv k : Int) (m : Nat) (hm : m ≤ 8) (w : World) :
    Calls Tryz.prog 77 #[.int .i64 lv, .int .i64 (m : Int), .int .i64 k] w fun e w' => ∃ E c, e = .returned (.agg #[.int .i64 lv, .slice E m c]) ∧ Own encI 1 3 w.heap.size w' E m c (List.replicate m k) ∧ Below w.heap.size w w' := by
  obtain ⟨w2, hw2⟩ : ∃ w2, w2 = (w.alloc (.cells #[.int .i64 0, .slice none 0 0] 93)).alloc (.cells #[.int .i64 lv, .slice none 0 0] 93) := ⟨_, rfl⟩
  have hb2 : Below w.heap.size w w2 := by rw [hw2]; exact ((Below.refl _ _).alloc (Nat.le_refl _) _).alloc (by simp) _
  have hr2 : BxW w2 w.heap.size [.int .i64 0, .slice none 0 0] := by rw [hw2]; exact (BxW.new w [.int .i64 0, .slice none 0 0] _).of ((Below.refl _ _).alloc (Nat.le_refl _) _)
  have hx2 : BxW w2 (w.heap.size + 1) [.int .i64 lv, .slice none 0 0] := by
    have h := BxW.new (w.alloc (.cells #[.int .i64 0, .slice none 0 0] 93)) [.int .i64 lv, .slice none 0 0] 93
    rw [World.size_alloc] at h
    rw [hw2]; exact h
  obtain ⟨rb, hrb⟩ : ∃ rb, rb = w.heap.size := ⟨_, rfl⟩
  obtain ⟨xb, hxb⟩ : ∃ xb, xb = w.heap.size + 1 := ⟨_, rfl⟩
  rw [← hrb] at hr2
  rw [← hxb] at hx2
  have hS2 : AlS w rb xb lv k 0 none 0 w2 := ⟨hr2, hx2, Own.nil_, hb2⟩
  have hwr : w.heap.size ≤ rb := by omega
  have hwx : w.heap.size ≤ xb := by omega
  have hrx : rb < xb := by omega
  clear hb2 hr2 hx2
  go_enter Tryz.func77, Tryz.ntmps77
  go_wp2_with fail
  rw [← hw2]
  (try rw [← hxb])
  (try rw [← hrb])
  clear hw2 hrb hxb
  go_loopw [8] (fun i wr => ∃ (j : Nat) (E : Option Addr) (c : Nat), i = .int .i64 (j : Int) ∧ j ≤ m ∧ AlS w rb xb lv k j E c wr) (fun i _ => m - (intOf i).toNat)
  case atStart => exact ⟨0, none, 0, rfl, by omega, hS2⟩
  case round =>
    clear hS2
    obtain ⟨j, E, c, rfl, hj, hS⟩ := hrel
    have hz := hS.b.size
    obtain ⟨hxz, x0, x1, fx0, fx1⟩ := hS.x.open2
    by_cases hlt : j < m
    · have dj : decide ((j : Int) < m) = true := decide_eq_true (by omega)
      have dj' : decide (j < m) = true := decide_eq_true hlt
      have hO := Lib.hid hS.e
      have hSh := Lib.hid hS
      have hrow := Lib.hid (show ∀ q, (Value.slice E j c).ownBlock = some q → xb < q from fun q hq => by have := (hS.e.row.lt q hq).1; omega)
      clear hS
      go_wp2_with (at_builtin; refine wpList_append_el rfl (.tmp 17) (.tmp 19) 91 rfl encI 1 3 (.int .i64 0) 8 Tryz.underlying91 (by kernel_rfl) rfl (by decide) encI_len encI_one (xb + 1) _ _ _ _ rfl (hO.out.alloc _) k ⟨(wr).heap.size, 0, none⟩ 1 rfl (cells_new (wr) _ _) (by omega) (by omega) (by first | omega | (simp; done) | (simp; omega)) ?_; intro A4 c4 w4 hown4 hg4 hb4; obtain ⟨hc4, hf4⟩ := bcell hb4; have hs4 := hb4.size; (try simp only [World.size_alloc, World.size_setCell, World.size_drew] at hc4 hf4); (try simp at hs4))
      have hal : Below wr.heap.size wr (wr.alloc (.cells #[.int .i64 k] 3)) := (Below.refl _ _).alloc (Nat.le_refl _) _
      have hx4 := (hSh.out.x.of hal).grown hg4 (fun e => by have := hrow.out _ e.symm; omega)
      have hr4 := (hSh.out.r.of hal).grown hg4 (fun e => by have := hrow.out _ e.symm; omega)
      have hB4 := (hSh.out.b.trans (hal.mono hz)).grown hg4 (by simp only [World.size_alloc]; omega) (fun q e => by have := hrow.out q e; omega)
      have hS4 : AlS w rb xb lv k (j + 1) A4 c4 (w4.setCell ⟨xb, 1, none⟩ (.slice A4 (j + 1) c4)) := ⟨hr4.off 1 _ (by omega), hx4.put 1 _ (by simp), by rw [List.replicate_succ']; exact hown4.setBelow (Nat.lt_succ_self _) _, hB4.setCell hwx _⟩
      go_roundw
      case rel => exact ⟨j + 1, A4, c4, by go_num, by omega, hS4⟩
      case measure => simp [intOf]; omega
    · obtain rfl : j = m := by omega
      have dj : decide ((j : Int) < j) = false := decide_eq_false (by omega)
      have dj' : decide (j < j) = false := decide_eq_false (by omega)
      obtain ⟨hrz, r0, r1, fr0, fr1⟩ := hS.r.open2
      have hO := Lib.hid ((hS.e.setBelow (show rb < xb + 1 by omega) (.int .i64 lv) (i := 0)).setBelow (show rb < xb + 1 by omega) (.slice E j c) (i := 1))
      have hB := Lib.hid ((hS.b.setCell (p := ⟨rb, 0, none⟩) hwr (.int .i64 lv)).setCell (p := ⟨rb, 1, none⟩) hwr (.slice E j c))
      have hR := ((hS.r.put 0 (.int .i64 lv) (by simp)).put 1 (.slice E j c) (by simp))
      clear hS
      go_wp2_with fail
      obtain ⟨w8, hw8⟩ : ∃ w8, w8 = (wr.setCell ⟨rb, 0, none⟩ (.int .i64 lv)).setCell ⟨rb, 1, none⟩ (.slice E j c) := ⟨_, rfl⟩
      rw [← hw8] at hO hB hR ⊢
      clear hw8 x0 x1 fx0 fx1 r0 r1 fr0 fr1
      have y0 : w8.cell? ⟨rb, 0, none⟩ = some (.int .i64 lv) := hR.2.1 0
      have y1 : w8.cell? ⟨rb, 1, none⟩ = some (.slice E j c) := hR.2.1 1
      refine bodyPost_ret (v := .agg #[.int .i64 lv, .slice E j c]) (by simp [results, Tryz.results77, go_sem, *, ↓IntWalk.iteOmega]) rfl ?_
      exact ⟨E, c, rfl, hO.out.more (by omega), hB.out⟩
/-- append of one element onto a row whose elements lead to memory, at a step of a region that draws its order. -/
theorem step_append_o {α β : Type} {K : EK α β} {P : Program} {w : World} {ops : Array Oper} {o : Oper} {a : Act} {k : Act → World → Prop} {Q : Exit → Act → World → Prop} {E : Prop} {Pr : Nat → Prop} (hgd : o.guard = none) (s x : Operand) (t : TypeId)
    (ho : o.op = .call { callee := .builtin .append, args := #[s, x], argTypes := #[t, t] })
    (e : TypeId) (z : Value) (bytes : Nat) (ht : P.underlying t = some (.slice e)) (hi : (P.info? e).map (fun i => (i.zero, i.size, i.bytes)) = some (some z, K.k, bytes)) (hzs : z.cells.size = K.k)
    (B : Nat) (A : Option Addr) (n c : Nat) (bs : List β) (hs : a.eval s = .slice A n c) (hown : OwnO K e B Pr w A n c bs)
    (y : α) (b : β) (hrel : K.rel w y b) (hoff : ∀ q ∈ K.blk y, some q ≠ (Value.slice A n c).ownBlock ∧ ¬ Pr q ∧ B ≤ q) (ad : Addr) (m : Nat) (hx : a.eval x = .slice (some ad) 1 m) (hnews : ∀ j u, (K.enc y)[j]? = some u → w.cell? (ad.add j) = some u)
    (hbytes : (n + 1) * bytes ≤ 140737488355328) (hn : n + 1 ≤ 4611686018427387904) (hbase : B ≤ w.heap.size)
    (h : ∀ A' c' w', OwnO K e B Pr w' A' (n + 1) c' (bs ++ [b]) → w.grownBy w' (Value.slice A n c).ownBlock → Below B w w' → ((Value.slice A' (n + 1) c').ownBlock = (Value.slice A n c).ownBlock ∨ (Value.slice A' (n + 1) c').ownBlock = some w.heap.size) → k (a.put o.dst (.slice A' (n + 1) c')) w') :
    if Region.wanted o (yielded ops a.tmps) = true then Oper.wp P o a w k Q else E := by
  obtain ⟨xs0, h1, h2, h3⟩ := hown
  refine step_append_elL hgd s x t ho K.enc K.k e z bytes ht hi hzs K.pos K.len K.one B A n c xs0 hs h1 y ad m hx hnews hbytes hn hbase ?_
  intro A' c' w' hv hg hgB hloc
  refine h A' c' w' ⟨xs0 ++ [y], hv, (h2.keep hg fun a' ha' q hq => (h3 a' ha' q hq).1).snoc (K.keep hrel hg fun q hq => (hoff q hq).1), ?_⟩ hg hgB hloc
  intro a' ha' q hq
  have key : some q ≠ (Value.slice A n c).ownBlock ∧ ¬ Pr q ∧ B ≤ q ∧ q < w.heap.size := by
    rcases List.mem_append.1 ha' with hm | hm
    · have h4 := h3 a' hm q hq
      exact ⟨h4.1, h4.2.1, h4.2.2, h2.lt a' hm q hq⟩
    · obtain rfl : a' = y := by simpa using hm
      have h4 := hoff q hq
      exact ⟨h4.1, h4.2.1, h4.2.2, K.lt hrel q hq⟩
  refine ⟨?_, key.2.1, key.2.2.1⟩
  rcases hloc with hl | hl
  · rw [hl]; exact key.1
  · rw [hl]; intro e1; injection e1 with e1; have := key.2.2.2; omega
/-- The constant tree under way: the result's box, the tree's box. -/
structure CnS (w : World) (rb tb : Nat) (A : Option Addr) (c : Nat) (vN : Value) (wr : World) : Prop where
  r : BxW wr rb [.int .i64 0, .slice none 0 0, .slice none 0 0]
  t : BxW wr tb [.int .i64 2, .slice A 1 c, vN]
  b : Below w.heap.size w wr
set_option maxHeartbeats 16000000 in
theorem ref12_Constant1 (A : Option Addr) (c : Nat) (p : Int × Int) (w : World) (hH : Rd encP 2 w A 1 [p]) (hr : rightL [p] = true) :
    Calls Tryz.prog 33 #[.int .i64 2, .slice A 1 c, .int .i64 1] w fun e w' => ∃ NA nc, e = .returned (.tuple #[.agg #[.int .i64 2, .slice A 1 c, .slice NA 1 nc], .int .i64 0]) ∧ RdX ekN w' NA 1 [(1, [1, 1])] ∧ Below w.heap.size w w' := by
  have kH := fun w1 h1 => ref_Right7 A 1 c [p] w1 h1
  rw [hr] at kH
  obtain ⟨w0, hw0⟩ : ∃ w0, w0 = w.alloc (.cells #[.int .i64 0, .slice none 0 0, .slice none 0 0] 37) := ⟨_, rfl⟩
  have hb0 : Below w.heap.size w w0 := by rw [hw0]; exact (Below.refl _ _).alloc (Nat.le_refl _) _
  have hr0 : BxW w0 w.heap.size [.int .i64 0, .slice none 0 0, .slice none 0 0] := by rw [hw0]; exact BxW.new w [_, _, _] _
  have hH0 := Lib.hid (hH.of hb0)
  obtain ⟨rb, hrb⟩ : ∃ rb, rb = w.heap.size := ⟨_, rfl⟩
  rw [← hrb] at hr0
  have hwr : w.heap.size ≤ rb := by omega
  clear hH hr
  go_enter Tryz.func33, Tryz.ntmps33
  go_wp2_with fail
  rw [← hw0]
  clear hw0
  go_at_call 76
  refine (kH _ hH0.out).mono ?_
  rintro e w1 ⟨rfl, hb1⟩
  have hB1 := Lib.hid (below_thru hb0 hb1)
  have hr1 := hr0.of hb1
  obtain ⟨w2, hw2⟩ : ∃ w2, w2 = w1.alloc (.cells #[.int .i64 2, .slice A 1 c, .slice none 0 0] 37) := ⟨_, rfl⟩
  have hb2 : Below w1.heap.size w1 w2 := by rw [hw2]; exact (Below.refl _ _).alloc (Nat.le_refl _) _
  have ht2 : BxW w2 w1.heap.size [.int .i64 2, .slice A 1 c, .slice none 0 0] := by rw [hw2]; exact BxW.new w1 [_, _, _] _
  have hz1 := hB1.out.size
  have hrz1 := hr1.1
  go_upto_region 7 with (fail)
  rw [← hw2]
  clear hw2
  obtain ⟨tb, htb⟩ : ∃ tb, tb = w1.heap.size := ⟨_, rfl⟩
  rw [← htb] at ht2 ⊢
  have hwt : w.heap.size ≤ tb := by omega
  have hrt : rb < tb := by omega
  have hS2 : CnS w rb tb A c (.slice none 0 0) w2 := ⟨hr1.of hb2, ht2, hB1.out.trans (hb2.mono hz1)⟩
  (try rw [← hrb])
  clear hb2 ht2 hb1 hr1 hr0 hb0 htb hz1 hrz1 hB1 kH hrb
  go_wp2_with fail
  go_loopw [9, 10] (fun k i wr => (k = .int .i64 1 ∧ i = .int .i64 1 ∧ CnS w rb tb A c (.slice none 0 0) wr) ∨ (k = .int .i64 0 ∧ i = .int .i64 2 ∧ ∃ NA nc, CnS w rb tb A c (.slice NA 1 nc) wr ∧ OwnO ekN 93 (tb + 1) (fun _ => False) wr NA 1 nc [(1, [1, 1])])) (fun _ i _ => 3 - (intOf i).toNat)
  case atStart => exact .inl ⟨rfl, rfl, hS2⟩
  case round =>
    clear hS2
    rcases hrel with ⟨rfl, rfl, hS⟩ | ⟨rfl, rfl, NA, nc, hS, hO⟩
    · have hz := hS.b.size
      have hd : Below wr.heap.size wr wr.drew := (Below.refl _ _).drew
      have htz : tb < wr.heap.size := hS.t.1
      have t2 : wr.cell? ⟨tb, 2, none⟩ = some (.slice none 0 0) := hS.t.2.1 2
      have kC : Calls Tryz.prog 77 #[.int .i64 1, .int .i64 2, .int .i64 1] wr.drew fun e w7 => ∃ E ce, e = .returned (.agg #[.int .i64 1, .slice E 2 ce]) ∧ Hid (Own encI 1 3 wr.heap.size w7 E 2 ce [1, 1] ∧ CnS w rb tb A c (.slice none 0 0) w7 ∧ wr.heap.size ≤ w7.heap.size) ∧ tb < w7.heap.size ∧ w7.cell? ⟨tb, 2, none⟩ = some (.slice none 0 0) := by
        refine (ref12_all 1 1 2 (by omega) wr.drew).mono ?_
        rintro e w7 ⟨E, ce, rfl, hO7, hb7⟩
        have hb7' : Below wr.heap.size wr w7 := hd.trans hb7
        exact ⟨E, ce, rfl, Lib.hid ⟨hO7, ⟨hS.r.of hb7', hS.t.of hb7', hS.b.trans (hb7'.mono hz)⟩, hb7'.size⟩, (hS.t.of hb7').1, (hS.t.of hb7').2.1 2⟩
      have kA : ∀ (w7 : World) (E : Option Addr) (ce : Nat), Hid (Own encI 1 3 wr.heap.size w7 E 2 ce [1, 1] ∧ CnS w rb tb A c (.slice none 0 0) w7 ∧ wr.heap.size ≤ w7.heap.size) → ∀ (A5 : Option Addr) (c5 : Nat) (w5 : World), OwnO ekN 93 (tb + 1) (fun _ => False) w5 A5 1 c5 [(1, [1, 1])] → (w7.alloc (.cells #[.int .i64 1, .slice E 2 ce] 93)).grownBy w5 (Value.slice none 0 0).ownBlock →
          w5.cell? ⟨tb, 2, none⟩ = some (.slice none 0 0) ∧ w5.frozen? ⟨tb, 2, none⟩ = false ∧ Hid (CnS w rb tb A c (.slice A5 1 c5) (w5.setCell ⟨tb, 2, none⟩ (.slice A5 1 c5)) ∧ OwnO ekN 93 (tb + 1) (fun _ => False) (w5.setCell ⟨tb, 2, none⟩ (.slice A5 1 c5)) A5 1 c5 [(1, [1, 1])]) := by
        intro w7 E ce h7 A5 c5 w5 hO5 hg5
        obtain ⟨hO7, hS7, hz7⟩ := h7.out
        have hal : Below w7.heap.size w7 (w7.alloc (.cells #[.int .i64 1, .slice E 2 ce] 93)) := (Below.refl _ _).alloc (Nat.le_refl _) _
        have ht5 := (hS7.t.of hal).grown hg5 (fun e => by cases e)
        have hr5 := (hS7.r.of hal).grown hg5 (fun e => by cases e)
        have hB5 := (hS7.b.trans (hal.mono hS7.b.size)).grown hg5 (by have := hS7.b.size; simp only [World.size_alloc]; omega) (fun q e => by cases e)
        refine ⟨ht5.2.1 2, ht5.2.2 2, Lib.hid ⟨⟨hr5.off 2 _ (by omega), ht5.put 2 _ (by simp), hB5.setCell hwt _⟩, ?_⟩⟩
        exact hO5.setO (Nat.lt_succ_self _) 2 _
      clear hS
      go_upto_region 10 with (fail)
      go_region_law
        (first
        | (go_simp; go_at_call 77; refine kC.mono ?_; rintro e w7 ⟨E, ce, rfl, h7, htz7, x7⟩)
        | (refine step_append_o (K := ekN) (Pr := fun _ => False) (by rfl) (.tmp 42) (.tmp 47) 35 (by rfl) 93 (.agg #[.int .i64 0, .slice none 0 0]) 32 Tryz.underlying35 (by kernel_rfl) rfl (tb + 1) none 0 0 [] (by rfl) OwnO.nil_ (1, E, 2, ce) (1, [1, 1]) ⟨rfl, (h7.out.1.rd encI_len).of ((Below.refl _ _).alloc (Nat.le_refl _) _), h7.out.1.capO⟩ (fun q hq => ⟨(fun e => by cases e), fun h => h, by have := (h7.out.1.blk q hq).2.1; omega⟩) ⟨w7.heap.size, 0, none⟩ 1 (by rfl) (cells_new w7 (encN (1, E, 2, ce)) 93) (by omega) (by omega) (by simp only [World.size_alloc]; omega) ?_; intro A5 c5 w5 hO5 hg5 hb5 hl5; obtain ⟨o5, fo5, hfin⟩ := kA w7 E ce h7 A5 c5 w5 hO5 hg5))
      all_goals
        go_wp2_with fail
        go_roundw
        case rel => exact .inr ⟨rfl, rfl, A5, c5, hfin.out⟩
        case measure => simp [intOf]
    · obtain ⟨hrz, r0⟩ := show rb < wr.heap.size ∧ wr.cell? ⟨rb, 0, none⟩ = some (.int .i64 0) from ⟨hS.r.1, hS.r.2.1 0⟩
      have r1 : wr.cell? ⟨rb, 1, none⟩ = some (.slice none 0 0) := hS.r.2.1 1
      have r2 : wr.cell? ⟨rb, 2, none⟩ = some (.slice none 0 0) := hS.r.2.1 2
      have f0 : wr.frozen? ⟨rb, 0, none⟩ = false := hS.r.2.2 0
      have f1 : wr.frozen? ⟨rb, 1, none⟩ = false := hS.r.2.2 1
      have f2 : wr.frozen? ⟨rb, 2, none⟩ = false := hS.r.2.2 2
      have x0 : wr.cell? ⟨tb, 0, none⟩ = some (.int .i64 2) := hS.t.2.1 0
      have x1 : wr.cell? ⟨tb, 1, none⟩ = some (.slice A 1 c) := hS.t.2.1 1
      have x2 : wr.cell? ⟨tb, 2, none⟩ = some (.slice NA 1 nc) := hS.t.2.1 2
      have xz := hS.t.1
      have hx8 := ((hS.r.put 0 (.int .i64 2) (by simp)).put 1 (.slice A 1 c) (by simp)).put 2 (.slice NA 1 nc) (by simp)
      have hB8 := ((hS.b.setCell (p := ⟨rb, 0, none⟩) hwr (.int .i64 2)).setCell (p := ⟨rb, 1, none⟩) hwr (.slice A 1 c)).setCell (p := ⟨rb, 2, none⟩) hwr (.slice NA 1 nc)
      have hN8 := (((hO.setO (show rb < tb + 1 by omega) 0 (.int .i64 2)).setO (show rb < tb + 1 by omega) 1 (.slice A 1 c)).setO (show rb < tb + 1 by omega) 2 (.slice NA 1 nc)).rd
      replace hB8 := Lib.hid hB8
      replace hN8 := Lib.hid hN8
      clear hS hO
      go_wp2_with fail
      obtain ⟨w8, hw8⟩ : ∃ w8, w8 = ((wr.setCell ⟨rb, 0, none⟩ (.int .i64 2)).setCell ⟨rb, 1, none⟩ (.slice A 1 c)).setCell ⟨rb, 2, none⟩ (.slice NA 1 nc) := ⟨_, rfl⟩
      rw [← hw8] at hx8 hB8 hN8 ⊢
      clear hw8
      have y0 : w8.cell? ⟨rb, 0, none⟩ = some (.int .i64 2) := hx8.2.1 0
      have y1 : w8.cell? ⟨rb, 1, none⟩ = some (.slice A 1 c) := hx8.2.1 1
      have y2 : w8.cell? ⟨rb, 2, none⟩ = some (.slice NA 1 nc) := hx8.2.1 2
      clear x0 x1 x2 r0 r1 r2 f0 f1 f2 hx8
      refine bodyPost_ret (v := .tuple #[.agg #[.int .i64 2, .slice A 1 c, .slice NA 1 nc], .int .i64 0]) (by simp [results, Tryz.results33, go_sem, *, ↓IntWalk.iteOmega]) rfl ?_
      exact ⟨NA, nc, rfl, hN8.out, hB8.out⟩
end Go.Proofs.YtmenokhnanghgaaGreat
