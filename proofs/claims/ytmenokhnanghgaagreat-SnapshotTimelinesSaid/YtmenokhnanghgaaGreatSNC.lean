/- snapshot's writer.list and (*cellular/snapshot.writer).cells. By mksnp3.py. snapshot's writer.list and (*cellular/snapshot.writer).changes. By mksnp3.py. -/
import Derived.Test.YtmenokhnanghgaaGreatSNA
set_option linter.unusedSimpArgs false
set_option linter.unusedVariables false
section
namespace Go.Proofs.YtmenokhnanghgaaGreat
open Go Go.RowKit
set_option maxRecDepth 100000
theorem els_bitsC {X : List Bool} {l : List Cel} {j : Nat} {x y : Int} {s : Nat} {P : List PartV} (h : l[j]? = some (x, y, (s : Int))) (hp : plcB (j == 0) (prvL psC l j).1 (prvL psC l j).2 x y = ptsB P) :
    X ++ (gamB l.length ++ elsB psC cdC l (j + 1)) = X ++ (gamB l.length ++ elsB psC cdC l j) ++ ptsB P ++ ptsB [.fix s 3] := by
  have hc := show cdC (x, y, (s : Int)) = ptsB [.fix s 3] by rw [ptsB_one]; unfold cdC; simp only [Int.toNat_natCast]; rfl
  rw [elsB_succ, elB_at h]
  show X ++ (_ ++ (_ ++ (plcB (j == 0) (prvL psC l j).1 (prvL psC l j).2 x y ++ _))) = _
  rw [hp, hc]
  simp only [List.append_assoc]
set_option maxHeartbeats 32000000 in
theorem snp_listC (bw : Nat) (WA : Option Addr) (wn wc : Nat) (X T : List Bool) (er : Int) (bx : Nat) (PA : Option Addr) (n c : Nat) (l : List Cel) (w : World) (hX : WrX w bw WA wn wc X T er) (hR : Rd encC 3 w PA n l) (hr : rightC l = true)
    (hbx : BxW w bx [.slice PA n c]) (hbxw : bx ≠ bw) (hbxo : (Value.slice WA wn wc).ownBlock ≠ some bx) (hPA : 0 < n → ∀ b o, PA = some ⟨b, o, none⟩ → b ≠ bw ∧ (Value.slice WA wn wc).ownBlock ≠ some b ∧ b < w.heap.size) :
    Calls Tryz.prog 81 #[.pointer (some ⟨bw, 0, none⟩), .int .i64 (n : Int), .func (.func 82) #[] #[.pointer (some ⟨bx, 0, none⟩)]] w fun e w' => ∃ A' n' c' T' e', e = .returned (.tuple #[]) ∧ WrX w' bw A' n' c' (X ++ lstB psC cdC l) T' e' ∧ WrK w bw WA wn wc w' A' n' c' := by
  have hn5 : n ≤ 10000 := by rw [← hR.len]; have := (rightC_ok hr).1; omega
  have hln := Lib.hid hR.len
  have hRr := Lib.hid hr
  have hsort := Lib.hid (rightC_sorted hr)
  have hw1 : Below w.heap.size w (w.alloc (.cells #[.iface 97 (.int .i64 (n : Int))] 144)) := (Below.refl _ _).alloc (Nat.le_refl _) _
  have kW0 := snp_write bw WA wn wc X T er (some ⟨w.heap.size, 0, none⟩) 1 1 [.gam n] _ (hX.of hw1) (rd_parts w 144 [.gam n] 1 rfl (by omega) _ rfl) (by omega) (ok_one (ok_gam (by omega))) (fun b o e => by
    injection e with e; injection e with e _; subst e
    exact hX.new (Nat.le_refl _))
  have hXw := Lib.hid hX
  replace hR := Lib.hid hR
  replace hbx := Lib.hid hbx
  replace hPA := Lib.hid hPA
  clear hX
  go_enter Tryz.func81, Tryz.ntmps81
  go_wp2_with fail
  go_at_call 51
  refine kW0.mono ?_
  rintro e w1 ⟨A1, n1, c1, T1, e1, rfl, hX1, hK1⟩
  clear kW0
  replace hK1 := Lib.hid (WrK.after hw1 hK1)
  have hsz1 := hK1.out.fr.size
  replace hX1 := Lib.hid hX1
  have hw2 : Below w1.heap.size w1 (w1.alloc (.cells #[.int .i64 0, .int .i64 0] 66)) := (Below.refl _ _).alloc (Nat.le_refl _) _
  have hbb1 := BxW.new w1 [.int .i64 0, .int .i64 0] 66
  rw [show ∀ a b : Value, [a, b].toArray = #[a, b] from fun _ _ => rfl] at hbb1
  replace hbb1 := Lib.hid hbb1
  have hbbw : w1.heap.size ≠ bw := (hX1.out.new (Nat.le_refl _)).1
  clear hw1
  go_wp2_with fail
  go_loopw [16] (fun i wr => ∃ (j : Nat) (A2 : Option Addr) (n2 c2 : Nat) (T2 : List Bool) (e2 : Int), i = .int .i64 j ∧ j ≤ n ∧ WrX wr bw A2 n2 c2 (X ++ (gamB l.length ++ elsB psC cdC l j)) T2 e2 ∧ BxW wr w1.heap.size [.int .i64 (prvL psC l j).1, .int .i64 (prvL psC l j).2] ∧ (Value.slice A2 n2 c2).ownBlock ≠ some w1.heap.size ∧ WrK w bw WA wn wc wr A2 n2 c2) (fun i _ => n - (intOf i).toNat)
  case atStart =>
    refine ⟨0, A1, n1, c1, T1, e1, rfl, by omega, ?_, hbb1.out, (hX1.out.new (Nat.le_refl _)).2, hK1.out.of hw2⟩
    have h := hX1.out.of hw2
    rw [ptsB_one] at h
    rw [elsB_zero, List.append_nil, hln.out]
    exact h
  case round =>
    clear hw2 hbb1
    obtain ⟨j, A2, n2, c2, T2, e2, rfl, hj, hX2, hbb, hbbo, hK2⟩ := hrel
    by_cases hlt : j < n
    · have dj : decide ((j : Int) < n) = true := decide_eq_true (by omega)
      have dj' : decide (j < n) = true := decide_eq_true hlt
      obtain ⟨⟨x, y, s0⟩, hxl⟩ : ∃ c, l[j]? = some c := ⟨_, List.getElem?_eq_getElem (by rw [hln.out]; exact hlt)⟩
      have hel := rightC_elem hRr.out hxl
      obtain ⟨hpt, hs1, hs7⟩ := hel
      unfold Pt at hpt
      obtain ⟨s, rfl⟩ : ∃ s : Nat, s0 = (s : Int) := ⟨s0.toNat, by omega⟩
      have hprv := Lib.hid (prvL_succ (ps := psC) hxl)
      have hbk := fun P => els_bitsC (X := X) (P := P) hxl
      have hbefore := Lib.hid (fun (i : Nat) (hi : j = i + 1) => snp_beforeC hRr.out hsort.out (show l[i + 1]? = some (x, y, (s : Int)) by rw [← hi]; exact hxl))
      have hwsz := hK2.fr.size
      have hbbs := hbb.1
      obtain ⟨hbxr, hbxo2⟩ := hK2.box hbx.out hbxw hbxo
      obtain ⟨hRd, hPA2⟩ := hK2.rd hR.out hPA.out
      have hx0 := hbxr.2.1 0
      have kC := snp_cells1 bx PA n c j l x y s wr hRd hx0 hbxr.1 hxl
      generalize hpv : prvL psC l j = pv at hbb hbk
      obtain ⟨px, py⟩ := pv
      have hX1n := Lib.hid hX2
      clear hbxr hbxo2 hRd hPA2 hx0
      replace hxl := Lib.hid hxl
      replace hK2 := Lib.hid hK2
      replace hX2 := Lib.hid hX2
      replace hbb := Lib.hid hbb
      go_wp2_with fail
      go_at_call 82
      refine kC.mono ?_
      rintro e w2 ⟨sb, rfl, hPs, hsb, hb2⟩
      clear kC
      have hsz2 := hb2.size
      replace hK2 := Lib.hid (hK2.out.of hb2)
      replace hX2 := Lib.hid (hX2.out.of hb2)
      have hbb2 := Lib.hid (hbb.out.of hb2)
      have hsbs : sb < w2.heap.size := by
        obtain ⟨b, o, e, hb, _⟩ := hPs.2 (by omega)
        injection e with e; injection e with e _; omega
      clear hbb hb2
      obtain ⟨_, p0, p1, -, -⟩ := hbb2.out.open2
      by_cases h0 : j = 0
      · subst h0
        have hbits := Lib.hid (hbk [.sgn x, .sgn y] (plc_first _ _ _ _))
        have hok1 := Lib.hid (ok_two (ok_sgn (x := x) (by omega)) (ok_sgn (x := y) (by omega)))
        clear hbk hpv
        have hR3 := rd_two w2 (.cells #[.int .i64 x, .int .i64 y] 66) 144 [.sgn x, .sgn y] 2 rfl (by omega) _ rfl
        obtain ⟨W3, hW3⟩ : ∃ W3, W3 = (w2.alloc (.cells #[.int .i64 x, .int .i64 y] 66)).alloc (.cells #[.iface 165 (.int .i64 x), .iface 165 (.int .i64 y)] 144) := ⟨_, rfl⟩
        have hW3b : Below w2.heap.size w2 W3 := by rw [hW3]; exact ((Below.refl _ _).alloc (Nat.le_refl _) _).alloc (by simp) _
        have hbp := BxW.new w2 [.int .i64 x, .int .i64 y] 66
        rw [show ∀ a b : Value, [a, b].toArray = #[a, b] from fun _ _ => rfl] at hbp
        replace hbp := hbp.of (show Below _ _ W3 by rw [hW3]; exact (Below.refl _ _).alloc (Nat.le_refl _) _)
        have hW3s : W3.heap.size = w2.heap.size + 2 := by rw [hW3]; simp
        change Rd encPt 1 ((w2.alloc (.cells #[.int .i64 x, .int .i64 y] 66)).alloc (.cells #[.iface 165 (.int .i64 x), .iface 165 (.int .i64 y)] 144)) _ _ _ at hR3
        rw [← hW3] at hR3
        have hX3 := hX2.out.of hW3b
        have kW1 := snp_write bw A2 n2 c2 _ T2 e2 (some ⟨w2.heap.size + 1, 0, none⟩) 2 2 [.sgn x, .sgn y] W3 hX3 hR3 (by omega) hok1.out (fun b o e => by
          injection e with e; injection e with e _; subst e
          exact hX2.out.new (by omega))
        have hbb3 := hbb2.out.of hW3b
        have hn3 := hX2.out.new (Nat.le_refl w2.heap.size)
        have hPs3 := hPs.of hW3b
        rw [hW3] at kW1
        go_upto_region 11 with (go_at_call 51; refine kW1.mono ?_; rintro e w4 ⟨A4, n4, c4, T4, e4, rfl, hX4, hK4⟩)
        clear kW1 p0 p1
        rw [← hW3] at hK4
        obtain ⟨hbp4, hp4⟩ := hK4.box hbp hn3.1 hn3.2
        obtain ⟨hbb4, hq4⟩ := hK4.box hbb3 hbbw hbbo
        obtain ⟨hPs4, hs4⟩ := hK4.rd hPs3 (fun _ b o e => by
          injection e with e; injection e with e _; subst e
          have := hX1n.out.new hsb
          exact ⟨this.1, this.2, by omega⟩)
        have kW2 := snp_write bw A4 n4 c4 _ T4 e4 (some ⟨sb, 0, none⟩) 1 1 [.fix s 3] w4 hX4 hPs4 (by omega) (ok_one (ok_three (by omega))) (fun b o e => ⟨(hs4 (by omega) b o e).1, (hs4 (by omega) b o e).2.1⟩)
        have hK24 := Lib.hid (hK2.out.trans (WrK.after hW3b hK4))
        have hbpL := Lib.hid (show w2.heap.size ≠ bw from hn3.1)
        replace hbp4 := Lib.hid hbp4
        replace hbb4 := Lib.hid hbb4
        have hp4' := Lib.hid hp4
        have hq4' := Lib.hid hq4
        have hbbw' := Lib.hid hbbw
        clear hR3 hbp hbb3 hPs3 hPs4 hs4 hX3 hX4 hK4 hn3 hW3 hW3b hW3s hp4 hq4 hPs
        go_wp2_with fail
        go_at_call 51
        refine kW2.mono ?_
        rintro e w5 ⟨A5, n5, c5, T5, e5, rfl, hX5, hK5⟩
        clear kW2
        obtain ⟨hbp5, hp5⟩ := hK5.box hbp4.out hbpL.out hp4'.out
        obtain ⟨hbb5, hq5⟩ := hK5.box hbb4.out hbbw'.out hq4'.out
        have hK25 := Lib.hid (hK24.out.trans hK5)
        obtain ⟨_, p0, p1, -, -⟩ := hbp5.open2
        obtain ⟨_, q0, q1, g0, g1⟩ := hbb5.open2
        replace hX5 := Lib.hid hX5
        replace hbb5 := Lib.hid hbb5
        replace hq5 := Lib.hid hq5
        have hne : w1.heap.size ≠ w2.heap.size := by omega
        clear hbp5 hp5 hK5
        go_wp2_with fail
        go_roundw
        case rel =>
          refine ⟨0 + 1, A5, n5, c5, T5, e5, by go_num, by omega, ?_, ?_, ?_, ?_⟩
          · have h1 := (hX5.out.off 0 (.int .i64 x) hbbw'.out hq5.out).off 1 (.int .i64 y) hbbw'.out hq5.out
            rw [hbits.out]
            exact h1
          · rw [hprv.out]
            exact (hbb5.out.put 0 (.int .i64 x) (by simp)).put 1 (.int .i64 y) (by simp)
          · exact hq5.out
          · exact (hK25.out.off 0 _ (by omega)).off 1 _ (by omega)
        case measure => simp [intOf]; omega
      · have d0 : ((j : Int) == 0) = false := by simp; omega
        have d0' : decide ((j : Int) = 0) = false := decide_eq_false (by omega)
        have jb : (j == 0) = false := by simp; omega
        rw [jb] at hbk
        obtain ⟨bf1, bf2⟩ := hbefore.out (j - 1) (by omega)
        rw [show j - 1 + 1 = j by omega, hpv] at bf1 bf2
        simp only at bf1 bf2
        by_cases hy : y = py
        · subst hy
          have dy : (y == y) = true := beq_self_eq_true _
          obtain ⟨g, hg⟩ : ∃ g : Nat, (g : Int) = x - px - 1 := ⟨(x - px - 1).toNat, by omega⟩
          have hbits := Lib.hid (hbk [.gam 0, .gam g] (by rw [plc_line, ← hg, Int.toNat_natCast]))
          have hok1 := Lib.hid (ok_two (ok_gam (n := 0) (by omega)) (ok_gam (n := g) (by omega)))
          have w0' : IntKind.i64.wrap (x - px) = x - px := IntWalk.i64_in _ (by omega)
          have w1' : IntKind.i64.wrap (x - px - 1) = (g : Int) := by rw [IntWalk.i64_in _ (by omega)]; exact hg.symm
          clear hbk hpv hg
          have hR3 := rd_two w2 (.cells #[.int .i64 x, .int .i64 y] 66) 144 [.gam 0, .gam g] 2 rfl (by omega) _ rfl
          obtain ⟨W3, hW3⟩ : ∃ W3, W3 = (w2.alloc (.cells #[.int .i64 x, .int .i64 y] 66)).alloc (.cells #[.iface 97 (.int .i64 0), .iface 97 (.int .i64 (g : Int))] 144) := ⟨_, rfl⟩
          have hW3b : Below w2.heap.size w2 W3 := by rw [hW3]; exact ((Below.refl _ _).alloc (Nat.le_refl _) _).alloc (by simp) _
          have hbp := BxW.new w2 [.int .i64 x, .int .i64 y] 66
          rw [show ∀ a b : Value, [a, b].toArray = #[a, b] from fun _ _ => rfl] at hbp
          replace hbp := hbp.of (show Below _ _ W3 by rw [hW3]; exact (Below.refl _ _).alloc (Nat.le_refl _) _)
          have hW3s : W3.heap.size = w2.heap.size + 2 := by rw [hW3]; simp
          change Rd encPt 1 ((w2.alloc (.cells #[.int .i64 x, .int .i64 y] 66)).alloc (.cells #[.iface 97 (.int .i64 0), .iface 97 (.int .i64 (g : Int))] 144)) _ _ _ at hR3
          rw [← hW3] at hR3
          have hX3 := hX2.out.of hW3b
          have kW1 := snp_write bw A2 n2 c2 _ T2 e2 (some ⟨w2.heap.size + 1, 0, none⟩) 2 2 [.gam 0, .gam g] W3 hX3 hR3 (by omega) hok1.out (fun b o e => by
            injection e with e; injection e with e _; subst e
            exact hX2.out.new (by omega))
          have hbb3 := hbb2.out.of hW3b
          have hn3 := hX2.out.new (Nat.le_refl w2.heap.size)
          have hPs3 := hPs.of hW3b
          rw [hW3] at kW1
          go_upto_region 11 with (go_at_call 51; refine kW1.mono ?_; rintro e w4 ⟨A4, n4, c4, T4, e4, rfl, hX4, hK4⟩)
          clear kW1 p0 p1
          rw [← hW3] at hK4
          obtain ⟨hbp4, hp4⟩ := hK4.box hbp hn3.1 hn3.2
          obtain ⟨hbb4, hq4⟩ := hK4.box hbb3 hbbw hbbo
          obtain ⟨hPs4, hs4⟩ := hK4.rd hPs3 (fun _ b o e => by
            injection e with e; injection e with e _; subst e
            have := hX1n.out.new hsb
            exact ⟨this.1, this.2, by omega⟩)
          have kW2 := snp_write bw A4 n4 c4 _ T4 e4 (some ⟨sb, 0, none⟩) 1 1 [.fix s 3] w4 hX4 hPs4 (by omega) (ok_one (ok_three (by omega))) (fun b o e => ⟨(hs4 (by omega) b o e).1, (hs4 (by omega) b o e).2.1⟩)
          have hK24 := Lib.hid (hK2.out.trans (WrK.after hW3b hK4))
          have hbpL := Lib.hid (show w2.heap.size ≠ bw from hn3.1)
          replace hbp4 := Lib.hid hbp4
          replace hbb4 := Lib.hid hbb4
          have hp4' := Lib.hid hp4
          have hq4' := Lib.hid hq4
          have hbbw' := Lib.hid hbbw
          clear hR3 hbp hbb3 hPs3 hPs4 hs4 hX3 hX4 hK4 hn3 hW3 hW3b hW3s hp4 hq4 hPs
          go_wp2_with fail
          go_at_call 51
          refine kW2.mono ?_
          rintro e w5 ⟨A5, n5, c5, T5, e5, rfl, hX5, hK5⟩
          clear kW2
          obtain ⟨hbp5, hp5⟩ := hK5.box hbp4.out hbpL.out hp4'.out
          obtain ⟨hbb5, hq5⟩ := hK5.box hbb4.out hbbw'.out hq4'.out
          have hK25 := Lib.hid (hK24.out.trans hK5)
          obtain ⟨_, p0, p1, -, -⟩ := hbp5.open2
          obtain ⟨_, q0, q1, g0, g1⟩ := hbb5.open2
          replace hX5 := Lib.hid hX5
          replace hbb5 := Lib.hid hbb5
          replace hq5 := Lib.hid hq5
          have hne : w1.heap.size ≠ w2.heap.size := by omega
          clear hbp5 hp5 hK5
          go_wp2_with fail
          go_roundw
          case rel =>
            refine ⟨j + 1, A5, n5, c5, T5, e5, by go_num, by omega, ?_, ?_, ?_, ?_⟩
            · have h1 := (hX5.out.off 0 (.int .i64 x) hbbw'.out hq5.out).off 1 (.int .i64 y) hbbw'.out hq5.out
              rw [hbits.out]
              exact h1
            · rw [hprv.out]
              exact (hbb5.out.put 0 (.int .i64 x) (by simp)).put 1 (.int .i64 y) (by simp)
            · exact hq5.out
            · exact (hK25.out.off 0 _ (by omega)).off 1 _ (by omega)
          case measure => simp [intOf]; omega
        · have dy : (y == py) = false := by simpa using hy
          obtain ⟨g, hg⟩ : ∃ g : Nat, (g : Int) = y - py := ⟨(y - py).toNat, by omega⟩
          have hbits := Lib.hid (hbk [.gam g, .sgn x] (by rw [plc_next _ _ _ _ hy, ← hg, Int.toNat_natCast]))
          have hok1 := Lib.hid (ok_two (ok_gam (n := g) (by omega)) (ok_sgn (x := x) (by omega)))
          have w1' : IntKind.i64.wrap (y - py) = (g : Int) := by rw [IntWalk.i64_in _ (by omega)]; exact hg.symm
          clear hbk hpv hg
          have hR3 := rd_two w2 (.cells #[.int .i64 x, .int .i64 y] 66) 144 [.gam g, .sgn x] 2 rfl (by omega) _ rfl
          obtain ⟨W3, hW3⟩ : ∃ W3, W3 = (w2.alloc (.cells #[.int .i64 x, .int .i64 y] 66)).alloc (.cells #[.iface 97 (.int .i64 (g : Int)), .iface 165 (.int .i64 x)] 144) := ⟨_, rfl⟩
          have hW3b : Below w2.heap.size w2 W3 := by rw [hW3]; exact ((Below.refl _ _).alloc (Nat.le_refl _) _).alloc (by simp) _
          have hbp := BxW.new w2 [.int .i64 x, .int .i64 y] 66
          rw [show ∀ a b : Value, [a, b].toArray = #[a, b] from fun _ _ => rfl] at hbp
          replace hbp := hbp.of (show Below _ _ W3 by rw [hW3]; exact (Below.refl _ _).alloc (Nat.le_refl _) _)
          have hW3s : W3.heap.size = w2.heap.size + 2 := by rw [hW3]; simp
          change Rd encPt 1 ((w2.alloc (.cells #[.int .i64 x, .int .i64 y] 66)).alloc (.cells #[.iface 97 (.int .i64 (g : Int)), .iface 165 (.int .i64 x)] 144)) _ _ _ at hR3
          rw [← hW3] at hR3
          have hX3 := hX2.out.of hW3b
          have kW1 := snp_write bw A2 n2 c2 _ T2 e2 (some ⟨w2.heap.size + 1, 0, none⟩) 2 2 [.gam g, .sgn x] W3 hX3 hR3 (by omega) hok1.out (fun b o e => by
            injection e with e; injection e with e _; subst e
            exact hX2.out.new (by omega))
          have hbb3 := hbb2.out.of hW3b
          have hn3 := hX2.out.new (Nat.le_refl w2.heap.size)
          have hPs3 := hPs.of hW3b
          rw [hW3] at kW1
          go_upto_region 11 with (go_at_call 51; refine kW1.mono ?_; rintro e w4 ⟨A4, n4, c4, T4, e4, rfl, hX4, hK4⟩)
          clear kW1 p0 p1
          rw [← hW3] at hK4
          obtain ⟨hbp4, hp4⟩ := hK4.box hbp hn3.1 hn3.2
          obtain ⟨hbb4, hq4⟩ := hK4.box hbb3 hbbw hbbo
          obtain ⟨hPs4, hs4⟩ := hK4.rd hPs3 (fun _ b o e => by
            injection e with e; injection e with e _; subst e
            have := hX1n.out.new hsb
            exact ⟨this.1, this.2, by omega⟩)
          have kW2 := snp_write bw A4 n4 c4 _ T4 e4 (some ⟨sb, 0, none⟩) 1 1 [.fix s 3] w4 hX4 hPs4 (by omega) (ok_one (ok_three (by omega))) (fun b o e => ⟨(hs4 (by omega) b o e).1, (hs4 (by omega) b o e).2.1⟩)
          have hK24 := Lib.hid (hK2.out.trans (WrK.after hW3b hK4))
          have hbpL := Lib.hid (show w2.heap.size ≠ bw from hn3.1)
          replace hbp4 := Lib.hid hbp4
          replace hbb4 := Lib.hid hbb4
          have hp4' := Lib.hid hp4
          have hq4' := Lib.hid hq4
          have hbbw' := Lib.hid hbbw
          clear hR3 hbp hbb3 hPs3 hPs4 hs4 hX3 hX4 hK4 hn3 hW3 hW3b hW3s hp4 hq4 hPs
          go_wp2_with fail
          go_at_call 51
          refine kW2.mono ?_
          rintro e w5 ⟨A5, n5, c5, T5, e5, rfl, hX5, hK5⟩
          clear kW2
          obtain ⟨hbp5, hp5⟩ := hK5.box hbp4.out hbpL.out hp4'.out
          obtain ⟨hbb5, hq5⟩ := hK5.box hbb4.out hbbw'.out hq4'.out
          have hK25 := Lib.hid (hK24.out.trans hK5)
          obtain ⟨_, p0, p1, -, -⟩ := hbp5.open2
          obtain ⟨_, q0, q1, g0, g1⟩ := hbb5.open2
          replace hX5 := Lib.hid hX5
          replace hbb5 := Lib.hid hbb5
          replace hq5 := Lib.hid hq5
          have hne : w1.heap.size ≠ w2.heap.size := by omega
          clear hbp5 hp5 hK5
          go_wp2_with fail
          go_roundw
          case rel =>
            refine ⟨j + 1, A5, n5, c5, T5, e5, by go_num, by omega, ?_, ?_, ?_, ?_⟩
            · have h1 := (hX5.out.off 0 (.int .i64 x) hbbw'.out hq5.out).off 1 (.int .i64 y) hbbw'.out hq5.out
              rw [hbits.out]
              exact h1
            · rw [hprv.out]
              exact (hbb5.out.put 0 (.int .i64 x) (by simp)).put 1 (.int .i64 y) (by simp)
            · exact hq5.out
            · exact (hK25.out.off 0 _ (by omega)).off 1 _ (by omega)
          case measure => simp [intOf]; omega
    · obtain rfl : j = n := by omega
      have dj : decide ((j : Int) < j) = false := decide_eq_false (by omega)
      have dj' : decide (j < j) = false := decide_eq_false (by omega)
      go_wp2_with fail
      go_end0
      refine ⟨A2, n2, c2, T2, e2, rfl, ?_, hK2⟩
      unfold lstB
      rw [hln.out] at hX2 ⊢
      exact hX2
end Go.Proofs.YtmenokhnanghgaaGreat
end
section
namespace Go.Proofs.YtmenokhnanghgaaGreat
open Go Go.RowKit
set_option maxRecDepth 100000
theorem els_bitsG {X : List Bool} {l : List Chg} {j : Nat} {x y : Int} {s t : Nat} {P : List PartV} (h : l[j]? = some (x, y, (s : Int), (t : Int))) (hp : plcB (j == 0) (prvL psG l j).1 (prvL psG l j).2 x y = ptsB P) :
    X ++ (gamB l.length ++ elsB psG cdG l (j + 1)) = X ++ (gamB l.length ++ elsB psG cdG l j) ++ ptsB P ++ ptsB [.fix s 3, .fix t 3] := by
  have hc := show cdG (x, y, (s : Int), (t : Int)) = ptsB [.fix s 3, .fix t 3] by rw [ptsB_two]; unfold cdG; simp only [Int.toNat_natCast]; rfl
  rw [elsB_succ, elB_at h]
  show X ++ (_ ++ (_ ++ (plcB (j == 0) (prvL psG l j).1 (prvL psG l j).2 x y ++ _))) = _
  rw [hp, hc]
  simp only [List.append_assoc]
set_option maxHeartbeats 32000000 in
theorem snp_listG (bw : Nat) (WA : Option Addr) (wn wc : Nat) (X T : List Bool) (er : Int) (bx : Nat) (PA : Option Addr) (n c : Nat) (l : List Chg) (w : World) (hX : WrX w bw WA wn wc X T er) (hR : Rd encG 4 w PA n l) (hr : rightG l = true)
    (hbx : BxW w bx [.slice PA n c]) (hbxw : bx ≠ bw) (hbxo : (Value.slice WA wn wc).ownBlock ≠ some bx) (hPA : 0 < n → ∀ b o, PA = some ⟨b, o, none⟩ → b ≠ bw ∧ (Value.slice WA wn wc).ownBlock ≠ some b ∧ b < w.heap.size) :
    Calls Tryz.prog 81 #[.pointer (some ⟨bw, 0, none⟩), .int .i64 (n : Int), .func (.func 107) #[] #[.pointer (some ⟨bx, 0, none⟩)]] w fun e w' => ∃ A' n' c' T' e', e = .returned (.tuple #[]) ∧ WrX w' bw A' n' c' (X ++ lstB psG cdG l) T' e' ∧ WrK w bw WA wn wc w' A' n' c' := by
  have hn5 : n ≤ 10000 := by rw [← hR.len]; have := (rightG_ok hr).1; omega
  have hln := Lib.hid hR.len
  have hRr := Lib.hid hr
  have hsort := Lib.hid (rightG_sorted hr)
  have hw1 : Below w.heap.size w (w.alloc (.cells #[.iface 97 (.int .i64 (n : Int))] 144)) := (Below.refl _ _).alloc (Nat.le_refl _) _
  have kW0 := snp_write bw WA wn wc X T er (some ⟨w.heap.size, 0, none⟩) 1 1 [.gam n] _ (hX.of hw1) (rd_parts w 144 [.gam n] 1 rfl (by omega) _ rfl) (by omega) (ok_one (ok_gam (by omega))) (fun b o e => by
    injection e with e; injection e with e _; subst e
    exact hX.new (Nat.le_refl _))
  have hXw := Lib.hid hX
  replace hR := Lib.hid hR
  replace hbx := Lib.hid hbx
  replace hPA := Lib.hid hPA
  clear hX
  go_enter Tryz.func81, Tryz.ntmps81
  go_wp2_with fail
  go_at_call 51
  refine kW0.mono ?_
  rintro e w1 ⟨A1, n1, c1, T1, e1, rfl, hX1, hK1⟩
  clear kW0
  replace hK1 := Lib.hid (WrK.after hw1 hK1)
  have hsz1 := hK1.out.fr.size
  replace hX1 := Lib.hid hX1
  have hw2 : Below w1.heap.size w1 (w1.alloc (.cells #[.int .i64 0, .int .i64 0] 66)) := (Below.refl _ _).alloc (Nat.le_refl _) _
  have hbb1 := BxW.new w1 [.int .i64 0, .int .i64 0] 66
  rw [show ∀ a b : Value, [a, b].toArray = #[a, b] from fun _ _ => rfl] at hbb1
  replace hbb1 := Lib.hid hbb1
  have hbbw : w1.heap.size ≠ bw := (hX1.out.new (Nat.le_refl _)).1
  clear hw1
  go_wp2_with fail
  go_loopw [16] (fun i wr => ∃ (j : Nat) (A2 : Option Addr) (n2 c2 : Nat) (T2 : List Bool) (e2 : Int), i = .int .i64 j ∧ j ≤ n ∧ WrX wr bw A2 n2 c2 (X ++ (gamB l.length ++ elsB psG cdG l j)) T2 e2 ∧ BxW wr w1.heap.size [.int .i64 (prvL psG l j).1, .int .i64 (prvL psG l j).2] ∧ (Value.slice A2 n2 c2).ownBlock ≠ some w1.heap.size ∧ WrK w bw WA wn wc wr A2 n2 c2) (fun i _ => n - (intOf i).toNat)
  case atStart =>
    refine ⟨0, A1, n1, c1, T1, e1, rfl, by omega, ?_, hbb1.out, (hX1.out.new (Nat.le_refl _)).2, hK1.out.of hw2⟩
    have h := hX1.out.of hw2
    rw [ptsB_one] at h
    rw [elsB_zero, List.append_nil, hln.out]
    exact h
  case round =>
    clear hw2 hbb1
    obtain ⟨j, A2, n2, c2, T2, e2, rfl, hj, hX2, hbb, hbbo, hK2⟩ := hrel
    by_cases hlt : j < n
    · have dj : decide ((j : Int) < n) = true := decide_eq_true (by omega)
      have dj' : decide (j < n) = true := decide_eq_true hlt
      obtain ⟨⟨x, y, s0, t0⟩, hxl⟩ : ∃ c, l[j]? = some c := ⟨_, List.getElem?_eq_getElem (by rw [hln.out]; exact hlt)⟩
      have hel := rightG_elem hRr.out hxl
      obtain ⟨hpt, hs1, hs7, ht1, ht7, -⟩ := hel
      unfold Pt at hpt
      obtain ⟨s, rfl⟩ : ∃ s : Nat, s0 = (s : Int) := ⟨s0.toNat, by omega⟩
      obtain ⟨t, rfl⟩ : ∃ t : Nat, t0 = (t : Int) := ⟨t0.toNat, by omega⟩
      have hprv := Lib.hid (prvL_succ (ps := psG) hxl)
      have hbk := fun P => els_bitsG (X := X) (P := P) hxl
      have hbefore := Lib.hid (fun (i : Nat) (hi : j = i + 1) => snp_beforeG hRr.out hsort.out (show l[i + 1]? = some (x, y, (s : Int), (t : Int)) by rw [← hi]; exact hxl))
      have hwsz := hK2.fr.size
      have hbbs := hbb.1
      obtain ⟨hbxr, hbxo2⟩ := hK2.box hbx.out hbxw hbxo
      obtain ⟨hRd, hPA2⟩ := hK2.rd hR.out hPA.out
      have hx0 := hbxr.2.1 0
      have kC := snp_changes1 bx PA n c j l x y s t wr hRd hx0 hbxr.1 hxl
      generalize hpv : prvL psG l j = pv at hbb hbk
      obtain ⟨px, py⟩ := pv
      have hX1n := Lib.hid hX2
      clear hbxr hbxo2 hRd hPA2 hx0
      replace hxl := Lib.hid hxl
      replace hK2 := Lib.hid hK2
      replace hX2 := Lib.hid hX2
      replace hbb := Lib.hid hbb
      go_wp2_with fail
      go_at_call 107
      refine kC.mono ?_
      rintro e w2 ⟨sb, rfl, hPs, hsb, hb2⟩
      clear kC
      have hsz2 := hb2.size
      replace hK2 := Lib.hid (hK2.out.of hb2)
      replace hX2 := Lib.hid (hX2.out.of hb2)
      have hbb2 := Lib.hid (hbb.out.of hb2)
      have hsbs : sb < w2.heap.size := by
        obtain ⟨b, o, e, hb, _⟩ := hPs.2 (by omega)
        injection e with e; injection e with e _; omega
      clear hbb hb2
      obtain ⟨_, p0, p1, -, -⟩ := hbb2.out.open2
      by_cases h0 : j = 0
      · subst h0
        have hbits := Lib.hid (hbk [.sgn x, .sgn y] (plc_first _ _ _ _))
        have hok1 := Lib.hid (ok_two (ok_sgn (x := x) (by omega)) (ok_sgn (x := y) (by omega)))
        clear hbk hpv
        have hR3 := rd_two w2 (.cells #[.int .i64 x, .int .i64 y] 66) 144 [.sgn x, .sgn y] 2 rfl (by omega) _ rfl
        obtain ⟨W3, hW3⟩ : ∃ W3, W3 = (w2.alloc (.cells #[.int .i64 x, .int .i64 y] 66)).alloc (.cells #[.iface 165 (.int .i64 x), .iface 165 (.int .i64 y)] 144) := ⟨_, rfl⟩
        have hW3b : Below w2.heap.size w2 W3 := by rw [hW3]; exact ((Below.refl _ _).alloc (Nat.le_refl _) _).alloc (by simp) _
        have hbp := BxW.new w2 [.int .i64 x, .int .i64 y] 66
        rw [show ∀ a b : Value, [a, b].toArray = #[a, b] from fun _ _ => rfl] at hbp
        replace hbp := hbp.of (show Below _ _ W3 by rw [hW3]; exact (Below.refl _ _).alloc (Nat.le_refl _) _)
        have hW3s : W3.heap.size = w2.heap.size + 2 := by rw [hW3]; simp
        change Rd encPt 1 ((w2.alloc (.cells #[.int .i64 x, .int .i64 y] 66)).alloc (.cells #[.iface 165 (.int .i64 x), .iface 165 (.int .i64 y)] 144)) _ _ _ at hR3
        rw [← hW3] at hR3
        have hX3 := hX2.out.of hW3b
        have kW1 := snp_write bw A2 n2 c2 _ T2 e2 (some ⟨w2.heap.size + 1, 0, none⟩) 2 2 [.sgn x, .sgn y] W3 hX3 hR3 (by omega) hok1.out (fun b o e => by
          injection e with e; injection e with e _; subst e
          exact hX2.out.new (by omega))
        have hbb3 := hbb2.out.of hW3b
        have hn3 := hX2.out.new (Nat.le_refl w2.heap.size)
        have hPs3 := hPs.of hW3b
        rw [hW3] at kW1
        go_upto_region 11 with (go_at_call 51; refine kW1.mono ?_; rintro e w4 ⟨A4, n4, c4, T4, e4, rfl, hX4, hK4⟩)
        clear kW1 p0 p1
        rw [← hW3] at hK4
        obtain ⟨hbp4, hp4⟩ := hK4.box hbp hn3.1 hn3.2
        obtain ⟨hbb4, hq4⟩ := hK4.box hbb3 hbbw hbbo
        obtain ⟨hPs4, hs4⟩ := hK4.rd hPs3 (fun _ b o e => by
          injection e with e; injection e with e _; subst e
          have := hX1n.out.new hsb
          exact ⟨this.1, this.2, by omega⟩)
        have kW2 := snp_write bw A4 n4 c4 _ T4 e4 (some ⟨sb, 0, none⟩) 2 2 [.fix s 3, .fix t 3] w4 hX4 hPs4 (by omega) (ok_two (ok_three (by omega)) (ok_three (by omega))) (fun b o e => ⟨(hs4 (by omega) b o e).1, (hs4 (by omega) b o e).2.1⟩)
        have hK24 := Lib.hid (hK2.out.trans (WrK.after hW3b hK4))
        have hbpL := Lib.hid (show w2.heap.size ≠ bw from hn3.1)
        replace hbp4 := Lib.hid hbp4
        replace hbb4 := Lib.hid hbb4
        have hp4' := Lib.hid hp4
        have hq4' := Lib.hid hq4
        have hbbw' := Lib.hid hbbw
        clear hR3 hbp hbb3 hPs3 hPs4 hs4 hX3 hX4 hK4 hn3 hW3 hW3b hW3s hp4 hq4 hPs
        go_wp2_with fail
        go_at_call 51
        refine kW2.mono ?_
        rintro e w5 ⟨A5, n5, c5, T5, e5, rfl, hX5, hK5⟩
        clear kW2
        obtain ⟨hbp5, hp5⟩ := hK5.box hbp4.out hbpL.out hp4'.out
        obtain ⟨hbb5, hq5⟩ := hK5.box hbb4.out hbbw'.out hq4'.out
        have hK25 := Lib.hid (hK24.out.trans hK5)
        obtain ⟨_, p0, p1, -, -⟩ := hbp5.open2
        obtain ⟨_, q0, q1, g0, g1⟩ := hbb5.open2
        replace hX5 := Lib.hid hX5
        replace hbb5 := Lib.hid hbb5
        replace hq5 := Lib.hid hq5
        have hne : w1.heap.size ≠ w2.heap.size := by omega
        clear hbp5 hp5 hK5
        go_wp2_with fail
        go_roundw
        case rel =>
          refine ⟨0 + 1, A5, n5, c5, T5, e5, by go_num, by omega, ?_, ?_, ?_, ?_⟩
          · have h1 := (hX5.out.off 0 (.int .i64 x) hbbw'.out hq5.out).off 1 (.int .i64 y) hbbw'.out hq5.out
            rw [hbits.out]
            exact h1
          · rw [hprv.out]
            exact (hbb5.out.put 0 (.int .i64 x) (by simp)).put 1 (.int .i64 y) (by simp)
          · exact hq5.out
          · exact (hK25.out.off 0 _ (by omega)).off 1 _ (by omega)
        case measure => simp [intOf]; omega
      · have d0 : ((j : Int) == 0) = false := by simp; omega
        have d0' : decide ((j : Int) = 0) = false := decide_eq_false (by omega)
        have jb : (j == 0) = false := by simp; omega
        rw [jb] at hbk
        obtain ⟨bf1, bf2⟩ := hbefore.out (j - 1) (by omega)
        rw [show j - 1 + 1 = j by omega, hpv] at bf1 bf2
        simp only at bf1 bf2
        by_cases hy : y = py
        · subst hy
          have dy : (y == y) = true := beq_self_eq_true _
          obtain ⟨g, hg⟩ : ∃ g : Nat, (g : Int) = x - px - 1 := ⟨(x - px - 1).toNat, by omega⟩
          have hbits := Lib.hid (hbk [.gam 0, .gam g] (by rw [plc_line, ← hg, Int.toNat_natCast]))
          have hok1 := Lib.hid (ok_two (ok_gam (n := 0) (by omega)) (ok_gam (n := g) (by omega)))
          have w0' : IntKind.i64.wrap (x - px) = x - px := IntWalk.i64_in _ (by omega)
          have w1' : IntKind.i64.wrap (x - px - 1) = (g : Int) := by rw [IntWalk.i64_in _ (by omega)]; exact hg.symm
          clear hbk hpv hg
          have hR3 := rd_two w2 (.cells #[.int .i64 x, .int .i64 y] 66) 144 [.gam 0, .gam g] 2 rfl (by omega) _ rfl
          obtain ⟨W3, hW3⟩ : ∃ W3, W3 = (w2.alloc (.cells #[.int .i64 x, .int .i64 y] 66)).alloc (.cells #[.iface 97 (.int .i64 0), .iface 97 (.int .i64 (g : Int))] 144) := ⟨_, rfl⟩
          have hW3b : Below w2.heap.size w2 W3 := by rw [hW3]; exact ((Below.refl _ _).alloc (Nat.le_refl _) _).alloc (by simp) _
          have hbp := BxW.new w2 [.int .i64 x, .int .i64 y] 66
          rw [show ∀ a b : Value, [a, b].toArray = #[a, b] from fun _ _ => rfl] at hbp
          replace hbp := hbp.of (show Below _ _ W3 by rw [hW3]; exact (Below.refl _ _).alloc (Nat.le_refl _) _)
          have hW3s : W3.heap.size = w2.heap.size + 2 := by rw [hW3]; simp
          change Rd encPt 1 ((w2.alloc (.cells #[.int .i64 x, .int .i64 y] 66)).alloc (.cells #[.iface 97 (.int .i64 0), .iface 97 (.int .i64 (g : Int))] 144)) _ _ _ at hR3
          rw [← hW3] at hR3
          have hX3 := hX2.out.of hW3b
          have kW1 := snp_write bw A2 n2 c2 _ T2 e2 (some ⟨w2.heap.size + 1, 0, none⟩) 2 2 [.gam 0, .gam g] W3 hX3 hR3 (by omega) hok1.out (fun b o e => by
            injection e with e; injection e with e _; subst e
            exact hX2.out.new (by omega))
          have hbb3 := hbb2.out.of hW3b
          have hn3 := hX2.out.new (Nat.le_refl w2.heap.size)
          have hPs3 := hPs.of hW3b
          rw [hW3] at kW1
          go_upto_region 11 with (go_at_call 51; refine kW1.mono ?_; rintro e w4 ⟨A4, n4, c4, T4, e4, rfl, hX4, hK4⟩)
          clear kW1 p0 p1
          rw [← hW3] at hK4
          obtain ⟨hbp4, hp4⟩ := hK4.box hbp hn3.1 hn3.2
          obtain ⟨hbb4, hq4⟩ := hK4.box hbb3 hbbw hbbo
          obtain ⟨hPs4, hs4⟩ := hK4.rd hPs3 (fun _ b o e => by
            injection e with e; injection e with e _; subst e
            have := hX1n.out.new hsb
            exact ⟨this.1, this.2, by omega⟩)
          have kW2 := snp_write bw A4 n4 c4 _ T4 e4 (some ⟨sb, 0, none⟩) 2 2 [.fix s 3, .fix t 3] w4 hX4 hPs4 (by omega) (ok_two (ok_three (by omega)) (ok_three (by omega))) (fun b o e => ⟨(hs4 (by omega) b o e).1, (hs4 (by omega) b o e).2.1⟩)
          have hK24 := Lib.hid (hK2.out.trans (WrK.after hW3b hK4))
          have hbpL := Lib.hid (show w2.heap.size ≠ bw from hn3.1)
          replace hbp4 := Lib.hid hbp4
          replace hbb4 := Lib.hid hbb4
          have hp4' := Lib.hid hp4
          have hq4' := Lib.hid hq4
          have hbbw' := Lib.hid hbbw
          clear hR3 hbp hbb3 hPs3 hPs4 hs4 hX3 hX4 hK4 hn3 hW3 hW3b hW3s hp4 hq4 hPs
          go_wp2_with fail
          go_at_call 51
          refine kW2.mono ?_
          rintro e w5 ⟨A5, n5, c5, T5, e5, rfl, hX5, hK5⟩
          clear kW2
          obtain ⟨hbp5, hp5⟩ := hK5.box hbp4.out hbpL.out hp4'.out
          obtain ⟨hbb5, hq5⟩ := hK5.box hbb4.out hbbw'.out hq4'.out
          have hK25 := Lib.hid (hK24.out.trans hK5)
          obtain ⟨_, p0, p1, -, -⟩ := hbp5.open2
          obtain ⟨_, q0, q1, g0, g1⟩ := hbb5.open2
          replace hX5 := Lib.hid hX5
          replace hbb5 := Lib.hid hbb5
          replace hq5 := Lib.hid hq5
          have hne : w1.heap.size ≠ w2.heap.size := by omega
          clear hbp5 hp5 hK5
          go_wp2_with fail
          go_roundw
          case rel =>
            refine ⟨j + 1, A5, n5, c5, T5, e5, by go_num, by omega, ?_, ?_, ?_, ?_⟩
            · have h1 := (hX5.out.off 0 (.int .i64 x) hbbw'.out hq5.out).off 1 (.int .i64 y) hbbw'.out hq5.out
              rw [hbits.out]
              exact h1
            · rw [hprv.out]
              exact (hbb5.out.put 0 (.int .i64 x) (by simp)).put 1 (.int .i64 y) (by simp)
            · exact hq5.out
            · exact (hK25.out.off 0 _ (by omega)).off 1 _ (by omega)
          case measure => simp [intOf]; omega
        · have dy : (y == py) = false := by simpa using hy
          obtain ⟨g, hg⟩ : ∃ g : Nat, (g : Int) = y - py := ⟨(y - py).toNat, by omega⟩
          have hbits := Lib.hid (hbk [.gam g, .sgn x] (by rw [plc_next _ _ _ _ hy, ← hg, Int.toNat_natCast]))
          have hok1 := Lib.hid (ok_two (ok_gam (n := g) (by omega)) (ok_sgn (x := x) (by omega)))
          have w1' : IntKind.i64.wrap (y - py) = (g : Int) := by rw [IntWalk.i64_in _ (by omega)]; exact hg.symm
          clear hbk hpv hg
          have hR3 := rd_two w2 (.cells #[.int .i64 x, .int .i64 y] 66) 144 [.gam g, .sgn x] 2 rfl (by omega) _ rfl
          obtain ⟨W3, hW3⟩ : ∃ W3, W3 = (w2.alloc (.cells #[.int .i64 x, .int .i64 y] 66)).alloc (.cells #[.iface 97 (.int .i64 (g : Int)), .iface 165 (.int .i64 x)] 144) := ⟨_, rfl⟩
          have hW3b : Below w2.heap.size w2 W3 := by rw [hW3]; exact ((Below.refl _ _).alloc (Nat.le_refl _) _).alloc (by simp) _
          have hbp := BxW.new w2 [.int .i64 x, .int .i64 y] 66
          rw [show ∀ a b : Value, [a, b].toArray = #[a, b] from fun _ _ => rfl] at hbp
          replace hbp := hbp.of (show Below _ _ W3 by rw [hW3]; exact (Below.refl _ _).alloc (Nat.le_refl _) _)
          have hW3s : W3.heap.size = w2.heap.size + 2 := by rw [hW3]; simp
          change Rd encPt 1 ((w2.alloc (.cells #[.int .i64 x, .int .i64 y] 66)).alloc (.cells #[.iface 97 (.int .i64 (g : Int)), .iface 165 (.int .i64 x)] 144)) _ _ _ at hR3
          rw [← hW3] at hR3
          have hX3 := hX2.out.of hW3b
          have kW1 := snp_write bw A2 n2 c2 _ T2 e2 (some ⟨w2.heap.size + 1, 0, none⟩) 2 2 [.gam g, .sgn x] W3 hX3 hR3 (by omega) hok1.out (fun b o e => by
            injection e with e; injection e with e _; subst e
            exact hX2.out.new (by omega))
          have hbb3 := hbb2.out.of hW3b
          have hn3 := hX2.out.new (Nat.le_refl w2.heap.size)
          have hPs3 := hPs.of hW3b
          rw [hW3] at kW1
          go_upto_region 11 with (go_at_call 51; refine kW1.mono ?_; rintro e w4 ⟨A4, n4, c4, T4, e4, rfl, hX4, hK4⟩)
          clear kW1 p0 p1
          rw [← hW3] at hK4
          obtain ⟨hbp4, hp4⟩ := hK4.box hbp hn3.1 hn3.2
          obtain ⟨hbb4, hq4⟩ := hK4.box hbb3 hbbw hbbo
          obtain ⟨hPs4, hs4⟩ := hK4.rd hPs3 (fun _ b o e => by
            injection e with e; injection e with e _; subst e
            have := hX1n.out.new hsb
            exact ⟨this.1, this.2, by omega⟩)
          have kW2 := snp_write bw A4 n4 c4 _ T4 e4 (some ⟨sb, 0, none⟩) 2 2 [.fix s 3, .fix t 3] w4 hX4 hPs4 (by omega) (ok_two (ok_three (by omega)) (ok_three (by omega))) (fun b o e => ⟨(hs4 (by omega) b o e).1, (hs4 (by omega) b o e).2.1⟩)
          have hK24 := Lib.hid (hK2.out.trans (WrK.after hW3b hK4))
          have hbpL := Lib.hid (show w2.heap.size ≠ bw from hn3.1)
          replace hbp4 := Lib.hid hbp4
          replace hbb4 := Lib.hid hbb4
          have hp4' := Lib.hid hp4
          have hq4' := Lib.hid hq4
          have hbbw' := Lib.hid hbbw
          clear hR3 hbp hbb3 hPs3 hPs4 hs4 hX3 hX4 hK4 hn3 hW3 hW3b hW3s hp4 hq4 hPs
          go_wp2_with fail
          go_at_call 51
          refine kW2.mono ?_
          rintro e w5 ⟨A5, n5, c5, T5, e5, rfl, hX5, hK5⟩
          clear kW2
          obtain ⟨hbp5, hp5⟩ := hK5.box hbp4.out hbpL.out hp4'.out
          obtain ⟨hbb5, hq5⟩ := hK5.box hbb4.out hbbw'.out hq4'.out
          have hK25 := Lib.hid (hK24.out.trans hK5)
          obtain ⟨_, p0, p1, -, -⟩ := hbp5.open2
          obtain ⟨_, q0, q1, g0, g1⟩ := hbb5.open2
          replace hX5 := Lib.hid hX5
          replace hbb5 := Lib.hid hbb5
          replace hq5 := Lib.hid hq5
          have hne : w1.heap.size ≠ w2.heap.size := by omega
          clear hbp5 hp5 hK5
          go_wp2_with fail
          go_roundw
          case rel =>
            refine ⟨j + 1, A5, n5, c5, T5, e5, by go_num, by omega, ?_, ?_, ?_, ?_⟩
            · have h1 := (hX5.out.off 0 (.int .i64 x) hbbw'.out hq5.out).off 1 (.int .i64 y) hbbw'.out hq5.out
              rw [hbits.out]
              exact h1
            · rw [hprv.out]
              exact (hbb5.out.put 0 (.int .i64 x) (by simp)).put 1 (.int .i64 y) (by simp)
            · exact hq5.out
            · exact (hK25.out.off 0 _ (by omega)).off 1 _ (by omega)
          case measure => simp [intOf]; omega
    · obtain rfl : j = n := by omega
      have dj : decide ((j : Int) < j) = false := decide_eq_false (by omega)
      have dj' : decide (j < j) = false := decide_eq_false (by omega)
      go_wp2_with fail
      go_end0
      refine ⟨A2, n2, c2, T2, e2, rfl, ?_, hK2⟩
      unfold lstB
      rw [hln.out] at hX2 ⊢
      exact hX2
end Go.Proofs.YtmenokhnanghgaaGreat
end
