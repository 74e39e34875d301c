/- quad's Join. By mkqudj.py. -/
import Derived.Test.YtmenokhnanghgaaGreatSNM
import Derived.Deep.CutRange
import Derived.Test.YtmenokhnanghgaaGreatCEL
namespace Go.Proofs.YtmenokhnanghgaaGreat
open Go Go.RowKit
set_option linter.unusedSimpArgs false
set_option linter.unusedVariables false
set_option maxRecDepth 100000
set_option linter.unusedSimpArgs false
set_option linter.unusedVariables false
theorem neq_arr4 (x y z u x' y' z' u' : Int) (w : World) : (binOp .neq 67 (.agg #[.int .i64 x, .int .i64 y, .int .i64 z, .int .i64 u]) (.agg #[.int .i64 x', .int .i64 y', .int .i64 z', .int .i64 u'])).run Tryz.prog w = .ok (.bool (!decide (x = x' ∧ y = y' ∧ z = z' ∧ u = u'))) w := by
  have h := eq_arr4 x y z u x' y' z' u' w
  rw [run_eql_struct] at h
  rw [run_neq_struct]
  generalize (Op.equalIn 10000 67 (.agg #[.int .i64 x, .int .i64 y, .int .i64 z, .int .i64 u]) (.agg #[.int .i64 x', .int .i64 y', .int .i64 z', .int .i64 u'])).run Tryz.prog w = r at *
  cases r <;> simp_all [Result.andThen]
def lv4 (a b c d : Int) : Nat → List Value
  | 0 => [.int .i64 0, .int .i64 0, .int .i64 0, .int .i64 0]
  | 1 => [.int .i64 a, .int .i64 0, .int .i64 0, .int .i64 0]
  | 2 => [.int .i64 a, .int .i64 b, .int .i64 0, .int .i64 0]
  | 3 => [.int .i64 a, .int .i64 b, .int .i64 c, .int .i64 0]
  | _ => [.int .i64 a, .int .i64 b, .int .i64 c, .int .i64 d]
/-- What Join leaves. -/
def JnP (w : World) (bs mb : Nat) (st : Int) (nn : Nat) (Q : List Qd) (ls : List Int) (f : Int × Int × Int × Int → Option Int) (x : Qd) (e : Ending) (w' : World) : Prop :=
  (qSt st ls x = true ∧ f x = none ∧ e = .returned (.tuple #[.int .i64 (st + nn), .int .i64 0]) ∧ (∃ NA nc LA lc, QSt w' bs mb st NA (nn + 1) nc LA lc (Q ++ [x]) (ls ++ [qlv st ls x.1 + 1]) (putG f x (st + nn))) ∧ Below mb w w') ∨
  ((qSt st ls x = false ∨ f x ≠ none) ∧ ∃ v r, e = .returned (.tuple #[.int .i64 v, .int .i64 r]) ∧ (r ≠ 0 ∨ v ≠ st + nn) ∧ Below w.heap.size w w')
/-- A store under way in Join: the kids' box bk, the first level in bl. -/
structure QJ (w0 : World) (bs mb bk bl : Nat) (st : Int) (NA : Option Addr) (n1 nc : Nat) (LA : Option Addr) (n2 lc : Nat) (Q : List Qd) (ls : List Int) (n3 : Nat) (f : Int × Int × Int × Int → Option Int) (x0 x1 x2 x3 v0 : Int) (w : World) : Prop where
  box : BxW w bs [.int .i64 st, .slice NA n1 nc, .slice LA n2 lc, .map (some mb)]
  nodes : Own encQd 4 69 (bs + 1) w NA n1 nc Q
  levels : Own encI 1 3 (bs + 1) w LA n2 lc ls
  map : mkQ4.At mb n3 f w
  k : BxW w bk [.int .i64 x0, .int .i64 x1, .int .i64 x2, .int .i64 x3]
  lz : bl < w.heap.size
  l : w.cell? ⟨bl, 0, none⟩ = some (.int .i64 v0)
  b : Below mb w0 w
section
variable {w w5 w0 : World} {bs mb bk bl : Nat} {st : Int} {NA : Option Addr} {n1 nc : Nat} {LA : Option Addr} {n2 lc n3 : Nat} {Q : List Qd} {ls : List Int} {f : Int × Int × Int × Int → Option Int} {x0 x1 x2 x3 v0 : Int}
theorem QJ.of (h : QJ w0 bs mb bk bl st NA n1 nc LA n2 lc Q ls n3 f x0 x1 x2 x3 v0 w) (hb : Below w.heap.size w w5) : QJ w0 bs mb bk bl st NA n1 nc LA n2 lc Q ls n3 f x0 x1 x2 x3 v0 w5 :=
  ⟨h.box.of hb, h.nodes.of hb, h.levels.of hb, h.map.of hb, h.k.of hb, Nat.lt_of_lt_of_le h.lz hb.size, (hb.cell (p := ⟨bl, 0, none⟩) h.lz).trans h.l, h.b.trans (hb.mono (by have := h.map.lt; omega))⟩
theorem below_grow {B : Nat} {row : Option Nat} (h : Below B w0 w) (hg : w.grownBy w5 row) (hr : ∀ q, row = some q → B ≤ q) (hB : B ≤ w0.heap.size) : Below B w0 w5 :=
  ((Fr2.here w (fun q => row = some q)).grown hg (fun q e => .inl e)).below (B := B) (Nat.le_trans hB h.size) (fun q e => hr q e) |> h.trans
/-- The node appended and the slice stored. -/
theorem QJ.node (h : QJ w0 bs mb bk bl st NA n1 nc LA n2 lc Q ls n3 f x0 x1 x2 x3 v0 w) (hmb : mb < bs) (hbs : bs < w0.heap.size) (hk : w0.heap.size ≤ bk) (hl : w0.heap.size ≤ bl) (hNA : ∀ q, (Value.slice NA n1 nc).ownBlock = some q → q < w0.heap.size) {ob : Obj} {A5 : Option Addr} {c5 : Nat} {Q5 : List Qd} (hown : Own encQd 4 69 (bs + 1) w5 A5 (n1 + 1) c5 Q5) (hg : (w.alloc ob).grownBy w5 (Value.slice NA n1 nc).ownBlock) :
    w5.cell? ⟨bs, 1, none⟩ = some (.slice NA n1 nc) ∧ w5.frozen? ⟨bs, 1, none⟩ = false ∧ QJ w0 bs mb bk bl st A5 (n1 + 1) c5 LA n2 lc Q5 ls n3 f x0 x1 x2 x3 v0 (w5.setCell ⟨bs, 1, none⟩ (.slice A5 (n1 + 1) c5)) := by
  have hal : Below w.heap.size w (w.alloc ob) := (Below.refl _ _).alloc (Nat.le_refl _) _
  have ha := h.of hal
  have hrow : ∀ q, (Value.slice NA n1 nc).ownBlock = some q → bs < q := fun q hq => by have := (h.nodes.row.lt q hq).1; omega
  have hx := ha.box.grown hg (fun e => by have := hrow _ e.symm; omega)
  have hs := grownBy_set w5 bs 1 (.slice A5 (n1 + 1) c5)
  have hap := ha.nodes.apart ha.levels (by decide)
  have hkx := ha.k.grown hg (fun e => by have := hNA _ e.symm; omega)
  have hlb : (w5.setCell ⟨bs, 1, none⟩ (.slice A5 (n1 + 1) c5)).cell? ⟨bl, 0, none⟩ = some (.int .i64 v0) := by
    rw [cell_setCell_if, if_neg (fun e => by have : bs = bl := e.1; omega)]
    exact (World.cell?_of_block (hg.block bl ha.lz (fun e => by have := hNA _ e.symm; omega))).trans ha.l
  refine ⟨hx.2.1 1, hx.2.2 1, hx.put 1 _ (by simp), hown.setBelow (by omega) _, (ha.levels.over2 hg (fun q hq e => hap q e hq)).setBelow (by omega) _, (ha.map.grown hg (fun e => by have := hrow _ e.symm; omega)).grown hs (fun e => by injection e with e; omega), hkx.off 1 _ (by omega), by rw [World.size_setCell]; exact Nat.lt_of_lt_of_le ha.lz hg.size, hlb, ?_⟩
  exact (below_grow ha.b hg (fun q e => by have := hrow q e; omega) (by omega)).setCell (show mb ≤ bs by omega) _
/-- The level appended and the slice stored. -/
theorem QJ.level (h : QJ w0 bs mb bk bl st NA n1 nc LA n2 lc Q ls n3 f x0 x1 x2 x3 v0 w) (hmb : mb < bs) (hbs : bs < w0.heap.size) (hk : w0.heap.size ≤ bk) (hl : w0.heap.size ≤ bl) (hLA : ∀ q, (Value.slice LA n2 lc).ownBlock = some q → q < w0.heap.size) {ob : Obj} {A5 : Option Addr} {c5 : Nat} {L5 : List Int} (hown : Own encI 1 3 (bs + 1) w5 A5 (n2 + 1) c5 L5) (hg : (w.alloc ob).grownBy w5 (Value.slice LA n2 lc).ownBlock) :
    w5.cell? ⟨bs, 2, none⟩ = some (.slice LA n2 lc) ∧ w5.frozen? ⟨bs, 2, none⟩ = false ∧ QJ w0 bs mb bk bl st NA n1 nc A5 (n2 + 1) c5 Q L5 n3 f x0 x1 x2 x3 v0 (w5.setCell ⟨bs, 2, none⟩ (.slice A5 (n2 + 1) c5)) := by
  have hal : Below w.heap.size w (w.alloc ob) := (Below.refl _ _).alloc (Nat.le_refl _) _
  have ha := h.of hal
  have hrow : ∀ q, (Value.slice LA n2 lc).ownBlock = some q → bs < q := fun q hq => by have := (h.levels.row.lt q hq).1; omega
  have hx := ha.box.grown hg (fun e => by have := hrow _ e.symm; omega)
  have hs := grownBy_set w5 bs 2 (.slice A5 (n2 + 1) c5)
  have hap := ha.nodes.apart ha.levels (by decide)
  have hkx := ha.k.grown hg (fun e => by have := hLA _ e.symm; omega)
  have hlb : (w5.setCell ⟨bs, 2, none⟩ (.slice A5 (n2 + 1) c5)).cell? ⟨bl, 0, none⟩ = some (.int .i64 v0) := by
    rw [cell_setCell_if, if_neg (fun e => by have : bs = bl := e.1; omega)]
    exact (World.cell?_of_block (hg.block bl ha.lz (fun e => by have := hLA _ e.symm; omega))).trans ha.l
  refine ⟨hx.2.1 2, hx.2.2 2, hx.put 2 _ (by simp), (ha.nodes.over2 hg (fun q hq e => hap q hq e)).setBelow (by omega) _, hown.setBelow (by omega) _, (ha.map.grown hg (fun e => by have := hrow _ e.symm; omega)).grown hs (fun e => by injection e with e; omega), hkx.off 2 _ (by omega), by rw [World.size_setCell]; exact Nat.lt_of_lt_of_le ha.lz hg.size, hlb, ?_⟩
  exact (below_grow ha.b hg (fun q e => by have := hrow q e; omega) (by omega)).setCell (show mb ≤ bs by omega) _
end
section
variable {w : World} {bs mb : Nat} {st : Int} {NA : Option Addr} {nn nc : Nat} {LA : Option Addr} {lc : Nat} {Q : List Qd} {ls : List Int} {f : Int × Int × Int × Int → Option Int}
theorem qSt_no {x : Qd} (h : ¬ (0 ≤ qlv st ls x.1 ∧ qlv st ls x.1 < 256 ∧ qlv st ls x.2.1 = qlv st ls x.1 ∧ qlv st ls x.2.2.1 = qlv st ls x.1 ∧ qlv st ls x.2.2.2 = qlv st ls x.1)) : qSt st ls x = false := by unfold qSt; exact decide_eq_false h
theorem qSt_yes {x : Qd} (h : 0 ≤ qlv st ls x.1 ∧ qlv st ls x.1 < 256 ∧ qlv st ls x.2.1 = qlv st ls x.1 ∧ qlv st ls x.2.2.1 = qlv st ls x.1 ∧ qlv st ls x.2.2.2 = qlv st ls x.1) : qSt st ls x = true := by unfold qSt; exact decide_eq_true h
set_option maxHeartbeats 16000000 in
theorem quad_Join (h : QSt w bs mb st NA nn nc LA lc Q ls f) (hst : 2 ≤ st ∧ st ≤ 8) (hnn : nn < 100000) (hfv : ∀ k v, f k = some v → v < st + nn) (x0 x1 x2 x3 : Int) :
    Calls Tryz.prog 127 #[.pointer (some ⟨bs, 0, none⟩), .int .i64 x0, .int .i64 x1, .int .i64 x2, .int .i64 x3] w fun e w' => JnP w bs mb st nn Q ls f (x0, x1, x2, x3) e w' := by
  have hll := h.levels.len
  have hrg : ∀ k, 0 ≤ qlv st ls k → I64 k := fun k hk => by have := qlv_range hk; unfold I64; omega
  have kL : ∀ (id : Int) (wr : World), Below w.heap.size w wr → Calls Tryz.prog 136 #[.pointer (some ⟨bs, 0, none⟩), .int .i64 id] wr fun e w' => e = .returned (.int .i64 (qlv st ls id)) ∧ Below w.heap.size w w' ∧ Below wr.heap.size wr w' := fun id wr hb => (quad_Level (h.of hb) hst (by omega) id).mono (by rintro e w' ⟨rfl, hb'⟩; exact ⟨rfl, hb.trans (hb'.mono hb.size), hb'⟩)
  have hno : ∀ {e : Ending} {w' : World} (hq : ¬ (0 ≤ qlv st ls x0 ∧ qlv st ls x0 < 256 ∧ qlv st ls x1 = qlv st ls x0 ∧ qlv st ls x2 = qlv st ls x0 ∧ qlv st ls x3 = qlv st ls x0)) (v r : Int), e = .returned (.tuple #[.int .i64 v, .int .i64 r]) → r ≠ 0 → Below w.heap.size w w' → JnP w bs mb st nn Q ls f (x0, x1, x2, x3) e w' := fun hq v r he hr hb => .inr ⟨.inl (qSt_no hq), v, r, he, .inl hr, hb⟩
  have k0 := kL x0
  have k1 := kL x1
  have k2 := kL x2
  have k3 := kL x3
  have g0 := hrg x0
  have g1 := hrg x1
  have g2 := hrg x2
  have g3 := hrg x3
  have hyes : ∀ {e : Ending} {w' : World}, (0 ≤ qlv st ls x0 ∧ qlv st ls x0 < 256 ∧ qlv st ls x1 = qlv st ls x0 ∧ qlv st ls x2 = qlv st ls x0 ∧ qlv st ls x3 = qlv st ls x0) → f (x0, x1, x2, x3) = none → e = .returned (.tuple #[.int .i64 (st + nn), .int .i64 0]) → (∃ NA nc LA lc, QSt w' bs mb st NA (nn + 1) nc LA lc (Q ++ [(x0, x1, x2, x3)]) (ls ++ [qlv st ls x0 + 1]) (putG f (x0, x1, x2, x3) (st + nn))) → Below mb w w' → JnP w bs mb st nn Q ls f (x0, x1, x2, x3) e w' := fun hq hf he hs hb => .inl ⟨qSt_yes hq, hf, he, hs, hb⟩
  have hold : ∀ {e : Ending} {w' : World} (v : Int), f (x0, x1, x2, x3) = some v → e = .returned (.tuple #[.int .i64 v, .int .i64 0]) → Below w.heap.size w w' → JnP w bs mb st nn Q ls f (x0, x1, x2, x3) e w' := fun v hf he hb => .inr ⟨.inr (by rw [hf]; simp), v, 0, he, .inr (by have := hfv _ _ hf; omega), hb⟩
  generalize JnP w bs mb st nn Q ls f (x0, x1, x2, x3) = PO at hno hyes hold ⊢
  generalize qlv st ls x0 = v0 at k0 g0 hno hyes
  generalize qlv st ls x1 = v1 at k1 g1 hno hyes
  generalize qlv st ls x2 = v2 at k2 g2 hno hyes
  generalize qlv st ls x3 = v3 at k3 g3 hno hyes
  clear kL hrg
  have hS := Lib.hid h
  clear h
  go_enter Tryz.func127, Tryz.ntmps127
  go_upto_region 5 with (fail)
  obtain ⟨W, hW⟩ : ∃ W, W = (w.alloc (.cells #[.int .i64 x0, .int .i64 x1, .int .i64 x2, .int .i64 x3] 67)).alloc (.cells #[.int .i64 0, .int .i64 0, .int .i64 0, .int .i64 0] 67) := ⟨_, rfl⟩
  have hb : Below w.heap.size w W := by rw [hW]; exact ((Below.refl _ _).alloc (Nat.le_refl _) _).alloc (by simp) _
  have hbk : BxW W w.heap.size [.int .i64 x0, .int .i64 x1, .int .i64 x2, .int .i64 x3] := by
    rw [hW]
    exact (BxW.new w [_, _, _, _] _).of ((Below.refl _ _).alloc (Nat.le_refl _) _)
  have hbl : BxW W (w.heap.size + 1) [.int .i64 0, .int .i64 0, .int .i64 0, .int .i64 0] := by
    rw [hW]
    have hq := BxW.new (w.alloc (.cells #[.int .i64 x0, .int .i64 x1, .int .i64 x2, .int .i64 x3] 67)) [.int .i64 0, .int .i64 0, .int .i64 0, .int .i64 0] 67
    rw [World.size_alloc] at hq
    exact hq
  try simp only [World.size_alloc]
  rw [← hW]
  clear hW
  obtain ⟨bk, hk⟩ : ∃ bk, bk = w.heap.size := ⟨_, rfl⟩
  obtain ⟨bl, hl⟩ : ∃ bl, bl = w.heap.size + 1 := ⟨_, rfl⟩
  rw [← hl] at hbl
  rw [← hk] at hbk
  try rw [← hl]
  try rw [← hk]
  have hbk0 : w.heap.size ≤ bk := by omega
  have hbl0 : w.heap.size ≤ bl := by omega
  have hne : bk ≠ bl := by omega
  have hbsw : bs < w.heap.size := hS.out.box.1
  clear hk hl
  obtain ⟨hkz, kk0, kk1, kk2, kk3⟩ : bk < W.heap.size ∧ W.cell? ⟨bk, 0, none⟩ = some (.int .i64 x0) ∧ W.cell? ⟨bk, 1, none⟩ = some (.int .i64 x1) ∧ W.cell? ⟨bk, 2, none⟩ = some (.int .i64 x2) ∧ W.cell? ⟨bk, 3, none⟩ = some (.int .i64 x3) := ⟨hbk.1, hbk.2.1 0, hbk.2.1 1, hbk.2.1 2, hbk.2.1 3⟩
  go_upto_region 6 with (fail)
  clear kk0 kk1 kk2 kk3 hkz
  go_loopw [28] (fun v wr => ∃ (j : Nat), v = .int .i64 (j : Int) ∧ j ≤ 4 ∧ BxW wr bl (lv4 v0 v1 v2 v3 j) ∧ BxW wr bk [.int .i64 x0, .int .i64 x1, .int .i64 x2, .int .i64 x3] ∧ Below w.heap.size w wr ∧ (0 < j → 0 ≤ v0) ∧ (1 < j → 0 ≤ v1) ∧ (2 < j → 0 ≤ v2) ∧ (3 < j → 0 ≤ v3)) (fun v _ => 4 - (intOf v).toNat)
  case atStart => exact ⟨0, rfl, by omega, hbl, hbk, hb, by omega, by omega, by omega, by omega⟩
  case round =>
    clear hb hbk hbl
    obtain ⟨j, rfl, hj, hbl, hbk, hb, p0, p1, p2, p3⟩ := hrel
    have hcase : j = 0 ∨ j = 1 ∨ j = 2 ∨ j = 3 ∨ j = 4 := by omega
    rcases hcase with rfl | rfl | rfl | rfl | rfl
    · obtain ⟨hlz, l0, fl0⟩ : bl < wr.heap.size ∧ wr.cell? ⟨bl, 0, none⟩ = some (.int .i64 0) ∧ wr.frozen? ⟨bl, 0, none⟩ = false := ⟨hbl.1, hbl.2.1 0, hbl.2.2 0⟩
      have i0 : ∀ w, (Instr.index 67 (.agg #[.int .i64 x0, .int .i64 x1, .int .i64 x2, .int .i64 x3]) (.int .i64 0)).run Tryz.prog w = .ok (.int .i64 x0) w := fun _ => by kernel_rfl
      have hblh := Lib.hid hbl
      have hbkh := Lib.hid hbk
      have kj := k0 wr hb
      clear hbl hbk k0 k1 k2 k3 hyes hold
      go_wp2_with fail
      go_at_call 136
      refine kj.mono ?_
      rintro e w1 ⟨rfl, hb1, hb1r⟩
      have hx := hblh.out.of hb1r
      have hk1 := Lib.hid ((hbkh.out.of hb1r).off 0 (.int .i64 v0) (fun e => hne e.symm))
      have hx2 := hx.put 0 (.int .i64 v0) (by simp [lv4])
      have hb2 := Lib.hid (hb1.setCell (p := ⟨bl, 0, none⟩) hbl0 (.int .i64 v0))
      obtain ⟨hz1, c1, f1⟩ : bl < w1.heap.size ∧ w1.cell? ⟨bl, 0, none⟩ = some (.int .i64 0) ∧ w1.frozen? ⟨bl, 0, none⟩ = false := ⟨hx.1, hx.2.1 0, hx.2.2 0⟩
      have c2 : (w1.setCell ⟨bl, 0, none⟩ (.int .i64 v0)).cell? ⟨bl, 0, none⟩ = some (.int .i64 v0) := hx2.2.1 0
      replace hx2 := Lib.hid hx2
      clear hx hblh hbkh kj hb hb1 hb1r
      by_cases hv : v0 < 0
      · have d1 : decide (v0 < 0) = true := decide_eq_true hv
        go_wp2_with fail
        exact hno (by omega) 0 13 rfl (by decide) hb2.out
      · have d1 : decide (v0 < 0) = false := decide_eq_false hv
        go_wp2_with fail
        go_roundw
        case rel => exact ⟨1, by go_num, by omega, hx2.out, hk1.out, hb2.out, fun _ => by omega, by omega, by omega, by omega⟩
        case measure => simp [intOf]
    · obtain ⟨hlz, l1, fl1⟩ : bl < wr.heap.size ∧ wr.cell? ⟨bl, 1, none⟩ = some (.int .i64 0) ∧ wr.frozen? ⟨bl, 1, none⟩ = false := ⟨hbl.1, hbl.2.1 1, hbl.2.2 1⟩
      have i1 : ∀ w, (Instr.index 67 (.agg #[.int .i64 x0, .int .i64 x1, .int .i64 x2, .int .i64 x3]) (.int .i64 1)).run Tryz.prog w = .ok (.int .i64 x1) w := fun _ => by kernel_rfl
      have hblh := Lib.hid hbl
      have hbkh := Lib.hid hbk
      have kj := k1 wr hb
      clear hbl hbk k0 k1 k2 k3 hyes hold
      go_wp2_with fail
      go_at_call 136
      refine kj.mono ?_
      rintro e w1 ⟨rfl, hb1, hb1r⟩
      have hx := hblh.out.of hb1r
      have hk1 := Lib.hid ((hbkh.out.of hb1r).off 1 (.int .i64 v1) (fun e => hne e.symm))
      have hx2 := hx.put 1 (.int .i64 v1) (by simp [lv4])
      have hb2 := Lib.hid (hb1.setCell (p := ⟨bl, 1, none⟩) hbl0 (.int .i64 v1))
      obtain ⟨hz1, c1, f1⟩ : bl < w1.heap.size ∧ w1.cell? ⟨bl, 1, none⟩ = some (.int .i64 0) ∧ w1.frozen? ⟨bl, 1, none⟩ = false := ⟨hx.1, hx.2.1 1, hx.2.2 1⟩
      have c2 : (w1.setCell ⟨bl, 1, none⟩ (.int .i64 v1)).cell? ⟨bl, 1, none⟩ = some (.int .i64 v1) := hx2.2.1 1
      replace hx2 := Lib.hid hx2
      clear hx hblh hbkh kj hb hb1 hb1r
      by_cases hv : v1 < 0
      · have d1 : decide (v1 < 0) = true := decide_eq_true hv
        go_wp2_with fail
        exact hno (by omega) 0 13 rfl (by decide) hb2.out
      · have d1 : decide (v1 < 0) = false := decide_eq_false hv
        go_wp2_with fail
        go_roundw
        case rel => exact ⟨2, by go_num, by omega, hx2.out, hk1.out, hb2.out, fun _ => p0 (by omega), fun _ => by omega, by omega, by omega⟩
        case measure => simp [intOf]
    · obtain ⟨hlz, l2, fl2⟩ : bl < wr.heap.size ∧ wr.cell? ⟨bl, 2, none⟩ = some (.int .i64 0) ∧ wr.frozen? ⟨bl, 2, none⟩ = false := ⟨hbl.1, hbl.2.1 2, hbl.2.2 2⟩
      have i2 : ∀ w, (Instr.index 67 (.agg #[.int .i64 x0, .int .i64 x1, .int .i64 x2, .int .i64 x3]) (.int .i64 2)).run Tryz.prog w = .ok (.int .i64 x2) w := fun _ => by kernel_rfl
      have hblh := Lib.hid hbl
      have hbkh := Lib.hid hbk
      have kj := k2 wr hb
      clear hbl hbk k0 k1 k2 k3 hyes hold
      go_wp2_with fail
      go_at_call 136
      refine kj.mono ?_
      rintro e w1 ⟨rfl, hb1, hb1r⟩
      have hx := hblh.out.of hb1r
      have hk1 := Lib.hid ((hbkh.out.of hb1r).off 2 (.int .i64 v2) (fun e => hne e.symm))
      have hx2 := hx.put 2 (.int .i64 v2) (by simp [lv4])
      have hb2 := Lib.hid (hb1.setCell (p := ⟨bl, 2, none⟩) hbl0 (.int .i64 v2))
      obtain ⟨hz1, c1, f1⟩ : bl < w1.heap.size ∧ w1.cell? ⟨bl, 2, none⟩ = some (.int .i64 0) ∧ w1.frozen? ⟨bl, 2, none⟩ = false := ⟨hx.1, hx.2.1 2, hx.2.2 2⟩
      have c2 : (w1.setCell ⟨bl, 2, none⟩ (.int .i64 v2)).cell? ⟨bl, 2, none⟩ = some (.int .i64 v2) := hx2.2.1 2
      replace hx2 := Lib.hid hx2
      clear hx hblh hbkh kj hb hb1 hb1r
      by_cases hv : v2 < 0
      · have d1 : decide (v2 < 0) = true := decide_eq_true hv
        go_wp2_with fail
        exact hno (by omega) 0 13 rfl (by decide) hb2.out
      · have d1 : decide (v2 < 0) = false := decide_eq_false hv
        go_wp2_with fail
        go_roundw
        case rel => exact ⟨3, by go_num, by omega, hx2.out, hk1.out, hb2.out, fun _ => p0 (by omega), fun _ => p1 (by omega), fun _ => by omega, by omega⟩
        case measure => simp [intOf]
    · obtain ⟨hlz, l3, fl3⟩ : bl < wr.heap.size ∧ wr.cell? ⟨bl, 3, none⟩ = some (.int .i64 0) ∧ wr.frozen? ⟨bl, 3, none⟩ = false := ⟨hbl.1, hbl.2.1 3, hbl.2.2 3⟩
      have i3 : ∀ w, (Instr.index 67 (.agg #[.int .i64 x0, .int .i64 x1, .int .i64 x2, .int .i64 x3]) (.int .i64 3)).run Tryz.prog w = .ok (.int .i64 x3) w := fun _ => by kernel_rfl
      have hblh := Lib.hid hbl
      have hbkh := Lib.hid hbk
      have kj := k3 wr hb
      clear hbl hbk k0 k1 k2 k3 hyes hold
      go_wp2_with fail
      go_at_call 136
      refine kj.mono ?_
      rintro e w1 ⟨rfl, hb1, hb1r⟩
      have hx := hblh.out.of hb1r
      have hk1 := Lib.hid ((hbkh.out.of hb1r).off 3 (.int .i64 v3) (fun e => hne e.symm))
      have hx2 := hx.put 3 (.int .i64 v3) (by simp [lv4])
      have hb2 := Lib.hid (hb1.setCell (p := ⟨bl, 3, none⟩) hbl0 (.int .i64 v3))
      obtain ⟨hz1, c1, f1⟩ : bl < w1.heap.size ∧ w1.cell? ⟨bl, 3, none⟩ = some (.int .i64 0) ∧ w1.frozen? ⟨bl, 3, none⟩ = false := ⟨hx.1, hx.2.1 3, hx.2.2 3⟩
      have c2 : (w1.setCell ⟨bl, 3, none⟩ (.int .i64 v3)).cell? ⟨bl, 3, none⟩ = some (.int .i64 v3) := hx2.2.1 3
      replace hx2 := Lib.hid hx2
      clear hx hblh hbkh kj hb hb1 hb1r
      by_cases hv : v3 < 0
      · have d1 : decide (v3 < 0) = true := decide_eq_true hv
        go_wp2_with fail
        exact hno (by omega) 0 13 rfl (by decide) hb2.out
      · have d1 : decide (v3 < 0) = false := decide_eq_false hv
        go_wp2_with fail
        go_roundw
        case rel => exact ⟨4, by go_num, by omega, hx2.out, hk1.out, hb2.out, fun _ => p0 (by omega), fun _ => p1 (by omega), fun _ => p2 (by omega), fun _ => by omega⟩
        case measure => simp [intOf]
    · have q0 := p0 (by omega)
      have q1 := p1 (by omega)
      have q2 := p2 (by omega)
      have q3 := p3 (by omega)
      obtain ⟨hlz, l0, l1, l2, l3⟩ : bl < wr.heap.size ∧ wr.cell? ⟨bl, 0, none⟩ = some (.int .i64 v0) ∧ wr.cell? ⟨bl, 1, none⟩ = some (.int .i64 v1) ∧ wr.cell? ⟨bl, 2, none⟩ = some (.int .i64 v2) ∧ wr.cell? ⟨bl, 3, none⟩ = some (.int .i64 v3) := ⟨hbl.1, hbl.2.1 0, hbl.2.1 1, hbl.2.1 2, hbl.2.1 3⟩
      have hbh := Lib.hid hb
      have hblh := Lib.hid hbl
      have hbkh := Lib.hid hbk
      have hSr := Lib.hid (hS.out.of hb)
      clear hbl hbk hb p0 p1 p2 p3 k0 k1 k2 k3
      by_cases he : (v0 = v0 ∧ v1 = v0 ∧ v2 = v0 ∧ v3 = v0)
      · have d1 : decide (v0 = v0 ∧ v1 = v0 ∧ v2 = v0 ∧ v3 = v0) = true := decide_eq_true he
        have n1 := neq_arr4 v0 v1 v2 v3 v0 v0 v0 v0
        rw [d1] at n1
        simp only [Bool.not_true] at n1
        by_cases hm : 256 ≤ v0
        · have d2 : decide (256 ≤ v0) = true := decide_eq_true hm
          clear he d1
          go_wp2_with fail
          exact hno (by omega) 0 18 rfl (by decide) hbh.out
        · have d2 : decide (256 ≤ v0) = false := decide_eq_false hm
          have hqq : 0 ≤ v0 ∧ v0 < 256 ∧ v1 = v0 ∧ v2 = v0 ∧ v3 = v0 := ⟨q0, by omega, he.2⟩
          replace hqq := Lib.hid hqq
          clear he
          clear d1
          have hM := hSr.out.map
          have hok : mkQ4.okK (x0, x1, x2, x3) := ⟨g0 q0, g1 q1, g2 q2, g3 q3⟩
          obtain ⟨hz, b0, b1, b2, b3⟩ := hSr.out.cells
          obtain ⟨hkz, k0, k1, k2, k3⟩ : bk < wr.heap.size ∧ wr.cell? ⟨bk, 0, none⟩ = some (.int .i64 x0) ∧ wr.cell? ⟨bk, 1, none⟩ = some (.int .i64 x1) ∧ wr.cell? ⟨bk, 2, none⟩ = some (.int .i64 x2) ∧ wr.cell? ⟨bk, 3, none⟩ = some (.int .i64 x3) := ⟨hbkh.out.1, hbkh.out.2.1 0, hbkh.out.2.1 1, hbkh.out.2.1 2, hbkh.out.2.1 3⟩
          cases hf : f (x0, x1, x2, x3) with
          | some v =>
            have hlk := MK.At.look_ok hM.drew Tryz.underlying183 hok hf
            rw [show mkQ4.kv (x0, x1, x2, x3) = .agg #[.int .i64 x0, .int .i64 x1, .int .i64 x2, .int .i64 x3] from rfl, show mkQ4.ev ((some v).getD mkQ4.z) = .int .i64 v from rfl] at hlk
            simp only [Option.isSome_some] at hlk
            have hfin : ∀ {e : Ending} {w' : World}, e = .returned (.tuple #[.int .i64 v, .int .i64 0]) → Below w.heap.size w w' → PO e w' := fun he hb => hold v hf he hb
            clear hM hyes hno hold
            go_upto_region 15 with (fail)
            go_region
            all_goals
              go_wp2_with fail
              exact hfin rfl (hbh.out.trans ((Below.refl _ _).drew))
          | none =>
            have hlk := MK.At.look_ok hM.drew Tryz.underlying183 hok hf
            rw [show mkQ4.kv (x0, x1, x2, x3) = .agg #[.int .i64 x0, .int .i64 x1, .int .i64 x2, .int .i64 x3] from rfl, show mkQ4.ev ((none : Option Int).getD mkQ4.z) = .int .i64 0 from rfl] at hlk
            simp only [Option.isSome_none] at hlk
            have hfin : ∀ {e : Ending} {w' : World}, e = .returned (.tuple #[.int .i64 (st + nn), .int .i64 0]) → (∃ NA nc LA lc, QSt w' bs mb st NA (nn + 1) nc LA lc (Q ++ [(x0, x1, x2, x3)]) (ls ++ [v0 + 1]) (putG f (x0, x1, x2, x3) (st + nn))) → Below mb w w' → PO e w' := fun he hs hb => hyes hqq.out hf he hs hb
            have hmb := hS.out.lt
            have hNA : ∀ q, (Value.slice NA nn nc).ownBlock = some q → q < w.heap.size := fun q hq => (hS.out.nodes.row.lt q hq).2
            have hLA : ∀ q, (Value.slice LA nn lc).ownBlock = some q → q < w.heap.size := fun q hq => (hS.out.levels.row.lt q hq).2
            have hJ : QJ w bs mb bk bl st NA nn nc LA nn lc Q ls nn f x0 x1 x2 x3 v0 wr := ⟨hSr.out.box, hSr.out.nodes, hSr.out.levels, hM, hbkh.out, hlz, l0, hbh.out.mono (by omega)⟩
            have dlen : decide (100000 ≤ (nn : Int)) = false := decide_eq_false (by omega)
            have elen : IntKind.i64.wrap (st + (nn : Int)) = st + (nn : Int) := IntWalk.i64_in _ (by omega)
            have evl : IntKind.i64.wrap (v0 + 1) = v0 + 1 := IntWalk.i64_in _ (by omega)
            clear hM hyes hno hold hbkh hblh hSr hbh
            go_upto_region 15 with (fail)
            go_region
            go_wp2_with fail
            go_region
            go_upto_region 21 with (fail)
            obtain ⟨w1, hw1⟩ : ∃ w1, w1 = wr.drew.drew := ⟨_, rfl⟩
            have hJ1 : QJ w bs mb bk bl st NA nn nc LA nn lc Q ls nn f x0 x1 x2 x3 v0 w1 := by rw [hw1]; exact hJ.of ((Below.refl _ _).drew).drew
            rw [← hw1]
            clear hw1 hJ hz b0 b1 b2 b3 hkz k0 k1 k2 k3 l0 l1 l2 l3 hlz hlk
            have kA : ∀ (A5 : Option Addr) (c5 : Nat) (w5 : World), Own encQd 4 69 (bs + 1) w5 A5 (nn + 1) c5 (Q ++ [(x0, x1, x2, x3)]) → (w1.drew.alloc (.cells #[.int .i64 x0, .int .i64 x1, .int .i64 x2, .int .i64 x3] 69)).grownBy w5 (Value.slice NA nn nc).ownBlock →
                w5.cell? ⟨bs, 1, none⟩ = some (.slice NA nn nc) ∧ w5.frozen? ⟨bs, 1, none⟩ = false ∧ Hid (QJ w bs mb bk bl st A5 (nn + 1) c5 LA nn lc (Q ++ [(x0, x1, x2, x3)]) ls nn f x0 x1 x2 x3 v0 (w5.setCell ⟨bs, 1, none⟩ (.slice A5 (nn + 1) c5))) := fun A5 c5 w5 g1 g2 => by
              obtain ⟨a1, a2, a3⟩ := (hJ1.of (Below.refl _ _).drew).node hmb hbsw hbk0 hbl0 hNA g1 g2
              exact ⟨a1, a2, Lib.hid a3⟩
            obtain ⟨hz, b0, b1, b2, b3⟩ : bs < w1.heap.size ∧ w1.cell? ⟨bs, 0, none⟩ = some (.int .i64 st) ∧ w1.cell? ⟨bs, 1, none⟩ = some (.slice NA nn nc) ∧ w1.cell? ⟨bs, 2, none⟩ = some (.slice LA nn lc) ∧ w1.cell? ⟨bs, 3, none⟩ = some (.map (some mb)) := ⟨hJ1.box.1, hJ1.box.2.1 0, hJ1.box.2.1 1, hJ1.box.2.1 2, hJ1.box.2.1 3⟩
            obtain ⟨hkz, k0, k1, k2, k3⟩ : bk < w1.heap.size ∧ w1.cell? ⟨bk, 0, none⟩ = some (.int .i64 x0) ∧ w1.cell? ⟨bk, 1, none⟩ = some (.int .i64 x1) ∧ w1.cell? ⟨bk, 2, none⟩ = some (.int .i64 x2) ∧ w1.cell? ⟨bk, 3, none⟩ = some (.int .i64 x3) := ⟨hJ1.k.1, hJ1.k.2.1 0, hJ1.k.2.1 1, hJ1.k.2.1 2, hJ1.k.2.1 3⟩
            have hN1 := hJ1.nodes.of (Below.refl _ _).drew
            clear hJ1
            go_cut [] from 82 to 92 (fun wx => ∃ A5 c5, QJ w bs mb bk bl st A5 (nn + 1) c5 LA nn lc (Q ++ [(x0, x1, x2, x3)]) ls nn f x0 x1 x2 x3 v0 wx)
            case first =>
              go_region_law
                (refine step_append_el (by rfl) (.tmp 86) (.tmp 89) 44 (by rfl) encQd 4 69 (.agg #[.int .i64 0, .int .i64 0, .int .i64 0, .int .i64 0]) 32 Tryz.underlying44 (by kernel_rfl) rfl (by decide) encQd_len encQd_one (bs + 1) _ _ _ Q (by rfl) (Own.alloc hN1 _) (x0, x1, x2, x3) ⟨w1.heap.size, 0, none⟩ 1 (by rfl) (cells_new w1.drew (encQd (x0, x1, x2, x3)) 69) (by omega) (by omega) (by simp only [World.size_alloc, World.size_drew]; omega) ?_; intro A5 c5 w5 hown5 hg5 hb5; obtain ⟨o5, fo5, hfJ⟩ := kA A5 c5 w5 hown5 hg5)
              all_goals
                go_wp2_with fail
                go_meet
                exact ⟨_, _, hfJ.out⟩
            case rest =>
              clear kA hN1 hz b0 b1 b2 b3 hkz k0 k1 k2 k3
              obtain ⟨A2, c2, hJ2⟩ := hcut
              have kA : ∀ (A5 : Option Addr) (c5 : Nat) (w5 : World), Own encI 1 3 (bs + 1) w5 A5 (nn + 1) c5 (ls ++ [v0 + 1]) → (wc.drew.alloc (.cells #[.int .i64 (v0 + 1)] 3)).grownBy w5 (Value.slice LA nn lc).ownBlock →
                  w5.cell? ⟨bs, 2, none⟩ = some (.slice LA nn lc) ∧ w5.frozen? ⟨bs, 2, none⟩ = false ∧ Hid (QJ w bs mb bk bl st A2 (nn + 1) c2 A5 (nn + 1) c5 (Q ++ [(x0, x1, x2, x3)]) (ls ++ [v0 + 1]) nn f x0 x1 x2 x3 v0 (w5.setCell ⟨bs, 2, none⟩ (.slice A5 (nn + 1) c5))) := fun A5 c5 w5 g1 g2 => by
                obtain ⟨a1, a2, a3⟩ := (hJ2.of (Below.refl _ _).drew).level hmb hbsw hbk0 hbl0 hLA g1 g2
                exact ⟨a1, a2, Lib.hid a3⟩
              obtain ⟨hz, b2⟩ : bs < wc.heap.size ∧ wc.cell? ⟨bs, 2, none⟩ = some (.slice LA nn lc) := ⟨hJ2.box.1, hJ2.box.2.1 2⟩
              have l0 := hJ2.l
              have lz := hJ2.lz
              have hN1 := hJ2.levels.of (Below.refl _ _).drew
              clear hJ2
              go_upto_region 22 with (fail)
              go_cut [] from 93 to 104 (fun wx => ∃ A5 c5, QJ w bs mb bk bl st A2 (nn + 1) c2 A5 (nn + 1) c5 (Q ++ [(x0, x1, x2, x3)]) (ls ++ [v0 + 1]) nn f x0 x1 x2 x3 v0 wx)
              case first =>
                go_region_law
                  (refine step_append_el (by rfl) (.tmp 97) (.tmp 101) 91 (by rfl) encI 1 3 (.int .i64 0) 8 Tryz.underlying91 (by kernel_rfl) rfl (by decide) encI_len encI_one (bs + 1) _ _ _ ls (by rfl) (Own.alloc hN1 _) (v0 + 1) ⟨wc.heap.size, 0, none⟩ 1 (by rfl) (cells_new wc.drew (encI (v0 + 1)) 3) (by omega) (by omega) (by simp only [World.size_alloc, World.size_drew]; omega) ?_; intro A5 c5 w5 hown5 hg5 hb5; obtain ⟨o5, fo5, hfJ⟩ := kA A5 c5 w5 hown5 hg5)
                all_goals
                  go_wp2_with fail
                  go_meet
                  exact ⟨_, _, hfJ.out⟩
              case rest =>
                clear kA hN1 hz b2 l0 lz
                obtain ⟨A3, c3, hJ3⟩ := hcut
                rename_i wd
                obtain ⟨w6, hrun, hAt, hg⟩ := MK.At.put_run hJ3.map.drew Tryz.underlying183 (by omega) hok (st + (nn : Int))
                rw [show mkQ4.kv (x0, x1, x2, x3) = .agg #[.int .i64 x0, .int .i64 x1, .int .i64 x2, .int .i64 x3] from rfl, show mkQ4.ev (st + (nn : Int)) = .int .i64 (st + (nn : Int)) from rfl] at hrun
                obtain ⟨hz, b3⟩ : bs < wc.heap.size ∧ wc.cell? ⟨bs, 3, none⟩ = some (.map (some mb)) := ⟨hJ3.box.1, hJ3.box.2.1 3⟩
                obtain ⟨hkz, k0, k1, k2, k3⟩ : bk < wc.heap.size ∧ wc.cell? ⟨bk, 0, none⟩ = some (.int .i64 x0) ∧ wc.cell? ⟨bk, 1, none⟩ = some (.int .i64 x1) ∧ wc.cell? ⟨bk, 2, none⟩ = some (.int .i64 x2) ∧ wc.cell? ⟨bk, 3, none⟩ = some (.int .i64 x3) := ⟨hJ3.k.1, hJ3.k.2.1 0, hJ3.k.2.1 1, hJ3.k.2.1 2, hJ3.k.2.1 3⟩
                have hJd := hJ3.of (Below.refl _ _).drew
                have hQ : QSt w6 bs mb st A2 (nn + 1) c2 A3 c3 (Q ++ [(x0, x1, x2, x3)]) (ls ++ [v0 + 1]) (putG f (x0, x1, x2, x3) (st + nn)) := ⟨hJd.box.grown hg (fun e => by injection e with e; omega), hJd.nodes.over2 hg (fun q hq e => by injection e with e; have := (hJd.nodes.row.lt q hq).1; omega), hJd.levels.over2 hg (fun q hq e => by injection e with e; have := (hJd.levels.row.lt q hq).1; omega), hAt, hmb⟩
                have hB6 : Below mb w w6 := below_grow hJd.b hg (fun q e => by injection e with e; omega) (by omega)
                replace hQ := Lib.hid hQ
                clear hJ3 hJd hAt hg
                go_upto_region 23 with (fail)
                go_region
                all_goals
                  go_wp2_with fail
                  exact hfin rfl ⟨_, _, _, _, hQ.out⟩ hB6
      · have d1 : decide (v0 = v0 ∧ v1 = v0 ∧ v2 = v0 ∧ v3 = v0) = false := decide_eq_false he
        have n1 := neq_arr4 v0 v1 v2 v3 v0 v0 v0 v0
        rw [d1] at n1
        simp only [Bool.not_false] at n1
        have hF : ¬ (0 ≤ v0 ∧ v0 < 256 ∧ v1 = v0 ∧ v2 = v0 ∧ v3 = v0) := fun k => he ⟨rfl, k.2.2⟩
        replace hF := Lib.hid hF
        clear d1 he
        go_wp2_with fail
        exact hno hF.out 0 18 rfl (by decide) hbh.out
end
end Go.Proofs.YtmenokhnanghgaaGreat
