/- totaltree.build's visiting: what it holds in memory. -/
import Derived.Test.YtellglbmbocgkaaGreatDoorLifA
import Derived.Test.YtellglbmbocgkaaGreatDoorLifK
import Derived.Test.YtellglbmbocgkaaGreatDoorLifP
import Derived.Test.YtellglbmbocgkaaGreatDoorOwnO
namespace Go.Proofs.YtellglbmbocgkaaGreatDoor
open Go Go.RowKit
set_option linter.unusedSimpArgs false
set_option linter.unusedVariables false
set_option maxRecDepth 100000
set_option linter.unusedSimpArgs false
set_option linter.unusedVariables false
def ekT : EK (Int × Option Addr × Nat × Nat) (Int × List Int) where
  enc := encN
  k := 2
  len := encN_len
  one := encN_one
  pos := by omega
  rel w a x := (a.1 = x.1 ∧ Rd encI 1 w a.2.1 a.2.2.1 x.2 ∧ a.2.2.1 ≤ a.2.2.2) ∧ ∀ q ∈ blkH a.2, ∃ cur fz, w.heap[q]? = some (.cells cur 3 fz)
  blk a := blkH a.2
  keep h hg hr := ⟨⟨h.1.1, h.1.2.1.grown hg hr, h.1.2.2⟩, fun q hq => by
    obtain ⟨cur, fz, e⟩ := h.2 q hq
    exact ⟨cur, fz, (hg.block q (h.1.2.1.blk_lt q hq) (hr q hq)).trans e⟩⟩
  lt h := h.1.2.1.blk_lt
section
variable {w w' : World} {bs : List (Int × List Int)} {A KA : Option Addr} {n c B B' kn kc : Nat} {P : Nat → Prop} {l : List Int}
theorem OwnO.nodes (h : OwnO ekT 101 B P w A n c bs) : RdX ekN w A n bs := by
  obtain ⟨xs0, h1, h2, h3⟩ := h
  exact ⟨xs0, h1.rd encN_len, h2.1, fun i a b ha hb => (h2.2 i a b ha hb).1⟩
theorem Own.typed {γ : Type} {enc : γ → List Value} {k : Nat} {e : TypeId} {m : List γ} (h : Own enc k e B w A n c m) : ∀ q, (Value.slice A n c).ownBlock = some q → ∃ cur fz, w.heap[q]? = some (.cells cur e fz) := by
  intro q hq
  rcases h.row.2 with ⟨h0, _⟩ | ⟨g, cap, cur, hv, _, hh, _⟩
  · rw [h0] at hq; cases hq
  · rw [hv] at hq
    have e2 : g = q := by injection hq
    subst e2
    exact ⟨_, _, hh⟩
theorem OwnO.growU (h : OwnO ekT 101 B P w A n c bs) (hk : Own encU 1 5 B' w KA kn kc l) (hg : w.grownBy w' (Value.slice KA kn kc).ownBlock) : OwnO ekT 101 B P w' A n c bs := by
  have hap := h.apart hk (by decide)
  obtain ⟨xs0, h1, h2, h3⟩ := h
  refine ⟨xs0, h1.over2 hg (fun q hq e => hap.1 q hq e), ⟨h2.1, fun i a b ha hb => ekT.keep (h2.2 i a b ha hb) hg (fun q hq e => ?_)⟩, h3⟩
  obtain ⟨cur, fz, e1⟩ := (h2.2 i a b ha hb).2 q hq
  obtain ⟨cur', fz', e2⟩ := hk.typed q e.symm
  rw [e1] at e2
  injection e2 with e2
  injection e2 with _ h5
  exact absurd h5 (by decide)
end
theorem Fr2.cell {R : Nat → Prop} {w w' : World} (h : Fr2 R w w') {q i : Nat} (hq : q < w.heap.size) (hn : ¬ R q) : w'.cell? ⟨q, i, none⟩ = w.cell? ⟨q, i, none⟩ := World.cell?_of_block (h.block q hq hn)
theorem BxW.fr2 {w w' : World} {b : Nat} {vs : List Value} {R : Nat → Prop} (h : BxW w b vs) (hf : Fr2 R w w') (hr : ¬ R b) : BxW w' b vs := by
  have hbl := hf.block b h.1 hr
  exact ⟨Nat.lt_of_lt_of_le h.1 hf.size, fun i => (World.cell?_of_block hbl).trans (h.2.1 i), fun i => (World.frozen?_of_block hbl).trans (h.2.2 i)⟩
def visV (b0 : Nat) : Value := .func (.func 169) #[] #[.pointer (some ⟨b0 + 1, 0, none⟩), .pointer (some ⟨b0 + 4, 0, none⟩), .pointer (some ⟨b0 + 8, 0, none⟩), .pointer (some ⟨b0, 0, none⟩), .pointer (some ⟨b0 + 11, 0, none⟩), .pointer (some ⟨b0 + 3, 0, none⟩), .pointer (some ⟨b0 + 10, 0, none⟩), .pointer (some ⟨b0 + 6, 0, none⟩)]
structure VB (b0 xb cb : Nat) (XA YA ZA : Option Addr) (xa ya za : Nat) (W1 : World) : Prop where
  sz : W1.heap.size = b0
  cc : W1.cell? ⟨cb, 0, none⟩ = some (.int .i64 4)
  cl : cb < b0
  x : BxW W1 xb [.slice XA 9 xa, .int .i64 2, .slice YA 1 ya, .slice ZA 2 za]
  y : Rd encI 1 W1 YA 1 [3]
  z : Rd encI 1 W1 ZA 2 [2, 3]
structure VC (b0 xb cb : Nat) (LA : Option Addr) (lc : Nat) (W1 w : World) : Prop where
  base : Below b0 W1 w
  sz : b0 + 12 ≤ w.heap.size
  st : w.cell? ⟨b0, 0, none⟩ = some (.int .i64 2)
  l : w.cell? ⟨b0 + 1, 0, none⟩ = some (.slice LA 9 lc)
  sp : w.cell? ⟨b0 + 3, 0, none⟩ = some (.func (.func 115) #[] #[.pointer (some ⟨cb, 0, none⟩)])
  e : w.cell? ⟨b0 + 4, 0, none⟩ = some (.func (.func 116) #[] #[.pointer (some ⟨xb, 0, none⟩)])
  s : w.cell? ⟨b0 + 8, 0, none⟩ = some (.map (some (b0 + 7)))
  i : w.cell? ⟨b0 + 10, 0, none⟩ = some (.map (some (b0 + 9)))
  v : w.cell? ⟨b0 + 11, 0, none⟩ = some (visV b0)
theorem VC.keep {b0 xb cb : Nat} {LA : Option Addr} {lc : Nat} {W1 w w' : World} {R : Nat → Prop} (h : VC b0 xb cb LA lc W1 w) (hf : Fr2 R w w') (hR : ∀ q, R q → q = b0 + 6 ∨ q = b0 + 7 ∨ q = b0 + 9 ∨ b0 + 12 ≤ q) : VC b0 xb cb LA lc W1 w' := by
  have hs := h.sz
  have hz := hf.size
  have k : ∀ q i, q < b0 + 12 → q ≠ b0 + 6 → q ≠ b0 + 7 → q ≠ b0 + 9 → w'.cell? ⟨q, i, none⟩ = w.cell? ⟨q, i, none⟩ := fun q i h1 h2 h3 h4 => hf.cell (by omega) (fun e => by have := hR q e; omega)
  refine ⟨h.base.trans (hf.below (by omega) (fun q e => by have := hR q e; omega)), by omega, ?_, ?_, ?_, ?_, ?_, ?_, ?_⟩
  · rw [k _ _ (by omega) (by omega) (by omega) (by omega)]; exact h.st
  · rw [k _ _ (by omega) (by omega) (by omega) (by omega)]; exact h.l
  · rw [k _ _ (by omega) (by omega) (by omega) (by omega)]; exact h.sp
  · rw [k _ _ (by omega) (by omega) (by omega) (by omega)]; exact h.e
  · rw [k _ _ (by omega) (by omega) (by omega) (by omega)]; exact h.s
  · rw [k _ _ (by omega) (by omega) (by omega) (by omega)]; exact h.i
  · rw [k _ _ (by omega) (by omega) (by omega) (by omega)]; exact h.v
structure VSt (b0 : Nat) (LA : Option Addr) (lc : Nat) (P : Nat → Prop) (w : World) (NA : Option Addr) (nn nc : Nat) (s : BSt) : Prop where
  t : BxW w (b0 + 6) [.int .i64 2, .slice LA 9 lc, .slice NA nn nc]
  o : OwnO ekT 101 (b0 + 12) P w NA nn nc (s.2.map nd2)
  sm : mkPl.At (b0 + 7) s.1.length (fSn s.1) w
  im : mkSt.At (b0 + 9) s.2.length (fId s.2) w
  ok : OkS s
def LocV (w : World) (OA : Option Addr) (m oc : Nat) (A' : Option Addr) (m' c' : Nat) : Prop := (Value.slice A' m' c').ownBlock = (Value.slice OA m oc).ownBlock ∨ ∃ g, (Value.slice A' m' c').ownBlock = some g ∧ w.heap.size ≤ g
def RV (b0 : Nat) (NA : Option Addr) (nn nc : Nat) : Nat → Prop := fun q => q = b0 + 6 ∨ q = b0 + 7 ∨ q = b0 + 9 ∨ (Value.slice NA nn nc).ownBlock = some q
def PV (P : Nat → Prop) (nb : Nat) (E2 : Option Addr) (t r : Nat) : Nat → Prop := fun q => P q ∨ q = nb ∨ (Value.slice E2 t r).ownBlock = some q
structure VR (b0 xb cb : Nat) (LA : Option Addr) (lc : Nat) (W1 : World) (P : Nat → Prop) (w w' : World) (NA : Option Addr) (nn nc : Nat) (NB : Option Addr) (mm mc : Nat) (s : BSt) : Prop where
  s : VSt b0 LA lc P w' NB mm mc s
  c : VC b0 xb cb LA lc W1 w'
  f : Fr2 (RV b0 NA nn nc) w w'
  l : LocV w NA nn nc NB mm mc
section
variable {b0 xb cb : Nat} {LA : Option Addr} {lc : Nat} {W1 : World} {P : Nat → Prop} {w w' wr : World} {NA NB : Option Addr} {nn nc mm mc : Nat} {s : BSt}
theorem VSt.own (h : VSt b0 LA lc P w NA nn nc s) : ∀ q, (Value.slice NA nn nc).ownBlock = some q → b0 + 12 ≤ q ∧ q < w.heap.size := h.o.lt
theorem VSt.of (h : VSt b0 LA lc P w NA nn nc s) (hb : Below w.heap.size w w') : VSt b0 LA lc P w' NA nn nc s := ⟨h.t.of hb, h.o.of hb, h.sm.of hb, h.im.of hb, h.ok⟩
theorem VC.of (h : VC b0 xb cb LA lc W1 w) (hb : Below w.heap.size w w') : VC b0 xb cb LA lc W1 w' := h.keep ((Fr2.here w (fun _ => False)).of hb) (fun q e => e.elim)
theorem VR.look (h : VSt b0 LA lc P w NA nn nc s) (hc : VC b0 xb cb LA lc W1 w) (hb : Below w.heap.size w w') : VR b0 xb cb LA lc W1 P w w' NA nn nc NA nn nc s :=
  ⟨h.of hb, hc.of hb, (Fr2.here _ _).of hb, .inl rfl⟩
end
structure VL (b0 xb cb : Nat) (LA : Option Addr) (lc : Nat) (W1 : World) (P : Nat → Prop) (w : World) (NA : Option Addr) (nn nc k o c : Nat) (lv : Int) (wr : World) (OB : Option Addr) (m1 o1 : Nat) (E2 : Option Addr) (t r : Nat) (KA : Option Addr) (kn kc : Nat) (st : BSt × List Int × List UInt8) : Prop where
  p : BxW wr w.heap.size [.int .i64 (k : Int), .int .i64 (o : Int), .int .i64 (c : Int)]
  x : BxW wr (w.heap.size + 1) [.int .i64 lv, .slice E2 t r]
  e : Own encI 1 3 (w.heap.size + 2) wr E2 t r st.2.1
  u : Own encU 1 5 (w.heap.size + 2) wr KA kn kc (byI st.2.2)
  s : VSt b0 LA lc (PV P (w.heap.size + 1) E2 t r) wr OB m1 o1 st.1
  c : VC b0 xb cb LA lc W1 wr
  f : Fr2 (RV b0 NA nn nc) w wr
  l : LocV w NA nn nc OB m1 o1
  off0 : OffB OB m1 o1 w.heap.size
  off1 : OffB OB m1 o1 (w.heap.size + 1)
section
variable {b0 xb cb : Nat} {LA : Option Addr} {lc : Nat} {W1 : World} {P : Nat → Prop} {w w' wr : World} {NA OB E2 KA : Option Addr} {nn nc k o c m1 o1 t r kn kc : Nat} {lv : Int} {st : BSt × List Int × List UInt8}
theorem VL.of (h : VL b0 xb cb LA lc W1 P w NA nn nc k o c lv wr OB m1 o1 E2 t r KA kn kc st) (hb : Below wr.heap.size wr w') : VL b0 xb cb LA lc W1 P w NA nn nc k o c lv w' OB m1 o1 E2 t r KA kn kc st :=
  ⟨h.p.of hb, h.x.of hb, h.e.of hb, h.u.of hb, h.s.of hb, h.c.of hb, h.f.of hb, h.l, h.off0, h.off1⟩
theorem VL.call (h : VL b0 xb cb LA lc W1 P w NA nn nc k o c lv wr OB m1 o1 E2 t r KA kn kc st) (hw : b0 + 12 ≤ w.heap.size) (hNA : ∀ q, (Value.slice NA nn nc).ownBlock = some q → q < w.heap.size) {w2 : World} {O2 : Option Addr} {m2 o2 : Nat} {q : BSt} (kR : VR b0 xb cb LA lc W1 (PV P (w.heap.size + 1) E2 t r) wr w2 OB m1 o1 O2 m2 o2 q) :
    VL b0 xb cb LA lc W1 P w NA nn nc k o c lv w2 O2 m2 o2 E2 t r KA kn kc (q, st.2) := by
  obtain ⟨k1, k2, k3, k4⟩ := kR
  have hp := h.p.1
  have hx := h.x.1
  have hs := h.f.size
  refine ⟨h.p.fr2 k3 (fun e => ?_), h.x.fr2 k3 (fun e => ?_), h.e.fr2 k3 (fun g hg e => ?_), h.u.fr2 k3 (fun g hg e => ?_), k1, k2, h.f.then k3 (fun g hg e => ?_), ?_, fun g hg => ?_, fun g hg => ?_⟩
  · rcases e with e | e | e | e
    · omega
    · omega
    · omega
    · exact h.off0 _ e rfl
  · rcases e with e | e | e | e
    · omega
    · omega
    · omega
    · exact h.off1 _ e rfl
  · have h1 := (h.e.row.lt g hg)
    rcases e with e | e | e | e
    · omega
    · omega
    · omega
    · exact (h.s.o.apart h.e (by decide)).1 g e hg
  · have h1 := (h.u.row.lt g hg)
    rcases e with e | e | e | e
    · omega
    · omega
    · omega
    · exact (h.s.o.apart h.u (by decide)).1 g e hg
  · rcases e with e | e | e | e
    · exact .inl e
    · exact .inr (.inl e)
    · exact .inr (.inr (.inl e))
    · rcases h.l with hl | ⟨g2, hl, h2⟩
      · exact .inr (.inr (.inr (by rw [← hl]; exact e)))
      · rw [hl] at e; injection e with e; omega
  · rcases k4 with hl | ⟨g2, hl, h2⟩
    · rcases h.l with hl' | ⟨g2, hl', h2⟩
      · exact .inl (hl.trans hl')
      · exact .inr ⟨g2, hl.trans hl', h2⟩
    · exact .inr ⟨g2, hl, by omega⟩
  · rcases k4 with hl | ⟨g2, hl, h2⟩
    · exact h.off0 g (by rw [← hl]; exact hg)
    · rw [hl] at hg; injection hg with hg; omega
  · rcases k4 with hl | ⟨g2, hl, h2⟩
    · exact h.off1 g (by rw [← hl]; exact hg)
    · rw [hl] at hg; injection hg with hg; omega
theorem VL.num (h : VL b0 xb cb LA lc W1 P w NA nn nc k o c lv wr OB m1 o1 E2 t r KA kn kc st) (hw : b0 + 12 ≤ w.heap.size) (hP : ∀ q, P q → q < w.heap.size) {ob : Obj} {w5 : World} {A5 : Option Addr} {c5 : Nat} {y : Int} (hown : Own encI 1 3 (w.heap.size + 2) w5 A5 (t + 1) c5 (st.2.1 ++ [y])) (hg : (wr.alloc ob).grownBy w5 (Value.slice E2 t r).ownBlock)
    (hl : (Value.slice A5 (t + 1) c5).ownBlock = (Value.slice E2 t r).ownBlock ∨ (Value.slice A5 (t + 1) c5).ownBlock = some (wr.alloc ob).heap.size) :
    VL b0 xb cb LA lc W1 P w NA nn nc k o c lv (w5.setCell ⟨w.heap.size + 1, 1, none⟩ (.slice A5 (t + 1) c5)) OB m1 o1 A5 (t + 1) c5 KA kn kc (st.1, st.2.1 ++ [y], st.2.2) := by
  have hs := h.f.size
  have hx := h.x.1
  have hal : Below wr.heap.size wr (wr.alloc ob) := (Below.refl _ _).alloc (Nat.le_refl _) ob
  have ha := h.of hal
  have hne : ∀ g, (Value.slice E2 t r).ownBlock = some g → w.heap.size + 2 ≤ g := fun g hq => (h.e.row.lt g hq).1
  have hsa : (wr.alloc ob).heap.size = wr.heap.size + 1 := by simp
  have key : VL b0 xb cb LA lc W1 P w NA nn nc k o c lv (wr.alloc ob) OB m1 o1 E2 t r KA kn kc st := ha
  have hgS := grownBy_set w5 (w.heap.size + 1) 1 (.slice A5 (t + 1) c5)
  have f1 : Fr2 (fun q => (Value.slice E2 t r).ownBlock = some q ∨ q = w.heap.size + 1) (wr.alloc ob) (w5.setCell ⟨w.heap.size + 1, 1, none⟩ (.slice A5 (t + 1) c5)) :=
    ((Fr2.here _ _).grown hg (fun q e => .inl (.inl e))).grown hgS (fun q e => by injection e with e; exact .inl (.inr e.symm))
  refine ⟨?_, ?_, ?_, ?_, ⟨?_, ?_, ?_, ?_, h.s.ok⟩, ?_, ?_, h.l, h.off0, h.off1⟩
  · exact (ha.p.grown hg (fun e => by have := hne _ e.symm; omega)).off 1 _ (by omega)
  · exact (ha.x.grown hg (fun e => by have := hne _ e.symm; omega)).put 1 _ (by simp)
  · exact hown.setBelow (by omega) _
  · refine (ha.u.over2 hg (fun q hq e => ?_)).setBelow (by omega) _
    exact (ha.u.apart ha.e (by decide)) q hq e
  · exact (ha.s.t.grown hg (fun e => by have := hne _ e.symm; omega)).off 1 _ (by omega)
  · have o1 := ha.s.o.grow (P' := PV P (w.heap.size + 1) A5 (t + 1) c5) hg (fun q hq e => (ha.s.o.apart ha.e (by decide)).1 q hq e) (fun q hq => .inl (.inr (.inr hq))) (fun q hq e => by
      rcases e with e | e | e
      · exact .inl e
      · exact .inr (.inl e)
      · rcases hl with hl | hl
        · rw [hl] at e; exact .inr (.inr e)
        · rw [hl] at e; injection e with e; omega)
    exact o1.grow hgS (fun q hq e => by injection e with e; exact h.off1 q hq e.symm) (fun q e => by injection e with e; exact .inl (.inr (.inl e.symm))) (fun q _ e => e)
  · exact (ha.s.sm.grown hg (fun e => by have := hne _ e.symm; omega)).grown hgS (fun e => by injection e with e; omega)
  · exact (ha.s.im.grown hg (fun e => by have := hne _ e.symm; omega)).grown hgS (fun e => by injection e with e; omega)
  · exact ha.c.keep f1 (fun q e => by
      rcases e with e | e
      · have := hne q e; omega
      · omega)
  · exact ha.f.then f1 (fun q hq e => by
      rcases e with e | e
      · have := hne q e; omega
      · omega)
theorem VL.txt (h : VL b0 xb cb LA lc W1 P w NA nn nc k o c lv wr OB m1 o1 E2 t r KA kn kc st) (hw : b0 + 12 ≤ w.heap.size) {w5 : World} {A5 : Option Addr} {n5 c5 : Nat} {l5 : List UInt8} (hown : Own encU 1 5 (w.heap.size + 2) w5 A5 n5 c5 (byI l5)) (hg : wr.grownBy w5 (Value.slice KA kn kc).ownBlock) :
    VL b0 xb cb LA lc W1 P w NA nn nc k o c lv w5 OB m1 o1 E2 t r A5 n5 c5 (st.1, st.2.1, l5) := by
  have hs := h.f.size
  have hne : ∀ g, (Value.slice KA kn kc).ownBlock = some g → w.heap.size + 2 ≤ g := fun g hq => (h.u.row.lt g hq).1
  have f1 : Fr2 (fun q => (Value.slice KA kn kc).ownBlock = some q) wr w5 := (Fr2.here _ _).grown hg (fun q e => .inl e)
  refine ⟨h.p.grown hg (fun e => by have := hne _ e.symm; omega), h.x.grown hg (fun e => by have := hne _ e.symm; omega), h.e.over2 hg (fun q hq e => (h.e.apart h.u (by decide)) q hq e), hown,
    ⟨h.s.t.grown hg (fun e => by have := hne _ e.symm; omega), h.s.o.growU h.u hg, h.s.sm.grown hg (fun e => by have := hne _ e.symm; omega), h.s.im.grown hg (fun e => by have := hne _ e.symm; omega), h.s.ok⟩,
    h.c.keep f1 (fun q e => by have := hne q e; omega), h.f.then f1 (fun q hq e => by have := hne q e; omega), h.l, h.off0, h.off1⟩
theorem VL.hit (h : VL b0 xb cb LA lc W1 P w NA nn nc k o c lv wr OB m1 o1 E2 t r KA kn kc st) {w9 : World} {p : Pl} {i : Nat} (hsm : mkPl.At (b0 + 7) (st.1.1.length + 1) (putG (fSn st.1.1) (plI p) (i : Int)) w9) (hg : wr.grownBy w9 (some (b0 + 7))) (hok : OkS ((p, i) :: st.1.1, st.1.2)) :
    VR b0 xb cb LA lc W1 P w w9 NA nn nc OB m1 o1 ((p, i) :: st.1.1, st.1.2) := by
  have f1 : Fr2 (fun q => q = b0 + 7) wr w9 := (Fr2.here _ _).grown hg (fun q e => by injection e with e; exact .inl e.symm)
  refine ⟨⟨h.s.t.grown hg (fun e => by injection e with e; omega), h.s.o.grow (P' := P) hg (fun q hq e => by injection e with e; have := (h.s.own q hq).1; omega) (fun q e => by injection e with e; exact .inr (by omega)) (fun q hq e => .inl e), by rw [fSn_cons]; exact hsm, h.s.im.grown hg (fun e => by injection e with e; omega), hok⟩,
    h.c.keep f1 (fun q e => .inr (.inl e)), h.f.then f1 (fun q hq e => .inr (.inl e)), h.l⟩
structure VN (b0 xb cb : Nat) (LA : Option Addr) (lc : Nat) (W1 : World) (P : Nat → Prop) (w : World) (NA : Option Addr) (nn nc k o c : Nat) (wS : World) (A8 : Option Addr) (m8 c8 : Nat) (KA : Option Addr) (kn kc : Nat) (s : BSt) (tx : List UInt8) (N : List Nd) : Prop where
  p : BxW wS w.heap.size [.int .i64 (k : Int), .int .i64 (o : Int), .int .i64 (c : Int)]
  u : Own encU 1 5 (w.heap.size + 2) wS KA kn kc (byI tx)
  t : BxW wS (b0 + 6) [.int .i64 2, .slice LA 9 lc, .slice A8 m8 c8]
  o : OwnO ekT 101 (b0 + 12) P wS A8 m8 c8 N
  sm : mkPl.At (b0 + 7) s.1.length (fSn s.1) wS
  im : mkSt.At (b0 + 9) s.2.length (fId s.2) wS
  c : VC b0 xb cb LA lc W1 wS
  f : Fr2 (RV b0 NA nn nc) w wS
  l : LocV w NA nn nc A8 m8 c8
theorem VL.node (h : VL b0 xb cb LA lc W1 P w NA nn nc k o c lv wr OB m1 o1 E2 t r KA kn kc st) (hw : b0 + 12 ≤ w.heap.size) {ob : Obj} {w8 : World} {A8 : Option Addr} {c8 : Nat} {N : List Nd} (hO8 : OwnO ekT 101 (b0 + 12) P w8 A8 (m1 + 1) c8 N) (hg : (wr.alloc ob).grownBy w8 (Value.slice OB m1 o1).ownBlock)
    (hl : (Value.slice A8 (m1 + 1) c8).ownBlock = (Value.slice OB m1 o1).ownBlock ∨ (Value.slice A8 (m1 + 1) c8).ownBlock = some (wr.alloc ob).heap.size) :
    VN b0 xb cb LA lc W1 P w NA nn nc k o c (w8.setCell ⟨b0 + 6, 2, none⟩ (.slice A8 (m1 + 1) c8)) A8 (m1 + 1) c8 KA kn kc st.1 st.2.2 N := by
  have hs := h.f.size
  have hal : Below wr.heap.size wr (wr.alloc ob) := (Below.refl _ _).alloc (Nat.le_refl _) ob
  have ha := h.of hal
  have hsa : (wr.alloc ob).heap.size = wr.heap.size + 1 := by simp
  have hne : ∀ g, (Value.slice OB m1 o1).ownBlock = some g → b0 + 12 ≤ g ∧ g < wr.heap.size := fun g hq => h.s.own g hq
  have hgS := grownBy_set w8 (b0 + 6) 2 (.slice A8 (m1 + 1) c8)
  have f1 : Fr2 (fun q => (Value.slice OB m1 o1).ownBlock = some q ∨ q = b0 + 6) (wr.alloc ob) (w8.setCell ⟨b0 + 6, 2, none⟩ (.slice A8 (m1 + 1) c8)) :=
    ((Fr2.here _ _).grown hg (fun q e => .inl (.inl e))).grown hgS (fun q e => by injection e with e; exact .inl (.inr e.symm))
  refine ⟨?_, ?_, ?_, ?_, ?_, ?_, ?_, ?_, ?_⟩
  · exact (ha.p.grown hg (fun e => h.off0 _ e.symm rfl)).off 2 _ (by omega)
  · refine (ha.u.over2 hg (fun q hq e => ?_)).setBelow (by omega) _
    exact (ha.s.o.apart ha.u (by decide)).2 q hq e
  · exact (ha.s.t.grown hg (fun e => by have := hne _ e.symm; omega)).put 2 _ (by simp)
  · exact hO8.grow (P' := P) hgS (fun q hq e => by injection e with e; have := (hO8.lt q hq).1; omega) (fun q e => by injection e with e; exact .inr (by omega)) (fun q _ e => e)
  · exact (ha.s.sm.grown hg (fun e => by have := hne _ e.symm; omega)).grown hgS (fun e => by injection e with e; omega)
  · exact (ha.s.im.grown hg (fun e => by have := hne _ e.symm; omega)).grown hgS (fun e => by injection e with e; omega)
  · exact ha.c.keep f1 (fun q e => by
      rcases e with e | e
      · exact .inr (.inr (.inr (hne q e).1))
      · exact .inl e)
  · exact ha.f.then f1 (fun q hq e => by
      rcases e with e | e
      · rcases h.l with h1 | ⟨g, h1, h2⟩
        · exact .inr (.inr (.inr (by rw [← h1]; exact e)))
        · rw [h1] at e; injection e with e; omega
      · exact .inl e)
  · rcases hl with hl | hl
    · rcases h.l with h1 | ⟨g, h1, h2⟩
      · exact .inl (hl.trans h1)
      · exact .inr ⟨g, hl.trans h1, h2⟩
    · exact .inr ⟨_, hl, by omega⟩
theorem VN.at9 {A8 : Option Addr} {m8 c8 : Nat} {s : BSt} {tx : List UInt8} {N : List Nd} {wS : World} (h : VN b0 xb cb LA lc W1 P w NA nn nc k o c wS A8 m8 c8 KA kn kc s tx N) (hw : b0 + 12 ≤ w.heap.size) {w9 : World} (hg : wS.grownBy w9 (some (b0 + 9))) :
    w9.cell? ⟨b0 + 8, 0, none⟩ = some (.map (some (b0 + 7))) ∧ w9.cell? ⟨w.heap.size, 0, none⟩ = some (.int .i64 (k : Int)) ∧ w9.cell? ⟨w.heap.size, 1, none⟩ = some (.int .i64 (o : Int)) ∧ w9.cell? ⟨w.heap.size, 2, none⟩ = some (.int .i64 (c : Int)) ∧ mkPl.At (b0 + 7) s.1.length (fSn s.1) w9 ∧ w.heap.size < w9.heap.size := by
  have hc : VC b0 xb cb LA lc W1 w9 := h.c.keep ((Fr2.here wS (fun q => q = b0 + 9)).grown hg (fun q e => by injection e with e; exact .inl e.symm)) (fun q e => .inr (.inr (.inl e)))
  have hp := h.p.grown hg (fun e => by injection e with e; omega)
  exact ⟨hc.s, hp.2.1 0, hp.2.1 1, hp.2.1 2, h.sm.grown hg (fun e => by injection e with e; omega), hp.1⟩
theorem VN.done {A8 : Option Addr} {m8 c8 : Nat} {s : BSt} {tx : List UInt8} {N : List Nd} {wS : World} (h : VN b0 xb cb LA lc W1 P w NA nn nc k o c wS A8 m8 c8 KA kn kc s tx N) {w9 w10 : World} {p : Pl} {x : Nd2} {i : Nat} (him : mkSt.At (b0 + 9) (s.2.length + 1) (putG (fId s.2) (kyN x) (i : Int)) w9) (hg9 : wS.grownBy w9 (some (b0 + 9)))
    (hsm : mkPl.At (b0 + 7) (s.1.length + 1) (putG (fSn s.1) (plI p) (i : Int)) w10) (hg10 : w9.grownBy w10 (some (b0 + 7))) (hi : s.2.length = i) (hlv : okLv s.2) (hx : x.1 ≤ 9) (hidx : idxN s.2 x = none) (hN : N = (s.2 ++ [x]).map nd2) (hok : OkS ((p, i) :: s.1, s.2 ++ [x])) :
    VR b0 xb cb LA lc W1 P w w10 NA nn nc A8 m8 c8 ((p, i) :: s.1, s.2 ++ [x]) := by
  have f1 : Fr2 (fun q => q = b0 + 9 ∨ q = b0 + 7) wS w10 := ((Fr2.here _ _).grown hg9 (fun q e => by injection e with e; exact .inl (.inl e.symm))).grown hg10 (fun q e => by injection e with e; exact .inl (.inr e.symm))
  refine ⟨⟨(h.t.grown hg9 (fun e => by injection e with e; omega)).grown hg10 (fun e => by injection e with e; omega), ?_, by rw [fSn_cons]; exact hsm, ?_, hok⟩, h.c.keep f1 (fun q e => by rcases e with e | e; exact .inr (.inr (.inl e)); exact .inr (.inl e)), h.f.then f1 (fun q hq e => by rcases e with e | e; exact .inr (.inr (.inl e)); exact .inr (.inl e)), h.l⟩
  · have o1 := h.o.grow (P' := P) hg9 (fun q hq e => by injection e with e; have := (h.o.lt q hq).1; omega) (fun q e => by injection e with e; exact .inr (by omega)) (fun q _ e => e)
    have o2 := o1.grow (P' := P) hg10 (fun q hq e => by injection e with e; have := (h.o.lt q hq).1; omega) (fun q e => by injection e with e; exact .inr (by omega)) (fun q _ e => e)
    rw [hN] at o2
    exact o2
  · rw [fId_snoc hlv hx hidx, hi, List.length_append]
    exact him.grown hg10 (fun e => by injection e with e; omega)
end
theorem conv_str {w : World} {A : Option Addr} {n c : Nat} {l : List UInt8} (h : Rd encU 1 w A n (byI l)) (hn : 0 < n) : (convert 229 9 (.slice A n c)).run Tryz.prog w = .ok (.string ⟨l.toArray⟩) w := by
  obtain ⟨b, o, rfl, hb, hc⟩ := h.2 hn
  have hl : l.length = n := by
    have := h.1
    unfold byI at this
    rw [List.length_map] at this
    exact this
  subst hl
  refine run_convert_bytes_back (P := Tryz.prog) w _ _ 5 ⟨b, o, none⟩ c l Tryz.underlying229 Tryz.underlying5 Tryz.underlying9 ?_
  intro j hj
  have h1 := hc j ((l[j].toNat : Int)) (by unfold byI; rw [List.getElem?_map, List.getElem?_eq_getElem hj]; rfl) 0 _ rfl
  rw [Nat.mul_one, Nat.add_zero] at h1
  unfold Addr.add
  split
  · rename_i h0
    subst h0
    exact h1
  · exact h1
end Go.Proofs.YtellglbmbocgkaaGreatDoor
