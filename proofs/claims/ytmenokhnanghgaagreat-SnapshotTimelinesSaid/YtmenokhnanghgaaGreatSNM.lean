/- Rows of bytes and of bools: how they read, how they are stored into. Over any program. A map from four numbers to numbers that the program makes; reading and storing as equations. Boxes that may be written. Over any program. Slices whose elements lead to memory, where the elements' blocks keep away from blocks that are still written. Over any program. A store of quadtrees in memory; its Level. -/
import Derived.Test.YtmenokhnanghgaaGreatSNO
import Derived.Test.YtmenokhnanghgaaGreatMEM
import Derived.Laws.BitsAllLaws
import Derived.Test.YtmenokhnanghgaaGreatMAP
import Derived.BigQuiet
set_option linter.unusedSimpArgs false
set_option linter.unusedVariables false
section
namespace Go.Proofs.YtmenokhnanghgaaGreat
open Go Go.RowKit
def encU (x : Int) : List Value := [.int .u8 x]
def encL (b : Bool) : List Value := [.bool b]
theorem encU_len (x : Int) : (encU x).length = 1 := rfl
theorem encL_len (x : Bool) : (encL x).length = 1 := rfl
theorem encU_one : ∀ y, ∀ u ∈ encU y, u.oneCell' = true := by intro y u hu; simp [encU] at hu; subst hu; rfl
theorem encL_one : ∀ y, ∀ u ∈ encL y, u.oneCell' = true := by intro y u hu; simp [encL] at hu; subst hu; rfl
/-- A list of bytes. -/
def ByL (l : List Int) : Prop := ∀ x ∈ l, 0 ≤ x ∧ x ≤ 255
theorem byL_pk (T : List Bool) : ByL (pkB T) := fun x hx => pkB_mem hx
section
variable {w : World} {A : Option Addr} {n c : Nat} {l : List Int} {bl : List Bool}
theorem Rd.byte (h : Rd encU 1 w A n l) {i : Nat} (hi : i < n) : ∃ x b o, Hid (l[i]? = some x) ∧ A = some ⟨b, o, none⟩ ∧ b < w.heap.size ∧ w.cell? ⟨b, o + i, none⟩ = some (.int .u8 x) := by
  obtain ⟨x, b, o, h1, h2, h3, h4⟩ := h.elem hi
  exact ⟨x, b, o, h1, h2, h3, by simpa using h4 0 _ rfl⟩
theorem Rd.bool_ (h : Rd encL 1 w A n bl) {i : Nat} (hi : i < n) : ∃ x b o, Hid (bl[i]? = some x) ∧ A = some ⟨b, o, none⟩ ∧ b < w.heap.size ∧ w.cell? ⟨b, o + i, none⟩ = some (.bool x) := by
  obtain ⟨x, b, o, h1, h2, h3, h4⟩ := h.elem hi
  exact ⟨x, b, o, h1, h2, h3, by simpa using h4 0 _ rfl⟩
variable {e : TypeId} {B g : Nat}
theorem Own.at0 {α : Type} {enc : α → List Value} {k : Nat} {l : List α} (h : Own enc k e B w A n c l) (hn : 0 < n) : ∃ g, A = some ⟨g, 0, none⟩ := by
  rcases h.row.2 with ⟨_, h0⟩ | ⟨g, cap, cur, hv, _⟩
  · omega
  · injection hv with h1 _ _; exact ⟨g, h1⟩
theorem Own.byteCell (h : Own encU 1 e B w (some ⟨g, 0, none⟩) n c l) {i : Nat} (hi : i < n) : ∃ x, Hid (l[i]? = some x) ∧ g < w.heap.size ∧ w.cell? ⟨g, i, none⟩ = some (.int .u8 x) ∧ w.frozen? ⟨g, i, none⟩ = false ∧ cellOf w ⟨g, i, none⟩ = some (.int .u8 x) ∧ frozenOf w ⟨g, i, none⟩ = false := by
  obtain ⟨x, b, o, h1, h2, h3, h4⟩ := (h.rd encU_len).byte hi
  injection h2 with h2
  injection h2 with h2 h5
  subst h2 h5
  rw [Nat.zero_add] at h4
  exact ⟨x, h1, h3, h4, h.row.frozenAt i, h4, h.row.frozenAt i⟩
theorem own_setU (h : Own encU 1 e B w (some ⟨g, 0, none⟩) n c l) {i : Nat} (hi : i < n) (x : Int) : Own encU 1 e B (w.setCell ⟨g, i, none⟩ (.int .u8 x)) (some ⟨g, 0, none⟩) n c (l.set i x) := by
  refine own_stored h i _ (by simp [h.len]) ?_
  have hl : i < l.length := by rw [h.len]; exact hi
  rw [flatMap_set encU_len l i x hl]
  have hz : i < (l.flatMap encU).length := by rw [flatMap_len encU_len]; omega
  rw [Nat.mul_one]
  rw [List.set_eq_take_append_cons_drop, if_pos hz]
  simp [encU]
end
/-- The bit of a number, as the walk reckons it. -/
theorem and_one (v k : Nat) (hv : v < 18446744073709551616) : bits .and .u64 ((v : Int) / 2 ^ k) 1 = (((v.testBit k).toNat : Nat) : Int) := by
  have h1 : (v : Int) / 2 ^ k = ((v / 2 ^ k : Nat) : Int) := by
    rw [Int.natCast_ediv]; norm_cast
  have h2 : v / 2 ^ k < 18446744073709551616 := Nat.lt_of_le_of_lt (Nat.div_le_self _ _) hv
  rw [h1]
  have := u64_and_nat (v / 2 ^ k) 1 h2 (by decide)
  rw [show ((1 : Nat) : Int) = 1 from rfl] at this
  rw [this, nat_mask1, Nat.testBit_eq_decide_div_mod_eq]
  rcases Nat.mod_two_eq_zero_or_one (v / 2 ^ k) with h | h <;> rw [h] <;> rfl
theorem shr_128 (r : Nat) : (128 : Int) / (2 : Int) ^ r = ((128 >>> r : Nat) : Int) := by
  rw [Nat.shiftRight_eq_div_pow]
  rw [Int.natCast_ediv]; norm_cast
theorem or_u8 (a b : Nat) (ha : a < 256) (hb : b < 256) : bits .or .u8 (a : Int) (b : Int) = ((a ||| b : Nat) : Int) := u8_or_nat a b ha hb
end Go.Proofs.YtmenokhnanghgaaGreat
end
section
namespace Go.Proofs.YtmenokhnanghgaaGreat
open Go Go.RowKit
set_option maxRecDepth 100000
theorem q4_row : (67 : TypeId) < Tryz.prog.types.size := of_decide_eq_true (by kernel_rfl)
theorem q4_wide : (match Tryz.prog.underlying 67 with | some (.array _ _) | some (.struct _) => true | _ => false) = true := by rw [Tryz.underlying67]
theorem q4_keyed : Maps.Keyed Tryz.prog 67 := Maps.Keyed.of_law (deep_law_laid laidOutM (m := 2) (by omega) q4_row (by kernel_rfl) q4_wide)
def q4V (x : Int × Int × Int × Int) : Value := .agg #[.int .i64 x.1, .int .i64 x.2.1, .int .i64 x.2.2.1, .int .i64 x.2.2.2]
theorem q4V_inj (x y : Int × Int × Int × Int) (h : q4V x = q4V y) : x = y := by
  unfold q4V at h
  simp at h
  obtain ⟨h1, h2, h3, h4⟩ := h
  exact Prod.ext h1 (Prod.ext h2 (Prod.ext h3 h4))
theorem q4_key {x y z t : Int} (hx : I64 x) (hy : I64 y) (hz : I64 z) (ht : I64 t) : ∃ kl, keyOf Tryz.prog 67 (q4V (x, y, z, t)) = some kl := by
  have hk : Tryz.prog.keyType 67 = true := by kernel_rfl
  have hc : Tryz.prog.cellsOf 67 = 4 := by kernel_rfl
  have hf : (Value.agg #[.int .i64 x, .int .i64 y, .int .i64 z, .int .i64 t]).formed Tryz.prog 67 = true := by simp [Value.formed, Tryz.underlying67, hc]
  obtain ⟨d, hd⟩ : ∃ d, Tryz.prog.types.size = d + 1 := ⟨Tryz.prog.types.size - 1, (Nat.succ_pred_eq_of_pos (Nat.lt_of_le_of_lt (Nat.zero_le _) q4_row)).symm⟩
  have k1 : ∀ a, I64 a → Tryz.prog.keyLits (d + 1) 3 [.int .i64 a] = some [.int .i64 a] := fun a ha => by simp [Program.keyLits, Tryz.underlying3, i64_wf ha]
  have h1 : Tryz.prog.cellsOf 3 = 1 := by kernel_rfl
  refine ⟨.string (keyBytes [.int .i64 x, .int .i64 y, .int .i64 z, .int .i64 t]), ?_⟩
  unfold keyOf q4V
  rw [Tryz.underlying67]
  simp only [hk, hf, Bool.and_self, if_true, hd]
  have hl : Tryz.prog.keyLits (d + 1 + 1) 67 [.int .i64 x, .int .i64 y, .int .i64 z, .int .i64 t] = some [.int .i64 x, .int .i64 y, .int .i64 z, .int .i64 t] := by
    unfold Program.keyLits
    simp [Tryz.underlying67, hc, h1, k1 _ hx, k1 _ hy, k1 _ hz, k1 _ ht, List.range, List.range.loop]
  show (Option.map _ (Tryz.prog.keyLits (d + 1 + 1) 67 [.int .i64 x, .int .i64 y, .int .i64 z, .int .i64 t])) = _
  rw [hl]; rfl
theorem q4_keyInv (v : Value) (kl : Lit) (h : keyOf Tryz.prog 67 v = some kl) : ∃ x : Int × Int × Int × Int, (I64 x.1 ∧ I64 x.2.1 ∧ I64 x.2.2.1 ∧ I64 x.2.2.2) ∧ v = q4V x := by
  have hc : Tryz.prog.cellsOf 67 = 4 := by kernel_rfl
  have h1 : Tryz.prog.cellsOf 3 = 1 := by kernel_rfl
  have i64 : ∀ n : Int, (Lit.int .i64 n).wf = true → I64 n := fun n hw => by
    simp [Lit.wf, IntKind.min, IntKind.max, IntKind.signed, IntKind.bits] at hw
    unfold I64; omega
  unfold keyOf at h
  rw [Tryz.underlying67] at h
  simp only at h
  split at h
  case isFalse => cases h
  case isTrue hf =>
    simp only [Bool.and_eq_true] at hf
    cases v with
    | agg cs =>
      obtain ⟨cl⟩ := cs
      have hsz : cl.length = 4 := by
        have h2 := hf.2
        simp [Value.formed, Tryz.underlying67, hc] at h2
        exact h2
      match cl, hsz with
      | [a, b, c, e], _ =>
        obtain ⟨d, hd⟩ : ∃ d, Tryz.prog.types.size = d + 1 := ⟨Tryz.prog.types.size - 1, (Nat.succ_pred_eq_of_pos (Nat.lt_of_le_of_lt (Nat.zero_le _) q4_row)).symm⟩
        rw [hd] at h
        simp only [Option.map_eq_some_iff] at h
        obtain ⟨ls, hl, _⟩ := h
        have hcells : (Value.agg ⟨[a, b, c, e]⟩).cells.toList = [a, b, c, e] := rfl
        rw [hcells] at hl
        unfold Program.keyLits at hl
        simp [Tryz.underlying67, hc, h1, List.range, List.range.loop] at hl
        have key1 : ∀ u, Tryz.prog.keyLits (d + 1) 3 [u] ≠ none → ∃ n, I64 n ∧ u = .int .i64 n := by
          intro u hu
          cases hq : Tryz.prog.keyLits (d + 1) 3 [u] with
          | none => exact absurd hq hu
          | some l =>
            unfold Program.keyLits at hq
            rw [Tryz.underlying3] at hq
            cases u <;> simp at hq
            obtain ⟨⟨rfl, hw⟩, _⟩ := hq
            exact ⟨_, i64 _ hw, rfl⟩
        have ha : Tryz.prog.keyLits (d + 1) 3 [a] ≠ none := fun e1 => by simp [e1] at hl
        obtain ⟨xa, hxa⟩ := Option.ne_none_iff_exists'.1 ha
        have hb : Tryz.prog.keyLits (d + 1) 3 [b] ≠ none := fun e1 => by simp [hxa, e1] at hl
        obtain ⟨xb, hxb⟩ := Option.ne_none_iff_exists'.1 hb
        have hcc : Tryz.prog.keyLits (d + 1) 3 [c] ≠ none := fun e1 => by simp [hxa, hxb, e1] at hl
        obtain ⟨xc, hxc⟩ := Option.ne_none_iff_exists'.1 hcc
        have he : Tryz.prog.keyLits (d + 1) 3 [e] ≠ none := fun e1 => by simp [hxa, hxb, hxc, e1] at hl
        obtain ⟨n1, i1, rfl⟩ := key1 _ ha
        obtain ⟨n2, i2, rfl⟩ := key1 _ hb
        obtain ⟨n3, i3, rfl⟩ := key1 _ hcc
        obtain ⟨n4, i4, rfl⟩ := key1 _ he
        exact ⟨(n1, n2, n3, n4), ⟨i1, i2, i3, i4⟩, rfl⟩
    | _ => simp [Value.formed, Tryz.underlying67] at hf
/-- From four numbers to numbers. -/
def mkQ4 : MK Tryz.prog 67 3 (Int × Int × Int × Int) Int where
  K := q4_keyed
  kv := q4V
  okK x := I64 x.1 ∧ I64 x.2.1 ∧ I64 x.2.2.1 ∧ I64 x.2.2.2
  key x hx := q4_key hx.1 hx.2.1 hx.2.2.1 hx.2.2.2
  keyInv := q4_keyInv
  kInj := q4V_inj
  ev := Value.int .i64
  eInj x y h := by injection h
  z := 0
  zero w := Tryz.zeroValue3 w
section
variable {P : Program} {k e : TypeId} {κ ε : Type} {M : MK P k e κ ε} {b n : Nat} {f : κ → Option ε} {w : World}
/-- 'v, ok := m[x]' as an equation. -/
theorem MK.At.look_ok (h : M.At b n f w) {t : TypeId} (ht : P.underlying t = some (.map k e)) {u : κ} (hu : M.okK u) {r : Option ε} (hr : f u = r) : (Instr.lookup t (.map (some b)) (M.kv u) true).run P w = .ok (.tuple #[M.ev (r.getD M.z), .bool r.isSome]) w := by
  obtain ⟨D, h1, h2⟩ := h
  obtain ⟨kl, hkl⟩ := M.key u hu
  obtain ⟨h3, h4⟩ := h2.get hkl hr
  obtain ⟨v, ps, hrun, hv⟩ := h1.look_ok M.K ht (M.zero w) (M.R_ev _) hkl
  obtain ⟨c, rfl, hc⟩ := M.R_inv hv
  injection hc with hc _
  rw [h4] at hc
  injection hc with hc
  rw [hrun, h3, ← hc]
/-- 'm[x] = v' as an equation. -/
theorem MK.At.put_run [DecidableEq κ] (h : M.At b n f w) {t : TypeId} (ht : P.underlying t = some (.map k e)) (hn : n < 1000000000) {u : κ} (hu : M.okK u) (s : ε) : ∃ w', (Instr.mapUpdate t (.map (some b)) (M.kv u) (M.ev s)).run P w = .ok () w' ∧ M.At b (n + 1) (putG f u s) w' ∧ w.grownBy w' (some b) := by
  obtain ⟨D, h1, h2⟩ := h
  obtain ⟨kl, hkl⟩ := M.key u hu
  obtain ⟨w', hrun, g1, g2⟩ := h1.update M.K ht (by unfold maxLen; omega) hkl (M.R_ev s)
  exact ⟨w', hrun, ⟨_, g1, h2.put h1.isMap hkl s⟩, g2⟩
end
end Go.Proofs.YtmenokhnanghgaaGreat
end
section
namespace Go.Proofs.YtmenokhnanghgaaGreat
open Go Go.RowKit
theorem grownBy_set (W : World) (b i : Nat) (v : Value) : W.grownBy (W.setCell ⟨b, i, none⟩ v) (some b) := by
  exact ⟨rfl, rfl, rfl, by simp, fun k _ hk => Below.heap_setCell _ _ _ k (fun e => hk (by rw [e]))⟩
theorem frozen_setCell_if (w : World) (b i b' i' : Nat) (v : Value) : (w.setCell ⟨b, i, none⟩ v).frozen? ⟨b', i', none⟩ = w.frozen? ⟨b', i', none⟩ := by
  simp [go_sem]
/-- Block b holds these cells and may be written. -/
def BxW (w : World) (b : Nat) (vs : List Value) : Prop := b < w.heap.size ∧ (∀ i, w.cell? ⟨b, i, none⟩ = vs[i]?) ∧ ∀ i, w.frozen? ⟨b, i, none⟩ = false
section
variable {w w' : World} {b b2 : Nat} {vs : List Value} {x y z u v v0 v1 v2 v3 : Value}
theorem BxW.new (w : World) (cs : List Value) (t : TypeId) : BxW (w.alloc (.cells cs.toArray t)) w.heap.size cs :=
  ⟨by simp, fun i => by rw [cell_alloc_if, if_neg (by omega), if_pos rfl]; simp, fun i => by rw [frozen_alloc_if, if_neg (by omega)]⟩
theorem BxW.drew (h : BxW w b vs) : BxW w.drew b vs := h
theorem BxW.of (h : BxW w b vs) (hb : Below w.heap.size w w') : BxW w' b vs :=
  ⟨Nat.lt_of_lt_of_le h.1 hb.size, fun i => (hb.cell (p := ⟨b, i, none⟩) h.1).trans (h.2.1 i), fun i => (hb.frozen (p := ⟨b, i, none⟩) h.1).trans (h.2.2 i)⟩
theorem BxW.grown {row : Option Nat} (h : BxW w b vs) (hg : w.grownBy w' row) (hne : some b ≠ row) : BxW w' b vs := by
  have hbl := hg.block b h.1 hne
  exact ⟨Nat.lt_of_lt_of_le h.1 hg.size, fun i => (World.cell?_of_block hbl).trans (h.2.1 i), fun i => (World.frozen?_of_block hbl).trans (h.2.2 i)⟩
theorem BxW.off (h : BxW w b vs) (i : Nat) (v : Value) (hb : b2 ≠ b) : BxW (w.setCell ⟨b2, i, none⟩ v) b vs := h.grown (grownBy_set w b2 i v) (fun e => hb (by injection e with e; exact e.symm))
theorem BxW.put (h : BxW w b vs) (i : Nat) (v : Value) (hi : i < vs.length) : BxW (w.setCell ⟨b, i, none⟩ v) b (vs.set i v) := by
  refine ⟨by rw [World.size_setCell]; exact h.1, fun j => ?_, fun j => by rw [frozen_setCell_if]; exact h.2.2 j⟩
  rw [cell_setCell_if, List.getElem?_set]
  by_cases e : i = j
  · subst e
    rw [if_pos ⟨rfl, rfl⟩, if_pos rfl, h.2.1, List.getElem?_eq_getElem hi, if_pos hi]; rfl
  · rw [if_neg (fun k => e k.2), if_neg e]; exact h.2.1 j
theorem BxW.open2 (h : BxW w b [x, y]) : b < w.heap.size ∧ w.cell? ⟨b, 0, none⟩ = some x ∧ w.cell? ⟨b, 1, none⟩ = some y ∧ w.frozen? ⟨b, 0, none⟩ = false ∧ w.frozen? ⟨b, 1, none⟩ = false :=
  ⟨h.1, h.2.1 0, h.2.1 1, h.2.2 0, h.2.2 1⟩
theorem BxW.open4 (h : BxW w b [v0, v1, v2, v3]) : b < w.heap.size ∧ w.cell? ⟨b, 0, none⟩ = some v0 ∧ w.cell? ⟨b, 1, none⟩ = some v1 ∧ w.cell? ⟨b, 2, none⟩ = some v2 ∧ w.cell? ⟨b, 3, none⟩ = some v3 ∧ w.frozen? ⟨b, 0, none⟩ = false ∧ w.frozen? ⟨b, 1, none⟩ = false ∧ w.frozen? ⟨b, 2, none⟩ = false ∧ w.frozen? ⟨b, 3, none⟩ = false :=
  ⟨h.1, h.2.1 0, h.2.1 1, h.2.1 2, h.2.1 3, h.2.2 0, h.2.2 1, h.2.2 2, h.2.2 3⟩
theorem BxW.cap (h : BxW w b vs) (k : w.frozen? ⟨b, 0, none⟩ = true) : False := by rw [h.2.2] at k; cases k
end
end Go.Proofs.YtmenokhnanghgaaGreat
end
section
namespace Go.Proofs.YtmenokhnanghgaaGreat
open Go Go.RowKit
section
variable {α β : Type} {K : EK α β} {w w' : World} {bs : List β} {A : Option Addr} {n c B : Nat} {e : TypeId} {row : Option Nat} {P P' : Nat → Prop}
/-- A row of the call's own of elements that lead to blocks from B on, none of them the row itself, and none in P. -/
def OwnO (K : EK α β) (e : TypeId) (B : Nat) (P : Nat → Prop) (w : World) (A : Option Addr) (n c : Nat) (bs : List β) : Prop := ∃ xs0, Own K.enc K.k e B w A n c xs0 ∧ K.All w xs0 bs ∧ ∀ a ∈ xs0, ∀ q ∈ K.blk a, some q ≠ (Value.slice A n c).ownBlock ∧ ¬ P q ∧ B ≤ q
theorem OwnO.toX (g : OwnO K e B P w A n c bs) : OwnX K e B w A n c bs := by
  obtain ⟨xs0, h1, h2, h3⟩ := g
  exact ⟨xs0, h1, h2, fun a ha q hq => (h3 a ha q hq).1⟩
theorem OwnO.nil_ : OwnO K e B P w none 0 0 ([] : List β) := ⟨[], Own.nil_, EK.All.nil_, fun a ha => by cases ha⟩
theorem OwnO.of (g : OwnO K e B P w A n c bs) (hb : Below w.heap.size w w') : OwnO K e B P w' A n c bs := by
  obtain ⟨xs0, h1, h2, h3⟩ := g
  exact ⟨xs0, h1.of hb, h2.of hb, h3⟩
theorem OwnO.len (g : OwnO K e B P w A n c bs) : bs.length = n := g.toX.len
theorem OwnO.rd (g : OwnO K e B P w A n c bs) : RdX K w A n bs := g.toX.rd
theorem OwnO.lt (g : OwnO K e B P w A n c bs) : ∀ q, (Value.slice A n c).ownBlock = some q → B ≤ q ∧ q < w.heap.size := by
  obtain ⟨xs0, h1, _, _⟩ := g
  intro q hq
  exact h1.row.lt q hq
theorem OwnO.weak (g : OwnO K e B P w A n c bs) (h : ∀ q, q < w.heap.size → P' q → P q) : OwnO K e B P' w A n c bs := by
  obtain ⟨xs0, h1, h2, h3⟩ := g
  exact ⟨xs0, h1, h2, fun a ha q hq => ⟨(h3 a ha q hq).1, fun hp => (h3 a ha q hq).2.1 (h q (h2.lt a ha q hq) hp), (h3 a ha q hq).2.2⟩⟩
/-- A row in P grows, or a block in P is written. -/
theorem OwnO.grow (g : OwnO K e B P w A n c bs) (hg : w.grownBy w' row) (hne : ∀ q, (Value.slice A n c).ownBlock = some q → row ≠ some q) (hP : ∀ q, row = some q → P q ∨ q < B) (hP' : ∀ q, q < w.heap.size → P' q → P q) : OwnO K e B P' w' A n c bs := by
  obtain ⟨xs0, h1, h2, h3⟩ := g
  refine ⟨xs0, ⟨h1.row.kept hg ?_, h1.len⟩, h2.keep hg fun a ha q hq er => ?_, fun a ha q hq => ⟨(h3 a ha q hq).1, fun hp => (h3 a ha q hq).2.1 (hP' q (h2.lt a ha q hq) hp), (h3 a ha q hq).2.2⟩⟩
  · cases ho : (Value.slice A n c).ownBlock with
    | none => exact .inl rfl
    | some q => exact .inr fun e1 => hne q ho e1.symm
  · rcases hP q er.symm with h | h
    · exact (h3 a ha q hq).2.1 h
    · have := (h3 a ha q hq).2.2; omega
/-- Two rows of different types are apart. -/
theorem Own.apart {γ δ : Type} {enc : γ → List Value} {enc' : δ → List Value} {k k' : Nat} {e e' : TypeId} {B B' n n' c c' : Nat} {A A' : Option Addr} {l : List γ} {l' : List δ} (h : Own enc k e B w A n c l) (h' : Own enc' k' e' B' w A' n' c' l') (hee : e ≠ e') :
    ∀ q, (Value.slice A n c).ownBlock = some q → (Value.slice A' n' c').ownBlock ≠ some q := by
  intro q h1 h2
  rcases h.row.2 with ⟨h0, _⟩ | ⟨g, cap, cur, hv, _, hh, _⟩
  · rw [h0] at h1; cases h1
  · rcases h'.row.2 with ⟨h0, _⟩ | ⟨g', cap', cur', hv', _, hh', _⟩
    · rw [h0] at h2; cases h2
    · rw [hv] at h1; rw [hv'] at h2
      have e1 : g = q := by injection h1
      have e2 : g' = q := by injection h2
      subst e1 e2
      rw [hh] at hh'
      injection hh' with hh'
      injection hh' with _ h5
      exact hee h5
theorem OwnO.apart {γ : Type} {enc' : γ → List Value} {k' : Nat} {e' : TypeId} {B' n' c' : Nat} {A' : Option Addr} {l' : List γ} (h : OwnO K e B P w A n c bs) (h' : Own enc' k' e' B' w A' n' c' l') (hee : e ≠ e') :
    (∀ q, (Value.slice A n c).ownBlock = some q → (Value.slice A' n' c').ownBlock ≠ some q) ∧ ∀ q, (Value.slice A' n' c').ownBlock = some q → (Value.slice A n c).ownBlock ≠ some q := by
  obtain ⟨xs0, h1, _, _⟩ := h
  exact ⟨h1.apart h' hee, h'.apart h1 (fun e1 => hee e1.symm)⟩
/-- A row of the call's own over the growth of another. -/
theorem Own.over2 {γ : Type} {enc : γ → List Value} {k : Nat} {e : TypeId} {B n c : Nat} {A : Option Addr} {l : List γ} (h : Own enc k e B w A n c l) (hg : w.grownBy w' row) (hne : ∀ q, (Value.slice A n c).ownBlock = some q → row ≠ some q) : Own enc k e B w' A n c l := by
  refine ⟨h.row.kept hg ?_, h.len⟩
  cases ho : (Value.slice A n c).ownBlock with
  | none => exact .inl rfl
  | some q => exact .inr fun e1 => hne q ho e1.symm
theorem Own.capO {γ : Type} {enc : γ → List Value} {k : Nat} {e : TypeId} {B n c : Nat} {A : Option Addr} {l : List γ} (h : Own enc k e B w A n c l) : n ≤ c := by
  rcases h.row.2 with ⟨h0, h1⟩ | ⟨g, cap, cur, hv, _, _, h1, _⟩
  · injection h0 with _ h2 h3; omega
  · injection hv with _ h2 h3; omega
/-- An elder row and a younger one. -/
theorem Own.young {γ δ : Type} {enc : γ → List Value} {enc' : δ → List Value} {k k' : Nat} {e e' : TypeId} {B B' n n' c c' : Nat} {w1 w2 : World} {A A' : Option Addr} {l : List γ} {l' : List δ} (h : Own enc k e B w1 A n c l) (h' : Own enc' k' e' B' w2 A' n' c' l') (hB : w1.heap.size ≤ B') :
    (∀ q, (Value.slice A n c).ownBlock = some q → (Value.slice A' n' c').ownBlock ≠ some q) ∧ ∀ q, (Value.slice A' n' c').ownBlock = some q → (Value.slice A n c).ownBlock ≠ some q :=
  ⟨fun q h1 h2 => by have := (h.row.lt q h1).2; have := (h'.row.lt q h2).1; omega, fun q h1 h2 => by have := (h.row.lt q h2).2; have := (h'.row.lt q h1).1; omega⟩
theorem OwnO.cap (g : OwnO K e B P w A n c bs) : n ≤ c := by
  obtain ⟨xs0, h1, _, _⟩ := g
  rcases h1.row.2 with ⟨h0, h⟩ | ⟨g, cap, cur, hv, _, _, h, _⟩
  · injection h0 with _ h2 h3; omega
  · injection hv with _ h2 h3; omega
end
section
variable {α β : Type} {K : EK α β} {P : Program} {w : World} {ops : Array Oper} {rest : List Oper} {o : Oper} {a : Act} {Q : Exit → Act → World → Prop}
/-- append of one element onto such a row. -/
theorem wpList_append_o {Pr : Nat → Prop} (hgd : o.guard = none) (s x : Operand) (t : TypeId)
    (ho : o.op = .call { callee := .builtin .append, args := #[s, x], argTypes := #[t, t] })
    (e : TypeId) (z : Value) (bytes : Nat) (ht : P.underlying t = some (.slice e)) (hi : (P.info? e).map (fun i => (i.zero, i.size, i.bytes)) = some (some z, K.k, bytes)) (hzs : z.cells.size = K.k)
    (B : Nat) (A : Option Addr) (n c : Nat) (bs : List β) (hs : a.eval s = .slice A n c) (hown : OwnO K e B Pr w A n c bs)
    (y : α) (b : β) (hrel : K.rel w y b) (hoff : ∀ q ∈ K.blk y, some q ≠ (Value.slice A n c).ownBlock ∧ ¬ Pr q ∧ B ≤ q) (ad : Addr) (m : Nat) (hx : a.eval x = .slice (some ad) 1 m) (hnews : ∀ j u, (K.enc y)[j]? = some u → w.cell? (ad.add j) = some u)
    (hbytes : (n + 1) * bytes ≤ 140737488355328) (hn : n + 1 ≤ 4611686018427387904) (hbase : B ≤ w.heap.size)
    (h : ∀ A' c' w', OwnO K e B Pr w' A' (n + 1) c' (bs ++ [b]) → w.grownBy w' (Value.slice A n c).ownBlock → Below B w w' → ((Value.slice A' (n + 1) c').ownBlock = (Value.slice A n c).ownBlock ∨ (Value.slice A' (n + 1) c').ownBlock = some w.heap.size) → wpList P ops Q rest (a.put o.dst (.slice A' (n + 1) c')) w') : wpList P ops Q (o :: rest) a w := by
  obtain ⟨xs0, h1, h2, h3⟩ := hown
  refine wpList_append_elL hgd s x t ho K.enc K.k e z bytes ht hi hzs K.pos K.len K.one B A n c xs0 hs h1 y ad m hx hnews hbytes hn hbase ?_
  intro A' c' w' hv hg hgB hloc
  refine h A' c' w' ⟨xs0 ++ [y], hv, (h2.keep hg fun a' ha' q hq => (h3 a' ha' q hq).1).snoc (K.keep hrel hg fun q hq => (hoff q hq).1), ?_⟩ hg hgB hloc
  intro a' ha' q hq
  have key : some q ≠ (Value.slice A n c).ownBlock ∧ ¬ Pr q ∧ B ≤ q ∧ q < w.heap.size := by
    rcases List.mem_append.1 ha' with hm | hm
    · have h4 := h3 a' hm q hq
      exact ⟨h4.1, h4.2.1, h4.2.2, h2.lt a' hm q hq⟩
    · obtain rfl : a' = y := by simpa using hm
      have h4 := hoff q hq
      exact ⟨h4.1, h4.2.1, h4.2.2, K.lt hrel q hq⟩
  refine ⟨?_, key.2.1, key.2.2.1⟩
  rcases hloc with hl | hl
  · rw [hl]; exact key.1
  · rw [hl]; intro e1; injection e1 with e1; have := key.2.2.2; omega
end
/-- Lists of numbers as elements. -/
def ekL : EK (Option Addr × Nat × Nat) (List Int) where
  enc := encH
  k := 1
  len := encH_len
  one := encH_one
  pos := by omega
  rel w h l := Rd encI 1 w h.1 h.2.1 l ∧ h.2.1 ≤ h.2.2
  blk := blkH
  keep h hg hr := ⟨h.1.grown hg hr, h.2⟩
  lt h := h.1.blk_lt
theorem RdX.ints {w : World} {A : Option Addr} {n : Nat} {ls : List (List Int)} (g : RdX ekL w A n ls) {i : Nat} (hi : i < n) : ∃ E m c l b o, Hid (ls[i]? = some l) ∧ A = some ⟨b, o, none⟩ ∧ b < w.heap.size ∧ w.cell? ⟨b, o + i, none⟩ = some (.slice E m c) ∧ Rd encI 1 w E m l ∧ m ≤ c := by
  obtain ⟨x, l, b, o, h1, h2, h3, h4, h5⟩ := g.elem hi
  exact ⟨x.1, x.2.1, x.2.2, l, b, o, h1, h2, h3, by simpa [ekL, encH] using h4 0 _ rfl, h5.1, h5.2⟩
/-- The blocks of a row of the call's own as an element. -/
theorem Own.blk {γ : Type} {enc : γ → List Value} {k : Nat} {e : TypeId} {B n c : Nat} {w : World} {A : Option Addr} {l : List γ} (h : Own enc k e B w A n c l) : ∀ q ∈ blkH (A, n, c), (Value.slice A n c).ownBlock = some q ∧ B ≤ q ∧ q < w.heap.size := by
  intro q hq
  unfold blkH at hq
  split at hq
  · cases hq
  · rcases h.row.2 with ⟨h0, _⟩ | ⟨g, cap, cur, hv, _, _, _⟩
    · injection h0 with h1; subst h1; simp at hq
    · injection hv with h1 h2 h3
      subst h1
      have hq' : q = g := by simpa using hq
      subst hq'
      have h9 : (Value.slice (some (⟨q, 0, none⟩ : Addr)) n c).ownBlock = some q := rfl
      exact ⟨h9, h.row.lt q h9⟩
/-- A world that differs from an elder one in blocks that R takes, and in new blocks. -/
structure Fr2 (R : Nat → Prop) (w w' : World) : Prop where
  os : w'.os = w.os
  tape : w'.tape = w.tape
  output : w'.output = w.output
  size : w.heap.size ≤ w'.heap.size
  block : ∀ q, q < w.heap.size → ¬ R q → w'.heap[q]? = w.heap[q]?
section
variable {w w' w'' : World} {R R' : Nat → Prop} {row : Option Nat} {A : Option Addr} {n c B : Nat} {e : TypeId}
theorem Fr2.here (w : World) (R : Nat → Prop) : Fr2 R w w := ⟨rfl, rfl, rfl, Nat.le_refl _, fun _ _ _ => rfl⟩
theorem Fr2.grown (h : Fr2 R w w') (hg : w'.grownBy w'' row) (hr : ∀ q, row = some q → R q ∨ w.heap.size ≤ q) : Fr2 R w w'' :=
  ⟨hg.os.trans h.os, hg.tape.trans h.tape, hg.output.trans h.output, Nat.le_trans h.size hg.size, fun q hq hn => (hg.block q (Nat.lt_of_lt_of_le hq h.size) (fun e => by rcases hr q e.symm with h1 | h1; exact hn h1; omega)).trans (h.block q hq hn)⟩
theorem Fr2.then (h : Fr2 R w w') (h2 : Fr2 R' w' w'') (hr : ∀ q, q < w.heap.size → R' q → R q) : Fr2 R w w'' :=
  ⟨h2.os.trans h.os, h2.tape.trans h.tape, h2.output.trans h.output, Nat.le_trans h.size h2.size, fun q hq hn => (h2.block q (Nat.lt_of_lt_of_le hq h.size) (fun e => hn (hr q hq e))).trans (h.block q hq hn)⟩
theorem Fr2.of (h : Fr2 R w w') (hb : Below w'.heap.size w' w'') : Fr2 R w w'' := h.grown (grown_of_below hb) (fun q e => by cases e)
theorem Fr2.below (h : Fr2 R w w') (hB : B ≤ w.heap.size) (hr : ∀ q, R q → B ≤ q) : Below B w w' :=
  ⟨h.os, h.tape, h.output, h.size, fun q hq => h.block q (by omega) (fun e => by have := hr q e; omega)⟩
theorem Own.fr2 {γ : Type} {enc : γ → List Value} {k : Nat} {l : List γ} (h : Own enc k e B w A n c l) (hf : Fr2 R w w') (hr : ∀ q, (Value.slice A n c).ownBlock = some q → ¬ R q) : Own enc k e B w' A n c l := by
  refine ⟨⟨h.row.1, ?_⟩, h.len⟩
  rcases h.row.2 with h0 | ⟨g, cap, cur, hv, hg, hh, r⟩
  · exact .inl h0
  · exact .inr ⟨g, cap, cur, hv, hg, (hf.block g (Array.getElem?_eq_some_iff.1 hh).1 (hr g (by rw [hv]; rfl))).trans hh, r⟩
end
end Go.Proofs.YtmenokhnanghgaaGreat
end
section
namespace Go.Proofs.YtmenokhnanghgaaGreat
open Go Go.RowKit
set_option maxRecDepth 100000
def encQd (x : Qd) : List Value := [.int .i64 x.1, .int .i64 x.2.1, .int .i64 x.2.2.1, .int .i64 x.2.2.2]
theorem encQd_len (x : Qd) : (encQd x).length = 4 := rfl
theorem encQd_one : ∀ y, ∀ u ∈ encQd y, u.oneCell' = true := by
  intro y u hu
  simp [encQd] at hu
  rcases hu with rfl | rfl | rfl | rfl <;> rfl
theorem Rd.qd {w : World} {A : Option Addr} {n : Nat} {l : List Qd} (h : Rd encQd 4 w A n l) {i : Nat} (hi : i < n) :
    ∃ x y z t b o, Hid (l[i]? = some (x, y, z, t)) ∧ A = some ⟨b, o, none⟩ ∧ b < w.heap.size ∧ w.cell? ⟨b, o + i * 4, none⟩ = some (.int .i64 x) ∧ w.cell? ⟨b, o + i * 4 + 1, none⟩ = some (.int .i64 y) ∧ w.cell? ⟨b, o + i * 4 + 2, none⟩ = some (.int .i64 z) ∧ w.cell? ⟨b, o + i * 4 + 3, none⟩ = some (.int .i64 t) := by
  obtain ⟨p, b, o, h1, h2, h3, h4⟩ := h.elem hi
  exact ⟨p.1, p.2.1, p.2.2.1, p.2.2.2, b, o, h1, h2, h3, by simpa using h4 0 _ rfl, h4 1 _ rfl, h4 2 _ rfl, h4 3 _ rfl⟩
/-- A store: its box bs, its map's block mb, the nodes, their levels, the map. -/
structure QSt (w : World) (bs mb : Nat) (st : Int) (NA : Option Addr) (nn nc : Nat) (LA : Option Addr) (lc : Nat) (Q : List Qd) (ls : List Int) (f : Int × Int × Int × Int → Option Int) : Prop where
  box : BxW w bs [.int .i64 st, .slice NA nn nc, .slice LA nn lc, .map (some mb)]
  nodes : Own encQd 4 69 (bs + 1) w NA nn nc Q
  levels : Own encI 1 3 (bs + 1) w LA nn lc ls
  map : mkQ4.At mb nn f w
  lt : mb < bs
section
variable {w w' : World} {bs mb : Nat} {st : Int} {NA : Option Addr} {nn nc : Nat} {LA : Option Addr} {lc : Nat} {Q : List Qd} {ls : List Int} {f : Int × Int × Int × Int → Option Int}
theorem QSt.of (h : QSt w bs mb st NA nn nc LA lc Q ls f) (hb : Below w.heap.size w w') : QSt w' bs mb st NA nn nc LA lc Q ls f := ⟨h.box.of hb, h.nodes.of hb, h.levels.of hb, h.map.of hb, h.lt⟩
theorem QSt.cells (h : QSt w bs mb st NA nn nc LA lc Q ls f) : bs < w.heap.size ∧ w.cell? ⟨bs, 0, none⟩ = some (.int .i64 st) ∧ w.cell? ⟨bs, 1, none⟩ = some (.slice NA nn nc) ∧ w.cell? ⟨bs, 2, none⟩ = some (.slice LA nn lc) ∧ w.cell? ⟨bs, 3, none⟩ = some (.map (some mb)) := ⟨h.box.1, h.box.2.1 0, h.box.2.1 1, h.box.2.1 2, h.box.2.1 3⟩
set_option maxHeartbeats 4000000 in
theorem quad_Level (h : QSt w bs mb st NA nn nc LA lc Q ls f) (hst : 2 ≤ st ∧ st ≤ 8) (hnn : nn ≤ 100000) (id : Int) :
    Calls Tryz.prog 136 #[.pointer (some ⟨bs, 0, none⟩), .int .i64 id] w fun e w' => e = .returned (.int .i64 (qlv st ls id)) ∧ Below w.heap.size w w' := by
  obtain ⟨hz, b0, b1, b2, b3⟩ := h.cells
  have hL := h.levels.rd encI_len
  have hll := h.levels.len
  clear h
  by_cases h1 : id < 0
  · have d1 : decide (id < 0) = true := decide_eq_true h1
    rw [qlv_out (.inl h1)]
    go_enter Tryz.func136, Tryz.ntmps136
    go_upto_region 1 with (fail)
    go_quiet (fail)
    go_wp2_with fail
    go_ret
    exact ⟨rfl, by (repeat' (first | exact Below.refl _ _ | assumption | (refine Below.alloc ?_ ?_ _) | (refine Below.setCell ?_ ?_ _) | (refine Below.drew ?_) | (refine below_drewN ?_ _) | (refine below_after (Ext.below _) ?_ ?_) | (refine below_after (by assumption) ?_ ?_) | (simp; done) | omega | (simp; omega)))⟩
  · have d1 : decide (id < 0) = false := decide_eq_false h1
    have e1 : IntKind.i64.wrap (st + (nn : Int)) = st + (nn : Int) := IntWalk.i64_in _ (by omega)
    by_cases h2 : st + (nn : Int) ≤ id
    · have d2 : decide (st + (nn : Int) ≤ id) = true := decide_eq_true h2
      rw [qlv_out (.inr (by rw [hll]; exact h2))]
      go_enter Tryz.func136, Tryz.ntmps136
      go_upto_region 1 with (fail)
      go_quiet (fail)
      go_wp2_with fail
      go_ret
      exact ⟨rfl, by (repeat' (first | exact Below.refl _ _ | assumption | (refine Below.alloc ?_ ?_ _) | (refine Below.setCell ?_ ?_ _) | (refine Below.drew ?_) | (refine below_drewN ?_ _) | (refine below_after (Ext.below _) ?_ ?_) | (refine below_after (by assumption) ?_ ?_) | (simp; done) | omega | (simp; omega)))⟩
    · have d2 : decide (st + (nn : Int) ≤ id) = false := decide_eq_false h2
      by_cases h3 : id < st
      · have d3 : decide (id < st) = true := decide_eq_true h3
        rw [qlv_leaf (by omega) h3]
        go_enter Tryz.func136, Tryz.ntmps136
        go_upto_region 1 with (fail)
        go_quiet (fail)
        go_wp2_with fail
        go_ret
        exact ⟨rfl, by (repeat' (first | exact Below.refl _ _ | assumption | (refine Below.alloc ?_ ?_ _) | (refine Below.setCell ?_ ?_ _) | (refine Below.drew ?_) | (refine below_drewN ?_ _) | (refine below_after (Ext.below _) ?_ ?_) | (refine below_after (by assumption) ?_ ?_) | (simp; done) | omega | (simp; omega)))⟩
      · have d3 : decide (id < st) = false := decide_eq_false h3
        obtain ⟨j, hj⟩ : ∃ j : Nat, id = st + (j : Int) := ⟨(id - st).toNat, by omega⟩
        have e2 : IntKind.i64.wrap (id - st) = (j : Int) := by rw [IntWalk.i64_in _ (by omega)]; omega
        obtain ⟨v, b, o, g1, rfl, hb, c0⟩ := hL.int (show j < nn by omega)
        rw [qlv_node hj (by omega) g1.out]
        have hjn : j < nn := by omega
        clear hj hL h1 h2 h3
        go_enter Tryz.func136, Tryz.ntmps136
        go_upto_region 1 with (fail)
        go_quiet (fail)
        go_upto_region 5 with (fail)
        go_quiet (fail)
        go_wp2_with fail
        go_ret
        exact ⟨rfl, by (repeat' (first | exact Below.refl _ _ | assumption | (refine Below.alloc ?_ ?_ _) | (refine Below.setCell ?_ ?_ _) | (refine Below.drew ?_) | (refine below_drewN ?_ _) | (refine below_after (Ext.below _) ?_ ?_) | (refine below_after (by assumption) ?_ ?_) | (simp; done) | omega | (simp; omega)))⟩
end
end Go.Proofs.YtmenokhnanghgaaGreat
end
