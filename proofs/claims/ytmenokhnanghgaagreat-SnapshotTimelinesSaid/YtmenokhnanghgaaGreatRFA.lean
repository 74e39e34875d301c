/- The reference's bits: Digits, Glue, Code, Extend. The reference's bits: Glue. By mkrfb.py. The reference's bits: Code. The reference's writer in memory: its bits, each an element, and whether an error was met. The reference's writer: add, Bits, Gamma, Fold, Signed. -/
import Derived.Test.YtmenokhnanghgaaGreatBIO
import Derived.Test.YtmenokhnanghgaaGreatProg
import Derived.Test.YtmenokhnanghgaaGreatMEM
import Derived.Deep.OwnRows
import Derived.Test.YtmenokhnanghgaaGreatSNA
import Derived.Deep.RegionHeld3
set_option linter.unusedSimpArgs false
set_option linter.unusedVariables false
section
namespace Go.Proofs.YtmenokhnanghgaaGreat
open Go Go.RowKit
set_option maxRecDepth 100000
set_option maxHeartbeats 8000000 in
theorem ref02_Digits (v n : Nat) (w : World) (hv : v < 18446744073709551616) (hn : n ≤ 64) :
    Calls Tryz.prog 120 #[.int .u64 (v : Int), .int .i64 (n : Int)] w fun e w' => ∃ A' c', e = .returned (.slice A' n c') ∧ Own encL 1 4 w.heap.size w' A' n c' (digB n v) ∧ Below w.heap.size w w' := by
  have q0 : IntKind.i64.wrap ((n : Int) - 1) = (n : Int) - 1 := IntWalk.i64_in _ (by omega)
  go_enter Tryz.func120, Tryz.ntmps120
  go_wp2_with fail
  go_loopw [5, 6] (fun a i wr => ∃ (j : Nat) (A1 : Option Addr) (c1 : Nat), a = .slice A1 j c1 ∧ i = .int .i64 ((n : Int) - 1 - (j : Int)) ∧ j ≤ n ∧ Own encL 1 4 w.heap.size wr A1 j c1 ((digB n v).take j) ∧ Below w.heap.size w wr) (fun a i _ => (intOf i + 1).toNat)
  case atStart => exact ⟨0, none, 0, rfl, by go_num, by omega, Own.nil_, Below.refl _ _⟩
  case round =>
    obtain ⟨j, A1, c1, rfl, rfl, hj, hO, hB⟩ := hrel
    have hz := hB.size
    by_cases hlt : j < n
    · have dj : decide ((0 : Int) ≤ (n : Int) - 1 - (j : Int)) = true := decide_eq_true (by omega)
      have hT := digB_take (v := v) hlt
      have hbit := and_one v (n - 1 - j) hv
      obtain ⟨sh, hsh⟩ : ∃ sh, sh = n - 1 - j := ⟨_, rfl⟩
      have q1 : (n : Int) - 1 - (j : Int) = (sh : Int) := by omega
      have q2 : IntKind.i64.wrap ((sh : Int) - 1) = (sh : Int) - 1 := IntWalk.i64_in _ (by omega)
      have q4 : (sh : Int) - 1 = (n : Int) - 1 - ((j + 1 : Nat) : Int) := by omega
      have q3 : sh < 64 := by omega
      rw [← hsh] at hbit hT
      rw [q1] at dj ⊢
      replace q4 := Lib.hid q4
      replace hT := Lib.hid hT
      clear q1 hsh
      generalize v.testBit sh = b at hbit hT
      have hOh := Lib.hid hO
      have hBh := Lib.hid hB
      clear hO hB
      cases b
      all_goals
        simp only [Bool.toNat_true, Bool.toNat_false] at hbit
        go_wp2_with (at_builtin; refine wpList_append_el rfl (.tmp 13) (.tmp 20) 125 rfl encL 1 4 (.bool false) 1 Tryz.underlying125 (by kernel_rfl) rfl (by decide) encL_len encL_one (w.heap.size) _ _ _ _ rfl (hOh.out.alloc _) _ ⟨(wr).heap.size, 0, none⟩ 1 rfl (cells_new (wr) _ _) (by omega) (by omega) (by first | omega | (simp; done) | (simp; omega)) ?_; intro A4 c4 w4 hown4 hg4 hb4; obtain ⟨hc4, hf4⟩ := bcell hb4; have hs4 := hb4.size; (try simp only [World.size_alloc, World.size_setCell, World.size_drew] at hc4 hf4); (try simp at hs4))
        have hB4 := Lib.hid ((hBh.out.alloc hz _).trans hb4)
        go_roundw
        case rel => exact ⟨j + 1, A4, c4, by go_num, by rw [← q4.out], by omega, by rw [hT.out]; exact hown4, hB4.out⟩
        case measure => simp [intOf]
    · obtain rfl : j = n := by omega
      have dj : decide ((0 : Int) ≤ (j : Int) - 1 - (j : Int)) = false := decide_eq_false (by omega)
      rw [List.take_of_length_le (by rw [digB_len]; omega)] at hO
      replace hO := Lib.hid hO
      replace hB := Lib.hid hB
      go_wp2_with fail
      go_ret
      exact ⟨A1, c1, rfl, hO.out, hB.out⟩
end Go.Proofs.YtmenokhnanghgaaGreat
end
section
namespace Go.Proofs.YtmenokhnanghgaaGreat
open Go Go.RowKit
set_option maxRecDepth 100000
theorem take_more {α : Type} {l : List α} {j : Nat} {a : α} (h : l[j]? = some a) : l.take (j + 1) = l.take j ++ [a] := by rw [List.take_add_one, h]; rfl
set_option maxHeartbeats 8000000 in
theorem ref02_Glue (A B : Option Addr) (n c m d : Nat) (la lb : List Bool) (w : World) (hA : Rd encL 1 w A n la) (hB : Rd encL 1 w B m lb) (hn : n ≤ 1000000) (hm : m ≤ 1000000) :
    Calls Tryz.prog 135 #[.slice A n c, .slice B m d] w fun e w' => ∃ A' c', e = .returned (.slice A' (n + m) c') ∧ Own encL 1 4 w.heap.size w' A' (n + m) c' (la ++ lb) ∧ Below w.heap.size w w' := by
  have hAh := Lib.hid hA
  have hBh := Lib.hid hB
  have hAl := Lib.hid hA.len
  have hBl := Lib.hid hB.len
  clear hA hB
  go_enter Tryz.func135, Tryz.ntmps135
  go_wp2_with fail
  go_loopw [5, 6] (fun a i wr => ∃ (jn : Nat) (A1 : Option Addr) (c1 : Nat), a = .slice A1 (jn) c1 ∧ i = .int .i64 (jn : Int) ∧ jn ≤ n ∧ Own encL 1 4 w.heap.size wr A1 (jn) c1 (la.take jn) ∧ Below w.heap.size w wr) (fun a i _ => n - (intOf i).toNat)
  case atStart => exact ⟨0, none, 0, rfl, rfl, by omega, Own.nil_, Below.refl _ _⟩
  case round =>
    skip
    obtain ⟨jn, A1, c1, rfl, rfl, hj, hO, hW⟩ := hrel
    have hz := hW.size
    by_cases hlt : jn < n
    · have dj : decide ((jn : Int) < n) = true := decide_eq_true (by omega)
      have dj' : decide (jn < n) = true := decide_eq_true hlt
      obtain ⟨x, b, o, hx, rfl, hb, cx⟩ := hAh.out.bool_ hlt
      have cx' := (hW.cell (p := ⟨b, o + jn, none⟩) hb).trans cx
      have hT := Lib.hid (take_more hx.out)
      have hOh := Lib.hid hO
      have hWh := Lib.hid hW
      clear hO hW cx
      go_wp2_with (at_builtin; refine wpList_append_el rfl (.tmp 14) (.tmp 19) 125 rfl encL 1 4 (.bool false) 1 Tryz.underlying125 (by kernel_rfl) rfl (by decide) encL_len encL_one (w.heap.size) _ _ _ _ rfl (hOh.out.alloc _) _ ⟨(wr).heap.size, 0, none⟩ 1 rfl (cells_new (wr) _ _) (by omega) (by omega) (by first | omega | (simp; done) | (simp; omega)) ?_; intro A4 c4 w4 hown4 hg4 hb4; obtain ⟨hc4, hf4⟩ := bcell hb4; have hs4 := hb4.size; (try simp only [World.size_alloc, World.size_setCell, World.size_drew] at hc4 hf4); (try simp at hs4))
      have hB4 := Lib.hid ((hWh.out.alloc hz _).trans hb4)
      go_roundw
      case rel => exact ⟨jn + 1, A4, c4, rfl, by go_num, by omega, by rw [hT.out]; exact hown4, hB4.out⟩
      case measure => simp [intOf]; omega
    · obtain rfl : jn = n := by omega
      have dj : decide ((jn : Int) < jn) = false := decide_eq_false (by omega)
      have dj' : decide (jn < jn) = false := decide_eq_false (by omega)
      rw [List.take_of_length_le (by rw [hAl.out]; omega)] at hO
      replace hO := Lib.hid hO
      replace hW := Lib.hid hW
      go_wp2_with fail
      go_loopw [5, 7] (fun a i wr => ∃ (j : Nat) (A1 : Option Addr) (c1 : Nat), a = .slice A1 (jn + j) c1 ∧ i = .int .i64 (j : Int) ∧ j ≤ m ∧ Own encL 1 4 w.heap.size wr A1 (jn + j) c1 (la ++ lb.take j) ∧ Below w.heap.size w wr) (fun a i _ => m - (intOf i).toNat)
      case atStart => exact ⟨0, A1, c1, rfl, rfl, by omega, by simpa using hO.out, hW.out⟩
      case round =>
        clear hO hW
        obtain ⟨j, A1, c1, rfl, rfl, hj, hO, hW⟩ := hrel
        have hz := hW.size
        by_cases hlt : j < m
        · have dj : decide ((j : Int) < m) = true := decide_eq_true (by omega)
          have dj' : decide (j < m) = true := decide_eq_true hlt
          obtain ⟨x, b, o, hx, rfl, hb, cx⟩ := hBh.out.bool_ hlt
          have cx' := (hW.cell (p := ⟨b, o + j, none⟩) hb).trans cx
          have hT := Lib.hid (take_more hx.out)
          have hOh := Lib.hid hO
          have hWh := Lib.hid hW
          clear hO hW cx
          go_wp2_with (at_builtin; refine wpList_append_el rfl (.tmp 27) (.tmp 32) 125 rfl encL 1 4 (.bool false) 1 Tryz.underlying125 (by kernel_rfl) rfl (by decide) encL_len encL_one (w.heap.size) _ _ _ _ rfl (hOh.out.alloc _) _ ⟨(wr).heap.size, 0, none⟩ 1 rfl (cells_new (wr) _ _) (by omega) (by omega) (by first | omega | (simp; done) | (simp; omega)) ?_; intro A4 c4 w4 hown4 hg4 hb4; obtain ⟨hc4, hf4⟩ := bcell hb4; have hs4 := hb4.size; (try simp only [World.size_alloc, World.size_setCell, World.size_drew] at hc4 hf4); (try simp at hs4))
          have hB4 := Lib.hid ((hWh.out.alloc hz _).trans hb4)
          go_roundw
          case rel => exact ⟨j + 1, A4, c4, rfl, by go_num, by omega, by rw [hT.out, ← List.append_assoc]; exact hown4, hB4.out⟩
          case measure => simp [intOf]; omega
        · obtain rfl : j = m := by omega
          have dj : decide ((j : Int) < j) = false := decide_eq_false (by omega)
          have dj' : decide (j < j) = false := decide_eq_false (by omega)
          rw [List.take_of_length_le (by rw [hBl.out]; omega)] at hO
          replace hO := Lib.hid hO
          replace hW := Lib.hid hW
          go_wp2_with fail
          go_ret
          exact ⟨A1, c1, rfl, hO.out, hW.out⟩
end Go.Proofs.YtmenokhnanghgaaGreat
end
section
namespace Go.Proofs.YtmenokhnanghgaaGreat
open Go Go.RowKit
set_option maxRecDepth 100000
theorem made_cellsB (n : Nat) : madeCells #[(.bool false : Value)] n = ((List.replicate n false).flatMap encL).toArray := by
  apply Array.ext'
  have e : ∀ n : Nat, (List.replicate n false).flatMap encL = List.replicate n (.bool false) := by
    intro n
    induction n with
    | zero => rfl
    | succ n ih => rw [List.replicate_succ, List.flatMap_cons, ih, List.replicate_succ]; rfl
  rw [e]
  apply List.ext_getElem?
  intro i
  simp only [madeCells, List.getElem?_replicate]
  by_cases hi : i < n
  · simp [hi, Nat.mod_one]
  · simp [hi]
theorem own_madeB (w : World) (e : TypeId) (B : Nat) (hB : B ≤ w.heap.size) (n : Nat) (hm : n ≤ 4611686018427387904) : Own encL 1 e B (w.alloc (.cells (madeCells #[.bool false] n) e)) (some ⟨w.heap.size, 0, none⟩) n n (List.replicate n false) := by
  rw [made_cellsB]
  exact Own.lit encL_len w e B hB (List.replicate n false) n (by simp) hm _ rfl
theorem run_make_bools {t : TypeId} (ht : Tryz.prog.underlying t = some (.slice 4)) (n : Nat) (hn : n ≤ 1000000) (w : World) : (Instr.makeSlice t (.int .i64 (n : Int)) (.int .i64 (n : Int))).run Tryz.prog w = .ok (.slice (some ⟨w.heap.size, 0, none⟩) n n) (w.alloc (.cells (madeCells #[.bool false] n) 4)) :=
  run_make_row' t 4 (.bool false) 1 ht (by kernel_rfl) rfl .i64 .i64 n (by omega) (by omega) w
theorem code_on {v j L : Nat} (h1 : 2 ^ L ≤ v) (hj : j < L) : decide ((1 : Int) < (v : Int) / (2 : Int) ^ j) = true := by
  refine decide_eq_true ?_
  have h2 : (v : Int) / (2 : Int) ^ j = ((v / 2 ^ j : Nat) : Int) := by rw [Int.natCast_ediv]; norm_cast
  have h3 : 2 ^ (j + 1) ≤ v := Nat.le_trans (Nat.pow_le_pow_right (by decide) hj) h1
  have h4 : 2 ≤ v / 2 ^ j := by
    rw [Nat.le_div_iff_mul_le (Nat.pow_pos (by decide))]
    rw [Nat.pow_succ] at h3; omega
  rw [h2]; omega
theorem code_off {v L : Nat} (h1 : v < 2 ^ (L + 1)) : decide ((1 : Int) < (v : Int) / (2 : Int) ^ L) = false := by
  refine decide_eq_false ?_
  have h2 : (v : Int) / (2 : Int) ^ L = ((v / 2 ^ L : Nat) : Int) := by rw [Int.natCast_ediv]; norm_cast
  have h4 : v / 2 ^ L < 2 := by
    rw [Nat.div_lt_iff_lt_mul (Nat.pow_pos (by decide))]
    rw [Nat.pow_succ] at h1; omega
  rw [h2]; omega
set_option maxHeartbeats 8000000 in
theorem ref02_Code (u : Nat) (w : World) (hu : u < 9223372036854775808) :
    Calls Tryz.prog 124 #[.int .u64 ((u + 1 : Nat) : Int)] w fun e w' => ∃ A' m' c', e = .returned (.slice A' m' c') ∧ Own encL 1 4 w.heap.size w' A' m' c' (gamB u) ∧ Below w.heap.size w w' := by
  have h1 := log2_le u
  have h2 := log2_lt u
  have h3 := log2_small hu
  have hg : gamB u = List.replicate (Nat.log2 (u + 1)) false ++ digB (Nat.log2 (u + 1) + 1) (u + 1) := rfl
  rw [hg]
  clear hg
  generalize Nat.log2 (u + 1) = L at h1 h2 h3 ⊢
  obtain ⟨v, hv⟩ : ∃ v, v = u + 1 := ⟨_, rfl⟩
  rw [← hv] at h1 h2 ⊢
  have hv64 : v < 18446744073709551616 := by omega
  clear hv hu
  go_enter Tryz.func124, Tryz.ntmps124
  go_wp2_with fail
  go_loopw [3] (fun i wr => ∃ (j : Nat), i = .int .i64 (j : Int) ∧ j ≤ L ∧ wr = w) (fun i _ => L - (intOf i).toNat)
  case atStart => exact ⟨0, rfl, by omega, rfl⟩
  case round =>
    obtain ⟨j, rfl, hj, rfl⟩ := hrel
    have q3 : j < 64 := by omega
    by_cases hlt : j < L
    · have dj := code_on h1 hlt
      go_wp2_with fail
      go_roundw
      case rel => exact ⟨j + 1, by go_num, by omega, trivial⟩
      case measure => simp [intOf]; omega
    · obtain rfl : j = L := by omega
      have dj := code_off h2
      go_wp2_with fail
      rw [run_make_bools Tryz.underlying125 j (by omega)]
      have hO1 := own_madeB wr 4 wr.heap.size (Nat.le_refl _) j (by omega)
      obtain ⟨w1, hw1⟩ : ∃ w1, w1 = wr.alloc (.cells (madeCells #[.bool false] j) 4) := ⟨_, rfl⟩
      have hb1 : Below wr.heap.size wr w1 := by rw [hw1]; exact (Below.refl _ _).alloc (Nat.le_refl _) _
      rw [← hw1] at hO1 ⊢
      clear hw1
      have e1 : IntKind.i64.wrap ((j : Int) + 1) = ((j + 1 : Nat) : Int) := by rw [IntWalk.i64_in _ (by omega)]; omega
      have kD := ref02_Digits v (j + 1) w1 hv64 (by omega)
      have hO1h := Lib.hid hO1
      have hb1h := Lib.hid hb1
      clear dj hO1 hb1
      go_wp2_with fail
      go_at_call 120
      refine kD.mono ?_
      rintro e w2 ⟨A2, c2, rfl, hO2, hb2⟩
      have kG := ref02_Glue (some ⟨wr.heap.size, 0, none⟩) A2 j j (j + 1) c2 _ _ w2 ((hO1h.out.rd encL_len).of hb2) (hO2.rd encL_len) (by omega) (by omega)
      have hB2 := Lib.hid (hb1h.out.trans (hb2.mono hb1h.out.size))
      clear kD hO2 hb2
      go_wp2_with fail
      go_at_call 135
      refine kG.mono ?_
      rintro e w3 ⟨A3, c3, rfl, hO3, hb3⟩
      have hO4 := Lib.hid (hO3.more hB2.out.size)
      have hB3 := Lib.hid (hB2.out.trans (hb3.mono hB2.out.size))
      clear kG hO3 hb3
      go_wp2_with fail
      go_ret
      exact ⟨A3, _, c3, rfl, hO4.out, hB3.out⟩
end Go.Proofs.YtmenokhnanghgaaGreat
end
section
namespace Go.Proofs.YtmenokhnanghgaaGreat
open Go Go.RowKit
set_option maxRecDepth 100000
structure Wsq (T : List Bool) (b : Bool) (X : List Bool) : Prop where
  ok : X.length ≤ 524288 → T = X ∧ b = false
  no : 524288 < X.length → b = true
section
variable {T X : List Bool} {b : Bool}
theorem Wsq.nil_ : Wsq [] false [] := ⟨fun _ => ⟨rfl, rfl⟩, fun h => absurd h (by simp)⟩
theorem Wsq.fits (h : Wsq T b X) (Y : List Bool) (hf : wrE T Y = 0) : Wsq (wrT T Y) b (X ++ Y) := by
  by_cases hX : X.length ≤ 524288
  · obtain ⟨rfl, rfl⟩ := h.ok hX
    by_cases hl : T.length + Y.length ≤ 524288
    · obtain ⟨h1, h2⟩ := wr_fits hl
      rw [h1]
      exact ⟨fun _ => ⟨rfl, rfl⟩, fun k => by rw [List.length_append] at k; omega⟩
    · obtain ⟨h1, h2⟩ := wr_full hl
      rw [h2] at hf; exact absurd hf (by decide)
  · exact ⟨fun k => by rw [List.length_append] at k; omega, fun _ => h.no (by omega)⟩
theorem Wsq.full (h : Wsq T b X) (Y : List Bool) (hf : wrE T Y ≠ 0) : Wsq (wrT T Y) true (X ++ Y) := by
  refine ⟨fun k => ?_, fun _ => rfl⟩
  rw [List.length_append] at k
  obtain ⟨rfl, rfl⟩ := h.ok (by omega)
  exact absurd (wr_fits (T := T) (X := Y) k).2 hf
theorem Wsq.end_ (h : Wsq T b X) : (b = false → endE X = 0 ∧ endL X = pkB T) ∧ (b = true → endE X = 6 ∧ endL X = []) := by
  unfold endE endL
  by_cases hX : X.length ≤ 524288
  · rw [if_pos hX, if_pos hX]
    obtain ⟨rfl, rfl⟩ := h.ok hX
    exact ⟨fun _ => ⟨rfl, rfl⟩, fun k => by cases k⟩
  · rw [if_neg hX, if_neg hX]
    have := h.no (by omega)
    exact ⟨fun k => (by rw [this] at k; cases k), fun _ => ⟨rfl, rfl⟩⟩
end
structure WqS (w : World) (bw : Nat) (A : Option Addr) (n c : Nat) (T : List Bool) (b : Bool) : Prop where
  box : BxW w bw [.slice A n c, .bool b]
  row : Own encL 1 4 (bw + 1) w A n c T
  le : T.length ≤ 524288
structure WqX (w : World) (bw : Nat) (A : Option Addr) (n c : Nat) (X T : List Bool) (b : Bool) : Prop where
  s : WqS w bw A n c T b
  x : Wsq T b X
section
variable {w w' w'' : World} {bw : Nat} {A A' A'' : Option Addr} {n c n' c' n'' c'' : Nat} {X T : List Bool} {e : Bool}
theorem WqS.of (h : WqS w bw A n c T e) (hb : Below w.heap.size w w') : WqS w' bw A n c T e := ⟨h.box.of hb, h.row.of hb, h.le⟩
theorem WqX.of (h : WqX w bw A n c X T e) (hb : Below w.heap.size w w') : WqX w' bw A n c X T e := ⟨h.s.of hb, h.x⟩
theorem WqS.len (h : WqS w bw A n c T e) : T.length = n := h.row.len
theorem WqS.new (h : WqS w bw A n c T e) {q : Nat} (hq : w.heap.size ≤ q) : q ≠ bw ∧ (Value.slice A n c).ownBlock ≠ some q := by
  have := h.box.1
  exact ⟨by omega, fun k => by have := (h.row.row.lt q k).2; omega⟩
theorem WqS.above (h : WqS w bw A n c T e) : ∀ q, (Value.slice A n c).ownBlock = some q → bw < q := fun q k => by have := (h.row.row.lt q k).1; omega
theorem WrK.belowQ {B : Nat} (h : WrK w bw A n c w' A' n' c') (hS : WqS w bw A n c T e) (hB : B ≤ bw) : Below B w w' :=
  h.fr.below (by have := hS.box.1; omega) (fun q hq => by
    rcases hq with rfl | hq
    · exact hB
    · have := hS.above q hq; omega)
theorem WqS.ret (h : WqS w bw A n c T e) (e' : Bool) : WqS (w.setCell ⟨bw, 1, none⟩ (.bool e')) bw A n c T e' :=
  ⟨by have := h.box.put 1 (.bool e') (by simp); exact this, h.row.setBelow (Nat.lt_succ_self _) _, h.le⟩
end
end Go.Proofs.YtmenokhnanghgaaGreat
end
section
namespace Go.Proofs.YtmenokhnanghgaaGreat
open Go Go.RowKit
set_option maxRecDepth 100000
/-- An append of one element at a step of a region that draws its order, with the new row's place. -/
theorem step_append_elL {α : Type} {P : Program} {w : World} {ops : Array Oper} {o : Oper} {a : Act} {K : Act → World → Prop} {Q : Exit → Act → World → Prop} {E : Prop} (hgd : o.guard = none) (s x : Operand) (t : TypeId)
    (ho : o.op = .call { callee := .builtin .append, args := #[s, x], argTypes := #[t, t] })
    (enc : α → List Value) (k : Nat) (e : TypeId) (z : Value) (bytes : Nat) (ht : P.underlying t = some (.slice e)) (hi : (P.info? e).map (fun i => (i.zero, i.size, i.bytes)) = some (some z, k, bytes)) (hzs : z.cells.size = k) (hk0 : 0 < k)
    (hk : ∀ y, (enc y).length = k) (h1c : ∀ y, ∀ u ∈ enc y, u.oneCell' = true)
    (B : Nat) (A : Option Addr) (n c : Nat) (l : List α) (hs : a.eval s = .slice A n c) (hown : Own enc k e B w A n c l)
    (y : α) (ad : Addr) (m : Nat) (hx : a.eval x = .slice (some ad) 1 m) (hnews : ∀ j u, (enc y)[j]? = some u → w.cell? (ad.add j) = some u)
    (hbytes : (n + 1) * bytes ≤ 140737488355328) (hn : n + 1 ≤ 4611686018427387904) (hbase : B ≤ w.heap.size)
    (h : ∀ A' c' w', Own enc k e B w' A' (n + 1) c' (l ++ [y]) → w.grownBy w' (Value.slice A n c).ownBlock → Below B w w' → ((Value.slice A' (n + 1) c').ownBlock = (Value.slice A n c).ownBlock ∨ (Value.slice A' (n + 1) c').ownBlock = some w.heap.size) → K (a.put o.dst (.slice A' (n + 1) c')) w') :
    if Region.wanted o (yielded ops a.tmps) = true then Oper.wp P o a w K Q else E := by
  obtain ⟨i, hi0, hz0, hz1, hz2⟩ := info_parts hi
  refine step_append_lies _ hgd s x t ho B e i z k bytes ht hi0 hz0 hz1 hz2 hzs hk0 (.slice A n c) n (l.flatMap enc) hs hown.row ad 1 m (enc y) hx (by rw [hk]; omega) hnews (h1c y)
    (by omega) (by unfold maxLen; omega) hbytes hbase w.heap.size rfl ?_
  intro g cap w' hv hg hloc _
  have hgB : Below B w w' := (Below.refl _ _).grown hg hbase hown.above
  refine h _ _ w' ⟨by simpa using hv, by simp [hown.len]⟩ hg hgB ?_
  rcases hloc with hl | hl
  · exact .inl hl.symm
  · exact .inr (by rw [hl]; rfl)
set_option maxHeartbeats 16000000 in
theorem ref02_add (bw : Nat) (A : Option Addr) (n c : Nat) (T : List Bool) (b : Bool) (L : Option Addr) (m d : Nat) (X : List Bool) (w : World) (hS : WqS w bw A n c T b) (hR : Rd encL 1 w L m X) (hm : m ≤ 1000) (hL : 0 < m → ∀ q o, L = some ⟨q, o, none⟩ → q ≠ bw ∧ (Value.slice A n c).ownBlock ≠ some q) :
    Calls Tryz.prog 123 #[.pointer (some ⟨bw, 0, none⟩), .slice L m d] w fun e w' => ∃ A' n' c', e = .returned (.int .i64 (wrE T X)) ∧ WqS w' bw A' n' c' (wrT T X) b ∧ WrK w bw A n c w' A' n' c' := by
  have hle := hS.le
  have hn := hS.len
  have hXl := Lib.hid hR.len
  have hXl2 := hR.len
  have e0 : IntKind.i64.wrap ((n : Int) + (m : Int)) = (n : Int) + (m : Int) := IntWalk.i64_in _ (by omega)
  by_cases hf : n + m ≤ 524288
  · have d0 : decide (524288 < (n : Int) + (m : Int)) = false := decide_eq_false (by omega)
    have d0' : decide (524288 < n + m) = false := decide_eq_false (by omega)
    obtain ⟨h1, h2⟩ := wr_fits (T := T) (X := X) (by omega)
    rw [h1, h2]
    have hSh := Lib.hid hS
    obtain ⟨hbw, b0, b1, f0, f1⟩ := hS.box.open2
    have hn' := Lib.hid hn
    clear h1 h2 hS hn hXl2 hle
    go_enter Tryz.func123, Tryz.ntmps123
    go_wp2_with fail
    clear b0 b1 f0 f1
    go_loopw [5] (fun i wr => ∃ (j : Nat) (A1 : Option Addr) (c1 : Nat), i = .int .i64 j ∧ j ≤ m ∧ WqS wr bw A1 (n + j) c1 (T ++ X.take j) b ∧ WrK w bw A n c wr A1 (n + j) c1) (fun i _ => m - (intOf i).toNat)
    case atStart => exact ⟨0, A, c, rfl, by omega, by simpa using hSh.out, WrK.here _ _ _ _ _⟩
    case round =>
      obtain ⟨j, A1, c1, rfl, hj, hS1, hK1⟩ := hrel
      by_cases hlt : j < m
      · have dj : decide ((j : Int) < m) = true := decide_eq_true (by omega)
        have dj' : decide (j < m) = true := decide_eq_true hlt
        obtain ⟨x, q, o, hx, rfl, hq, cx⟩ := hR.bool_ hlt
        obtain ⟨hq1, hq2⟩ := hL (by omega) q o rfl
        have hbl := hK1.fr.block q hq (fun k => by rcases k with k | k; exact hq1 k; exact hq2 k)
        have cx1 : wr.cell? ⟨q, o + j, none⟩ = some (.bool x) := (World.cell?_of_block hbl).trans cx
        have hT := Lib.hid (show T ++ X.take (j + 1) = (T ++ X.take j) ++ [x] by rw [take_more hx.out, List.append_assoc])
        have hrow : ∀ q, (Value.slice A1 (n + j) c1).ownBlock = some q → bw < q := hS1.above
        obtain ⟨hbw1, b0, b1, f0, f1⟩ := hS1.box.open2
        have hlen : (T ++ X.take j).length = n + j := hS1.len
        have hw1 : Below wr.heap.size wr (wr.alloc (.cells #[.bool x] 4)).drew := ((Below.refl _ _).alloc (Nat.le_refl _) _).drew
        have hOw := Lib.hid hS1.row
        have kA : ∀ (A5 : Option Addr) (c5 : Nat) (w5 : World), Own encL 1 4 (bw + 1) w5 A5 (n + j + 1) c5 ((T ++ X.take j) ++ [x]) → (wr.alloc (.cells #[.bool x] 4)).drew.grownBy w5 (Value.slice A1 (n + j) c1).ownBlock →
            ((Value.slice A5 (n + j + 1) c5).ownBlock = (Value.slice A1 (n + j) c1).ownBlock ∨ (Value.slice A5 (n + j + 1) c5).ownBlock = some (wr.alloc (.cells #[.bool x] 4)).drew.heap.size) →
            w5.cell? ⟨bw, 0, none⟩ = some (.slice A1 (n + j) c1) ∧ w5.frozen? ⟨bw, 0, none⟩ = false ∧ Hid (WqS (w5.setCell ⟨bw, 0, none⟩ (.slice A5 (n + j + 1) c5)) bw A5 (n + (j + 1)) c5 (T ++ X.take (j + 1)) b ∧ WrK w bw A n c (w5.setCell ⟨bw, 0, none⟩ (.slice A5 (n + j + 1) c5)) A5 (n + (j + 1)) c5) := by
          intro A5 c5 w5 hown5 hg5 hl5
          have hx5 := (hS1.box.of hw1).grown hg5 (fun e => by have := hrow _ e.symm; omega)
          refine ⟨hx5.2.1 0, hx5.2.2 0, Lib.hid ⟨⟨hx5.put 0 _ (by simp), ?_, ?_⟩, ?_⟩⟩
          · rw [hT.out]; exact hown5.setBelow (Nat.lt_succ_self _) _
          · rw [hT.out, List.length_append, hlen]; simp only [List.length_singleton]; omega
          · refine hK1.trans (WrK.put (A' := A5) (n' := n + j + 1) (c' := c5) ⟨((Fr2.here wr _).of hw1).grown hg5 (fun q hq => .inl (.inr hq)), ?_⟩ 0 (.slice A5 (n + j + 1) c5))
            rcases hl5 with h | h
            · exact .inl h
            · exact .inr ⟨_, h, by simp only [World.size_alloc, World.size_drew]; omega⟩
        generalize T ++ X.take j = T1 at hOw kA
        clear hS1 hT hbl cx hK1 hSh hlen b1 f0 f1
        go_upto_region 6 with (fail)
        go_region_law
          (refine step_append_elL (by rfl) (.tmp 25) (.tmp 30) 125 (by rfl) encL 1 4 (.bool false) 1 Tryz.underlying125 (by kernel_rfl) rfl (by decide) encL_len encL_one (bw + 1) _ _ _ T1 (by rfl) (Own.drew (Own.alloc hOw.out _)) x ⟨wr.heap.size, 0, none⟩ 1 (by rfl) (cells_new wr (encL x) 4) (by omega) (by omega) (by simp only [World.size_alloc, World.size_drew]; omega) ?_; intro A5 c5 w5 hown5 hg5 hb5 hl5; obtain ⟨o5, fo5, hfin⟩ := kA A5 c5 w5 hown5 hg5 hl5)
        all_goals
          go_wp2_with fail
          go_roundw
          case rel => exact ⟨j + 1, A5, c5, by go_num, by omega, hfin.out⟩
          case measure => simp [intOf]; omega
      · obtain rfl : j = m := by omega
        have dj : decide ((j : Int) < j) = false := decide_eq_false (by omega)
        have dj' : decide (j < j) = false := decide_eq_false (by omega)
        rw [List.take_of_length_le (by rw [hXl.out]; exact Nat.le_refl _)] at hS1
        go_wp2_with fail
        go_ret
        exact ⟨A1, _, c1, rfl, hS1, hK1⟩
  · have d0 : decide (524288 < (n : Int) + (m : Int)) = true := decide_eq_true (by omega)
    have d0' : decide (524288 < n + m) = true := decide_eq_true (by omega)
    obtain ⟨h1, h2⟩ := wr_full (T := T) (X := X) (by omega)
    rw [h1, h2]
    have hSh := Lib.hid hS
    obtain ⟨hbw, b0, b1, f0, f1⟩ := hS.box.open2
    clear h1 h2 hS hn hXl2 hle hf
    go_enter Tryz.func123, Tryz.ntmps123
    go_wp2_with fail
    go_ret
    exact ⟨A, n, c, rfl, hSh.out, WrK.here _ _ _ _ _⟩
/-- add, of bits in a new row. -/
theorem ref02_addN {w w1 : World} {bw : Nat} {A : Option Addr} {n c : Nat} {T : List Bool} {b : Bool} {L : Option Addr} {m d : Nat} {X : List Bool} (hS : WqS w bw A n c T b) (hb : Below w.heap.size w w1) (hO : Own encL 1 4 w.heap.size w1 L m d X) (hm : m ≤ 1000) :
    Calls Tryz.prog 123 #[.pointer (some ⟨bw, 0, none⟩), .slice L m d] w1 fun e w' => ∃ A' n' c', e = .returned (.int .i64 (wrE T X)) ∧ WqS w' bw A' n' c' (wrT T X) b ∧ WrK w bw A n c w' A' n' c' := by
  refine (ref02_add bw A n c T b L m d X w1 (hS.of hb) (hO.rd encL_len) hm (fun h0 q o e => ?_)).mono ?_
  · have hq : (Value.slice L m d).ownBlock = some q := by rw [e]; rfl
    have := (hO.row.lt q hq).1
    exact hS.new this
  · rintro e w' ⟨A', n', c', h1, h2, h3⟩
    exact ⟨A', n', c', h1, h2, WrK.after hb h3⟩
section
variable (bw : Nat) (A : Option Addr) (n c : Nat) (T : List Bool) (b : Bool) (w : World)
theorem shr_zero {v k : Nat} (hv : v < 2 ^ k) : (v : Int) / (2 : Int) ^ k = 0 := by
  have h2 : (v : Int) / (2 : Int) ^ k = ((v / 2 ^ k : Nat) : Int) := by rw [Int.natCast_ediv]; norm_cast
  rw [h2, Nat.div_eq_of_lt hv]; rfl
set_option maxHeartbeats 4000000 in
theorem ref02_WBits (v k : Nat) (hS : WqS w bw A n c T b) (hk : k ≤ 63) (hv : v < 2 ^ k) :
    Calls Tryz.prog 97 #[.pointer (some ⟨bw, 0, none⟩), .int .u64 (v : Int), .int .i64 (k : Int)] w fun e w' => ∃ A' n' c', e = .returned (.int .i64 (wrE T (digB k v))) ∧ WqS w' bw A' n' c' (wrT T (digB k v)) b ∧ WrK w bw A n c w' A' n' c' := by
  have hv64 : v < 18446744073709551616 := Nat.lt_of_lt_of_le hv (Nat.pow_le_pow_right (by decide) (by omega) : 2 ^ k ≤ 2 ^ 64)
  have kD := fun w1 => ref02_Digits v k w1 hv64 (by omega)
  have hsh := shr_zero hv
  have hSh := Lib.hid hS
  have k0 : decide ((k : Int) < 0) = false := decide_eq_false (by omega)
  have k1 : decide (64 < (k : Int)) = false := decide_eq_false (by omega)
  have k2 : decide (64 < k) = false := decide_eq_false (by omega)
  have k3 : decide ((k : Int) < 64) = true := decide_eq_true (by omega)
  have k3' : decide (k < 64) = true := decide_eq_true (by omega)
  have c0 : IntKind.u64.wrap (k : Int) = (k : Int) := by rw [IntKind.wrap_u64]; omega
  have k4 : k < 64 := by omega
  have hlen := digB_len k v
  generalize digB k v = X at kD hlen
  clear hS hv
  go_enter Tryz.func97, Tryz.ntmps97
  go_wp2_with fail
  go_at_call 120
  refine (kD _).mono ?_
  rintro e w1 ⟨A1, c1, rfl, hO1, hb1⟩
  have kA := ref02_addN hSh.out hb1 hO1 (by omega)
  clear hO1 hb1 hlen
  go_wp2_with fail
  go_at_call 123
  refine kA.mono ?_
  rintro e w2 ⟨A2, n2, c2, rfl, hS2, hK2⟩
  replace hS2 := Lib.hid hS2
  replace hK2 := Lib.hid hK2
  go_wp2_with fail
  go_ret
  exact ⟨A2, n2, c2, rfl, hS2.out, hK2.out⟩
set_option maxHeartbeats 4000000 in
theorem ref02_WGamma (u : Nat) (hS : WqS w bw A n c T b) (hu : u < 9223372036854775808) :
    Calls Tryz.prog 98 #[.pointer (some ⟨bw, 0, none⟩), .int .i64 (u : Int)] w fun e w' => ∃ A' n' c', e = .returned (.int .i64 (wrE T (gamB u))) ∧ WqS w' bw A' n' c' (wrT T (gamB u)) b ∧ WrK w bw A n c w' A' n' c' := by
  have kD := fun w1 => ref02_Code u w1 hu
  have hSh := Lib.hid hS
  have m0 : decide ((u : Int) < 0) = false := decide_eq_false (by omega)
  have c0 : IntKind.u64.wrap (u : Int) = (u : Int) := by rw [IntKind.wrap_u64]; omega
  have c1 : IntKind.u64.wrap ((u : Int) + 1) = ((u + 1 : Nat) : Int) := by rw [IntKind.wrap_u64]; omega
  have hX := gamB_len u
  have h64 := log2_small hu
  generalize gamB u = X at kD hX
  obtain ⟨v, hv⟩ : ∃ v, v = u + 1 := ⟨_, rfl⟩
  rw [← hv] at kD c1 h64 hX
  clear hS hv
  go_enter Tryz.func98, Tryz.ntmps98
  go_wp2_with fail
  go_at_call 124
  refine (kD _).mono ?_
  rintro e w1 ⟨A1, m1, c1', rfl, hO1, hb1⟩
  have hm1 := hO1.len
  have kA := ref02_addN hSh.out hb1 hO1 (by omega)
  clear hO1 hb1 hX hm1
  go_wp2_with fail
  go_at_call 123
  refine kA.mono ?_
  rintro e w2 ⟨A2, n2, c2, rfl, hS2, hK2⟩
  replace hS2 := Lib.hid hS2
  replace hK2 := Lib.hid hK2
  go_wp2_with fail
  go_ret
  exact ⟨A2, n2, c2, rfl, hS2.out, hK2.out⟩
set_option maxHeartbeats 4000000 in
theorem ref02_Fold (z : Int) (hz : -4611686018427387904 ≤ z ∧ z ≤ 4611686018427387903) :
    Calls Tryz.prog 146 #[.int .i64 z] w fun e w' => e = .returned (.int .i64 ((foldZ z : Nat) : Int)) ∧ Below w.heap.size w w' := by
  by_cases h0 : 0 ≤ z
  · have d0 : decide (0 ≤ z) = true := decide_eq_true h0
    have e0 : IntKind.i64.wrap (2 * z) = ((foldZ z : Nat) : Int) := by rw [IntWalk.i64_in _ (by omega)]; unfold foldZ; rw [if_pos h0]; omega
    go_enter Tryz.func146, Tryz.ntmps146
    go_wp2_with fail
    go_ret
    exact ⟨rfl, Below.refl _ _⟩
  · have d0 : decide (0 ≤ z) = false := decide_eq_false h0
    have e0 : IntKind.i64.wrap (z + 1) = z + 1 := IntWalk.i64_in _ (by omega)
    have e1 : IntKind.i64.wrap (-2 * (z + 1)) = -2 * (z + 1) := IntWalk.i64_in _ (by omega)
    have e2 : IntKind.i64.wrap (-2 * (z + 1) + 1) = ((foldZ z : Nat) : Int) := by rw [IntWalk.i64_in _ (by omega)]; unfold foldZ; rw [if_neg h0]; omega
    go_enter Tryz.func146, Tryz.ntmps146
    go_wp2_with fail
    go_ret
    exact ⟨rfl, Below.refl _ _⟩
set_option maxHeartbeats 4000000 in
theorem ref02_WSigned (z : Int) (hS : WqS w bw A n c T b) (hz : -4611686018427387904 ≤ z ∧ z ≤ 4611686018427387903) :
    Calls Tryz.prog 132 #[.pointer (some ⟨bw, 0, none⟩), .int .i64 z] w fun e w' => ∃ A' n' c', e = .returned (.int .i64 (wrE T (sgnB z))) ∧ WqS w' bw A' n' c' (wrT T (sgnB z)) b ∧ WrK w bw A n c w' A' n' c' := by
  have hu : foldZ z < 9223372036854775808 := by unfold foldZ; split <;> omega
  have kF := fun w1 => ref02_Fold w1 z hz
  rw [show sgnB z = gamB (foldZ z) from rfl]
  generalize foldZ z = u at hu kF
  have kD := fun w1 => ref02_Code u w1 hu
  have hSh := Lib.hid hS
  have m0 : decide (z < -4611686018427387904) = false := decide_eq_false (by omega)
  have m1 : decide (4611686018427387903 < z) = false := decide_eq_false (by omega)
  have c0 : IntKind.u64.wrap (u : Int) = (u : Int) := by rw [IntKind.wrap_u64]; omega
  have c1 : IntKind.u64.wrap ((u : Int) + 1) = ((u + 1 : Nat) : Int) := by rw [IntKind.wrap_u64]; omega
  have hX := gamB_len u
  have h64 := log2_small hu
  generalize gamB u = X at kD hX
  obtain ⟨v, hv⟩ : ∃ v, v = u + 1 := ⟨_, rfl⟩
  rw [← hv] at kD c1 h64 hX
  clear hS hv hz
  go_enter Tryz.func132, Tryz.ntmps132
  go_wp2_with fail
  go_at_call 146
  refine (kF _).mono ?_
  rintro e w0 ⟨rfl, hb0⟩
  go_wp2_with fail
  go_at_call 124
  refine (kD _).mono ?_
  rintro e w1 ⟨A1, m1', c1', rfl, hO1, hb1⟩
  have hm1 := hO1.len
  have kA := ref02_addN (hSh.out.of hb0) hb1 hO1 (by omega)
  replace hb0 := Lib.hid hb0
  clear hO1 hb1 hX hm1
  go_wp2_with fail
  go_at_call 123
  refine kA.mono ?_
  rintro e w2 ⟨A2, n2, c2, rfl, hS2, hK2⟩
  replace hS2 := Lib.hid hS2
  replace hK2 := Lib.hid (WrK.after hb0.out hK2)
  go_wp2_with fail
  go_ret
  exact ⟨A2, n2, c2, rfl, hS2.out, hK2.out⟩
end
end Go.Proofs.YtmenokhnanghgaaGreat
end
