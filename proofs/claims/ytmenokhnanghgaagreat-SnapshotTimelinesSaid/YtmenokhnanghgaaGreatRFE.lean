/- The reference's writer: Bytes. By mkrfe.py. The reference's writer of forms: bits, gamma, signed, place, done, begin. By mkrfg.py. The reference's writer of forms: cells. By mkrfg.py. -/
import Derived.Test.YtmenokhnanghgaaGreatRFA
import Derived.Deep.RegionHeld3
import Derived.Test.YtmenokhnanghgaaGreatSNC
set_option linter.unusedSimpArgs false
set_option linter.unusedVariables false
section
namespace Go.Proofs.YtmenokhnanghgaaGreat
open Go Go.RowKit
set_option maxRecDepth 100000
set_option maxHeartbeats 16000000 in
theorem ref02_Bytes (bw : Nat) (A : Option Addr) (n c : Nat) (T : List Bool) (b : Bool) (w : World) (hS : WqS w bw A n c T b) :
    Calls Tryz.prog 87 #[.pointer (some ⟨bw, 0, none⟩)] w fun e w' => ∃ A' m' c', e = .returned (.slice A' m' c') ∧ Own encU 1 5 w.heap.size w' A' m' c' (pkB T) ∧ Below w.heap.size w w' := by
  have hle := hS.le
  have hn := hS.len
  have hR := Lib.hid (hS.row.rd encL_len)
  have hbx := Lib.hid hS.box
  have hn5 : n ≤ 524288 := by omega
  replace hn := Lib.hid hn
  clear hS hle
  go_enter Tryz.func87, Tryz.ntmps87
  go_wp2_with fail
  go_loopw [3, 4] (fun a i wr => ∃ (j : Nat) (A1 : Option Addr) (k1 c1 : Nat), a = .slice A1 k1 c1 ∧ i = .int .i64 (j : Int) ∧ j ≤ n ∧ Own encU 1 5 w.heap.size wr A1 k1 c1 (pkB (T.take j)) ∧ Below w.heap.size w wr) (fun _ i _ => n - (intOf i).toNat)
  case atStart => exact ⟨0, none, 0, 0, rfl, rfl, by omega, by rw [List.take_zero]; exact Own.nil_, Below.refl _ _⟩
  case round =>
    obtain ⟨j, A1, k1, c1, rfl, rfl, hj, hO, hW⟩ := hrel
    obtain ⟨hbw1, b0, b1, _, _⟩ := (hbx.out.of hW).open2
    have hz := hW.size
    by_cases hlt : j < n
    · have dj : decide ((j : Int) < n) = true := decide_eq_true (by omega)
      have dj' : decide (j < n) = true := decide_eq_true hlt
      obtain ⟨x, q0, o, hx, rfl, hq, cx⟩ := hR.out.bool_ hlt
      have cx1 := (hW.cell (p := ⟨q0, o + j, none⟩) hq).trans cx
      have hTl : (T.take j).length = j := by rw [List.length_take, hn.out]; omega
      have hT := Lib.hid (take_more hx.out)
      have hk1 : k1 = (j + 7) / 8 := by rw [← hO.len, pkB_len, hTl]
      have j0 : (0 : Int) ≤ (j : Int) := by omega
      have j1 : (j : Int) < (n : Int) := by omega
      generalize T.take j = T1 at hO hTl hT
      obtain ⟨r, hr⟩ : ∃ r, r = j % 8 := ⟨_, rfl⟩
      obtain ⟨q, hq8⟩ : ∃ q, q = j / 8 := ⟨_, rfl⟩
      have e0 : (j : Int).tmod 8 = (r : Int) := by rw [hr]; rfl
      have r8 : r < 8 := by omega
      have c0r : IntKind.u64.wrap (r : Int) = (r : Int) := by rw [IntKind.wrap_u64]; omega
      have e4 := shr_128 r
      have e5 := Nat.shiftRight_le 128 r
      have hqb : q ≤ 70000 := by omega
      replace hr := Lib.hid hr
      replace hq8 := Lib.hid hq8
      have cxh := Lib.hid cx
      clear cx hx
      by_cases h8 : r = 0
      · have d0 : ((r : Int) == 0) = true := by simp; omega
        have d0' : decide ((r : Int) = 0) = true := decide_eq_true (by omega)
        have hk2 : k1 = q := by rw [hk1, hq8.out]; have := hr.out; omega
        have h88 : T1.length % 8 = 0 := by rw [hTl]; have := hr.out; omega
        have hOh := Lib.hid hO
        have hWh := Lib.hid hW
        clear hO hW hk1 h8
        subst hk2
        cases x
        case false =>
          go_upto_region 9 with (at_builtin; refine wpList_append_el rfl (.tmp 19) (.tmp 20) 24 rfl encU 1 5 (.int .u8 0) 1 Tryz.underlying24 (by kernel_rfl) rfl (by decide) encU_len encU_one (w.heap.size) _ _ _ _ rfl (hOh.out.alloc _) (0 : Int) ⟨(wr).heap.size, 0, none⟩ 1 rfl (cells_new (wr) _ _) (by omega) (by omega) (by first | omega | (simp; done) | (simp; omega)) ?_; intro A4 c4 w4 hown4 hg4 hb4; obtain ⟨hc4, hf4⟩ := bcell hb4; have hs4 := hb4.size; (try simp only [World.size_alloc, World.size_setCell, World.size_drew] at hc4 hf4); (try simp at hs4))
          have hB4 := Lib.hid ((hWh.out.alloc hz _).trans hb4)
          have hOf := Lib.hid (show Own encU 1 5 w.heap.size w4 A4 (k1 + 1) c4 (pkB (T1 ++ [false])) by rw [← pk_zero h88]; exact hown4)
          have b04 : w4.cell? ⟨bw, 0, none⟩ = some (.slice (some ⟨q0, o, none⟩) n c) := (hB4.out.cell (p := ⟨bw, 0, none⟩) hbx.out.1).trans (hbx.out.2.1 0)
          have cx4 : w4.cell? ⟨q0, o + j, none⟩ = some (.bool false) := (hB4.out.cell (p := ⟨q0, o + j, none⟩) hq).trans cxh.out
          clear hown4 hg4 hb4 hc4 hf4 hOh hWh h88 b0 b1 cx1
          go_wp2_with fail
          go_roundw
          case rel => exact ⟨j + 1, A4, (k1 + 1), c4, rfl, by go_num, by omega, by rw [hT.out]; exact hOf.out, hB4.out⟩
          case measure => simp [intOf]; omega
        case true =>
          go_upto_region 9 with (at_builtin; refine wpList_append_el rfl (.tmp 19) (.tmp 20) 24 rfl encU 1 5 (.int .u8 0) 1 Tryz.underlying24 (by kernel_rfl) rfl (by decide) encU_len encU_one (w.heap.size) _ _ _ _ rfl (hOh.out.alloc _) (0 : Int) ⟨(wr).heap.size, 0, none⟩ 1 rfl (cells_new (wr) _ _) (by omega) (by omega) (by first | omega | (simp; done) | (simp; omega)) ?_; intro A4 c4 w4 hown4 hg4 hb4; obtain ⟨hc4, hf4⟩ := bcell hb4; have hs4 := hb4.size; (try simp only [World.size_alloc, World.size_setCell, World.size_drew] at hc4 hf4); (try simp at hs4))
          have hB4 := Lib.hid ((hWh.out.alloc hz _).trans hb4)
          have hOf := Lib.hid (show Own encU 1 5 w.heap.size w4 A4 (k1 + 1) c4 (pkB (T1 ++ [false])) by rw [← pk_zero h88]; exact hown4)
          have b04 : w4.cell? ⟨bw, 0, none⟩ = some (.slice (some ⟨q0, o, none⟩) n c) := (hB4.out.cell (p := ⟨bw, 0, none⟩) hbx.out.1).trans (hbx.out.2.1 0)
          have cx4 : w4.cell? ⟨q0, o + j, none⟩ = some (.bool true) := (hB4.out.cell (p := ⟨q0, o + j, none⟩) hq).trans cxh.out
          clear hown4 hg4 hb4 hc4 hf4 hOh hWh h88 b0 b1 cx1
          obtain ⟨g, rfl⟩ := hOf.out.at0 (by omega)
          obtain ⟨y, hy, hgw, c0, fz, -, -⟩ := hOf.out.byteCell (i := k1) (by omega)
          have hge := (hOf.out.row.lt g rfl).1
          obtain ⟨v, rfl, hv, hset⟩ := pk_set (T := T1) rfl (by rw [hTl, ← hq8.out]; exact hy.out)
          rw [hTl, ← hq8.out, ← hr.out] at hset
          have hN := own_setU hOf.out (i := k1) (by omega) ((v ||| 128 >>> r : Nat) : Int)
          rw [hset] at hN
          replace hN := Lib.hid hN
          have e6 := or_u8 v (128 >>> r) hv (by omega)
          obtain ⟨y2, hy2⟩ : ∃ y2, y2 = 128 >>> r := ⟨_, rfl⟩
          rw [← hy2] at e4 e5 e6 hN
          clear hset hy hy2
          obtain ⟨z, hz2⟩ : ∃ z, z = v ||| y2 := ⟨_, rfl⟩
          rw [← hz2] at e6 hN
          clear hz2
          have ek : IntKind.i64.wrap (((k1 + 1 : Nat) : Int) - 1) = (k1 : Int) := by rw [IntWalk.i64_in _ (by omega)]; omega
          have ek' : IntKind.i64.wrap ((k1 : Int) + 1 - 1) = (k1 : Int) := by rw [IntWalk.i64_in _ (by omega)]; omega
          have i0 : (0 : Int) ≤ (k1 : Int) := by omega
          have i1 : (k1 : Int) < ((k1 + 1 : Nat) : Int) := by omega
          have i2 : (k1 : Int) < (k1 : Int) + 1 := by omega
          go_wp2_with fail
          go_roundw
          case rel => exact ⟨j + 1, some ⟨g, 0, none⟩, (k1 + 1), c4, rfl, by go_num, by omega, by rw [hT.out]; exact hN.out, hB4.out.setCell hge _⟩
          case measure => simp [intOf]; omega
      · have d0 : ((r : Int) == 0) = false := by simp; omega
        have d0' : decide ((r : Int) = 0) = false := decide_eq_false (by omega)
        have hk2 : k1 = q + 1 := by rw [hk1, hq8.out]; have := hr.out; omega
        have hOf := Lib.hid (show Own encU 1 5 w.heap.size wr A1 k1 c1 (pkB (T1 ++ [false])) by rw [pk_false (by rw [hTl]; have := hr.out; omega)]; exact hO)
        have hB4 := Lib.hid hW
        clear hO hW hk1 h8
        subst hk2
        cases x
        case false =>
          go_wp2_with fail
          go_roundw
          case rel => exact ⟨j + 1, A1, (q + 1), c1, rfl, by go_num, by omega, by rw [hT.out]; exact hOf.out, hB4.out⟩
          case measure => simp [intOf]; omega
        case true =>
          obtain ⟨g, rfl⟩ := hOf.out.at0 (by omega)
          obtain ⟨y, hy, hgw, c0, fz, -, -⟩ := hOf.out.byteCell (i := q) (by omega)
          have hge := (hOf.out.row.lt g rfl).1
          obtain ⟨v, rfl, hv, hset⟩ := pk_set (T := T1) rfl (by rw [hTl, ← hq8.out]; exact hy.out)
          rw [hTl, ← hq8.out, ← hr.out] at hset
          have hN := own_setU hOf.out (i := q) (by omega) ((v ||| 128 >>> r : Nat) : Int)
          rw [hset] at hN
          replace hN := Lib.hid hN
          have e6 := or_u8 v (128 >>> r) hv (by omega)
          obtain ⟨y2, hy2⟩ : ∃ y2, y2 = 128 >>> r := ⟨_, rfl⟩
          rw [← hy2] at e4 e5 e6 hN
          clear hset hy hy2
          obtain ⟨z, hz2⟩ : ∃ z, z = v ||| y2 := ⟨_, rfl⟩
          rw [← hz2] at e6 hN
          clear hz2
          have ek : IntKind.i64.wrap (((q + 1 : Nat) : Int) - 1) = (q : Int) := by rw [IntWalk.i64_in _ (by omega)]; omega
          have ek' : IntKind.i64.wrap ((q : Int) + 1 - 1) = (q : Int) := by rw [IntWalk.i64_in _ (by omega)]; omega
          have i0 : (0 : Int) ≤ (q : Int) := by omega
          have i1 : (q : Int) < ((q + 1 : Nat) : Int) := by omega
          have i2 : (q : Int) < (q : Int) + 1 := by omega
          go_wp2_with fail
          go_roundw
          case rel => exact ⟨j + 1, some ⟨g, 0, none⟩, (q + 1), c1, rfl, by go_num, by omega, by rw [hT.out]; exact hN.out, hB4.out.setCell hge _⟩
          case measure => simp [intOf]; omega
    · obtain rfl : j = n := by omega
      have dj : decide ((j : Int) < j) = false := decide_eq_false (by omega)
      have dj' : decide (j < j) = false := decide_eq_false (by omega)
      rw [List.take_of_length_le (by rw [hn.out]; exact Nat.le_refl _)] at hO
      replace hO := Lib.hid hO
      replace hW := Lib.hid hW
      go_wp2_with fail
      go_ret
      exact ⟨A1, k1, c1, rfl, hO.out, hW.out⟩
end Go.Proofs.YtmenokhnanghgaaGreat
end
section
namespace Go.Proofs.YtmenokhnanghgaaGreat
open Go Go.RowKit
set_option maxRecDepth 100000
section
variable (bw : Nat) (A : Option Addr) (n c : Nat) (X T : List Bool) (b : Bool) (w : World)
set_option maxHeartbeats 4000000 in
theorem ref55_bits (v k : Nat) (hX : WqX w bw A n c X T b) (hk : k ≤ 63) (hv : v < 2 ^ k) :
    Calls Tryz.prog 53 #[.pointer (some ⟨bw, 0, none⟩), .int .i64 (v : Int), .int .i64 (k : Int)] w fun e w' => ∃ A' n' c' T' b', e = .returned (.tuple #[]) ∧ WqX w' bw A' n' c' (X ++ digB k v) T' b' ∧ WrK w bw A n c w' A' n' c' := by
  have kB := ref02_WBits bw A n c T b w v k hX.s hk hv
  have hv63 : v < 9223372036854775808 := Nat.lt_of_lt_of_le hv (Nat.pow_le_pow_right (by decide) (by omega) : 2 ^ k ≤ 2 ^ 63)
  have c0 : IntKind.u64.wrap (v : Int) = (v : Int) := by rw [IntKind.wrap_u64]; omega
  clear hv
  have hx := Lib.hid hX.x
  generalize digB k v = Y at kB ⊢
  clear hX
  by_cases h0 : wrE T Y = 0
  · rw [h0] at kB
    have hq := Lib.hid (hx.out.fits _ h0)
    clear h0 hx
    go_enter Tryz.func53, Tryz.ntmps53
    go_wp2_with fail
    go_at_call 97
    refine kB.mono ?_
    rintro e w1 ⟨A1, n1, c1, rfl, hS1, hK1⟩
    replace hS1 := Lib.hid hS1
    replace hK1 := Lib.hid hK1
    clear kB
    go_wp2_with fail
    go_end0
    exact ⟨A1, n1, c1, _, b, rfl, ⟨hS1.out, hq.out⟩, hK1.out⟩
  · have hq := Lib.hid (hx.out.full _ h0)
    have d0 : (wrE T Y != 0) = true := by simpa using h0
    generalize wrE T Y = er at kB d0
    clear h0 hx
    go_enter Tryz.func53, Tryz.ntmps53
    go_wp2_with fail
    go_at_call 97
    refine kB.mono ?_
    rintro e w1 ⟨A1, n1, c1, rfl, hS1, hK1⟩
    obtain ⟨hbw, b0, b1, f0, f1⟩ := hS1.box.open2
    replace hS1 := Lib.hid hS1
    replace hK1 := Lib.hid hK1
    clear kB
    go_wp2_with fail
    go_end0
    exact ⟨A1, n1, c1, _, true, rfl, ⟨hS1.out.ret true, hq.out⟩, hK1.out.put 1 _⟩
set_option maxHeartbeats 4000000 in
theorem ref55_gamma (u : Nat) (hX : WqX w bw A n c X T b) (hu : u < 9223372036854775808) :
    Calls Tryz.prog 54 #[.pointer (some ⟨bw, 0, none⟩), .int .i64 (u : Int)] w fun e w' => ∃ A' n' c' T' b', e = .returned (.tuple #[]) ∧ WqX w' bw A' n' c' (X ++ gamB u) T' b' ∧ WrK w bw A n c w' A' n' c' := by
  have kB := ref02_WGamma bw A n c T b w u hX.s hu
  have hx := Lib.hid hX.x
  generalize gamB u = Y at kB ⊢
  clear hX
  by_cases h0 : wrE T Y = 0
  · rw [h0] at kB
    have hq := Lib.hid (hx.out.fits _ h0)
    clear h0 hx
    go_enter Tryz.func54, Tryz.ntmps54
    go_wp2_with fail
    go_at_call 98
    refine kB.mono ?_
    rintro e w1 ⟨A1, n1, c1, rfl, hS1, hK1⟩
    replace hS1 := Lib.hid hS1
    replace hK1 := Lib.hid hK1
    clear kB
    go_wp2_with fail
    go_end0
    exact ⟨A1, n1, c1, _, b, rfl, ⟨hS1.out, hq.out⟩, hK1.out⟩
  · have hq := Lib.hid (hx.out.full _ h0)
    have d0 : (wrE T Y != 0) = true := by simpa using h0
    generalize wrE T Y = er at kB d0
    clear h0 hx
    go_enter Tryz.func54, Tryz.ntmps54
    go_wp2_with fail
    go_at_call 98
    refine kB.mono ?_
    rintro e w1 ⟨A1, n1, c1, rfl, hS1, hK1⟩
    obtain ⟨hbw, b0, b1, f0, f1⟩ := hS1.box.open2
    replace hS1 := Lib.hid hS1
    replace hK1 := Lib.hid hK1
    clear kB
    go_wp2_with fail
    go_end0
    exact ⟨A1, n1, c1, _, true, rfl, ⟨hS1.out.ret true, hq.out⟩, hK1.out.put 1 _⟩
set_option maxHeartbeats 4000000 in
theorem ref55_signed (z : Int) (hX : WqX w bw A n c X T b) (hz : -4611686018427387904 ≤ z ∧ z ≤ 4611686018427387903) :
    Calls Tryz.prog 113 #[.pointer (some ⟨bw, 0, none⟩), .int .i64 z] w fun e w' => ∃ A' n' c' T' b', e = .returned (.tuple #[]) ∧ WqX w' bw A' n' c' (X ++ sgnB z) T' b' ∧ WrK w bw A n c w' A' n' c' := by
  have kB := ref02_WSigned bw A n c T b w z hX.s hz
  clear hz
  have hx := Lib.hid hX.x
  generalize sgnB z = Y at kB ⊢
  clear hX
  by_cases h0 : wrE T Y = 0
  · rw [h0] at kB
    have hq := Lib.hid (hx.out.fits _ h0)
    clear h0 hx
    go_enter Tryz.func113, Tryz.ntmps113
    go_wp2_with fail
    go_at_call 132
    refine kB.mono ?_
    rintro e w1 ⟨A1, n1, c1, rfl, hS1, hK1⟩
    replace hS1 := Lib.hid hS1
    replace hK1 := Lib.hid hK1
    clear kB
    go_wp2_with fail
    go_end0
    exact ⟨A1, n1, c1, _, b, rfl, ⟨hS1.out, hq.out⟩, hK1.out⟩
  · have hq := Lib.hid (hx.out.full _ h0)
    have d0 : (wrE T Y != 0) = true := by simpa using h0
    generalize wrE T Y = er at kB d0
    clear h0 hx
    go_enter Tryz.func113, Tryz.ntmps113
    go_wp2_with fail
    go_at_call 132
    refine kB.mono ?_
    rintro e w1 ⟨A1, n1, c1, rfl, hS1, hK1⟩
    obtain ⟨hbw, b0, b1, f0, f1⟩ := hS1.box.open2
    replace hS1 := Lib.hid hS1
    replace hK1 := Lib.hid hK1
    clear kB
    go_wp2_with fail
    go_end0
    exact ⟨A1, n1, c1, _, true, rfl, ⟨hS1.out.ret true, hq.out⟩, hK1.out.put 1 _⟩
set_option maxHeartbeats 8000000 in
theorem ref55_place (first : Bool) (p q x y : Int) (hX : WqX w bw A n c X T b) (hp : -4194304 ≤ p ∧ p ≤ 4194304) (hq : -4194304 ≤ q ∧ q ≤ 4194304) (hx : -4194304 ≤ x ∧ x ≤ 4194304) (hy : -4194304 ≤ y ∧ y ≤ 4194304) (hbef : first = false → q ≤ y ∧ (y = q → p < x)) :
    Calls Tryz.prog 86 #[.pointer (some ⟨bw, 0, none⟩), .bool first, .int .i64 p, .int .i64 q, .int .i64 x, .int .i64 y] w fun e w' => ∃ A' n' c' T' b', e = .returned (.tuple #[]) ∧ WqX w' bw A' n' c' (X ++ plcB first p q x y) T' b' ∧ WrK w bw A n c w' A' n' c' := by
  have hXh := Lib.hid hX
  clear hX
  cases first with
  | true =>
    rw [show plcB true p q x y = sgnB x ++ sgnB y from rfl]
    have k1 := ref55_signed bw A n c X T b w x hXh.out (by omega)
    have hy' := Lib.hid (show -4611686018427387904 ≤ y ∧ y ≤ 4611686018427387903 by omega)
    clear hp hq hx hy hbef
    go_enter Tryz.func86, Tryz.ntmps86
    go_wp2_with fail
    go_at_call 113
    refine k1.mono ?_
    rintro e w1 ⟨A1, n1, c1, T1, b1, rfl, hX1, hK1⟩
    have k2 := ref55_signed bw A1 n1 c1 _ T1 b1 w1 y hX1 hy'.out
    replace hK1 := Lib.hid hK1
    clear k1 hX1
    go_wp2_with fail
    go_at_call 113
    refine k2.mono ?_
    rintro e w2 ⟨A2, n2, c2, T2, b2, rfl, hX2, hK2⟩
    replace hK2 := Lib.hid (hK1.out.trans hK2)
    replace hX2 := Lib.hid hX2
    go_wp2_with fail
    ((try simp only [Exit.inBlock, Exit.then]); refine bodyPost_ret (results_none rfl _ _ _) rfl ?_)
    exact ⟨A2, n2, c2, T2, b2, rfl, by rw [← List.append_assoc]; exact hX2.out, hK2.out⟩
  | false =>
    obtain ⟨h1, h2⟩ := hbef rfl
    have e1 : IntKind.i64.wrap (y - q) = ((y - q).toNat : Int) := by rw [IntWalk.i64_in _ (by omega)]; omega
    have k1 := ref55_gamma bw A n c X T b w (y - q).toNat hXh.out (by omega)
    by_cases hyq : y = q
    · have h3 := h2 hyq
      have d0 : (y == q) = true := by simpa using hyq
      have e2 : IntKind.i64.wrap (x - p) = x - p := IntWalk.i64_in _ (by omega)
      have e3 : IntKind.i64.wrap (x - p - 1) = ((x - p - 1).toNat : Int) := by rw [IntWalk.i64_in _ (by omega)]; omega
      have hg := Lib.hid (show (x - p - 1).toNat < 9223372036854775808 by omega)
      rw [show plcB false p q x y = gamB (y - q).toNat ++ gamB (x - p - 1).toNat by unfold plcB; rw [if_neg (by simp), if_pos hyq, hyq, Int.sub_self]; rfl]
      generalize (x - p - 1).toNat = g2 at e3 hg ⊢
      generalize (y - q).toNat = g1 at e1 k1 ⊢
      clear hp hq hx hy hbef h1 h2 h3 hyq
      go_enter Tryz.func86, Tryz.ntmps86
      go_wp2_with fail
      go_at_call 54
      refine k1.mono ?_
      rintro e w1 ⟨A1, n1, c1, T1, b1, rfl, hX1, hK1⟩
      have k2 := ref55_gamma bw A1 n1 c1 _ T1 b1 w1 g2 hX1 hg.out
      replace hK1 := Lib.hid hK1
      clear k1 hX1
      go_wp2_with fail
      go_at_call 54
      refine k2.mono ?_
      rintro e w2 ⟨A2, n2, c2, T2, b2, rfl, hX2, hK2⟩
      replace hK2 := Lib.hid (hK1.out.trans hK2)
      replace hX2 := Lib.hid hX2
      go_wp2_with fail
      go_end0
      exact ⟨A2, n2, c2, T2, b2, rfl, by rw [← List.append_assoc]; exact hX2.out, hK2.out⟩
    · have d0 : (y == q) = false := by simpa using hyq
      have hx' := Lib.hid (show -4611686018427387904 ≤ x ∧ x ≤ 4611686018427387903 by omega)
      rw [show plcB false p q x y = gamB (y - q).toNat ++ sgnB x by unfold plcB; rw [if_neg (by simp), if_neg hyq]]
      generalize (y - q).toNat = g1 at e1 k1 ⊢
      clear hp hq hx hy hbef h1 h2 hyq
      go_enter Tryz.func86, Tryz.ntmps86
      go_wp2_with fail
      go_at_call 54
      refine k1.mono ?_
      rintro e w1 ⟨A1, n1, c1, T1, b1, rfl, hX1, hK1⟩
      have k2 := ref55_signed bw A1 n1 c1 _ T1 b1 w1 x hX1 hx'.out
      replace hK1 := Lib.hid hK1
      clear k1 hX1
      go_wp2_with fail
      go_at_call 113
      refine k2.mono ?_
      rintro e w2 ⟨A2, n2, c2, T2, b2, rfl, hX2, hK2⟩
      replace hK2 := Lib.hid (hK1.out.trans hK2)
      replace hX2 := Lib.hid hX2
      go_wp2_with fail
      go_end0
      exact ⟨A2, n2, c2, T2, b2, rfl, by rw [← List.append_assoc]; exact hX2.out, hK2.out⟩
set_option maxHeartbeats 4000000 in
theorem ref55_done (hX : WqX w bw A n c X T b) :
    Calls Tryz.prog 41 #[.pointer (some ⟨bw, 0, none⟩)] w fun e w' => ∃ A' n' c', e = .returned (.tuple #[.slice A' n' c', .int .i64 (endE X)]) ∧ Rd encU 1 w' A' n' (endL X) ∧ Below w.heap.size w w' := by
  obtain ⟨h1, h2⟩ := hX.x.end_
  have hSh := Lib.hid hX.s
  obtain ⟨hbw, b0, b1, f0, f1⟩ := hX.s.box.open2
  clear hX
  cases b with
  | false =>
    obtain ⟨h3, h4⟩ := h1 rfl
    rw [h3, h4]
    clear h1 h2 h3 h4
    go_enter Tryz.func41, Tryz.ntmps41
    go_wp2_with fail
    go_at_call 87
    refine (ref02_Bytes bw A n c T false _ hSh.out).mono ?_
    rintro e w1 ⟨A', n', c', rfl, hO, hb⟩
    replace hO := Lib.hid hO
    go_wp2_with fail
    refine bodyPost_ret (v := .tuple #[.slice A' n' c', .int .i64 0]) (by simp [results, Tryz.results41, go_sem, *, ↓IntWalk.iteOmega]) rfl ?_
    exact ⟨A', n', c', rfl, hO.out.rd encU_len, hb⟩
  | true =>
    obtain ⟨h3, h4⟩ := h2 rfl
    rw [h3, h4]
    clear h1 h2 h3 h4
    go_enter Tryz.func41, Tryz.ntmps41
    go_wp2_with fail
    refine bodyPost_ret (v := .tuple #[.slice none 0 0, .int .i64 6]) (by simp [results, Tryz.results41, go_sem, *, ↓IntWalk.iteOmega]) rfl ?_
    exact ⟨none, 0, 0, rfl, Rd.nil_, Below.refl _ _⟩
end
set_option maxHeartbeats 4000000 in
theorem ref55_begin (k : Nat) (hk : k < 16) (w : World) :
    Calls Tryz.prog 39 #[.int .i64 (k : Int)] w fun e w' => ∃ bw A n c T b, e = .returned (.pointer (some ⟨bw, 0, none⟩)) ∧ WqX w' bw A n c (hdB k) T b ∧ w.heap.size ≤ bw ∧ Below w.heap.size w w' := by
  go_enter Tryz.func39, Tryz.ntmps39
  go_wp2_with fail
  obtain ⟨w1, hw1⟩ : ∃ w1, w1 = w.alloc (.cells #[.slice none 0 0, .bool false] 129) := ⟨_, rfl⟩
  have hbx := BxW.new w [.slice none 0 0, .bool false] 129
  have hb1 : Below w.heap.size w w1 := by rw [hw1]; exact (Below.refl _ _).alloc (Nat.le_refl _) _
  rw [show ∀ a b : Value, [a, b].toArray = #[a, b] from fun _ _ => rfl, ← hw1] at hbx
  rw [← hw1]
  clear hw1
  have hX : WqX w1 w.heap.size none 0 0 [] [] false := ⟨⟨hbx, Own.nil_, by simp⟩, Wsq.nil_⟩
  have k1 := ref55_bits w.heap.size none 0 0 [] [] false w1 k 4 hX (by omega) (by omega)
  have hSh := Lib.hid hX.s
  clear hX hbx
  go_at_call 53
  refine k1.mono ?_
  rintro e w2 ⟨A2, n2, c2, T2, b2, rfl, hX2, hK2⟩
  have k2 := ref55_bits w.heap.size A2 n2 c2 _ T2 b2 w2 1 4 hX2 (by omega) (by decide)
  replace hK2 := Lib.hid hK2
  clear k1 hX2
  go_wp2_with fail
  go_at_call 53
  refine k2.mono ?_
  rintro e w3 ⟨A3, n3, c3, T3, b3, rfl, hX3, hK3⟩
  replace hK3 := Lib.hid (hK2.out.trans hK3)
  replace hX3 := Lib.hid hX3
  go_wp2_with fail
  go_ret
  exact ⟨_, A3, n3, c3, T3, b3, rfl, hX3.out, Nat.le_refl _, hb1.trans (hK3.out.belowQ hSh.out (Nat.le_refl _))⟩
end Go.Proofs.YtmenokhnanghgaaGreat
end
section
namespace Go.Proofs.YtmenokhnanghgaaGreat
open Go Go.RowKit
set_option maxRecDepth 100000
/-- The element ahead lies before. -/
theorem ref55_beforeC {l : List Cel} (hr : rightC l = true) {j k : Nat} (hk : k = j - 1) {px py ps : Int} (hp : l[k]? = some (px, py, ps)) {x y s : Int} (hx : l[j]? = some (x, y, s)) : (j == 0) = false → py ≤ y ∧ (y = py → px < x) := by
  intro hj
  obtain ⟨i, rfl⟩ : ∃ i, j = i + 1 := ⟨j - 1, by have : j ≠ 0 := (by intro e; rw [e] at hj; simp at hj); omega⟩
  obtain rfl : k = i := by omega
  have hs := rightC_sorted hr
  unfold SSC at hs
  rw [List.pairwise_iff_getElem] at hs
  have hi1 : k + 1 < l.length := (List.getElem?_eq_some_iff.1 hx).1
  have := hs k (k + 1) (by omega) hi1 (by omega)
  rw [List.getElem?_eq_getElem (by omega)] at hp hx
  injection hp with hp
  injection hx with hx
  rw [hp, hx] at this
  replace this : befP px py x y = true := this
  unfold befP at this
  simp only [decide_eq_true_eq] at this
  omega
theorem ref55_prvC {l : List Cel} {j k : Nat} (hk : k = j - 1) {px py ps : Int} (hp : l[k]? = some (px, py, ps)) (x y : Int) : plcB (j == 0) (prvL psC l j).1 (prvL psC l j).2 x y = plcB (j == 0) px py x y := by
  cases j with
  | zero => rfl
  | succ i =>
    obtain rfl : k = i := by omega
    rw [prvL_succ hp]; rfl
set_option maxHeartbeats 16000000 in
theorem ref55_cells (bw : Nat) (A : Option Addr) (n c : Nat) (X T : List Bool) (b : Bool) (PA : Option Addr) (m d : Nat) (l : List Cel) (w : World) (hX : WqX w bw A n c X T b) (hR : Rd encC 3 w PA m l) (hr : rightC l = true) (hPA : 0 < m → ∀ q o, PA = some ⟨q, o, none⟩ → q ≠ bw ∧ (Value.slice A n c).ownBlock ≠ some q ∧ q < w.heap.size) :
    Calls Tryz.prog 40 #[.pointer (some ⟨bw, 0, none⟩), .slice PA m d] w fun e w' => ∃ A' n' c' T' b', e = .returned (.tuple #[]) ∧ WqX w' bw A' n' c' (X ++ lstB psC cdC l) T' b' ∧ WrK w bw A n c w' A' n' c' := by
  have hm5 : m ≤ 10000 := by rw [← hR.len]; have := (rightC_ok hr).1; omega
  have hl := Lib.hid hR.len
  have hr' := Lib.hid hr
  have k0 := ref55_gamma bw A n c X T b w m hX (by omega)
  replace hR := Lib.hid hR
  replace hPA := Lib.hid hPA
  clear hX hr
  go_enter Tryz.func40, Tryz.ntmps40
  go_wp2_with fail
  go_at_call 54
  refine k0.mono ?_
  rintro e w1 ⟨A1, n1, c1, T1, b1, rfl, hX1, hK1⟩
  replace hX1 := Lib.hid hX1
  replace hK1 := Lib.hid hK1
  clear k0
  go_wp2_with fail
  go_loopw [4] (fun i wr => ∃ (j : Nat) (A2 : Option Addr) (n2 c2 : Nat) (T2 : List Bool) (b2 : Bool), i = .int .i64 j ∧ j ≤ m ∧ WqX wr bw A2 n2 c2 (X ++ (gamB m ++ elsB psC cdC l j)) T2 b2 ∧ WrK w bw A n c wr A2 n2 c2) (fun i _ => m - (intOf i).toNat)
  case atStart => exact ⟨0, A1, n1, c1, T1, b1, rfl, by omega, by rw [elsB_zero, List.append_nil]; exact hX1.out, hK1.out⟩
  case round =>
    clear hX1 hK1
    obtain ⟨j, A2, n2, c2, T2, b2, rfl, hj, hX2, hK2⟩ := hrel
    by_cases hlt : j < m
    · have dj : decide ((j : Int) < m) = true := decide_eq_true (by omega)
      have dj' : decide (j < m) = true := decide_eq_true hlt
      obtain ⟨hR2, hPA2⟩ := hK2.rd hR.out hPA.out
      obtain ⟨k, hk⟩ : ∃ k, k = j - 1 := ⟨_, rfl⟩
      have hkm : k < m := by omega
      obtain ⟨px, py, ps, q, o, hp, rfl, hq, gc0, gc1, gc2⟩ := hR2.cell hkm
      obtain ⟨x, y, s, q', o', hx, hqq, hq', hc0, hc1, hc2⟩ := hR2.cell hlt
      injection hqq with hqq
      injection hqq with hqq1 hqq2
      subst hqq1 hqq2
      obtain ⟨hq1, hq2, _⟩ := hPA2 (by omega) q o rfl
      have hbp := rightC_elem hr'.out hp.out
      have hbx := rightC_elem hr'.out hx.out
      unfold Pt at hbp hbx
      have hbef := ref55_beforeC hr'.out hk hp.out hx.out
      obtain ⟨sn, rfl⟩ : ∃ sn : Nat, s = (sn : Int) := ⟨s.toNat, by omega⟩
      have hs8 : sn < 2 ^ 3 := by omega
      have hbits := Lib.hid (show X ++ (gamB m ++ elsB psC cdC l (j + 1)) = X ++ (gamB m ++ elsB psC cdC l j) ++ plcB (j == 0) px py x y ++ digB 3 (sn : Int).toNat by
        rw [elsB_succ, elB_at hx.out]
        show X ++ (_ ++ (_ ++ (plcB (j == 0) (prvL psC l j).1 (prvL psC l j).2 x y ++ digB 3 (sn : Int).toNat))) = _
        rw [ref55_prvC hk hp.out]
        simp only [List.append_assoc])
      have e1 : IntKind.i64.wrap ((j : Int) - 1) = (j : Int) - 1 := IntWalk.i64_in _ (by omega)
      have e2 : max ((j : Int) - 1) 0 = (k : Int) := by omega
      have d0 : ((j : Int) == 0) = (j == 0) := by cases j <;> simp; omega
      have i0 : (0 : Int) ≤ (j : Int) := by omega
      have i1 : (j : Int) < (m : Int) := by omega
      have i2 : (0 : Int) ≤ (k : Int) := by omega
      have i3 : (k : Int) < (m : Int) := by omega
      have kP : Calls Tryz.prog 86 #[.pointer (some ⟨bw, 0, none⟩), .bool (j == 0), .int .i64 px, .int .i64 py, .int .i64 x, .int .i64 y] wr.drew fun e w7 => e = .returned (.tuple #[]) ∧ (∃ A7 n7 c7 T7 b7, WqX w7 bw A7 n7 c7 (X ++ (gamB m ++ elsB psC cdC l j) ++ plcB (j == 0) px py x y) T7 b7 ∧ WrK w bw A n c w7 A7 n7 c7 ∧ q < w7.heap.size) ∧ w7.cell? ⟨q, o + k * 3, none⟩ = some (.int .i64 px) ∧ w7.cell? ⟨q, o + k * 3 + 1, none⟩ = some (.int .i64 py) ∧ w7.cell? ⟨q, o + j * 3, none⟩ = some (.int .i64 x) ∧ w7.cell? ⟨q, o + j * 3 + 1, none⟩ = some (.int .i64 y) ∧ w7.cell? ⟨q, o + j * 3 + 2, none⟩ = some (.int .i64 (sn : Int)) := by
        have hd : Below wr.heap.size wr wr.drew := (Below.refl _ _).drew
        refine (ref55_place bw A2 n2 c2 _ T2 b2 _ (j == 0) px py x y (hX2.of hd) (by omega) (by omega) (by omega) (by omega) hbef).mono ?_
        rintro e w7 ⟨A7, n7, c7, T7, b7, rfl, hX7, hK7⟩
        have hbl : w7.heap[q]? = wr.heap[q]? := (WrK.after hd hK7).fr.block q hq (fun k => by rcases k with k | k; exact hq1 k; exact hq2 k)
        exact ⟨rfl, ⟨A7, n7, c7, T7, b7, hX7, hK2.trans (WrK.after hd hK7), Nat.lt_of_lt_of_le hq (WrK.after hd hK7).fr.size⟩, (World.cell?_of_block hbl).trans gc0, (World.cell?_of_block hbl).trans gc1, (World.cell?_of_block hbl).trans hc0, (World.cell?_of_block hbl).trans hc1, (World.cell?_of_block hbl).trans hc2⟩
      simp only [Int.toNat_natCast] at hbits
      generalize hfj : (j == 0) = fj at d0 kP hbits
      clear hX2 hK2 hR2 hPA2 hbp hbx hbef hk hp hx hq1 hq2 hfj
      go_upto_region 5 with (fail)
      go_region_held3 (fun w' => w'.cell? ⟨q, o + k * 3, none⟩ = some (.int .i64 px) ∧ w'.cell? ⟨q, o + k * 3 + 1, none⟩ = some (.int .i64 py) ∧ w'.cell? ⟨q, o + j * 3, none⟩ = some (.int .i64 x) ∧ w'.cell? ⟨q, o + j * 3 + 1, none⟩ = some (.int .i64 y) ∧ w'.cell? ⟨q, o + j * 3 + 2, none⟩ = some (.int .i64 (sn : Int))) (first | assumption | ((try go_split_ands); refine ⟨?_, ?_, ?_, ?_, ?_⟩ <;> first | assumption | go_keep))
        ((go_at_call 86; refine kP.mono ?_; rintro e w7 ⟨rfl, ⟨A7, n7, c7, T7, b7, hX7, hK7, hq7⟩, u0, u1, u2, u3, u4⟩))
      all_goals
        have kb := ref55_bits bw A7 n7 c7 _ T7 b7 w7 sn 3 hX7 (by omega) hs8
        replace hK7 := Lib.hid hK7
        have hz7 := hX7.s.box.1
        clear hX7
        go_wp2_with fail
        go_at_call 53
        refine kb.mono ?_
        rintro e w8 ⟨A8, n8, c8, T8, b8, rfl, hX8, hK8⟩
        replace hK8 := Lib.hid (hK7.out.trans hK8)
        replace hX8 := Lib.hid hX8
        go_wp2_with fail
        go_roundw
        case rel => exact ⟨j + 1, A8, n8, c8, T8, b8, by go_num, by omega, by rw [hbits.out]; exact hX8.out, hK8.out⟩
        case measure => simp [intOf]; omega
    · obtain rfl : j = m := by omega
      have dj : decide ((j : Int) < j) = false := decide_eq_false (by omega)
      have dj' : decide (j < j) = false := decide_eq_false (by omega)
      replace hX2 := Lib.hid hX2
      replace hK2 := Lib.hid hK2
      go_wp2_with fail
      go_end0
      exact ⟨A2, n2, c2, T2, b2, rfl, by unfold lstB; rw [hl.out]; exact hX2.out, hK2.out⟩
end Go.Proofs.YtmenokhnanghgaaGreat
end
