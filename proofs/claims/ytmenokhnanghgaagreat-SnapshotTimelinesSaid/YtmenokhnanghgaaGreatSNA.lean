/- snapshot's writer: the parts, and write. snapshot's writer: start, end, what the cell lists' closures say. What writing leaves where it lay: rows, boxes; the parts of a place. -/
import Derived.Test.YtmenokhnanghgaaGreatBIO
import Derived.Deep.RegionHeld3
import Derived.Test.YtmenokhnanghgaaGreatCHG
import Derived.Test.YtmenokhnanghgaaGreatCEL
set_option linter.unusedSimpArgs false
set_option linter.unusedVariables false
section
namespace Go.Proofs.YtmenokhnanghgaaGreat
open Go Go.RowKit
set_option maxRecDepth 100000
def ptVal : PartV → Value
  | .fix v b => .iface 96 (.agg #[.int .i64 (v : Int), .int .i64 (b : Int)])
  | .gam n => .iface 97 (.int .i64 (n : Int))
  | .sgn z => .iface 165 (.int .i64 z)
def encPt (p : PartV) : List Value := [ptVal p]
theorem encPt_len (p : PartV) : (encPt p).length = 1 := rfl
theorem Rd.part {w : World} {A : Option Addr} {n : Nat} {l : List PartV} (h : Rd encPt 1 w A n l) {i : Nat} (hi : i < n) : ∃ x b o, Hid (l[i]? = some x) ∧ A = some ⟨b, o, none⟩ ∧ b < w.heap.size ∧ w.cell? ⟨b, o + i, none⟩ = some (ptVal x) := by
  obtain ⟨x, b, o, h1, h2, h3, h4⟩ := h.elem hi
  exact ⟨x, b, o, h1, h2, h3, by simpa using h4 0 _ rfl⟩
section
variable (bw : Nat) (A : Option Addr) (n c : Nat) (T : List Bool) (er : Int) (w : World)
set_option maxHeartbeats 4000000 in
theorem snp_putF (v b : Nat) (hS : WrS w bw A n c T er) (hp : (PartV.fix v b).ok) :
    Calls Tryz.prog 189 #[.agg #[.int .i64 (v : Int), .int .i64 (b : Int)], .pointer (some ⟨bw, 0, none⟩)] w fun e w' => ∃ A' n' c', e = .returned (.int .i64 (wrE T (PartV.fix v b).bits)) ∧ WrS w' bw A' n' c' (wrT T (PartV.fix v b).bits) er ∧ WrK w bw A n c w' A' n' c' := by
  obtain ⟨h1, h2, h3⟩ := hp
  have c0 : IntKind.u64.wrap (v : Int) = (v : Int) := by rw [IntKind.wrap_u64]; omega
  have hSh := Lib.hid hS
  rw [show (PartV.fix v b).bits = digB b v from rfl]
  have kB := fun w1 h => bio_WBits bw A n c T er w1 v b h h1 h2
  generalize digB b v = X at kB
  clear hS h1 h2
  go_enter Tryz.func189, Tryz.ntmps189
  go_wp2_with fail
  go_at_call 190
  refine (kB _ (hSh.out.of ((Below.refl _ _).alloc (Nat.le_refl _) _))).mono ?_
  rintro e w2 ⟨A2, n2, c2, rfl, hS2, hK2⟩
  replace hS2 := Lib.hid hS2
  replace hK2 := Lib.hid hK2
  go_wp2_with fail
  go_ret
  exact ⟨A2, n2, c2, rfl, hS2.out, WrK.after ((Below.refl _ _).alloc (Nat.le_refl _) _) hK2.out⟩
set_option maxHeartbeats 4000000 in
theorem snp_putG (m : Nat) (hS : WrS w bw A n c T er) (hp : (PartV.gam m).ok) :
    Calls Tryz.prog 192 #[.int .i64 (m : Int), .pointer (some ⟨bw, 0, none⟩)] w fun e w' => ∃ A' n' c', e = .returned (.int .i64 (wrE T (PartV.gam m).bits)) ∧ WrS w' bw A' n' c' (wrT T (PartV.gam m).bits) er ∧ WrK w bw A n c w' A' n' c' := by
  have hSh := Lib.hid hS
  rw [show (PartV.gam m).bits = gamB m from rfl]
  have kB := fun w1 h => bio_WGamma bw A n c T er w1 m h hp
  generalize gamB m = X at kB
  clear hS hp
  go_enter Tryz.func192, Tryz.ntmps192
  go_wp2_with fail
  go_at_call 193
  refine (kB _ hSh.out).mono ?_
  rintro e w2 ⟨A2, n2, c2, rfl, hS2, hK2⟩
  replace hS2 := Lib.hid hS2
  replace hK2 := Lib.hid hK2
  go_wp2_with fail
  go_ret
  exact ⟨A2, n2, c2, rfl, hS2.out, hK2.out⟩
set_option maxHeartbeats 4000000 in
theorem snp_putS (z : Int) (hS : WrS w bw A n c T er) (hp : (PartV.sgn z).ok) :
    Calls Tryz.prog 194 #[.int .i64 z, .pointer (some ⟨bw, 0, none⟩)] w fun e w' => ∃ A' n' c', e = .returned (.int .i64 (wrE T (PartV.sgn z).bits)) ∧ WrS w' bw A' n' c' (wrT T (PartV.sgn z).bits) er ∧ WrK w bw A n c w' A' n' c' := by
  have hSh := Lib.hid hS
  rw [show (PartV.sgn z).bits = sgnB z from rfl]
  have kB := fun w1 h => bio_WSigned bw A n c T er w1 z h hp
  generalize sgnB z = X at kB
  clear hS hp
  go_enter Tryz.func194, Tryz.ntmps194
  go_wp2_with fail
  go_at_call 195
  refine (kB _ hSh.out).mono ?_
  rintro e w2 ⟨A2, n2, c2, rfl, hS2, hK2⟩
  replace hS2 := Lib.hid hS2
  replace hK2 := Lib.hid hK2
  go_wp2_with fail
  go_ret
  exact ⟨A2, n2, c2, rfl, hS2.out, hK2.out⟩
end
theorem na_fix (a b : Int) (w : World) : (nilAhead 334 96 (.agg #[.int .i64 a, .int .i64 b]) "cellular/snapshot.put").run Tryz.prog w = .ok (some false) w := by kernel_rfl
theorem na_gam (a : Int) (w : World) : (nilAhead 334 97 (.int .i64 a) "cellular/snapshot.put").run Tryz.prog w = .ok (some false) w := by kernel_rfl
theorem na_sgn (a : Int) (w : World) : (nilAhead 334 165 (.int .i64 a) "cellular/snapshot.put").run Tryz.prog w = .ok (some false) w := by kernel_rfl
theorem mt_fix (a b : Int) (w : World) : (method 334 96 (.agg #[.int .i64 a, .int .i64 b]) "cellular/snapshot.put").run Tryz.prog w = .ok (189, .agg #[.int .i64 a, .int .i64 b]) w := by kernel_rfl
theorem mt_gam (a : Int) (w : World) : (method 334 97 (.int .i64 a) "cellular/snapshot.put").run Tryz.prog w = .ok (192, .int .i64 a) w := by kernel_rfl
theorem mt_sgn (a : Int) (w : World) : (method 334 165 (.int .i64 a) "cellular/snapshot.put").run Tryz.prog w = .ok (194, .int .i64 a) w := by kernel_rfl
/-- The writer behind all that was handed to it. -/
structure WrX (w : World) (bw : Nat) (A : Option Addr) (n c : Nat) (X : List Bool) (T : List Bool) (e : Int) : Prop where
  s : WrS w bw A n c T e
  x : Wst T e X
set_option maxHeartbeats 16000000 in
theorem snp_write (bw : Nat) (A : Option Addr) (n c : Nat) (X T : List Bool) (er : Int) (PA : Option Addr) (m d : Nat) (l : List PartV) (w : World) (hX : WrX w bw A n c X T er) (hl : Rd encPt 1 w PA m l) (hm : m ≤ 1000) (hok : ∀ p ∈ l, p.ok) (hpb : ∀ b o, PA = some ⟨b, o, none⟩ → b ≠ bw ∧ (Value.slice A n c).ownBlock ≠ some b) :
    Calls Tryz.prog 51 #[.pointer (some ⟨bw, 0, none⟩), .slice PA m d] w fun e w' => ∃ A' n' c' T' e', e = .returned (.tuple #[]) ∧ WrX w' bw A' n' c' (X ++ ptsB l) T' e' ∧ WrK w bw A n c w' A' n' c' := by
  have hok' := Lib.hid hok
  have hll := Lib.hid hl.len
  clear hok
  go_enter Tryz.func51, Tryz.ntmps51
  go_wp2_with fail
  go_loopw [8] (fun i wr => ∃ (j : Nat) (A1 : Option Addr) (n1 c1 : Nat) (T1 : List Bool) (e1 : Int), i = .int .i64 j ∧ j ≤ m ∧ WrX wr bw A1 n1 c1 (X ++ ptsB (l.take j)) T1 e1 ∧ WrK w bw A n c wr A1 n1 c1) (fun i _ => m - (intOf i).toNat)
  case atStart => exact ⟨0, A, n, c, T, er, rfl, by omega, by simpa [ptsB] using hX, WrK.here _ _ _ _ _⟩
  case round =>
    obtain ⟨j, A1, n1, c1, T1, e1, rfl, hj, hX1, hK1⟩ := hrel
    by_cases hlt : j < m
    · have dj : decide ((j : Int) < m) = true := decide_eq_true (by omega)
      have dj' : decide (j < m) = true := decide_eq_true hlt
      obtain ⟨p, bo, o, hp, rfl, hbo, hc⟩ := hl.part hlt
      have hpo := hok'.out p (List.mem_of_getElem? hp.out)
      have hst := Lib.hid (ptsB_step hp.out)
      obtain ⟨hn1, hn2⟩ := hpb bo o rfl
      have hbl := hK1.fr.block bo hbo (fun k => by rcases k with k | k; exact hn1 k; exact hn2 k)
      have hc1 : wr.cell? ⟨bo, o + j, none⟩ = some (ptVal p) := (World.cell?_of_block hbl).trans hc
      obtain ⟨hbw, b0, b1, b2, f0, f1, f2⟩ := hX1.s.box.open3'
      by_cases he : e1 = 0
      · subst he
        cases p with
        | fix v b =>
          unfold ptVal at hc1
          have hSd := hX1.s.of (Below.refl _ _).drew
          have na := na_fix (v : Int) (b : Int)
          have mt := mt_fix (v : Int) (b : Int)
          go_wp2_with fail
          go_region_held3 (fun w' => wr.heap.size ≤ w'.heap.size) (first | assumption | (simp only [World.size_setCell, World.size_alloc, World.size_drew]; omega) | omega)
            ((go_at_call 189; refine (snp_putF bw A1 n1 c1 T1 0 _ v b (by assumption) hpo).mono ?_; rintro e w7 ⟨A7, n7, c7, rfl, hS7, hK7⟩; have hz7 := hK7.fr.size; obtain ⟨hb7, k0, k1, k2, g0, g1, g2⟩ := hS7.box.open3'))
          all_goals
            go_wp2_with fail
            go_roundw
            case rel => exact ⟨j + 1, A7, n7, c7, wrT T1 (PartV.fix v b).bits, wrE T1 (PartV.fix v b).bits, by go_num, by omega, ⟨hS7.ret _, by rw [hst.out, ← List.append_assoc]; exact hX1.x.step _⟩, hK1.trans ((WrK.after (Below.refl _ _).drew hK7).put 2 _)⟩
            case measure => simp [intOf]; omega
        | gam v =>
          unfold ptVal at hc1
          have hSd := hX1.s.of (Below.refl _ _).drew
          have na := na_gam (v : Int)
          have mt := mt_gam (v : Int)
          go_wp2_with fail
          go_region_held3 (fun w' => wr.heap.size ≤ w'.heap.size) (first | assumption | (simp only [World.size_setCell, World.size_alloc, World.size_drew]; omega) | omega)
            ((go_at_call 192; refine (snp_putG bw A1 n1 c1 T1 0 _ v (by assumption) hpo).mono ?_; rintro e w7 ⟨A7, n7, c7, rfl, hS7, hK7⟩; have hz7 := hK7.fr.size; obtain ⟨hb7, k0, k1, k2, g0, g1, g2⟩ := hS7.box.open3'))
          all_goals
            go_wp2_with fail
            go_roundw
            case rel => exact ⟨j + 1, A7, n7, c7, wrT T1 (PartV.gam v).bits, wrE T1 (PartV.gam v).bits, by go_num, by omega, ⟨hS7.ret _, by rw [hst.out, ← List.append_assoc]; exact hX1.x.step _⟩, hK1.trans ((WrK.after (Below.refl _ _).drew hK7).put 2 _)⟩
            case measure => simp [intOf]; omega
        | sgn z =>
          unfold ptVal at hc1
          have hSd := hX1.s.of (Below.refl _ _).drew
          have na := na_sgn z
          have mt := mt_sgn z
          go_wp2_with fail
          go_region_held3 (fun w' => wr.heap.size ≤ w'.heap.size) (first | assumption | (simp only [World.size_setCell, World.size_alloc, World.size_drew]; omega) | omega)
            ((go_at_call 194; refine (snp_putS bw A1 n1 c1 T1 0 _ z (by assumption) hpo).mono ?_; rintro e w7 ⟨A7, n7, c7, rfl, hS7, hK7⟩; have hz7 := hK7.fr.size; obtain ⟨hb7, k0, k1, k2, g0, g1, g2⟩ := hS7.box.open3'))
          all_goals
            go_wp2_with fail
            go_roundw
            case rel => exact ⟨j + 1, A7, n7, c7, wrT T1 (PartV.sgn z).bits, wrE T1 (PartV.sgn z).bits, by go_num, by omega, ⟨hS7.ret _, by rw [hst.out, ← List.append_assoc]; exact hX1.x.step _⟩, hK1.trans ((WrK.after (Below.refl _ _).drew hK7).put 2 _)⟩
            case measure => simp [intOf]; omega
      · have d1 : (e1 == 0) = false := by simpa using he
        go_wp2_with fail
        go_roundw
        case rel => exact ⟨j + 1, A1, n1, c1, T1, e1, by go_num, by omega, ⟨hX1.s, by rw [hst.out, ← List.append_assoc]; exact hX1.x.stuck he _⟩, hK1⟩
        case measure => simp [intOf]; omega
    · obtain rfl : j = m := by omega
      have dj : decide ((j : Int) < j) = false := decide_eq_false (by omega)
      have dj' : decide (j < j) = false := decide_eq_false (by omega)
      go_wp2_with fail
      go_end0
      refine ⟨A1, n1, c1, T1, e1, rfl, ?_, hK1⟩
      rwa [List.take_of_length_le (by rw [hll.out]; exact Nat.le_refl _)] at hX1
end Go.Proofs.YtmenokhnanghgaaGreat
end
section
namespace Go.Proofs.YtmenokhnanghgaaGreat
open Go Go.RowKit
set_option maxRecDepth 100000
theorem rd_parts (w : World) (e : TypeId) (l : List PartV) (n : Nat) (hn : l.length = n) (hm : n ≤ 1000000) (cs : List Value) (hcs : cs = l.flatMap encPt) : Rd encPt 1 (w.alloc (.cells cs.toArray e)) (some ⟨w.heap.size, 0, none⟩) n l :=
  (Own.lit encPt_len w e 0 (Nat.zero_le _) l n hn (by omega) cs hcs).rd encPt_len
set_option maxHeartbeats 4000000 in
theorem snp_start (k : Nat) (hk : k < 16) (w : World) :
    Calls Tryz.prog 35 #[.int .i64 (k : Int)] w fun e w' => ∃ bw A n c T er, e = .returned (.pointer (some ⟨bw, 0, none⟩)) ∧ WrX w' bw A n c (hdB k) T er ∧ w.heap.size ≤ bw ∧ Below w.heap.size w w' := by
  go_enter Tryz.func35, Tryz.ntmps35
  go_wp2_with fail
  obtain ⟨w1, hw1⟩ : ∃ w1, w1 = w.alloc (.cells #[.slice none 0 0, .int .i64 0, .int .i64 0] 118) := ⟨_, rfl⟩
  have hbx := BxW.new w [.slice none 0 0, .int .i64 0, .int .i64 0] 118
  have hb1 : Below w.heap.size w w1 := by rw [hw1]; exact (Below.refl _ _).alloc (Nat.le_refl _) _
  have hsz : w1.heap.size = w.heap.size + 1 := by rw [hw1]; simp
  rw [show ∀ a b c : Value, [a, b, c].toArray = #[a, b, c] from fun _ _ _ => rfl, ← hw1] at hbx
  rw [← hw1]
  clear hw1
  have hX : WrX w1 w.heap.size none 0 0 [] [] 0 := ⟨⟨hbx, Own.nil_, by simp⟩, Wst.nil_⟩
  have hP := rd_parts w1 144 [.fix k 4, .fix 1 4] 2 rfl (by omega) _ rfl
  have hX2 := hX.s.of ((Below.refl _ _).alloc (Nat.le_refl _) (.cells [ptVal (.fix k 4), ptVal (.fix 1 4)].toArray 144))
  have kW := snp_write w.heap.size none 0 0 [] [] 0 _ 2 2 _ _ ⟨hX2, Wst.nil_⟩ hP (by omega) (fun p hp => by
    simp only [List.mem_cons, List.not_mem_nil, or_false] at hp
    rcases hp with rfl | rfl
    · exact ⟨by omega, by omega, by omega⟩
    · exact ⟨by omega, by decide, by decide⟩) (fun b o e => by
    injection e with e; injection e with e _; subst e
    exact ⟨by omega, by simp [Value.ownBlock]⟩)
  have hw2 : Below w1.heap.size w1 (w1.alloc (.cells [ptVal (.fix k 4), ptVal (.fix 1 4)].toArray 144)) := (Below.refl _ _).alloc (Nat.le_refl _) _
  rw [hsz] at kW
  have hXs := Lib.hid hX2
  have hsz' := Lib.hid hsz
  clear hX hX2 hP hsz
  go_at_call 51
  refine kW.mono ?_
  rintro e w3 ⟨A3, n3, c3, T3, e3, rfl, hX3, hK3⟩
  go_wp2_with fail
  go_ret
  refine ⟨_, A3, n3, c3, T3, e3, rfl, hX3, Nat.le_refl _, ?_⟩
  exact (hb1.trans (hw2.mono (by have := hsz'.out; omega))).trans ((hK3.below hXs.out (Nat.le_refl _)))
theorem endL_no {X : List Bool} (h : endE X ≠ 0) : endL X = [] := by
  unfold endE at h
  unfold endL
  by_cases k : X.length ≤ 524288
  · rw [if_pos k] at h; exact absurd rfl h
  · rw [if_neg k]
set_option maxHeartbeats 4000000 in
theorem snp_end (bw : Nat) (A : Option Addr) (n c : Nat) (X T : List Bool) (er : Int) (w : World) (hX : WrX w bw A n c X T er) :
    Calls Tryz.prog 37 #[.pointer (some ⟨bw, 0, none⟩)] w fun e w' => ∃ A' n' c', e = .returned (.tuple #[.slice A' n' c', .int .i64 (endE X)]) ∧ Rd encU 1 w' A' n' (endL X) ∧ Below w.heap.size w w' := by
  obtain ⟨h1, h2⟩ := hX.x.end_
  have hSh := Lib.hid hX.s
  obtain ⟨hbw, b0, b1, b2, f0, f1, f2⟩ := hX.s.box.open3'
  rw [← h1]
  clear hX
  by_cases he : er = 0
  · have h3 := Lib.hid (h2 he)
    subst he
    clear h1 h2
    go_enter Tryz.func37, Tryz.ntmps37
    go_wp2_with fail
    go_at_call 83
    refine (bio_WBytes bw A n c T 0 _ hSh.out).mono ?_
    rintro e w1 ⟨A', c', rfl, hR, hb⟩
    rw [h3.out] at hR
    go_wp2_with fail
    refine bodyPost_ret (v := .tuple #[.slice A' n c', .int .i64 0]) (by simp [results, Tryz.results37, go_sem, *, ↓IntWalk.iteOmega]) rfl ?_
    exact ⟨A', n, c', rfl, hR, hb⟩
  · have h3 := Lib.hid (endL_no (X := X) (by rw [← h1]; exact he))
    have d1 : (er == 0) = false := by simpa using he
    have d2 : (er != 0) = true := by simpa using he
    clear h1 h2 hSh he
    go_enter Tryz.func37, Tryz.ntmps37
    go_wp2_with fail
    (refine wp_region_ext_lit (by kernel_rfl) (by kernel_rfl) ?_; (repeat (go_big_quiet_step (fail))); refine wpQuiet_nil ?_; intro _ hw'; obtain ⟨z1, hw''⟩ := hw'; subst hw''; have hs1 := z1.size; obtain ⟨hc1, hf1⟩ := bcell z1.below; (try simp only [World.size_alloc, World.size_setCell, World.size_drew] at hc1 hf1); (try simp at hs1))
    go_wp2_with fail
    refine bodyPost_ret (v := .tuple #[.slice none 0 0, .int .i64 er]) (by simp [results, Tryz.results37, go_sem, *, ↓IntWalk.iteOmega]) rfl ?_
    exact ⟨none, 0, 0, rfl, by rw [h3.out]; exact Rd.nil_, by (repeat' (first | exact Below.refl _ _ | assumption | (refine Below.alloc ?_ ?_ _) | (refine Below.setCell ?_ ?_ _) | (refine Below.drew ?_) | (refine below_drewN ?_ _) | (refine below_after (Ext.below _) ?_ ?_) | (refine below_after (by assumption) ?_ ?_) | (simp; done) | omega | (simp; omega)))⟩
set_option maxHeartbeats 16000000 in
theorem snp_cells1 (bx : Nat) (PA : Option Addr) (n c i : Nat) (l : List (Int × Int × Int)) (x y : Int) (s : Nat) (w : World) (hR : Rd encC 3 w PA n l) (hx : w.cell? ⟨bx, 0, none⟩ = some (.slice PA n c)) (hbx : bx < w.heap.size) (hi : l[i]? = some (x, y, (s : Int))) :
    Calls Tryz.prog 82 #[.int .i64 (i : Int), .pointer (some ⟨bx, 0, none⟩)] w fun e w' => ∃ sb, e = .returned (.tuple #[.agg #[.int .i64 x, .int .i64 y], .slice (some ⟨sb, 0, none⟩) 1 1]) ∧ Rd encPt 1 w' (some ⟨sb, 0, none⟩) 1 [.fix s 3] ∧ w.heap.size ≤ sb ∧ Below w.heap.size w w' := by
  have hil : i < n := by rw [← hR.len]; exact (List.getElem?_eq_some_iff.1 hi).1
  obtain ⟨x', y', s', b, o, h1, rfl, hb, c0, c1, c2⟩ := hR.cell hil
  have h1' := h1.out
  rw [hi] at h1'
  injection h1' with h1'
  injection h1' with e1 h1'
  injection h1' with e2 e3
  subst e1 e2 e3
  have i0 : (0 : Int) ≤ (i : Int) := by omega
  have i1 : (i : Int) < (n : Int) := by omega
  clear hR hi h1
  have hP : Hid (Rd encPt 1 ((w.alloc (.cells #[.int .i64 x, .int .i64 y] 66)).alloc (.cells #[.iface 96 (.agg #[.int .i64 (s : Int), .int .i64 3])] 144)) (some ⟨w.heap.size + 1, 0, none⟩) 1 [.fix s 3]) := by
    have h := rd_parts (w.alloc (.cells #[.int .i64 x, .int .i64 y] 66)) 144 [.fix s 3] 1 rfl (by omega) _ rfl
    rw [World.size_alloc] at h
    exact h
  go_enter Tryz.func82, Tryz.ntmps82
  go_upto_region 1 with (fail)
  go_region_held3 (fun w' => w'.cell? ⟨bx, 0, none⟩ = some (.slice (some ⟨b, o, none⟩) n c) ∧ w'.cell? ⟨b, o + i * 3, none⟩ = some (.int .i64 x) ∧ w'.cell? ⟨b, o + i * 3 + 1, none⟩ = some (.int .i64 y) ∧ w'.cell? ⟨b, o + i * 3 + 2, none⟩ = some (.int .i64 (s : Int)))
    (((try go_split_ands); refine ⟨?_, ?_, ?_, ?_⟩ <;> first | go_keep | (rw [cell_setCell_if, if_neg (by omega)]; go_keep))) (fail)
  all_goals
    go_wp2_with fail
    refine bodyPost_ret (v := .tuple #[.agg #[.int .i64 x, .int .i64 y], .slice (some ⟨w.heap.size + 1, 0, none⟩) 1 1]) (by simp [results, Tryz.results82, go_sem, *, ↓IntWalk.iteOmega]) rfl ?_
    exact ⟨_, rfl, hP.out.drew, by omega, by (repeat' (first | exact Below.refl _ _ | assumption | (refine Below.alloc ?_ ?_ _) | (refine Below.setCell ?_ ?_ _) | (refine Below.drew ?_) | (refine below_drewN ?_ _) | (refine below_after (Ext.below _) ?_ ?_) | (refine below_after (by assumption) ?_ ?_) | (simp; done) | omega | (simp; omega)))⟩
set_option maxHeartbeats 16000000 in
theorem snp_changes1 (bx : Nat) (PA : Option Addr) (n c i : Nat) (l : List Chg) (x y : Int) (s t : Nat) (w : World) (hR : Rd encG 4 w PA n l) (hx : w.cell? ⟨bx, 0, none⟩ = some (.slice PA n c)) (hbx : bx < w.heap.size) (hi : l[i]? = some (x, y, (s : Int), (t : Int))) :
    Calls Tryz.prog 107 #[.int .i64 (i : Int), .pointer (some ⟨bx, 0, none⟩)] w fun e w' => ∃ sb, e = .returned (.tuple #[.agg #[.int .i64 x, .int .i64 y], .slice (some ⟨sb, 0, none⟩) 2 2]) ∧ Rd encPt 1 w' (some ⟨sb, 0, none⟩) 2 [.fix s 3, .fix t 3] ∧ w.heap.size ≤ sb ∧ Below w.heap.size w w' := by
  have hil : i < n := by rw [← hR.len]; exact (List.getElem?_eq_some_iff.1 hi).1
  obtain ⟨x', y', s', t', b, o, h1, rfl, hb, c0, c1, c2, c3⟩ := hR.chg hil
  have h1' := h1.out
  rw [hi] at h1'
  injection h1' with h1'
  injection h1' with e1 h1'
  injection h1' with e2 h1'
  injection h1' with e3 e4
  subst e1 e2 e3 e4
  have i0 : (0 : Int) ≤ (i : Int) := by omega
  have i1 : (i : Int) < (n : Int) := by omega
  clear hR hi h1
  have hP : Hid (Rd encPt 1 ((w.alloc (.cells #[.int .i64 x, .int .i64 y] 66)).alloc (.cells #[.iface 96 (.agg #[.int .i64 (s : Int), .int .i64 3]), .iface 96 (.agg #[.int .i64 (t : Int), .int .i64 3])] 144)) (some ⟨w.heap.size + 1, 0, none⟩) 2 [.fix s 3, .fix t 3]) := by
    have h := rd_parts (w.alloc (.cells #[.int .i64 x, .int .i64 y] 66)) 144 [.fix s 3, .fix t 3] 2 rfl (by omega) _ rfl
    rw [World.size_alloc] at h
    exact h
  go_enter Tryz.func107, Tryz.ntmps107
  go_upto_region 1 with (fail)
  go_region_held3 (fun w' => w'.cell? ⟨bx, 0, none⟩ = some (.slice (some ⟨b, o, none⟩) n c) ∧ w'.cell? ⟨b, o + i * 4, none⟩ = some (.int .i64 x) ∧ w'.cell? ⟨b, o + i * 4 + 1, none⟩ = some (.int .i64 y) ∧ w'.cell? ⟨b, o + i * 4 + 2, none⟩ = some (.int .i64 (s : Int)) ∧ w'.cell? ⟨b, o + i * 4 + 3, none⟩ = some (.int .i64 (t : Int)))
    (((try go_split_ands); refine ⟨?_, ?_, ?_, ?_, ?_⟩ <;> first | go_keep | (rw [cell_setCell_if, if_neg (by omega)]; go_keep))) (fail)
  all_goals
    go_wp2_with fail
    refine bodyPost_ret (v := .tuple #[.agg #[.int .i64 x, .int .i64 y], .slice (some ⟨w.heap.size + 1, 0, none⟩) 2 2]) (by simp [results, Tryz.results107, go_sem, *, ↓IntWalk.iteOmega]) rfl ?_
    exact ⟨_, rfl, hP.out.drew, by omega, by (repeat' (first | exact Below.refl _ _ | assumption | (refine Below.alloc ?_ ?_ _) | (refine Below.setCell ?_ ?_ _) | (refine Below.drew ?_) | (refine below_drewN ?_ _) | (refine below_after (Ext.below _) ?_ ?_) | (refine below_after (by assumption) ?_ ?_) | (simp; done) | omega | (simp; omega)))⟩
end Go.Proofs.YtmenokhnanghgaaGreat
end
section
namespace Go.Proofs.YtmenokhnanghgaaGreat
open Go Go.RowKit
section
variable {w w' w0 : World} {bw : Nat} {A A' A0 : Option Addr} {n c n' c' n0 c0 : Nat} {T X : List Bool} {e : Int}
theorem WrK.rd {α : Type} {enc : α → List Value} {k m : Nat} {PA : Option Addr} {l : List α} (h : WrK w bw A n c w' A' n' c') (hR : Rd enc k w PA m l) (hp : 0 < m → ∀ b o, PA = some ⟨b, o, none⟩ → b ≠ bw ∧ (Value.slice A n c).ownBlock ≠ some b ∧ b < w.heap.size) :
    Rd enc k w' PA m l ∧ (0 < m → ∀ b o, PA = some ⟨b, o, none⟩ → b ≠ bw ∧ (Value.slice A' n' c').ownBlock ≠ some b ∧ b < w'.heap.size) := by
  have key : 0 < m → ∀ b o, PA = some ⟨b, o, none⟩ → b ≠ bw ∧ (Value.slice A' n' c').ownBlock ≠ some b ∧ b < w'.heap.size := by
    intro hm b o he
    obtain ⟨h1, h2, h3⟩ := hp hm b o he
    refine ⟨h1, fun k => ?_, Nat.lt_of_lt_of_le h3 h.fr.size⟩
    rcases h.loc with hl | ⟨g, hl, hg⟩
    · rw [hl] at k; exact h2 k
    · rw [hl] at k; injection k with k; omega
  refine ⟨⟨hR.1, fun hn => ?_⟩, key⟩
  obtain ⟨b, o, he, hb, hc⟩ := hR.2 hn
  obtain ⟨h1, h2, h3⟩ := hp hn b o he
  have hbl := h.fr.block b hb (fun k => by rcases k with k | k; exact h1 k; exact h2 k)
  exact ⟨b, o, he, Nat.lt_of_lt_of_le hb h.fr.size, fun i x hi j u hu => (World.cell?_of_block hbl).trans (hc i x hi j u hu)⟩
theorem WrX.of (h : WrX w bw A n c X T e) (hb : Below w.heap.size w w') : WrX w' bw A n c X T e := ⟨h.s.of hb, h.x⟩
theorem WrX.row (h : WrX w bw A n c X T e) : ∀ q, (Value.slice A n c).ownBlock = some q → bw < q ∧ q < w.heap.size := fun q hq => by
  have := h.s.row.row.lt q hq; exact ⟨by omega, this.2⟩
theorem WrX.new (h : WrX w bw A n c X T e) {b : Nat} (hb : w.heap.size ≤ b) : b ≠ bw ∧ (Value.slice A n c).ownBlock ≠ some b :=
  ⟨by have := h.s.box.1; omega, fun k => by have := (h.row b k).2; omega⟩
theorem WrX.off (h : WrX w bw A n c X T e) {b : Nat} (i : Nat) (v : Value) (h1 : b ≠ bw) (h2 : (Value.slice A n c).ownBlock ≠ some b) : WrX (w.setCell ⟨b, i, none⟩ v) bw A n c X T e :=
  ⟨⟨h.s.box.off i v h1, h.s.row.over2 (grownBy_set w b i v) (fun q hq k => by injection k with k; exact h2 (by rw [k]; exact hq)), h.s.le⟩, h.x⟩
theorem WrK.off (h : WrK w0 bw A0 n0 c0 w A n c) {b : Nat} (i : Nat) (v : Value) (hb : w0.heap.size ≤ b) : WrK w0 bw A0 n0 c0 (w.setCell ⟨b, i, none⟩ v) A n c :=
  ⟨h.fr.grown (grownBy_set w b i v) (fun q k => by injection k with k; exact .inr (by omega)), h.loc⟩
end
theorem ptsB_two (p q : PartV) : ptsB [p, q] = p.bits ++ q.bits := by unfold ptsB; simp
theorem ptsB_one (p : PartV) : ptsB [p] = p.bits := by unfold ptsB; simp
/-- The parts of a place. -/
theorem plc_first (x y b c : Int) : plcB true b c x y = ptsB [.sgn x, .sgn y] := by rw [ptsB_two]; unfold plcB; rw [if_pos rfl]; rfl
theorem plc_line (x y b : Int) : plcB false b y x y = ptsB [.gam 0, .gam (x - b - 1).toNat] := by rw [ptsB_two]; unfold plcB; rw [if_neg (by simp), if_pos rfl]; rfl
theorem plc_next (x y b c : Int) (h : y ≠ c) : plcB false b c x y = ptsB [.gam (y - c).toNat, .sgn x] := by rw [ptsB_two]; unfold plcB; rw [if_neg (by simp), if_neg h]; rfl
theorem ok_two {p q : PartV} (h1 : p.ok) (h2 : q.ok) : ∀ r ∈ [p, q], r.ok := by
  intro r hr
  simp only [List.mem_cons, List.not_mem_nil, or_false] at hr
  rcases hr with rfl | rfl
  · exact h1
  · exact h2
theorem ok_one {p : PartV} (h1 : p.ok) : ∀ r ∈ [p], r.ok := by
  intro r hr
  rw [List.mem_singleton] at hr
  rw [hr]; exact h1
theorem ok_three {v : Nat} (h : v ≤ 7) : (PartV.fix v 3).ok := ⟨by omega, by omega, by omega⟩
theorem ok_gam {n : Nat} (h : n ≤ 10000000) : (PartV.gam n).ok := by show n < _; omega
theorem ok_sgn {x : Int} (h : -10000000 ≤ x ∧ x ≤ 10000000) : (PartV.sgn x).ok := by show _ ∧ _; omega
theorem snp_beforeC {l : List Cel} {i : Nat} {x y s : Int} (hr : rightC l = true) (hs : SSC l) (h : l[i + 1]? = some (x, y, s)) :
    (-1048576 ≤ (prvL psC l (i + 1)).1 ∧ (prvL psC l (i + 1)).1 ≤ 1048576 ∧ -1048576 ≤ (prvL psC l (i + 1)).2 ∧ (prvL psC l (i + 1)).2 ≤ 1048576) ∧ ((prvL psC l (i + 1)).2 < y ∨ (prvL psC l (i + 1)).2 = y ∧ (prvL psC l (i + 1)).1 < x) := by
  have hi1 := (List.getElem?_eq_some_iff.1 h).1
  obtain ⟨a, ha⟩ : ∃ a, l[i]? = some a := ⟨_, List.getElem?_eq_getElem (by omega)⟩
  rw [prvL_succ ha]
  have hb := (rightC_elem hr ha).1
  unfold Pt at hb
  unfold SSC at hs
  rw [List.pairwise_iff_getElem] at hs
  rw [List.getElem?_eq_getElem (by omega)] at ha h
  injection ha with ha
  injection h with h
  have := hs i (i + 1) (by omega) hi1 (by omega)
  rw [ha, h] at this
  unfold cBef befP at this
  rw [decide_eq_true_eq] at this
  unfold psC
  exact ⟨hb, by simpa using this⟩
theorem snp_beforeG {l : List Chg} {i : Nat} {x y s t : Int} (hr : rightG l = true) (hs : SSG l) (h : l[i + 1]? = some (x, y, s, t)) :
    (-1048576 ≤ (prvL psG l (i + 1)).1 ∧ (prvL psG l (i + 1)).1 ≤ 1048576 ∧ -1048576 ≤ (prvL psG l (i + 1)).2 ∧ (prvL psG l (i + 1)).2 ≤ 1048576) ∧ ((prvL psG l (i + 1)).2 < y ∨ (prvL psG l (i + 1)).2 = y ∧ (prvL psG l (i + 1)).1 < x) := by
  have hi1 := (List.getElem?_eq_some_iff.1 h).1
  obtain ⟨a, ha⟩ : ∃ a, l[i]? = some a := ⟨_, List.getElem?_eq_getElem (by omega)⟩
  rw [prvL_succ ha]
  have hb := (rightG_elem hr ha).1
  unfold Pt at hb
  unfold SSG at hs
  rw [List.pairwise_iff_getElem] at hs
  rw [List.getElem?_eq_getElem (by omega)] at ha h
  injection ha with ha
  injection h with h
  have := hs i (i + 1) (by omega) hi1 (by omega)
  rw [ha, h] at this
  unfold gBef befP at this
  rw [decide_eq_true_eq] at this
  unfold psG
  exact ⟨hb, by simpa using this⟩
/-- A new block's parts behind another new block. -/
theorem rd_two (w : World) (o : Obj) (e : TypeId) (l : List PartV) (n : Nat) (hn : l.length = n) (hm : n ≤ 1000000) (cs : List Value) (hcs : cs = l.flatMap encPt) : Rd encPt 1 ((w.alloc o).alloc (.cells cs.toArray e)) (some ⟨w.heap.size + 1, 0, none⟩) n l := by
  have h := rd_parts (w.alloc o) e l n hn hm cs hcs
  rw [World.size_alloc] at h
  exact h
end Go.Proofs.YtmenokhnanghgaaGreat
end
