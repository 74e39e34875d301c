/- The contract of the reference's Spread. -/
import Derived.Test.YtnhapgbjaeaamaaGreatDoorPrbR
import Derived.Test.YtnhapgbjaeaamaaGreatDoorPRA
import Derived.Test.YtnhapgbjaeaamaaGreatDoorPRZ
namespace Go.Proofs.YtnhapgbjaeaamaaGreatDoor
open Go Go.RowKit
set_option linter.unusedSimpArgs false
set_option linter.unusedVariables false
set_option maxRecDepth 100000
set_option linter.unusedSimpArgs false
set_option linter.unusedVariables false
/-- The states, the first i of them set. -/
def spP (M : Nat) (F l orbs : List Int) (n i : Nat) : List Int := (List.range M).map fun t => if t < i then lastM F l (orbs.getD t 0) n else 0
theorem spP_len {M n i : Nat} {F l orbs : List Int} : (spP M F l orbs n i).length = M := by simp [spP]
theorem spP_zero {M n : Nat} {F l orbs : List Int} : spP M F l orbs n 0 = List.replicate M 0 := by
  unfold spP
  apply List.ext_getElem?
  intro t
  rw [List.getElem?_map, List.getElem?_replicate]
  by_cases h : t < M
  · rw [List.getElem?_range h, if_pos h]; rfl
  · rw [List.getElem?_eq_none (by simp; omega), if_neg h]; rfl
theorem spP_set0 {M n i : Nat} {F l orbs : List Int} : (spP M F l orbs n i).set i 0 = spP M F l orbs n i := by
  apply List.ext_getElem?
  intro t
  rw [List.getElem?_set]
  by_cases e : i = t
  · subst e
    rw [if_pos rfl, spP_len]
    unfold spP
    rw [List.getElem?_map]
    by_cases h : i < M
    · rw [if_pos h, List.getElem?_range h]; simp
    · rw [if_neg h, List.getElem?_eq_none (by simp; omega)]; rfl
  · rw [if_neg e]
theorem spP_next {M n i : Nat} {F l orbs : List Int} : (spP M F l orbs n i).set i (lastM F l (orbs.getD i 0) n) = spP M F l orbs n (i + 1) := by
  apply List.ext_getElem?
  intro t
  rw [List.getElem?_set]
  by_cases e : i = t
  · subst e
    rw [if_pos rfl, spP_len]
    unfold spP
    rw [List.getElem?_map]
    by_cases h : i < M
    · rw [if_pos h, List.getElem?_range h]; simp
    · rw [if_neg h, List.getElem?_eq_none (by simp; omega)]; rfl
  · rw [if_neg e]
    unfold spP
    rw [List.getElem?_map, List.getElem?_map]
    by_cases h : t < M
    · rw [List.getElem?_range h]
      simp only [Option.map_some]
      by_cases h2 : t < i
      · rw [if_pos h2, if_pos (by omega)]
      · rw [if_neg h2, if_neg (by omega)]
    · rw [List.getElem?_eq_none (by simp; omega)]; rfl
theorem spP_all {a b n : Nat} {S F l orbs : List Int} : spP (b * a) F l orbs n (b * a) = sprL a b S F l n orbs := by
  unfold spP sprL
  refine List.map_congr_left fun t ht => ?_
  rw [if_pos (List.mem_range.1 ht)]
theorem spP_round {M n i : Nat} {F l orbs : List Int} (q : Int) : ((spP M F l orbs n i).set i q).set i (lastM F l (orbs.getD i 0) n) = spP M F l orbs n (i + 1) := by
  rw [List.set_set]; exact spP_next
theorem lastM_yes {F l : List Int} {v x y : Int} {k : Nat} (h : F[k]? = some x) (hl : l[k]? = some y) (e : x = v) : lastM F l v (k + 1) = y := by
  show (if F.getD k 0 = v then l.getD k 0 else lastM F l v k) = y
  rw [getD_some h, if_pos e, getD_some hl]
theorem lastM_no {F l : List Int} {v x : Int} {k : Nat} (h : F[k]? = some x) (e : x ≠ v) : lastM F l v (k + 1) = lastM F l v k := by
  show (if F.getD k 0 = v then l.getD k 0 else lastM F l v k) = _
  rw [getD_some h, if_neg e]
set_option maxHeartbeats 8000000 in
theorem ref44_Spread (a b : Nat) (G DX DY : Int) (S l : List Int) (P D : Option Addr) (ns cs n e : Nat) (w : World) (hM : Mx w) (hR : Rd encI 1 w P ns S) (hns : ns ≤ 1000000) (hl : Rd encI 1 w D n l) (ho : PrbOk a b G DX DY S) (hn : (freL a b G DX DY S).length = n) :
    Calls Tryz.prog 25 #[.agg #[.int .i64 (a : Int), .int .i64 (b : Int), .int .i64 G, .int .i64 DX, .int .i64 DY, .slice P ns cs], .slice D n e] w fun e' w' => ∃ A2, e' = .returned (.slice A2 (b * a) (b * a)) ∧ Rd encI 1 w' A2 (b * a) (sprL a b S (freL a b G DX DY S) l n (orbP a b S)) ∧ Below w.heap.size w w' := by
  have ha : 1 ≤ a ∧ a ≤ 16 := by have := ho.w; omega
  have hb : 1 ≤ b ∧ b ≤ 16 := by have := ho.h; omega
  have hab := ho.a
  rw [← spP_all]
  obtain ⟨M, hM1⟩ : ∃ M, b * a = M := ⟨_, rfl⟩
  have q2 : (a : Int) * (b : Int) = (M : Int) := by rw [← hM1, Nat.mul_comm]; exact (Int.natCast_mul a b).symm
  have hM16 : M ≤ 16 := by omega
  have kO := fun w1 h2 => ref_Orbits_yes P ns cs S a b w1 h2 (by omega) (by omega) (by omega) (by rw [q2]; omega) (by by_cases e : (a : Int) = b; exact .inl e; exact .inr (syms_grp ho.s e))
  have kF := fun w1 h1 h2 => ref44_Free a b G DX DY S P ns cs w1 h1 h2 hns
  rw [box_iff.2 ho] at kF
  have hLl : (orbP a b S).length = M := by unfold orbP; rw [orb_len, hM1]
  have hLd : orbP a b S = orb (wF (a : Int) (b : Int)) (grp S) a M := by unfold orbP; rw [hM1]
  rw [hM1] at kO ⊢
  rw [← hLd] at kO
  generalize orbP a b S = L at kO hLl ⊢
  generalize freL a b G DX DY S = F at kF hn ⊢
  have e2 : IntKind.i64.wrap ((a : Int) * (b : Int)) = (M : Int) := by rw [q2]; exact IntWalk.i64_in _ (by omega)
  have e2' : wrap64 ((a : Int) * (b : Int)) = (M : Int) := by rw [q2]; unfold wrap64; omega
  have hmk := fun w => run_make_ints Tryz.underlying26 M (by clear e2 e2'; omega) w
  clear hLd q2 hM1 hab ho
  replace hLl := Lib.hid hLl
  go_enter Tryz.func25, Tryz.ntmps25
  go_wp2_with fail
  have hbx := PbAt.new w (a : Int) (b : Int) G DX DY (.slice P ns cs) 28
  have hbe : Below w.heap.size w (w.alloc (.cells #[.int .i64 (a : Int), .int .i64 (b : Int), .int .i64 G, .int .i64 DX, .int .i64 DY, .slice P ns cs] 28)) := (Below.refl _ _).alloc (Nat.le_refl _) _
  obtain ⟨we, hwe⟩ : ∃ we, we = w.alloc (.cells #[.int .i64 (a : Int), .int .i64 (b : Int), .int .i64 G, .int .i64 DX, .int .i64 DY, .slice P ns cs] 28) := ⟨_, rfl⟩
  have hsw : we.heap.size = w.heap.size + 1 := by rw [hwe]; simp
  rw [← hwe] at hbx hbe ⊢
  clear hwe
  replace hR := hR.of hbe
  replace hM := hM.of hbe
  replace hl := hl.of hbe
  obtain ⟨hbs, p0, p1, p2, p3, p4, p5⟩ := hbx.open
  go_wp2_with fail
  go_at_call 30
  refine (kO _ hR).mono ?_
  rintro e1 w1 ⟨Q, cq, rfl, hQ, hb1⟩
  have hs1 := hb1.size
  clear p0 p1 p2 p3 p4 p5
  replace hbx := hbx.of hb1
  replace hR := hR.of hb1
  replace hM := hM.of hb1
  replace hl := hl.of hb1
  obtain ⟨hbs, p0, p1, p2, p3, p4, p5⟩ := hbx.open
  go_wp2_with fail
  go_at_call 11
  refine (kF _ hM hR).mono ?_
  rintro e3 w3 ⟨E, n2, c2, rfl, hE, hn2, hc2, hb3⟩
  have hs3 := hb3.size
  obtain rfl : n2 = n := by rw [← hE.len]; exact hn
  clear p0 p1 p2 p3 p4 p5 hn
  replace hbx := hbx.of hb3
  replace hl := hl.of hb3
  replace hQ := hQ.of hb3
  have hB3 : Below w.heap.size w w3 := below_thru hbe (hb1.trans (hb3.mono hs1))
  obtain ⟨hbs, p0, p1, p2, p3, p4, p5⟩ := hbx.open
  have hO0 := own_made w3 3 w3.heap.size (Nat.le_refl _) M (by clear e2 e2'; omega)
  rw [← spP_zero (n := n2) (F := F) (l := l) (orbs := L)] at hO0
  clear hR hM hb1 hb3 hbe kO kF
  go_wp2_with fail
  clear p0 p1 p2 p3 p4 p5 hbx hmk e2 e2'
  go_loopw [10] (fun t wr => ∃ j : Nat, t = .int .i64 j ∧ j ≤ M ∧ Own encI 1 3 w3.heap.size wr (some ⟨w3.heap.size, 0, none⟩) M M (spP M F l L n2 j) ∧ Below w3.heap.size w3 wr) (fun t _ => M - (intOf t).toNat)
  case atStart => exact ⟨0, rfl, by omega, hO0, (Below.refl _ _).alloc (Nat.le_refl _) _⟩
  case round =>
    clear hO0
    obtain ⟨j, rfl, hj, hO, hb⟩ := hrel
    have hsz := hb.size
    by_cases hlj : j < M
    · have dj : decide ((j : Int) < M) = true := decide_eq_true (by omega)
      have dj' : decide (j < M) = true := decide_eq_true hlj
      obtain ⟨v, bq, oq, hxq, rfl, hbq, hgq⟩ := hQ.int hlj
      have hst := Lib.hid (show ∀ q, ((spP M F l L n2 j).set j q).set j (lastM F l v n2) = spP M F l L n2 (j + 1) from fun q => by have := spP_round (M := M) (n := n2) (i := j) (F := F) (l := l) (orbs := L) q; rwa [getD_some hxq.out] at this)
      rw [← spP_set0] at hO
      generalize spP M F l L n2 j = R0 at hO hst
      obtain ⟨wj, hwj⟩ : ∃ wj, wj = wr := ⟨_, rfl⟩
      rw [← hwj] at hO hb hsz ⊢
      clear hwj
      go_wp2_with fail
      go_loopw [11] (fun t wr => ∃ k : Nat, t = .int .i64 k ∧ k ≤ n2 ∧ Own encI 1 3 w3.heap.size wr (some ⟨w3.heap.size, 0, none⟩) M M (R0.set j (lastM F l v k)) ∧ Below w3.heap.size w3 wr) (fun t _ => n2 - (intOf t).toNat)
      case atStart => exact ⟨0, rfl, by omega, hO, hb⟩
      case round =>
        clear hO hb hsz
        obtain ⟨k, rfl, hk, hO, hb⟩ := hrel
        have hsz := hb.size
        by_cases hlk : k < n2
        · have dk : decide ((k : Int) < n2) = true := decide_eq_true (by omega)
          have dk' : decide (k < n2) = true := decide_eq_true hlk
          obtain ⟨x, bx, ox, hx, rfl, hbx, hgx⟩ := (hE.of hb).int hlk
          obtain ⟨y, by_, oy, hy, rfl, hby, hgy⟩ := (hl.of hb).int hlk
          have hgq' := hb.cell (p := ⟨bq, oq + j, none⟩) (by exact hbq)
          rw [hgq] at hgq'
          have hbq' : bq < wr.heap.size := by omega
          by_cases hxv : x = v
          · have t0 : (x == v) = true := by simpa using hxv
            have hst2 := Lib.hid (lastM_yes hx.out hy.out hxv)
            obtain ⟨u, _, hg0, hc0, hz0, _, _⟩ := hO.intCell hlj
            clear hxv
            go_wp2_with fail
            (refine wp_region_ext_lit (by kernel_rfl) (by kernel_rfl) ?_; (repeat (go_big_quiet_step (fail))); refine wpQuiet_nil ?_; intro _ hw'; obtain ⟨z7, hw''⟩ := hw'; subst hw''; have hs7 := z7.size; obtain ⟨hc7, hf7⟩ := bcell z7.below; (try simp only [World.size_alloc, World.size_setCell, World.size_drew] at hc7 hf7); (try simp at hs7))
            go_wp2_with fail
            go_roundw
            case rel => exact ⟨k + 1, by go_num, by omega, by have := own_setI (hO.of z7.below) hlj y; rw [List.set_set] at this; rw [hst2.out]; exact this, by (repeat' (first | exact Below.refl _ _ | assumption | (refine Below.alloc ?_ ?_ _) | (refine Below.setCell ?_ ?_ _) | (refine Below.drew ?_) | (refine below_drewN ?_ _) | (refine below_after (Ext.below _) ?_ ?_) | (refine below_after (by assumption) ?_ ?_) | (simp; done) | omega | (simp; omega)))⟩
            case measure => simp [intOf]; omega
          · have t0 : (x == v) = false := by simpa using hxv
            have hst2 := Lib.hid (lastM_no (l := l) hx.out hxv)
            clear hxv
            go_wp2_with fail
            (refine wp_region_ext_lit (by kernel_rfl) (by kernel_rfl) ?_; (repeat (go_big_quiet_step (fail))); refine wpQuiet_nil ?_; intro _ hw'; obtain ⟨z7, hw''⟩ := hw'; subst hw''; have hs7 := z7.size; obtain ⟨hc7, hf7⟩ := bcell z7.below; (try simp only [World.size_alloc, World.size_setCell, World.size_drew] at hc7 hf7); (try simp at hs7))
            go_wp2_with fail
            go_roundw
            case rel => exact ⟨k + 1, by go_num, by omega, by rw [hst2.out]; exact hO.of z7.below, by (repeat' (first | exact Below.refl _ _ | assumption | (refine Below.alloc ?_ ?_ _) | (refine Below.setCell ?_ ?_ _) | (refine Below.drew ?_) | (refine below_drewN ?_ _) | (refine below_after (Ext.below _) ?_ ?_) | (refine below_after (by assumption) ?_ ?_) | (simp; done) | omega | (simp; omega)))⟩
            case measure => simp [intOf]; omega
        · obtain rfl : k = n2 := by omega
          have dk : decide ((k : Int) < k) = false := decide_eq_false (by omega)
          have dk' : decide (k < k) = false := decide_eq_false (by omega)
          go_wp2_with fail
          go_roundw
          case rel => exact ⟨j + 1, by go_num, by omega, by have := hst.out 0; rw [List.set_set] at this; rw [← this]; exact hO, by (repeat' (first | exact Below.refl _ _ | assumption | (refine Below.alloc ?_ ?_ _) | (refine Below.setCell ?_ ?_ _) | (refine Below.drew ?_) | (refine below_drewN ?_ _) | (refine below_after (Ext.below _) ?_ ?_) | (refine below_after (by assumption) ?_ ?_) | (simp; done) | omega | (simp; omega)))⟩
          case measure => simp [intOf]; omega
    · obtain rfl : j = M := by omega
      have dj : decide ((j : Int) < j) = false := decide_eq_false (by omega)
      have dj' : decide (j < j) = false := decide_eq_false (by omega)
      go_wp2_with fail
      go_ret
      exact ⟨_, rfl, hO.rd encI_len, below_thru hB3 hb⟩
end Go.Proofs.YtnhapgbjaeaamaaGreatDoor
