/- gridstep.next at a torus of 32 by 32. -/
import Derived.Test.YtellglbmbocgkaaGreatDoorTorA
import Derived.Test.YtellglbmbocgkaaGreatDoorTRE
namespace Go.Proofs.YtellglbmbocgkaaGreatDoor
open Go Go.RowKit
set_option linter.unusedSimpArgs false
set_option linter.unusedVariables false
set_option maxRecDepth 100000
set_option linter.unusedSimpArgs false
set_option linter.unusedVariables false
theorem own_intT {e : TypeId} {B : Nat} {w : World} {g n c : Nat} {l : List Int} (h : Own encI 1 e B w (some ⟨g, 0, none⟩) n c l) {i : Nat} (hi : i < n) : ∃ x, g < w.heap.size ∧ w.cell? ⟨g, i, none⟩ = some (.int .i64 x) ∧ w.frozen? ⟨g, i, none⟩ = false := by
  obtain ⟨x, b, o, h1, h2, h3, h4⟩ := (h.rd encI_len).int hi
  injection h2 with h2
  injection h2 with h2 h5
  subst h2 h5
  rw [Nat.zero_add] at h4
  exact ⟨x, h3, h4, h.row.frozenAt i⟩
theorem rd_setT {w : World} {g b i n : Nat} {v : Value} {l : List Int} (h : Rd encI 1 w (some ⟨g, 0, none⟩) n l) (hb : b < g) : Rd encI 1 (w.setCell ⟨b, i, none⟩ v) (some ⟨g, 0, none⟩) n l := by
  refine ⟨h.1, fun hn => ?_⟩
  obtain ⟨b', o, e, hlt, hc⟩ := h.2 hn
  injection e with e
  injection e with e1 e2
  subst e1 e2
  refine ⟨g, 0, rfl, by simpa [World.setCell] using hlt, fun i x hi j u hu => ?_⟩
  rw [cell_setCell_if, if_neg (by omega)]
  exact hc i x hi j u hu
theorem rd_set4T {w : World} {g b n : Nat} {v0 v1 v2 v3 : Value} {l : List Int} (h : Rd encI 1 w (some ⟨g, 0, none⟩) n l) (hb : b < g) : Rd encI 1 ((((w.setCell ⟨b, 0, none⟩ v0).setCell ⟨b, 1, none⟩ v1).setCell ⟨b, 2, none⟩ v2).setCell ⟨b, 3, none⟩ v3) (some ⟨g, 0, none⟩) n l :=
  rd_setT (rd_setT (rd_setT (rd_setT h hb) hb) hb) hb
theorem BxW.ofB {b G : Nat} {vs : List Value} {w w' : World} (h : BxW w b vs) (hb : Below G w w') (hG : b < G) : BxW w' b vs :=
  ⟨Nat.lt_of_lt_of_le h.1 hb.size, fun i => (hb.cell (p := ⟨b, i, none⟩) hG).trans (h.2.1 i), fun i => (hb.frozen (p := ⟨b, i, none⟩) hG).trans (h.2.2 i)⟩
theorem TrAt.ofB {b G : Nat} {x y z : Value} {w w' : World} (h : TrAt w b x y z) (hb : Below G w w') (hG : b < G) : TrAt w' b x y z :=
  ⟨Nat.lt_of_lt_of_le h.1 hb.size, (hb.cell (p := ⟨_, _, none⟩) hG).trans h.2.1, (hb.cell (p := ⟨_, _, none⟩) hG).trans h.2.2.1, (hb.cell (p := ⟨_, _, none⟩) hG).trans h.2.2.2⟩
set_option maxHeartbeats 8000000 in
theorem gs_next (st : Int) (A B D : Option Addr) (n cc m d c : Nat) (H : List (Int × Int)) (N : List (Int × List Int)) (g : List Int) (w : World) (hH : Rd encP 2 w A n H) (hN : RdX ekN w B m N) (hR : Rd encI 1 w D 1024 g) (hr : trR st H N = true) (hg : OkG st g) :
    Calls Tryz.prog 90 #[.agg #[.int .i64 st, .slice A n cc, .slice B m d], .agg #[.int .i64 32, .int .i64 32, .int .i64 1, .slice D 1024 c]] w fun e w' => ∃ G, e = .returned (.agg #[.int .i64 32, .int .i64 32, .int .i64 1, .slice (some ⟨G, 0, none⟩) 1024 1024]) ∧ Rd encI 1 w' (some ⟨G, 0, none⟩) 1024 (nxG H N g) ∧ w.heap.size ≤ G ∧ Below w.heap.size w w' := by
  have hT := trR_parts hr
  have hg8 : OkG 8 g := hg.le hT.1.2
  have hh := Lib.hid (hood_in hT.2.1).2
  have hn25 : n ≤ 25 := by rw [← hH.len]; exact (hood_in hT.2.1).1
  have hNl := hN.len
  have hHl := Lib.hid hH.len
  have hm := hT.2.2.1
  rw [hNl] at hm
  have hm4 : m ≤ 4096 := hm.2
  have hst0 : 0 < st := by omega
  have hIl : ∀ x y : Int, (nbG H g x y).length = n := fun x y => by rw [nbG_len, hHl.out]
  have hRl := fun x y : Int => (show trR st H N = true ∧ (nbG H g x y).length = H.length ∧ ∀ s ∈ nbG H g x y, 0 ≤ s ∧ s < st from ⟨hr, nbG_len, nbG_ok hst0 hg⟩)
  replace hIl := Lib.hid hIl
  replace hRl := Lib.hid hRl
  obtain ⟨q0, rfl⟩ : ∃ q, m = q + 1 := ⟨m - 1, by omega⟩
  have b0 : IntKind.i64.wrap ((q0 : Int) + 1 - 1) = (q0 : Int) := by rw [IntWalk.i64_in _ (by omega)]; omega
  have hv0 : ∀ x y : Int, (q0 : Int) = valK N (nbG H g x y) 0 := fun x y => by
    show (q0 : Int) = (N.length : Int) - 1
    omega
  replace hv0 := Lib.hid hv0
  replace hNl := Lib.hid hNl
  obtain ⟨q, hq⟩ : ∃ q : Nat, q = 1024 := ⟨_, rfl⟩
  have kG : ∀ (w1 : World) (x y : Int), -100 ≤ x ∧ x ≤ 100 → -100 ≤ y ∧ y ≤ 100 → Rd encI 1 w1 D q g → Calls Tryz.prog 147 #[.agg #[.int .i64 32, .int .i64 32, .int .i64 1, .slice D q c], .int .i64 x, .int .i64 y] w1 fun e w' => e = .returned (.int .i64 (g.getD (mdT y * 32 + mdT x) 0)) ∧ Below w1.heap.size w1 w' := by
    rw [hq]
    exact fun w1 x y h1 h2 h3 => grid_Get D c g w1 x y h1 h2 h3 hg8
  replace kG := Lib.hid kG
  rw [← hq] at hR ⊢
  have hmk := fun w => run_make_ints Tryz.underlying54 q (by omega) w
  have hz0 : List.replicate q 0 = pgG H N g 0 := by rw [hq, pgG_zero]
  have hpg := Lib.hid (fun (i : Nat) (v : Int) (h : i < q) (hv : v = valT N (nbG H g ((i % 32 : Nat) : Int) ((i / 32 : Nat) : Int))) => pgG_set (H := H) (N := N) (g := g) (show i < 1024 by omega) hv)
  have hpa : nxG H N g = pgG H N g (32 * 32) := pgG_all.symm
  rw [hpa]
  replace hq := Lib.hid hq
  clear hT hg8 hg hr hm hpa
  go_enter Tryz.func90, Tryz.ntmps90
  go_wp2_with fail
  have hbl : Below w.heap.size w (((((w.alloc (.cells #[.int .i64 st, .slice A n cc, .slice B (q0 + 1) d] 25)).alloc (.cells #[.int .i64 32, .int .i64 32, .int .i64 1, .slice D q c] 56)).alloc (.cells #[.int .i64 0, .int .i64 0, .int .i64 0, .slice none 0 0] 56)).alloc (.cells #[.int .i64 32, .int .i64 32, .int .i64 1, .slice (some ⟨w.heap.size + 1 + 1 + 1 + 1, 0, none⟩) q q] 56)).alloc (.cells (madeCells #[.int .i64 0] q) 3)) := by (repeat' (first | exact Below.refl _ _ | assumption | (refine Below.alloc ?_ ?_ _) | (refine Below.setCell ?_ ?_ _) | (refine Below.drew ?_) | (refine below_drewN ?_ _) | (refine below_after (Ext.below _) ?_ ?_) | (refine below_after (by assumption) ?_ ?_) | (simp; done) | omega | (simp; omega)))
  have tr0 := TrAt.new w (.int .i64 st) (.slice A n cc) (.slice B (q0 + 1) d) 25
  have bg0 := BxW.new (w.alloc (.cells #[.int .i64 st, .slice A n cc, .slice B (q0 + 1) d] 25)) [.int .i64 32, .int .i64 32, .int .i64 1, .slice D q c] 56
  have br0 := BxW.new ((w.alloc (.cells #[.int .i64 st, .slice A n cc, .slice B (q0 + 1) d] 25)).alloc (.cells #[.int .i64 32, .int .i64 32, .int .i64 1, .slice D q c] 56)) [.int .i64 0, .int .i64 0, .int .i64 0, .slice none 0 0] 56
  have bo0 := BxW.new (((w.alloc (.cells #[.int .i64 st, .slice A n cc, .slice B (q0 + 1) d] 25)).alloc (.cells #[.int .i64 32, .int .i64 32, .int .i64 1, .slice D q c] 56)).alloc (.cells #[.int .i64 0, .int .i64 0, .int .i64 0, .slice none 0 0] 56)) [.int .i64 32, .int .i64 32, .int .i64 1, .slice (some ⟨w.heap.size + 1 + 1 + 1 + 1, 0, none⟩) q q] 56
  rw [arr4T] at bg0 br0 bo0
  have hO0 := own_made ((((w.alloc (.cells #[.int .i64 st, .slice A n cc, .slice B (q0 + 1) d] 25)).alloc (.cells #[.int .i64 32, .int .i64 32, .int .i64 1, .slice D q c] 56)).alloc (.cells #[.int .i64 0, .int .i64 0, .int .i64 0, .slice none 0 0] 56)).alloc (.cells #[.int .i64 32, .int .i64 32, .int .i64 1, .slice (some ⟨w.heap.size + 1 + 1 + 1 + 1, 0, none⟩) q q] 56)) 3 (w.heap.size + 1 + 1 + 1 + 1) (by simp) q (by rw [hq.out]; omega)
  simp only [World.size_alloc] at bg0 br0 bo0 hO0
  rw [hz0] at hO0
  have tr1 := tr0.of (((((Below.refl _ _).alloc (Nat.le_refl _) (.cells #[.int .i64 32, .int .i64 32, .int .i64 1, .slice D q c] 56)).alloc (by simp) (.cells #[.int .i64 0, .int .i64 0, .int .i64 0, .slice none 0 0] 56)).alloc (by simp) (.cells #[.int .i64 32, .int .i64 32, .int .i64 1, .slice (some ⟨w.heap.size + 1 + 1 + 1 + 1, 0, none⟩) q q] 56)).alloc (by simp) (.cells (madeCells #[.int .i64 0] q) 3))
  have bg1 := bg0.of ((((Below.refl _ _).alloc (Nat.le_refl _) (.cells #[.int .i64 0, .int .i64 0, .int .i64 0, .slice none 0 0] 56)).alloc (by simp) (.cells #[.int .i64 32, .int .i64 32, .int .i64 1, .slice (some ⟨w.heap.size + 1 + 1 + 1 + 1, 0, none⟩) q q] 56)).alloc (by simp) (.cells (madeCells #[.int .i64 0] q) 3))
  have br1 := br0.of (((Below.refl _ _).alloc (Nat.le_refl _) (.cells #[.int .i64 32, .int .i64 32, .int .i64 1, .slice (some ⟨w.heap.size + 1 + 1 + 1 + 1, 0, none⟩) q q] 56)).alloc (by simp) (.cells (madeCells #[.int .i64 0] q) 3))
  have bo1 := bo0.of ((Below.refl _ _).alloc (Nat.le_refl _) (.cells (madeCells #[.int .i64 0] q) 3))
  obtain ⟨wl, hwl⟩ : ∃ wl, wl = (((((w.alloc (.cells #[.int .i64 st, .slice A n cc, .slice B (q0 + 1) d] 25)).alloc (.cells #[.int .i64 32, .int .i64 32, .int .i64 1, .slice D q c] 56)).alloc (.cells #[.int .i64 0, .int .i64 0, .int .i64 0, .slice none 0 0] 56)).alloc (.cells #[.int .i64 32, .int .i64 32, .int .i64 1, .slice (some ⟨w.heap.size + 1 + 1 + 1 + 1, 0, none⟩) q q] 56)).alloc (.cells (madeCells #[.int .i64 0] q) 3)) := ⟨_, rfl⟩
  have hsl : wl.heap.size = w.heap.size + 1 + 1 + 1 + 1 + 1 := by rw [hwl]; simp
  rw [← hwl] at hbl tr1 bg1 br1 bo1 hO0 ⊢
  replace hsl := Lib.hid hsl
  clear hwl tr0 bg0 br0 bo0 hz0 hmk
  obtain ⟨G, hG⟩ : ∃ G, G = w.heap.size + 1 + 1 + 1 + 1 := ⟨_, rfl⟩
  rw [← hG] at bo1 hO0 ⊢
  have hGs : G < wl.heap.size := by rw [hsl.out]; omega
  have tr2 := fun (wr : World) (hb : Below G wl wr) => tr1.ofB hb (by omega)
  have bg2 := fun (wr : World) (hb : Below G wl wr) => bg1.ofB hb (by omega)
  have br2 := fun (wr : World) (hb : Below G wl wr) => br1.ofB hb (by omega)
  have bo2 := fun (wr : World) (hb : Below G wl wr) => bo1.ofB hb (by omega)
  have hwr := fun (wr : World) (hb : Below G wl wr) => (hbl.trans (hb.mono (by omega)) : Below w.heap.size w wr)
  replace tr2 := Lib.hid tr2
  replace bg2 := Lib.hid bg2
  replace br2 := Lib.hid br2
  replace bo2 := Lib.hid bo2
  replace hwr := Lib.hid hwr
  replace hG := Lib.hid hG
  clear tr1 bg1 br1 bo1
  go_loopw [19] (fun t wr => ∃ j : Nat, t = .int .i64 j ∧ j ≤ 32 ∧ Own encI 1 3 G wr (some ⟨G, 0, none⟩) q q (pgG H N g (j * 32)) ∧ Below G wl wr) (fun t _ => 32 - (intOf t).toNat)
  case atStart => exact ⟨0, rfl, by omega, hO0, Below.refl _ _⟩
  case round =>
    clear hO0
    obtain ⟨j, rfl, hj, hO, hb⟩ := hrel
    have hGr : G < wr.heap.size := Nat.lt_of_lt_of_le hGs hb.size
    by_cases hlj : j < 32
    · have dj : decide ((j : Int) < 32) = true := decide_eq_true (by omega)
      have dj' : decide (j < 32) = true := decide_eq_true hlj
      obtain ⟨_, u0, u1, u2, u3, _⟩ := (bg2.out wr hb).open4
      go_wp2_with fail
      go_loopw [24] (fun t wr => ∃ x : Nat, t = .int .i64 x ∧ x ≤ 32 ∧ Own encI 1 3 G wr (some ⟨G, 0, none⟩) q q (pgG H N g (j * 32 + x)) ∧ Below G wl wr) (fun t _ => 32 - (intOf t).toNat)
      case atStart => exact ⟨0, rfl, by omega, hO, hb⟩
      case round =>
        clear hO hb u0 u1 u2 u3
        obtain ⟨x, rfl, hx, hO, hb⟩ := hrel
        have hGr : G < wr.heap.size := Nat.lt_of_lt_of_le hGs hb.size
        by_cases hlx : x < 32
        · have dx : decide ((x : Int) < 32) = true := decide_eq_true (by omega)
          have dx' : decide (x < 32) = true := decide_eq_true hlx
          obtain ⟨hbt, t0, t1, t2⟩ := tr2.out wr hb
          go_wp2_with fail
          go_loopw [8, 34] (fun v t wr => ∃ i qq : Nat, v = .int .i64 qq ∧ t = .int .i64 i ∧ i ≤ n ∧ Hid ((qq : Int) = valK N (nbG H g (x : Int) (j : Int)) i) ∧ Own encI 1 3 G wr (some ⟨G, 0, none⟩) q q (pgG H N g (j * 32 + x)) ∧ Below G wl wr) (fun _ t _ => n - (intOf t).toNat)
          case atStart => exact ⟨0, q0, by first | rfl | (simp; done) | (simp; unfold wrap64; omega), rfl, by omega, Lib.hid (hv0.out _ _), hO, hb⟩
          case round =>
            clear hO hb hbt t0 t1 t2
            obtain ⟨i, qq, rfl, rfl, hi, hqq, hO, hb⟩ := hrel
            have hGr : G < wr.heap.size := Nat.lt_of_lt_of_le hGs hb.size
            by_cases hli : i < n
            · have di : decide ((i : Int) < n) = true := decide_eq_true (by omega)
              have di' : decide (i < n) = true := decide_eq_true hli
              obtain ⟨r1, r2, r3⟩ := hRl.out (x : Int) (j : Int)
              obtain ⟨hqm, lv, nx, s, r, hx1, hsj, hslt, hr, hre⟩ := val_at r1 r2 r3 (by rw [hIl.out]; exact hli) hqq.out
              rw [hNl.out] at hqm
              obtain ⟨ox, oy, bo, oo, hxo, rfl, hbo, o1, o2⟩ := (hH.of (hwr.out wr hb)).pt hli
              have hov := hh.out _ (List.mem_of_getElem? hxo.out)
              simp only at hov
              have hgv : g.getD (mdT ((j : Int) + oy) * 32 + mdT ((x : Int) + ox)) 0 = (s : Int) := by
                have h1 := nbG_at (g := g) (x := (x : Int)) (y := (j : Int)) hxo.out
                rw [h1] at hsj
                injection hsj
              obtain ⟨v1, hv1⟩ : ∃ v1, v1 = (x : Int) + ox := ⟨_, rfl⟩
              obtain ⟨v2, hv2⟩ : ∃ v2, v2 = (j : Int) + oy := ⟨_, rfl⟩
              have ex2 : IntKind.i64.wrap ((x : Int) + ox) = v1 := (IntWalk.i64_in _ (by omega)).trans hv1.symm
              have ey2 : IntKind.i64.wrap ((j : Int) + oy) = v2 := (IntWalk.i64_in _ (by omega)).trans hv2.symm
              rw [← hv1, ← hv2] at hgv
              have kG2 : ∀ w1 : World, Rd encI 1 w1 D q g → Calls Tryz.prog 147 #[.agg #[.int .i64 32, .int .i64 32, .int .i64 1, .slice D q c], .int .i64 v1, .int .i64 v2] w1 fun e w' => e = .returned (.int .i64 (s : Int)) ∧ Below w1.heap.size w1 w' := fun w1 h => by
                have := kG.out w1 v1 v2 (by omega) (by omega) h
                rw [hgv] at this; exact this
              replace hv1 := Lib.hid hv1
              replace hv2 := Lib.hid hv2
              clear hgv hov hxo r1 r2 r3
              go_wp2_with fail
              have hdo := DuAt.new wr (.int .i64 ox) (.int .i64 oy) 139
              have hbd : Below wr.heap.size wr (wr.alloc (.cells #[.int .i64 ox, .int .i64 oy] 139)) := (Below.refl _ _).alloc (Nat.le_refl _) _
              obtain ⟨wa, hwa⟩ : ∃ wa, wa = wr.alloc (.cells #[.int .i64 ox, .int .i64 oy] 139) := ⟨_, rfl⟩
              rw [← hwa] at hdo hbd ⊢
              have hba : Below G wl wa := hb.trans (hbd.mono (by omega))
              have hOa := hO.of hbd
              have hGa : G < wa.heap.size := Nat.lt_of_lt_of_le hGs hba.size
              obtain ⟨hb1s, t0, t1, t2⟩ := tr2.out wa hba
              obtain ⟨hb2s, y0, y1, y2, y3, _⟩ := (bg2.out wa hba).open4
              obtain ⟨hb3s, z0, z1⟩ := hdo
              obtain ⟨lv', nx', E, me, ce, bn, on, hx', rfl, hbln, g1, g2, hE2, _⟩ := (hN.of (hwr.out wa hba)).node hqm
              have e1 := hx'.out
              rw [hx1] at e1
              injection e1 with e1
              injection e1 with e1 e2
              subst e1 e2
              have hEl := hE2.len
              have hsm : s < me := by omega
              obtain ⟨x2, be, oe, hxe, rfl, hbe2, hce⟩ := hE2.int hsm
              obtain rfl : x2 = (r : Int) := by have := hxe.out; rw [hr] at this; injection this with this; exact this.symm
              replace hre := Lib.hid hre
              have hRa := hR.of (hwr.out wa hba)
              clear hwa hx1 hsj hr hx' hxe hEl o1 o2
              (refine wp_region_ext_lit (by kernel_rfl) (by kernel_rfl) ?_; (repeat (go_big_quiet_step ((go_at_call 147; exact calls_ext (kG2 _ (hRa.of (Ext.below _))))))); refine wpQuiet_nil ?_; intro _ hw'; obtain ⟨z5, hw''⟩ := hw'; subst hw''; have hs5 := z5.size; obtain ⟨hc5, hf5⟩ := bcell z5.below; (try simp only [World.size_alloc, World.size_setCell, World.size_drew] at hc5 hf5); (try simp at hs5))
              have hB5 : Below G wl z5.world := hba.trans (z5.below.mono (by omega))
              have hO5 := hOa.of z5.below
              go_wp2_with fail
              go_roundw
              case rel => exact ⟨i + 1, r, by first | rfl | trivial, by go_num, by omega, hre, hO5, hB5⟩
              case measure => simp [intOf]; omega
            · obtain rfl : i = n := by omega
              have di : decide ((i : Int) < i) = false := decide_eq_false (by omega)
              have di' : decide (i < i) = false := decide_eq_false (by omega)
              have hE : (qq : Int) = valT N (nbG H g (x : Int) (j : Int)) := by rw [hqq.out, valK_all (hIl.out _ _)]
              obtain ⟨K, hK⟩ : ∃ K : Nat, K = j * 32 + x := ⟨_, rfl⟩
              have eK : (j : Int) * 32 + (x : Int) = (K : Int) := by omega
              have hKq : K < q := by rw [hq.out]; omega
              rw [← hK] at hO
              have hset := Lib.hid (hpg.out K (qq : Int) hKq (by rw [hE, show K % 32 = x by omega, show K / 32 = j by omega]))
              obtain ⟨v, hg0, hc0, hz0⟩ := own_intT hO hKq
              obtain ⟨_, p0, p1, p2, p3, _⟩ := (bo2.out wr hb).open4
              obtain ⟨_, y0, y1, y2, y3, _⟩ := (bg2.out wr hb).open4
              replace hK := Lib.hid hK
              clear hE
              go_wp2_with fail
              go_roundw
              case rel => exact ⟨x + 1, by go_num, by omega, by rw [show j * 32 + (x + 1) = K + 1 by have := hK.out; omega, ← hset.out]; exact own_setI hO hKq _, hb.setCell (Nat.le_refl _) _⟩
              case measure => simp [intOf]; omega
        · have dx : decide ((x : Int) < 32) = false := decide_eq_false (by omega)
          have dx' : decide (x < 32) = false := decide_eq_false hlx
          have hx2 := Lib.hid (show (j + 1) * 32 = j * 32 + x by omega)
          go_wp2_with fail
          go_roundw
          case rel => exact ⟨j + 1, by go_num, by omega, by rw [hx2.out]; exact hO, hb⟩
          case measure => simp [intOf]; omega
    · have dj : decide ((j : Int) < 32) = false := decide_eq_false (by omega)
      have dj' : decide (j < 32) = false := decide_eq_false hlj
      obtain ⟨_, p0, p1, p2, p3, _⟩ := (bo2.out wr hb).open4
      obtain ⟨_, y0, y1, y2, y3, f0, f1, f2, f3⟩ := (br2.out wr hb).open4
      have hRo := hO.rd encI_len
      have hj2 := Lib.hid (show j * 32 = 32 * 32 by omega)
      have hbw := hwr.out wr hb
      go_wp2_with fail
      refine bodyPost_ret (v := .agg #[.int .i64 32, .int .i64 32, .int .i64 1, .slice (some ⟨G, 0, none⟩) q q]) (by simp [results, Tryz.results90, go_sem, *, ↓IntWalk.iteOmega]) rfl ?_
      refine ⟨G, rfl, by rw [← hj2.out]; exact rd_set4T hRo (by rw [hG.out]; omega), by rw [hG.out]; omega, ?_⟩
      exact (((hbw.setCell (by show w.heap.size ≤ w.heap.size + 1 + 1; omega) _).setCell (by show w.heap.size ≤ w.heap.size + 1 + 1; omega) _).setCell (by show w.heap.size ≤ w.heap.size + 1 + 1; omega) _).setCell (by show w.heap.size ≤ w.heap.size + 1 + 1; omega) _
end Go.Proofs.YtellglbmbocgkaaGreatDoor
