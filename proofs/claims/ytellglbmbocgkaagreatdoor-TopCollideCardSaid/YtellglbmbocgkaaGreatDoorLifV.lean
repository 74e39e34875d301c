/- The contract of totaltree.build's visit, at Life. -/
import Derived.Test.YtellglbmbocgkaaGreatDoorLifM
namespace Go.Proofs.YtellglbmbocgkaaGreatDoor
open Go Go.RowKit
set_option linter.unusedSimpArgs false
set_option linter.unusedVariables false
set_option maxRecDepth 100000
set_option linter.unusedSimpArgs false
set_option linter.unusedVariables false
/-- What a visit's loop has. -/
def vsF (d o c : Nat) (s : BSt) : Nat → BSt × List Int × List UInt8
  | 0 => (s, [], [UInt8.ofNat (d + 1)])
  | j + 1 => ((bvS d (stpO (9 - (d + 1)) o j) (stpC (9 - (d + 1)) c j) (vsF d o c s j).1).2, (vsF d o c s j).2.1 ++ [((bvS d (stpO (9 - (d + 1)) o j) (stpC (9 - (d + 1)) c j) (vsF d o c s j).1).1 : Int)], (vsF d o c s j).2.2 ++ (32 :: Lib.decDigits (bvS d (stpO (9 - (d + 1)) o j) (stpC (9 - (d + 1)) c j) (vsF d o c s j).1).1))
theorem vsF_ok {d o c : Nat} {s : BSt} (hd : d + 1 ≤ 9) (h : OkS s) : ∀ j, OkS (vsF d o c s j).1 ∧ (vsF d o c s j).1.2 <+: (vsF d o c s (j + 1)).1.2 ∧ (vsF d o c s j).1.1.length + j ≤ s.1.length + j * 2 ^ d
  | 0 => ⟨h, (bvS_ok d _ _ s (by omega) h).2.1, by show s.1.length + 0 ≤ _; omega⟩
  | j + 1 => by
    obtain ⟨h1, h2, h3⟩ := vsF_ok hd h j
    have h4 := bvS_ok d (stpO (9 - (d + 1)) o j) (stpC (9 - (d + 1)) c j) (vsF d o c s j).1 (by omega) h1
    have h5 := bvS_len d (stpO (9 - (d + 1)) o j) (stpC (9 - (d + 1)) c j) (vsF d o c s j).1
    refine ⟨h4.1, (bvS_ok d _ _ _ (by omega) h4.1).2.1, ?_⟩
    show (bvS d (stpO (9 - (d + 1)) o j) (stpC (9 - (d + 1)) c j) (vsF d o c s j).1).2.1.length + (j + 1) ≤ _
    rw [Nat.add_mul, Nat.one_mul]
    omega
theorem vsF_two (d o c : Nat) (s : BSt) (h : lookP s.1 (9 - (d + 1), o, c) = none) : ∃ a b : Nat, vsF d o c s 2 = ((vsF d o c s 2).1, [(a : Int), (b : Int)], kyN (d + 1, a, b)) ∧ bvS (d + 1) o c s = addN (vsF d o c s 2).1 (9 - (d + 1), o, c) (d + 1, a, b) :=
  ⟨_, _, by rw [kyN_at]; rfl, bvS_new h⟩
theorem addN_pre (s : BSt) (p : Pl) (x : Nd2) : s.2 <+: (addN s p x).2.2 := by
  unfold addN; split
  · exact List.prefix_refl _
  · exact List.prefix_append _ _
theorem arr1 (a : Value) : [a].toArray = #[a] := rfl
theorem arr2 (a b : Value) : [a, b].toArray = #[a, b] := rfl
theorem arr3 (a b c : Value) : [a, b, c].toArray = #[a, b, c] := rfl
section
variable (b0 xb cb : Nat) (LA XA YA ZA : Option Addr) (lc xa ya za : Nat) (W1 : World)
set_option maxHeartbeats 32000000 in
theorem lif_visit (hB : VB b0 xb cb XA YA ZA xa ya za W1) :
    ∀ (d o c : Nat) (s : BSt) (P : Nat → Prop) (NA : Option Addr) (nn nc : Nat) (w : World), d ≤ 9 → o ≤ 9 - d → c ≤ 1 → VSt b0 LA lc P w NA nn nc s → VC b0 xb cb LA lc W1 w → (∀ q, P q → q < w.heap.size) → (bvS d o c s).2.2.length ≤ 100 → s.1.length + 2 ^ d ≤ 10000 →
    Calls Tryz.prog 169 #[.agg #[.int .i64 ((9 - d : Nat) : Int), .int .i64 (o : Int), .int .i64 (c : Int)], .pointer (some ⟨b0 + 1, 0, none⟩), .pointer (some ⟨b0 + 4, 0, none⟩), .pointer (some ⟨b0 + 8, 0, none⟩), .pointer (some ⟨b0, 0, none⟩), .pointer (some ⟨b0 + 11, 0, none⟩), .pointer (some ⟨b0 + 3, 0, none⟩), .pointer (some ⟨b0 + 10, 0, none⟩), .pointer (some ⟨b0 + 6, 0, none⟩)] w
      fun e w' => e = .returned (.int .i64 ((bvS d o c s).1 : Int)) ∧ ∃ NB mm mc, VR b0 xb cb LA lc W1 P w w' NA nn nc NB mm mc (bvS d o c s).2 := by
  intro d
  induction d with
  | zero =>
    intro o c s P NA nn nc w hd ho hc hS hC hP hL hN
    have kE := fun w1 (h : Below W1.heap.size W1 w1) => lif_end xb o c XA YA ZA xa ya za w1 (hB.x.of h) (hB.y.of h) (hB.z.of h) hc
    obtain ⟨g1, g2⟩ : b0 + 12 ≤ w.heap.size ∧ b0 = W1.heap.size := ⟨hC.sz, hB.sz.symm⟩
    have hbw : Below w.heap.size w (w.alloc (.cells #[.int .i64 9, .int .i64 (o : Int), .int .i64 (c : Int)] 238)) := (Below.refl _ _).alloc (Nat.le_refl _) _
    have hC1 := hC.of hbw
    have hS1 := hS.of hbw
    have hbase : Below W1.heap.size W1 (w.alloc (.cells #[.int .i64 9, .int .i64 (o : Int), .int .i64 (c : Int)] 238)) := by rw [← g2]; exact hC1.base
    have cl := hC.l
    have ce := hC.e
    clear g2
    go_enter Tryz.func169, Tryz.ntmps169
    go_wp2_with fail
    go_at_call 116
    refine (kE _ hbase).mono ?_
    rintro e w1 ⟨rfl, hb1⟩
    go_wp2_with fail
    go_ret
    exact ⟨rfl, NA, nn, nc, VR.look hS hC (hbw.trans (hb1.mono (by simp)))⟩
  | succ d ih =>
    intro o c s P NA nn nc w hd ho hc hS hC hP hL hN
    obtain ⟨k, hk⟩ : ∃ k : Nat, k = 9 - (d + 1) := ⟨_, rfl⟩
    have hkd : k + d = 8 := by omega
    have ho2 : o ≤ k := by omega
    have hsz := hC.sz
    have q9 : ((k : Int) == 9) = false := by simp; omega
    have hp2 : 1 ≤ 2 ^ d ∧ 2 ^ (d + 1) = 2 ^ d + 2 ^ d := ⟨Nat.one_le_two_pow, by rw [Nat.pow_succ]; omega⟩
    have hbw : Below w.heap.size w (w.alloc (.cells #[.int .i64 (k : Int), .int .i64 (o : Int), .int .i64 (c : Int)] 238)) := (Below.refl _ _).alloc (Nat.le_refl _) _
    have hS1 := hS.of hbw
    have i1 : I64 (k : Int) := by unfold I64; omega
    have i2 : I64 (o : Int) := by unfold I64; omega
    have i3 : I64 (c : Int) := by unfold I64; omega
    have hlk := fSn_look s.1 (k, o, c)
    rw [← hk]
    have hcs := hC.s
    have hcl := hC.l
    cases hm : lookP s.1 (k, o, c) with
    | some id =>
      rw [hm] at hlk
      have hst := bvS_old (d := d) (by rw [← hk]; exact hm)
      replace hst := Lib.hid hst
      replace hlk := Lib.hid hlk
      have hk' := Lib.hid hk
      clear hm hk ih
      go_enter Tryz.func169, Tryz.ntmps169
      go_wp2_with (first | (at_lookup; refine wpList_pl_hit rfl _ _ _ rfl Tryz.underlying235 (b0 + 7) s.1.length (fSn s.1) rfl hS1.sm (plI (k, o, c)) ⟨i1, i2, i3⟩ rfl (id : Int) hlk.out ?_))
      go_ret
      exact ⟨by rw [hst.out]; rfl, NA, nn, nc, by rw [hst.out]; exact VR.look hS hC hbw⟩
    | none =>
      rw [hm] at hlk
      obtain ⟨a, b, h2a, h2b⟩ := vsF_two d o c s (by rw [← hk]; exact hm)
      have hok := fun j => vsF_ok (d := d) (o := o) (c := c) (s := s) (by omega) hS.ok j
      have hstep := fun j => show vsF d o c s (j + 1) = ((bvS d (stpO k o j) (stpC k c j) (vsF d o c s j).1).2, (vsF d o c s j).2.1 ++ [((bvS d (stpO k o j) (stpC k c j) (vsF d o c s j).1).1 : Int)], (vsF d o c s j).2.2 ++ (32 :: Lib.decDigits (bvS d (stpO k o j) (stpC k c j) (vsF d o c s j).1).1)) by rw [hk]; rfl
      obtain ⟨F, hF⟩ : ∃ F, F = vsF d o c s := ⟨_, rfl⟩
      have hF0 : F 0 = (s, [], [UInt8.ofNat (d + 1)]) := by rw [hF]; rfl
      rw [← hF] at h2a h2b hok hstep
      replace hlk := Lib.hid hlk
      replace hstep := Lib.hid hstep
      replace hok := Lib.hid hok
      replace h2a := Lib.hid h2a
      replace h2b := Lib.hid h2b
      replace hF0 := Lib.hid hF0
      have e1 : IntKind.i64.wrap (9 - (k : Int)) = ((d + 1 : Nat) : Int) := by rw [IntWalk.i64_in _ (by omega)]; omega
      have e2 : IntKind.u8.wrap ((d + 1 : Nat) : Int) = ((d + 1 : Nat) : Int) := by unfold IntKind.wrap; simp [IntKind.bits, IntKind.signed]; omega
      have hk' := Lib.hid hk
      have hcst := hC.st
      clear hm hk hF
      go_enter Tryz.func169, Tryz.ntmps169
      go_wp2_with (first | (at_lookup; refine wpList_pl_miss rfl _ _ _ rfl Tryz.underlying235 (b0 + 7) s.1.length (fSn s.1) rfl hS1.sm (plI (k, o, c)) ⟨i1, i2, i3⟩ rfl hlk.out ?_))
      have hp0 := BxW.new w [.int .i64 (k : Int), .int .i64 (o : Int), .int .i64 (c : Int)] 238
      rw [arr3] at hp0
      obtain ⟨wa, hwa⟩ : ∃ wa, wa = w.alloc (.cells #[.int .i64 (k : Int), .int .i64 (o : Int), .int .i64 (c : Int)] 238) := ⟨_, rfl⟩
      have hsa : wa.heap.size = w.heap.size + 1 := by rw [hwa]; simp
      rw [← hwa] at hp0 hbw hS1 ⊢
      have hx0 := BxW.new wa [.int .i64 ((d : Int) + 1), .slice none 0 0] 101
      rw [arr2] at hx0
      have hbb : Below wa.heap.size wa (wa.alloc (.cells #[.int .i64 ((d : Int) + 1), .slice none 0 0] 101)) := (Below.refl _ _).alloc (Nat.le_refl _) _
      obtain ⟨wb, hwb⟩ : ∃ wb, wb = wa.alloc (.cells #[.int .i64 ((d : Int) + 1), .slice none 0 0] 101) := ⟨_, rfl⟩
      have hsb : wb.heap.size = w.heap.size + 2 := by rw [hwb]; simp [hsa]
      rw [← hwb] at hx0 hbb ⊢
      have hu0 := Own.lit encU_len wb 5 (w.heap.size + 2) (by omega) (byI [UInt8.ofNat (d + 1)]) 1 rfl (by decide) [.int .u8 ((d : Int) + 1)] (by simp [byI, encU]; omega)
      rw [arr1] at hu0
      have hbc : Below wb.heap.size wb (wb.alloc (.cells #[.int .u8 ((d : Int) + 1)] 5)) := (Below.refl _ _).alloc (Nat.le_refl _) _
      obtain ⟨wc, hwc⟩ : ∃ wc, wc = wb.alloc (.cells #[.int .u8 ((d : Int) + 1)] 5) := ⟨_, rfl⟩
      have hsc : wc.heap.size = w.heap.size + 3 := by rw [hwc]; simp [hsb]
      rw [← hwc] at hu0 hbc ⊢
      rw [hsb] at hu0
      rw [hsa] at hx0
      have hbx : Below w.heap.size w wc := hbw.trans ((hbb.trans (hbc.mono (by omega))).mono (by omega))
      have hown := hS.own
      have hst0 : VL b0 xb cb LA lc W1 P w NA nn nc k o c ((d : Int) + 1) wc NA nn nc none 0 0 (some ⟨w.heap.size + 2, 0, none⟩) 1 1 (F 0) := by
        rw [hF0.out]
        have hS2 := hS.of hbx
        refine ⟨(hp0.of hbb).of hbc, hx0.of hbc, Own.nil_, hu0, ⟨hS2.t, (hS.o.weak (fun q hq e => ?_)).of hbx, hS2.sm, hS2.im, hS2.ok⟩, hC.of hbx, (Fr2.here _ _).of hbx, .inl rfl, fun g hg => ?_, fun g hg => ?_⟩
        · rcases e with e | e | e
          · exact e
          · omega
          · cases e
        · have := (hown g hg).2; omega
        · have := (hown g hg).2; omega
      clear hwa hwb hwc hp0 hx0 hu0 hS1 hbw hbb hbc hcs hcl hcst
      have hNAl := fun q hq => (hown q hq).2
      have hFn : ∀ j, j ≤ 1 → (F j).1.1.length + 2 ^ d ≤ 10000 := fun j hj => by
        have h3 := (hok.out j).2.2
        have h4 : j * 2 ^ d ≤ 2 ^ d := by rcases (show j = 0 ∨ j = 1 by omega) with rfl | rfl <;> simp
        omega
      have hFl : ∀ j, j ≤ 2 → (F j).1.2.length ≤ 100 := by
        have h2 := (addN_pre (F 2).1 (9 - (d + 1), o, c) (d + 1, a, b)).length_le
        rw [← h2b.out] at h2
        have h1 : (F 1).1.2.length ≤ (F 2).1.2.length := (hok.out 1).2.1.length_le
        have h0 : (F 0).1.2.length ≤ (F 1).1.2.length := (hok.out 0).2.1.length_le
        intro j hj
        rcases (show j = 0 ∨ j = 1 ∨ j = 2 by omega) with rfl | rfl | rfl <;> omega
      obtain ⟨k1, hk1⟩ : ∃ k1 : Nat, k1 = 9 - d := ⟨_, rfl⟩
      simp only [← hk1] at ih
      have hk1e : k1 = k + 1 := by omega
      have e3 : IntKind.i64.wrap ((k : Int) + 1) = (k1 : Int) := by rw [IntWalk.i64_in _ (by omega)]; omega
      replace hFn := Lib.hid hFn
      replace hFl := Lib.hid hFl
      have hk1h := Lib.hid hk1e
      have hsch := Lib.hid hsc
      clear hk1 hk1e hsc hsa hsb hown
      go_loopw [14, 47] (fun v i wr => ∃ (j : Nat) (KA : Option Addr) (kn kc : Nat) (OB : Option Addr) (m1 o1 : Nat) (E2 : Option Addr) (r : Nat), v = .slice KA kn kc ∧ i = .int .i64 j ∧ j ≤ 2 ∧ kn ≤ 1 + 3 * j ∧ VL b0 xb cb LA lc W1 P w NA nn nc k o c ((d : Int) + 1) wr OB m1 o1 E2 j r KA kn kc (F j)) (fun _ i _ => 2 - (intOf i).toNat)
      case atStart => exact ⟨0, _, 1, 1, NA, nn, nc, none, 0, rfl, rfl, by omega, by omega, hst0⟩
      case round =>
        clear hst0 hbx
        obtain ⟨j, KA, kn, kc, OB, m1, o1, E2, r, rfl, rfl, hj, hkn, hT⟩ := hrel
        have hs1 := hT.f.size
        have hpl := hT.p.1
        have hxl := hT.x.1
        by_cases hlt : j < 2
        · have dj : decide ((j : Int) < 2) = true := decide_eq_true (by omega)
          have hFs := hstep.out j
          have ho9 : stpO k o j ≤ 9 - d := by unfold stpO; split <;> (try split) <;> omega
          have hc9 : stpC k c j ≤ 1 := by unfold stpC; split <;> omega
          have hbo := bvS_ok d (stpO k o j) (stpC k c j) (F j).1 (by omega) (hok.out j).1
          have hFs2 : (bvS d (stpO k o j) (stpC k c j) (F j).1).2 = (F (j + 1)).1 := by rw [hFs]
          have hl2 := hFl.out (j + 1) (by omega)
          rw [← hFs2] at hl2
          have hid : (bvS d (stpO k o j) (stpC k c j) (F j).1).1 < 100 := by
            rcases hbo.2.2 with h | h <;> omega
          have kS := fun w1 (h : Below W1.heap.size W1 w1) => lif_step cb o c k j w1 (by rw [h.cell (p := ⟨_, _, none⟩) (by rw [hB.sz]; exact hB.cl)]; exact hB.cc) (by have := h.size; have := hB.sz; have := hB.cl; omega) (by omega)
          have kV := fun w1 (h : VL b0 xb cb LA lc W1 P w NA nn nc k o c ((d : Int) + 1) w1 OB m1 o1 E2 j r KA kn kc (F j)) => ih (stpO k o j) (stpC k c j) (F j).1 (PV P (w.heap.size + 1) E2 j r) OB m1 o1 w1 (by omega) (by have := hk1h.out; omega) hc9 h.s h.c (fun q hq => by
            have hs2 := h.f.size
            have hx2 := h.x.1
            rcases hq with hq | hq | hq
            · have := hP q hq; omega
            · omega
            · exact (h.e.row.lt q hq).2) hl2 (hFn.out j (by omega))
          replace hFs := Lib.hid hFs
          generalize bvS d (stpO k o j) (stpC k c j) (F j).1 = rr at hFs hid kV
          obtain ⟨rid, rst⟩ := rr
          simp only at hFs hid kV
          have hbT : Below W1.heap.size W1 wr := by rw [hB.sz]; exact hT.c.base
          obtain ⟨_, cp, _⟩ := hT.p
          have p0 := cp 0
          have p1 := cp 1
          have p2 := cp 2
          have cv := hT.c.v
          have csp := hT.c.sp
          unfold visV at cv
          simp only [List.getElem?_cons_zero, List.getElem?_cons_succ] at p0 p1 p2
          clear hbo hl2 ih hFs2 cp
          go_wp2_with fail
          have hTw := hT
          clear hT
          go_region_held3 (fun w' => w'.cell? ⟨b0 + 11, 0, none⟩ = some (.func (.func 169) #[] #[.pointer (some ⟨b0 + 1, 0, none⟩), .pointer (some ⟨b0 + 4, 0, none⟩), .pointer (some ⟨b0 + 8, 0, none⟩), .pointer (some ⟨b0, 0, none⟩), .pointer (some ⟨b0 + 11, 0, none⟩), .pointer (some ⟨b0 + 3, 0, none⟩), .pointer (some ⟨b0 + 10, 0, none⟩), .pointer (some ⟨b0 + 6, 0, none⟩)]) ∧ w'.cell? ⟨b0 + 3, 0, none⟩ = some (.func (.func 115) #[] #[.pointer (some ⟨cb, 0, none⟩)]) ∧ w'.cell? ⟨w.heap.size, 0, none⟩ = some (.int .i64 (k : Int)) ∧ w'.cell? ⟨w.heap.size, 1, none⟩ = some (.int .i64 (o : Int)) ∧ w'.cell? ⟨w.heap.size, 2, none⟩ = some (.int .i64 (c : Int)))
            (((try go_split_ands); refine ⟨?_, ?_, ?_, ?_, ?_⟩ <;> first | assumption | go_keep | (rw [hb7.cell (p := ⟨_, _, none⟩) (by first | omega | (simp; omega))]; assumption) | fail))
            ((first
            | (go_at_call 115; (try go_split_ands); refine (kS _ (by (repeat' (first | exact Below.refl _ _ | assumption | (refine Below.alloc ?_ ?_ _) | (refine Below.setCell ?_ ?_ _) | (refine Below.drew ?_) | (refine below_drewN ?_ _) | (refine below_after (Ext.below _) ?_ ?_) | (refine below_after (by assumption) ?_ ?_) | (simp; done) | omega | (simp; omega))))).mono ?_; rintro e7 w7 ⟨rfl, hb7⟩; have hsz7 := hb7.size)
            | (go_at_call 169; (try go_split_ands); refine (kV _ (hTw.of (by (repeat' (first | exact Below.refl _ _ | assumption | (refine Below.alloc ?_ ?_ _) | (refine Below.setCell ?_ ?_ _) | (refine Below.drew ?_) | (refine below_drewN ?_ _) | (refine below_after (Ext.below _) ?_ ?_) | (refine below_after (by assumption) ?_ ?_) | (simp; done) | omega | (simp; omega)))))).mono ?_; rintro e8 w8 ⟨rfl, O2, m2, o2, hK⟩; have hT2 := (hTw.of (by (repeat' (first | exact Below.refl _ _ | assumption | (refine Below.alloc ?_ ?_ _) | (refine Below.setCell ?_ ?_ _) | (refine Below.drew ?_) | (refine below_drewN ?_ _) | (refine below_after (Ext.below _) ?_ ?_) | (refine below_after (by assumption) ?_ ?_) | (simp; done) | omega | (simp; omega))))).call hsz hNAl hK; have y1 := hT2.c.v; unfold visV at y1; have y2 := hT2.c.sp; have y3 := hT2.p.2.1 0; have y4 := hT2.p.2.1 1; have y5 := hT2.p.2.1 2; simp only [List.getElem?_cons_zero, List.getElem?_cons_succ] at y3 y4 y5)
            | fail))
          (try go_split_ands)
          clear kV kS
          have ⟨_, x0, x1, fx0, fx1⟩ := hT2.x.open2
          have hz8 := hT2.f.size
          go_upto_region 13 with ((at_builtin; refine wpList_append_elL rfl (.tmp 64) (.tmp 66) 54 rfl encI 1 3 (.int .i64 0) 8 Tryz.underlying54 (by kernel_rfl) rfl (by decide) encI_len encI_one (w.heap.size + 2) _ _ _ _ rfl (hT2.e.alloc _) (rid : Int) ⟨(w8).heap.size, 0, none⟩ 1 rfl (cells_new (w8) _ _) (by omega) (by omega) (by first | omega | (simp; done) | (simp; omega)) ?_; intro A5 c5 w5 hown5 hg5 hb5 hl5; obtain ⟨hc5, hf5⟩ := bcell hb5; have hs5 := hb5.size; (try simp only [World.size_alloc, World.size_setCell, World.size_drew] at hc5 hf5); (try simp at hs5)))
          have hT3 := hT2.num hsz hP hown5 hg5 hl5
          obtain ⟨w3, hw3⟩ : ∃ w3, w3 = w5.setCell ⟨w.heap.size + 1, 1, none⟩ (.slice A5 (j + 1) c5) := ⟨_, rfl⟩
          rw [← hw3] at hT3 ⊢
          clear hw3 x0 x1 fx0 fx1 hc5 hf5 hown5 hg5 hl5 hT2 y1 y2 y3 y4 y5
          have hz3 := hT3.f.size
          have hu3 := hT3.u
          have hx3 := hT3.x.1
          go_wp2_with ((at_builtin; refine wpList_append_el rfl (.tmp 69) (.tmp 70) 229 rfl encU 1 5 (.int .u8 0) 1 Tryz.underlying229 (by kernel_rfl) rfl (by decide) encU_len encU_one (w.heap.size + 2) _ _ _ _ rfl (hu3.alloc _) (32 : Int) ⟨(w3).heap.size, 0, none⟩ 1 rfl (cells_new (w3) _ _) (by omega) (by omega) (by first | omega | (simp; done) | (simp; omega)) ?_; intro A6 c6 w6 hown6 hg6 hb6; obtain ⟨hc6, hf6⟩ := bcell hb6; have hs6 := hb6.size; (try simp only [World.size_alloc, World.size_setCell, World.size_drew] at hc6 hf6); (try simp at hs6)))
          go_at_call 170
          have hT4 := (hT3.of ((Below.refl _ _).alloc (Nat.le_refl _) (.cells #[.int .u8 32] 5))).txt hsz (l5 := (F j).2.2 ++ [32]) (by unfold byI; rw [List.map_append]; exact hown6) hg6
          have hz4 := hT4.x.1
          refine (lif_AppendInt (w.heap.size + 2) A6 (kn + 1) c6 _ rid _ hT4.u (by omega) (by omega) hid).mono ?_
          rintro e w9 ⟨v9, rfl, A9, c9, rfl, hown9, hg9⟩
          have hT5 := hT4.txt hsz (l5 := (F j).2.2 ++ (32 :: Lib.decDigits rid)) (by unfold byI at hown9 ⊢; rw [List.map_append] at hown9 ⊢; rw [List.map_cons]; rw [List.append_assoc] at hown9; exact hown9) hg9
          have hdl := dec_len rid hid
          go_wp2_with fail
          go_roundw
          case rel => exact ⟨j + 1, A9, _, c9, O2, m2, o2, A5, c5, rfl, by go_num, by omega, by omega, by rw [hFs.out]; exact hT5⟩
          case measure => simp [intOf]; omega
        · obtain rfl : j = 2 := by omega
          have dj : decide (((2 : Nat) : Int) < 2) = false := by decide
          rw [h2a.out] at hT
          have hU : Own encU 1 5 (w.heap.size + 2) wr KA kn kc (byI (kyN (d + 1, a, b))) := hT.u
          have hE : Own encI 1 3 (w.heap.size + 2) wr E2 2 r [(a : Int), (b : Int)] := hT.e
          have hul := hU.len
          unfold byI at hul
          rw [List.length_map] at hul
          have hkn0 : 0 < kn := by rw [← hul, kyN_at]; simp
          have hkl : (kyN (d + 1, a, b)).length ≤ maxLen := by rw [hul]; unfold maxLen; omega
          have kc1 := conv_str (c := kc) (hU.rd encU_len) hkn0
          have hok2 := (hok.out 2).1
          have hn2 := (hok.out 2).2.2
          have hm1 := hT.s.o.len
          rw [List.length_map] at hm1
          have hl100 := hFl.out 2 (by omega)
          have hmm1 : (F 2).1.2.length = m1 := hm1
          have hm100 : m1 ≤ 100 := by rw [← hmm1]; exact hl100
          have hb9 : (F 2).1.1.length < 1000000000 := by omega
          have cs := hT.c.s
          have ci := hT.c.i
          have y3 := hT.p.2.1 0
          have y4 := hT.p.2.1 1
          have y5 := hT.p.2.1 2
          simp only [List.getElem?_cons_zero, List.getElem?_cons_succ] at y3 y4 y5
          have hsm0 : mkPl.At (b0 + 7) (F 2).1.1.length (fSn (F 2).1.1) wr := hT.s.sm
          have him0 : mkSt.At (b0 + 9) (F 2).1.2.length (fId (F 2).1.2) wr := hT.s.im
          have hr0 := fId_idx (x := (d + 1, a, b)) hok2.lv hd
          have h2b' := h2b.out
          rw [← hk'.out] at h2b'
          have hao := addN_ok hok2 (p := (k, o, c)) (x := (d + 1, a, b)) hd
          clear hul hm1 ih hn2
          cases hi : idxN (F 2).1.2 (d + 1, a, b) with
          | some i =>
            rw [hi] at hr0
            rw [addN_old hi] at h2b' hao
            have hst := Lib.hid h2b'
            replace hr0 := Lib.hid hr0
            have hmmh := Lib.hid hmm1
            clear h2b' hi hmm1
            go_wp2_with (first | (at_lookup; refine wpList_st_hit rfl _ _ _ rfl Tryz.underlying200 (b0 + 9) (F 2).1.2.length (fId (F 2).1.2) rfl him0 (kyN (d + 1, a, b)) hkl rfl (i : Int) hr0.out ?_) | (at_mapUpdate; refine wpList_pl_put rfl _ _ _ _ rfl Tryz.underlying235 (b0 + 7) (F 2).1.1.length (fSn (F 2).1.1) rfl hsm0 hb9 (plI (k, o, c)) ⟨i1, i2, i3⟩ (i : Int) rfl rfl ?_; intro w9 hsm9 hg9))
            go_ret
            exact ⟨by rw [hst.out]; rfl, OB, m1, o1, by rw [hst.out]; exact hT.hit hsm9 hg9 hao.1⟩
          | none =>
            rw [hi] at hr0
            rw [addN_new hi, hmm1] at h2b' hao
            have hst := Lib.hid h2b'
            replace hr0 := Lib.hid hr0
            have hmmh := Lib.hid hmm1
            have hidx := Lib.hid hi
            have hal : Below wr.heap.size wr (wr.alloc (.cells #[.int .i64 ((d : Int) + 1), .slice E2 2 r] 101)) := (Below.refl _ _).alloc (Nat.le_refl _) _
            have hOd := (hT.s.o.weak (P' := P) (fun q _ e => .inl e)).of hal
            have hEd := hE.of hal
            have t2 := hT.s.t.2.1 2
            have ft2 := hT.s.t.2.2 2
            have x0 := hT.x.2.1 0
            have x1 := hT.x.2.1 1
            simp only [List.getElem?_cons_zero, List.getElem?_cons_succ] at t2 x0 x1
            have hap := (hOd.apart hEd (by decide)).2
            have hs1' := hs1
            clear h2b' hi hmm1 hal
            go_upto_region 19 with (first | (at_lookup; refine wpList_st_miss rfl _ _ _ rfl Tryz.underlying200 (b0 + 9) (F 2).1.2.length (fId (F 2).1.2) rfl him0 (kyN (d + 1, a, b)) hkl rfl hr0.out ?_) | (at_builtin; refine wpList_append_o (K := ekT) rfl (.tmp 88) (.tmp 90) 23 rfl 101 (.agg #[.int .i64 0, .slice none 0 0]) 32 Tryz.underlying23 (by kernel_rfl) rfl (b0 + 12) _ _ _ _ rfl hOd ((d : Int) + 1, E2, 2, r) ((d : Int) + 1, [(a : Int), (b : Int)]) ⟨⟨rfl, hEd.rd encI_len, hEd.capO⟩, fun q hq => hEd.typed q (hEd.blk q hq).1⟩ (fun q hq => ⟨fun e => hap q (hEd.blk q hq).1 e.symm, fun e => by have h1 := hP q e; have h2 := (hEd.blk q hq).2.1; omega, by have h2 := (hEd.blk q hq).2.1; omega⟩) ⟨wr.heap.size, 0, none⟩ 1 rfl (cells_new wr (encN ((d : Int) + 1, E2, 2, r)) 101) (by omega) (by omega) (by first | omega | (simp; omega)) ?_; intro A8 c8 w8 hO8 hg8 hb8 hl8; obtain ⟨hc8, hf8⟩ := bcell hb8; have hs8 := hb8.size; (try simp only [World.size_alloc] at hs8)))
            have hVN := hT.node hsz hO8 hg8 hl8
            obtain ⟨wS, hwS⟩ : ∃ wS, wS = w8.setCell ⟨b0 + 6, 2, none⟩ (.slice A8 (m1 + 1) c8) := ⟨_, rfl⟩
            rw [← hwS] at hVN ⊢
            clear hwS hc8 hf8 hOd hEd hap t2 ft2 x0 x1 hT hU hE kc1 hsm0 him0 cs ci y3 y4 y5 hb8 hg8 hl8 hO8 hs8
            have kc2 := conv_str (c := kc) (hVN.u.rd encU_len) hkn0
            simp only at kc2
            have cs := hVN.c.s
            have ci := hVN.c.i
            have hzS := hVN.p.1
            have hsmS : mkPl.At (b0 + 7) (F 2).1.1.length (fSn (F 2).1.1) wS := hVN.sm
            have himS : mkSt.At (b0 + 9) (F 2).1.2.length (fId (F 2).1.2) wS := hVN.im
            have hbS : (F 2).1.2.length < 1000000000 := by have := hmmh.out; omega
            go_wp2_with (first | (at_mapUpdate; refine wpList_st_put rfl _ _ _ _ rfl Tryz.underlying200 (b0 + 9) (F 2).1.2.length (fId (F 2).1.2) rfl himS hbS (kyN (d + 1, a, b)) hkl (m1 : Int) rfl rfl ?_; intro w9 him9 hg9; obtain ⟨s8, z3, z4, z5, hsm9, hz9⟩ := hVN.at9 hsz hg9) | (at_mapUpdate; refine wpList_pl_put rfl _ _ _ _ rfl Tryz.underlying235 (b0 + 7) (F 2).1.1.length (fSn (F 2).1.1) rfl hsm9 hb9 (plI (k, o, c)) ⟨i1, i2, i3⟩ (m1 : Int) rfl rfl ?_; intro w10 hsm10 hg10))
            go_ret
            exact ⟨by rw [hst.out]; rfl, A8, m1 + 1, c8, by rw [hst.out]; exact hVN.done him9 hg9 hsm10 hg10 hmmh.out hok2.lv hd hidx.out (by rw [List.map_append]; simp [nd2]) hao.1⟩
end
end Go.Proofs.YtellglbmbocgkaaGreatDoor
