/- The reference's classes of the nodes of a tree. The reference's walk of a tree's classes. The reference's reduction of a tree. -/
import Derived.Test.YtabfefhicfmabaaGreatRED
import Derived.Test.YtabfefhicfmabaaGreatTMC
import Derived.Test.YtabfefhicfmabaaGreatMEM
import Derived.Test.YtabfefhicfmabaaGreatTRE
set_option linter.unusedSimpArgs false
set_option linter.unusedVariables false
section
namespace Go.Proofs.YtabfefhicfmabaaGreat
open Go Go.RowKit
set_option maxRecDepth 100000
/-- Elements above the first level are numbers of earlier nodes; no node is long. -/
def ErlN (l : List Nd) : Prop := (∀ (i : Nat) (x : Nd), l[i]? = some x → x.2.length ≤ 1000) ∧ ∀ (i : Nat) (x : Nd), l[i]? = some x → 1 < x.1 → ∀ k ∈ x.2, 0 ≤ k ∧ k.toNat < i
theorem take_nxt {cls : List Int} {lv : Int} {nx : List Int} {s : Nat} {k : Int} (h : nx[s]? = some k) : (nxt1 cls (lv, nx)).take (s + 1) = (nxt1 cls (lv, nx)).take s ++ [if 1 < lv then cls.getD k.toNat 0 else k] := by
  rw [List.take_add_one]
  congr 1
  unfold nxt1
  by_cases hl : 1 < lv
  · simp only [if_pos hl, List.getElem?_map, h]; rfl
  · simp only [if_neg hl, h]; rfl
theorem nxt1_len (cls : List Int) (lv : Int) (nx : List Int) : (nxt1 cls (lv, nx)).length = nx.length := by
  unfold nxt1; split <;> simp
theorem fsF_step {p : Nat → Bool} {i d j : Nat} (h : i = j + 1 + d) : fsF p i (d + 1) = if p j then j else fsF p i d := by
  rw [fsF, show i - (d + 1) = j by omega]
theorem clsK_step {l : List Nd} {i : Nat} {x : Nd} (h : l[i]? = some x) : clsK l (i + 1) = ((clsK l i).1 ++ [((fsF (sameN l (clsK l i).2 x (nxt1 (clsK l i).1 x)) i i : Nat) : Int)], (clsK l i).2 ++ [nxt1 (clsK l i).1 x]) := by
  rw [clsK, show l.getD i (0, []) = x by rw [List.getD_eq_getElem?_getD, h]; rfl]
theorem sameN_at {l : List Nd} {xs : List (List Int)} {x y : Nd} {nx z : List Int} {j : Nat} (h : l[j]? = some y) (h2 : xs[j]? = some z) : sameN l xs x nx j = (decide (y.1 = x.1) && sameL z nx) := by
  unfold sameN sameL
  rw [show l.getD j (0, []) = y by rw [List.getD_eq_getElem?_getD, h]; rfl, show xs.getD j [] = z by rw [List.getD_eq_getElem?_getD, h2]; rfl]
theorem clsK_lens {l : List Nd} (h : ∀ (i : Nat) (x : Nd), l[i]? = some x → x.2.length ≤ 1000) : ∀ i z, z ∈ (clsK l i).2 → z.length ≤ 1000 := by
  intro i
  induction i with
  | zero => intro z hz; cases hz
  | succ i ih =>
    intro z hz
    simp only [clsK, List.mem_append, List.mem_singleton] at hz
    rcases hz with hz | rfl
    · exact ih z hz
    · cases hx : l[i]? with
      | none => rw [List.getD_eq_getElem?_getD, hx]; simp [nxt1]
      | some x => rw [List.getD_eq_getElem?_getD, hx, Option.getD_some, nxt1_len]; exact h i x hx
set_option maxHeartbeats 16000000 in
theorem ref13_classes (A : Option Addr) (n c : Nat) (l : List Nd) (w : World) (hN : RdX ekN w A n l) (hn : n ≤ 4096) (hE : ErlN l) :
    Calls Tryz.prog 218 #[.slice A n c] w fun e w' => ∃ CA cc, e = .returned (.slice CA n cc) ∧ Own encI 1 3 w.heap.size w' CA n cc (clsK l n).1 ∧ Below w.heap.size w w' := by
  have hNl := Lib.hid hN.len
  have HL := Lib.hid hE.1
  have HE := Lib.hid hE.2
  clear hE
  go_enter Tryz.func218, Tryz.ntmps218
  go_wp2_with fail
  go_loopw [3, 4, 5] (fun v u i wr => ∃ (CA NA : Option Addr) (cc nc j : Nat), v = .slice CA j cc ∧ u = .slice NA j nc ∧ i = .int .i64 j ∧ j ≤ n ∧ Own encI 1 3 w.heap.size wr CA j cc (clsK l j).1 ∧ OwnO ekL 84 w.heap.size (fun q => (Value.slice CA j cc).ownBlock = some q) wr NA j nc (clsK l j).2 ∧ Below w.heap.size w wr) (fun _ _ i _ => n - (intOf i).toNat)
  case atStart => exact ⟨none, none, 0, 0, 0, rfl, rfl, rfl, by omega, Own.nil_, OwnO.nil_, Below.refl _ _⟩
  case round =>
    obtain ⟨CA, NA, cc, nc, i, rfl, rfl, rfl, hi, hC, hO, hb⟩ := hrel
    have hsz := hb.size
    by_cases hlt : i < n
    · have di : decide ((i : Int) < n) = true := decide_eq_true (by omega)
      have di' : decide (i < n) = true := decide_eq_true hlt
      have hN1 := hN.of hb
      obtain ⟨lv, nx, E, me, ce, b, o, hx, rfl, hbl, g1, g2, hNx, hce⟩ := hN1.node hlt
      have hme : me ≤ 1000 := by rw [← hNx.len]; exact HL.out i _ hx.out
      have hst := Lib.hid (clsK_step hx.out)
      have hnl := Lib.hid ((nxt1_len (clsK l i).1 lv nx).trans hNx.len)
      have hcl := Lib.hid (clsK_len l i)
      have hxl := Lib.hid (clsK_lens HL.out i)
      have hEx := Lib.hid (fun h => HE.out i _ hx.out h)
      obtain ⟨cls, hcls⟩ : ∃ cls, cls = (clsK l i).1 := ⟨_, rfl⟩
      obtain ⟨xs, hxs⟩ : ∃ xs, xs = (clsK l i).2 := ⟨_, rfl⟩
      rw [← hcls] at hC hst hnl hcl
      rw [← hxs] at hO hst hcl hxl
      clear hcls hxs
      have i0 : (0 : Int) ≤ (i : Int) := by omega
      have i1 : (i : Int) < (n : Int) := by omega
      obtain ⟨W1, hW1⟩ : ∃ W1, W1 = wr := ⟨_, rfl⟩
      subst hW1
      obtain ⟨lb, hlb⟩ : ∃ lb, decide (1 < lv) = lb := ⟨_, rfl⟩
      have hlh := Lib.hid hlb
      go_wp2_with fail
      go_loopw [6, 7] (fun v s wr => ∃ (E2 : Option Addr) (r t : Nat), v = .slice E2 t r ∧ s = .int .i64 t ∧ t ≤ me ∧ Own encI 1 3 W1.heap.size wr E2 t r ((nxt1 cls (lv, nx)).take t) ∧ Below W1.heap.size W1 wr) (fun _ s _ => me - (intOf s).toNat)
      case atStart => exact ⟨none, 0, 0, rfl, rfl, by omega, Own.nil_, Below.refl _ _⟩
      case round =>
        obtain ⟨E2, r, t, rfl, rfl, ht, hown, hb2⟩ := hrel
        have hs2 := hb2.size
        by_cases hlt2 : t < me
        · have dt : decide ((t : Int) < me) = true := decide_eq_true (by omega)
          have dt' : decide (t < me) = true := decide_eq_true hlt2
          obtain ⟨k0, b2, o2, hk0, he2, hb2l, k1⟩ := (hNx.of hb2).int hlt2
          subst he2
          have t0 : (0 : Int) ≤ (t : Int) := by omega
          have t1 : (t : Int) < (me : Int) := by omega
          have g1r : wr.cell? ⟨b, o + i * 2, none⟩ = some (.int .i64 lv) := by rw [hb2.cell (p := ⟨_, _, none⟩) hbl]; exact g1
          have g2r : wr.cell? ⟨b, o + i * 2 + 1, none⟩ = some (.slice (some ⟨b2, o2, none⟩) me ce) := by rw [hb2.cell (p := ⟨_, _, none⟩) hbl]; exact g2
          have htk := Lib.hid (take_nxt (cls := cls) (lv := lv) hk0.out)
          cases lb with
          | false =>
            rw [if_neg (of_decide_eq_false hlh.out)] at htk
            clear g1 g2 hk0
            go_wp2_with (first | (at_builtin; refine wpList_append_el rfl (.tmp 45) (.tmp 47) 84 rfl encI 1 3 (.int .i64 0) 8 Tryz.underlying84 (by kernel_rfl) rfl (by decide) encI_len encI_one (W1.heap.size) _ _ _ _ rfl (hown.alloc _) k0 ⟨(wr).heap.size, 0, none⟩ 1 rfl (cells_new (wr) _ _) (by omega) (by omega) (by first | omega | (simp; done) | (simp; omega)) ?_; intro A5 c5 w5 hown5 hg5 hb5; obtain ⟨hc5, hf5⟩ := bcell hb5; have hs5 := hb5.size; (try simp only [World.size_alloc, World.size_setCell, World.size_drew] at hc5 hf5); (try simp at hs5)))
            go_roundw
            case rel => exact ⟨A5, c5, t + 1, rfl, by go_num, by omega, by rw [htk.out]; exact hown5, by (repeat' (first | exact Below.refl _ _ | assumption | (refine Below.alloc ?_ ?_ _) | (refine Below.setCell ?_ ?_ _) | (refine Below.drew ?_) | (refine below_drewN ?_ _) | (refine below_after (Ext.below _) ?_ ?_) | (refine below_after (by assumption) ?_ ?_) | (simp; done) | omega | (simp; omega)))⟩
            case measure => simp [intOf]; omega
          | true =>
            have hk := hEx.out (of_decide_eq_true hlh.out) k0 (List.mem_of_getElem? hk0.out)
            rw [if_pos (of_decide_eq_true hlh.out)] at htk
            obtain ⟨k, rfl⟩ : ∃ k : Nat, k0 = k := ⟨k0.toNat, by omega⟩
            have hki : k < i := by have := hk.2; simpa using this
            obtain ⟨y, b3, o3, hy, he3, hb3l, y1⟩ := ((hC.rd encI_len).of hb2).int hki
            subst he3
            rw [show cls.getD (k : Int).toNat 0 = y by rw [Int.toNat_natCast, List.getD_eq_getElem?_getD, hy.out]; rfl] at htk
            have q0 : (0 : Int) ≤ (k : Int) := by omega
            have q1 : (k : Int) < (i : Int) := by omega
            clear g1 g2 hk0 hk hy
            go_wp2_with (first | (at_builtin; refine wpList_append_el rfl (.tmp 45) (.tmp 47) 84 rfl encI 1 3 (.int .i64 0) 8 Tryz.underlying84 (by kernel_rfl) rfl (by decide) encI_len encI_one (W1.heap.size) _ _ _ _ rfl (hown.alloc _) y ⟨(wr).heap.size, 0, none⟩ 1 rfl (cells_new (wr) _ _) (by omega) (by omega) (by first | omega | (simp; done) | (simp; omega)) ?_; intro A5 c5 w5 hown5 hg5 hb5; obtain ⟨hc5, hf5⟩ := bcell hb5; have hs5 := hb5.size; (try simp only [World.size_alloc, World.size_setCell, World.size_drew] at hc5 hf5); (try simp at hs5)))
            go_roundw
            case rel => exact ⟨A5, c5, t + 1, rfl, by go_num, by omega, by rw [htk.out]; exact hown5, by (repeat' (first | exact Below.refl _ _ | assumption | (refine Below.alloc ?_ ?_ _) | (refine Below.setCell ?_ ?_ _) | (refine Below.drew ?_) | (refine below_drewN ?_ _) | (refine below_after (Ext.below _) ?_ ?_) | (refine below_after (by assumption) ?_ ?_) | (simp; done) | omega | (simp; omega)))⟩
            case measure => simp [intOf]; omega
        · obtain rfl : t = me := by omega
          have dt : decide ((t : Int) < t) = false := decide_eq_false (by omega)
          have dt' : decide (t < t) = false := decide_eq_false (by omega)
          rw [List.take_of_length_le (by rw [hnl.out]; exact Nat.le_refl _)] at hown
          have g1r : wr.cell? ⟨b, o + i * 2, none⟩ = some (.int .i64 lv) := by rw [hb2.cell (p := ⟨_, _, none⟩) hbl]; exact g1
          have g2r : wr.cell? ⟨b, o + i * 2 + 1, none⟩ = some (.slice E t ce) := by rw [hb2.cell (p := ⟨_, _, none⟩) hbl]; exact g2
          have hN2 := hN1.of hb2
          have hOr := hO.rd.of hb2
          obtain ⟨nq, hnq⟩ : ∃ nq, nq = nxt1 cls (lv, nx) := ⟨_, rfl⟩
          rw [← hnq] at hown hst
          clear hnq
          obtain ⟨W2, hW2⟩ : ∃ W2, W2 = wr := ⟨_, rfl⟩
          subst hW2
          clear g1 g2 hN1
          go_wp2_with fail
          go_loopw [9, 10] (fun f j wr => ∃ d : Nat, f = .int .i64 ((fsF (sameN l xs (lv, nx) nq) i d : Nat) : Int) ∧ j = .int .i64 ((i : Int) - 1 - d) ∧ d ≤ i ∧ Below W2.heap.size W2 wr) (fun _ j _ => (intOf j + 1).toNat)
          case atStart => exact ⟨0, rfl, by go_num, by omega, Below.refl _ _⟩
          case round =>
            obtain ⟨d, rfl, rfl, hd, hb3⟩ := hrel
            have hs3 := hb3.size
            by_cases hdi : d < i
            · obtain ⟨j, hj⟩ : ∃ j, i = j + 1 + d := ⟨i - 1 - d, by omega⟩
              have hji : j < i := by omega
              have hjn : j < n := by omega
              rw [show (i : Int) - 1 - d = (j : Int) by omega]
              have dj : decide ((j : Int) ≥ 0) = true := decide_eq_true (by omega)
              have dj' : decide ((0 : Int) ≤ (j : Int)) = true := decide_eq_true (by omega)
              have hff := Lib.hid (fsF_step (p := sameN l xs (lv, nx) nq) hj)
              have hfd := Lib.hid (show (i : Int) - 1 - ((d + 1 : Nat) : Int) = (j : Int) - 1 by omega)
              have hdi' : d + 1 ≤ i := hdi
              obtain ⟨lv2, nx2, E4, m4, c4, b4, o4, hx4, he4, hbl4, j1, j2, hNx4, _⟩ := (hN2.of hb3).node hjn
              injection he4 with he4
              injection he4 with he5 he6
              subst he5 he6
              obtain ⟨E5, m5, c5, z, b5, o5, hz5, he5, hbl5, z1, hZ, _⟩ := (hOr.of hb3).ints hji
              subst he5
              have hsn := Lib.hid (sameN_at (x := (lv, nx)) (nx := nq) hx4.out hz5.out)
              have hzl : m5 ≤ 1000000 := by have h1 := hxl.out z (List.mem_of_getElem? hz5.out); rw [hZ.len] at h1; omega
              have kS := fun w1 h1 h2 => ref13_same E5 E2 m5 t c5 r z nq w1 h1 h2 hzl (by omega)
              have hQ := (hown.rd encI_len).of hb3
              have g3r : wr.cell? ⟨b, o + i * 2, none⟩ = some (.int .i64 lv) := by rw [hb3.cell (p := ⟨_, _, none⟩) (show b < _ by omega)]; exact g1r
              have j0 : (0 : Int) ≤ (j : Int) := by omega
              have j3 : (j : Int) < (n : Int) := by omega
              have j4 : (j : Int) < (i : Int) := by omega
              clear hN2 hOr hx4 hz5 hNx4 hj hji hjn
              by_cases hlv : lv2 = lv
              · have tl : (lv2 == lv) = true := by simpa using hlv
                rw [decide_eq_true hlv, Bool.true_and] at hsn
                clear hlv
                generalize sameL z nq = u at hsn kS
                have hff2 := Lib.hid (hff.out.trans (by rw [hsn.out]))
                clear hff hsn
                cases u with
                | true =>
                  go_wp2_with fail
                  (refine wp_region_ext_lit (by kernel_rfl) (by kernel_rfl) ?_; (repeat (go_big_quiet_step ((go_at_call 245; exact calls_ext (kS _ (hZ.of (Ext.below _)) (hQ.of (Ext.below _))))))); refine wpQuiet_nil ?_; intro _ hw'; obtain ⟨z6, hw''⟩ := hw'; subst hw''; have hs6 := z6.size; obtain ⟨hc6, hf6⟩ := bcell z6.below; (try simp only [World.size_alloc, World.size_setCell, World.size_drew] at hc6 hf6); (try simp at hs6))
                  go_wp2_with fail
                  go_roundw
                  case rel => exact ⟨d + 1, by rw [hff2.out]; rfl, by rw [hfd.out], hdi', by (repeat' (first | exact Below.refl _ _ | assumption | (refine Below.alloc ?_ ?_ _) | (refine Below.setCell ?_ ?_ _) | (refine Below.drew ?_) | (refine below_drewN ?_ _) | (refine below_after (Ext.below _) ?_ ?_) | (refine below_after (by assumption) ?_ ?_) | (simp; done) | omega | (simp; omega)))⟩
                  case measure => first | (simp [intOf]; done) | (simp [intOf]; omega)
                | false =>
                  go_wp2_with fail
                  (refine wp_region_ext_lit (by kernel_rfl) (by kernel_rfl) ?_; (repeat (go_big_quiet_step ((go_at_call 245; exact calls_ext (kS _ (hZ.of (Ext.below _)) (hQ.of (Ext.below _))))))); refine wpQuiet_nil ?_; intro _ hw'; obtain ⟨z6, hw''⟩ := hw'; subst hw''; have hs6 := z6.size; obtain ⟨hc6, hf6⟩ := bcell z6.below; (try simp only [World.size_alloc, World.size_setCell, World.size_drew] at hc6 hf6); (try simp at hs6))
                  go_wp2_with fail
                  go_roundw
                  case rel => exact ⟨d + 1, by rw [hff2.out]; rfl, by rw [hfd.out], hdi', by (repeat' (first | exact Below.refl _ _ | assumption | (refine Below.alloc ?_ ?_ _) | (refine Below.setCell ?_ ?_ _) | (refine Below.drew ?_) | (refine below_drewN ?_ _) | (refine below_after (Ext.below _) ?_ ?_) | (refine below_after (by assumption) ?_ ?_) | (simp; done) | omega | (simp; omega)))⟩
                  case measure => first | (simp [intOf]; done) | (simp [intOf]; omega)
              · have tl : (lv2 == lv) = false := by simpa using hlv
                rw [decide_eq_false hlv, Bool.false_and] at hsn
                have hff2 := Lib.hid (hff.out.trans (by rw [hsn.out]))
                clear hlv hff hsn kS
                go_wp2_with fail
                (refine wp_region_ext_lit (by kernel_rfl) (by kernel_rfl) ?_; (repeat (go_big_quiet_step (fail))); refine wpQuiet_nil ?_; intro _ hw'; obtain ⟨z6, hw''⟩ := hw'; subst hw''; have hs6 := z6.size; obtain ⟨hc6, hf6⟩ := bcell z6.below; (try simp only [World.size_alloc, World.size_setCell, World.size_drew] at hc6 hf6); (try simp at hs6))
                go_wp2_with fail
                go_roundw
                case rel => exact ⟨d + 1, by rw [hff2.out]; rfl, by rw [hfd.out], hdi', by (repeat' (first | exact Below.refl _ _ | assumption | (refine Below.alloc ?_ ?_ _) | (refine Below.setCell ?_ ?_ _) | (refine Below.drew ?_) | (refine below_drewN ?_ _) | (refine below_after (Ext.below _) ?_ ?_) | (refine below_after (by assumption) ?_ ?_) | (simp; done) | omega | (simp; omega)))⟩
                case measure => first | (simp [intOf]; done) | (simp [intOf]; omega)
            · obtain rfl : d = i := by omega
              rw [show (d : Int) - 1 - d = -1 by omega]
              have dj' : decide ((0 : Int) ≤ -1) = false := rfl
              obtain ⟨ff, hff⟩ : ∃ ff, ff = ((fsF (sameN l xs (lv, nx) nq) d d : Nat) : Int) := ⟨_, rfl⟩
              rw [← hff] at hst ⊢
              clear hff
              have hC3 := (hC.of hb2).of hb3
              have hO3 := (hO.of hb2).of hb3
              have hw3 := hown.of hb3
              obtain ⟨W3, hW3⟩ : ∃ W3, W3 = wr := ⟨_, rfl⟩
              subst hW3
              clear hN2 hOr g1r g2r
              go_wp2_with (first
                | ((at_builtin; refine wpList_append_elL rfl (.tmp 76) (.tmp 78) 84 rfl encI 1 3 (.int .i64 0) 8 Tryz.underlying84 (by kernel_rfl) rfl (by decide) encI_len encI_one (w.heap.size) _ _ _ _ rfl (hC3.alloc _) ff ⟨(W3).heap.size, 0, none⟩ 1 rfl (cells_new (W3) _ _) (by omega) (by omega) (by first | omega | (simp; done) | (simp; omega)) ?_; intro A5 c5 w5 hown5 hg5 hb5 hl5; obtain ⟨hc5, hf5⟩ := bcell hb5; have hs5 := hb5.size; (try simp only [World.size_alloc, World.size_setCell, World.size_drew] at hc5 hf5); (try simp at hs5)); have hO5 := OwnO.grow (P' := fun q => (Value.slice A5 (d + 1) c5).ownBlock = some q) (hO3.of (w' := W3.alloc (.cells #[.int .i64 ff] 3)) (by (repeat' (first | exact Below.refl _ _ | assumption | (refine Below.alloc ?_ ?_ _) | (refine Below.setCell ?_ ?_ _) | (refine Below.drew ?_) | (refine below_drewN ?_ _) | (refine below_after (Ext.below _) ?_ ?_) | (refine below_after (by assumption) ?_ ?_) | (simp; done) | omega | (simp; omega))))) hg5 (hO3.apart hC3 (by decide)).1 (fun q hq => .inl hq) (fun q hq h => by rcases hl5 with h5 | h5 <;> rw [h5] at h; exact h; injection h with h; subst h; exact absurd hq (Nat.lt_irrefl _)); have hw5 := (hw3.of (w' := W3.alloc (.cells #[.int .i64 ff] 3)) (by (repeat' (first | exact Below.refl _ _ | assumption | (refine Below.alloc ?_ ?_ _) | (refine Below.setCell ?_ ?_ _) | (refine Below.drew ?_) | (refine below_drewN ?_ _) | (refine below_after (Ext.below _) ?_ ?_) | (refine below_after (by assumption) ?_ ?_) | (simp; done) | omega | (simp; omega))))).over2 hg5 (hC.young hw3 (Nat.le_refl _)).2; have hw6 := hw5.of (w' := w5.alloc (.cells #[.slice E2 t r] 84)) (by (repeat' (first | exact Below.refl _ _ | assumption | (refine Below.alloc ?_ ?_ _) | (refine Below.setCell ?_ ?_ _) | (refine Below.drew ?_) | (refine below_drewN ?_ _) | (refine below_after (Ext.below _) ?_ ?_) | (refine below_after (by assumption) ?_ ?_) | (simp; done) | omega | (simp; omega)))); have hO6 := hO5.of (w' := w5.alloc (.cells #[.slice E2 t r] 84)) (by (repeat' (first | exact Below.refl _ _ | assumption | (refine Below.alloc ?_ ?_ _) | (refine Below.setCell ?_ ?_ _) | (refine Below.drew ?_) | (refine below_drewN ?_ _) | (refine below_after (Ext.below _) ?_ ?_) | (refine below_after (by assumption) ?_ ?_) | (simp; done) | omega | (simp; omega)))))
                | (at_builtin; refine wpList_append_o (K := ekL) rfl (.tmp 80) (.tmp 82) 272 rfl 84 (.slice none 0 0) 24 Tryz.underlying272 (by kernel_rfl) rfl w.heap.size _ _ _ _ rfl hO6 (E2, t, r) nq ⟨hw6.rd encI_len, hw6.capO⟩ (fun q hq => ⟨fun e => (hO6.apart hw6 (by decide)).2 q (hw6.blk q hq).1 e.symm, fun e => (by have h1 := hw6.blk q hq; have h2 := hw3.row.lt q h1.1; rcases hl5 with h5 | h5 <;> rw [h5] at e; (have h3 := hC.row.lt q e; omega); (injection e with e; simp only [World.size_alloc] at e; omega)), by have h1 := (hw6.blk q hq).2.1; omega⟩) ⟨w5.heap.size, 0, none⟩ 1 rfl (cells_new w5 (encH (E2, t, r)) 84) (by omega) (by omega) (by first | omega | (simp; done) | (simp; omega)) ?_; intro A8 c8 w8 hO8 hg8 hb8 hl8)
                | fail)
              go_roundw
              case rel => exact ⟨A5, A8, c5, c8, d + 1, rfl, rfl, by go_num, by omega, by rw [hst.out]; exact (hown5.of (w' := w5.alloc (.cells #[.slice E2 t r] 84)) (by (repeat' (first | exact Below.refl _ _ | assumption | (refine Below.alloc ?_ ?_ _) | (refine Below.setCell ?_ ?_ _) | (refine Below.drew ?_) | (refine below_drewN ?_ _) | (refine below_after (Ext.below _) ?_ ?_) | (refine below_after (by assumption) ?_ ?_) | (simp; done) | omega | (simp; omega))))).over2 hg8 (hO6.apart (hown5.of (w' := w5.alloc (.cells #[.slice E2 t r] 84)) (by (repeat' (first | exact Below.refl _ _ | assumption | (refine Below.alloc ?_ ?_ _) | (refine Below.setCell ?_ ?_ _) | (refine Below.drew ?_) | (refine below_drewN ?_ _) | (refine below_after (Ext.below _) ?_ ?_) | (refine below_after (by assumption) ?_ ?_) | (simp; done) | omega | (simp; omega))))) (by decide)).2, by rw [hst.out]; exact hO8, by (repeat' (first | exact Below.refl _ _ | assumption | (refine Below.alloc ?_ ?_ _) | (refine Below.setCell ?_ ?_ _) | (refine Below.drew ?_) | (refine below_drewN ?_ _) | (refine below_after (Ext.below _) ?_ ?_) | (refine below_after (by assumption) ?_ ?_) | (simp; done) | omega | (simp; omega)))⟩
              case measure => simp [intOf]; omega
    · obtain rfl : i = n := by omega
      have di : decide ((i : Int) < i) = false := decide_eq_false (by omega)
      have di' : decide (i < i) = false := decide_eq_false (by omega)
      go_wp2_with fail
      go_ret
      exact ⟨CA, cc, rfl, hC, hb⟩
end Go.Proofs.YtabfefhicfmabaaGreat
end
section
namespace Go.Proofs.YtabfefhicfmabaaGreat
open Go Go.RowKit
set_option maxRecDepth 100000
theorem BxW.fr2 {w w' : World} {b : Nat} {vs : List Value} {R : Nat → Prop} (h : BxW w b vs) (hf : Fr2 R w w') (hr : ¬ R b) : BxW w' b vs := by
  have hbl := hf.block b h.1 hr
  exact ⟨Nat.lt_of_lt_of_le h.1 hf.size, fun i => (World.cell?_of_block hbl).trans (h.2.1 i), fun i => (World.frozen?_of_block hbl).trans (h.2.2 i)⟩
def WkR (B : Nat) (P : Nat → Prop) (n dg dc : Nat) (OA : Option Addr) (m oc : Nat) (w w' : World) (A' : Option Addr) (m' c' : Nat) (r : List Int × List Nd) : Prop :=
  Own encI 1 3 B w' (some ⟨dg, 0, none⟩) n dc r.1 ∧ OwnO ekN 111 B P w' A' m' c' r.2 ∧ Below B w w' ∧ Fr2 (fun q => q = dg ∨ (Value.slice OA m oc).ownBlock = some q) w w' ∧
    ((Value.slice A' m' c').ownBlock = (Value.slice OA m oc).ownBlock ∨ ∃ g, (Value.slice A' m' c').ownBlock = some g ∧ w.heap.size ≤ g)
def LocW (w : World) (OA : Option Addr) (m oc : Nat) (A' : Option Addr) (m' c' : Nat) : Prop := (Value.slice A' m' c').ownBlock = (Value.slice OA m oc).ownBlock ∨ ∃ g, (Value.slice A' m' c').ownBlock = some g ∧ w.heap.size ≤ g
def PX (P : Nat → Prop) (nb : Nat) (E2 : Option Addr) (t r : Nat) : Nat → Prop := fun q => P q ∨ q = nb ∨ (Value.slice E2 t r).ownBlock = some q
def RX (dg : Nat) (OA : Option Addr) (m oc : Nat) : Nat → Prop := fun q => q = dg ∨ (Value.slice OA m oc).ownBlock = some q
structure WkT (B : Nat) (P : Nat → Prop) (n dg dc : Nat) (OA : Option Addr) (m oc : Nat) (w : World) (lv : Int) (OB E2 : Option Addr) (m1 o1 r t : Nat) (wr : World) (st : (List Int × List Nd) × List Int) : Prop where
  x : BxW wr w.heap.size [.int .i64 lv, .slice E2 t r]
  e : Own encI 1 3 (w.heap.size + 1) wr E2 t r st.2
  d : Own encI 1 3 B wr (some ⟨dg, 0, none⟩) n dc st.1.1
  o : OwnO ekN 111 B (PX P w.heap.size E2 t r) wr OB m1 o1 st.1.2
  f : Fr2 (RX dg OA m oc) w wr
  l : LocW w OA m oc OB m1 o1
  off : OffB OB m1 o1 w.heap.size
section
variable {B : Nat} {P : Nat → Prop} {n dg dc : Nat} {OA : Option Addr} {m oc : Nat} {w : World} {lv : Int} {OB E2 : Option Addr} {m1 o1 r t : Nat} {wr : World} {st : (List Int × List Nd) × List Int}
theorem WkT.below (h : WkT B P n dg dc OA m oc w lv OB E2 m1 o1 r t wr st) (hB : B ≤ w.heap.size) (hdg : B ≤ dg) (hOA : ∀ q, (Value.slice OA m oc).ownBlock = some q → B ≤ q) : Below B w wr :=
  h.f.below hB (fun q hq => by rcases hq with rfl | hq; exact hdg; exact hOA q hq)
theorem WkT.call (h : WkT B P n dg dc OA m oc w lv OB E2 m1 o1 r t wr st) (hdg : dg < w.heap.size) {w2 : World} {O2 : Option Addr} {m2 o2 : Nat} {q : List Int × List Nd} (k : WkR B (PX P w.heap.size E2 t r) n dg dc OB m1 o1 wr w2 O2 m2 o2 q) :
    WkT B P n dg dc OA m oc w lv O2 E2 m2 o2 r t w2 (q, st.2) := by
  obtain ⟨k1, k2, k3, k4, k5⟩ := k
  have hs := h.f.size
  have hx := h.x.1
  refine ⟨h.x.fr2 k4 (fun e => ?_), h.e.fr2 k4 (fun g hg e => ?_), k1, k2, h.f.then k4 (fun g hg e => ?_), ?_, fun g hg => ?_⟩
  · rcases e with e | e
    · omega
    · exact h.off _ e rfl
  · have h1 := (h.e.row.lt g hg)
    rcases e with e | e
    · omega
    · exact (h.o.apart h.e (by decide)).1 g e hg
  · rcases e with e | e
    · exact .inl e
    · rcases h.l with hl | ⟨g2, hl, h2⟩
      · exact .inr (by rw [← hl]; exact e)
      · rw [hl] at e; injection e with e; omega
  · rcases k5 with hl | ⟨g2, hl, h2⟩
    · rcases h.l with hl' | ⟨g2, hl', h2⟩
      · exact .inl (hl.trans hl')
      · exact .inr ⟨g2, hl.trans hl', h2⟩
    · exact .inr ⟨g2, hl, by omega⟩
  · rcases k5 with hl | ⟨g2, hl, h2⟩
    · exact h.off g (by rw [← hl]; exact hg)
    · rw [hl] at hg; injection hg with hg; omega
theorem WkT.app (h : WkT B P n dg dc OA m oc w lv OB E2 m1 o1 r t wr st) (hdg : dg < w.heap.size) (hP : ∀ q, P q → q < w.heap.size) {ob : Obj} {w5 : World} {A5 : Option Addr} {c5 : Nat} {y : Int} (hown : Own encI 1 3 (w.heap.size + 1) w5 A5 (t + 1) c5 (st.2 ++ [y])) (hg : (wr.alloc ob).grownBy w5 (Value.slice E2 t r).ownBlock)
    (hl : (Value.slice A5 (t + 1) c5).ownBlock = (Value.slice E2 t r).ownBlock ∨ (Value.slice A5 (t + 1) c5).ownBlock = some (wr.alloc ob).heap.size) :
    WkT B P n dg dc OA m oc w lv OB A5 m1 o1 c5 (t + 1) (w5.setCell ⟨w.heap.size, 1, none⟩ (.slice A5 (t + 1) c5)) (st.1, st.2 ++ [y]) := by
  have hs := h.f.size
  have hx := h.x.1
  have hal : Below wr.heap.size wr (wr.alloc ob) := (Below.refl _ _).alloc (Nat.le_refl _) ob
  have hne : ∀ g, (Value.slice E2 t r).ownBlock = some g → w.heap.size < g := fun g hq => by have := (h.e.row.lt g hq).1; omega
  have hdr : (Value.slice (some (⟨dg, 0, none⟩ : Addr)) n dc).ownBlock = some dg := rfl
  refine ⟨((h.x.of hal).grown hg (fun e => by have := hne _ e.symm; omega)).put 1 _ (by simp), hown.setBelow (by omega) _, ((h.d.of hal).over2 hg (fun q hq e => ?_)).over2 (grownBy_set _ _ _ _) (fun q hq e => ?_), ?_, ?_, h.l, h.off⟩
  · rw [hdr] at hq; injection hq with hq; have := hne q e; omega
  · rw [hdr] at hq; injection hq with hq; injection e with e; omega
  · have o1 := (h.o.of hal).grow (P' := PX P w.heap.size A5 (t + 1) c5) hg (fun q hq => (h.o.apart h.e (by decide)).1 q hq) (fun q hq => .inl (.inr (.inr hq))) (fun q hq e => by
      rcases e with e | e | e
      · exact .inl e
      · exact .inr (.inl e)
      · rcases hl with hl | hl
        · rw [hl] at e; exact .inr (.inr e)
        · rw [hl] at e; injection e with e; omega)
    exact o1.grow (grownBy_set _ _ _ _) (fun q hq e => by injection e with e; exact h.off q hq e.symm) (fun q e => by injection e with e; exact .inl (.inr (.inl e.symm))) (fun q _ e => e)
  · exact ((h.f.of hal).grown hg (fun q hq => .inr (by have := hne q hq; omega))).grown (grownBy_set _ _ _ _) (fun q e => by injection e with e; exact .inr (by omega))
theorem WkT.store (h : WkT B P n dg dc OA m oc w lv OB E2 m1 o1 r t wr st) (hdg : dg < w.heap.size) (hPd : P dg) {i : Nat} (hi : i < n) (v : Int) :
    WkT B P n dg dc OA m oc w lv OB E2 m1 o1 r t (wr.setCell ⟨dg, i, none⟩ (.int .i64 v)) ((st.1.1.set i v, st.1.2), st.2) := by
  have hs := h.f.size
  have hne : ∀ g, (Value.slice E2 t r).ownBlock = some g → w.heap.size < g := fun g hq => by have := (h.e.row.lt g hq).1; omega
  refine ⟨h.x.off i _ (by omega), h.e.over2 (grownBy_set _ _ _ _) (fun q hq e => ?_), own_setI h.d hi v, h.o.grow (grownBy_set _ _ _ _) (fun q hq e => ?_) (fun q e => ?_) (fun q _ e => e), h.f.grown (grownBy_set _ _ _ _) (fun q e => ?_), h.l, h.off⟩
  · injection e with e; have := hne q hq; omega
  · injection e with e; subst e; exact (h.o.apart h.d (by decide)).1 dg hq rfl
  · injection e with e; subst e; exact .inl (.inl hPd)
  · injection e with e; subst e; exact .inl (.inl rfl)
theorem WkT.done (h : WkT B P n dg dc OA m oc w lv OB E2 m1 o1 r t wr st) (hB : B ≤ w.heap.size) (hdB : B ≤ dg) (hOA : ∀ q, (Value.slice OA m oc).ownBlock = some q → B ≤ q) {ob : Obj} {w8 : World} {A8 : Option Addr} {c8 : Nat} {x : Nd} (hO8 : OwnO ekN 111 B P w8 A8 (m1 + 1) c8 (st.1.2 ++ [x])) (hg : (wr.alloc ob).grownBy w8 (Value.slice OB m1 o1).ownBlock)
    (hl : (Value.slice A8 (m1 + 1) c8).ownBlock = (Value.slice OB m1 o1).ownBlock ∨ (Value.slice A8 (m1 + 1) c8).ownBlock = some (wr.alloc ob).heap.size) :
    WkR B P n dg dc OA m oc w w8 A8 (m1 + 1) c8 (st.1.1, st.1.2 ++ [x]) := by
  have hs := h.f.size
  have hal : Below wr.heap.size wr (wr.alloc ob) := (Below.refl _ _).alloc (Nat.le_refl _) ob
  have hf : Fr2 (RX dg OA m oc) w w8 := (h.f.of hal).grown hg (fun q hq => by
    rcases h.l with h1 | ⟨g, h1, h2⟩
    · exact .inl (.inr (by rw [← h1]; exact hq))
    · rw [h1] at hq; injection hq with hq; exact .inr (by omega))
  refine ⟨(h.d.of hal).over2 hg (fun q hq e => (h.o.apart h.d (by decide)).1 q e hq), hO8, hf.below hB (fun q hq => by rcases hq with rfl | hq; exact hdB; exact hOA q hq), hf, ?_⟩
  rcases hl with hl | hl
  · rcases h.l with h1 | ⟨g, h1, h2⟩
    · exact .inl (hl.trans h1)
    · exact .inr ⟨g, hl.trans h1, h2⟩
  · exact .inr ⟨_, hl, by simp only [World.size_alloc]; omega⟩
end
set_option maxHeartbeats 32000000 in
theorem ref13_walk (W0 : World) (A CA : Option Addr) (n c cc : Nat) (l : List Nd) (cls : List Int) (hN : RdX ekN W0 A n l) (hC : Rd encI 1 W0 CA n cls) (hn : n ≤ 4096) (hE : ErlN l) (hd : DagN l cls) (dg dc : Nat) :
    ∀ (f i : Nat), i < f → i < n → ∀ (P : Nat → Prop) (OA : Option Addr) (m oc : Nat) (dn : List Int) (out : List Nd) (w : World), Below W0.heap.size W0 w → Own encI 1 3 W0.heap.size w (some ⟨dg, 0, none⟩) n dc dn → OwnO ekN 111 W0.heap.size P w OA m oc out → P dg → (∀ q, P q → q < w.heap.size) → m + ngN dn ≤ 4096 →
    Calls Tryz.prog 219 #[.slice A n c, .slice CA n cc, .int .i64 (i : Int), .slice (some ⟨dg, 0, none⟩) n dc, .slice OA m oc] w fun e w' => ∃ A' m' c', e = .returned (.slice A' m' c') ∧ WkR W0.heap.size P n dg dc OA m oc w w' A' m' c' (wkP l cls f i (dn, out)) := by
  have hNl := Lib.hid hN.len
  have HL := Lib.hid hE.1
  have HD := Lib.hid hd
  clear hE hd
  intro f
  induction f with
  | zero => intro i hi; omega
  | succ f ih =>
    intro i hif hin P OA m oc dn out w hW hD hO hPd hPs hb
    have hdl := hD.len
    have i0 : (0 : Int) ≤ (i : Int) := by omega
    have i1 : (i : Int) < (n : Int) := by omega
    obtain ⟨x0, hx0, hdg, d0, df0, _, _⟩ := hD.intCell hin
    have hgx : dn.getD i 0 = x0 := getD_of hx0.out
    have hsz := hW.size
    by_cases hx : 0 ≤ x0
    · have dx : decide (x0 ≥ 0) = true := decide_eq_true hx
      have dx' : decide (0 ≤ x0) = true := decide_eq_true hx
      have hst := Lib.hid (wkP_old (l := l) (cls := cls) (f := f) (i := i) (s := (dn, out)) (by rw [hgx]; exact hx))
      clear hgx hx hx0 ih
      go_enter Tryz.func219, Tryz.ntmps219
      go_wp2_with fail
      go_ret
      exact ⟨OA, m, oc, rfl, by rw [hst.out]; exact ⟨hD, hO, Below.refl _ _, Fr2.here _ _, .inl rfl⟩⟩
    · have dx : decide (x0 ≥ 0) = false := decide_eq_false hx
      have dx' : decide (0 ≤ x0) = false := decide_eq_false hx
      obtain ⟨lv, nx, E, me, ce, b, o, hxl, rfl, hbl, g1, g2, hNx, hce⟩ := hN.node hin
      have hneg : dn.getD i 0 < 0 := by rw [hgx]; omega
      have hst := Lib.hid (wkP_succ (cls := cls) (f := f) (s := (dn, out)) hxl.out hneg)
      have hkp := Lib.hid (wkF_kept HD.out (f := f) (s := (dn, out)) hif hxl.out (by rw [hNl.out]; exact hdl))
      have hsp := Lib.hid (fun t (k : Int) (h : nx[t]? = some k) => wkF_step (l := l) (cls := cls) (f := f) (x := (lv, nx)) (s := (dn, out)) (t := t) h)
      have hng := Lib.hid hneg
      have hDx := Lib.hid (fun h => HD.out i _ hxl.out h)
      have hme : me ≤ 1000 := by rw [← hNx.len]; exact HL.out i _ hxl.out
      have hnl := Lib.hid hNx.len
      obtain ⟨F, hF⟩ : ∃ F, F = wkF l cls f (lv, nx) (dn, out) := ⟨_, rfl⟩
      have hF0 : F 0 = ((dn, out), []) := by rw [hF]; rfl
      rw [← hF] at hst hkp hsp
      clear hF hx hx0 hgx hneg hxl
      have hF0 := Lib.hid hF0
      obtain ⟨lb, hlb⟩ : ∃ lb, decide (1 < lv) = lb := ⟨_, rfl⟩
      have hlh := Lib.hid hlb
      have gl := hW.cell (p := ⟨b, o + i * 2, none⟩) hbl
      rw [g1] at gl
      go_enter Tryz.func219, Tryz.ntmps219
      go_wp2_with fail
      have hx1 := BxW.new w [.int .i64 lv, .slice none 0 0] 111
      rw [show ∀ a b : Value, [a, b].toArray = #[a, b] from fun _ _ => rfl] at hx1
      have hal : Below w.heap.size w (w.alloc (.cells #[.int .i64 lv, .slice none 0 0] 111)) := (Below.refl _ _).alloc (Nat.le_refl _) _
      have hdB : W0.heap.size ≤ dg := (hD.row.lt dg rfl).1
      have hOA := fun q hq => (hO.lt q hq).1
      have hst0 : WkT W0.heap.size P n dg dc OA m oc w lv OA none m oc 0 0 (w.alloc (.cells #[.int .i64 lv, .slice none 0 0] 111)) (F 0) := by
        rw [hF0.out]
        exact ⟨hx1, Own.nil_, hD.of hal, (hO.weak (P' := PX P w.heap.size none 0 0) (fun q hq e => by
          rcases e with e | e | e
          · exact e
          · omega
          · cases e)).of hal, (Fr2.here _ _).of hal, .inl rfl, fun q hq e => by have := (hO.lt q hq).2; omega⟩
      clear hx1 hal
      obtain ⟨we, hwe⟩ : ∃ we, we = w.alloc (.cells #[.int .i64 lv, .slice none 0 0] 111) := ⟨_, rfl⟩
      have hse : we.heap.size = w.heap.size + 1 := by rw [hwe]; simp
      rw [← hwe] at hst0 ⊢
      have G1 := Lib.hid g1
      have G2 := Lib.hid g2
      clear hwe d0 df0 gl g1 g2
      go_loopw [4, 12] (fun v s wr => ∃ (OB E2 : Option Addr) (m1 o1 r t : Nat), v = .slice OB m1 o1 ∧ s = .int .i64 t ∧ t ≤ me ∧ WkT W0.heap.size P n dg dc OA m oc w lv OB E2 m1 o1 r t wr (F t) ∧ w.heap.size + 1 ≤ wr.heap.size) (fun _ s _ => me - (intOf s).toNat)
      case atStart => exact ⟨OA, none, m, oc, 0, 0, rfl, rfl, by omega, hst0, by omega⟩
      case round =>
        clear hst0 hse
        obtain ⟨OB, E2, m1, o1, r, t, rfl, rfl, ht, hT, hs1⟩ := hrel
        have hWr : Below W0.heap.size W0 wr := hW.trans (hT.below hsz hdB hOA)
        have g1 : wr.cell? ⟨b, o + i * 2, none⟩ = some (.int .i64 lv) := (hWr.cell (p := ⟨b, _, none⟩) hbl).trans G1.out
        have g2 : wr.cell? ⟨b, o + i * 2 + 1, none⟩ = some (.slice E me ce) := (hWr.cell (p := ⟨b, _, none⟩) hbl).trans G2.out
        have ⟨_, x0, x1, fx0, fx1⟩ := hT.x.open2
        by_cases hlt : t < me
        · have dt : decide ((t : Int) < me) = true := decide_eq_true (by omega)
          have dt' : decide (t < me) = true := decide_eq_true hlt
          obtain ⟨k0, b2, o2, hk0, he2, hb2, y0⟩ := hNx.int hlt
          subst he2
          have k1 : wr.cell? ⟨b2, o2 + t, none⟩ = some (.int .i64 k0) := (hWr.cell (p := ⟨b2, _, none⟩) hb2).trans y0
          have t0 : (0 : Int) ≤ (t : Int) := by omega
          have t1 : (t : Int) < (me : Int) := by omega
          have hFs := hsp.out t k0 hk0.out
          clear y0
          cases lb with
          | false =>
            have hFs := Lib.hid (hFs.trans (show wkS l cls (wkP l cls f) (lv, nx) (F t) k0 = ((F t).1, (F t).2 ++ [k0]) by unfold wkS; rw [if_neg (of_decide_eq_false hlh.out)]))
            clear hk0
            go_wp2_with (first | (at_builtin; refine wpList_append_elL rfl (.tmp 62) (.tmp 64) 84 rfl encI 1 3 (.int .i64 0) 8 Tryz.underlying84 (by kernel_rfl) rfl (by decide) encI_len encI_one (w.heap.size + 1) _ _ _ _ rfl (hT.e.alloc _) k0 ⟨(wr).heap.size, 0, none⟩ 1 rfl (cells_new (wr) _ _) (by omega) (by omega) (by first | omega | (simp; done) | (simp; omega)) ?_; intro A5 c5 w5 hown5 hg5 hb5 hl5; obtain ⟨hc5, hf5⟩ := bcell hb5; have hs5 := hb5.size; (try simp only [World.size_alloc, World.size_setCell, World.size_drew] at hc5 hf5); (try simp at hs5)))
            go_roundw
            case rel => exact ⟨OB, A5, m1, o1, c5, t + 1, rfl, by go_num, by omega, by rw [hFs.out]; exact hT.app hdg hPs hown5 hg5 hl5, by simp only [World.size_setCell]; omega⟩
            case measure => simp [intOf]; omega
          | true =>
            obtain ⟨c0, c1, c2, c3⟩ := hDx.out (of_decide_eq_true hlh.out) k0 (List.mem_of_getElem? hk0.out)
            obtain ⟨kn, rfl⟩ : ∃ kn : Nat, k0 = kn := ⟨k0.toNat, by omega⟩
            rw [Int.toNat_natCast] at c1 c2 c3
            obtain ⟨y, b3, o3, hy, he3, hb3, y3⟩ := hC.int (i := kn) (by omega)
            subst he3
            have hyy : cls.getD kn 0 = y := getD_of hy.out
            rw [hyy] at c2 c3
            obtain ⟨yn, rfl⟩ : ∃ yn : Nat, y = yn := ⟨y.toNat, by omega⟩
            rw [Int.toNat_natCast] at c3
            have k3 : wr.cell? ⟨b3, o3 + kn, none⟩ = some (.int .i64 (yn : Int)) := (hWr.cell (p := ⟨b3, _, none⟩) hb3).trans y3
            have hFs := Lib.hid (hFs.trans (show wkS l cls (wkP l cls f) (lv, nx) (F t) (kn : Int) = (wkP l cls f yn (F t).1, (F t).2 ++ [(wkP l cls f yn (F t).1).1.getD yn 0]) by unfold wkS; rw [if_pos (of_decide_eq_true hlh.out), Int.toNat_natCast, hyy, Int.toNat_natCast]))
            have q0 : (0 : Int) ≤ (kn : Int) := by omega
            have q1 : (kn : Int) < (n : Int) := by omega
            have p0 : (0 : Int) ≤ (yn : Int) := by omega
            have p1 : (yn : Int) < (n : Int) := by omega
            have hyn : yn < n := by omega
            have hbb : m1 + ngN (F t).1.1 ≤ 4096 := by
              have h1 := (hkp.out t (by show t ≤ nx.length; rw [hnl.out]; exact ht)).2.1
              rw [hT.o.len, hO.len] at h1
              (try simp only at h1)
              omega
            have hxs := hT.x.1
            have kW := ih yn (by omega) hyn (PX P w.heap.size E2 t r) OB m1 o1 _ _ wr hWr hT.d hT.o (.inl hPd) (fun q hq => by
              rcases hq with hq | hq | hq
              · have := hPs q hq; omega
              · omega
              · exact (hT.e.row.lt q hq).2) hbb
            clear hk0 hyy hy y3 c0 c1 c2 c3
            go_wp2_with fail
            go_at_call 219
            refine kW.mono ?_
            rintro e2 w2 ⟨O2, m2, o2', rfl, hK⟩
            have hT2 := hT.call hdg hK
            obtain ⟨z, hz, _, z0, fz0, _, _⟩ := hT2.d.intCell hyn
            have hzz : (wkP l cls f yn (F t).1).1.getD yn 0 = z := getD_of hz.out
            rw [hzz] at hFs
            have hs2 := hT2.f.size
            clear hz hzz hK kW x0 x1 fx0 fx1 g1 g2 k1 k3 hT ih
            have ⟨_, x0, x1, fx0, fx1⟩ := hT2.x.open2
            go_wp2_with (first | (at_builtin; refine wpList_append_elL rfl (.tmp 62) (.tmp 64) 84 rfl encI 1 3 (.int .i64 0) 8 Tryz.underlying84 (by kernel_rfl) rfl (by decide) encI_len encI_one (w.heap.size + 1) _ _ _ _ rfl (hT2.e.alloc _) z ⟨(w2).heap.size, 0, none⟩ 1 rfl (cells_new (w2) _ _) (by omega) (by omega) (by first | omega | (simp; done) | (simp; omega)) ?_; intro A5 c5 w5 hown5 hg5 hb5 hl5; obtain ⟨hc5, hf5⟩ := bcell hb5; have hs5 := hb5.size; (try simp only [World.size_alloc, World.size_setCell, World.size_drew] at hc5 hf5); (try simp at hs5)))
            go_roundw
            case rel => exact ⟨O2, A5, m2, o2', c5, t + 1, rfl, by go_num, by omega, by rw [hFs.out]; exact hT2.app hdg hPs hown5 hg5 hl5, by simp only [World.size_setCell]; omega⟩
            case measure => simp [intOf]; omega
        · obtain rfl : t = me := by omega
          have dt : decide ((t : Int) < t) = false := decide_eq_false (by omega)
          have dt' : decide (t < t) = false := decide_eq_false (by omega)
          have hkt := hkp.out t (by show t ≤ nx.length; rw [hnl.out]; exact Nat.le_refl _)
          have hm1 : m1 + 1 ≤ 4096 := by
            have h1 := hkt.2.1
            have h2 := ngN_pos (show (F t).1.1.getD i 0 < 0 by rw [hkt.2.2]; exact hng.out)
            rw [hT.o.len, hO.len] at h1
            (try simp only at h1)
            omega
          have hs := hst.out
          rw [show (lv, nx).2.length = t from hnl.out, hT.o.len] at hs
          have hst2 := Lib.hid hs
          obtain ⟨dv, hdv, _, e0, fe0, e1, fe1⟩ := hT.d.intCell hin
          have hTs := hT.store hdg hPd hin (m1 : Int)
          have hsf := hTs.f.size
          have hx9 := hTs.x.1
          clear hdv hkt hs hst ih
          obtain ⟨wd, hwd⟩ : ∃ wd, wd = wr.setCell ⟨dg, i, none⟩ (.int .i64 (m1 : Int)) := ⟨_, rfl⟩
          rw [← hwd] at hTs hsf hx9
          have hOd := (hTs.o.weak (P' := P) (fun q _ e => .inl e)).of (w' := wd.alloc (.cells #[.int .i64 lv, .slice E2 t r] 111)) ((Below.refl _ _).alloc (Nat.le_refl _) _)
          have hEd := hTs.e.of (w' := wd.alloc (.cells #[.int .i64 lv, .slice E2 t r] 111)) ((Below.refl _ _).alloc (Nat.le_refl _) _)
          go_upto_region 14 with (fail)
          rw [← hwd]
          clear hwd x0 x1 fx0 fx1 e0 fe0 e1 fe1 g1 g2
          have ⟨_, x0, x1, fx0, fx1⟩ := hTs.x.open2
          go_wp2_with (first | (at_builtin; refine wpList_append_o (K := ekN) rfl (.tmp 72) (.tmp 74) 23 rfl 111 (.agg #[.int .i64 0, .slice none 0 0]) 32 Tryz.underlying23 (by kernel_rfl) rfl W0.heap.size _ _ _ _ rfl hOd (lv, E2, t, r) (lv, (F t).2) ⟨rfl, hEd.rd encI_len, hEd.capO⟩ (fun q hq => ⟨fun e => (hOd.apart hEd (by decide)).2 q (hEd.blk q hq).1 e.symm, fun e => by have h1 := hPs q e; have h2 := (hEd.blk q hq).2.1; omega, by have h2 := (hEd.blk q hq).2.1; omega⟩) ⟨wd.heap.size, 0, none⟩ 1 rfl (cells_new wd (encN (lv, E2, t, r)) 111) (by omega) (by omega) (by first | omega | (simp; done) | (simp; omega)) ?_; intro A8 c8 w8 hO8 hg8 hb8 hl8))
          go_ret
          exact ⟨A8, m1 + 1, c8, rfl, by rw [hst2.out]; exact hTs.done hsz hdB hOA hO8 hg8 hl8⟩
end Go.Proofs.YtabfefhicfmabaaGreat
end
section
namespace Go.Proofs.YtabfefhicfmabaaGreat
open Go Go.RowKit
set_option maxRecDepth 100000
theorem rep_step (j : Nat) : List.replicate (j + 1) (-1 : Int) = List.replicate j (-1) ++ [-1] := List.replicate_succ'
set_option maxHeartbeats 8000000 in
theorem ref13_reduced (A : Option Addr) (n c : Nat) (l : List Nd) (w : World) (hN : RdX ekN w A n l) (hn0 : 0 < n) (hn : n ≤ 4096) (hE : ErlN l) (hd : DagN l (clsK l n).1) :
    Calls Tryz.prog 178 #[.slice A n c] w fun e w' => ∃ A' m' c', e = .returned (.slice A' m' c') ∧ OwnO ekN 111 w.heap.size (fun _ => False) w' A' m' c' (redN l) ∧ Below w.heap.size w w' := by
  have hNl := Lib.hid hN.len
  have kC := fun w1 h => ref13_classes A n c l w1 h hn hE
  go_enter Tryz.func178, Tryz.ntmps178
  go_wp2_with fail
  go_at_call 218
  refine (kC _ hN).mono ?_
  rintro e1 w1 ⟨CA, cc, rfl, hC, hb1⟩
  have hN1 := hN.of hb1
  have hs1 := hb1.size
  go_wp2_with fail
  go_loopw [4, 5] (fun v s wr => ∃ (D : Option Addr) (r j : Nat), v = .slice D j r ∧ s = .int .i64 j ∧ j ≤ n ∧ Own encI 1 3 w1.heap.size wr D j r (List.replicate j (-1)) ∧ Below w1.heap.size w1 wr) (fun _ s _ => n - (intOf s).toNat)
  case atStart => exact ⟨none, 0, 0, rfl, rfl, by omega, Own.nil_, Below.refl _ _⟩
  case round =>
    obtain ⟨D, r, j, rfl, rfl, hj, hown, hb⟩ := hrel
    have hsz := hb.size
    by_cases hlt : j < n
    · have dj : decide ((j : Int) < n) = true := decide_eq_true (by omega)
      have dj' : decide (j < n) = true := decide_eq_true hlt
      have hst := Lib.hid (rep_step j)
      go_wp2_with (first | (at_builtin; refine wpList_append_el rfl (.tmp 14) (.tmp 15) 84 rfl encI 1 3 (.int .i64 0) 8 Tryz.underlying84 (by kernel_rfl) rfl (by decide) encI_len encI_one (w1.heap.size) _ _ _ _ rfl (hown.alloc _) (-1 : Int) ⟨(wr).heap.size, 0, none⟩ 1 rfl (cells_new (wr) _ _) (by omega) (by omega) (by first | omega | (simp; done) | (simp; omega)) ?_; intro A5 c5 w5 hown5 hg5 hb5; obtain ⟨hc5, hf5⟩ := bcell hb5; have hs5 := hb5.size; (try simp only [World.size_alloc, World.size_setCell, World.size_drew] at hc5 hf5); (try simp at hs5)))
      go_roundw
      case rel => exact ⟨A5, c5, j + 1, rfl, by go_num, by omega, by rw [hst.out]; exact hown5, by (repeat' (first | exact Below.refl _ _ | assumption | (refine Below.alloc ?_ ?_ _) | (refine Below.setCell ?_ ?_ _) | (refine Below.drew ?_) | (refine below_drewN ?_ _) | (refine below_after (Ext.below _) ?_ ?_) | (refine below_after (by assumption) ?_ ?_) | (simp; done) | omega | (simp; omega)))⟩
      case measure => simp [intOf]; omega
    · obtain rfl : j = n := by omega
      have dj : decide ((j : Int) < j) = false := decide_eq_false (by omega)
      have dj' : decide (j < j) = false := decide_eq_false (by omega)
      obtain ⟨g, rfl⟩ : ∃ g, D = some ⟨g, 0, none⟩ := by
        rcases hown.row.2 with ⟨_, h0⟩ | ⟨g, cap, cur, hv, _⟩
        · omega
        · injection hv with h1; exact ⟨g, h1⟩
      obtain ⟨jp, hjp⟩ : ∃ jp, jp = j - 1 := ⟨_, rfl⟩
      have hjj : jp < j := by omega
      have wk : IntKind.i64.wrap ((j : Int) - 1) = (jp : Int) := by rw [IntWalk.i64_in _ (by omega)]; omega
      have j0 : (0 : Int) ≤ (jp : Int) := by omega
      have j1 : (jp : Int) < (j : Int) := by omega
      have hCr := (hC.rd encI_len).of hb
      obtain ⟨y, b3, o3, hy, he3, hb3, y3⟩ := hCr.int hjj
      subst he3
      have hcl := cls_le l j jp hjj
      have hyy : (clsK l j).1.getD jp 0 = y := getD_of hy.out
      rw [hyy] at hcl
      obtain ⟨yn, rfl⟩ : ∃ yn : Nat, y = yn := ⟨y.toNat, by omega⟩
      have hyn : yn < j := by have := hcl.2; rw [Int.toNat_natCast] at this; omega
      have hred := Lib.hid (show redN l = (wkP l (clsK l j).1 j yn (List.replicate j (-1), [])).2 by
        unfold redN; rw [hNl.out, ← hjp, hyy, Int.toNat_natCast])
      have kW := ref13_walk w1 A (some ⟨b3, o3, none⟩) j c cc l (clsK l j).1 hN1 (hC.rd encI_len) hn hE hd g r j yn hyn hyn (fun q => q = g) none 0 0 _ [] wr hb hown OwnO.nil_ rfl (fun q hq => by subst hq; exact (hown.row.lt q rfl).2) (by have := ngN_le (List.replicate j (-1)); rw [List.length_replicate] at this; omega)
      clear hjp hcl hyy hy
      go_wp2_with fail
      go_at_call 219
      refine kW.mono ?_
      rintro e2 w2 ⟨A2, m2, c2, rfl, h1, h2, h3, h4, h5⟩
      go_wp2_with fail
      go_ret
      have hw2 : Below w.heap.size w w2 := hb1.trans ((hb.trans h3).mono hs1)
      obtain ⟨xs0, o1, o2, o3⟩ := h2
      exact ⟨A2, m2, c2, rfl, by rw [hred.out]; exact ⟨xs0, o1.more hs1, o2, fun a ha q hq => ⟨(o3 a ha q hq).1, fun h => h.elim, by have := (o3 a ha q hq).2.2; omega⟩⟩, hw2⟩
theorem FrG.tr {W w' : World} {b b1 : Nat} {x y z : Value} (h : FrG W b w') (t : TrAt W b1 x y z) (hne : b1 ≠ b) : FrG W b w' ∧ w'.cell? ⟨b1, 0, none⟩ = some x ∧ w'.cell? ⟨b1, 1, none⟩ = some y ∧ w'.cell? ⟨b1, 2, none⟩ = some z :=
  ⟨h, h.cell t.1 hne t.2.1, h.cell t.1 hne t.2.2.1, h.cell t.1 hne t.2.2.2⟩
theorem two_boxesN (w : World) (x y z : Value) (t t' : TypeId) : ∃ we, we = (w.alloc (.cells #[x, y, z] t)).alloc (.cells #[.int .i64 0, .slice none 0 0, .slice none 0 0] t') ∧
    TrAt we w.heap.size x y z ∧ BxW we (w.heap.size + 1) [.int .i64 0, .slice none 0 0, .slice none 0 0] ∧ Below w.heap.size w we ∧ we.heap.size = w.heap.size + 2 := by
  have h := BxW.new (w.alloc (.cells #[x, y, z] t)) [.int .i64 0, .slice none 0 0, .slice none 0 0] t'
  rw [World.size_alloc] at h
  exact ⟨_, rfl, (TrAt.new w x y z t).of ((Below.refl _ _).alloc (Nat.le_refl _) _), h, ((Below.refl _ _).alloc (Nat.le_refl _) _).alloc (by simp) _, by simp⟩
theorem OwnO.setOld {α β : Type} {K : EK α β} {e : TypeId} {B n c : Nat} {P : Nat → Prop} {w : World} {A : Option Addr} {bs : List β} (h : OwnO K e B P w A n c bs) {b : Nat} (hb : b < B) (i : Nat) (v : Value) : OwnO K e B P (w.setCell ⟨b, i, none⟩ v) A n c bs :=
  h.grow (grownBy_set w b i v) (fun q hq e => by have := (h.lt q hq).1; injection e with e; omega) (fun q e => .inr (by injection e with e; omega)) (fun _ _ e => e)
theorem OwnO.more {α β : Type} {K : EK α β} {e : TypeId} {B B' n c : Nat} {P : Nat → Prop} {w : World} {A : Option Addr} {bs : List β} (h : OwnO K e B P w A n c bs) (hB : B' ≤ B) : OwnO K e B' P w A n c bs := by
  obtain ⟨xs0, h1, h2, h3⟩ := h
  exact ⟨xs0, h1.more hB, h2, fun a ha q hq => ⟨(h3 a ha q hq).1, (h3 a ha q hq).2.1, Nat.le_trans hB (h3 a ha q hq).2.2⟩⟩
set_option maxHeartbeats 8000000 in
theorem ref13_Reduce (st : Int) (A B : Option Addr) (n c m d : Nat) (H : List (Int × Int)) (N : List Nd) (w : World) (hH : Rd encP 2 w A n H) (hN : RdX ekN w B m N) (hT : trR st H N = true) (hm0 : 0 < m) (hm : m ≤ 4096) (hE : ErlN N) (hd : DagN N (clsK N m).1) :
    Calls Tryz.prog 127 #[.agg #[.int .i64 st, .slice A n c, .slice B m d]] w fun e w' => ∃ B' m' d', e = .returned (.agg #[.int .i64 st, .slice A n c, .slice B' m' d']) ∧ OwnO ekN 111 w.heap.size (fun _ => False) w' B' m' d' (redN N) ∧ Below w.heap.size w w' := by
  have kR := fun w1 h1 h2 => ref12_Right st A B n c m d H N w1 h1 h2
  rw [hT] at kR
  have kD := fun w1 h => ref13_reduced B m d N w1 h hm0 hm hE hd
  clear hT
  go_enter Tryz.func127, Tryz.ntmps127
  go_wp2_with fail
  obtain ⟨we, hwe, hbt, hrb, hB, hsw⟩ := two_boxesN w (.int .i64 st) (.slice A n c) (.slice B m d) 25 25
  rw [← hwe]
  clear hwe
  obtain ⟨rb, hrbe⟩ : ∃ rb, rb = w.heap.size + 1 := ⟨_, rfl⟩
  obtain ⟨tb, htbe⟩ : ∃ tb, tb = w.heap.size := ⟨_, rfl⟩
  rw [← hrbe] at hrb ⊢
  rw [← htbe] at hbt ⊢
  have hrg : w.heap.size ≤ rb := by omega
  have hne : tb ≠ rb := by omega
  clear hrbe htbe
  replace hH := hH.of hB
  replace hN := hN.of hB
  have ⟨_, t0, t1, t2⟩ := hbt
  go_wp2_with fail
  go_at_call 103
  refine (kR _ hH hN).mono ?_
  rintro e1 w1 ⟨rfl, hb1⟩
  clear t0 t1 t2
  replace hN := hN.of hb1
  replace hrb := hrb.of hb1
  replace hbt := hbt.of hb1
  replace hB := below_thru hB hb1
  have hs1 := hb1.size
  have hl1 := hB.size
  have hrl := hrb.1
  have htl := hbt.1
  clear hb1
  have ⟨_, t0, t1, t2⟩ := hbt
  have r0 : w1.cell? ⟨rb, 0, none⟩ = some (.int .i64 0) := hrb.2.1 0
  have r1 : w1.cell? ⟨rb, 1, none⟩ = some (.slice none 0 0) := hrb.2.1 1
  have r2 : w1.cell? ⟨rb, 2, none⟩ = some (.slice none 0 0) := hrb.2.1 2
  have f0 : w1.frozen? ⟨rb, 0, none⟩ = false := hrb.2.2 0
  have f1 : w1.frozen? ⟨rb, 1, none⟩ = false := hrb.2.2 1
  have f2 : w1.frozen? ⟨rb, 2, none⟩ = false := hrb.2.2 2
  go_wp2_with fail
  go_region_held3 (fun w' => FrG w1 rb w' ∧ w'.cell? ⟨tb, 0, none⟩ = some (.int .i64 st) ∧ w'.cell? ⟨tb, 1, none⟩ = some (.slice A n c) ∧ w'.cell? ⟨tb, 2, none⟩ = some (.slice B m d))
    ((with_reducible ((try go_split_ands); refine FrG.tr ?_ hbt hne; first | exact FrG.drew (FrG.here _ _) | exact FrG.drew ‹_› | exact FrG.of ‹_› hb2 | exact FrG.set (FrG.set (FrG.set ‹_› _ _) _ _) _ _ | exact FrG.set (FrG.set (FrG.set (FrG.of ‹_› hb2) _ _) _ _) _ _ | fail)))
    ((first | (go_at_call 178; (try go_split_ands); refine (kD _ (by first | exact hN | exact hN.of (Below.refl _ _).drew)).mono ?_; rintro e2 w2 ⟨B2, m2, d2, rfl, hO2, hb2⟩; have hrb2 := BxW.of (by first | exact hrb | exact hrb.drew) hb2; have y0 := hrb2.2.1 0; have y1 := hrb2.2.1 1; have y2 := hrb2.2.1 2; have z0 := hrb2.2.2 0; have z1 := hrb2.2.2 1; have z2 := hrb2.2.2 2; simp only [List.getElem?_cons_zero, List.getElem?_cons_succ] at y0 y1 y2) | fail))
  have hw2 : Below w.heap.size w w2 := below_thru hB.drew hb2
  go_wp2_with fail
  refine bodyPost_ret (v := .agg #[.int .i64 st, .slice A n c, .slice B2 m2 d2]) (by simp [results, Tryz.results127, go_sem, *, ↓IntWalk.iteOmega]) rfl ?_
  exact ⟨B2, m2, d2, rfl, (((hO2.setOld (b := rb) hrl 0 _).setOld hrl 1 _).setOld hrl 2 _).more hl1, ((hw2.setCell hrg _).setCell hrg _).setCell hrg _⟩
end Go.Proofs.YtabfefhicfmabaaGreat
end
