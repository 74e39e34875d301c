/- The contracts of chapter 36 at known lists, and its awake. -/
import Derived.Test.YtenckggfgbkfnaaIsl8
import Derived.Test.YtenckggfgbkfnaaCellS
namespace Go.Proofs.Ytenckggfgbkfnaa
open Go Go.RowKit
set_option linter.unusedSimpArgs false
set_option linter.unusedVariables false
set_option maxRecDepth 100000
attribute [local go_sem ↓ high] eq_cl neq_cl eq_pt neq_pt
theorem rdX_lit (W : World) (t : TypeId) (hs : List (Option Addr × Nat × Nat)) (ls : List (List (Int × Int × Int))) (cs : Array Value) (n : Nat) (hn : hs.length = n) (hm : n ≤ 1000000) (hcs : cs.toList = hs.flatMap encH) (h : ekC.All W hs ls) : RdX ekC (W.alloc (.cells cs t)) (some ⟨W.heap.size, 0, none⟩) n ls := by
  have ho := (Own.lit encH_len W t W.heap.size (Nat.le_refl _) hs n hn (by omega) cs.toList hcs).rd encH_len
  rw [Array.toArray_toList] at ho
  refine ⟨hs, ho, h.of ((Below.refl _ _).alloc (Nat.le_refl _) _)⟩
theorem all_two {W : World} {h1 h2 : Option Addr × Nat × Nat} {l1 l2 : List (Int × Int × Int)} (a1 : ekC.rel W h1 l1) (a2 : ekC.rel W h2 l2) : ekC.All W [h1, h2] [l1, l2] := (EK.All.nil_.snoc a1).snoc a2
theorem all_three {W : World} {h1 h2 h3 : Option Addr × Nat × Nat} {l1 l2 l3 : List (Int × Int × Int)} (a1 : ekC.rel W h1 l1) (a2 : ekC.rel W h2 l2) (a3 : ekC.rel W h3 l3) : ekC.All W [h1, h2, h3] [l1, l2, l3] := ((EK.All.nil_.snoc a1).snoc a2).snoc a3
section
variable {l r : List (Int × Int × Int)} {ls L : List (List (Int × Int × Int))} {pl : List (Int × Int)} {d q : Int} {p : Nat} (A B : Option Addr) (n m c k : Nat) (w : World)
theorem isl_PartsV (hE : prtsE l d = q) (hL : prtsL l d = L) (hp : L.length = p) (hR : Rd encC 3 w A n l) (hn : n ≤ 1000000) :
    Calls Try.prog 9 #[.slice A n c, .int .i64 d] w fun e w' => ∃ A2 c2, e = .returned (.tuple #[.slice A2 p c2, .int .i64 q]) ∧ RdX ekC w' A2 p L ∧ Below w.heap.size w w' := by
  refine (isl_Parts A n c l d w hR hn).mono ?_
  rintro e w' ⟨A2, n2, c2, rfl, h2, _, hb⟩
  rw [hL] at h2
  obtain rfl : n2 = p := by rw [← h2.len, hp]
  exact ⟨A2, c2, by rw [hE], h2, hb⟩
theorem isl_CountV (hE : prtsE l d = q) (hp : (prtsL l d).length = p) (hR : Rd encC 3 w A n l) (hn : n ≤ 1000000) :
    Calls Try.prog 11 #[.slice A n c, .int .i64 d] w fun e w' => e = .returned (.tuple #[.int .i64 (p : Nat), .int .i64 q]) ∧ Below w.heap.size w w' := by
  rw [← hE, ← hp]; exact isl_Count A n c l d w hR hn
theorem isl_NearV {v : Bool} (hv : nearL d l r = v) (hR : Rd encC 3 w A n l) (hS : Rd encC 3 w B m r) (hn : n ≤ 1000000) (hm : m ≤ 1000000) :
    Calls Try.prog 13 #[.slice A n c, .slice B m k, .int .i64 d] w fun e w' => e = .returned (.bool v) ∧ Below w.heap.size w w' := by
  rw [← hv]; exact isl_Near A B n m c k l r d w hR hS hn hm
theorem isl_MergeV (hE : mgE ls pl = q) (hM : ∀ L', mgOut ls pl L' → L' = L) (hp : L.length = p) (hL : RdX ekC w A n ls) (hP : Rd encP 2 w B m pl) (hn : n ≤ 1000) (hm : m ≤ 1000) (hbd : ∀ l ∈ ls, l.length ≤ 100000) :
    Calls Try.prog 15 #[.slice A n c, .slice B m k] w fun e w' => ∃ A2 c2, e = .returned (.tuple #[.slice A2 p c2, .int .i64 q]) ∧ RdX ekC w' A2 p L ∧ Below w.heap.size w w' := by
  refine (isl_Merge A B n c m k ls pl w hL hP hn hm hbd).mono ?_
  rintro e w' ⟨A2, n2, c2, L', rfl, h2, _, h3, hb⟩
  rw [hM L' h3.out] at h2
  obtain rfl : n2 = p := by rw [← h2.len, hp]
  exact ⟨A2, c2, by rw [hE], h2, hb⟩
theorem law36_sameV (hA : RdX ekC w A n L) (hB : RdX ekC w B n L) (hn : n ≤ 1000000) (ha : ∀ l ∈ L, l.length ≤ 1000000) :
    Calls Try.prog 12 #[.slice A n c, .slice B n k] w fun e w' => e = .returned (.bool true) ∧ Below w.heap.size w w' := by
  have h := law36_same A B n n c k L L w hA hB hn hn ha ha
  rw [show sameLL L L = true from decide_eq_true rfl] at h
  exact h
end
def p36 : List (Int × Int × Int) := [(0, 0, 1), (2, 0, 1), (3, 1, 1)]
def a36 : List (List (Int × Int × Int)) := [[(0, 0, 1)], [(2, 0, 1), (3, 1, 1)]]
def l36 : List (List (Int × Int × Int)) := [[(0, 0, 1)], [(5, 0, 1)], [(9, 0, 2)]]
def b36 : List (List (Int × Int × Int)) := [[(0, 0, 1), (9, 0, 2)], [(5, 0, 1)]]
/-- The parts, by a function that is shown to be the first cells'. -/
theorem prts_by {l : List (Int × Int × Int)} {d : Int} {g : Nat → Nat} (hg : ∀ i, i < l.length → g i = gpI l d i) : prtsN l d l.length = (List.range l.length).flatMap fun i => if g i = i then [selN l (fun k => g k == i) l.length] else [] := by
  unfold prtsN
  have key : ∀ L : List Nat, (∀ i ∈ L, i < l.length) → (L.flatMap fun i => if gpI l d i = i then [prt l d i] else []) = L.flatMap fun i => if g i = i then [selN l (fun k => g k == i) l.length] else [] := by
    intro L
    induction L with
    | nil => intro _; rfl
    | cons i L ih =>
      intro h
      rw [List.flatMap_cons, List.flatMap_cons, ih (fun j hj => h j (by simp [hj])), ← hg i (h i (by simp))]
      congr 1
      unfold prt
      rw [selN_congr (p := fun k => gpI l d k == i) (q := fun k => g k == i) fun k hk => by simp only [hg k hk]]
  exact key _ fun i hi => by simpa using hi
theorem grp36_1 : ∀ i, i < p36.length → (fun i => if i = 0 then 0 else 1 : Nat → Nat) i = gpI p36 1 i := by
  refine gpI_of (fun i hi => ?_) (fun i k a b ha hb hn => ?_)
  · have h : i = 0 ∨ i = 1 ∨ i = 2 := by simp [p36] at hi; omega
    rcases h with rfl | rfl | rfl
    · exact ⟨by decide, .refl hi⟩
    · exact ⟨by decide, .refl hi⟩
    · exact ⟨by decide, Rch.one (a := (3, 1, 1)) (b := (2, 0, 1)) rfl rfl (by decide)⟩
  · have hi := lt_of_some ha
    have hk := lt_of_some hb
    have h : i = 0 ∨ i = 1 ∨ i = 2 := by simp [p36] at hi; omega
    have h' : k = 0 ∨ k = 1 ∨ k = 2 := by simp [p36] at hk; omega
    rcases h with rfl | rfl | rfl <;> rcases h' with rfl | rfl | rfl <;> simp [p36] at ha hb <;> subst ha hb <;> first | (simp; done) | (exact absurd hn (by decide))
theorem grp36_2 : ∀ i, i < p36.length → (fun _ => 0 : Nat → Nat) i = gpI p36 2 i := by
  refine gpI_of (fun i hi => ?_) (fun i k a b ha hb hn => Nat.le_refl _)
  have h : i = 0 ∨ i = 1 ∨ i = 2 := by simp [p36] at hi; omega
  rcases h with rfl | rfl | rfl
  · exact ⟨by decide, .refl hi⟩
  · exact ⟨by decide, Rch.one (a := (2, 0, 1)) (b := (0, 0, 1)) rfl rfl (by decide)⟩
  · exact ⟨by decide, (Rch.one (i := 2) (j := 1) (a := (3, 1, 1)) (b := (2, 0, 1)) rfl rfl (by decide)).trans (Rch.one (a := (2, 0, 1)) (b := (0, 0, 1)) rfl rfl (by decide))⟩
theorem right36 : rightC p36 = true := by decide +kernel
theorem parts36_1 : prtsE p36 1 = 0 ∧ prtsL p36 1 = a36 := by
  have h := prtsE_ok (l := p36) (d := 1) ⟨right36, by omega, by omega⟩
  refine ⟨h.1, ?_⟩
  rw [h.2, prts_by grp36_1]; rfl
theorem parts36_2 : prtsE p36 2 = 0 ∧ (prtsL p36 2).length = 1 := by
  have h := prtsE_ok (l := p36) (d := 2) ⟨right36, by omega, by omega⟩
  refine ⟨h.1, ?_⟩
  rw [h.2, prts_by grp36_2]; rfl
theorem parts36_9 : prtsE p36 9 = 2 ∧ prtsL p36 9 = [] := prtsE_bad (fun h => by omega)
theorem merge36 : mgE l36 [(0, 2)] = 0 ∧ ∀ L', mgOut l36 [(0, 2)] L' → L' = b36 := by
  have hE : mgE l36 [(0, 2)] = 0 := by decide +kernel
  refine ⟨hE, fun L' h => ?_⟩
  have ht : Tells l36.length [((0 : Nat), (2 : Nat))] (joinF id 0 2) := tells_step (pl := []) (a := 0) (b := 2) tells_start (by decide) (by decide)
  refine mg_unique (h.2 hE) (mg_of (rs := [2, 1]) (f := joinF id 0 2) ht (by decide +kernel) (by decide) (by decide) (fun r => ?_) ?_ (by decide +kernel))
  · constructor
    · intro hr
      have : r = 2 ∨ r = 1 := by simpa using hr
      rcases this with rfl | rfl
      · exact ⟨0, by decide, by decide⟩
      · exact ⟨1, by decide, by decide⟩
    · rintro ⟨i, hi, rfl⟩
      have h : i = 0 ∨ i = 1 ∨ i = 2 := by simp [l36] at hi; omega
      rcases h with rfl | rfl | rfl <;> decide
  · rw [show [2, 1].map (patR l36 (joinF id 0 2)) = b36 by decide +kernel]
theorem merge36_bad : mgE l36 [(0, 3)] = 13 ∧ ∀ L', mgOut l36 [(0, 3)] L' → L' = [] := by
  have hE : mgE l36 [(0, 3)] = 13 := by decide +kernel
  exact ⟨hE, fun L' h => h.1 (by rw [hE]; omega)⟩
theorem near36_2 : nearL 2 [(0, 0, 1)] [(3, 2, 1)] = false := by decide +kernel
theorem near36_3 : nearL 3 [(0, 0, 1)] [(3, 2, 1)] = true := by decide +kernel
structure HRdX (w : World) (A : Option Addr) (n : Nat) (ls : List (List (Int × Int × Int))) : Prop where
  rd : RdX ekC w A n ls
theorem HRdX.drew {w : World} {A : Option Addr} {n : Nat} {ls : List (List (Int × Int × Int))} (h : HRdX w A n ls) : HRdX w.drew A n ls := ⟨h.rd⟩
theorem HRdX.of {w w' : World} {A : Option Addr} {n : Nat} {ls : List (List (Int × Int × Int))} (h : HRdX w A n ls) (hb : Below w.heap.size w w') : HRdX w' A n ls := ⟨h.rd.of hb⟩
theorem HRdX.alloc {w : World} {A : Option Addr} {n : Nat} {ls : List (List (Int × Int × Int))} (h : HRdX w A n ls) (o : Obj) : HRdX (w.alloc o) A n ls := h.of ((Below.refl _ _).alloc (Nat.le_refl _) o)
theorem rd_drop1 {w : World} {b n : Nat} {x : Int × Int × Int} {l : List (Int × Int × Int)} (h : Rd encC 3 w (some ⟨b, 0, none⟩) (n + 1) (x :: l)) : Rd encC 3 w (some ⟨b, 3, none⟩) n l := by
  refine ⟨by have := h.1; simpa using this, fun hn => ?_⟩
  obtain ⟨b', o', e, hb, hc⟩ := h.2 (by omega)
  injection e with e
  injection e with e1 e2
  subst e1 e2
  refine ⟨b, 3, rfl, hb, fun i y hi j u hu => ?_⟩
  have := hc (i + 1) y (by simpa using hi) j u hu
  rw [show 0 + (i + 1) * 3 + j = 3 + i * 3 + j by omega] at this
  exact this
theorem lit36 (W : World) : RdX ekC ((((W.alloc (.cells #[.int .i64 0, .int .i64 0, .int .i64 1] 39)).alloc (.cells #[.int .i64 5, .int .i64 0, .int .i64 1] 39)).alloc (.cells #[.int .i64 9, .int .i64 0, .int .i64 2] 39)).alloc (.cells #[.slice (some ⟨W.heap.size, 0, none⟩) 1 1, .slice (some ⟨W.heap.size + 1, 0, none⟩) 1 1, .slice (some ⟨W.heap.size + 1 + 1, 0, none⟩) 1 1] 23)) (some ⟨W.heap.size + 1 + 1 + 1, 0, none⟩) 3 l36 := by
  have k1 := rd_litC W [(0, 0, 1)] #[.int .i64 0, .int .i64 0, .int .i64 1] 1 rfl (by omega) rfl
  have k2 := rd_litC (W.alloc (.cells #[.int .i64 0, .int .i64 0, .int .i64 1] 39)) [(5, 0, 1)] #[.int .i64 5, .int .i64 0, .int .i64 1] 1 rfl (by omega) rfl
  have k3 := rd_litC ((W.alloc (.cells #[.int .i64 0, .int .i64 0, .int .i64 1] 39)).alloc (.cells #[.int .i64 5, .int .i64 0, .int .i64 1] 39)) [(9, 0, 2)] #[.int .i64 9, .int .i64 0, .int .i64 2] 1 rfl (by omega) rfl
  rw [World.size_alloc] at k2 k3
  rw [World.size_alloc] at k3
  have h := rdX_lit (((W.alloc (.cells #[.int .i64 0, .int .i64 0, .int .i64 1] 39)).alloc (.cells #[.int .i64 5, .int .i64 0, .int .i64 1] 39)).alloc (.cells #[.int .i64 9, .int .i64 0, .int .i64 2] 39)) 23 [(some ⟨W.heap.size, 0, none⟩, 1, 1), (some ⟨W.heap.size + 1, 0, none⟩, 1, 1), (some ⟨W.heap.size + 1 + 1, 0, none⟩, 1, 1)] l36 #[.slice (some ⟨W.heap.size, 0, none⟩) 1 1, .slice (some ⟨W.heap.size + 1, 0, none⟩) 1 1, .slice (some ⟨W.heap.size + 1 + 1, 0, none⟩) 1 1] 3 rfl (by omega) rfl
    (all_three ⟨k1.of (by (repeat' (first | exact Below.refl _ _ | assumption | (refine Below.alloc ?_ ?_ _) | (refine Below.setCell ?_ ?_ _) | (refine Below.drew ?_) | (refine below_drewN ?_ _) | (refine below_after (Ext.below _) ?_ ?_) | (refine below_after (by assumption) ?_ ?_) | (simp; done) | omega | (simp; omega)))), by simp⟩ ⟨k2.of (by (repeat' (first | exact Below.refl _ _ | assumption | (refine Below.alloc ?_ ?_ _) | (refine Below.setCell ?_ ?_ _) | (refine Below.drew ?_) | (refine below_drewN ?_ _) | (refine below_after (Ext.below _) ?_ ?_) | (refine below_after (by assumption) ?_ ?_) | (simp; done) | omega | (simp; omega)))), by simp⟩ ⟨k3, by simp⟩)
  rw [World.size_alloc, World.size_alloc, World.size_alloc] at h
  exact h
theorem lit36A (W : World) : RdX ekC (((W.alloc (.cells #[.int .i64 0, .int .i64 0, .int .i64 1, .int .i64 9, .int .i64 0, .int .i64 2] 39)).alloc (.cells #[.int .i64 5, .int .i64 0, .int .i64 1] 39)).alloc (.cells #[.slice (some ⟨W.heap.size, 0, none⟩) 2 2, .slice (some ⟨W.heap.size + 1, 0, none⟩) 1 1] 23)) (some ⟨W.heap.size + 1 + 1, 0, none⟩) 2 b36 := by
  have k1 := rd_litC W [(0, 0, 1), (9, 0, 2)] #[.int .i64 0, .int .i64 0, .int .i64 1, .int .i64 9, .int .i64 0, .int .i64 2] 2 rfl (by omega) rfl
  have k2 := rd_litC (W.alloc (.cells #[.int .i64 0, .int .i64 0, .int .i64 1, .int .i64 9, .int .i64 0, .int .i64 2] 39)) [(5, 0, 1)] #[.int .i64 5, .int .i64 0, .int .i64 1] 1 rfl (by omega) rfl
  rw [World.size_alloc] at k2
  have h := rdX_lit ((W.alloc (.cells #[.int .i64 0, .int .i64 0, .int .i64 1, .int .i64 9, .int .i64 0, .int .i64 2] 39)).alloc (.cells #[.int .i64 5, .int .i64 0, .int .i64 1] 39)) 23 [(some ⟨W.heap.size, 0, none⟩, 2, 2), (some ⟨W.heap.size + 1, 0, none⟩, 1, 1)] b36 #[.slice (some ⟨W.heap.size, 0, none⟩) 2 2, .slice (some ⟨W.heap.size + 1, 0, none⟩) 1 1] 2 rfl (by omega) rfl
    (all_two ⟨k1.of (by (repeat' (first | exact Below.refl _ _ | assumption | (refine Below.alloc ?_ ?_ _) | (refine Below.setCell ?_ ?_ _) | (refine Below.drew ?_) | (refine below_drewN ?_ _) | (refine below_after (Ext.below _) ?_ ?_) | (refine below_after (by assumption) ?_ ?_) | (simp; done) | omega | (simp; omega)))), by simp⟩ ⟨k2, by simp⟩)
  rw [World.size_alloc, World.size_alloc] at h
  exact h
theorem lit36B (W : World) : RdX ekC (((W.alloc (.cells #[.int .i64 5, .int .i64 0, .int .i64 1] 39)).alloc (.cells #[.int .i64 0, .int .i64 0, .int .i64 1, .int .i64 9, .int .i64 0, .int .i64 2] 39)).alloc (.cells #[.slice (some ⟨W.heap.size + 1, 0, none⟩) 2 2, .slice (some ⟨W.heap.size, 0, none⟩) 1 1] 23)) (some ⟨W.heap.size + 1 + 1, 0, none⟩) 2 b36 := by
  have k1 := rd_litC W [(5, 0, 1)] #[.int .i64 5, .int .i64 0, .int .i64 1] 1 rfl (by omega) rfl
  have k2 := rd_litC (W.alloc (.cells #[.int .i64 5, .int .i64 0, .int .i64 1] 39)) [(0, 0, 1), (9, 0, 2)] #[.int .i64 0, .int .i64 0, .int .i64 1, .int .i64 9, .int .i64 0, .int .i64 2] 2 rfl (by omega) rfl
  rw [World.size_alloc] at k2
  have h := rdX_lit ((W.alloc (.cells #[.int .i64 5, .int .i64 0, .int .i64 1] 39)).alloc (.cells #[.int .i64 0, .int .i64 0, .int .i64 1, .int .i64 9, .int .i64 0, .int .i64 2] 39)) 23 [(some ⟨W.heap.size + 1, 0, none⟩, 2, 2), (some ⟨W.heap.size, 0, none⟩, 1, 1)] b36 #[.slice (some ⟨W.heap.size + 1, 0, none⟩) 2 2, .slice (some ⟨W.heap.size, 0, none⟩) 1 1] 2 rfl (by omega) rfl
    (all_two ⟨k2, by simp⟩ ⟨k1.of (by (repeat' (first | exact Below.refl _ _ | assumption | (refine Below.alloc ?_ ?_ _) | (refine Below.setCell ?_ ?_ _) | (refine Below.drew ?_) | (refine below_drewN ?_ _) | (refine below_after (Ext.below _) ?_ ?_) | (refine below_after (by assumption) ?_ ?_) | (simp; done) | omega | (simp; omega)))), by simp⟩)
  rw [World.size_alloc, World.size_alloc] at h
  exact h
theorem lit36C (W : World) (b : Nat) (hP : Rd encC 3 W (some ⟨b, 0, none⟩) 3 p36) : RdX ekC (W.alloc (.cells #[.slice (some ⟨b, 0, none⟩) 1 3, .slice (some ⟨b, 3, none⟩) 2 2] 23)) (some ⟨W.heap.size, 0, none⟩) 2 a36 :=
  rdX_lit W 23 [(some ⟨b, 0, none⟩, 1, 3), (some ⟨b, 3, none⟩, 2, 2)] a36 _ 2 rfl (by omega) rfl (all_two ⟨hP.take (i := 1) (by omega), by simp⟩ ⟨rd_drop1 hP, by simp⟩)
theorem RdX.drew {α β : Type} {K : EK α β} {w : World} {A : Option Addr} {n : Nat} {bs : List β} (h : RdX K w A n bs) : RdX K w.drew A n bs := h.of (Below.refl _ _).drew
theorem lit36D (w : World) (x y : Int) : Rd encP 2 (w.alloc (.cells #[.int .i64 x, .int .i64 y] 41)) (some ⟨w.heap.size, 0, none⟩) 1 [(x, y)] :=
  (Own.lit encP_len w 41 w.heap.size (Nat.le_refl _) [(x, y)] 1 rfl (by omega) [.int .i64 x, .int .i64 y] rfl).rd encP_len
set_option maxHeartbeats 16000000 in
theorem awake_36 (w : World) : Calls Try.prog 8 #[] w fun e w' => e = .returned (.bool true) ∧ Below w.heap.size w w' := by
  have hP := rd_litC w p36 #[.int .i64 0, .int .i64 0, .int .i64 1, .int .i64 2, .int .i64 0, .int .i64 1, .int .i64 3, .int .i64 1, .int .i64 1] 3 rfl (by omega) rfl
  go_enter Try.func8, Try.ntmps8
  go_wp2_with fail; go_at_call 9; refine (isl_PartsV _ _ _ _ parts36_1.1 parts36_1.2 (p := 2) rfl hP (by omega)).mono ?_; rintro e w1 ⟨A1, c1, rfl, h1, hb1⟩; have hs1 := hb1.size; (try simp only [World.size_alloc, World.size_drew, World.size_setCell] at hs1)
  have hP1 := hP.of hb1
  go_wp2_with fail; go_at_call 11; refine (isl_CountV _ _ _ _ parts36_2.1 parts36_2.2 hP1 (by omega)).mono ?_; rintro e w2 ⟨rfl, hb2⟩; have hs2 := hb2.size; (try simp only [World.size_alloc, World.size_drew, World.size_setCell] at hs2)
  have hP2 := hP1.of hb2
  go_wp2_with fail; go_at_call 9; refine (isl_PartsV _ _ _ _ parts36_9.1 parts36_9.2 (p := 0) rfl hP2 (by omega)).mono ?_; rintro e w3 ⟨A3, c3, rfl, h3, hb3⟩; have hs3 := hb3.size; (try simp only [World.size_alloc, World.size_drew, World.size_setCell] at hs3)
  have hP3 := hP2.of hb3
  have h13 := (h1.of hb2).of hb3
  have hB3 : Below w.heap.size w w3 := by (repeat' (first | exact Below.refl _ _ | assumption | (refine Below.alloc ?_ ?_ _) | (refine Below.setCell ?_ ?_ _) | (refine Below.drew ?_) | (refine below_drewN ?_ _) | (refine below_after (Ext.below _) ?_ ?_) | (refine below_after (by assumption) ?_ ?_) | (simp; done) | omega | (simp; omega)))
  clear hb1 hb2 hb3 hs1 hs2 hs3 h1 h3 hP hP1 hP2
  have hs3 := hB3.size
  have hl := lit36 w3
  have hd := lit36D ((((w3.alloc (.cells #[.int .i64 0, .int .i64 0, .int .i64 1] 39)).alloc (.cells #[.int .i64 5, .int .i64 0, .int .i64 1] 39)).alloc (.cells #[.int .i64 9, .int .i64 0, .int .i64 2] 39)).alloc (.cells #[.slice (some ⟨w3.heap.size, 0, none⟩) 1 1, .slice (some ⟨w3.heap.size + 1, 0, none⟩) 1 1, .slice (some ⟨w3.heap.size + 1 + 1, 0, none⟩) 1 1] 23)) 0 2
  rw [World.size_alloc, World.size_alloc, World.size_alloc, World.size_alloc] at hd
  go_wp2_with fail; go_at_call 15; refine (isl_MergeV _ _ _ _ _ _ _ merge36.1 merge36.2 (p := 2) rfl (hl.of (by (repeat' (first | exact Below.refl _ _ | assumption | (refine Below.alloc ?_ ?_ _) | (refine Below.setCell ?_ ?_ _) | (refine Below.drew ?_) | (refine below_drewN ?_ _) | (refine below_after (Ext.below _) ?_ ?_) | (refine below_after (by assumption) ?_ ?_) | (simp; done) | omega | (simp; omega))))) hd (by omega) (by omega) (by decide)).mono ?_; rintro e w4 ⟨A4, c4, rfl, h4, hb4⟩; have hs4 := hb4.size; (try simp only [World.size_alloc, World.size_drew, World.size_setCell] at hs4)
  have hl4 := hl.of (show Below _ _ w4 from by (repeat' (first | exact Below.refl _ _ | assumption | (refine Below.alloc ?_ ?_ _) | (refine Below.setCell ?_ ?_ _) | (refine Below.drew ?_) | (refine below_drewN ?_ _) | (refine below_after (Ext.below _) ?_ ?_) | (refine below_after (by assumption) ?_ ?_) | (simp; done) | omega | (simp; omega))))
  have hP4 := hP3.of (show Below w3.heap.size w3 w4 from by (repeat' (first | exact Below.refl _ _ | assumption | (refine Below.alloc ?_ ?_ _) | (refine Below.setCell ?_ ?_ _) | (refine Below.drew ?_) | (refine below_drewN ?_ _) | (refine below_after (Ext.below _) ?_ ?_) | (refine below_after (by assumption) ?_ ?_) | (simp; done) | omega | (simp; omega))))
  have h14 := h13.of (show Below w3.heap.size w3 w4 from by (repeat' (first | exact Below.refl _ _ | assumption | (refine Below.alloc ?_ ?_ _) | (refine Below.setCell ?_ ?_ _) | (refine Below.drew ?_) | (refine below_drewN ?_ _) | (refine below_after (Ext.below _) ?_ ?_) | (refine below_after (by assumption) ?_ ?_) | (simp; done) | omega | (simp; omega))))
  have hB4 : Below w.heap.size w w4 := by (repeat' (first | exact Below.refl _ _ | assumption | (refine Below.alloc ?_ ?_ _) | (refine Below.setCell ?_ ?_ _) | (refine Below.drew ?_) | (refine below_drewN ?_ _) | (refine below_after (Ext.below _) ?_ ?_) | (refine below_after (by assumption) ?_ ?_) | (simp; done) | omega | (simp; omega)))
  clear hb4 hs4 hl hd h13 hP3 hB3
  have hs4 := hB4.size
  go_wp2_with fail; go_at_call 15; refine (isl_MergeV _ _ _ _ _ _ _ merge36_bad.1 merge36_bad.2 (p := 0) rfl (hl4.of (by (repeat' (first | exact Below.refl _ _ | assumption | (refine Below.alloc ?_ ?_ _) | (refine Below.setCell ?_ ?_ _) | (refine Below.drew ?_) | (refine below_drewN ?_ _) | (refine below_after (Ext.below _) ?_ ?_) | (refine below_after (by assumption) ?_ ?_) | (simp; done) | omega | (simp; omega))))) (lit36D w4 0 3) (by omega) (by omega) (by decide)).mono ?_; rintro e w5 ⟨A5, c5, rfl, h5, hb5⟩; have hs5 := hb5.size; (try simp only [World.size_alloc, World.size_drew, World.size_setCell] at hs5)
  have hb45 : RowKit.Below w4.heap.size w4 w5 := below_thruA (Below.refl _ _) hb5
  have hB5 : RowKit.Below w.heap.size w w5 := below_thru hB4 hb45
  have H1 : HRdX w5 A1 2 a36 := ⟨h14.of hb45⟩
  have H4 : HRdX w5 A4 2 b36 := ⟨h4.of hb45⟩
  have HP : HRd encC 3 w5 (some ⟨w.heap.size, 0, none⟩) 3 p36 := ⟨hP4.of hb45⟩
  have hLC := lit36C w5 w.heap.size HP.rd
  clear hb5 hs5 h4 h5 hl4 h14 hP4 hB4 hs4 hs3
  go_wp2_with fail
  go_region_held3 (fun w' => HRdX w' A1 2 a36 ∧ HRdX w' A4 2 b36 ∧ HRd encC 3 w' (some ⟨w.heap.size, 0, none⟩) 3 p36 ∧ RowKit.Below w.heap.size w w')
    (((try go_split_ands); refine ⟨?_, ?_, ?_, ?_⟩ <;> first | go_keep | exact HRdX.drew (HRdX.alloc ‹_› _) | exact HRd.drew (HRd.alloc ‹_› _) | exact bl_drew (bl_alloc ‹_› _) | exact HRdX.drew ‹_› | exact HRdX.alloc ‹_› _ | exact HRdX.of ‹_› hb | exact HRd.drew ‹_› | exact HRd.alloc ‹_› _ | exact HRd.of ‹_› hb | exact bl_drew ‹_› | exact bl_alloc ‹_› _ | exact below_thru ‹_› hb))
    ((first
    | (go_at_call 12; (try go_split_ands); (first | (with_reducible refine (law36_sameV (L := a36) _ _ 2 _ _ _ (HRdX.rd ‹_›) (RdX.drew hLC) (by omega) (by decide)).mono ?_) | (with_reducible refine (law36_sameV (L := a36) _ _ 2 _ _ _ (HRdX.rd ‹_›) hLC (by omega) (by decide)).mono ?_) | (with_reducible refine (law36_sameV (L := b36) _ _ 2 _ _ _ (HRdX.rd ‹_›) (lit36A _) (by omega) (by decide)).mono ?_) | (with_reducible refine (law36_sameV (L := b36) _ _ 2 _ _ _ (HRdX.rd ‹_›) (lit36B _) (by omega) (by decide)).mono ?_)); rintro e w7 ⟨rfl, hb⟩; have hsz := hb.size; (try simp only [World.size_alloc, World.size_drew] at hsz))
    | (go_at_call 13; (try go_split_ands); (first | (with_reducible refine (isl_NearV _ _ 1 1 _ _ _ near36_2 ((HRd.rd ‹_›).take (i := 1) (by omega)) (rd_litC _ [(3, 2, 1)] #[.int .i64 3, .int .i64 2, .int .i64 1] 1 rfl (by omega) rfl) (by omega) (by omega)).mono ?_) | (with_reducible refine (isl_NearV _ _ 1 1 _ _ _ near36_3 ((HRd.rd ‹_›).take (i := 1) (by omega)) (rd_litC _ [(3, 2, 1)] #[.int .i64 3, .int .i64 2, .int .i64 1] 1 rfl (by omega) rfl) (by omega) (by omega)).mono ?_)); rintro e w7 ⟨rfl, hb⟩; have hsz := hb.size; (try simp only [World.size_alloc, World.size_drew] at hsz))))
  all_goals
    go_wp2_with fail
    go_ret
    (try go_split_ands)
    exact ⟨rfl, by first | assumption | exact below_thru ‹_› hb⟩
end Go.Proofs.Ytenckggfgbkfnaa
