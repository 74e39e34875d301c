/- A region that draws its order and lays blocks of its own: whatever the order, the same comes out, but for the blocks' numbers. Over any program. -/
import Derived.Test.YtnhnkmppmicjoaaBase
import Derived.Laws.Tables
import Derived.StillTail
namespace Go.Proofs.Ytnhnkmppmicjoaa
open Go Go.RowKit
set_option linter.unusedSimpArgs false
set_option linter.unusedVariables false

/-- A block that the region lays: the allocation's place and slot, the store's place, the slot of what is stored, the type, the zero cells. -/
structure Fr where
  ai : Nat
  si : Nat
  d : Tmp
  vs : Tmp
  e : TypeId
  z : Array Value

def blankO (o : Oper) : Oper := { dst := none, op := .move (.const undef), type := o.type, pos := o.pos, after := o.after, guard := none }
def stripM : List Bool → List Oper → List Oper
  | true :: m, o :: l => blankO o :: stripM m l
  | false :: m, o :: l => o :: stripM m l
  | _, l => l
theorem stripM_get : ∀ (m : List Bool) (l : List Oper) (i : Nat), (stripM m l)[i]? = (l[i]?).map fun o => if m.getD i false then blankO o else o
  | [], l, i => by cases l <;> cases i <;> simp [stripM]
  | true :: m, [], i => by simp [stripM]
  | false :: m, [], i => by simp [stripM]
  | true :: m, o :: l, 0 => by simp [stripM]
  | false :: m, o :: l, 0 => by simp [stripM]
  | true :: m, o :: l, i + 1 => by simpa [stripM] using stripM_get m l i
  | false :: m, o :: l, i + 1 => by simpa [stripM] using stripM_get m l i
theorem stripM_len : ∀ (m : List Bool) (l : List Oper), (stripM m l).length = l.length
  | [], l => by cases l <;> simp [stripM]
  | true :: m, [] => by simp [stripM]
  | false :: m, [] => by simp [stripM]
  | true :: m, o :: l => by simp [stripM, stripM_len m l]
  | false :: m, o :: l => by simp [stripM, stripM_len m l]
theorem strip_ready (m : List Bool) (l : List Oper) (md : Region.Mode) (listed : Array Bool) : Region.ready md (stripM m l).toArray listed = Region.ready md l.toArray listed := by
  unfold Region.ready
  simp only [List.size_toArray, stripM_len, List.getElem?_toArray, stripM_get, Option.map_map]
  congr 1
  funext i
  congr 2
  cases l[i]? with
  | none => rfl
  | some o => simp only [Option.map_some, Function.comp]; split <;> rfl

/-- What a look at the text alone shows (asked of the kernel). -/
def freshB (l : List Oper) (m : List Bool) (fs : List Fr) : Bool :=
  (List.range l.length).all (fun i => match l[i]? with
    | none => false
    | some o => (o.after.all fun e => !Region.binds .any e || decide (e.on < i)) &&
        ((List.range l.length).all fun j => j == i || match l[j]? with | none => false | some o' => o.dst.isNone || o'.dst != o.dst) &&
        (m.getD i false || fs.all fun f => o.dst != some f.d && !(o.looksAt l.toArray).contains f.d) &&
        (!m.getD i false || fs.any fun f => f.ai == i || f.si == i)) &&
  fs.all (fun f => m.getD f.ai false && m.getD f.si false && (match l[f.si]? with
    | none => false
    | some o => o.dst.isNone && (o.after.any fun e => Region.binds .any e && e.on == f.ai) &&
        ((List.range l.length).all fun k => match l[k]? with | none => false | some ok => ok.dst != some f.vs || (o.after.any fun e => Region.binds .any e && e.on == k))) &&
    (match l[f.ai]? with | none => false | some o => o.dst == some f.d) &&
    fs.all (fun g => g.d != f.vs && (g.si != f.ai) && (g.d == f.d || (g.ai != f.ai && g.si != f.si))))

section
variable {P : Program} {l : List Oper} {m : List Bool} {fs : List Fr} {w0 : World} {aq : Act}

/-- The class of the worlds in which all that lay in u lies as it did. -/
def Cl (u : World) : World → Prop := fun w' => ∃ z : Ext u, w' = z.world
theorem Cl.iff {u w' : World} : Cl u w' ↔ Below u.heap.size u w' := ⟨fun ⟨z, h⟩ => h ▸ z.below, fun h => ⟨⟨w', h⟩, rfl⟩⟩
theorem put_get_ne {a : Act} {dst : Option Tmp} {v : Value} {t : Tmp} (h : dst ≠ some t) : (a.put dst v).tmps[t]? = a.tmps[t]? := by
  cases dst with
  | none => rfl
  | some d => simp [Act.put, Array.getElem?_setIfInBounds_ne (show d ≠ t from fun e => h (by rw [e]))]
theorem put_get_same {a : Act} {t : Tmp} {v : Value} (h : t < a.tmps.size) : (a.put (some t) v).tmps[t]? = some v := by simp [Act.put, h]
theorem put_size (a : Act) (dst : Option Tmp) (v : Value) : (a.put dst v).tmps.size = a.tmps.size := by cases dst <;> simp [Act.put]
theorem put_defers (a : Act) (dst : Option Tmp) (v : Value) : (a.put dst v).defers = a.defers := by cases dst <;> rfl

/-- A slot that no operation still to come writes has what it will have. -/
theorem fin_slot {ops : Array Oper} {C : World → Prop} {t : Tmp} : ∀ (fuel : Nat) (listed : Array Bool) (a' : Act), (∀ k o, ops[k]? = some o → listed.getD k true = false → o.dst ≠ some t) →
    wpAnyQ P .any ops C (fun x => x = aq) fuel listed a' → aq.tmps[t]? = a'.tmps[t]?
  | 0, listed, a', _, h => by rw [h.2]
  | fuel + 1, listed, a', hd, h => by
    cases hr : Region.ready .any ops listed with
    | nil => rw [h.1 hr]
    | cons i rest =>
      have hi : i ∈ Region.ready .any ops listed := by rw [hr]; simp
      have h1 := h.2 i hi
      obtain ⟨hun, o, ho, _⟩ := mem_ready.1 hi
      have hdst := hd i o ho hun
      obtain ⟨v, _, hK⟩ := yieldsIn_of_qOp ho h1
      have h2 := fin_slot fuel (listed.setIfInBounds i true) (a'.put o.dst v) (fun k ok hk hl => by
        refine hd k ok hk ?_
        by_cases e : i = k
        · subst e; exact hun
        · rwa [getD_set_ne true e] at hl) hK
      rw [h2, put_get_ne hdst]
end

/-- Where the region stands: what has been done is listed; a' is the frame without the blocks' addresses, a the frame, w the world. -/
structure Sim (fs : List Fr) (w0 : World) (aq : Act) (listed : Array Bool) (a' a : Act) (w : World) : Prop where
  defers : a.defers = a'.defers
  size : a.tmps.size = a'.tmps.size
  off : ∀ t, (∀ f, f ∈ fs → f.d ≠ t) → a.tmps[t]? = a'.tmps[t]?
  below : Below w0.heap.size w0 w
  blk : ∀ f, f ∈ fs → listed.getD f.ai false = true → ∃ b, w0.heap.size ≤ b ∧ a.tmps[f.d]? = some (.pointer (some ⟨b, 0, none⟩)) ∧
    w.heap[b]? = some (.cells (if listed.getD f.si false then (aq.tmps.getD f.vs undef).cells else f.z) f.e (0, 0))
  ord : ∀ f, f ∈ fs → listed.getD f.si false = true → listed.getD f.ai false = true
  dis : ∀ f g, f ∈ fs → g ∈ fs → f.d ≠ g.d → listed.getD f.ai false = true → listed.getD g.ai false = true → ∀ b, a.tmps[f.d]? = some (.pointer (some ⟨b, 0, none⟩)) → a.tmps[g.d]? ≠ some (.pointer (some ⟨b, 0, none⟩))

theorem listed_all {ops : Array Oper} {listed : Array Bool} (hsz : listed.size = ops.size) (he : ∀ i o, ops[i]? = some o → ∀ e ∈ o.after, Region.binds .any e = true → e.on < i)
    (hr : Region.ready .any ops listed = []) : ∀ i, i < ops.size → listed.getD i true = true := by
  intro i
  induction i using Nat.strongRecOn with
  | _ i ih =>
    intro hi
    cases hl : listed.getD i true with
    | true => rfl
    | false =>
      have : i ∈ Region.ready .any ops listed := mem_ready.2 ⟨hl, ops[i], Array.getElem?_eq_getElem hi, fun e hm hb => by
        have hlt := he i _ (Array.getElem?_eq_getElem hi) e hm hb
        have h1 := ih e.on hlt (by omega)
        have h2 : e.on < listed.size := by omega
        simpa [h2] using h1⟩
      rw [hr] at this
      cases this
theorem getD_tf {listed : Array Bool} {i : Nat} (h : i < listed.size) : listed.getD i true = listed.getD i false := by simp [h]

theorem getD_set_cases {listed : Array Bool} {i j : Nat} (hj : j < listed.size) : (listed.setIfInBounds i true).getD j false = (decide (i = j) || listed.getD j false) := by
  by_cases e : i = j
  · subst e; simp [hj]
  · rw [getD_set_ne false e]; simp [e]

section
variable {P : Program} {l : List Oper} {m : List Bool} {fs : List Fr} {w0 : World} {aq : Act}
/-- What the look shows, in words. -/
structure FreshOk (l : List Oper) (m : List Bool) (fs : List Fr) : Prop where
  edge : ∀ (i : Nat) (o : Oper), l[i]? = some o → ∀ e ∈ o.after, Region.binds .any e = true → e.on < i
  uniq : ∀ (i j : Nat) (o o' : Oper) (t : Tmp), l[i]? = some o → l[j]? = some o' → o.dst = some t → o'.dst = some t → i = j
  quiet : ∀ (i : Nat) (o : Oper), l[i]? = some o → m.getD i false = false → ∀ f, f ∈ fs → o.dst ≠ some f.d ∧ f.d ∉ o.looksAt l.toArray
  mask : ∀ (i : Nat) (o : Oper), l[i]? = some o → m.getD i false = true → ∃ f, f ∈ fs ∧ (f.ai = i ∨ f.si = i)
  masked : ∀ f, f ∈ fs → m.getD f.ai false = true ∧ m.getD f.si false = true
  store : ∀ f, f ∈ fs → ∃ o, l[f.si]? = some o ∧ o.dst = none ∧ (∃ e ∈ o.after, Region.binds .any e = true ∧ e.on = f.ai) ∧ ∀ (k : Nat) (ok : Oper), l[k]? = some ok → ok.dst = some f.vs → ∃ e ∈ o.after, Region.binds .any e = true ∧ e.on = k
  alloc : ∀ f, f ∈ fs → ∃ o, l[f.ai]? = some o ∧ o.dst = some f.d
  apart : ∀ f g, f ∈ fs → g ∈ fs → g.d ≠ f.vs ∧ g.si ≠ f.ai ∧ (g.d = f.d ∨ g.ai ≠ f.ai ∧ g.si ≠ f.si)
theorem freshOk_of (h : freshB l m fs = true) : FreshOk l m fs := by
  unfold freshB at h
  simp only [Bool.and_eq_true, List.all_eq_true, List.mem_range] at h
  obtain ⟨h1, h2⟩ := h
  have at_ : ∀ i o, l[i]? = some o → _ := fun i o ho => h1 i (List.getElem?_eq_some_iff.1 ho).1
  refine ⟨fun i o ho e he hb => ?_, fun i j o o' t ho ho' ht ht' => ?_, fun i o ho hm f hf => ?_, fun i o ho hm => ?_, fun f hf => ?_, fun f hf => ?_, fun f hf => ?_, fun f g hf hg => ?_⟩
  · have := at_ i o ho
    simp only [ho, Bool.and_eq_true, Array.all_eq_true_iff_forall_mem] at this
    have h3 := this.1.1.1 e he
    simpa [hb] using h3
  · have := at_ i o ho
    simp only [ho, Bool.and_eq_true, List.all_eq_true, List.mem_range] at this
    have h3 := this.1.1.2 j (List.getElem?_eq_some_iff.1 ho').1
    simp only [ho', ht, ht'] at h3
    have : j = i := by simpa using h3
    exact this.symm
  · have := at_ i o ho
    simp only [ho, hm, Bool.and_eq_true, Bool.false_or, List.all_eq_true] at this
    have h3 := this.1.2 f hf
    simp only [Bool.and_eq_true, bne_iff_ne, Bool.not_eq_true', List.contains_eq_mem, decide_eq_false_iff_not] at h3
    exact h3
  · have := at_ i o ho
    simp only [ho, hm, Bool.and_eq_true, Bool.not_true, Bool.false_or, List.any_eq_true] at this
    obtain ⟨f, hf, h3⟩ := this.2
    exact ⟨f, hf, by simpa using h3⟩
  · have := h2 f hf
    exact ⟨this.1.1.1.1, this.1.1.1.2⟩
  · have h3 := (h2 f hf).1.1.2
    cases ho : l[f.si]? with
    | none => rw [ho] at h3; cases h3
    | some o =>
      simp only [ho, Bool.and_eq_true, Option.isNone_iff_eq_none, Array.any_eq_true', List.all_eq_true, List.mem_range] at h3
      obtain ⟨⟨h4, e, he, h5⟩, h6⟩ := h3
      refine ⟨o, rfl, h4, ⟨e, he, by simpa using h5⟩, fun k ok hk hv => ?_⟩
      have h7 := h6 k (List.getElem?_eq_some_iff.1 hk).1
      simp only [hk, hv, bne_self_eq_false, Bool.false_or, Array.any_eq_true', Bool.and_eq_true] at h7
      obtain ⟨e', he', h8⟩ := h7
      exact ⟨e', he', by simpa using h8⟩
  · have h3 := (h2 f hf).1.2
    cases ho : l[f.ai]? with
    | none => rw [ho] at h3; cases h3
    | some o => rw [ho] at h3; exact ⟨o, rfl, by simpa using h3⟩
  · have h3 := (h2 f hf).2 g hg
    simpa [and_assoc] using h3

/-- What the blocks' own operations do. -/
structure FreshRuns (P : Program) (l : List Oper) (fs : List Fr) (aq : Act) : Prop where
  alloc : ∀ f, f ∈ fs → ∀ (o : Oper), l[f.ai]? = some o → ∀ (ρ : Operand → Value) (w : World), (execOp ρ o).run P w = .ok (.value (.pointer (some ⟨w.heap.size, 0, none⟩))) (w.alloc (.cells f.z f.e))
  store : ∀ f, f ∈ fs → ∀ (o : Oper), l[f.si]? = some o → ∀ (ρ : Operand → Value) (b : Nat) (w : World), ρ (.tmp f.d) = .pointer (some ⟨b, 0, none⟩) → ρ (.tmp f.vs) = aq.tmps.getD f.vs undef → w.heap[b]? = some (.cells f.z f.e (0, 0)) →
    (execOp ρ o).run P w = .ok .skip (w.setRow b (aq.tmps.getD f.vs undef).cells)
  free : ∀ f, f ∈ fs → (∀ (o : Oper), l[f.ai]? = some o → o.guard = none) ∧ ∀ (o : Oper), l[f.si]? = some o → o.guard = none
  slot : ∀ f, f ∈ fs → f.vs < aq.tmps.size ∧ f.d < aq.tmps.size
  inj : ∀ f g, f ∈ fs → g ∈ fs → f.d = g.d → f = g
  sel : ∀ (i : Nat) (o : Oper) cs b, l[i]? = some o → o.op ≠ .select cs b

theorem Sim.size_aq {listed : Array Bool} {a' a : Act} {w : World} (h : Sim fs w0 aq listed a' a w) (hs : a'.tmps.size = aq.tmps.size) : a.tmps.size = aq.tmps.size := h.size.trans hs

theorem setRow_heap_other (w : World) (g k : Nat) (cs : Array Value) (h : k ≠ g) : (w.setRow g cs).heap[k]? = w.heap[k]? := by
  unfold World.setRow
  simp only [Array.getElem?_modify]
  rw [if_neg (fun e => h e.symm)]

/-- THE REGION: whatever order the tape picks. -/
theorem sim_sound {Q : Exit → Act → World → Prop} (ok : FreshOk l m fs) (run : FreshRuns P l fs aq)
    (hfin : ∀ (listed : Array Bool) a w, (∀ i, i < l.length → listed.getD i true = true) → listed.size = l.length → Sim fs w0 aq listed aq a w → Q .normal a w) :
    ∀ (fuel : Nat) (listed : Array Bool) (a' a : Act) (w : World), listed.size = l.length → a'.tmps.size = aq.tmps.size → Sim fs w0 aq listed a' a w →
      (∀ u, Below w0.heap.size w0 u → wpAnyQ P .any (stripM m l).toArray (Cl u) (fun x => x = aq) fuel listed a') → wpAny P .any l.toArray Q fuel listed a w := by
  have fin : ∀ (fuel : Nat) (listed : Array Bool) a' a w, listed.size = l.length → Sim fs w0 aq listed a' a w → Region.ready .any l.toArray listed = [] → a' = aq → Q .normal a w := by
    intro _ listed a' a w hsz hsim hr he
    subst he
    exact hfin listed a w (fun i hi => listed_all (by simpa using hsz) (fun i o ho => ok.edge i o (by simpa using ho)) hr i (by simpa using hi)) hsz hsim
  intro fuel
  induction fuel with
  | zero =>
    intro listed a' a w hsz _ hsim hq
    have h := hq w hsim.below
    have hr : Region.ready .any l.toArray listed = [] := by rw [← strip_ready m]; exact h.1
    exact ⟨hr, fin 0 listed a' a w hsz hsim hr h.2⟩
  | succ fuel ih =>
    intro listed a' a w hsz hsa hsim hq
    have h := hq w hsim.below
    refine ⟨fun hr => fin 0 listed a' a w hsz hsim hr (h.1 (by rw [strip_ready]; exact hr)), fun i hi => ?_⟩
    obtain ⟨hun, o, ho, hall⟩ := mem_ready.1 hi
    have hol : l[i]? = some o := by simpa using ho
    have hilt : i < l.length := (List.getElem?_eq_some_iff.1 hol).1
    have hi' : i ∈ Region.ready .any (stripM m l).toArray listed := by rw [strip_ready]; exact hi
    have hso : (stripM m l).toArray[i]? = some (if m.getD i false then blankO o else o) := by simp [stripM_get, hol]
    unfold wpOp
    simp only [ho]
    cases hm : m.getD i false with
    | false =>
      rw [hm] at hso
      simp only [Bool.false_eq_true, if_false] at hso
      have hqi := ok.quiet i o hol hm
      -- the slots that o looks at are the same in both frames
      have hsame : ∀ t, t ∈ o.looksAt l.toArray → a.tmps[t]? = a'.tmps[t]? := fun t ht => hsim.off t fun f hf e => (hqi f hf).2 (e ▸ ht)
      have hexec : execOp a.eval o = execOp a'.eval o := execOp_congr o (fun cs b => run.sel i o cs b hol) fun x hx => by
        cases x with
        | tmp t =>
          have h1 := hsame t (by
            unfold Oper.looksAt
            exact List.mem_append_left _ (List.mem_filterMap.2 ⟨.tmp t, by simpa using hx, rfl⟩))
          simp [Act.eval, h1]
        | _ => rfl
      have hwant : Region.wanted o (yielded l.toArray a.tmps) = Region.wanted o (yielded (stripM m l).toArray a'.tmps) := by
        unfold Region.wanted
        cases hg : o.guard with
        | none => rfl
        | some gw =>
          obtain ⟨g, want⟩ := gw
          have hy : yielded l.toArray a.tmps g = yielded (stripM m l).toArray a'.tmps g := by
            unfold yielded
            simp only [List.getElem?_toArray, stripM_get]
            cases hlg : l[g]? with
            | none => rfl
            | some og =>
              have hlook : ∀ t, og.dst = some t → t ∈ o.looksAt l.toArray := fun t ht => by
                unfold Oper.looksAt
                refine List.mem_append_right _ ?_
                simp [hg, hlg, ht]
              simp only [Option.map_some, Option.bind_some]
              cases hmg : m.getD g false with
              | false =>
                simp only [Bool.false_eq_true, if_false]
                cases hd : og.dst with
                | none => rfl
                | some t => simp only [Option.bind_some, hsame t (hlook t hd)]
              | true =>
                simp only [if_true]
                obtain ⟨f, hf, h1 | h1⟩ := ok.mask g og hlg hmg
                · obtain ⟨oa, hoa, hda⟩ := ok.alloc f hf
                  rw [h1, hlg] at hoa
                  cases hoa
                  exact absurd (hlook f.d hda) (hqi f hf).2
                · obtain ⟨os, hos, hds, _⟩ := ok.store f hf
                  rw [h1, hlg] at hos
                  cases hos
                  rw [hds]; rfl
          simp only [hy]
      have hstep : ∀ u, Below w0.heap.size w0 u → qOp P (stripM m l).toArray (Cl u) i (wpAnyQ P .any (stripM m l).toArray (Cl u) (fun x => x = aq) fuel (listed.setIfInBounds i true)) a' := fun u hu => (hq u hu).2 i hi'
      -- the frame behind the step does not hang on the world
      have hput : ∀ u v, (wpAnyQ P .any (stripM m l).toArray (Cl u) (fun x => x = aq) fuel (listed.setIfInBounds i true)) (a'.put o.dst v) → ∀ u' v', (wpAnyQ P .any (stripM m l).toArray (Cl u') (fun x => x = aq) fuel (listed.setIfInBounds i true)) (a'.put o.dst v') → a'.put o.dst v' = a'.put o.dst v := by
        intro u v h1 u' v' h2
        cases hd : o.dst with
        | none => rfl
        | some t =>
          rw [hd] at h1 h2
          by_cases hlt : t < a'.tmps.size
          · have hfut : ∀ k ok', (stripM m l).toArray[k]? = some ok' → (listed.setIfInBounds i true).getD k true = false → ok'.dst ≠ some t := by
              intro k ok' hk hl hdk
              simp only [List.getElem?_toArray, stripM_get] at hk
              cases hlk : l[k]? with
              | none => rw [hlk] at hk; cases hk
              | some okk =>
                rw [hlk] at hk
                simp only [Option.map_some, Option.some.injEq] at hk
                cases hmk : m.getD k false with
                | true => rw [hmk] at hk; simp only [if_true] at hk; subst hk; cases hdk
                | false =>
                  rw [hmk] at hk
                  simp only [Bool.false_eq_true, if_false] at hk
                  subst hk
                  have hki := ok.uniq k i _ _ t hlk hol hdk hd
                  subst hki
                  have : k < listed.size := by omega
                  simp [this] at hl
            have e1 := fin_slot _ _ _ hfut h1
            have e2 := fin_slot _ _ _ hfut h2
            rw [put_get_same hlt] at e1 e2
            rw [e1] at e2
            rw [Option.some.inj e2]
          · simp [Act.put, Array.setIfInBounds, hlt]
      have hkeep : ∀ v (w' : World), Below w.heap.size w w' → Sim fs w0 aq (listed.setIfInBounds i true) (a'.put o.dst v) (a.put o.dst v) w' := by
        intro v w' hb
        have hne : ∀ f, f ∈ fs → i ≠ f.ai ∧ i ≠ f.si := fun f hf => by
          have := ok.masked f hf
          constructor <;> (intro e; subst e; rw [hm] at this; simp at this)
        have hl1 : ∀ f, f ∈ fs → (listed.setIfInBounds i true).getD f.ai false = listed.getD f.ai false := fun f hf => getD_set_ne false (hne f hf).1
        have hl2 : ∀ f, f ∈ fs → (listed.setIfInBounds i true).getD f.si false = listed.getD f.si false := fun f hf => getD_set_ne false (hne f hf).2
        have ht : ∀ f, f ∈ fs → (a.put o.dst v).tmps[f.d]? = a.tmps[f.d]? := fun f hf => put_get_ne (hqi f hf).1
        refine ⟨by rw [put_defers, put_defers, hsim.defers], by rw [put_size, put_size, hsim.size], fun t htf => ?_, hsim.below.trans (hb.mono hsim.below.size), fun f hf hlf => ?_, fun f hf h => by rw [hl1 f hf]; rw [hl2 f hf] at h; exact hsim.ord f hf h, fun f g hf hg hfg h1 h2 b h3 => ?_⟩
        · by_cases e : o.dst = some t
          · rw [e]
            by_cases hlt : t < a.tmps.size
            · rw [put_get_same hlt, put_get_same (by rw [← hsim.size]; exact hlt)]
            · have n1 : (a.put (some t) v).tmps[t]? = none := Array.getElem?_eq_none (by rw [put_size]; exact Nat.le_of_not_lt hlt)
              have n2 : (a'.put (some t) v).tmps[t]? = none := Array.getElem?_eq_none (by rw [put_size, ← hsim.size]; exact Nat.le_of_not_lt hlt)
              rw [n1, n2]
          · rw [put_get_ne e, put_get_ne e]; exact hsim.off t htf
        · rw [hl1 f hf] at hlf
          obtain ⟨b, hb1, hb2, hb3⟩ := hsim.blk f hf hlf
          refine ⟨b, hb1, by rw [ht f hf]; exact hb2, ?_⟩
          rw [hl2 f hf, hb.block b (Array.getElem?_eq_some_iff.1 hb3).1]
          exact hb3
        · rw [hl1 f hf] at h1
          rw [hl1 g hg] at h2
          rw [ht f hf] at h3
          rw [ht g hg]
          exact hsim.dis f g hf hg hfg h1 h2 b h3
      rw [hwant]
      cases hw : Region.wanted o (yielded (stripM m l).toArray a'.tmps) with
      | false =>
        have hstep' : ∀ u, Below w0.heap.size w0 u → wpAnyQ P .any (stripM m l).toArray (Cl u) (fun x => x = aq) fuel (listed.setIfInBounds i true) (a'.put o.dst undef) := fun u hu => by
          have := hstep u hu
          unfold qOp at this
          simp only [hso, hw, Bool.false_eq_true, if_false] at this
          exact this
        simp only [Bool.false_eq_true, if_false]
        exact ih _ _ _ _ (by simp [hsz]) (by rw [put_size]; exact hsa) (hkeep undef w (Below.refl _ _)) hstep'
      | true =>
        have hstep' : ∀ u, Below w0.heap.size w0 u → Oper.quiet P o a' (Cl u) (wpAnyQ P .any (stripM m l).toArray (Cl u) (fun x => x = aq) fuel (listed.setIfInBounds i true)) := fun u hu => by
          have := hstep u hu
          unfold qOp at this
          simp only [hso, hw, if_true] at this
          exact this
        obtain ⟨v, hv, hnext⟩ := hstep' w hsim.below
        have hnext' : ∀ u, Below w0.heap.size w0 u → wpAnyQ P .any (stripM m l).toArray (Cl u) (fun x => x = aq) fuel (listed.setIfInBounds i true) (a'.put o.dst v) := fun u hu => by
          obtain ⟨v', _, hn'⟩ := hstep' u hu
          rw [← hput w v hnext u v' hn']
          exact hn'
        simp only [if_true]
        refine .inl ?_
        have hv' := hv w (Cl.iff.2 (Below.refl _ _))
        unfold Oper.quietAt at hv'
        unfold Oper.wp
        rw [hexec]
        generalize (execOp a'.eval o).run P w = r at hv' ⊢
        cases r with
        | ok n w' =>
          cases n <;> simp only [Oper.quietUpon] at hv' <;> simp only [Oper.upon]
          case value x =>
            obtain ⟨rfl, rfl⟩ := hv'
            exact ih _ _ _ _ (by simp [hsz]) (by rw [put_size]; exact hsa) (hkeep x w' (Below.refl _ _)) hnext'
          case skip =>
            obtain ⟨rfl, rfl⟩ := hv'
            exact ih _ _ _ _ (by simp [hsz]) (by rw [put_size]; exact hsa) (hkeep undef w' (Below.refl _ _)) hnext'
          case enter f args =>
            obtain ⟨rfl, hc⟩ := hv'
            exact hc.mono fun e w'' ⟨he, hw''⟩ => by
              subst he
              have hb := Cl.iff.1 hw''
              exact ih _ _ _ _ (by simp [hsz]) (by rw [put_size]; exact hsa) (hkeep v w'' hb) hnext'
        | halt x w' => simp only [Oper.quietUpon] at hv'
    | true =>
      rw [hm] at hso
      simp only [if_true] at hso
      have hstep : ∀ u, Below w0.heap.size w0 u → wpAnyQ P .any (stripM m l).toArray (Cl u) (fun x => x = aq) fuel (listed.setIfInBounds i true) a' := fun u hu => by
        have h1 := (hq u hu).2 i hi'
        unfold qOp at h1
        simp only [hso, Region.wanted, blankO, if_true] at h1
        obtain ⟨v, _, h2⟩ := h1
        exact h2
      obtain ⟨f, hf, hfi⟩ := ok.mask i o hol hm
      have hlsz : ∀ j, j < l.length → (listed.setIfInBounds i true).getD j false = (decide (i = j) || listed.getD j false) := fun j hj => getD_set_cases (by omega)
      have hai : ∀ g, g ∈ fs → g.ai < l.length := fun g hg => by obtain ⟨og, hog, _⟩ := ok.alloc g hg; exact (List.getElem?_eq_some_iff.1 hog).1
      have hsi : ∀ g, g ∈ fs → g.si < l.length := fun g hg => by obtain ⟨og, hog, _⟩ := ok.store g hg; exact (List.getElem?_eq_some_iff.1 hog).1
      by_cases hfa : f.ai = i
      · subst hfa
        obtain ⟨oa, hoa, hda⟩ := ok.alloc f hf
        rw [hol] at hoa
        cases hoa
        have hg := (run.free f hf).1 o hol
        have hw : Region.wanted o (yielded l.toArray a.tmps) = true := by simp [Region.wanted, hg]
        simp only [hw, if_true]
        refine .inl ?_
        unfold Oper.wp
        rw [run.alloc f hf o hol]
        simp only [Oper.upon]
        have hb : Below w.heap.size w (w.alloc (.cells f.z f.e)) := (Below.refl _ _).alloc (Nat.le_refl _) _
        refine ih _ a' _ _ (by simp [hsz]) hsa ?_ hstep
        have hlu : listed.getD f.ai false = false := getD_both hun
        have hsu : listed.getD f.si false = false := by
          cases h1 : listed.getD f.si false with
          | false => rfl
          | true => rw [hsim.ord f hf h1] at hlu; cases hlu
        have hdlt : f.d < a.tmps.size := by rw [hsim.size_aq hsa]; exact (run.slot f hf).2
        have hself : ∀ g, g ∈ fs → f.ai = g.ai → g = f := fun g hg' e => by
          rcases (ok.apart f g hf hg').2.2 with h1 | h1
          · exact run.inj g f hg' hf h1
          · exact absurd e.symm h1.1
        have hother : ∀ g, g ∈ fs → g ≠ f → g.d ≠ f.d := fun g hg' hne e => hne (run.inj g f hg' hf e)
        rw [hda]
        refine ⟨by rw [put_defers]; exact hsim.defers, by rw [put_size]; exact hsim.size, fun t ht => ?_, hsim.below.trans (hb.mono hsim.below.size), fun g hg' hl => ?_, fun g hg' h1 => ?_, fun g k hg' hk hgk h1 h2 b h3 => ?_⟩
        · rw [put_get_ne (fun e => ht f hf (Option.some.inj e))]; exact hsim.off t ht
        · rw [hlsz _ (hsi g hg'), show decide (f.ai = g.si) = false from decide_eq_false (fun e => (ok.apart f g hf hg').2.1 e.symm), Bool.false_or]
          by_cases e : g = f
          · subst e
            refine ⟨w.heap.size, hsim.below.size, put_get_same hdlt, ?_⟩
            rw [hsu]
            simpa using heap_alloc_new w (.cells g.z g.e)
          · rw [hlsz _ (hai g hg')] at hl
            have hne : f.ai ≠ g.ai := fun e' => e (hself g hg' e')
            have hl' : listed.getD g.ai false = true := by simpa [hne] using hl
            obtain ⟨b, hb1, hb2, hb3⟩ := hsim.blk g hg' hl'
            exact ⟨b, hb1, by rw [put_get_ne (fun e' => hother g hg' e (Option.some.inj e').symm)]; exact hb2, by rw [hb.block b (Array.getElem?_eq_some_iff.1 hb3).1]; exact hb3⟩
        · rw [hlsz _ (hsi g hg'), show decide (f.ai = g.si) = false from decide_eq_false (fun e => (ok.apart f g hf hg').2.1 e.symm), Bool.false_or] at h1
          rw [hlsz _ (hai g hg'), hsim.ord g hg' h1, Bool.or_true]
        · have hold : ∀ g, g ∈ fs → g ≠ f → (listed.setIfInBounds f.ai true).getD g.ai false = true → listed.getD g.ai false = true := fun g hg' e hl => by
            rw [hlsz _ (hai g hg')] at hl
            have hne : f.ai ≠ g.ai := fun e' => e (hself g hg' e')
            simpa [hne] using hl
          have hslot : ∀ g, g ∈ fs → g ≠ f → (a.put (some f.d) (.pointer (some ⟨w.heap.size, 0, none⟩))).tmps[g.d]? = a.tmps[g.d]? := fun g hg' e => put_get_ne (fun e' => hother g hg' e (Option.some.inj e').symm)
          have hlow : ∀ g, g ∈ fs → listed.getD g.ai false = true → a.tmps[g.d]? ≠ some (.pointer (some ⟨w.heap.size, 0, none⟩)) := fun g hg' hl e => by
            obtain ⟨b, _, hb2, hb3⟩ := hsim.blk g hg' hl
            rw [hb2] at e
            injection e with e; injection e with e; injection e with e; injection e with e
            have := (Array.getElem?_eq_some_iff.1 hb3).1
            omega
          by_cases eg : g = f
          · subst eg
            have ek : k ≠ g := fun e => hgk (by rw [e])
            rw [put_get_same hdlt] at h3
            rw [hslot k hk ek]
            injection h3 with h3
            rw [← h3]
            exact hlow k hk (hold k hk ek h2)
          · by_cases ek : k = f
            · subst ek
              rw [hslot g hg' eg] at h3
              rw [put_get_same hdlt]
              intro e
              injection e with e
              rw [← e] at h3
              exact hlow g hg' (hold g hg' eg h1) h3
            · rw [hslot g hg' eg] at h3
              rw [hslot k hk ek]
              exact hsim.dis g k hg' hk hgk (hold g hg' eg h1) (hold k hk ek h2) b h3
      · have hfs : f.si = i := hfi.resolve_left hfa
        subst hfs
        obtain ⟨os, hos, hds, ⟨e0, he0, hb0, hon0⟩, hwr⟩ := ok.store f hf
        rw [hol] at hos
        cases hos
        have hg := (run.free f hf).2 o hol
        have hw : Region.wanted o (yielded l.toArray a.tmps) = true := by simp [Region.wanted, hg]
        have hla : listed.getD f.ai false = true := by rw [← hon0]; exact hall e0 he0 hb0
        have hsu : listed.getD f.si false = false := getD_both hun
        obtain ⟨b, hb1, hb2, hb3⟩ := hsim.blk f hf hla
        rw [hsu] at hb3
        simp only [Bool.false_eq_true, if_false] at hb3
        have hvs : a'.tmps[f.vs]? = aq.tmps[f.vs]? := by
          refine (fin_slot _ _ _ (fun k ok' hk hl hdk => ?_) (hq w hsim.below)).symm
          simp only [List.getElem?_toArray, stripM_get] at hk
          cases hlk : l[k]? with
          | none => rw [hlk] at hk; cases hk
          | some okk =>
            rw [hlk] at hk
            simp only [Option.map_some, Option.some.injEq] at hk
            cases hmk : m.getD k false with
            | true => rw [hmk] at hk; simp only [if_true] at hk; subst hk; cases hdk
            | false =>
              rw [hmk] at hk
              simp only [Bool.false_eq_true, if_false] at hk
              subst hk
              obtain ⟨e, he, hbe, hone⟩ := hwr k _ hlk hdk
              have := hall e he hbe
              rw [hone, getD_both hl] at this
              cases this
        have hav : a.eval (.tmp f.vs) = aq.tmps.getD f.vs undef := by
          have h1 := hsim.off f.vs (fun g hg' => (ok.apart f g hf hg').1)
          rw [hvs] at h1
          simp [Act.eval, h1]
        have had : a.eval (.tmp f.d) = .pointer (some ⟨b, 0, none⟩) := by simp [Act.eval, hb2]
        simp only [hw, if_true]
        refine .inl ?_
        unfold Oper.wp
        rw [run.store f hf o hol a.eval b w had hav hb3]
        simp only [Oper.upon]
        rw [hds]
        simp only [Act.put]
        have hbel : Below w0.heap.size w (w.setRow b (aq.tmps.getD f.vs undef).cells) := ⟨rfl, rfl, rfl, by rw [setRow_size]; exact Nat.le_refl _, fun k hk => setRow_heap_other w b k _ (by omega)⟩
        have hself : ∀ g, g ∈ fs → f.si = g.si → g = f := fun g hg' e => by
          rcases (ok.apart f g hf hg').2.2 with h1 | h1
          · exact run.inj g f hg' hf h1
          · exact absurd e.symm h1.2
        refine ih _ a' _ _ (by simp [hsz]) hsa ?_ hstep
        · have hlai : ∀ g, g ∈ fs → (listed.setIfInBounds f.si true).getD g.ai false = listed.getD g.ai false := fun g hg' => getD_set_ne false (fun e => (ok.apart g f hg' hf).2.1 e)
          refine ⟨hsim.defers, hsim.size, hsim.off, hsim.below.trans hbel, fun g hg' hl => ?_, fun g hg' h1 => ?_, fun g k hg' hk hgk h1 h2 => ?_⟩
          · rw [hlai g hg'] at hl
            by_cases e : g = f
            · subst e
              refine ⟨b, hb1, hb2, ?_⟩
              rw [hlsz _ (hsi g hg')]
              simpa using setRow_heap w b _ _ _ _ hb3
            · have hne : f.si ≠ g.si := fun e' => e (hself g hg' e')
              obtain ⟨b', hb1', hb2', hb3'⟩ := hsim.blk g hg' hl
              refine ⟨b', hb1', hb2', ?_⟩
              rw [hlsz _ (hsi g hg'), show decide (f.si = g.si) = false from decide_eq_false hne, Bool.false_or]
              rw [setRow_heap_other _ _ _ _ (fun e' => ?_)]
              · exact hb3'
              · subst e'
                exact hsim.dis f g hf hg' (fun e'' => e (run.inj g f hg' hf e''.symm)) hla hl b' hb2 hb2'
          · rw [hlai g hg']
            rw [hlsz _ (hsi g hg')] at h1
            by_cases e : f.si = g.si
            · rw [hself g hg' e]; exact hla
            · exact hsim.ord g hg' (by simpa [e] using h1)
          · rw [hlai g hg'] at h1
            rw [hlai k hk] at h2
            exact hsim.dis g k hg' hk hgk h1 h2

theorem wp_region_fresh {id : Nat} {Q : Exit → Act → World → Prop} {a : Act} (hm : P.follows .mixedOrders = true) (hlex : Region.lexB .any (stripM m l).toArray = true) (hchk : freshB l m fs = true) (run : FreshRuns P l fs aq)
    (hsz : a.tmps.size = aq.tmps.size)
    (hq : ∀ u, Below w0.heap.size w0 u → wpQuiet P (stripM m l).toArray (fun w' => ∃ z : Ext u, w' = z.world) (fun x => x = aq) (stripM m l) a)
    (hfin : ∀ a' w', a'.defers = aq.defers → a'.tmps.size = aq.tmps.size → (∀ t, (∀ f, f ∈ fs → f.d ≠ t) → a'.tmps[t]? = aq.tmps[t]?) → Below w0.heap.size w0 w' →
      (∀ f, f ∈ fs → ∃ b, w0.heap.size ≤ b ∧ a'.tmps[f.d]? = some (.pointer (some ⟨b, 0, none⟩)) ∧ w'.heap[b]? = some (.cells (aq.tmps.getD f.vs undef).cells f.e (0, 0))) →
      (∀ f g, f ∈ fs → g ∈ fs → f.d ≠ g.d → ∀ b, a'.tmps[f.d]? = some (.pointer (some ⟨b, 0, none⟩)) → a'.tmps[g.d]? ≠ some (.pointer (some ⟨b, 0, none⟩))) → Q .normal a' w') :
    (Code.region id l.toArray true).wp P Q a w0 := by
  have ok := freshOk_of hchk
  have hai : ∀ f, f ∈ fs → f.ai < l.length := fun g hg => by obtain ⟨og, hog, _⟩ := ok.alloc g hg; exact (List.getElem?_eq_some_iff.1 hog).1
  have hsi : ∀ f, f ∈ fs → f.si < l.length := fun g hg => by obtain ⟨og, hog, _⟩ := ok.store g hg; exact (List.getElem?_eq_some_iff.1 hog).1
  simp only [Region.lexB, Bool.and_eq_true] at hlex
  refine wp_region_any hm ?_
  refine sim_sound ok run (fun listed a' w' hall hls hsim => ?_) _ _ a a _ (by simp) hsz ⟨rfl, rfl, fun _ _ => rfl, (Below.refl _ _).drew, fun f _ h => ?_, fun f _ h => ?_, fun f _ _ _ _ h => ?_⟩ (fun u hu => ?_)
  · refine hfin a' w' hsim.defers hsim.size hsim.off hsim.below (fun f hf => ?_) (fun f g hf hg hfg b h => ?_)
    · have h1 : listed.getD f.ai false = true := by rw [← getD_tf (by rw [hls]; exact hai f hf)]; exact hall _ (hai f hf)
      have h2 : listed.getD f.si false = true := by rw [← getD_tf (by rw [hls]; exact hsi f hf)]; exact hall _ (hsi f hf)
      obtain ⟨b, hb1, hb2, hb3⟩ := hsim.blk f hf h1
      rw [h2] at hb3
      exact ⟨b, hb1, hb2, hb3⟩
    · have h1 : listed.getD f.ai false = true := by rw [← getD_tf (by rw [hls]; exact hai f hf)]; exact hall _ (hai f hf)
      have h2 : listed.getD g.ai false = true := by rw [← getD_tf (by rw [hls]; exact hai g hg)]; exact hall _ (hai g hg)
      exact hsim.dis f g hf hg hfg h1 h2 b h
  · rw [getD_replicate_false] at h; cases h
  · rw [getD_replicate_false] at h; cases h
  · rw [getD_replicate_false] at h; cases h
  · have := wpAnyQ_lex (P := P) (C := Cl u) (md := .any) (Q := fun x => x = aq) hlex.1 (stripM m l) 0 (Array.replicate (stripM m l).toArray.size false) a (by simp) (by simpa using hlex.2) (hq u hu)
    simpa [stripM_len] using this

theorem alloc_run {o : Oper} {e : TypeId} {zv : Value} (ho : o.op = .alloc e) (hz : ∀ w, (zeroValue e).run P w = .ok zv w) (ρ : Operand → Value) (w : World) :
    (execOp ρ o).run P w = .ok (.value (.pointer (some ⟨w.heap.size, 0, none⟩))) (w.alloc (.cells zv.cells e)) := by
  unfold execOp
  simp [ho, Instr.alloc, hz, newVar, newRow]
theorem store_run {o : Oper} {e : TypeId} {d vs : Tmp} {z : Array Value} {V : Value} (ho : o.op = .store e (.tmp d) (.tmp vs)) (hV : ∃ cs : Array Value, V = .agg cs ∧ (P.info? e).map (·.size) = some cs.size ∧ z.size = cs.size ∧ cs.all (·.oneCell') = true)
    (ρ : Operand → Value) (b : Nat) (w : World) (h1 : ρ (.tmp d) = .pointer (some ⟨b, 0, none⟩)) (h2 : ρ (.tmp vs) = V) (h3 : w.heap[b]? = some (.cells z e (0, 0))) :
    (execOp ρ o).run P w = .ok .skip (w.setRow b V.cells) := by
  obtain ⟨cs, rfl, hi, hz, hc⟩ := hV
  unfold execOp
  have := run_storeVar_row (P := P) w b e e z cs h3 hi hz hc
  simp [ho, h1, h2, Instr.storeAt, Instr.sureAddr, this, Value.cells]

/-- ONE block. -/
theorem wp_region_fresh1 {id : Nat} {Q : Exit → Act → World → Prop} {a : Act} (m : List Bool) (ai si : Nat) (d vs : Tmp) (e : TypeId) (zv : Value) (cs : Array Value)
    (hq : ∀ u, Below w0.heap.size w0 u → wpQuiet P (stripM m l).toArray (fun w' => ∃ z : Ext u, w' = z.world) (fun x => x = aq) (stripM m l) a)
    (hm : P.follows .mixedOrders = true) (hlex : Region.lexB .any (stripM m l).toArray = true) (hsel : Region.noSelect l.toArray = true) (hchk : freshB l m [⟨ai, si, d, vs, e, zv.cells⟩] = true)
    (hoa : (l[ai]?).map (fun o => (o.op, o.guard)) = some (.alloc e, none)) (hos : (l[si]?).map (fun o => (o.op, o.guard)) = some (.store e (.tmp d) (.tmp vs), none)) (hz : ∀ w, (zeroValue e).run P w = .ok zv w)
    (hsz : a.tmps.size = aq.tmps.size) (hd : d < aq.tmps.size) (hvs : aq.tmps[vs]? = some (.agg cs)) (hi : (P.info? e).map (·.size) = some cs.size) (hzc : zv.cells.size = cs.size) (hone : cs.all (·.oneCell') = true)
    (hfin : ∀ b w', w0.heap.size ≤ b → b < w'.heap.size → Below w0.heap.size w0 w' → w'.heap[b]? = some (.cells cs e (0, 0)) → Q .normal (aq.put (some d) (.pointer (some ⟨b, 0, none⟩))) w') :
    (Code.region id l.toArray true).wp P Q a w0 := by
  have hget : aq.tmps.getD vs undef = .agg cs := by simp [hvs]
  have hop : ∀ (i : Nat) (o : Oper) (x : Op × Option (Nat × Bool)), l[i]? = some o → (l[i]?).map (fun o => (o.op, o.guard)) = some x → o.op = x.1 ∧ o.guard = x.2 := fun i o x h h' => by
    rw [h] at h'; cases h'; exact ⟨rfl, rfl⟩
  refine wp_region_fresh (fs := [⟨ai, si, d, vs, e, zv.cells⟩]) hm hlex hchk ⟨fun f hf o ho => ?_, fun f hf o ho => ?_, fun f hf => ?_, fun f hf => ?_, fun f g hf hg _ => ?_, fun i o c b ho => Region.noSelect_spec hsel i o c b (by simpa using ho)⟩ hsz hq ?_
  · obtain rfl := List.mem_singleton.1 hf
    exact alloc_run (hop _ _ _ ho hoa).1 hz
  · obtain rfl := List.mem_singleton.1 hf
    rw [hget]
    exact fun ρ b w => store_run (V := .agg cs) (hop _ _ _ ho hos).1 ⟨cs, rfl, hi, hzc, hone⟩ ρ b w
  · obtain rfl := List.mem_singleton.1 hf
    exact ⟨fun o ho => (hop _ _ _ ho hoa).2, fun o ho => (hop _ _ _ ho hos).2⟩
  · obtain rfl := List.mem_singleton.1 hf
    exact ⟨(Array.getElem?_eq_some_iff.1 hvs).1, hd⟩
  · rw [List.mem_singleton.1 hf, List.mem_singleton.1 hg]
  · intro a' w' h1 h2 h3 h4 h5 _
    obtain ⟨b, hb1, hb2, hb3⟩ := h5 _ (List.mem_singleton.2 rfl)
    rw [hget] at hb3
    have e' : a' = aq.put (some d) (.pointer (some ⟨b, 0, none⟩)) := by
      obtain ⟨t', d'⟩ := a'
      obtain ⟨t, dd⟩ := aq
      simp only [Act.put, Act.mk.injEq]
      refine ⟨Array.ext_getElem? fun i => ?_, h1⟩
      by_cases e : d = i
      · subst e
        have hlt : d < t.size := hd
        simpa [hlt] using hb2
      · rw [Array.getElem?_setIfInBounds_ne e]
        exact h3 i fun f hf => by rw [List.mem_singleton.1 hf]; exact e
    rw [e']
    exact hfin b w' hb1 (Array.getElem?_eq_some_iff.1 hb3).1 h4 hb3

/-- TWO blocks. -/
theorem wp_region_fresh2 {id : Nat} {Q : Exit → Act → World → Prop} {a : Act} (m : List Bool) (ai si : Nat) (d vs : Tmp) (e : TypeId) (zv : Value) (cs : Array Value) (ai' si' : Nat) (d' vs' : Tmp) (e' : TypeId) (zv' : Value) (cs' : Array Value)
    (hq : ∀ u, Below w0.heap.size w0 u → wpQuiet P (stripM m l).toArray (fun w' => ∃ z : Ext u, w' = z.world) (fun x => x = aq) (stripM m l) a)
    (hm : P.follows .mixedOrders = true) (hlex : Region.lexB .any (stripM m l).toArray = true) (hsel : Region.noSelect l.toArray = true) (hchk : freshB l m [⟨ai, si, d, vs, e, zv.cells⟩, ⟨ai', si', d', vs', e', zv'.cells⟩] = true)
    (hoa : (l[ai]?).map (fun o => (o.op, o.guard)) = some (.alloc e, none)) (hos : (l[si]?).map (fun o => (o.op, o.guard)) = some (.store e (.tmp d) (.tmp vs), none)) (hz : ∀ w, (zeroValue e).run P w = .ok zv w)
    (hoa' : (l[ai']?).map (fun o => (o.op, o.guard)) = some (.alloc e', none)) (hos' : (l[si']?).map (fun o => (o.op, o.guard)) = some (.store e' (.tmp d') (.tmp vs'), none)) (hz' : ∀ w, (zeroValue e').run P w = .ok zv' w)
    (hsz : a.tmps.size = aq.tmps.size) (hd : d < aq.tmps.size) (hd' : d' < aq.tmps.size) (hdd : d ≠ d') (hvs : aq.tmps[vs]? = some (.agg cs)) (hi : (P.info? e).map (·.size) = some cs.size) (hzc : zv.cells.size = cs.size) (hone : cs.all (·.oneCell') = true)
    (hvs' : aq.tmps[vs']? = some (.agg cs')) (hi' : (P.info? e').map (·.size) = some cs'.size) (hzc' : zv'.cells.size = cs'.size) (hone' : cs'.all (·.oneCell') = true)
    (hfin : ∀ b b' w', w0.heap.size ≤ b → b < w'.heap.size → w0.heap.size ≤ b' → b' < w'.heap.size → b ≠ b' → Below w0.heap.size w0 w' → w'.heap[b]? = some (.cells cs e (0, 0)) → w'.heap[b']? = some (.cells cs' e' (0, 0)) →
      Q .normal ((aq.put (some d) (.pointer (some ⟨b, 0, none⟩))).put (some d') (.pointer (some ⟨b', 0, none⟩))) w') :
    (Code.region id l.toArray true).wp P Q a w0 := by
  have hget : aq.tmps.getD vs undef = .agg cs := by simp [hvs]
  have hget' : aq.tmps.getD vs' undef = .agg cs' := by simp [hvs']
  have hop : ∀ (i : Nat) (o : Oper) (x : Op × Option (Nat × Bool)), l[i]? = some o → (l[i]?).map (fun o => (o.op, o.guard)) = some x → o.op = x.1 ∧ o.guard = x.2 := fun i o x h h' => by
    rw [h] at h'; cases h'; exact ⟨rfl, rfl⟩
  have two : ∀ f : Fr, f ∈ [(⟨ai, si, d, vs, e, zv.cells⟩ : Fr), ⟨ai', si', d', vs', e', zv'.cells⟩] → f = ⟨ai, si, d, vs, e, zv.cells⟩ ∨ f = ⟨ai', si', d', vs', e', zv'.cells⟩ := fun f hf => by simpa using hf
  refine wp_region_fresh (fs := [⟨ai, si, d, vs, e, zv.cells⟩, ⟨ai', si', d', vs', e', zv'.cells⟩]) hm hlex hchk ⟨fun f hf o ho => ?_, fun f hf o ho => ?_, fun f hf => ?_, fun f hf => ?_, fun f g hf hg hfg => ?_, fun i o c b ho => Region.noSelect_spec hsel i o c b (by simpa using ho)⟩ hsz hq ?_
  · rcases two f hf with rfl | rfl
    · exact alloc_run (hop _ _ _ ho hoa).1 hz
    · exact alloc_run (hop _ _ _ ho hoa').1 hz'
  · rcases two f hf with rfl | rfl
    · rw [hget]; exact fun ρ b w => store_run (V := .agg cs) (hop _ _ _ ho hos).1 ⟨cs, rfl, hi, hzc, hone⟩ ρ b w
    · rw [hget']; exact fun ρ b w => store_run (V := .agg cs') (hop _ _ _ ho hos').1 ⟨cs', rfl, hi', hzc', hone'⟩ ρ b w
  · rcases two f hf with rfl | rfl
    · exact ⟨fun o ho => (hop _ _ _ ho hoa).2, fun o ho => (hop _ _ _ ho hos).2⟩
    · exact ⟨fun o ho => (hop _ _ _ ho hoa').2, fun o ho => (hop _ _ _ ho hos').2⟩
  · rcases two f hf with rfl | rfl
    · exact ⟨(Array.getElem?_eq_some_iff.1 hvs).1, hd⟩
    · exact ⟨(Array.getElem?_eq_some_iff.1 hvs').1, hd'⟩
  · rcases two f hf with rfl | rfl <;> rcases two g hg with rfl | rfl
    · rfl
    · exact absurd hfg hdd
    · exact absurd hfg.symm hdd
    · rfl
  · intro a' w' h1 h2 h3 h4 h5 h6
    obtain ⟨b, hb1, hb2, hb3⟩ := h5 ⟨ai, si, d, vs, e, zv.cells⟩ (by simp)
    obtain ⟨b', hb1', hb2', hb3'⟩ := h5 ⟨ai', si', d', vs', e', zv'.cells⟩ (by simp)
    rw [hget] at hb3
    rw [hget'] at hb3'
    have hbb : b ≠ b' := fun e'' => by
      subst e''
      exact h6 ⟨ai, si, d, vs, e, zv.cells⟩ ⟨ai', si', d', vs', e', zv'.cells⟩ (by simp) (by simp) hdd b hb2 hb2'
    have e'' : a' = (aq.put (some d) (.pointer (some ⟨b, 0, none⟩))).put (some d') (.pointer (some ⟨b', 0, none⟩)) := by
      obtain ⟨t', dd'⟩ := a'
      obtain ⟨t, dd⟩ := aq
      simp only [Act.put, Act.mk.injEq]
      refine ⟨Array.ext_getElem? fun i => ?_, h1⟩
      have hlt : d < t.size := hd
      have hlt' : d' < t.size := hd'
      by_cases e1 : d' = i
      · subst e1
        simpa [hlt'] using hb2'
      · rw [Array.getElem?_setIfInBounds_ne e1]
        by_cases e2 : d = i
        · subst e2
          simpa [hlt] using hb2
        · rw [Array.getElem?_setIfInBounds_ne e2]
          exact h3 i fun f hf => by
            rcases two f hf with rfl | rfl
            · exact e2
            · exact e1
    rw [e'']
    exact hfin b b' w' hb1 (Array.getElem?_eq_some_iff.1 hb3).1 hb1' (Array.getElem?_eq_some_iff.1 hb3').1 hbb h4 hb3 hb3'
end
end Go.Proofs.Ytnhnkmppmicjoaa
