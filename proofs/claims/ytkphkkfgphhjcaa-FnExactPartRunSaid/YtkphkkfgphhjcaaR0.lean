/- A region that draws its order: one obligation an operation, whatever the order. -/
import Derived.Test.YtkphkkfgphhjcaaA0
import Derived.Orders
namespace Go.Proofs.Ytkphkkfgphhjcaa
open Go.RowKit
set_option linter.unusedVariables false
set_option linter.unusedSimpArgs false

/-- A call's end: it returns a value of which K holds. -/
def EndP (K : Value → World → Prop) (e : Ending) (w : World) : Prop := ∃ v, e = .returned v ∧ K v w
theorem endp_mk {K : Value → World → Prop} {v : Value} {w : World} (h : K v w) : EndP K (.returned v) w := ⟨v, rfl, h⟩
/-- What an operation comes to: a value (undef of none), in a world, of which K holds. -/
def OpOK (P : Program) (K : Value → World → Prop) : Result Next → Prop
  | .ok (.value v) w' => K v w'
  | .ok .skip w' => K undef w'
  | .ok (.enter f args) w' => Calls P f args w' (EndP K)
  | _ => False
@[go_sem] theorem opOK_value (P : Program) (K : Value → World → Prop) (v : Value) (w : World) : OpOK P K (.ok (.value v) w) = K v w := rfl
@[go_sem] theorem opOK_skip (P : Program) (K : Value → World → Prop) (w : World) : OpOK P K (.ok .skip w) = K undef w := rfl
@[go_sem] theorem opOK_enter (P : Program) (K : Value → World → Prop) (f : FuncId) (args : Array Value) (w : World) : OpOK P K (.ok (.enter f args) w) = Calls P f args w (EndP K) := rfl
theorem wp_of_ok {P : Program} {o : Oper} {a : Act} {w : World} {K : Value → World → Prop} {next : Act → World → Prop} {Q : Exit → Act → World → Prop} (h : OpOK P K ((execOp a.eval o).run P w)) (hn : ∀ v w', K v w' → next (a.put o.dst v) w') : o.wp P a w next Q := by
  unfold Oper.wp
  generalize (execOp a.eval o).run P w = r at h
  cases r with
  | ok n w' =>
    cases n <;> simp only [OpOK] at h <;> simp only [Oper.upon]
    case value v => exact hn _ _ h
    case skip => exact hn _ _ h
    case enter f args =>
      refine h.mono fun e w'' he => ?_
      obtain ⟨v, rfl, hk⟩ := he
      exact hn _ _ hk
  | halt x w' => simp only [OpOK] at h

def dstOf (ops : Array Oper) (i : Nat) : Option Tmp := (ops[i]?).bind (·.dst)
def needs (o : Oper) : List Nat := (o.after.toList.filter (fun e => Region.binds .any e)).map (·.on)
def uniqD (ops : Array Oper) : Bool := (List.range ops.size).all fun i => (List.range ops.size).all fun j => i == j || (match dstOf ops i with
  | some d => dstOf ops j != some d
  | none => true)
def reach (ops : Array Oper) (j : Nat) : Nat → Nat → Bool
  | 0, _ => false
  | n + 1, i => match ops[i]? with
    | some o => (needs o).any fun k => k == j || reach ops j n k
    | none => false
/-- No operation that writes slot t can have come up ahead of operation j. -/
def oldB (ops : Array Oper) (j : Nat) (t : Tmp) : Bool := (List.range ops.size).all fun i => dstOf ops i != some t || i == j || reach ops j ops.size i

section
variable (P : Program) (ops : Array Oper) (V : Nat → Value → World → Prop) (I : Nat → World → Prop) (R : World → World → Prop) (a0 : Act)
/-- What is to be shown of operation j. -/
def StepOK (j : Nat) (o : Oper) : Prop :=
  ∀ (t : Nat) (ρ : Operand → Value) (w : World) (go : Bool), t < ops.size → (∀ v, ρ (.const v) = v) → (∀ f, ρ (.func f) = .func (.func f) #[] #[]) → (∀ g, ρ (.global g) = .pointer (some ⟨g, 0, none⟩)) →
    (∀ s, oldB ops j s = true → ρ (.tmp s) = a0.tmps.getD s undef) → (∀ i ∈ needs o, ∃ v, V i v w ∧ ∀ d, dstOf ops i = some d → ρ (.tmp d) = v) →
    (match o.guard with | none => go = true | some (g, b) => ∃ v, V g v w ∧ (go = true ↔ v = .bool b)) → I t w →
    if go = true then OpOK P (fun v w2 => I (t + 1) w2 ∧ R w w2 ∧ V j v w2) ((execOp ρ o).run P w) else I (t + 1) w ∧ R w w ∧ V j undef w
def StepsOK : Nat → List Oper → Prop
  | _, [] => True
  | j, o :: r => StepOK P ops V I R a0 j o ∧ StepsOK (j + 1) r
end
def putAll : List Oper → List Value → Act → Act
  | o :: os, v :: vs, a => putAll os vs (a.put o.dst v)
  | _, _, a => a

section
variable {P : Program} {ops : Array Oper} {V : Nat → Value → World → Prop} {I : Nat → World → Prop} {R : World → World → Prop} {a0 : Act}
theorem stepsOK_at : ∀ {l : List Oper} {k : Nat}, StepsOK P ops V I R a0 k l → ∀ i o, l[i]? = some o → StepOK P ops V I R a0 (k + i) o
  | [], _, _, i, o, h => by simp at h
  | x :: r, k, h, 0, o, ho => by
    simp at ho
    subst ho
    exact h.1
  | x :: r, k, h, i + 1, o, ho => by
    have := stepsOK_at h.2 i o (by simpa using ho)
    rwa [show k + 1 + i = k + (i + 1) by omega] at this

structure RInv (ops : Array Oper) (V : Nat → Value → World → Prop) (I : Nat → World → Prop) (a0 : Act) (listed : Array Bool) (t : Nat) (a : Act) (w : World) : Prop where
  inv : I t w
  size : listed.size = ops.size
  vals : ∀ i, listed.getD i false = true → ∃ v, V i v w ∧ ∀ d, dstOf ops i = some d → a.tmps.getD d undef = v
  old : ∀ d, (∀ i, listed.getD i false = true → dstOf ops i ≠ some d) → a.tmps.getD d undef = a0.tmps.getD d undef
  tsize : a.tmps.size = a0.tmps.size
  defers : a.defers = a0.defers
  closed : ∀ i o, listed.getD i false = true → ops[i]? = some o → ∀ k ∈ needs o, listed.getD k false = true

theorem reach_listed {listed : Array Bool} (hc : ∀ i o, listed.getD i false = true → ops[i]? = some o → ∀ k ∈ needs o, listed.getD k false = true) (j : Nat) : ∀ (n i : Nat), listed.getD i false = true → reach ops j n i = true → listed.getD j false = true
  | 0, _, _, h => by simp [reach] at h
  | n + 1, i, hi, h => by
    unfold reach at h
    split at h
    · rename_i o ho
      rw [List.any_eq_true] at h
      obtain ⟨k, hk, hr⟩ := h
      have hl := hc i o hi ho k hk
      rw [Bool.or_eq_true] at hr
      rcases hr with hr | hr
      · rw [beq_iff_eq] at hr
        subst hr
        exact hl
      · exact reach_listed hc j n k hl hr
    · cases h

theorem getD_put (a : Act) (dst : Option Tmp) (v : Value) (d : Tmp) (h : dst ≠ some d) : (a.put dst v).tmps.getD d undef = a.tmps.getD d undef := by
  cases dst with
  | none => rfl
  | some e =>
    have : e ≠ d := fun h' => h (by rw [h'])
    simp [Act.put, Array.getD_eq_getD_getElem?, Array.getElem?_setIfInBounds, this]
theorem getD_put_self (a : Act) (v : Value) (d : Tmp) (h : d < a.tmps.size) : (a.put (some d) v).tmps.getD d undef = v := by
  simp [Act.put, Array.getD_eq_getD_getElem?, Array.getElem?_setIfInBounds, h]
theorem put_size (a : Act) (dst : Option Tmp) (v : Value) : (a.put dst v).tmps.size = a.tmps.size := by cases dst <;> simp [Act.put]
theorem put_defers (a : Act) (dst : Option Tmp) (v : Value) : (a.put dst v).defers = a.defers := by cases dst <;> rfl

theorem uniq_eq (hu : uniqD ops = true) {i j : Nat} {d : Tmp} (hi : dstOf ops i = some d) (hj : dstOf ops j = some d) : i = j := by
  have h1 : i < ops.size := by
    rcases Nat.lt_or_ge i ops.size with h | h
    · exact h
    · simp [dstOf, Array.getElem?_eq_none h] at hi
  have h2 : j < ops.size := by
    rcases Nat.lt_or_ge j ops.size with h | h
    · exact h
    · simp [dstOf, Array.getElem?_eq_none h] at hj
  unfold uniqD at hu
  have := List.all_eq_true.1 (List.all_eq_true.1 hu i (List.mem_range.2 h1)) j (List.mem_range.2 h2)
  rw [hi, hj] at this
  simpa using this

theorem RInv.step (hst : ∀ i v w1 w2, R w1 w2 → V i v w1 → V i v w2) (hu : uniqD ops = true) (hsz : ∀ i d, dstOf ops i = some d → d < a0.tmps.size)
    {listed : Array Bool} {t : Nat} {a : Act} {w w2 : World} {j : Nat} {o : Oper} {v : Value} (h : RInv ops V I a0 listed t a w) (ho : ops[j]? = some o) (hl : listed.getD j true = false) (hn : ∀ k ∈ needs o, listed.getD k false = true)
    (hI : I (t + 1) w2) (hR : R w w2) (hV : V j v w2) : RInv ops V I a0 (listed.setIfInBounds j true) (t + 1) (a.put o.dst v) w2 := by
  have hjs : j < listed.size := by
    rcases Nat.lt_or_ge j listed.size with h | h
    · exact h
    · simp [Array.getD_eq_getD_getElem?, Array.getElem?_eq_none h] at hl
  have hdj : dstOf ops j = o.dst := by simp [dstOf, ho]
  have hlj : ∀ i, (listed.setIfInBounds j true).getD i false = true ↔ i = j ∨ listed.getD i false = true := by
    intro i
    by_cases e : j = i
    · subst e
      simp [Array.getD_eq_getD_getElem?, Array.getElem?_setIfInBounds, hjs]
    · simp [Array.getD_eq_getD_getElem?, Array.getElem?_setIfInBounds, e, show ¬ i = j from fun h => e h.symm]
  have hnl : ¬ listed.getD j false = true := by
    intro h'
    rw [Array.getD_eq_getD_getElem?, Array.getElem?_eq_getElem hjs] at hl h'
    simp_all
  refine ⟨hI, by simp [h.size], ?_, ?_, by rw [put_size]; exact h.tsize, by rw [put_defers]; exact h.defers, ?_⟩
  · intro i hi
    rcases (hlj i).1 hi with rfl | hi'
    · refine ⟨v, hV, fun d hd => ?_⟩
      rw [hdj] at hd
      rw [hd, getD_put_self _ _ _ (by rw [h.tsize]; exact hsz i d (by rw [hdj, hd]))]
    · obtain ⟨u, hu1, hu2⟩ := h.vals i hi'
      refine ⟨u, hst _ _ _ _ hR hu1, fun d hd => ?_⟩
      rw [getD_put _ _ _ _ (fun e => ?_), hu2 d hd]
      have := uniq_eq hu hd (hdj.trans e)
      subst this
      exact hnl hi'
  · intro d hd
    rw [getD_put _ _ _ _ (fun e => hd j ((hlj j).2 (.inl rfl)) (hdj.trans e))]
    exact h.old d (fun i hi => hd i ((hlj i).2 (.inr hi)))
  · intro i o' hi ho' k hk
    rcases (hlj i).1 hi with rfl | hi'
    · rw [ho] at ho'
      injection ho' with ho'
      subst ho'
      exact (hlj k).2 (.inr (hn k hk))
    · exact (hlj k).2 (.inr (h.closed i o' hi' ho' k hk))

theorem ready_spec {listed : Array Bool} {j : Nat} (hj : j ∈ Region.ready .any ops listed) : ∃ o, ops[j]? = some o ∧ listed.getD j true = false ∧ ∀ k ∈ needs o, listed.getD k false = true := by
  unfold Region.ready at hj
  rw [List.mem_filter] at hj
  obtain ⟨h1, h2⟩ := hj
  rw [Bool.and_eq_true] at h2
  obtain ⟨h2, h3⟩ := h2
  cases ho : ops[j]? with
  | none => rw [ho] at h3; simp at h3
  | some o =>
    rw [ho] at h3
    simp only [Option.map_some, Option.getD_some] at h3
    refine ⟨o, rfl, by simpa using h2, fun k hk => ?_⟩
    unfold needs at hk
    rw [List.mem_map] at hk
    obtain ⟨e, he, rfl⟩ := hk
    rw [List.mem_filter] at he
    rw [Array.all_eq_true_iff_forall_mem] at h3
    have := h3 e (Array.mem_toList_iff.1 he.1)
    rw [Bool.or_eq_true, he.2] at this
    simpa using this

def belowB (ops : Array Oper) : Bool := (List.range ops.size).all fun i => match ops[i]? with
  | some o => (needs o).all (· < i)
  | none => true
theorem all_listed (hb : belowB ops = true) {listed : Array Bool} (hs : listed.size = ops.size) (h : Region.ready .any ops listed = []) : ∀ i, i < ops.size → listed.getD i false = true := by
  intro i
  induction i using Nat.strongRecOn with
  | _ i ih =>
    intro hi
    cases hl : listed.getD i false with
    | true => rfl
    | false =>
      exfalso
      have hm : i ∈ Region.ready .any ops listed := by
        unfold Region.ready
        rw [List.mem_filter]
        refine ⟨List.mem_range.2 hi, ?_⟩
        have hlt : i < listed.size := by omega
        rw [Bool.and_eq_true]
        constructor
        · rw [Array.getD_eq_getD_getElem?, Array.getElem?_eq_getElem hlt] at hl ⊢
          simp_all
        · rw [Array.getElem?_eq_getElem hi]
          simp only [Option.map_some, Option.getD_some]
          rw [Array.all_eq_true_iff_forall_mem]
          intro e he
          cases hbd : Region.binds .any e with
          | false => rfl
          | true =>
            have hk : e.on ∈ needs ops[i] := List.mem_map.2 ⟨e, List.mem_filter.2 ⟨Array.mem_toList_iff.2 he, hbd⟩, rfl⟩
            have h3 := List.all_eq_true.1 hb i (List.mem_range.2 hi)
            rw [Array.getElem?_eq_getElem hi] at h3
            have h4 := List.all_eq_true.1 h3 e.on hk
            have h5 : e.on < i := of_decide_eq_true h4
            rw [ih e.on h5 (by omega)]
            rfl
      rw [h] at hm
      cases hm
theorem count_set {listed : Array Bool} {j : Nat} (h : listed.getD j true = false) : ((listed.setIfInBounds j true).toList.count true) = listed.toList.count true + 1 := by
  have hj : j < listed.size := by
    rcases Nat.lt_or_ge j listed.size with h' | h'
    · exact h'
    · simp [Array.getD_eq_getD_getElem?, Array.getElem?_eq_none h'] at h
  rw [Array.getD_eq_getD_getElem?, Array.getElem?_eq_getElem hj] at h
  simp only [Option.getD_some] at h
  rw [Array.toList_setIfInBounds, List.count_set (by simpa using hj)]
  simp [h]
theorem ready_nil_of_count {listed : Array Bool} (hs : listed.size = ops.size) (h : listed.toList.count true = ops.size) : Region.ready .any ops listed = [] := by
  have h1 : ∀ b ∈ listed.toList, b = true := by
    have := List.count_eq_length.1 (show listed.toList.count true = listed.toList.length by rw [h, Array.length_toList, hs])
    intro b hb
    exact (this b hb).symm
  cases hr : Region.ready .any ops listed with
  | nil => rfl
  | cons j r =>
    obtain ⟨o, ho, hl, _⟩ := ready_spec (ops := ops) (listed := listed) (j := j) (by rw [hr]; exact List.mem_cons_self)
    rw [Array.getD_eq_getD_getElem?] at hl
    cases hq : listed[j]? with
    | none => rw [hq] at hl; simp at hl
    | some b =>
      rw [hq] at hl
      have := h1 b (List.mem_of_getElem? (by rw [Array.getElem?_toList]; exact hq))
      simp_all

theorem wanted_of {o : Oper} {a : Act} (f : Nat → Value) (hg : ∀ g b, o.guard = some (g, b) → ∃ d, dstOf ops g = some d ∧ d < a.tmps.size ∧ a.tmps.getD d undef = f g) :
    (match o.guard with | none => Region.wanted o (yielded ops a.tmps) = true | some (g, b) => (Region.wanted o (yielded ops a.tmps) = true ↔ f g = .bool b)) := by
  cases h : o.guard with
  | none => simp [Region.wanted, h]
  | some p =>
    obtain ⟨g, b⟩ := p
    obtain ⟨d, h1, h2, h3⟩ := hg g b h
    have h4 : a.tmps[d]? = some (f g) := by
      rw [Array.getD_eq_getD_getElem?, Array.getElem?_eq_getElem h2] at h3
      rw [Array.getElem?_eq_getElem h2]
      simpa using h3
    have h1' : (ops[g]?).bind (·.dst) = some d := h1
    simp only [Region.wanted, h, yielded, h1', Option.bind_some, h4]
    cases f g <;> simp

theorem wpAny_inv {Q : Exit → Act → World → Prop} (hst : ∀ i v w1 w2, R w1 w2 → V i v w1 → V i v w2) (hu : uniqD ops = true) (hb : belowB ops = true) (hsz : ∀ i d, dstOf ops i = some d → d < a0.tmps.size)
    (hgd : ∀ (j : Nat) (o : Oper) (g : Nat) (b : Bool), ops[j]? = some o → o.guard = some (g, b) → g ∈ needs o ∧ (dstOf ops g).isSome = true)
    (hsteps : StepsOK P ops V I R a0 0 ops.toList)
    (fin : ∀ listed a w, RInv ops V I a0 listed ops.size a w → (∀ i, i < ops.size → listed.getD i false = true) → Q .normal a w) :
    ∀ (fuel t : Nat) (listed : Array Bool) (a : Act) (w : World), fuel + t = ops.size → listed.toList.count true = t → RInv ops V I a0 listed t a w → wpAny P .any ops Q fuel listed a w := by
  intro fuel
  induction fuel with
  | zero =>
    intro t listed a w ht hc h
    have hn := ready_nil_of_count (ops := ops) h.size (by omega)
    obtain rfl : t = ops.size := by omega
    exact ⟨hn, fin _ _ _ h (all_listed hb h.size hn)⟩
  | succ fuel ih =>
    intro t listed a w ht hc h
    refine ⟨fun hn => ?_, fun j hj => ?_⟩
    · exfalso
      have hal := all_listed hb h.size hn
      have : listed.toList.count true = ops.size := by
        rw [← h.size, ← Array.length_toList]
        refine List.count_eq_length.2 (fun b hb' => ?_)
        obtain ⟨i, hi, rfl⟩ := List.getElem_of_mem hb'
        have := hal i (by simpa [h.size] using hi)
        rw [Array.getD_eq_getD_getElem?, Array.getElem?_eq_getElem (by simpa using hi)] at this
        simpa using this.symm
      omega
    · obtain ⟨o, ho, hl, hn⟩ := ready_spec hj
      have hs := stepsOK_at hsteps j o (by rw [Array.getElem?_toList]; exact ho)
      rw [Nat.zero_add] at hs
      unfold wpOp
      simp only [ho]
      have hnj : ¬ listed.getD j false = true := by
        intro h'
        have hlt : j < listed.size := by
          rcases Nat.lt_or_ge j listed.size with h | h
          · exact h
          · simp [Array.getD_eq_getD_getElem?, Array.getElem?_eq_none h] at hl
        rw [Array.getD_eq_getD_getElem?, Array.getElem?_eq_getElem hlt] at hl h'
        simp_all
      have hs2 := hs t a.eval w (Region.wanted o (yielded ops a.tmps)) (by omega) (fun _ => rfl) (fun _ => rfl) (fun _ => rfl)
        (fun s hs => by
          refine h.old s (fun i hi hd => ?_)
          have hi' : i < ops.size := by
            rcases Nat.lt_or_ge i ops.size with h | h
            · exact h
            · simp [dstOf, Array.getElem?_eq_none h] at hd
          have := List.all_eq_true.1 hs i (List.mem_range.2 hi')
          rw [Bool.or_eq_true, Bool.or_eq_true] at this
          rcases this with (this | this) | this
          · simp [hd] at this
          · rw [beq_iff_eq] at this
            subst this
            exact hnj hi
          · exact hnj (reach_listed h.closed j _ _ hi this))
        (fun i hi => h.vals i (hn i hi))
        (by
          cases hg : o.guard with
          | none => simp [Region.wanted, hg]
          | some p =>
            obtain ⟨g, b⟩ := p
            obtain ⟨g1, g2⟩ := hgd j o g b ho hg
            obtain ⟨d, hd⟩ := Option.isSome_iff_exists.1 g2
            obtain ⟨v, hv1, hv2⟩ := h.vals g (hn g g1)
            have := wanted_of (ops := ops) (o := o) (a := a) (fun _ => v) (fun g' b' hgb => by
              rw [hg] at hgb
              simp only [Option.some.injEq, Prod.mk.injEq] at hgb
              obtain ⟨rfl, rfl⟩ := hgb
              exact ⟨d, hd, by rw [h.tsize]; exact hsz _ _ hd, hv2 d hd⟩)
            simp only [hg] at this ⊢
            exact ⟨v, hv1, this⟩)
        h.inv
      have next : ∀ v w2, I (t + 1) w2 ∧ R w w2 ∧ V j v w2 → wpAny P .any ops Q fuel (listed.setIfInBounds j true) (a.put o.dst v) w2 := fun v w2 hk =>
        ih (t + 1) _ _ _ (by omega) (by rw [count_set hl]; omega) (h.step hst hu hsz ho hl hn hk.1 hk.2.1 hk.2.2)
      cases hw : Region.wanted o (yielded ops a.tmps) with
      | true =>
        rw [hw] at hs2
        simp only [if_true] at hs2 ⊢
        exact .inl (wp_of_ok hs2 next)
      | false =>
        rw [hw] at hs2
        simp only [Bool.false_eq_true, if_false] at hs2 ⊢
        exact next _ _ hs2

theorem putAll_size : ∀ (l : List Oper) (vs : List Value) (a : Act), (putAll l vs a).tmps.size = a.tmps.size
  | [], vs, a => by cases vs <;> rfl
  | o :: os, [], a => rfl
  | o :: os, v :: vs, a => by rw [putAll, putAll_size os vs, put_size]
theorem putAll_defers : ∀ (l : List Oper) (vs : List Value) (a : Act), (putAll l vs a).defers = a.defers
  | [], vs, a => by cases vs <;> rfl
  | o :: os, [], a => rfl
  | o :: os, v :: vs, a => by rw [putAll, putAll_defers os vs, put_defers]
theorem putAll_old : ∀ (l : List Oper) (vs : List Value) (a : Act) (d : Tmp), (∀ (i : Nat) (o : Oper), l[i]? = some o → o.dst ≠ some d) → (putAll l vs a).tmps.getD d undef = a.tmps.getD d undef
  | [], vs, a, d, _ => by cases vs <;> rfl
  | o :: os, [], a, d, _ => rfl
  | o :: os, v :: vs, a, d, h => by
    rw [putAll, putAll_old os vs _ d (fun i o' ho => h (i + 1) o' (by simpa using ho)), getD_put _ _ _ _ (h 0 o rfl)]
theorem putAll_new : ∀ (l : List Oper) (vs : List Value) (a : Act) (d : Tmp) (i : Nat) (v : Value), d < a.tmps.size → l.length = vs.length → (l[i]?.bind (·.dst)) = some d → vs[i]? = some v → (∀ j, j ≠ i → (l[j]?.bind (·.dst)) ≠ some d) → (putAll l vs a).tmps.getD d undef = v
  | [], vs, a, d, i, v, _, _, h, _, _ => by simp at h
  | o :: os, [], a, d, i, v, _, hl, h, _, _ => by simp at hl
  | o :: os, u :: vs, a, d, 0, v, hd, hl, h, hv, hu => by
    rw [putAll]
    have h1 : o.dst = some d := by simpa using h
    have h2 : u = v := by simpa using hv
    subst h2
    rw [putAll_old os vs _ d (fun i o' ho e => hu (i + 1) (by omega) (by simp only [List.getElem?_cons_succ, ho, Option.bind_some]; exact e)), h1, getD_put_self _ _ _ hd]
  | o :: os, u :: vs, a, d, i + 1, v, hd, hl, h, hv, hu => by
    rw [putAll]
    exact putAll_new os vs _ d i v (by rw [put_size]; exact hd) (by simpa using hl) (by simpa using h) (by simpa using hv) (fun j hj => by
      have := hu (j + 1) (by omega)
      simpa using this)

/-- The checks on a region's operations, in one Bool. n: how many slots the frame has. -/
def okRegion (ops : Array Oper) (n : Nat) : Bool := uniqD ops && belowB ops && (List.range ops.size).all fun j => match ops[j]? with
  | some o => (match o.dst with | some d => decide (d < n) | none => true) && (match o.guard with | some (g, _) => (needs o).contains g && (dstOf ops g).isSome | none => true)
  | none => true

theorem region_inv {id : Nat} {Q : Exit → Act → World → Prop} {w : World} (V : Nat → Value → World → Prop) (I : Nat → World → Prop) (R : World → World → Prop) (hm : P.follows .mixedOrders = true) (n : Nat) (hn : a0.tmps.size = n) (hok : okRegion ops n = true)
    (hst : ∀ i v w1 w2, R w1 w2 → V i v w1 → V i v w2) (h0 : I 0 w.drew) (hsteps : StepsOK P ops V I R a0 0 ops.toList)
    (fin : ∀ (vs : List Value) (w' : World), vs.length = ops.size → I ops.size w' → (∀ i v, vs[i]? = some v → V i v w') → Q .normal (putAll ops.toList vs a0) w') : (Code.region id ops true).wp P Q a0 w := by
  subst hn
  unfold okRegion at hok
  rw [Bool.and_eq_true, Bool.and_eq_true] at hok
  obtain ⟨⟨hu, hb⟩, hrest⟩ := hok
  have hat : ∀ (j : Nat) (o : Oper), ops[j]? = some o → ((match o.dst with | some d => decide (d < a0.tmps.size) | none => true) && (match o.guard with | some (g, _) => (needs o).contains g && (dstOf ops g).isSome | none => true)) = true := by
    intro j o ho
    have hj : j < ops.size := (Array.getElem?_eq_some_iff.1 ho).1
    have := List.all_eq_true.1 hrest j (List.mem_range.2 hj)
    rwa [ho] at this
  have hsz : ∀ i d, dstOf ops i = some d → d < a0.tmps.size := by
    intro i d hd
    cases ho : ops[i]? with
    | none => simp [dstOf, ho] at hd
    | some o =>
      have h1 := hat i o ho
      have h2 : o.dst = some d := by simpa [dstOf, ho] using hd
      rw [h2, Bool.and_eq_true] at h1
      simpa using h1.1
  refine wp_region_any hm (wpAny_inv hst hu hb hsz (fun j o g b ho hg => ?_) hsteps (fun listed a w' h hall => ?_) ops.size 0 _ _ _ (by omega) (by simp [List.count_replicate]) ⟨h0, by simp, fun i hi => ?_, fun d _ => rfl, rfl, rfl, fun i o hi => ?_⟩)
  · have h1 := hat j o ho
    rw [Bool.and_eq_true, hg] at h1
    have h2 := h1.2
    simp only [Bool.and_eq_true, List.contains_iff_mem] at h2
    exact h2
  · have hv : ∀ i : Fin ops.size, ∃ v, V i v w' ∧ ∀ d, dstOf ops i = some d → a.tmps.getD d undef = v := fun i => h.vals i (hall i i.2)
    obtain ⟨f, hf⟩ := Classical.axiomOfChoice hv
    have hlen : (List.ofFn f).length = ops.size := by simp
    have hget : ∀ i v, (List.ofFn f)[i]? = some v → ∃ hi : i < ops.size, v = f ⟨i, hi⟩ := by
      intro i v hi
      have hlt : i < (List.ofFn f).length := (List.getElem?_eq_some_iff.1 hi).1
      refine ⟨by simpa using hlt, ?_⟩
      rw [List.getElem?_eq_getElem hlt] at hi
      simpa using hi.symm
    have ha : a = putAll ops.toList (List.ofFn f) a0 := by
      have h1 : a.tmps = (putAll ops.toList (List.ofFn f) a0).tmps := by
        refine Array.ext (by rw [putAll_size]; exact h.tsize) (fun d h1 h2 => ?_)
        have h3 : a.tmps.getD d undef = (putAll ops.toList (List.ofFn f) a0).tmps.getD d undef := by
          by_cases hex : ∃ i, dstOf ops i = some d
          · obtain ⟨i, hi⟩ := hex
            have hlt : i < ops.size := by
              rcases Nat.lt_or_ge i ops.size with h | h
              · exact h
              · simp [dstOf, Array.getElem?_eq_none h] at hi
            rw [(hf ⟨i, hlt⟩).2 d hi, putAll_new ops.toList (List.ofFn f) a0 d i (f ⟨i, hlt⟩) (hsz i d hi) (by simp) (by rw [Array.getElem?_toList]; exact hi) (by simp [List.getElem?_ofFn, hlt])]
            intro j hj e
            rw [Array.getElem?_toList] at e
            exact hj (uniq_eq hu e hi)
          · rw [putAll_old ops.toList (List.ofFn f) a0 d (fun i o ho e => hex ⟨i, by rw [Array.getElem?_toList] at ho; simp [dstOf, ho, e]⟩)]
            exact h.old d (fun i _ e => hex ⟨i, e⟩)
        rw [Array.getD_eq_getD_getElem?, Array.getD_eq_getD_getElem?, Array.getElem?_eq_getElem h1, Array.getElem?_eq_getElem h2] at h3
        simpa using h3
      have h2 : a.defers = (putAll ops.toList (List.ofFn f) a0).defers := by rw [putAll_defers]; exact h.defers
      cases a
      cases hp : putAll ops.toList (List.ofFn f) a0
      simp_all
    rw [ha]
    refine fin _ w' hlen h.inv (fun i v hi => ?_)
    obtain ⟨hlt, rfl⟩ := hget i v hi
    exact (hf ⟨i, hlt⟩).1
  · simp [Array.getD_eq_getD_getElem?, Array.getElem?_replicate] at hi
    split at hi <;> simp at hi
  · simp [Array.getD_eq_getD_getElem?, Array.getElem?_replicate] at hi
    split at hi <;> simp at hi
end
theorem blk_cell {w : World} {b : Nat} {cs : Array Value} {T : TypeId} {fr : Nat × Nat} (h : w.heap[b]? = some (.cells cs T fr)) (j : Nat) : w.cell? ⟨b, j, none⟩ = cs[j]? := by
  simp [World.cell?, h]
theorem blk_frozen {w : World} {b : Nat} {cs : Array Value} {T : TypeId} (h : w.heap[b]? = some (.cells cs T (0, 0))) (j : Nat) : w.frozen? ⟨b, j, none⟩ = false := by
  simp [World.frozen?, h]

/-! A table of facts: what is known of each operation's value. -/
def IsV (x : Value) : Value → World → Prop := fun v _ => v = x
def AnyV : Value → World → Prop := fun _ _ => True
def VV (l : List (Value → World → Prop)) (i : Nat) (v : Value) (W : World) : Prop := match l[i]? with
  | some p => p v W
  | none => True
/-- What is known of the slots that an operation reads. -/
def NeedsOK (ops : Array Oper) (V : Nat → Value → World → Prop) (ρ : Operand → Value) (W : World) : List Nat → Prop
  | [] => True
  | i :: r => (∃ v, V i v W ∧ match dstOf ops i with | some d => ρ (.tmp d) = v | none => True) ∧ NeedsOK ops V ρ W r
def OldsOK (a0 : Act) (ρ : Operand → Value) : List Tmp → Prop
  | [] => True
  | s :: r => ρ (.tmp s) = a0.tmps.getD s undef ∧ OldsOK a0 ρ r
section
variable {P : Program} {ops : Array Oper} {V : Nat → Value → World → Prop} {I : Nat → World → Prop} {R : World → World → Prop} {a0 : Act}
theorem needsOK_of {ρ : Operand → Value} {W : World} : ∀ {l : List Nat}, (∀ i ∈ l, ∃ v, V i v W ∧ ∀ d, dstOf ops i = some d → ρ (.tmp d) = v) → NeedsOK ops V ρ W l
  | [], _ => trivial
  | i :: r, h => by
    refine ⟨?_, needsOK_of (fun k hk => h k (List.mem_cons_of_mem _ hk))⟩
    obtain ⟨v, h1, h2⟩ := h i List.mem_cons_self
    refine ⟨v, h1, ?_⟩
    cases hd : dstOf ops i with
    | none => trivial
    | some d => exact h2 d hd
theorem oldsOK_of {ρ : Operand → Value} : ∀ {l : List Tmp}, (∀ s ∈ l, ρ (.tmp s) = a0.tmps.getD s undef) → OldsOK a0 ρ l
  | [], _ => trivial
  | s :: r, h => ⟨h s List.mem_cons_self, oldsOK_of (fun k hk => h k (List.mem_cons_of_mem _ hk))⟩
/-- What is left behind an operation; a word of its own, that the walk's simp leaves alone. -/
def Post (I : Nat → World → Prop) (R : World → World → Prop) (V : Nat → Value → World → Prop) (j t : Nat) (W : World) (v : Value) (w2 : World) : Prop := I (t + 1) w2 ∧ R W w2 ∧ V j v w2
theorem post_mk {I : Nat → World → Prop} {R : World → World → Prop} {V : Nat → Value → World → Prop} {j t : Nat} {W : World} {v : Value} {w2 : World} (h1 : I (t + 1) w2) (h2 : R W w2) (h3 : V j v w2) : Post I R V j t W v w2 := ⟨h1, h2, h3⟩
/-- An operation's obligation, in the form for the walk: ns what it waits for, olds the slots of before that it reads. -/
theorem stepOK_of {j : Nat} {o : Oper} (ns : List Nat) (olds : List Tmp) (hns : needs o = ns) (hol : (olds.all fun s => oldB ops j s) = true)
    (h : ∀ (t : Nat) (ρ : Operand → Value) (W : World), t < ops.size → (∀ v, ρ (.const v) = v) → (∀ f, ρ (.func f) = .func (.func f) #[] #[]) → NeedsOK ops V ρ W ns → OldsOK a0 ρ olds → I t W → OpOK P (Post I R V j t W) ((execOp ρ o).run P W)) (hg : o.guard = none) : StepOK P ops V I R a0 j o := by
  intro t ρ W go ht hc hf _ ho hn hgo hI
  rw [hg] at hgo
  simp only at hgo
  rw [hgo, if_pos rfl]
  subst hns
  exact h t ρ W ht hc hf (needsOK_of hn) (oldsOK_of (fun s hs => ho s (List.all_eq_true.1 hol s hs))) hI
end
theorem blk_below {W W2 : World} {b : Nat} {o : Obj} (h : W.heap[b]? = some o) (hb : Below W.heap.size W W2) : W2.heap[b]? = some o := by
  rw [hb.block b (Array.getElem?_eq_some_iff.1 h).1]
  exact h
theorem blk_set {W : World} {b b' : Nat} {o : Obj} (h : W.heap[b]? = some o) (j : Nat) (u : Value) (hne : b ≠ b') : (W.setCell ⟨b', j, none⟩ u).heap[b]? = some o := by
  rw [Below.heap_setCell W ⟨b', j, none⟩ u b hne]
  exact h
theorem blk_put {W : World} {b : Nat} {cs : Array Value} {T : TypeId} {fr : Nat × Nat} (h : W.heap[b]? = some (.cells cs T fr)) (j : Nat) (u : Value) : (W.setCell ⟨b, j, none⟩ u).heap[b]? = some (.cells (cs.setIfInBounds j u) T fr) := by
  have hlt := (Array.getElem?_eq_some_iff.1 h).1
  simp [World.setCell, h, hlt, Array.getElem_modify]
  rw [Array.getElem?_eq_getElem hlt] at h
  injection h with h
  rw [h]
theorem below_then {B : Nat} {w W W2 : World} (h : Below B w W) (hs : B ≤ W.heap.size) (hb : Below W.heap.size W W2) : Below B w W2 := h.trans (hb.mono hs)
theorem heap_top (W : World) (o : Obj) {k : Nat} (h : k = W.heap.size) : (W.alloc o).heap[k]? = some o := by
  subst h
  show (W.heap.push o)[W.heap.size]? = some o
  simp
theorem heap_up {W : World} {b : Nat} {x : Obj} (h : W.heap[b]? = some x) (o : Obj) : (W.alloc o).heap[b]? = some x := by
  rw [Below.heap_alloc W o b (Array.getElem?_eq_some_iff.1 h).1]
  exact h
theorem arr_len5 : ∀ (cs : Array Value), cs.size = 5 → ∃ a b c d e, cs = #[a, b, c, d, e]
  | ⟨[a, b, c, d, e]⟩, _ => ⟨a, b, c, d, e, rfl⟩
def StableV (R : World → World → Prop) (p : Value → World → Prop) : Prop := ∀ v W1 W2, R W1 W2 → p v W1 → p v W2
theorem isV_st {R : World → World → Prop} {x : Value} : StableV R (IsV x) := fun _ _ _ _ h => h
def StableAll (R : World → World → Prop) : List (Value → World → Prop) → Prop
  | [] => True
  | p :: r => StableV R p ∧ StableAll R r
theorem vv_stable {R : World → World → Prop} : ∀ {l : List (Value → World → Prop)}, StableAll R l → ∀ i v W1 W2, R W1 W2 → VV l i v W1 → VV l i v W2
  | [], _, i, v, W1, W2, _, _ => by simp [VV]
  | p :: r, h, 0, v, W1, W2, hR, hV => h.1 v W1 W2 hR hV
  | p :: r, h, i + 1, v, W1, W2, hR, hV => by
    have := vv_stable h.2 i v W1 W2 hR
    simp only [VV, List.getElem?_cons_succ] at this hV ⊢
    exact this hV
section
variable {P : Program} {ops : Array Oper} {V : Nat → Value → World → Prop} {I : Nat → World → Prop} {R : World → World → Prop} {a0 : Act}
/-- An operation with a guard that lets it come up. -/
theorem stepOK_g {j : Nat} {o : Oper} {g : Nat} {b : Bool} (ns : List Nat) (olds : List Tmp) (hns : needs o = ns) (hol : (olds.all fun s => oldB ops j s) = true)
    (h : ∀ (t : Nat) (ρ : Operand → Value) (W : World), t < ops.size → (∀ v, ρ (.const v) = v) → (∀ f, ρ (.func f) = .func (.func f) #[] #[]) → NeedsOK ops V ρ W ns → OldsOK a0 ρ olds → I t W → OpOK P (Post I R V j t W) ((execOp ρ o).run P W)) (hg : o.guard = some (g, b)) (hb : ∀ v W, V g v W → v = .bool b) : StepOK P ops V I R a0 j o := by
  intro t ρ W go ht hc hf _ ho hn hgo hI
  rw [hg] at hgo
  simp only at hgo
  obtain ⟨v, hv, hgo⟩ := hgo
  rw [hgo.2 (hb v W hv), if_pos rfl]
  subst hns
  exact h t ρ W ht hc hf (needsOK_of hn) (oldsOK_of (fun s hs => ho s (List.all_eq_true.1 hol s hs))) hI
/-- An operation with a guard that passes it over. -/
theorem stepOK_skip {j : Nat} {o : Oper} {g : Nat} {b : Bool} (hg : o.guard = some (g, b)) (hb : ∀ v W, V g v W → v = .bool (!b)) (h : ∀ t W, I t W → I (t + 1) W ∧ R W W ∧ V j undef W) : StepOK P ops V I R a0 j o := by
  intro t ρ W go ht hc hf _ ho hn hgo hI
  rw [hg] at hgo
  simp only at hgo
  obtain ⟨v, hv, hgo⟩ := hgo
  have hv := hb v W hv
  subst hv
  have : go = false := by
    cases go
    · rfl
    · have := hgo.1 rfl
      injection this with this
      cases b <;> cases this
  subst this
  exact h t W hI
end
/-- What has come, and blocks of one's own. -/
def OwnL (w : World) (L : List (Nat × Obj)) (W : World) : Prop := Below w.heap.size w W ∧ ∀ p ∈ L, W.heap[p.1]? = some p.2
theorem OwnL.below {w W W2 : World} {L : List (Nat × Obj)} (h : OwnL w L W) (hb : Below W.heap.size W W2) : OwnL w L W2 := ⟨below_then h.1 h.1.size hb, fun p hp => blk_below (h.2 p hp) hb⟩
theorem OwnL.drew {w W : World} {L : List (Nat × Obj)} (h : OwnL w L W) : OwnL w L W.drew := ⟨h.1.drew, h.2⟩
theorem OwnL.drewN {w W : World} {L : List (Nat × Obj)} (h : OwnL w L W) (n : Nat) : OwnL w L (W.drewN n) := ⟨below_drewN' h.1 n, h.2⟩
theorem OwnL.alloc {w W : World} {L : List (Nat × Obj)} (h : OwnL w L W) (o : Obj) : OwnL w L (W.alloc o) := h.below ((Below.refl _ _).alloc (Nat.le_refl _) o)
theorem OwnL.put {w W : World} {L : List (Nat × Obj)} (h : OwnL w L W) (o : Obj) : OwnL w ((W.heap.size, o) :: L) (W.alloc o) :=
  ⟨(h.alloc o).1, fun p hp => by
    rcases List.mem_cons.1 hp with rfl | hp
    · exact heap_top _ _ rfl
    · exact heap_up (h.2 p hp) o⟩
theorem OwnL.nil (w : World) : OwnL w [] w := ⟨Below.refl _ _, fun p hp => by cases hp⟩
theorem OwnL.at0 {w W : World} {a : Nat × Obj} {r : List (Nat × Obj)} (h : OwnL w (a :: r) W) : W.heap[a.1]? = some a.2 := h.2 a List.mem_cons_self
theorem OwnL.tl {w W : World} {a : Nat × Obj} {r : List (Nat × Obj)} (h : OwnL w (a :: r) W) : OwnL w r W := ⟨h.1, fun p hp => h.2 p (List.mem_cons_of_mem _ hp)⟩
theorem OwnL.g0 {w W : World} {b : Nat} {o : Obj} {r : List (Nat × Obj)} (h : OwnL w ((b, o) :: r) W) : W.heap[b]? = some o := h.at0
theorem OwnL.g1 {w W : World} {x : Nat × Obj} {b : Nat} {o : Obj} {r : List (Nat × Obj)} (h : OwnL w (x :: (b, o) :: r) W) : W.heap[b]? = some o := h.tl.at0
theorem OwnL.g2 {w W : World} {x y : Nat × Obj} {b : Nat} {o : Obj} {r : List (Nat × Obj)} (h : OwnL w (x :: y :: (b, o) :: r) W) : W.heap[b]? = some o := h.tl.tl.at0
theorem OwnL.g3 {w W : World} {x y z : Nat × Obj} {b : Nat} {o : Obj} {r : List (Nat × Obj)} (h : OwnL w (x :: y :: z :: (b, o) :: r) W) : W.heap[b]? = some o := h.tl.tl.tl.at0
theorem OwnL.g4 {w W : World} {x y z u : Nat × Obj} {b : Nat} {o : Obj} {r : List (Nat × Obj)} (h : OwnL w (x :: y :: z :: u :: (b, o) :: r) W) : W.heap[b]? = some o := h.tl.tl.tl.tl.at0
end Go.Proofs.Ytkphkkfgphhjcaa
