/- A region that draws its order, an operation of which may panic. -/
import Derived.Test.YtkphkkfgphhjcaaR0
namespace Go.Proofs.Ytkphkkfgphhjcaa
open Go.RowKit
set_option linter.unusedVariables false
set_option linter.unusedSimpArgs false

def EndPP (K : Value → World → Prop) (PQ : List PanicEntry → World → Prop) (e : Ending) (w : World) : Prop := (∃ v, e = .returned v ∧ K v w) ∨ ∃ c, e = .panicked c ∧ PQ c w
/-- What an operation comes to: a value (undef of none), in a world, of which K holds; or a panic, of which PQ holds. -/
def OpOKP (P : Program) (PQ : List PanicEntry → World → Prop) (K : Value → World → Prop) : Result Next → Prop
  | .ok (.value v) w' => K v w'
  | .ok .skip w' => K undef w'
  | .ok (.enter f args) w' => Calls P f args w' (EndPP K PQ)
  | .halt (.panic v) w' => PQ [{ v, recovered := false }] w'
  | _ => False
@[go_sem] theorem opOKP_value (P : Program) (PQ : List PanicEntry → World → Prop) (K : Value → World → Prop) (v : Value) (w : World) : OpOKP P PQ K (.ok (.value v) w) = K v w := rfl
@[go_sem] theorem opOKP_skip (P : Program) (PQ : List PanicEntry → World → Prop) (K : Value → World → Prop) (w : World) : OpOKP P PQ K (.ok .skip w) = K undef w := rfl
@[go_sem] theorem opOKP_enter (P : Program) (PQ : List PanicEntry → World → Prop) (K : Value → World → Prop) (f : FuncId) (args : Array Value) (w : World) : OpOKP P PQ K (.ok (.enter f args) w) = Calls P f args w (EndPP K PQ) := rfl
@[go_sem] theorem opOKP_panic (P : Program) (PQ : List PanicEntry → World → Prop) (K : Value → World → Prop) (v : Value) (w : World) : OpOKP P PQ K (.halt (.panic v) w) = PQ [{ v, recovered := false }] w := rfl
theorem wp_of_okP {P : Program} {o : Oper} {a : Act} {w : World} {K : Value → World → Prop} {PQ : List PanicEntry → World → Prop} {next : Act → World → Prop} {Q : Exit → Act → World → Prop} (h : OpOKP P PQ K ((execOp a.eval o).run P w)) (hn : ∀ v w', K v w' → next (a.put o.dst v) w') (hp : ∀ c w', PQ c w' → Q (.panic c) a w') : o.wp P a w next Q := by
  unfold Oper.wp
  generalize (execOp a.eval o).run P w = r at h
  cases r with
  | ok n w' =>
    cases n <;> simp only [OpOKP] at h <;> simp only [Oper.upon]
    case value v => exact hn _ _ h
    case skip => exact hn _ _ h
    case enter f args =>
      refine h.mono fun e w'' he => ?_
      rcases he with ⟨v, rfl, hk⟩ | ⟨c, rfl, hk⟩
      · exact hn _ _ hk
      · exact hp _ _ hk
  | halt x w' =>
    cases x <;> simp only [OpOKP] at h
    exact hp _ _ h
section
variable (P : Program) (PQ : List PanicEntry → World → Prop) (ops : Array Oper) (V : Nat → Value → World → Prop) (I : Nat → World → Prop) (R : World → World → Prop) (a0 : Act)
/-- What is to be shown of operation j. -/
def StepOKP (j : Nat) (o : Oper) : Prop :=
  ∀ (t : Nat) (ρ : Operand → Value) (w : World) (go : Bool), t < ops.size → (∀ v, ρ (.const v) = v) → (∀ f, ρ (.func f) = .func (.func f) #[] #[]) → (∀ g, ρ (.global g) = .pointer (some ⟨g, 0, none⟩)) →
    (∀ s, oldB ops j s = true → ρ (.tmp s) = a0.tmps.getD s undef) → (∀ i ∈ needs o, ∃ v, V i v w ∧ ∀ d, dstOf ops i = some d → ρ (.tmp d) = v) →
    (match o.guard with | none => go = true | some (g, b) => ∃ v, V g v w ∧ (go = true ↔ v = .bool b)) → I t w →
    if go = true then OpOKP P PQ (fun v w2 => I (t + 1) w2 ∧ R w w2 ∧ V j v w2) ((execOp ρ o).run P w) else I (t + 1) w ∧ R w w ∧ V j undef w
def StepsOKP : Nat → List Oper → Prop
  | _, [] => True
  | j, o :: r => StepOKP P PQ ops V I R a0 j o ∧ StepsOKP (j + 1) r
end
section
variable {P : Program} {PQ : List PanicEntry → World → Prop} {ops : Array Oper} {V : Nat → Value → World → Prop} {I : Nat → World → Prop} {R : World → World → Prop} {a0 : Act}
theorem stepsOKP_at : ∀ {l : List Oper} {k : Nat}, StepsOKP P PQ ops V I R a0 k l → ∀ i o, l[i]? = some o → StepOKP P PQ ops V I R a0 (k + i) o
  | [], _, _, i, o, h => by simp at h
  | x :: r, k, h, 0, o, ho => by
    simp at ho
    subst ho
    exact h.1
  | x :: r, k, h, i + 1, o, ho => by
    have := stepsOKP_at h.2 i o (by simpa using ho)
    rwa [show k + 1 + i = k + (i + 1) by omega] at this

theorem wpAny_invP {Q : Exit → Act → World → Prop} (hst : ∀ i v w1 w2, R w1 w2 → V i v w1 → V i v w2) (hu : uniqD ops = true) (hb : belowB ops = true) (hsz : ∀ i d, dstOf ops i = some d → d < a0.tmps.size)
    (hgd : ∀ (j : Nat) (o : Oper) (g : Nat) (b : Bool), ops[j]? = some o → o.guard = some (g, b) → g ∈ needs o ∧ (dstOf ops g).isSome = true)
    (hp : ∀ c a w, a.defers = a0.defers → PQ c w → Q (.panic c) a w)
    (hsteps : StepsOKP P PQ ops V I R a0 0 ops.toList)
    (fin : ∀ listed a w, RInv ops V I a0 listed ops.size a w → (∀ i, i < ops.size → listed.getD i false = true) → Q .normal a w) :
    ∀ (fuel t : Nat) (listed : Array Bool) (a : Act) (w : World), fuel + t = ops.size → listed.toList.count true = t → RInv ops V I a0 listed t a w → wpAny P .any ops Q fuel listed a w := by
  intro fuel
  induction fuel with
  | zero =>
    intro t listed a w ht hc h
    have hn := ready_nil_of_count (ops := ops) h.size (by omega)
    obtain rfl : t = ops.size := by omega
    exact ⟨hn, fin _ _ _ h (all_listed hb h.size hn)⟩
  | succ fuel ih =>
    intro t listed a w ht hc h
    refine ⟨fun hn => ?_, fun j hj => ?_⟩
    · exfalso
      have hal := all_listed hb h.size hn
      have : listed.toList.count true = ops.size := by
        rw [← h.size, ← Array.length_toList]
        refine List.count_eq_length.2 (fun b hb' => ?_)
        obtain ⟨i, hi, rfl⟩ := List.getElem_of_mem hb'
        have := hal i (by simpa [h.size] using hi)
        rw [Array.getD_eq_getD_getElem?, Array.getElem?_eq_getElem (by simpa using hi)] at this
        simpa using this.symm
      omega
    · obtain ⟨o, ho, hl, hn⟩ := ready_spec hj
      have hs := stepsOKP_at hsteps j o (by rw [Array.getElem?_toList]; exact ho)
      rw [Nat.zero_add] at hs
      unfold wpOp
      simp only [ho]
      have hnj : ¬ listed.getD j false = true := by
        intro h'
        have hlt : j < listed.size := by
          rcases Nat.lt_or_ge j listed.size with h | h
          · exact h
          · simp [Array.getD_eq_getD_getElem?, Array.getElem?_eq_none h] at hl
        rw [Array.getD_eq_getD_getElem?, Array.getElem?_eq_getElem hlt] at hl h'
        simp_all
      have hs2 := hs t a.eval w (Region.wanted o (yielded ops a.tmps)) (by omega) (fun _ => rfl) (fun _ => rfl) (fun _ => rfl)
        (fun s hs => by
          refine h.old s (fun i hi hd => ?_)
          have hi' : i < ops.size := by
            rcases Nat.lt_or_ge i ops.size with h | h
            · exact h
            · simp [dstOf, Array.getElem?_eq_none h] at hd
          have := List.all_eq_true.1 hs i (List.mem_range.2 hi')
          rw [Bool.or_eq_true, Bool.or_eq_true] at this
          rcases this with (this | this) | this
          · simp [hd] at this
          · rw [beq_iff_eq] at this
            subst this
            exact hnj hi
          · exact hnj (reach_listed h.closed j _ _ hi this))
        (fun i hi => h.vals i (hn i hi))
        (by
          cases hg : o.guard with
          | none => simp [Region.wanted, hg]
          | some p =>
            obtain ⟨g, b⟩ := p
            obtain ⟨g1, g2⟩ := hgd j o g b ho hg
            obtain ⟨d, hd⟩ := Option.isSome_iff_exists.1 g2
            obtain ⟨v, hv1, hv2⟩ := h.vals g (hn g g1)
            have := wanted_of (ops := ops) (o := o) (a := a) (fun _ => v) (fun g' b' hgb => by
              rw [hg] at hgb
              simp only [Option.some.injEq, Prod.mk.injEq] at hgb
              obtain ⟨rfl, rfl⟩ := hgb
              exact ⟨d, hd, by rw [h.tsize]; exact hsz _ _ hd, hv2 d hd⟩)
            simp only [hg] at this ⊢
            exact ⟨v, hv1, this⟩)
        h.inv
      have next : ∀ v w2, I (t + 1) w2 ∧ R w w2 ∧ V j v w2 → wpAny P .any ops Q fuel (listed.setIfInBounds j true) (a.put o.dst v) w2 := fun v w2 hk =>
        ih (t + 1) _ _ _ (by omega) (by rw [count_set hl]; omega) (h.step hst hu hsz ho hl hn hk.1 hk.2.1 hk.2.2)
      cases hw : Region.wanted o (yielded ops a.tmps) with
      | true =>
        rw [hw] at hs2
        simp only [if_true] at hs2 ⊢
        exact .inl (wp_of_okP hs2 next (fun c w' hc => hp c _ w' h.defers hc))
      | false =>
        rw [hw] at hs2
        simp only [Bool.false_eq_true, if_false] at hs2 ⊢
        exact next _ _ hs2

theorem region_invP {id : Nat} {Q : Exit → Act → World → Prop} {w : World} (V : Nat → Value → World → Prop) (I : Nat → World → Prop) (R : World → World → Prop) (hm : P.follows .mixedOrders = true) (n : Nat) (hn : a0.tmps.size = n) (hok : okRegion ops n = true)
    (hst : ∀ i v w1 w2, R w1 w2 → V i v w1 → V i v w2) (h0 : I 0 w.drew) (hp : ∀ c a w, a.defers = a0.defers → PQ c w → Q (.panic c) a w) (hsteps : StepsOKP P PQ ops V I R a0 0 ops.toList)
    (fin : ∀ (vs : List Value) (w' : World), vs.length = ops.size → I ops.size w' → (∀ i v, vs[i]? = some v → V i v w') → Q .normal (putAll ops.toList vs a0) w') : (Code.region id ops true).wp P Q a0 w := by
  subst hn
  unfold okRegion at hok
  rw [Bool.and_eq_true, Bool.and_eq_true] at hok
  obtain ⟨⟨hu, hb⟩, hrest⟩ := hok
  have hat : ∀ (j : Nat) (o : Oper), ops[j]? = some o → ((match o.dst with | some d => decide (d < a0.tmps.size) | none => true) && (match o.guard with | some (g, _) => (needs o).contains g && (dstOf ops g).isSome | none => true)) = true := by
    intro j o ho
    have hj : j < ops.size := (Array.getElem?_eq_some_iff.1 ho).1
    have := List.all_eq_true.1 hrest j (List.mem_range.2 hj)
    rwa [ho] at this
  have hsz : ∀ i d, dstOf ops i = some d → d < a0.tmps.size := by
    intro i d hd
    cases ho : ops[i]? with
    | none => simp [dstOf, ho] at hd
    | some o =>
      have h1 := hat i o ho
      have h2 : o.dst = some d := by simpa [dstOf, ho] using hd
      rw [h2, Bool.and_eq_true] at h1
      simpa using h1.1
  refine wp_region_any hm (wpAny_invP hst hu hb hsz (fun j o g b ho hg => ?_) hp hsteps (fun listed a w' h hall => ?_) ops.size 0 _ _ _ (by omega) (by simp [List.count_replicate]) ⟨h0, by simp, fun i hi => ?_, fun d _ => rfl, rfl, rfl, fun i o hi => ?_⟩)
  · have h1 := hat j o ho
    rw [Bool.and_eq_true, hg] at h1
    have h2 := h1.2
    simp only [Bool.and_eq_true, List.contains_iff_mem] at h2
    exact h2
  · have hv : ∀ i : Fin ops.size, ∃ v, V i v w' ∧ ∀ d, dstOf ops i = some d → a.tmps.getD d undef = v := fun i => h.vals i (hall i i.2)
    obtain ⟨f, hf⟩ := Classical.axiomOfChoice hv
    have hlen : (List.ofFn f).length = ops.size := by simp
    have hget : ∀ i v, (List.ofFn f)[i]? = some v → ∃ hi : i < ops.size, v = f ⟨i, hi⟩ := by
      intro i v hi
      have hlt : i < (List.ofFn f).length := (List.getElem?_eq_some_iff.1 hi).1
      refine ⟨by simpa using hlt, ?_⟩
      rw [List.getElem?_eq_getElem hlt] at hi
      simpa using hi.symm
    have ha : a = putAll ops.toList (List.ofFn f) a0 := by
      have h1 : a.tmps = (putAll ops.toList (List.ofFn f) a0).tmps := by
        refine Array.ext (by rw [putAll_size]; exact h.tsize) (fun d h1 h2 => ?_)
        have h3 : a.tmps.getD d undef = (putAll ops.toList (List.ofFn f) a0).tmps.getD d undef := by
          by_cases hex : ∃ i, dstOf ops i = some d
          · obtain ⟨i, hi⟩ := hex
            have hlt : i < ops.size := by
              rcases Nat.lt_or_ge i ops.size with h | h
              · exact h
              · simp [dstOf, Array.getElem?_eq_none h] at hi
            rw [(hf ⟨i, hlt⟩).2 d hi, putAll_new ops.toList (List.ofFn f) a0 d i (f ⟨i, hlt⟩) (hsz i d hi) (by simp) (by rw [Array.getElem?_toList]; exact hi) (by simp [List.getElem?_ofFn, hlt])]
            intro j hj e
            rw [Array.getElem?_toList] at e
            exact hj (uniq_eq hu e hi)
          · rw [putAll_old ops.toList (List.ofFn f) a0 d (fun i o ho e => hex ⟨i, by rw [Array.getElem?_toList] at ho; simp [dstOf, ho, e]⟩)]
            exact h.old d (fun i _ e => hex ⟨i, e⟩)
        rw [Array.getD_eq_getD_getElem?, Array.getD_eq_getD_getElem?, Array.getElem?_eq_getElem h1, Array.getElem?_eq_getElem h2] at h3
        simpa using h3
      have h2 : a.defers = (putAll ops.toList (List.ofFn f) a0).defers := by rw [putAll_defers]; exact h.defers
      cases a
      cases hp : putAll ops.toList (List.ofFn f) a0
      simp_all
    rw [ha]
    refine fin _ w' hlen h.inv (fun i v hi => ?_)
    obtain ⟨hlt, rfl⟩ := hget i v hi
    exact (hf ⟨i, hlt⟩).1
  · simp [Array.getD_eq_getD_getElem?, Array.getElem?_replicate] at hi
    split at hi <;> simp at hi
  · simp [Array.getD_eq_getD_getElem?, Array.getElem?_replicate] at hi
    split at hi <;> simp at hi
end
section
variable {P : Program} {PQ : List PanicEntry → World → Prop} {ops : Array Oper} {V : Nat → Value → World → Prop} {I : Nat → World → Prop} {R : World → World → Prop} {a0 : Act}
/-- An operation's obligation, in the form for the walk: ns what it waits for, olds the slots of before that it reads. -/
theorem stepOKP_of {j : Nat} {o : Oper} (ns : List Nat) (olds : List Tmp) (hns : needs o = ns) (hol : (olds.all fun s => oldB ops j s) = true)
    (h : ∀ (t : Nat) (ρ : Operand → Value) (W : World), t < ops.size → (∀ v, ρ (.const v) = v) → (∀ f, ρ (.func f) = .func (.func f) #[] #[]) → NeedsOK ops V ρ W ns → OldsOK a0 ρ olds → I t W → OpOKP P PQ (Post I R V j t W) ((execOp ρ o).run P W)) (hg : o.guard = none) : StepOKP P PQ ops V I R a0 j o := by
  intro t ρ W go ht hc hf _ ho hn hgo hI
  rw [hg] at hgo
  simp only at hgo
  rw [hgo, if_pos rfl]
  subst hns
  exact h t ρ W ht hc hf (needsOK_of hn) (oldsOK_of (fun s hs => ho s (List.all_eq_true.1 hol s hs))) hI
/-- An operation with a guard that lets it come up. -/
theorem stepOKP_g {j : Nat} {o : Oper} {g : Nat} {b : Bool} (ns : List Nat) (olds : List Tmp) (hns : needs o = ns) (hol : (olds.all fun s => oldB ops j s) = true)
    (h : ∀ (t : Nat) (ρ : Operand → Value) (W : World), t < ops.size → (∀ v, ρ (.const v) = v) → (∀ f, ρ (.func f) = .func (.func f) #[] #[]) → NeedsOK ops V ρ W ns → OldsOK a0 ρ olds → I t W → OpOKP P PQ (Post I R V j t W) ((execOp ρ o).run P W)) (hg : o.guard = some (g, b)) (hb : ∀ v W, V g v W → v = .bool b) : StepOKP P PQ ops V I R a0 j o := by
  intro t ρ W go ht hc hf _ ho hn hgo hI
  rw [hg] at hgo
  simp only at hgo
  obtain ⟨v, hv, hgo⟩ := hgo
  rw [hgo.2 (hb v W hv), if_pos rfl]
  subst hns
  exact h t ρ W ht hc hf (needsOK_of hn) (oldsOK_of (fun s hs => ho s (List.all_eq_true.1 hol s hs))) hI
/-- An operation with a guard that passes it over. -/
theorem stepOKP_skip {j : Nat} {o : Oper} {g : Nat} {b : Bool} (hg : o.guard = some (g, b)) (hb : ∀ v W, V g v W → v = .bool (!b)) (h : ∀ t W, I t W → I (t + 1) W ∧ R W W ∧ V j undef W) : StepOKP P PQ ops V I R a0 j o := by
  intro t ρ W go ht hc hf _ ho hn hgo hI
  rw [hg] at hgo
  simp only at hgo
  obtain ⟨v, hv, hgo⟩ := hgo
  have hv := hb v W hv
  subst hv
  have : go = false := by
    cases go
    · rfl
    · have := hgo.1 rfl
      injection this with this
      cases b <;> cases this
  subst this
  exact h t W hI
end
end Go.Proofs.Ytkphkkfgphhjcaa
