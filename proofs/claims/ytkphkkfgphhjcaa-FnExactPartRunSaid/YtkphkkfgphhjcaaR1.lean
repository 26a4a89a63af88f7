/- A region that draws its order, where what is known of an operation may speak of the slots that it waits for. -/
import Derived.Test.YtkphkkfgphhjcaaR0
namespace Go.Proofs.Ytkphkkfgphhjcaa
open Go.RowKit
set_option linter.unusedVariables false
set_option linter.unusedSimpArgs false

section
variable (P : Program) (ops : Array Oper) (V : Nat → (Tmp → Value) → Value → World → Prop) (I : Nat → World → Prop) (R : World → World → Prop) (a0 : Act)
/-- What is to be shown of operation j. -/
def StepOK2 (j : Nat) (o : Oper) : Prop :=
  ∀ (t : Nat) (ρ : Operand → Value) (w : World) (go : Bool), t < ops.size → (∀ v, ρ (.const v) = v) → (∀ f, ρ (.func f) = .func (.func f) #[] #[]) → (∀ g, ρ (.global g) = .pointer (some ⟨g, 0, none⟩)) →
    (∀ s, oldB ops j s = true → ρ (.tmp s) = a0.tmps.getD s undef) → (∀ i ∈ needs o, ∃ v, V i (fun d => ρ (.tmp d)) v w ∧ ∀ d, dstOf ops i = some d → ρ (.tmp d) = v) →
    (match o.guard with | none => go = true | some (g, b) => ∃ v, V g (fun d => ρ (.tmp d)) v w ∧ (go = true ↔ v = .bool b)) → I t w →
    if go = true then OpOK P (fun v w2 => I (t + 1) w2 ∧ R w w2 ∧ V j (fun d => ρ (.tmp d)) v w2) ((execOp ρ o).run P w) else I (t + 1) w ∧ R w w ∧ V j (fun d => ρ (.tmp d)) undef w
def StepsOK2 : Nat → List Oper → Prop
  | _, [] => True
  | j, o :: r => StepOK2 P ops V I R a0 j o ∧ StepsOK2 (j + 1) r
end
section
variable {P : Program} {ops : Array Oper} {V : Nat → (Tmp → Value) → Value → World → Prop} {I : Nat → World → Prop} {R : World → World → Prop} {a0 : Act}
theorem stepsOK2_at : ∀ {l : List Oper} {k : Nat}, StepsOK2 P ops V I R a0 k l → ∀ i o, l[i]? = some o → StepOK2 P ops V I R a0 (k + i) o
  | [], _, _, i, o, h => by simp at h
  | x :: r, k, h, 0, o, ho => by
    simp at ho
    subst ho
    exact h.1
  | x :: r, k, h, i + 1, o, ho => by
    have := stepsOK2_at h.2 i o (by simpa using ho)
    rwa [show k + 1 + i = k + (i + 1) by omega] at this

structure RInv2 (ops : Array Oper) (V : Nat → (Tmp → Value) → Value → World → Prop) (I : Nat → World → Prop) (a0 : Act) (listed : Array Bool) (t : Nat) (a : Act) (w : World) : Prop where
  inv : I t w
  size : listed.size = ops.size
  vals : ∀ i, listed.getD i false = true → ∃ v, V i (fun d => a.tmps.getD d undef) v w ∧ ∀ d, dstOf ops i = some d → a.tmps.getD d undef = v
  old : ∀ d, (∀ i, listed.getD i false = true → dstOf ops i ≠ some d) → a.tmps.getD d undef = a0.tmps.getD d undef
  tsize : a.tmps.size = a0.tmps.size
  defers : a.defers = a0.defers
  closed : ∀ i o, listed.getD i false = true → ops[i]? = some o → ∀ k ∈ needs o, listed.getD k false = true
theorem RInv2.step (hst : ∀ i σ v w1 w2, R w1 w2 → V i σ v w1 → V i σ v w2) (hloc : ∀ i o, ops[i]? = some o → ∀ σ σ' : Tmp → Value, (∀ k ∈ needs o, ∀ d, dstOf ops k = some d → σ d = σ' d) → ∀ v w, V i σ v w → V i σ' v w) (hu : uniqD ops = true) (hsz : ∀ i d, dstOf ops i = some d → d < a0.tmps.size)
    {listed : Array Bool} {t : Nat} {a : Act} {w w2 : World} {j : Nat} {o : Oper} {v : Value} (h : RInv2 ops V I a0 listed t a w) (hlt : ∀ i, listed.getD i false = true → i < ops.size) (ho : ops[j]? = some o) (hl : listed.getD j true = false) (hn : ∀ k ∈ needs o, listed.getD k false = true)
    (hI : I (t + 1) w2) (hR : R w w2) (hV : V j (fun d => a.tmps.getD d undef) v w2) : RInv2 ops V I a0 (listed.setIfInBounds j true) (t + 1) (a.put o.dst v) w2 := by
  have hjs : j < listed.size := by
    rcases Nat.lt_or_ge j listed.size with h | h
    · exact h
    · simp [Array.getD_eq_getD_getElem?, Array.getElem?_eq_none h] at hl
  have hdj : dstOf ops j = o.dst := by simp [dstOf, ho]
  have hlj : ∀ i, (listed.setIfInBounds j true).getD i false = true ↔ i = j ∨ listed.getD i false = true := by
    intro i
    by_cases e : j = i
    · subst e
      simp [Array.getD_eq_getD_getElem?, Array.getElem?_setIfInBounds, hjs]
    · simp [Array.getD_eq_getD_getElem?, Array.getElem?_setIfInBounds, e, show ¬ i = j from fun h => e h.symm]
  have hnl : ¬ listed.getD j false = true := by
    intro h'
    rw [Array.getD_eq_getD_getElem?, Array.getElem?_eq_getElem hjs] at hl h'
    simp_all
  have hput : ∀ k, listed.getD k false = true → ∀ d, dstOf ops k = some d → a.tmps.getD d undef = (a.put o.dst v).tmps.getD d undef := fun k hk d hd => by
    rw [getD_put _ _ _ _ (fun e => ?_)]
    have := uniq_eq hu hd (hdj.trans e)
    subst this
    exact hnl hk
  refine ⟨hI, by simp [h.size], ?_, ?_, by rw [put_size]; exact h.tsize, by rw [put_defers]; exact h.defers, ?_⟩
  · intro i hi
    rcases (hlj i).1 hi with rfl | hi'
    · refine ⟨v, hloc _ o ho _ _ (fun k hk d hd => hput k (hn k hk) d hd) _ _ hV, fun d hd => ?_⟩
      rw [hdj] at hd
      rw [hd, getD_put_self _ _ _ (by rw [h.tsize]; exact hsz i d (by rw [hdj, hd]))]
    · obtain ⟨u, hu1, hu2⟩ := h.vals i hi'
      obtain ⟨o', ho'⟩ : ∃ o', ops[i]? = some o' := ⟨_, Array.getElem?_eq_getElem (hlt i hi')⟩
      refine ⟨u, hloc _ o' ho' _ _ (fun k hk d hd => hput k (h.closed i o' hi' ho' k hk) d hd) _ _ (hst _ _ _ _ _ hR hu1), fun d hd => ?_⟩
      rw [getD_put _ _ _ _ (fun e => ?_), hu2 d hd]
      have := uniq_eq hu hd (hdj.trans e)
      subst this
      exact hnl hi'
  · intro d hd
    rw [getD_put _ _ _ _ (fun e => hd j ((hlj j).2 (.inl rfl)) (hdj.trans e))]
    exact h.old d (fun i hi => hd i ((hlj i).2 (.inr hi)))
  · intro i o' hi ho' k hk
    rcases (hlj i).1 hi with rfl | hi'
    · rw [ho] at ho'
      injection ho' with ho'
      subst ho'
      exact (hlj k).2 (.inr (hn k hk))
    · exact (hlj k).2 (.inr (h.closed i o' hi' ho' k hk))
theorem lt_of_listed {listed : Array Bool} {n i : Nat} (hs : listed.size = n) (h : listed.getD i false = true) : i < n := by
  rcases Nat.lt_or_ge i n with h' | h'
  · exact h'
  · rw [Array.getD_eq_getD_getElem?, Array.getElem?_eq_none (by omega)] at h
    cases h
theorem wpAny_inv2 {Q : Exit → Act → World → Prop} (hst : ∀ i σ v w1 w2, R w1 w2 → V i σ v w1 → V i σ v w2) (hloc : ∀ i o, ops[i]? = some o → ∀ σ σ' : Tmp → Value, (∀ k ∈ needs o, ∀ d, dstOf ops k = some d → σ d = σ' d) → ∀ v w, V i σ v w → V i σ' v w) (hu : uniqD ops = true) (hb : belowB ops = true) (hsz : ∀ i d, dstOf ops i = some d → d < a0.tmps.size)
    (hgd : ∀ (j : Nat) (o : Oper) (g : Nat) (b : Bool), ops[j]? = some o → o.guard = some (g, b) → g ∈ needs o ∧ (dstOf ops g).isSome = true)
    (hsteps : StepsOK2 P ops V I R a0 0 ops.toList)
    (fin : ∀ listed a w, RInv2 ops V I a0 listed ops.size a w → (∀ i, i < ops.size → listed.getD i false = true) → Q .normal a w) :
    ∀ (fuel t : Nat) (listed : Array Bool) (a : Act) (w : World), fuel + t = ops.size → listed.toList.count true = t → RInv2 ops V I a0 listed t a w → wpAny P .any ops Q fuel listed a w := by
  intro fuel
  induction fuel with
  | zero =>
    intro t listed a w ht hc h
    have hn := ready_nil_of_count (ops := ops) h.size (by omega)
    obtain rfl : t = ops.size := by omega
    exact ⟨hn, fin _ _ _ h (all_listed hb h.size hn)⟩
  | succ fuel ih =>
    intro t listed a w ht hc h
    refine ⟨fun hn => ?_, fun j hj => ?_⟩
    · exfalso
      have hal := all_listed hb h.size hn
      have : listed.toList.count true = ops.size := by
        rw [← h.size, ← Array.length_toList]
        refine List.count_eq_length.2 (fun b hb' => ?_)
        obtain ⟨i, hi, rfl⟩ := List.getElem_of_mem hb'
        have := hal i (by simpa [h.size] using hi)
        rw [Array.getD_eq_getD_getElem?, Array.getElem?_eq_getElem (by simpa using hi)] at this
        simpa using this.symm
      omega
    · obtain ⟨o, ho, hl, hn⟩ := ready_spec hj
      have hs := stepsOK2_at hsteps j o (by rw [Array.getElem?_toList]; exact ho)
      rw [Nat.zero_add] at hs
      unfold wpOp
      simp only [ho]
      have hnj : ¬ listed.getD j false = true := by
        intro h'
        have hlt : j < listed.size := by
          rcases Nat.lt_or_ge j listed.size with h | h
          · exact h
          · simp [Array.getD_eq_getD_getElem?, Array.getElem?_eq_none h] at hl
        rw [Array.getD_eq_getD_getElem?, Array.getElem?_eq_getElem hlt] at hl h'
        simp_all
      have hs2 := hs t a.eval w (Region.wanted o (yielded ops a.tmps)) (by omega) (fun _ => rfl) (fun _ => rfl) (fun _ => rfl)
        (fun s hs => by
          refine h.old s (fun i hi hd => ?_)
          have hi' : i < ops.size := by
            rcases Nat.lt_or_ge i ops.size with h | h
            · exact h
            · simp [dstOf, Array.getElem?_eq_none h] at hd
          have := List.all_eq_true.1 hs i (List.mem_range.2 hi')
          rw [Bool.or_eq_true, Bool.or_eq_true] at this
          rcases this with (this | this) | this
          · simp [hd] at this
          · rw [beq_iff_eq] at this
            subst this
            exact hnj hi
          · exact hnj (reach_listed h.closed j _ _ hi this))
        (fun i hi => h.vals i (hn i hi))
        (by
          cases hg : o.guard with
          | none => simp [Region.wanted, hg]
          | some p =>
            obtain ⟨g, b⟩ := p
            obtain ⟨g1, g2⟩ := hgd j o g b ho hg
            obtain ⟨d, hd⟩ := Option.isSome_iff_exists.1 g2
            obtain ⟨v, hv1, hv2⟩ := h.vals g (hn g g1)
            have := wanted_of (ops := ops) (o := o) (a := a) (fun _ => v) (fun g' b' hgb => by
              rw [hg] at hgb
              simp only [Option.some.injEq, Prod.mk.injEq] at hgb
              obtain ⟨rfl, rfl⟩ := hgb
              exact ⟨d, hd, by rw [h.tsize]; exact hsz _ _ hd, hv2 d hd⟩)
            simp only [hg] at this ⊢
            exact ⟨v, hv1, this⟩)
        h.inv
      have next : ∀ v w2, I (t + 1) w2 ∧ R w w2 ∧ V j (fun d => a.eval (.tmp d)) v w2 → wpAny P .any ops Q fuel (listed.setIfInBounds j true) (a.put o.dst v) w2 := fun v w2 hk =>
        ih (t + 1) _ _ _ (by omega) (by rw [count_set hl]; omega) (h.step hst hloc hu hsz (fun i hi => lt_of_listed h.size hi) ho hl hn hk.1 hk.2.1 hk.2.2)
      cases hw : Region.wanted o (yielded ops a.tmps) with
      | true =>
        rw [hw] at hs2
        simp only [if_true] at hs2 ⊢
        exact .inl (wp_of_ok hs2 next)
      | false =>
        rw [hw] at hs2
        simp only [Bool.false_eq_true, if_false] at hs2 ⊢
        exact next _ _ hs2
theorem region_inv2 {id : Nat} {Q : Exit → Act → World → Prop} {w : World} (V : Nat → (Tmp → Value) → Value → World → Prop) (I : Nat → World → Prop) (R : World → World → Prop) (hm : P.follows .mixedOrders = true) (n : Nat) (hn : a0.tmps.size = n) (hok : okRegion ops n = true)
    (hst : ∀ i σ v w1 w2, R w1 w2 → V i σ v w1 → V i σ v w2) (hloc : ∀ i o, ops[i]? = some o → ∀ σ σ' : Tmp → Value, (∀ k ∈ needs o, ∀ d, dstOf ops k = some d → σ d = σ' d) → ∀ v w, V i σ v w → V i σ' v w) (h0 : I 0 w.drew) (hsteps : StepsOK2 P ops V I R a0 0 ops.toList)
    (fin : ∀ (vs : List Value) (w' : World), vs.length = ops.size → I ops.size w' → (∀ i v, vs[i]? = some v → V i (fun d => (putAll ops.toList vs a0).tmps.getD d undef) v w') → Q .normal (putAll ops.toList vs a0) w') : (Code.region id ops true).wp P Q a0 w := by
  subst hn
  unfold okRegion at hok
  rw [Bool.and_eq_true, Bool.and_eq_true] at hok
  obtain ⟨⟨hu, hb⟩, hrest⟩ := hok
  have hat : ∀ (j : Nat) (o : Oper), ops[j]? = some o → ((match o.dst with | some d => decide (d < a0.tmps.size) | none => true) && (match o.guard with | some (g, _) => (needs o).contains g && (dstOf ops g).isSome | none => true)) = true := by
    intro j o ho
    have hj : j < ops.size := (Array.getElem?_eq_some_iff.1 ho).1
    have := List.all_eq_true.1 hrest j (List.mem_range.2 hj)
    rwa [ho] at this
  have hsz : ∀ i d, dstOf ops i = some d → d < a0.tmps.size := by
    intro i d hd
    cases ho : ops[i]? with
    | none => simp [dstOf, ho] at hd
    | some o =>
      have h1 := hat i o ho
      have h2 : o.dst = some d := by simpa [dstOf, ho] using hd
      rw [h2, Bool.and_eq_true] at h1
      simpa using h1.1
  refine wp_region_any hm (wpAny_inv2 hst hloc hu hb hsz (fun j o g b ho hg => ?_) hsteps (fun listed a w' h hall => ?_) ops.size 0 _ _ _ (by omega) (by simp [List.count_replicate]) ⟨h0, by simp, fun i hi => ?_, fun d _ => rfl, rfl, rfl, fun i o hi => ?_⟩)
  · have h1 := hat j o ho
    rw [Bool.and_eq_true, hg] at h1
    have h2 := h1.2
    simp only [Bool.and_eq_true, List.contains_iff_mem] at h2
    exact h2
  · have hv : ∀ i : Fin ops.size, ∃ v, V i (fun d => a.tmps.getD d undef) v w' ∧ ∀ d, dstOf ops i = some d → a.tmps.getD d undef = v := fun i => h.vals i (hall i i.2)
    obtain ⟨f, hf⟩ := Classical.axiomOfChoice hv
    have hlen : (List.ofFn f).length = ops.size := by simp
    have hget : ∀ i v, (List.ofFn f)[i]? = some v → ∃ hi : i < ops.size, v = f ⟨i, hi⟩ := by
      intro i v hi
      have hlt : i < (List.ofFn f).length := (List.getElem?_eq_some_iff.1 hi).1
      refine ⟨by simpa using hlt, ?_⟩
      rw [List.getElem?_eq_getElem hlt] at hi
      simpa using hi.symm
    have ha : a = putAll ops.toList (List.ofFn f) a0 := by
      have h1 : a.tmps = (putAll ops.toList (List.ofFn f) a0).tmps := by
        refine Array.ext (by rw [putAll_size]; exact h.tsize) (fun d h1 h2 => ?_)
        have h3 : a.tmps.getD d undef = (putAll ops.toList (List.ofFn f) a0).tmps.getD d undef := by
          by_cases hex : ∃ i, dstOf ops i = some d
          · obtain ⟨i, hi⟩ := hex
            have hlt : i < ops.size := by
              rcases Nat.lt_or_ge i ops.size with h | h
              · exact h
              · simp [dstOf, Array.getElem?_eq_none h] at hi
            rw [(hf ⟨i, hlt⟩).2 d hi, putAll_new ops.toList (List.ofFn f) a0 d i (f ⟨i, hlt⟩) (hsz i d hi) (by simp) (by rw [Array.getElem?_toList]; exact hi) (by simp [List.getElem?_ofFn, hlt])]
            intro j hj e
            rw [Array.getElem?_toList] at e
            exact hj (uniq_eq hu e hi)
          · rw [putAll_old ops.toList (List.ofFn f) a0 d (fun i o ho e => hex ⟨i, by rw [Array.getElem?_toList] at ho; simp [dstOf, ho, e]⟩)]
            exact h.old d (fun i _ e => hex ⟨i, e⟩)
        rw [Array.getD_eq_getD_getElem?, Array.getD_eq_getD_getElem?, Array.getElem?_eq_getElem h1, Array.getElem?_eq_getElem h2] at h3
        simpa using h3
      have h2 : a.defers = (putAll ops.toList (List.ofFn f) a0).defers := by rw [putAll_defers]; exact h.defers
      cases a
      cases hp : putAll ops.toList (List.ofFn f) a0
      simp_all
    have hgoal := fin _ w' hlen h.inv (fun i v hi => by
      obtain ⟨hlt, rfl⟩ := hget i v hi
      rw [← ha]
      exact (hf ⟨i, hlt⟩).1)
    rw [← ha] at hgoal
    exact hgoal
  · simp [Array.getD_eq_getD_getElem?, Array.getElem?_replicate] at hi
    split at hi <;> simp at hi
  · simp [Array.getD_eq_getD_getElem?, Array.getElem?_replicate] at hi
    split at hi <;> simp at hi
end
section
variable {P : Program} {ops : Array Oper} {V : Nat → (Tmp → Value) → Value → World → Prop} {I : Nat → World → Prop} {R : World → World → Prop} {a0 : Act}
def VV2 (l : List ((Tmp → Value) → Value → World → Prop)) (i : Nat) (σ : Tmp → Value) (v : Value) (W : World) : Prop := match l[i]? with
  | some p => p σ v W
  | none => True
def StableAll2 (R : World → World → Prop) : List ((Tmp → Value) → Value → World → Prop) → Prop
  | [] => True
  | p :: r => (∀ σ, StableV R (p σ)) ∧ StableAll2 R r
theorem vv_stable2 {R : World → World → Prop} : ∀ {l : List ((Tmp → Value) → Value → World → Prop)}, StableAll2 R l → ∀ i σ v W1 W2, R W1 W2 → VV2 l i σ v W1 → VV2 l i σ v W2
  | [], _, i, σ, v, W1, W2, _, _ => by simp [VV2]
  | p :: r, h, 0, σ, v, W1, W2, hR, hV => h.1 σ v W1 W2 hR hV
  | p :: r, h, i + 1, σ, v, W1, W2, hR, hV => by
    have := vv_stable2 h.2 i σ v W1 W2 hR
    simp only [VV2, List.getElem?_cons_succ] at this hV ⊢
    exact this hV
/-- What an entry may look at: the slots of what its operation waits for. -/
def LocE (ops : Array Oper) (i : Nat) (p : (Tmp → Value) → Value → World → Prop) : Prop := ∀ o, ops[i]? = some o → ∀ σ σ' : Tmp → Value, (∀ k ∈ needs o, ∀ d, dstOf ops k = some d → σ d = σ' d) → ∀ v w, p σ v w → p σ' v w
def LocAll (ops : Array Oper) : Nat → List ((Tmp → Value) → Value → World → Prop) → Prop
  | _, [] => True
  | i, p :: r => LocE ops i p ∧ LocAll ops (i + 1) r
theorem locE_c {ops : Array Oper} {i : Nat} {q : Value → World → Prop} : LocE ops i (fun _ => q) := fun _ _ _ _ _ _ _ h => h
theorem locAll_at : ∀ {l : List ((Tmp → Value) → Value → World → Prop)} {k : Nat}, LocAll ops k l → ∀ i, ∀ o, ops[k + i]? = some o → ∀ σ σ' : Tmp → Value, (∀ k ∈ needs o, ∀ d, dstOf ops k = some d → σ d = σ' d) → ∀ v w, VV2 l i σ v w → VV2 l i σ' v w
  | [], _, _, i, _, _, _, _, _, _, _, _ => by simp [VV2]
  | p :: r, k, h, 0, o, ho, σ, σ', hs, v, w, hV => h.1 o ho σ σ' hs v w hV
  | p :: r, k, h, i + 1, o, ho, σ, σ', hs, v, w, hV => by
    have := locAll_at h.2 i o (by rw [show k + 1 + i = k + (i + 1) by omega]; exact ho) σ σ' hs v w
    simp only [VV2, List.getElem?_cons_succ] at this hV ⊢
    exact this hV
theorem locAll_of {l : List ((Tmp → Value) → Value → World → Prop)} (h : LocAll ops 0 l) : ∀ i o, ops[i]? = some o → ∀ σ σ' : Tmp → Value, (∀ k ∈ needs o, ∀ d, dstOf ops k = some d → σ d = σ' d) → ∀ v w, VV2 l i σ v w → VV2 l i σ' v w :=
  fun i o ho => locAll_at h i o (by rw [Nat.zero_add]; exact ho)
theorem stepOK2_of {j : Nat} {o : Oper} (ns : List Nat) (olds : List Tmp) (hns : needs o = ns) (hol : (olds.all fun s => oldB ops j s) = true)
    (h : ∀ (t : Nat) (ρ : Operand → Value) (W : World), t < ops.size → (∀ v, ρ (.const v) = v) → (∀ f, ρ (.func f) = .func (.func f) #[] #[]) → NeedsOK ops (fun i => V i (fun d => ρ (.tmp d))) ρ W ns → OldsOK a0 ρ olds → I t W → OpOK P (Post I R (fun i => V i (fun d => ρ (.tmp d))) j t W) ((execOp ρ o).run P W)) (hg : o.guard = none) : StepOK2 P ops V I R a0 j o := by
  intro t ρ W go ht hc hf _ ho hn hgo hI
  rw [hg] at hgo
  simp only at hgo
  rw [hgo, if_pos rfl]
  subst hns
  exact h t ρ W ht hc hf (needsOK_of hn) (oldsOK_of (fun s hs => ho s (List.all_eq_true.1 hol s hs))) hI
end
end Go.Proofs.Ytkphkkfgphhjcaa
