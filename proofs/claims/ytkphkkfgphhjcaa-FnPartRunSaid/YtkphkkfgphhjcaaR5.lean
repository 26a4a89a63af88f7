/- A region that draws its order, R4's law once more: with what has come up closed under what was waited for. -/
import Derived.Test.YtkphkkfgphhjcaaR4
namespace Go.Proofs.Ytkphkkfgphhjcaa
open Go.RowKit
set_option linter.unusedVariables false
set_option linter.unusedSimpArgs false

/-- Whatever has come up, what it waited for has. -/
def Closed (ops : Array Oper) (bs : Nat → Bool) : Prop := ∀ i o, ops[i]? = some o → bs i = true → ∀ k ∈ needs o, bs k = true
theorem closed_reach {ops : Array Oper} {bs : Nat → Bool} (hc : Closed ops bs) (j : Nat) : ∀ (n i : Nat), bs i = true → reach ops j n i = true → bs j = true
  | 0, _, _, h => by simp [reach] at h
  | n + 1, i, hi, h => by
    unfold reach at h
    split at h
    · rename_i o ho
      rw [List.any_eq_true] at h
      obtain ⟨k, hk, hr⟩ := h
      have hl := hc i o ho hi k hk
      rw [Bool.or_eq_true] at hr
      rcases hr with hr | hr
      · rw [beq_iff_eq] at hr
        subst hr
        exact hl
      · exact closed_reach hc j n k hl hr
    · cases h
/-- What waits for an operation has not come up ahead of it. -/
theorem not_yet {ops : Array Oper} {bs : Nat → Bool} (hc : Closed ops bs) {j : Nat} (hj : bs j = false) (i : Nat) (hr : reach ops j ops.size i = true) : bs i = false := by
  cases h : bs i with
  | false => rfl
  | true => rw [closed_reach hc j _ i h hr] at hj; cases hj
theorem been {ops : Array Oper} {bs : Nat → Bool} (hc : Closed ops bs) {i : Nat} (hi : bs i = true) (j : Nat) (hr : reach ops j ops.size i = true) : bs j = true := closed_reach hc j _ i hi hr
section
variable {P : Program} {ops : Array Oper} {V : Nat → (Tmp → Value) → Value → World → Prop} {I : (Nat → Bool) → World → Prop} {R : World → World → Prop} {a0 : Act}
theorem closed_up {bs : Nat → Bool} {j : Nat} {o : Oper} (hc : Closed ops bs) (ho : ops[j]? = some o) (hn : ∀ i ∈ needs o, bs i = true) : Closed ops (upB bs j) := by
  intro i o' hi hb k hk
  unfold upB at hb ⊢
  by_cases e : i = j
  · subst e
    rw [ho] at hi
    injection hi with hi
    subst hi
    simp [hn k hk]
  · have : bs i = true := by simpa [e] using hb
    simp [hc i o' hi this k hk]
theorem region_inv5 {id : Nat} {Q : Exit → Act → World → Prop} {w : World} (V : Nat → (Tmp → Value) → Value → World → Prop) (I : (Nat → Bool) → World → Prop) (R : World → World → Prop) (hm : P.follows .mixedOrders = true) (n : Nat) (hn : a0.tmps.size = n) (hok : okRegion ops n = true)
    (hst : ∀ i σ v w1 w2, R w1 w2 → V i σ v w1 → V i σ v w2) (hloc : ∀ i o, ops[i]? = some o → ∀ σ σ' : Tmp → Value, (∀ k ∈ needs o, ∀ d, dstOf ops k = some d → σ d = σ' d) → ∀ v w, V i σ v w → V i σ' v w) (h0 : I (fun _ => false) w.drew) (hsteps : StepsOK4 P ops V (fun bs W => Closed ops bs ∧ I bs W) R a0 0 ops.toList)
    (fin : ∀ (vs : List Value) (bs : Nat → Bool) (w' : World), vs.length = ops.size → (∀ i, i < ops.size → bs i = true) → I bs w' → (∀ i v, vs[i]? = some v → V i (fun d => (putAll ops.toList vs a0).tmps.getD d undef) v w') → Q .normal (putAll ops.toList vs a0) w') : (Code.region id ops true).wp P Q a0 w :=
  region_inv4 V (fun bs W => Closed ops bs ∧ I bs W) R hm n hn hok hst hloc ⟨fun i o _ hb => (by cases hb), h0⟩ hsteps (fun vs bs w' hl hall hI hV => fin vs bs w' hl hall hI.2 hV)
theorem stepOK5_of {j : Nat} {o : Oper} (ns : List Nat) (olds : List Tmp) (ho9 : ops[j]? = some o) (hns : needs o = ns) (hol : (olds.all fun s => oldB ops j s) = true)
    (h : ∀ (bs : Nat → Bool) (ρ : Operand → Value) (W : World), bs j = false → (∀ i ∈ ns, bs i = true) → (∀ v, ρ (.const v) = v) → (∀ f, ρ (.func f) = .func (.func f) #[] #[]) → NeedsOK ops (fun i => V i (fun d => ρ (.tmp d))) ρ W ns → OldsOK a0 ρ olds → Closed ops bs → I bs W → OpOK P (PostL I R (fun i => V i (fun d => ρ (.tmp d))) j bs W) ((execOp ρ o).run P W)) (hg : o.guard = none) : StepOK4 P ops V (fun bs W => Closed ops bs ∧ I bs W) R a0 j o := by
  refine stepOK4_of ns olds hns hol (fun bs ρ W hbj hbn hc hf hn ho hI => ?_) hg
  have h1 := h bs ρ W hbj hbn hc hf hn ho hI.1 hI.2
  have h2 : Closed ops (upB bs j) := closed_up hI.1 ho9 (by rw [hns]; exact hbn)
  generalize (execOp ρ o).run P W = r at h1 ⊢
  cases r with
  | halt x w' => exact h1
  | ok n w' =>
    cases n
    case value v => exact ⟨⟨h2, h1.1⟩, h1.2⟩
    case skip => exact ⟨⟨h2, h1.1⟩, h1.2⟩
    case enter f args =>
      refine Calls.mono h1 fun e w'' he => ?_
      obtain ⟨v, rfl, hk⟩ := he
      exact ⟨v, rfl, ⟨h2, hk.1⟩, hk.2⟩
    all_goals exact h1
end
end Go.Proofs.Ytkphkkfgphhjcaa
