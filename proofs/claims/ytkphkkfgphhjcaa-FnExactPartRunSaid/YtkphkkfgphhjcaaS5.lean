/- The reference's copy. -/
import Derived.Test.YtkphkkfgphhjcaaS4
import Derived.Test.YtkphkkfgphhjcaaR1
import Derived.ArgAppend
namespace Go.Proofs.Ytkphkkfgphhjcaa
open Go.RowKit
set_option linter.unusedSimpArgs false
set_option linter.unusedVariables false

/-- A row of one's own, of element type e, in blocks from N on. -/
def RowF {α : Type} (d : Kd α) (e N : Nat) (v : Value) (xs : List α) (fp : List Nat) (W : World) : Prop := SL d W v xs fp ∧ Own W N W.heap.size fp ∧ (∀ b ∈ fp, ∃ cur, W.heap[b]? = some (.cells cur e (0, 0))) ∧ ∃ a c, v = .slice (some a) xs.length c
def RowT {α : Type} (d : Kd α) (e N : Nat) (v : Value) (xs : List α) (W : World) : Prop := ∃ fp, RowF d e N v xs fp W
theorem RowF.keep {α : Type} {d : Kd α} {e N : Nat} {v : Value} {xs : List α} {fp : List Nat} {W W' : World} (h : RowF d e N v xs fp W) (hs : W.heap.size ≤ W'.heap.size) (hk : ∀ b, N ≤ b → b < W.heap.size → W'.heap[b]? = W.heap[b]?) : RowF d e N v xs fp W' := by
  have hk' : ∀ b ∈ fp, W'.heap[b]? = W.heap[b]? := fun b hb => hk b (h.2.1.2 b hb).1.1 (h.2.1.2 b hb).1.2
  exact ⟨h.1.keep hk', (h.2.1.keep hk').mono (Nat.le_refl _) hs, fun b hb => by rw [hk' b hb]; exact h.2.2.1 b hb, h.2.2.2⟩
/-- Append onto an empty slice without room: a new row; all old blocks stay. -/
theorem app_e {α : Type} {enc : α → List Value} {sz : Nat} {hl : ∀ x, (enc x).length = sz} {P : Program} (W : World) (t ty e : TypeId) (i : TypeInfo) (z : Value) (bytes : Nat) (ht : P.underlying t = some (.slice e)) (hi : P.info? e = some i) (hz : i.zero = some z) (hs : i.size = sz) (hb : i.bytes = bytes) (hzs : z.cells.size = sz) (hsz : 0 < sz) (hby : bytes ≤ 1000) (N : Nat) (hN : N ≤ W.heap.size) (B : Nat) (A : Option Addr) (n c : Nat) (xs : List α) (fp : List Nat) (h : SL (Kd.flat enc sz hl) W (.slice A n c) xs fp) (hn : xs.length ≤ 10000000) :
    ∃ v' w' fp', (Builtin.append_ #[t, t] ty #[.slice (some ⟨B, 0, none⟩) 0 0, .slice A n c]).run P W = .ok v' w' ∧ Below W.heap.size W w' ∧ RowF (Kd.flat enc sz hl) e N v' xs fp' w' ∧ ∀ b ∈ fp', W.heap.size ≤ b := by
  obtain ⟨A', c', h0, h2, h3, h4⟩ := h
  injection h0 with e1 e2 e3
  subst e1 e2 e3
  cases xs with
  | nil =>
    refine ⟨.slice (some ⟨B, 0, none⟩) 0 0, W, [], ?_, Below.refl _ _, ⟨⟨_, _, rfl, Nat.le_refl _, by omega, .inl ⟨rfl, rfl⟩⟩, own_nil _ _ _, fun b hb => (by cases hb), _, _, rfl⟩, fun b hb => (by cases hb)⟩
    cases A with
    | none => simp [Builtin.append_, run_underlying ht, sizeOf, typeInfo, hi, Builtin.lenOf, run_firstCells_none, storeCells]
    | some a =>
      have hf := run_firstCells_some (P := P) W i.size 0 a 0 c [] (by simp) (by simp)
      simp [Builtin.append_, run_underlying ht, sizeOf, typeInfo, hi, Builtin.lenOf, hf, storeCells]
  | cons x r =>
    have hA : ∃ a, A = some a := by
      rcases h4 with ⟨h4, _⟩ | ⟨g, o, cur, e', fr, f, hA, _⟩
      · cases h4
      · exact ⟨_, hA⟩
    obtain ⟨a, rfl⟩ := hA
    have h' : SL (Kd.flat enc sz hl) W (.slice (some a) (x :: r).length c) (x :: r) fp := ⟨_, _, rfl, h2, h3, h4⟩
    have hb2 : (0 + (x :: r).length) * bytes ≤ 140737488355328 := by
      have : (0 + (x :: r).length) * bytes ≤ 10000000 * 1000 := Nat.mul_le_mul (by omega) hby
      omega
    obtain ⟨v', w', hr, ho, hg⟩ := run_append_arg_grows (P := P) W t ty e i z sz bytes ht hi hz hs hb hzs hsz ⟨B, 0, none⟩ 0 0 [] (by simp) (fun j u hu => by simp at hu) a (x :: r).length c ((x :: r).flatMap enc) (flat_len _ hl) (h'.flat_news rfl) (by simp) (by unfold maxLen; simp at hn ⊢; omega) hb2
    have ho' : w'.ownsRow W.heap.size e sz v' (x :: r).length ((x :: r).flatMap enc) := by simpa using ho
    obtain ⟨fp', q1, q2, q3⟩ := sl_of_row (hl := hl) ho' hsz
    have hty : (∀ b, v'.ownBlock = some b → ∃ cur, w'.heap[b]? = some (.cells cur e (0, 0))) ∧ ∃ a, ∃ c, v' = .slice (some a) (x :: r).length c := by
      rcases ho'.2 with ⟨rfl, h0⟩ | ⟨g, cap, cur, rfl, hb, hg, _⟩
      · cases h0
      · refine ⟨fun b hb => ?_, _, _, rfl⟩
        have e : g = b := Option.some.inj hb
        subst e
        exact ⟨_, hg⟩
    exact ⟨v', w', fp', hr, (Below.refl _ _).grown hg (Nat.le_refl _) (fun k hk => by cases hk), ⟨q1, q2.mono hN (Nat.le_refl _), fun b hb => hty.1 b (q3 b hb), hty.2⟩, fun b hb => (q2.2 b hb).1.1⟩
end Go.Proofs.Ytkphkkfgphhjcaa
