/- Arguments that are read: rows of a kind, as lists. -/
import Derived.Test.YtkphkkfgphhjcaaP5
import Derived.ChangeArms
import Derived.ChangeShapes
import Derived.Deep.Fields
namespace Go.Proofs.Ytkphkkfgphhjcaa
open Go.RowKit Go.ChangeShapes Go.WideShapes Go.Deep
set_option linter.unusedSimpArgs false
set_option linter.unusedVariables false
section
variable {α : Type} {d : Kd α} {W : World} {base : Nat}
theorem cells_at {a : Addr} {n : Nat} {cs : List Value} (h : W.cells? base a n = some cs) : cs.length = n ∧ ∀ j, j < n → W.cell? (a.add j) = cs[j]? := by
  unfold World.cells? at h
  split at h
  · exact ⟨by simpa using mapM_some_length h, fun j hj => by simpa using mapM_some_get h j j (by simp [hj])⟩
  · cases h
theorem at_of {cur : Array Value} : ∀ (n o : Nat), (∀ i, i < n → ∃ cs x fp, cs.length = d.sz ∧ (∀ j, j < d.sz → cur[o + i * d.sz + j]? = cs[j]?) ∧ d.K W x cs fp) → ∃ xs fp, xs.length = n ∧ At d W cur o xs fp
  | 0, o, _ => ⟨[], [], rfl, rfl⟩
  | n + 1, o, h => by
    obtain ⟨cs, x, f1, hl, hc, hk⟩ := h 0 (by omega)
    obtain ⟨xs, f2, hn, ha⟩ := at_of n (o + d.sz) (fun i hi => by
      obtain ⟨cs, x, fp, h1, h2, h3⟩ := h (i + 1) (by omega)
      refine ⟨cs, x, fp, h1, fun j hj => ?_, h3⟩
      rw [← h2 j hj]
      congr 1
      rw [Nat.add_mul]
      omega)
    exact ⟨x :: xs, f1 ++ f2, by simp [hn], cs, f1, f2, hk, fun j hj => by simpa using hc j hj, rfl, ha⟩
end
section
variable {H : Type} {enc : TypeId × Value → H} {W : World} {base : Nat} {spare : Nat → Bool} {held : Bool}
theorem sl_of_trod {α : Type} {d : Kd α} {t e : TypeId} (ht : Try.prog.underlying t = some (.slice e)) (hsz : Try.prog.cellsOf e = d.sz) (h1 : 0 < d.sz) (he : ∀ (n : Nat) (cs : List Value) y, DataW.trod enc Try.prog W base spare held n e cs = some y → ∃ x fp, d.K W x cs fp) {fuel : Nat} {cs : List Value} {x : DataW H × List MemPlace} (h : DataW.trod enc Try.prog W base spare held fuel t cs = some x) : ∃ v xs fp, cs = [v] ∧ SL d W v xs fp := by
  rcases DataW.trod_slice ht h with ⟨rfl, _⟩ | ⟨a, len, cap, elems, rest, n, _, rfl, _, _, hl, hm, hlen, hel, _, _⟩
  · exact ⟨_, [], [], rfl, sl_nil _ _⟩
  · have hm' : cap ≤ 9223372036854775807 := by simpa [maxLen] using hm
    by_cases h0 : len = 0
    · subst h0
      exact ⟨_, [], [], rfl, _, cap, rfl, by simp, hm', .inl ⟨rfl, rfl⟩⟩
    rw [hsz] at hel
    have each : ∀ i, i < len → ∃ cs, W.cells? base (a.add (i * d.sz)) d.sz = some cs ∧ ∃ x fp, d.K W x cs fp := fun i hi => by
      have h2 := hel i hi
      rw [List.getElem?_eq_getElem (by omega)] at h2
      obtain ⟨cs, h3, h4⟩ := Option.bind_eq_some_iff.1 h2
      exact ⟨cs, h3, he n cs _ h4⟩
    obtain ⟨cs0, e0, _⟩ := each 0 (by omega)
    obtain ⟨l0, c0⟩ := cells_at e0
    have hc0 := c0 0 h1
    rw [List.getElem?_eq_getElem (by omega)] at hc0
    obtain ⟨g, o, sp⟩ := a
    have hadd0 : ((⟨g, o, sp⟩ : Addr).add (0 * d.sz)).add 0 = ⟨g, o, sp⟩ := by simp [Addr.add]
    rw [hadd0] at hc0
    unfold World.cell? at hc0
    split at hc0
    · rename_i cur et fr hg
      cases sp with
      | some k => simp at hc0
      | none =>
        have hadd : ∀ i j : Nat, ((⟨g, o, none⟩ : Addr).add i).add j = ⟨g, o + i + j, none⟩ := fun i j => by
          unfold Addr.add
          split <;> split <;> simp_all
        obtain ⟨xs, fp, hn, hA⟩ := at_of (d := d) (W := W) (cur := cur) len o (fun i hi => by
          obtain ⟨cs, h3, x, fp, h4⟩ := each i hi
          obtain ⟨h5, h6⟩ := cells_at h3
          refine ⟨cs, x, fp, h5, fun j hj => ?_, h4⟩
          rw [← h6 j hj, hadd]
          simp [World.cell?, hg])
        exact ⟨_, xs, g :: fp, rfl, _, cap, by rw [hn], by omega, hm', .inr ⟨g, o, cur, et, fr, fp, rfl, hg, rfl, hA⟩⟩
    · cases hc0
/-- A row of ints. -/
theorem ints_of_trod {t : TypeId} (ht : Try.prog.underlying t = some (.slice 3)) {fuel : Nat} {cs : List Value} {x : DataW H × List MemPlace} (h : DataW.trod enc Try.prog W base spare held fuel t cs = some x) : ∃ v xs fp, cs = [v] ∧ SL kI W v xs fp :=
  sl_of_trod ht (by kernel_rfl) (by decide) (fun n cs y hy => by
    obtain ⟨r, rfl, _⟩ := DataW.trod_int Try.underlying3 hy
    exact ⟨r, [], rfl, rfl⟩) h
end
end Go.Proofs.Ytkphkkfgphhjcaa
