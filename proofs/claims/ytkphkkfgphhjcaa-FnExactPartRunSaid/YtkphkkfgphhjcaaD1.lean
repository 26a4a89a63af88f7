/- What draws: one of a list; the reader is made; how a farm stands. -/
import Derived.Test.YtkphkkfgphhjcaaD0
namespace Go.Proofs.Ytkphkkfgphhjcaa
open Go.RowKit
set_option linter.unusedSimpArgs false
set_option linter.unusedVariables false

/-- What a draw leaves: a value of which Q holds; at most N picks. -/
def Dr (w0 w : World) (g : Nat) (p N : Int) (Q : Value → Prop) (e : Ending) (w' : World) : Prop := ∃ v q, e = .returned v ∧ Q v ∧ p ≤ q ∧ q ≤ p + N ∧ Rd w0 w' g q ∧ Kp g w w'
/-- One of a list. -/
def On (w0 w : World) (g : Nat) (p : Int) (Q : Value → Prop) (e : Ending) (w' : World) : Prop := ∃ v, e = .returned v ∧ Q v ∧ Rd w0 w' g (p + 1) ∧ Kp g w w'
set_option maxHeartbeats 1000000 in
theorem one_c (w0 w : World) (g : Nat) (p : Int) (A : Nat) (cs : Array Value) (n : Nat) (h : Rd w0 w g p) (h0 : 0 ≤ p) (h1 : p ≤ 1000000000000) (hA : w.heap[A]? = some (.cells cs 3 (0, 0))) (hne : A ≠ g) (hn : cs.size = n) (h2 : 1 ≤ n) (h3 : n ≤ 9000000000000000000)
    (Q : Value → Prop) (hQ : ∀ (j : Nat) (v : Value), cs[j]? = some v → Q v) : Calls Try.prog 57 #[.pointer (some ⟨g, 0, none⟩), .slice (some ⟨A, 0, none⟩) n n] w (On w0 w g p Q) := by
  have hA := Lib.hid hA
  have hn := Lib.hid hn
  have hQ := Lib.hid hQ
  go_enter Try.func57, Try.ntmps57
  go_wp2_with fail
  refine (pick_c w0 _ g p (n : Int) h h0 h1 (by omega) (by omega)).mono ?_
  rintro e w1 ⟨r, rfl, ra, rb, hR, hK⟩
  have hA1 := hK.blk hA.out hne
  obtain ⟨v, hv⟩ : ∃ v, cs[r.toNat]? = some v := ⟨_, Array.getElem?_eq_getElem (by rw [hn.out]; omega)⟩
  have hc : w1.cell? ⟨A, r.toNat, none⟩ = some v := by rw [blk_cell hA1]; exact hv
  have hv := Lib.hid hv
  have hA1 := Lib.hid hA1
  have hr1 : r.toNat < n := by omega
  go_wp2_with fail
  go_ret
  exact ⟨v, rfl, hQ.out _ _ hv.out, hR, hK⟩

theorem open_c (w : World) (A : Option Addr) (n c : Nat) (hA : ∀ j, j < n → ∃ ad x, A = some ad ∧ w.cell? (ad.add j) = some (.int .u8 x) ∧ 0 ≤ x ∧ x ≤ 255) (hc : n ≤ c) (hm : c ≤ 9223372036854775807) : Calls Try.prog 33 #[.slice A n c] w fun e w' => ∃ g, e = .returned (.pointer (some ⟨g, 0, none⟩)) ∧ Rd w w' g 0 ∧ Below w.heap.size w w' := by
  have hA := Lib.hid hA
  by_cases h : 2000 < n
  · go_enter Try.func33, Try.ntmps33
    go_wp2_with fail
    go_ret
    exact ⟨_, rfl, ⟨Nat.le_refl _, (Below.refl _ _).alloc (Nat.le_refl _) _, A, 2000, c, heap_top _ _ rfl, by omega, fun j hj => hA.out j (by omega)⟩, (Below.refl _ _).alloc (Nat.le_refl _) _⟩
  · go_enter Try.func33, Try.ntmps33
    go_wp2_with fail
    go_ret
    exact ⟨_, rfl, ⟨Nat.le_refl _, (Below.refl _ _).alloc (Nat.le_refl _) _, A, n, c, heap_top _ _ rfl, by omega, fun j hj => hA.out j (by omega)⟩, (Below.refl _ _).alloc (Nat.le_refl _) _⟩

def IsI (v : Value) : Prop := ∃ r : Int, v = .int .i64 r
end Go.Proofs.Ytkphkkfgphhjcaa
