/- What draws: a text many times, one of some texts. -/
import Derived.Test.YtcbbebhjddphfaaD5
namespace Go.Proofs.Ytcbbebhjddphfaa
open Go.RowKit
set_option linter.unusedSimpArgs false
set_option linter.unusedVariables false

def IsStr (v : Value) : Prop := ∃ s : ByteArray, v = .string s ∧ s.size ≤ 100000
set_option maxHeartbeats 2000000 in
set_option maxRecDepth 100000 in
theorem many_c (s : ByteArray) (n : Int) (w : World) (h0 : 0 ≤ n) (h1 : n ≤ 1000) (h2 : s.size ≤ 100) : Calls Try.prog 58 #[.string s, .int .i64 n] w fun e w' => (∃ o : ByteArray, e = .returned (.string o) ∧ (o.size : Int) = s.size * n) ∧ w = w' := by
  obtain ⟨T, hT⟩ : ∃ T : Int, (s.size : Int) * n = T := ⟨_, rfl⟩
  have hT0 : 0 ≤ T := by rw [← hT]; exact Int.mul_nonneg (by omega) h0
  have hT1 : T ≤ 100000 := by
    rw [← hT]
    have := Int.mul_le_mul (show (s.size : Int) ≤ 100 by omega) h1 h0 (by omega)
    omega
  rw [hT]
  have hT := Lib.hid hT
  go_enter Try.func58, Try.ntmps58
  go_wp2_with fail
  go_loop [0, 1, 5] (fun v0 v1 v5 => ∃ (a o : ByteArray) (m : Int), v0 = .string a ∧ v1 = .int .i64 m ∧ v5 = .string o ∧ 0 ≤ m ∧ m ≤ n ∧ Hid ((o.size : Int) + a.size * m = T) ∧ (a.size : Int) ≤ 100 + 2 * T) (fun _ v1 _ => (intOf v1).toNat)
  case atStart => exact ⟨s, _, n, rfl, rfl, rfl, h0, Int.le_refl _, Lib.hid (by have := hT.out; rw [this]; exact Int.zero_add _), by omega⟩
  case round =>
    obtain ⟨a, o, m, rfl, rfl, rfl, hm0, hm1, hI, ha⟩ := hrel
    by_cases hm : 0 < m
    · have ho : (o.size : Int) ≤ T := by
        have h3 := hI.out
        have : 0 ≤ (a.size : Int) * m := Int.mul_nonneg (by omega) hm0
        omega
      have ha2 : (a.size : Int) ≤ T := by
        have h3 := hI.out
        have h4 : (a.size : Int) * 1 ≤ (a.size : Int) * m := Int.mul_le_mul_of_nonneg_left (by omega) (by omega)
        omega
      by_cases hq : m % 2 = 1
      · have hq1 : (m % 2 == 1) = true := beq_iff_eq.2 hq
        go_wp2_with fail
        go_round
        case rel => exact ⟨a ++ a, o ++ a, m / 2, rfl, rfl, rfl, by omega, by omega, Lib.hid (by
          have h3 := hI.out
          have e : m = 2 * (m / 2) + 1 := by omega
          rw [ByteArray.size_append, ByteArray.size_append]
          rw [e] at h3
          have e2 : ((a.size + a.size : Nat) : Int) * (m / 2) = (a.size : Int) * (2 * (m / 2)) := by
            rw [Int.natCast_add, Int.add_mul, Int.mul_left_comm]; omega
          rw [Int.mul_add] at h3
          omega), by rw [ByteArray.size_append]; omega⟩
        case measure => simp [intOf]; omega
      · have hq1 : (m % 2 == 1) = false := beq_eq_false_iff_ne.2 hq
        go_wp2_with fail
        go_round
        case rel => exact ⟨a ++ a, o, m / 2, rfl, rfl, rfl, by omega, by omega, Lib.hid (by
          have h3 := hI.out
          have e : m = 2 * (m / 2) := by omega
          rw [ByteArray.size_append]
          rw [e] at h3
          have e2 : ((a.size + a.size : Nat) : Int) * (m / 2) = (a.size : Int) * (2 * (m / 2)) := by
            rw [Int.natCast_add, Int.add_mul, Int.mul_left_comm]; omega
          omega), by rw [ByteArray.size_append]; omega⟩
        case measure => simp [intOf]; omega
    · have ho : (o.size : Int) = T := by
        have h3 := hI.out
        obtain rfl : m = 0 := by omega
        simpa using h3
      go_wp2_with fail
      go_ret
      exact ⟨⟨o, rfl, ho⟩, rfl⟩
set_option maxHeartbeats 1000000 in
theorem of_c (w0 w : World) (g : Nat) (p : Int) (A : Nat) (cs : Array Value) (n : Nat) (h : Rd w0 w g p) (h0 : 0 ≤ p) (h1 : p ≤ 1000000000000) (hA : w.heap[A]? = some (.cells cs 9 (0, 0))) (hne : A ≠ g) (hn : cs.size = n) (h2 : 1 ≤ n) (h3 : n ≤ 9000000000000000000)
    (Q : Value → Prop) (hQ : ∀ (j : Nat) (v : Value), cs[j]? = some v → Q v) : Calls Try.prog 57 #[.pointer (some ⟨g, 0, none⟩), .slice (some ⟨A, 0, none⟩) n n] w (On w0 w g p Q) := by
  have hA := Lib.hid hA
  have hn := Lib.hid hn
  have hQ := Lib.hid hQ
  go_enter Try.func57, Try.ntmps57
  go_wp2_with fail
  refine (pick_c w0 _ g p (n : Int) h h0 h1 (by omega) (by omega)).mono ?_
  rintro e w1 ⟨r, rfl, ra, rb, hR, hK⟩
  have hA1 := hK.blk hA.out hne
  obtain ⟨v, hv⟩ : ∃ v, cs[r.toNat]? = some v := ⟨_, Array.getElem?_eq_getElem (by rw [hn.out]; omega)⟩
  have hc : w1.cell? ⟨A, r.toNat, none⟩ = some v := by rw [blk_cell hA1]; exact hv
  have hv := Lib.hid hv
  have hA1 := Lib.hid hA1
  have hr1 : r.toNat < n := by omega
  go_wp2_with fail
  go_ret
  exact ⟨v, rfl, hQ.out _ _ hv.out, hR, hK⟩

end Go.Proofs.Ytcbbebhjddphfaa
