/- Lists of numbers that are read; what is a value, what are ports. -/
import Derived.Test.YtkphkkfgphhjcaaD1
import Derived.LoopTactic
import Derived.Deep.LoopGhost
namespace Go.Proofs.Ytkphkkfgphhjcaa
open Go.RowKit
set_option linter.unusedSimpArgs false
set_option linter.unusedVariables false

/-- A slice of numbers that is read. -/
def Ints (W : World) (A : Option Addr) (n c : Nat) (xs : List Int) : Prop := (n = xs.length ∧ n ≤ c ∧ c ≤ 9223372036854775807) ∧ ∀ j x, xs[j]? = some x → ∃ ad, A = some ad ∧ W.cell? (ad.add j) = some (.int .i64 x)
theorem Ints.below {W W2 : World} {A : Option Addr} {n c : Nat} {xs : List Int} (h : Ints W A n c xs) (hb : Below W.heap.size W W2) : Ints W2 A n c xs :=
  ⟨h.1, fun j x hj => by
    obtain ⟨ad, h1, h2⟩ := h.2 j x hj
    exact ⟨ad, h1, (hb.cell (World.block_lt_of_cell? W _ h2)).trans h2⟩⟩
theorem Ints.at {W : World} {A : Option Addr} {n c i : Nat} {xs : List Int} (h : Ints W A n c xs) (hi : i < n) : ∃ x ad, xs[i]? = some x ∧ A = some ad ∧ W.cell? (ad.add i) = some (.int .i64 x) := by
  have hx : xs[i]? = some (xs[i]'(by rw [← h.1.1]; exact hi)) := List.getElem?_eq_getElem _
  obtain ⟨ad, h1, h2⟩ := h.2 i _ hx
  exact ⟨_, ad, hx, h1, h2⟩
def valOk (x : Int) : Bool := inR x 9999
def valsOk (xs : List Int) : Bool := xs.all valOk
theorem drop_all {xs : List Int} {p : Int → Bool} {i : Nat} {x : Int} (h : xs[i]? = some x) : (xs.drop i).all p = (p x && (xs.drop (i + 1)).all p) := by
  have hi : i < xs.length := (List.getElem?_eq_some_iff.1 h).1
  rw [List.drop_eq_getElem_cons hi, List.all_cons]
  have := (List.getElem?_eq_some_iff.1 h).2
  rw [this]
theorem l1In_c (a b c : Int) (w : World) : Calls Try.prog 42 #[.int .i64 a, .int .i64 b, .int .i64 c] w fun e w' => e = .returned (.bool (decide (b ≤ a) && decide (a ≤ c))) ∧ w = w' := by
  by_cases h : b ≤ a
  all_goals
    go_enter Try.func42, Try.ntmps42
    go_wp2
    go_ret
    exact ⟨rb (by rw [Bool.eq_iff_iff]; simp; omega), rfl⟩
theorem l1In0_c (a c : Int) (w : World) : Calls Try.prog 42 #[.int .i64 a, .int .i64 0, .int .i64 c] w fun e w' => e = .returned (.bool (inR a c)) ∧ w = w' := l1In_c a 0 c w
set_option maxHeartbeats 1000000 in
theorem valuesOk_c (A : Option Addr) (n c : Nat) (xs : List Int) (w : World) (h : Ints w A n c xs) : Calls Try.prog 46 #[.slice A n c] w fun e w' => e = .returned (.bool (valsOk xs)) ∧ w = w' := by
  have hC := Lib.hid h
  have hn1 := h.1.1
  have hn2 : n ≤ 9223372036854775807 := Nat.le_trans h.1.2.1 h.1.2.2
  clear h
  replace hn1 := Lib.hid hn1
  go_enter Try.func46, Try.ntmps46
  go_wp2_with fail
  go_loop [7] (fun v7 => ∃ i : Nat, v7 = .int .i64 i ∧ i ≤ n ∧ Hid ((xs.drop i).all valOk = valsOk xs)) (fun v7 => n - (intOf v7).toNat)
  case atStart => exact ⟨0, rfl, Nat.zero_le _, Lib.hid rfl⟩
  case round =>
    obtain ⟨i, rfl, hi, hA⟩ := hrel
    by_cases hin : i < n
    · obtain ⟨x, ad, hx, rfl, hcell⟩ := hC.out.at hin
      have hd := drop_all (p := valOk) hx
      have hw := Lib.hid (fun W => within_c x 9999 W)
      replace hx := Lib.hid hx
      cases hv : valOk x
      · have e1 : valsOk xs = false := by rw [← hA.out, hd, hv]; rfl
        rw [show inR x 9999 = false from hv] at hw
        clear hd hv
        go_wp2_with fail
        refine (hw.out _).mono ?_
        rintro e w1 ⟨rfl, rfl⟩
        go_wp2_with fail
        go_ret
        exact ⟨rv (by first | rfl | (rw [e1]; rfl)), rfl⟩
      · have e1 : (xs.drop (i + 1)).all valOk = valsOk xs := by rw [← hA.out, hd, hv]; rfl
        replace e1 := Lib.hid e1
        rw [show inR x 9999 = true from hv] at hw
        clear hd hv
        go_wp2_with fail
        refine (hw.out _).mono ?_
        rintro e w1 ⟨rfl, rfl⟩
        go_wp2_with fail
        go_round
        case rel => exact ⟨i + 1, by simp, by omega, e1⟩
        case measure => simp [intOf]; omega
    · have e1 : valsOk xs = true := by
        rw [← hA.out, List.drop_eq_nil_of_le (by rw [← hn1.out]; omega)]
        rfl
      go_wp2_with fail
      go_ret
      exact ⟨rv (by first | rfl | (rw [e1]; rfl)), rfl⟩

set_option maxHeartbeats 1000000 in
theorem lvaluesOk_c (A : Option Addr) (n c : Nat) (xs : List Int) (w : World) (h : Ints w A n c xs) : Calls Try.prog 79 #[.slice A n c] w fun e w' => e = .returned (.bool (valsOk xs)) ∧ w = w' := by
  have hC := Lib.hid h
  have hn1 := h.1.1
  have hn2 : n ≤ 9223372036854775807 := Nat.le_trans h.1.2.1 h.1.2.2
  clear h
  replace hn1 := Lib.hid hn1
  go_enter Try.func79, Try.ntmps79
  go_wp2_with fail
  go_loop [3] (fun v3 => ∃ i : Nat, v3 = .int .i64 i ∧ i ≤ n ∧ Hid ((xs.drop i).all valOk = valsOk xs)) (fun v3 => n - (intOf v3).toNat)
  case atStart => exact ⟨0, rfl, Nat.zero_le _, Lib.hid rfl⟩
  case round =>
    obtain ⟨i, rfl, hi, hA⟩ := hrel
    by_cases hin : i < n
    · obtain ⟨x, ad, hx, rfl, hcell⟩ := hC.out.at hin
      have hd := drop_all (p := valOk) hx
      have hw := Lib.hid (fun W => l1In0_c x 9999 W)
      replace hx := Lib.hid hx
      cases hv : valOk x
      · have e1 : valsOk xs = false := by rw [← hA.out, hd, hv]; rfl
        rw [show inR x 9999 = false from hv] at hw
        clear hd hv
        go_wp2_with fail
        refine (hw.out _).mono ?_
        rintro e w1 ⟨rfl, rfl⟩
        go_wp2_with fail
        go_ret
        exact ⟨rv (by first | rfl | (rw [e1]; rfl)), rfl⟩
      · have e1 : (xs.drop (i + 1)).all valOk = valsOk xs := by rw [← hA.out, hd, hv]; rfl
        replace e1 := Lib.hid e1
        rw [show inR x 9999 = true from hv] at hw
        clear hd hv
        go_wp2_with fail
        refine (hw.out _).mono ?_
        rintro e w1 ⟨rfl, rfl⟩
        go_wp2_with fail
        go_round
        case rel => exact ⟨i + 1, by simp, by omega, e1⟩
        case measure => simp [intOf]; omega
    · have e1 : valsOk xs = true := by
        rw [← hA.out, List.drop_eq_nil_of_le (by rw [← hn1.out]; omega)]
        rfl
      go_wp2_with fail
      go_ret
      exact ⟨rv (by first | rfl | (rw [e1]; rfl)), rfl⟩

def portsOK (xs : List Int) : Bool := xs.length == 4 && valsOk xs
theorem portsOk_c (A : Option Addr) (n c : Nat) (xs : List Int) (w : World) (h : Ints w A n c xs) : Calls Try.prog 58 #[.slice A n c] w fun e w' => e = .returned (.bool (portsOK xs)) ∧ w = w' := by
  have hv := Lib.hid (valuesOk_c A n c xs w h)
  have hn1 := h.1.1
  have hn2 : n ≤ 9223372036854775807 := Nat.le_trans h.1.2.1 h.1.2.2
  unfold portsOK
  by_cases h4 : n = 4
  · subst h4
    rw [show (xs.length == 4) = true from beq_iff_eq.2 hn1.symm]
    clear h hn1
    go_enter Try.func58, Try.ntmps58
    go_wp2_with fail
    refine hv.out.mono ?_
    rintro e w1 ⟨rfl, rfl⟩
    go_wp2_with fail
    go_ret
    exact ⟨rv (by first | rfl | simp), rfl⟩
  · have h5 : ((n : Int) == 4) = false := beq_eq_false_iff_ne.2 (by omega)
    rw [show (xs.length == 4) = false from beq_eq_false_iff_ne.2 (by omega)]
    clear h hn1
    go_enter Try.func58, Try.ntmps58
    go_wp2_with fail
    go_ret
    exact ⟨rv (by first | rfl | simp), rfl⟩
theorem lportsOk_c (A : Option Addr) (n c : Nat) (xs : List Int) (w : World) (h : Ints w A n c xs) : Calls Try.prog 41 #[.slice A n c] w fun e w' => e = .returned (.bool (portsOK xs)) ∧ w = w' := by
  have hv := Lib.hid (lvaluesOk_c A n c xs w h)
  have hn1 := h.1.1
  have hn2 : n ≤ 9223372036854775807 := Nat.le_trans h.1.2.1 h.1.2.2
  unfold portsOK
  by_cases h4 : n = 4
  · subst h4
    rw [show (xs.length == 4) = true from beq_iff_eq.2 hn1.symm]
    clear h hn1
    go_enter Try.func41, Try.ntmps41
    go_wp2_with fail
    refine hv.out.mono ?_
    rintro e w1 ⟨rfl, rfl⟩
    go_wp2_with fail
    go_ret
    exact ⟨rv (by first | rfl | simp), rfl⟩
  · have h5 : ((n : Int) == 4) = false := beq_eq_false_iff_ne.2 (by omega)
    rw [show (xs.length == 4) = false from beq_eq_false_iff_ne.2 (by omega)]
    clear h hn1
    go_enter Try.func41, Try.ntmps41
    go_wp2_with fail
    go_ret
    exact ⟨rv (by first | rfl | simp), rfl⟩

end Go.Proofs.Ytkphkkfgphhjcaa
