/- The exact laws' helpers: marks, and what is held. -/
import Derived.Test.YtkphkkfgphhjcaaX1
namespace Go.Proofs.Ytkphkkfgphhjcaa
open Go.RowKit
set_option linter.unusedSimpArgs false
set_option linter.unusedVariables false
set_option maxHeartbeats 1000000
set_option maxRecDepth 100000
theorem set_at {cur : Array Value} {p : Nat} {u : Value} (h : ∃ y, cur[p]? = some y) (q : Nat) : (cur.setIfInBounds p u)[q]? = if q = p then some u else cur[q]? := by
  obtain ⟨y, hy⟩ := h
  have hp := (Array.getElem?_eq_some_iff.1 hy).1
  rw [Array.getElem?_setIfInBounds]
  by_cases e : p = q
  · subst e
    simp [hp]
  · rw [if_neg e, if_neg (fun h => e h.symm)]
theorem markIntS_c (xs : List Int) (v : Value) (f : List Nat) (lo hi : Nat) (k : Int) (w : World) (h : SL kI w v xs f) (ho : Own w lo hi f) (k0 : 0 ≤ k) (k1 : k ≤ 1000000000) (hn : xs.length ≤ 4000000) : Calls Try.prog 28 #[v, .int .i64 k] w (MkQ w f (fI k) v xs.length (k + xs.length)) := by
  by_cases hne : xs = []
  · subst hne
    obtain ⟨A, c, rfl, _, _⟩ := h.form
    go_enter Try.func28, Try.ntmps28
    go_wp2_with fail
    go_loopw [5, 1] (fun v5 v1 wr => v5 = .int .i64 0 ∧ v1 = .int .i64 k ∧ w = wr) (fun _ _ _ => 0)
    case atStart => exact ⟨rfl, rfl, rfl⟩
    case round =>
      obtain ⟨rfl, rfl, rfl⟩ := hrel
      go_wp2_with fail
      go_ret
      exact ⟨by simp, Kept.refl _ _, .inl rfl⟩
  · obtain ⟨g, o, c, cur0, ety, rfl, rfl, hg0, hc0, hm0⟩ := h.one_of ho hne
    have hgl := (Array.getElem?_eq_some_iff.1 hg0).1
    obtain ⟨n, hx⟩ : ∃ n, n = xs.length := ⟨_, rfl⟩
    rw [← hx] at hc0 hm0 hn ⊢
    (try simp only [Nat.mul_one] at hc0)
    clear h ho hne
    replace hx := Lib.hid hx
    go_enter Try.func28, Try.ntmps28
    go_wp2_with fail
    go_loopw [5, 1] (fun v5 v1 wr => ∃ (i : Nat) (cur : Array Value), v5 = .int .i64 i ∧ v1 = .int .i64 (k + i) ∧ i ≤ n ∧ Hid (wr.heap[g]? = some (.cells cur ety (0, 0)) ∧ (∀ j, j < n → ∃ y, cur[o + j]? = some y) ∧ (∀ j, j < i → cur[o + j]? = some (fI k j)) ∧ Kept [g] w wr)) (fun v5 _ _ => n - (intOf v5).toNat)
    case atStart => exact ⟨0, cur0, rfl, by simp, Nat.zero_le _, Lib.hid ⟨hg0, hc0, fun j hj => by omega, Kept.refl _ _⟩⟩
    case round =>
      obtain ⟨i, cur, rfl, rfl, hi, hI⟩ := hrel
      by_cases hin : i < n
      · have hlt : (i : Int) < n := by omega
        have kb := blk_cell hI.out.1
        have kz := blk_frozen hI.out.1
        have hI2 := hI.out.2.1
        obtain ⟨y0, hy0⟩ := hI2 i (by omega)
        have hnew : Hid ((wr.setCell ⟨g, o + i, none⟩ (.int .i64 (k + i))).heap[g]? = some (.cells (cur.setIfInBounds (o + i) (.int .i64 (k + i))) ety (0, 0)) ∧ (∀ j, j < n → ∃ y, (cur.setIfInBounds (o + i) (.int .i64 (k + i)))[o + j]? = some y) ∧ (∀ j, j < i + 1 → (cur.setIfInBounds (o + i) (.int .i64 (k + i)))[o + j]? = some (fI k j)) ∧ Kept [g] w (wr.setCell ⟨g, o + i, none⟩ (.int .i64 (k + i)))) := by
          obtain ⟨b1, b2, b3, b4⟩ := hI.out
          refine Lib.hid ⟨blk_put b1 _ _, fun j hj => ?_, fun j hj => ?_, b4.set (.inl (by simp)) _⟩
          · rw [set_at ⟨_, hy0⟩]
            split
            · exact ⟨_, rfl⟩
            · exact b2 j hj
          · rw [set_at ⟨_, hy0⟩]
            split
            · have : j = i := by omega
              subst this
              simp [fI]
            · exact b3 j (by omega)
        clear hI2 hI
        go_wp2_with fail
        go_roundw
        case rel => exact ⟨i + 1, _, by simp, by congr 1; simp; omega, by omega, hnew⟩
        case measure => simp [intOf]; omega
      · have hlt : ¬ (i : Int) < n := by omega
        go_wp2_with fail
        go_ret
        obtain ⟨b1, b2, b3, b4⟩ := hI.out
        have hin' : i = n := by omega
        subst hin'
        exact ⟨rfl, b4, .inr ⟨g, o, _, c, cur, ety, rfl, b1, b3⟩⟩
theorem markOpS_c (xs : List Op3) (v : Value) (f : List Nat) (lo hi : Nat) (k : Int) (w : World) (h : SL kO w v xs f) (ho : Own w lo hi f) (k0 : 0 ≤ k) (k1 : k ≤ 1000000000) (hn : xs.length ≤ 4000000) : Calls Try.prog 54 #[v, .int .i64 k] w (MkQ w f (fI k) v (xs.length * 3) (k + 3 * xs.length)) := by
  by_cases hne : xs = []
  · subst hne
    obtain ⟨A, c, rfl, _, _⟩ := h.form
    go_enter Try.func54, Try.ntmps54
    go_wp2_with fail
    go_loopw [5, 1] (fun v5 v1 wr => v5 = .int .i64 0 ∧ v1 = .int .i64 k ∧ w = wr) (fun _ _ _ => 0)
    case atStart => exact ⟨rfl, rfl, rfl⟩
    case round =>
      obtain ⟨rfl, rfl, rfl⟩ := hrel
      go_wp2_with fail
      go_ret
      exact ⟨by simp, Kept.refl _ _, .inl rfl⟩
  · obtain ⟨g, o, c, cur0, ety, rfl, rfl, hg0, hc0, hm0⟩ := h.one_of ho hne
    have hgl := (Array.getElem?_eq_some_iff.1 hg0).1
    obtain ⟨n, hx⟩ : ∃ n, n = xs.length := ⟨_, rfl⟩
    rw [← hx] at hc0 hm0 hn ⊢
    (try simp only [Nat.mul_one] at hc0)
    clear h ho hne
    replace hx := Lib.hid hx
    go_enter Try.func54, Try.ntmps54
    go_wp2_with fail
    go_loopw [5, 1] (fun v5 v1 wr => ∃ (i : Nat) (cur : Array Value), v5 = .int .i64 i ∧ v1 = .int .i64 (k + 3 *i) ∧ i ≤ n ∧ Hid (wr.heap[g]? = some (.cells cur ety (0, 0)) ∧ (∀ j, j < n* 3 → ∃ y, cur[o + j]? = some y) ∧ (∀ j, j < i* 3 → cur[o + j]? = some (fI k j)) ∧ Kept [g] w wr)) (fun v5 _ _ => n - (intOf v5).toNat)
    case atStart => exact ⟨0, cur0, rfl, by simp, Nat.zero_le _, Lib.hid ⟨hg0, hc0, fun j hj => by omega, Kept.refl _ _⟩⟩
    case round =>
      obtain ⟨i, cur, rfl, rfl, hi, hI⟩ := hrel
      by_cases hin : i < n
      · have hlt : (i : Int) < n := by omega
        have kb := blk_cell hI.out.1
        have kz := blk_frozen hI.out.1
        have hI2 := hI.out.2.1
        obtain ⟨y0, hy0⟩ := hI2 (i * 3) (by omega)
        obtain ⟨y1, hy1⟩ := hI2 (i * 3 + 1) (by omega)
        obtain ⟨y2, hy2⟩ := hI2 (i * 3 + 2) (by omega)
        simp only [← Nat.add_assoc] at hy1 hy2
        have hnew : Hid ((((wr.setCell ⟨g, o + i * 3, none⟩ (.int .i64 (k + 3 * i))).setCell ⟨g, o + i * 3 + 1, none⟩ (.int .i64 (k + 3 * i + 1))).setCell ⟨g, o + i * 3 + 2, none⟩ (.int .i64 (k + 3 * i + 1 + 1))).heap[g]? = some (.cells (((cur.setIfInBounds (o + i * 3) (.int .i64 (k + 3 * i))).setIfInBounds (o + i * 3 + 1) (.int .i64 (k + 3 * i + 1))).setIfInBounds (o + i * 3 + 2) (.int .i64 (k + 3 * i + 1 + 1))) ety (0, 0)) ∧ (∀ j, j < n * 3 → ∃ y, (((cur.setIfInBounds (o + i * 3) (.int .i64 (k + 3 * i))).setIfInBounds (o + i * 3 + 1) (.int .i64 (k + 3 * i + 1))).setIfInBounds (o + i * 3 + 2) (.int .i64 (k + 3 * i + 1 + 1)))[o + j]? = some y) ∧ (∀ j, j < (i + 1) * 3 → (((cur.setIfInBounds (o + i * 3) (.int .i64 (k + 3 * i))).setIfInBounds (o + i * 3 + 1) (.int .i64 (k + 3 * i + 1))).setIfInBounds (o + i * 3 + 2) (.int .i64 (k + 3 * i + 1 + 1)))[o + j]? = some (fI k j)) ∧ Kept [g] w (((wr.setCell ⟨g, o + i * 3, none⟩ (.int .i64 (k + 3 * i))).setCell ⟨g, o + i * 3 + 1, none⟩ (.int .i64 (k + 3 * i + 1))).setCell ⟨g, o + i * 3 + 2, none⟩ (.int .i64 (k + 3 * i + 1 + 1)))) := by
          obtain ⟨b1, b2, b3, b4⟩ := hI.out
          have hsz := (Array.getElem?_eq_some_iff.1 hy2).1
          refine Lib.hid ⟨blk_put (blk_put (blk_put b1 _ _) _ _) _ _, fun j hj => ?_, fun j hj => ?_, ((b4.set (.inl (by simp)) _).set (.inl (by simp)) _).set (.inl (by simp)) _⟩
          · rw [arr_set3 hsz]
            split
            · exact ⟨_, rfl⟩
            split
            · exact ⟨_, rfl⟩
            split
            · exact ⟨_, rfl⟩
            · exact b2 j hj
          · rw [arr_set3 hsz]
            split
            · simp only [fI]; congr 2; omega
            split
            · simp only [fI]; congr 2; omega
            split
            · simp only [fI]; congr 2; omega
            · exact b3 j (by omega)
        clear hI2 hI
        go_wp2_with fail
        go_roundw
        case rel => exact ⟨i + 1, _, by simp, by congr 1; simp; omega, by omega, hnew⟩
        case measure => simp [intOf]; omega
      · have hlt : ¬ (i : Int) < n := by omega
        go_wp2_with fail
        go_ret
        obtain ⟨b1, b2, b3, b4⟩ := hI.out
        have hin' : i = n := by omega
        subst hin'
        exact ⟨rfl, b4, .inr ⟨g, o, _, c, cur, ety, rfl, b1, b3⟩⟩
theorem markSaidS_c (xs : List Sd) (v : Value) (f : List Nat) (lo hi : Nat) (k : Int) (w : World) (h : SL kSd w v xs f) (ho : Own w lo hi f) (k0 : 0 ≤ k) (k1 : k ≤ 1000000000) (hn : xs.length ≤ 4000000) : Calls Try.prog 29 #[v, .int .i64 k] w (MkQ w f (fS k) v (xs.length * 2) (k + 2 * xs.length)) := by
  by_cases hne : xs = []
  · subst hne
    obtain ⟨A, c, rfl, _, _⟩ := h.form
    go_enter Try.func29, Try.ntmps29
    go_wp2_with fail
    go_loopw [5, 1] (fun v5 v1 wr => v5 = .int .i64 0 ∧ v1 = .int .i64 k ∧ w = wr) (fun _ _ _ => 0)
    case atStart => exact ⟨rfl, rfl, rfl⟩
    case round =>
      obtain ⟨rfl, rfl, rfl⟩ := hrel
      go_wp2_with fail
      go_ret
      exact ⟨by simp, Kept.refl _ _, .inl rfl⟩
  · obtain ⟨g, o, c, cur0, ety, rfl, rfl, hg0, hc0, hm0⟩ := h.one_of ho hne
    have hgl := (Array.getElem?_eq_some_iff.1 hg0).1
    obtain ⟨n, hx⟩ : ∃ n, n = xs.length := ⟨_, rfl⟩
    rw [← hx] at hc0 hm0 hn ⊢
    (try simp only [Nat.mul_one] at hc0)
    clear h ho hne
    replace hx := Lib.hid hx
    go_enter Try.func29, Try.ntmps29
    go_wp2_with fail
    go_loopw [5, 1] (fun v5 v1 wr => ∃ (i : Nat) (cur : Array Value), v5 = .int .i64 i ∧ v1 = .int .i64 (k + 2 *i) ∧ i ≤ n ∧ Hid (wr.heap[g]? = some (.cells cur ety (0, 0)) ∧ (∀ j, j < n* 2 → ∃ y, cur[o + j]? = some y) ∧ (∀ j, j < i* 2 → cur[o + j]? = some (fS k j)) ∧ Kept [g] w wr)) (fun v5 _ _ => n - (intOf v5).toNat)
    case atStart => exact ⟨0, cur0, rfl, by simp, Nat.zero_le _, Lib.hid ⟨hg0, hc0, fun j hj => by omega, Kept.refl _ _⟩⟩
    case round =>
      obtain ⟨i, cur, rfl, rfl, hi, hI⟩ := hrel
      by_cases hin : i < n
      · have hlt : (i : Int) < n := by omega
        have kb := blk_cell hI.out.1
        have kz := blk_frozen hI.out.1
        have hI2 := hI.out.2.1
        obtain ⟨y0, hy0⟩ := hI2 (i * 2) (by omega)
        obtain ⟨y1, hy1⟩ := hI2 (i * 2 + 1) (by omega)
        simp only [← Nat.add_assoc] at hy1
        have hnew : Hid (((wr.setCell ⟨g, o + i * 2, none⟩ (.bool ((k + 2 * i) % 3 == 0))).setCell ⟨g, o + i * 2 + 1, none⟩ (.int .i64 (k + 2 * i + 1))).heap[g]? = some (.cells ((cur.setIfInBounds (o + i * 2) (.bool ((k + 2 * i) % 3 == 0))).setIfInBounds (o + i * 2 + 1) (.int .i64 (k + 2 * i + 1))) ety (0, 0)) ∧ (∀ j, j < n * 2 → ∃ y, ((cur.setIfInBounds (o + i * 2) (.bool ((k + 2 * i) % 3 == 0))).setIfInBounds (o + i * 2 + 1) (.int .i64 (k + 2 * i + 1)))[o + j]? = some y) ∧ (∀ j, j < (i + 1) * 2 → ((cur.setIfInBounds (o + i * 2) (.bool ((k + 2 * i) % 3 == 0))).setIfInBounds (o + i * 2 + 1) (.int .i64 (k + 2 * i + 1)))[o + j]? = some (fS k j)) ∧ Kept [g] w ((wr.setCell ⟨g, o + i * 2, none⟩ (.bool ((k + 2 * i) % 3 == 0))).setCell ⟨g, o + i * 2 + 1, none⟩ (.int .i64 (k + 2 * i + 1)))) := by
          obtain ⟨b1, b2, b3, b4⟩ := hI.out
          have hs1 : ∃ y, (cur.setIfInBounds (o + i * 2) (.bool ((k + 2 * i) % 3 == 0)))[o + i * 2 + 1]? = some y := by rw [set_at ⟨_, hy0⟩, if_neg (by omega)]; exact ⟨_, hy1⟩
          refine Lib.hid ⟨blk_put (blk_put b1 _ _) _ _, fun j hj => ?_, fun j hj => ?_, (b4.set (.inl (by simp)) _).set (.inl (by simp)) _⟩
          · rw [set_at hs1, set_at ⟨_, hy0⟩]
            split
            · exact ⟨_, rfl⟩
            split
            · exact ⟨_, rfl⟩
            · exact b2 j hj
          · rw [set_at hs1, set_at ⟨_, hy0⟩]
            split
            · rw [fS, if_neg (by omega)]; congr 2; omega
            split
            · rw [fS, if_pos (by omega), Int.tmod_eq_emod_of_nonneg (by omega)]; congr 4; omega
            · exact b3 j (by omega)
        clear hI2 hI
        go_wp2_with fail
        go_roundw
        case rel => exact ⟨i + 1, _, by simp, by congr 1; simp; omega, by omega, hnew⟩
        case measure => simp [intOf]; omega
      · have hlt : ¬ (i : Int) < n := by omega
        go_wp2_with fail
        go_ret
        obtain ⟨b1, b2, b3, b4⟩ := hI.out
        have hin' : i = n := by omega
        subst hin'
        exact ⟨rfl, b4, .inr ⟨g, o, _, c, cur, ety, rfl, b1, b3⟩⟩
theorem heldIntS_c (A : Option Addr) (n c : Nat) (k : Int) (w : World) (h : Mk (fI k) (.slice A n c) n w) (k0 : 0 ≤ k) (k1 : k ≤ 1000000000) (hn : n ≤ 4000000) : Calls Try.prog 31 #[.slice A n c, .int .i64 k] w fun e w' => e = .returned (.int .i64 (k + n)) ∧ w = w' := by
  by_cases hn0 : n = 0
  · subst hn0
    go_enter Try.func31, Try.ntmps31
    go_wp2_with fail
    go_loopw [5, 1] (fun v5 v1 wr => v5 = .int .i64 0 ∧ v1 = .int .i64 k ∧ w = wr) (fun _ _ _ => 0)
    case atStart => exact ⟨rfl, rfl, rfl⟩
    case round =>
      obtain ⟨rfl, rfl, rfl⟩ := hrel
      go_wp2_with fail
      go_ret
      exact ⟨by simp, rfl⟩
  · rcases h with h | ⟨g, o, n', c', cur, e, e1, hb, hc⟩
    · omega
    injection e1 with e1 e2 e3
    subst e1 e2 e3
    have kb := blk_cell hb
    replace hc := Lib.hid hc
    go_enter Try.func31, Try.ntmps31
    go_wp2_with fail
    go_loopw [5, 1] (fun v5 v1 wr => ∃ i : Nat, v5 = .int .i64 i ∧ v1 = .int .i64 (k + i) ∧ i ≤ n ∧ w = wr) (fun v5 _ _ => n - (intOf v5).toNat)
    case atStart => exact ⟨0, rfl, by simp, Nat.zero_le _, rfl⟩
    case round =>
      obtain ⟨i, rfl, rfl, hi, rfl⟩ := hrel
      by_cases hin : i < n
      · have hlt : (i : Int) < n := by omega
        have q0 := hc.out i (by omega); simp only [fI] at q0
        go_wp2_with fail
        go_roundw
        case rel => exact ⟨i + 1, by simp, by congr 1; simp; omega, by omega, trivial⟩
        case measure => simp [intOf]; omega
      · have hlt : ¬ (i : Int) < n := by omega
        go_wp2_with fail
        go_ret
        have hin' : i = n := by omega
        subst hin'
        exact ⟨rfl, rfl⟩
theorem heldOpS_c (A : Option Addr) (n c : Nat) (k : Int) (w : World) (h : Mk (fI k) (.slice A n c) (n * 3) w) (k0 : 0 ≤ k) (k1 : k ≤ 1000000000) (hn : n ≤ 4000000) : Calls Try.prog 55 #[.slice A n c, .int .i64 k] w fun e w' => e = .returned (.int .i64 (k + 3 * n)) ∧ w = w' := by
  by_cases hn0 : n = 0
  · subst hn0
    go_enter Try.func55, Try.ntmps55
    go_wp2_with fail
    go_loopw [5, 1] (fun v5 v1 wr => v5 = .int .i64 0 ∧ v1 = .int .i64 k ∧ w = wr) (fun _ _ _ => 0)
    case atStart => exact ⟨rfl, rfl, rfl⟩
    case round =>
      obtain ⟨rfl, rfl, rfl⟩ := hrel
      go_wp2_with fail
      go_ret
      exact ⟨by simp, rfl⟩
  · rcases h with h | ⟨g, o, n', c', cur, e, e1, hb, hc⟩
    · omega
    injection e1 with e1 e2 e3
    subst e1 e2 e3
    have kb := blk_cell hb
    replace hc := Lib.hid hc
    go_enter Try.func55, Try.ntmps55
    go_wp2_with fail
    go_loopw [5, 1] (fun v5 v1 wr => ∃ i : Nat, v5 = .int .i64 i ∧ v1 = .int .i64 (k + 3 *i) ∧ i ≤ n ∧ w = wr) (fun v5 _ _ => n - (intOf v5).toNat)
    case atStart => exact ⟨0, rfl, by simp, Nat.zero_le _, rfl⟩
    case round =>
      obtain ⟨i, rfl, rfl, hi, rfl⟩ := hrel
      by_cases hin : i < n
      · have hlt : (i : Int) < n := by omega
        have q0 : cur[o + i * 3]? = some (.int .i64 (k + 3 * i)) := by rw [hc.out (i * 3) (by omega)]; simp only [fI]; congr 2; omega
        have q1 : cur[o + i * 3 + 1]? = some (.int .i64 (k + 3 * i + 1)) := by rw [Nat.add_assoc, hc.out (i * 3 + 1) (by omega)]; simp only [fI]; congr 2; omega
        have q2 : cur[o + i * 3 + 2]? = some (.int .i64 (k + 3 * i + 1 + 1)) := by rw [Nat.add_assoc, hc.out (i * 3 + 2) (by omega)]; simp only [fI]; congr 2; omega
        go_wp2_with fail
        go_roundw
        case rel => exact ⟨i + 1, by simp, by congr 1; simp; omega, by omega, trivial⟩
        case measure => simp [intOf]; omega
      · have hlt : ¬ (i : Int) < n := by omega
        go_wp2_with fail
        go_ret
        have hin' : i = n := by omega
        subst hin'
        exact ⟨rfl, rfl⟩
theorem heldSaidS_c (A : Option Addr) (n c : Nat) (k : Int) (w : World) (h : Mk (fS k) (.slice A n c) (n * 2) w) (k0 : 0 ≤ k) (k1 : k ≤ 1000000000) (hn : n ≤ 4000000) : Calls Try.prog 32 #[.slice A n c, .int .i64 k] w fun e w' => e = .returned (.int .i64 (k + 2 * n)) ∧ w = w' := by
  by_cases hn0 : n = 0
  · subst hn0
    go_enter Try.func32, Try.ntmps32
    go_wp2_with fail
    go_loopw [5, 1] (fun v5 v1 wr => v5 = .int .i64 0 ∧ v1 = .int .i64 k ∧ w = wr) (fun _ _ _ => 0)
    case atStart => exact ⟨rfl, rfl, rfl⟩
    case round =>
      obtain ⟨rfl, rfl, rfl⟩ := hrel
      go_wp2_with fail
      go_ret
      exact ⟨by simp, rfl⟩
  · rcases h with h | ⟨g, o, n', c', cur, e, e1, hb, hc⟩
    · omega
    injection e1 with e1 e2 e3
    subst e1 e2 e3
    have kb := blk_cell hb
    replace hc := Lib.hid hc
    go_enter Try.func32, Try.ntmps32
    go_wp2_with fail
    go_loopw [5, 1] (fun v5 v1 wr => ∃ i : Nat, v5 = .int .i64 i ∧ v1 = .int .i64 (k + 2 *i) ∧ i ≤ n ∧ w = wr) (fun v5 _ _ => n - (intOf v5).toNat)
    case atStart => exact ⟨0, rfl, by simp, Nat.zero_le _, rfl⟩
    case round =>
      obtain ⟨i, rfl, rfl, hi, rfl⟩ := hrel
      by_cases hin : i < n
      · have hlt : (i : Int) < n := by omega
        have q0 : cur[o + i * 2]? = some (.bool ((k + 2 * i).tmod 3 == 0)) := by rw [hc.out (i * 2) (by omega), fS, if_pos (by omega)]; congr 4; omega
        have q1 : cur[o + i * 2 + 1]? = some (.int .i64 (k + 2 * i + 1)) := by rw [Nat.add_assoc, hc.out (i * 2 + 1) (by omega), fS, if_neg (by omega)]; congr 2; omega
        have qb : ∀ b : Bool, (b != b) = false := fun b => by cases b <;> rfl
        go_wp2_with fail
        go_roundw
        case rel => exact ⟨i + 1, by simp, by congr 1; simp; omega, by omega, trivial⟩
        case measure => simp [intOf]; omega
      · have hlt : ¬ (i : Int) < n := by omega
        go_wp2_with fail
        go_ret
        have hin' : i = n := by omega
        subst hin'
        exact ⟨rfl, rfl⟩
end Go.Proofs.Ytkphkkfgphhjcaa
