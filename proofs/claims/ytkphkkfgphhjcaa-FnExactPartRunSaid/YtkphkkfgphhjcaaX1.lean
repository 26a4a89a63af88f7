/- The exact laws' helpers: copies of ops, comparisons, marks; of rows. -/
import Derived.Test.YtkphkkfgphhjcaaX0
namespace Go.Proofs.Ytkphkkfgphhjcaa
open Go.RowKit
set_option linter.unusedSimpArgs false
set_option linter.unusedVariables false
set_option maxHeartbeats 1000000
set_option maxRecDepth 100000
theorem arr_set3 {cur : Array Value} {p : Nat} {a b c : Value} (h : p + 2 < cur.size) (j : Nat) : (((cur.setIfInBounds p a).setIfInBounds (p + 1) b).setIfInBounds (p + 2) c)[j]? = if j = p then some a else if j = p + 1 then some b else if j = p + 2 then some c else cur[j]? := by
  simp only [Array.getElem?_setIfInBounds, Array.size_setIfInBounds]
  by_cases h1 : j = p
  · subst h1
    simp; omega
  by_cases h2 : j = p + 1
  · subst h2
    simp; omega
  by_cases h3 : j = p + 2
  · subst h3
    simp; omega
  rw [if_neg (fun e => h3 e.symm), if_neg (fun e => h2 e.symm), if_neg (fun e => h1 e.symm), if_neg h1, if_neg h2, if_neg h3]
theorem toOpS_c (xs : List Op3) (v : Value) (f : List Nat) (w : World) (h : SL kO w v xs f) (hn : xs.length ≤ 1048576) : Calls Try.prog 51 #[v] w (CpS kO xs w) := by
  obtain ⟨A, c, rfl, _, _⟩ := h.form
  have q := Lib.hid h.ops
  obtain ⟨n, hx⟩ : ∃ n, n = xs.length := ⟨_, rfl⟩
  rw [← hx] at q hn ⊢
  clear h
  replace hx := Lib.hid hx
  obtain ⟨i0, h2, h3, h4, h5⟩ := info_parts op_infoX
  replace h2 := Lib.hid h2
  replace h3 := Lib.hid h3
  replace h4 := Lib.hid h4
  replace h5 := Lib.hid h5
  go_enter Try.func51, Try.ntmps51
  go_wp2_with (at_make; refine wpList_make_full _ rfl _ _ 23 rfl w.heap.size 44 i0 (.agg #[.int .i64 0, .int .i64 0, .int .i64 0]) 3 Try.underlying23 h2.out h3.out h4.out _ _ _ _ n rfl rfl rfl rfl (by rw [h5.out]; omega) (by unfold maxLen; omega) (Nat.le_refl _) ?_; intro w1 a1 a2; replace a1 := Lib.hid a1; replace a2 := Lib.hid a2)
  go_loopw [4] (fun v4 wr => ∃ (i : Nat) (cur : Array Value), v4 = .int .i64 i ∧ i ≤ n ∧ Hid (wr.heap[w.heap.size]? = some (.cells cur 44 (0, 0)) ∧ cur.size = n * 3 ∧ (∀ j x y z, j < i → xs[j]? = some (x, y, z) → cur[j * 3]? = some (.int .i64 x) ∧ cur[j * 3 + 1]? = some (.int .i64 y) ∧ cur[j * 3 + 2]? = some (.int .i64 z)) ∧ Below w.heap.size w wr)) (fun v4 _ => n - (intOf v4).toNat)
  case atStart =>
    obtain ⟨cur, b1, b2⟩ := row_blk a1.out
    exact ⟨0, cur, rfl, Nat.zero_le _, Lib.hid ⟨b1, b2, fun j x y z hj => by omega, (Below.refl _ _).grown a2.out (Nat.le_refl _) (fun k hk => by cases hk)⟩⟩
  case round =>
    obtain ⟨i, cur, rfl, hi, hI⟩ := hrel
    clear a1 a2
    by_cases hin : i < n
    · obtain ⟨x, y, z, g, o, hxi, rfl, c0, c1, c2⟩ := q.out.at hin
      obtain ⟨b1, b2, b3, b4⟩ := hI.out
      replace c0 := (b4.cell (World.block_lt_of_cell? w _ c0)).trans c0
      replace c1 := (b4.cell (World.block_lt_of_cell? w _ c1)).trans c1
      replace c2 := (b4.cell (World.block_lt_of_cell? w _ c2)).trans c2
      have hlt : (i : Int) < n := by omega
      have hws := b4.size
      have hwb := (Array.getElem?_eq_some_iff.1 b1).1
      clear b1 b2 b3 b4
      go_wp2_with fail
      refine (toOp_c x y z _).mono ?_
      rintro e w2 ⟨rfl, hB2⟩
      obtain ⟨b1, b2, b3, b4⟩ := hI.out
      have d1 := blk_below b1 hB2
      have hz2 := hB2.size
      have d4 := below_then b4 b4.size hB2
      have kb := blk_cell d1
      have kz := blk_frozen d1
      have hw2 := (Array.getElem?_eq_some_iff.1 d1).1
      obtain ⟨y0, hy0⟩ : ∃ y, cur[i * 3]? = some y := ⟨_, Array.getElem?_eq_getElem (by omega)⟩
      obtain ⟨y1, hy1⟩ : ∃ y, cur[i * 3 + 1]? = some y := ⟨_, Array.getElem?_eq_getElem (by omega)⟩
      obtain ⟨y2, hy2⟩ : ∃ y, cur[i * 3 + 2]? = some y := ⟨_, Array.getElem?_eq_getElem (by omega)⟩
      have hnew : Hid (((((w2).setCell ⟨w.heap.size, i * 3, none⟩ (.int .i64 x)).setCell ⟨w.heap.size, i * 3 + 1, none⟩ (.int .i64 y)).setCell ⟨w.heap.size, i * 3 + 2, none⟩ (.int .i64 z)).heap[w.heap.size]? = some (.cells (((cur.setIfInBounds (i * 3) (.int .i64 x)).setIfInBounds (i * 3 + 1) (.int .i64 y)).setIfInBounds (i * 3 + 2) (.int .i64 z)) 44 (0, 0)) ∧ (((cur.setIfInBounds (i * 3) (.int .i64 x)).setIfInBounds (i * 3 + 1) (.int .i64 y)).setIfInBounds (i * 3 + 2) (.int .i64 z)).size = n * 3 ∧ (∀ j x' y' z', j < i + 1 → xs[j]? = some (x', y', z') → (((cur.setIfInBounds (i * 3) (.int .i64 x)).setIfInBounds (i * 3 + 1) (.int .i64 y)).setIfInBounds (i * 3 + 2) (.int .i64 z))[j * 3]? = some (.int .i64 x') ∧ (((cur.setIfInBounds (i * 3) (.int .i64 x)).setIfInBounds (i * 3 + 1) (.int .i64 y)).setIfInBounds (i * 3 + 2) (.int .i64 z))[j * 3 + 1]? = some (.int .i64 y') ∧ (((cur.setIfInBounds (i * 3) (.int .i64 x)).setIfInBounds (i * 3 + 1) (.int .i64 y)).setIfInBounds (i * 3 + 2) (.int .i64 z))[j * 3 + 2]? = some (.int .i64 z')) ∧ Below w.heap.size w ((((w2).setCell ⟨w.heap.size, i * 3, none⟩ (.int .i64 x)).setCell ⟨w.heap.size, i * 3 + 1, none⟩ (.int .i64 y)).setCell ⟨w.heap.size, i * 3 + 2, none⟩ (.int .i64 z))) := Lib.hid ⟨blk_put (blk_put (blk_put d1 _ _) _ _) _ _, by simpa using b2, fun j x' y' z' hj hxj => by
        have hsz : i * 3 + 2 < cur.size := by omega
        rw [arr_set3 hsz, arr_set3 hsz, arr_set3 hsz]
        by_cases e : j = i
        · subst e
          rw [hxi] at hxj
          injection hxj with hxj
          injection hxj with r1 r2
          injection r2 with r2 r3
          subst r1 r2 r3
          refine ⟨by simp, ?_, ?_⟩
          · rw [if_neg (by omega)]; simp
          · rw [if_neg (by omega), if_neg (by omega)]; simp
        · obtain ⟨t1, t2, t3⟩ := b3 j x' y' z' (by omega) hxj
          refine ⟨?_, ?_, ?_⟩
          · rw [if_neg (by omega), if_neg (by omega), if_neg (by omega)]; exact t1
          · rw [if_neg (by omega), if_neg (by omega), if_neg (by omega)]; exact t2
          · rw [if_neg (by omega), if_neg (by omega), if_neg (by omega)]; exact t3, ((d4.setCell (p := ⟨w.heap.size, i * 3, none⟩) (Nat.le_refl _) _).setCell (p := ⟨w.heap.size, i * 3 + 1, none⟩) (Nat.le_refl _) _).setCell (p := ⟨w.heap.size, i * 3 + 2, none⟩) (Nat.le_refl _) _⟩
      clear b1 b2 b3 b4 hI d1 d4 hB2
      replace hxi := Lib.hid hxi
      go_wp2_with fail
      go_roundw
      case rel => exact ⟨i + 1, _, by simp, by omega, hnew⟩
      case measure => simp [intOf]; omega
    · have hlt : ¬ (i : Int) < n := by omega
      go_wp2_with fail
      go_ret
      obtain ⟨b1, b2, b3, b4⟩ := hI.out
      exact cps_of hx.out (by omega) b1 (fun j u hu => by
        obtain ⟨d, a, b, hy, hq⟩ := flatO_at hu
        obtain ⟨t1, t2, t3⟩ := b3 (j / 3) d a b (by have := (List.getElem?_eq_some_iff.1 hy).1; have := hx.out; omega) hy
        rcases hq with ⟨e, rfl⟩ | ⟨e, rfl⟩ | ⟨e, rfl⟩
        · rw [show j = j / 3 * 3 by omega]; exact t1
        · rw [show j = j / 3 * 3 + 1 by omega]; exact t2
        · rw [show j = j / 3 * 3 + 2 by omega]; exact t3) b4
theorem eqOp_c (d a b : Int) (w : World) : Calls Try.prog 83 #[.agg #[.int .i64 d, .int .i64 a, .int .i64 b], .agg #[.int .i64 d, .int .i64 a, .int .i64 b]] w (Ret w (.bool true)) := by
  go_enter Try.func83, Try.ntmps83
  go_wp2_with fail
  go_ret
  exact ⟨rfl, (by repeat (first | (with_reducible exact Below.refl _ _) | (with_reducible assumption) | (with_reducible refine Below.drew ?_) | (with_reducible refine below_drewN' ?_ _) | (with_reducible refine Below.setCell ?_ (by first | (simp; done) | (simp; omega) | omega) _) | (with_reducible refine Below.alloc ?_ (by first | (simp; done) | (simp; omega) | omega) _) | (with_reducible refine Below.trans ?_ (Below.mono (by assumption) (by first | (simp; done) | (simp; omega) | omega)))))⟩
theorem eqSaid_c (r : Bool) (x : Int) (w : World) : Calls Try.prog 53 #[.agg #[.bool r, .int .i64 x], .agg #[.bool r, .int .i64 x]] w (Ret w (.bool true)) := by
  have hr : (r != r) = false := by cases r <;> rfl
  go_enter Try.func53, Try.ntmps53
  go_wp2_with fail
  go_ret
  exact ⟨rfl, (by repeat (first | (with_reducible exact Below.refl _ _) | (with_reducible assumption) | (with_reducible refine Below.drew ?_) | (with_reducible refine below_drewN' ?_ _) | (with_reducible refine Below.setCell ?_ (by first | (simp; done) | (simp; omega) | omega) _) | (with_reducible refine Below.alloc ?_ (by first | (simp; done) | (simp; omega) | omega) _) | (with_reducible refine Below.trans ?_ (Below.mono (by assumption) (by first | (simp; done) | (simp; omega) | omega)))))⟩
theorem eqIntS_c (xs : List Int) (v1 v2 : Value) (f1 f2 : List Nat) (w : World) (h1 : SL kI w v1 xs f1) (h2 : SL kI w v2 xs f2) : Calls Try.prog 25 #[v1, v2] w (Ret w (.bool true)) := by
  obtain ⟨A1, c1, rfl, _, _⟩ := h1.form
  obtain ⟨A2, c2, rfl, _, _⟩ := h2.form
  have q1 := Lib.hid h1.ints
  have q2 := Lib.hid h2.ints
  obtain ⟨n, hn⟩ : ∃ n, n = xs.length := ⟨_, rfl⟩
  have hn9 : n ≤ 9223372036854775807 := by have := h1.ints.1; omega
  rw [← hn] at q1 q2 ⊢
  clear h1 h2
  replace hn := Lib.hid hn
  go_enter Try.func25, Try.ntmps25
  go_wp2_with fail
  go_loopw [5] (fun v5 wr => ∃ i : Nat, v5 = .int .i64 i ∧ i ≤ n ∧ Below w.heap.size w wr) (fun v5 _ => n - (intOf v5).toNat)
  case atStart => exact ⟨0, rfl, Nat.zero_le _, Below.refl _ _⟩
  case round =>
    obtain ⟨i, rfl, hi, hB⟩ := hrel
    by_cases hin : i < n
    · have hlt : (i : Int) < n := by omega
      obtain ⟨x, ad, hx, rfl, hc⟩ := q1.out.at hin; obtain ⟨ad2, rfl, hc2⟩ := q2.out.2 i x hx; replace hx := Lib.hid hx; replace hc := (hB.cell (World.block_lt_of_cell? w _ hc)).trans hc; replace hc2 := (hB.cell (World.block_lt_of_cell? w _ hc2)).trans hc2
      go_wp2_with fail
      refine still_all (by kernel_rfl) (by kernel_rfl) ?_; (repeat still_step); refine wpStill_nil ?_
      go_wp2_with fail
      skip
      go_roundw
      case rel => exact ⟨i + 1, by simp, by omega, hB.drew⟩
      case measure => simp [intOf]; omega
    · have hlt : ¬ (i : Int) < n := by omega
      go_wp2_with fail
      go_ret
      exact ⟨rfl, hB⟩
theorem eqOpS_c (xs : List Op3) (v1 v2 : Value) (f1 f2 : List Nat) (w : World) (h1 : SL kO w v1 xs f1) (h2 : SL kO w v2 xs f2) : Calls Try.prog 52 #[v1, v2] w (Ret w (.bool true)) := by
  obtain ⟨A1, c1, rfl, _, _⟩ := h1.form
  obtain ⟨A2, c2, rfl, _, _⟩ := h2.form
  have q1 := Lib.hid h1.ops
  have q2 := Lib.hid h2.ops
  obtain ⟨n, hn⟩ : ∃ n, n = xs.length := ⟨_, rfl⟩
  have hn9 : n ≤ 9223372036854775807 := by have := h1.ops.1; omega
  rw [← hn] at q1 q2 ⊢
  clear h1 h2
  replace hn := Lib.hid hn
  go_enter Try.func52, Try.ntmps52
  go_wp2_with fail
  go_loopw [5] (fun v5 wr => ∃ i : Nat, v5 = .int .i64 i ∧ i ≤ n ∧ Below w.heap.size w wr) (fun v5 _ => n - (intOf v5).toNat)
  case atStart => exact ⟨0, rfl, Nat.zero_le _, Below.refl _ _⟩
  case round =>
    obtain ⟨i, rfl, hi, hB⟩ := hrel
    by_cases hin : i < n
    · have hlt : (i : Int) < n := by omega
      obtain ⟨x, y, z, g, o, hx, rfl, a0, a1, a2⟩ := q1.out.at hin; obtain ⟨g2, o2, rfl, b0, b1, b2⟩ := q2.out.2 i (x, y, z) hx; replace hx := Lib.hid hx; replace a0 := (hB.cell (World.block_lt_of_cell? w _ a0)).trans a0; replace a1 := (hB.cell (World.block_lt_of_cell? w _ a1)).trans a1; replace a2 := (hB.cell (World.block_lt_of_cell? w _ a2)).trans a2; replace b0 := (hB.cell (World.block_lt_of_cell? w _ b0)).trans b0; replace b1 := (hB.cell (World.block_lt_of_cell? w _ b1)).trans b1; replace b2 := (hB.cell (World.block_lt_of_cell? w _ b2)).trans b2; simp only at b0 b1 b2
      go_wp2_with fail
      refine still_tail 8 (by kernel_rfl) (by kernel_rfl) ?_; simp only [List.take_succ_cons, List.take_zero, List.drop_succ_cons, List.drop_zero]; (repeat still_step); refine wpStill_nil ?_
      go_wp2_with fail
      refine (eqOp_c x y z _).mono ?_; rintro e w1 ⟨rfl, hB1⟩; go_wp2_with fail
      go_roundw
      case rel => exact ⟨i + 1, by simp, by omega, below_then hB.drew hB.drew.size hB1⟩
      case measure => simp [intOf]; omega
    · have hlt : ¬ (i : Int) < n := by omega
      go_wp2_with fail
      go_ret
      exact ⟨rfl, hB⟩
theorem eqSaidS_c (xs : List Sd) (v1 v2 : Value) (f1 f2 : List Nat) (w : World) (h1 : SL kSd w v1 xs f1) (h2 : SL kSd w v2 xs f2) : Calls Try.prog 26 #[v1, v2] w (Ret w (.bool true)) := by
  obtain ⟨A1, c1, rfl, _, _⟩ := h1.form
  obtain ⟨A2, c2, rfl, _, _⟩ := h2.form
  have q1 := Lib.hid h1.saids
  have q2 := Lib.hid h2.saids
  obtain ⟨n, hn⟩ : ∃ n, n = xs.length := ⟨_, rfl⟩
  have hn9 : n ≤ 9223372036854775807 := by have := q1.out.2.1; omega
  rw [← hn] at q1 q2 ⊢
  clear h1 h2
  replace hn := Lib.hid hn
  go_enter Try.func26, Try.ntmps26
  go_wp2_with fail
  go_loopw [5] (fun v5 wr => ∃ i : Nat, v5 = .int .i64 i ∧ i ≤ n ∧ Below w.heap.size w wr) (fun v5 _ => n - (intOf v5).toNat)
  case atStart => exact ⟨0, rfl, Nat.zero_le _, Below.refl _ _⟩
  case round =>
    obtain ⟨i, rfl, hi, hB⟩ := hrel
    by_cases hin : i < n
    · have hlt : (i : Int) < n := by omega
      obtain ⟨⟨x, y⟩, hx⟩ : ∃ p, xs[i]? = some p := ⟨_, List.getElem?_eq_getElem (by rw [← hn.out]; exact hin)⟩; obtain ⟨g, o, rfl, a0, a1⟩ := q1.out.2.2 i x y hx; obtain ⟨g2, o2, rfl, b0, b1⟩ := q2.out.2.2 i x y hx; replace hx := Lib.hid hx; replace a0 := (hB.cell (World.block_lt_of_cell? w _ a0)).trans a0; replace a1 := (hB.cell (World.block_lt_of_cell? w _ a1)).trans a1; replace b0 := (hB.cell (World.block_lt_of_cell? w _ b0)).trans b0; replace b1 := (hB.cell (World.block_lt_of_cell? w _ b1)).trans b1
      go_wp2_with fail
      refine still_tail 8 (by kernel_rfl) (by kernel_rfl) ?_; simp only [List.take_succ_cons, List.take_zero, List.drop_succ_cons, List.drop_zero]; (repeat still_step); refine wpStill_nil ?_
      go_wp2_with fail
      refine (eqSaid_c x y _).mono ?_; rintro e w1 ⟨rfl, hB1⟩; go_wp2_with fail
      go_roundw
      case rel => exact ⟨i + 1, by simp, by omega, below_then hB.drew hB.drew.size hB1⟩
      case measure => simp [intOf]; omega
    · have hlt : ¬ (i : Int) < n := by omega
      go_wp2_with fail
      go_ret
      exact ⟨rfl, hB⟩
/-- The first N cells of a row read f 0, f 1, .. -/
def Mk (f : Nat → Value) (v : Value) (N : Nat) (W : World) : Prop := N = 0 ∨ ∃ g o n c cur e, v = .slice (some ⟨g, o, none⟩) n c ∧ W.heap[g]? = some (.cells cur e (0, 0)) ∧ ∀ j, j < N → cur[o + j]? = some (f j)
theorem Mk.keep {f : Nat → Value} {v : Value} {N : Nat} {W W' : World} {fp : List Nat} (h : Mk f v N W) (hv : ∀ g o n c, v = .slice (some ⟨g, o, none⟩) n c → W'.heap[g]? = W.heap[g]?) : Mk f v N W' := by
  rcases h with h | ⟨g, o, n, c, cur, e, h1, h2, h3⟩
  · exact .inl h
  · exact .inr ⟨g, o, n, c, cur, e, h1, (hv g o n c h1).trans h2, h3⟩
def fI (k : Int) (j : Nat) : Value := .int .i64 (k + j)
def fS (k : Int) (j : Nat) : Value := if j % 2 = 0 then .bool ((k + j).tmod 3 == 0) else .int .i64 (k + j)
/-- What a mark leaves. -/
def MkQ (w : World) (S : List Nat) (f : Nat → Value) (v : Value) (N : Nat) (k : Int) (e : Ending) (w' : World) : Prop := e = .returned (.int .i64 k) ∧ Kept S w w' ∧ Mk f v N w'
theorem SL.one_of {α : Type} {enc : α → List Value} {sz : Nat} {hl : ∀ x, (enc x).length = sz} {W : World} {v : Value} {xs : List α} {fp : List Nat} {lo hi : Nat} (h : SL (Kd.flat enc sz hl) W v xs fp) (ho : Own W lo hi fp) (hne : xs ≠ []) : ∃ g o c cur e, v = .slice (some ⟨g, o, none⟩) xs.length c ∧ fp = [g] ∧ W.heap[g]? = some (.cells cur e (0, 0)) ∧ (∀ j, j < xs.length * sz → ∃ y, cur[o + j]? = some y) ∧ xs.length ≤ 9223372036854775807 := by
  obtain ⟨A, c, rfl, h1, h2, ⟨rfl, _⟩ | ⟨g, o, cur, e, fr, f, rfl, hg, rfl, h4⟩⟩ := h
  · exact absurd rfl hne
  · obtain rfl : f = [] := At.flat_nil h4
    obtain ⟨cur', e', h5⟩ := (ho.2 g (by simp)).2
    rw [hg] at h5
    injection h5 with h5
    injection h5 with q1 q2 q3
    subst q3
    refine ⟨g, o, c, cur, e, rfl, rfl, hg, fun j hj => ?_, by omega⟩
    have hj' : j < (xs.flatMap enc).length := by rw [flat_len xs hl]; exact hj
    exact ⟨_, cells_of_at h4 j _ (List.getElem?_eq_getElem hj')⟩
end Go.Proofs.Ytkphkkfgphhjcaa
