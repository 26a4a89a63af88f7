/- The exact laws' helpers: sizes, copies, comparisons, marks; of rows. -/
import Derived.Test.YtkphkkfgphhjcaaT4
import Derived.Test.YtkphkkfgphhjcaaP13
namespace Go.Proofs.Ytkphkkfgphhjcaa
open Go.RowKit
set_option linter.unusedSimpArgs false
set_option linter.unusedVariables false
/-- What is left of a size. -/
def leftOf (l n : Int) : Int := if l < n then -1 else l - n
theorem szIntS_c (A : Option Addr) (n c : Nat) (l : Int) (w : World) (h0 : 0 ≤ l) (h1 : l ≤ 1048576) (hn : n ≤ 9223372036854775807) : Calls Try.prog 50 #[.slice A n c, .int .i64 l] w fun e w' => e = .returned (.int .i64 (leftOf l n)) ∧ w = w' := by
  have e1 : IntKind.i64.wrap (l - (n : Int)) = l - n := wr (by omega) (by omega)
  unfold leftOf
  by_cases h : l < n
  · rw [if_pos h]
    have h' : l - (n : Int) < 0 := by omega
    go_enter Try.func50, Try.ntmps50
    go_wp2_with fail
    go_ret
    exact ⟨rfl, rfl⟩
  · rw [if_neg h]
    have h' : ¬ l - (n : Int) < 0 := by omega
    go_enter Try.func50, Try.ntmps50
    go_wp2_with fail
    go_ret
    exact ⟨rfl, rfl⟩
theorem szOpS_c (A : Option Addr) (n c : Nat) (l : Int) (w : World) (h0 : 0 ≤ l) (h1 : l ≤ 1048576) (hn : n ≤ 9223372036854775807) : Calls Try.prog 49 #[.slice A n c, .int .i64 l] w fun e w' => e = .returned (.int .i64 (leftOf l n)) ∧ w = w' := by
  have e1 : IntKind.i64.wrap (l - (n : Int)) = l - n := wr (by omega) (by omega)
  unfold leftOf
  by_cases h : l < n
  · rw [if_pos h]
    have h' : l - (n : Int) < 0 := by omega
    go_enter Try.func49, Try.ntmps49
    go_wp2_with fail
    go_ret
    exact ⟨rfl, rfl⟩
  · rw [if_neg h]
    have h' : ¬ l - (n : Int) < 0 := by omega
    go_enter Try.func49, Try.ntmps49
    go_wp2_with fail
    go_ret
    exact ⟨rfl, rfl⟩
/-- A row copied. -/
def CpS {α : Type} (d : Kd α) (xs : List α) (w : World) (e : Ending) (w' : World) : Prop := ∃ U c g, e = .returned (.slice U xs.length c) ∧ Has w.heap.size w'.heap.size w' (SLn d w.heap.size w'.heap.size (.slice U xs.length c) xs g) ∧ Below w.heap.size w w'
theorem cps_of {α : Type} {enc : α → List Value} {sz : Nat} {hl : ∀ x, (enc x).length = sz} {w W : World} {n : Nat} {xs : List α} {cur : Array Value} {e : TypeId} (hn : n = xs.length) (hm : n ≤ 9223372036854775807) (hb : W.heap[w.heap.size]? = some (.cells cur e (0, 0))) (hc : ∀ (j : Nat) (u : Value), (xs.flatMap enc)[j]? = some u → cur[j]? = some u) (hB : Below w.heap.size w W) : CpS (Kd.flat enc sz hl) xs w (.returned (.slice (some ⟨w.heap.size, 0, none⟩) n n)) W := by
  subst hn
  refine ⟨_, _, [w.heap.size], rfl, has_new ⟨_, _, rfl, Nat.le_refl _, hm, .inr ⟨w.heap.size, 0, cur, e, _, [], rfl, hb, rfl, at_of_cells (fun j u hu => by rw [Nat.zero_add]; exact hc j u hu)⟩⟩ ⟨by simp, fun b hb' => ?_⟩, hB⟩
  simp only [List.mem_singleton] at hb'
  subst hb'
  exact ⟨⟨Nat.le_refl _, (Array.getElem?_eq_some_iff.1 hb).1⟩, cur, e, hb⟩
theorem flatI (l : List Int) : l.flatMap encI = l.map (.int .i64) := by
  induction l with
  | nil => rfl
  | cons a r ih => rw [List.flatMap_cons, ih]; rfl
theorem int_infoX : (Try.prog.info? 3).map (fun i => (i.zero, i.size, i.bytes)) = some (some (.int .i64 0), 1, 8) := by kernel_rfl
theorem op_infoX : (Try.prog.info? 44).map (fun i => (i.zero, i.size, i.bytes)) = some (some (.agg #[.int .i64 0, .int .i64 0, .int .i64 0]), 3, 24) := by kernel_rfl
theorem row_blk {w w' : World} {e size n : Nat} {g c : Nat} {xs : List Value} (h : w'.ownsRow w.heap.size e size (.slice (some ⟨g, 0, none⟩) n c) n xs) : ∃ cur, w'.heap[g]? = some (.cells cur e (0, 0)) ∧ cur.size = c * size := by
  rcases h.2 with ⟨h0, _⟩ | ⟨g', cap, cur, h0, _, hg, _, _, hs, _⟩
  · cases h0
  · injection h0 with e1 e2 e3
    injection e1 with e1
    injection e1 with e1 _
    subst e1 e3
    exact ⟨cur, hg, hs⟩
set_option maxHeartbeats 1000000
set_option maxRecDepth 100000
theorem toIntS_c (xs : List Int) (v : Value) (f : List Nat) (w : World) (h : SL kI w v xs f) (hn : xs.length ≤ 1048576) : Calls Try.prog 23 #[v] w (CpS kI xs w) := by
  obtain ⟨A, c, rfl, _, _⟩ := h.form
  have q := Lib.hid h.ints
  obtain ⟨n, hx⟩ : ∃ n, n = xs.length := ⟨_, rfl⟩
  rw [← hx] at q hn ⊢
  clear h
  replace hx := Lib.hid hx
  obtain ⟨i0, h2, h3, h4, h5⟩ := info_parts int_infoX
  replace h2 := Lib.hid h2
  replace h3 := Lib.hid h3
  replace h4 := Lib.hid h4
  replace h5 := Lib.hid h5
  go_enter Try.func23, Try.ntmps23
  go_wp2_with (at_make; refine wpList_make_full _ rfl _ _ 24 rfl w.heap.size 3 i0 (.int .i64 0) 1 Try.underlying24 h2.out h3.out h4.out _ _ _ _ n rfl rfl rfl rfl (by rw [h5.out]; omega) (by unfold maxLen; omega) (Nat.le_refl _) ?_; intro w1 a1 a2; replace a1 := Lib.hid a1; replace a2 := Lib.hid a2)
  go_loopw [4] (fun v4 wr => ∃ (i : Nat) (cur : Array Value), v4 = .int .i64 i ∧ i ≤ n ∧ Hid (wr.heap[w.heap.size]? = some (.cells cur 3 (0, 0)) ∧ cur.size = n ∧ (∀ j x, j < i → xs[j]? = some x → cur[j]? = some (.int .i64 x)) ∧ Below w.heap.size w wr)) (fun v4 _ => n - (intOf v4).toNat)
  case atStart =>
    obtain ⟨cur, b1, b2⟩ := row_blk a1.out
    exact ⟨0, cur, rfl, Nat.zero_le _, Lib.hid ⟨b1, by omega, fun j x hj => by omega, (Below.refl _ _).grown a2.out (Nat.le_refl _) (fun k hk => by cases hk)⟩⟩
  case round =>
    obtain ⟨i, cur, rfl, hi, hI⟩ := hrel
    clear a1 a2
    by_cases hin : i < n
    · obtain ⟨x, ad, hxi, rfl, hc⟩ := q.out.at hin
      obtain ⟨b1, b2, b3, b4⟩ := hI.out
      replace hc := (b4.cell (World.block_lt_of_cell? w _ hc)).trans hc
      have kb := blk_cell b1
      have kz := blk_frozen b1
      obtain ⟨y0, hci⟩ : ∃ y, cur[i]? = some y := ⟨_, Array.getElem?_eq_getElem (by omega)⟩
      have hlt : (i : Int) < n := by omega
      have hnew : Hid ((wr.setCell ⟨w.heap.size, i, none⟩ (.int .i64 x)).heap[w.heap.size]? = some (.cells (cur.setIfInBounds i (.int .i64 x)) 3 (0, 0)) ∧ (cur.setIfInBounds i (.int .i64 x)).size = n ∧ (∀ j y, j < i + 1 → xs[j]? = some y → (cur.setIfInBounds i (.int .i64 x))[j]? = some (.int .i64 y)) ∧ Below w.heap.size w (wr.setCell ⟨w.heap.size, i, none⟩ (.int .i64 x))) := Lib.hid ⟨blk_put b1 _ _, by simpa using b2, fun j y hj hy => by
        rw [Array.getElem?_setIfInBounds]
        by_cases e : i = j
        · subst e
          rw [hxi] at hy
          injection hy with hy
          subst hy
          simp; omega
        · rw [if_neg e]
          exact b3 j y (by omega) hy, b4.setCell (Nat.le_refl _) _⟩
      clear b1 b2 b3 b4 hI
      replace hxi := Lib.hid hxi
      go_wp2_with fail
      go_roundw
      case rel => exact ⟨i + 1, _, by simp, by omega, hnew⟩
      case measure => simp [intOf]; omega
    · have hlt : ¬ (i : Int) < n := by omega
      go_wp2_with fail
      go_ret
      obtain ⟨b1, b2, b3, b4⟩ := hI.out
      exact cps_of hx.out (by omega) b1 (fun j u hu => by
        rw [flatI, List.getElem?_map] at hu
        obtain ⟨y, hy, rfl⟩ := Option.map_eq_some_iff.1 hu
        exact b3 j y (by have := (List.getElem?_eq_some_iff.1 hy).1; have := hx.out; omega) hy) b4
theorem toOp_c (d a b : Int) (w : World) : Calls Try.prog 82 #[.agg #[.int .i64 d, .int .i64 a, .int .i64 b]] w (Ret w (.agg #[.int .i64 d, .int .i64 a, .int .i64 b])) := by
  go_enter Try.func82, Try.ntmps82
  go_wp2_with fail
  exact bodyPost_ret (v := .agg #[.int .i64 d, .int .i64 a, .int .i64 b]) (by simp [results, Try.results82, go_sem]) rfl ⟨rfl, (by repeat (first | (with_reducible exact Below.refl _ _) | (with_reducible assumption) | (with_reducible refine Below.drew ?_) | (with_reducible refine below_drewN' ?_ _) | (with_reducible refine Below.setCell ?_ (by first | (simp; done) | (simp; omega) | omega) _) | (with_reducible refine Below.alloc ?_ (by first | (simp; done) | (simp; omega) | omega) _) | (with_reducible refine Below.trans ?_ (Below.mono (by assumption) (by first | (simp; done) | (simp; omega) | omega)))))⟩
theorem flatO_at {xs : List Op3} {j : Nat} {u : Value} (hu : (xs.flatMap encO)[j]? = some u) : ∃ d a b, xs[j / 3]? = some (d, a, b) ∧ ((j % 3 = 0 ∧ u = .int .i64 d) ∨ (j % 3 = 1 ∧ u = .int .i64 a) ∨ (j % 3 = 2 ∧ u = .int .i64 b)) := by
  induction xs generalizing j with
  | nil => simp at hu
  | cons x r ih =>
    obtain ⟨d, a, b⟩ := x
    rw [List.flatMap_cons] at hu
    match j, hu with
    | 0, hu => simp [encO] at hu; exact ⟨d, a, b, rfl, .inl ⟨rfl, hu.symm⟩⟩
    | 1, hu => simp [encO] at hu; exact ⟨d, a, b, rfl, .inr (.inl ⟨rfl, hu.symm⟩)⟩
    | 2, hu => simp [encO] at hu; exact ⟨d, a, b, rfl, .inr (.inr ⟨rfl, hu.symm⟩)⟩
    | k + 3, hu =>
      have hu' : (r.flatMap encO)[k]? = some u := by simpa [encO] using hu
      obtain ⟨d', a', b', h1, h2⟩ := ih hu'
      have e1 : (k + 3) / 3 = k / 3 + 1 := by omega
      have e2 : (k + 3) % 3 = k % 3 := by omega
      exact ⟨d', a', b', by rw [e1]; simpa using h1, by rw [e2]; exact h2⟩
end Go.Proofs.Ytkphkkfgphhjcaa
