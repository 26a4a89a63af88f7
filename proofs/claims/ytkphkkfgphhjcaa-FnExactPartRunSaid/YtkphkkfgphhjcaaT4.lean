/- The laws' own comparisons: of what is equal. -/
import Derived.Test.YtkphkkfgphhjcaaT0
import Derived.Test.YtkphkkfgphhjcaaS1
namespace Go.Proofs.Ytkphkkfgphhjcaa
open Go.RowKit
set_option linter.unusedSimpArgs false
set_option linter.unusedVariables false
set_option maxHeartbeats 2000000
set_option maxRecDepth 100000
theorem skInts_c (xs : List Int) (v1 v2 : Value) (f1 f2 : List Nat) (w : World) (h1 : SL kI w v1 xs f1) (h2 : SL kI w v2 xs f2) : Calls Try.prog 13 #[v1, v2] w (Ret w (.bool true)) := by
  obtain ⟨A1, c1, rfl, _, _⟩ := h1.form
  obtain ⟨A2, c2, rfl, _, _⟩ := h2.form
  have q1 := Lib.hid h1.ints
  have q2 := Lib.hid h2.ints
  obtain ⟨n, hn⟩ : ∃ n, n = xs.length := ⟨_, rfl⟩
  have hn9 : n ≤ 9223372036854775807 := by have := h1.ints.1; omega
  rw [← hn] at q1 q2 ⊢
  clear h1 h2
  replace hn := Lib.hid hn
  go_enter Try.func13, Try.ntmps13
  go_wp2_with fail
  go_loopw [5] (fun v5 wr => ∃ i : Nat, v5 = .int .i64 i ∧ i ≤ n ∧ Below w.heap.size w wr) (fun v5 _ => n - (intOf v5).toNat)
  case atStart => exact ⟨0, rfl, Nat.zero_le _, Below.refl _ _⟩
  case round =>
    obtain ⟨i, rfl, hi, hB⟩ := hrel
    by_cases hin : i < n
    · have hlt : (i : Int) < n := by omega
      obtain ⟨x, ad, hx, rfl, hc⟩ := q1.out.at hin; obtain ⟨ad2, rfl, hc2⟩ := q2.out.2 i x hx; replace hx := Lib.hid hx; replace hc := (hB.cell (World.block_lt_of_cell? w _ hc)).trans hc; replace hc2 := (hB.cell (World.block_lt_of_cell? w _ hc2)).trans hc2
      go_wp2_with fail
      refine still_all (by kernel_rfl) (by kernel_rfl) ?_
      repeat still_step
      refine wpStill_nil ?_
      go_wp2_with fail
      go_roundw
      case rel => exact ⟨i + 1, by simp, by omega, hB.drew⟩
      case measure => simp [intOf]; omega
    · have hlt : ¬ (i : Int) < n := by omega
      go_wp2_with fail
      go_ret
      exact ⟨rfl, hB⟩
theorem skProg_c (xs : List Op3) (v1 v2 : Value) (f1 f2 : List Nat) (w : World) (h1 : SL kO w v1 xs f1) (h2 : SL kO w v2 xs f2) : Calls Try.prog 17 #[v1, v2] w (Ret w (.bool true)) := by
  obtain ⟨A1, c1, rfl, _, _⟩ := h1.form
  obtain ⟨A2, c2, rfl, _, _⟩ := h2.form
  have q1 := Lib.hid h1.ops
  have q2 := Lib.hid h2.ops
  obtain ⟨n, hn⟩ : ∃ n, n = xs.length := ⟨_, rfl⟩
  have hn9 : n ≤ 9223372036854775807 := by have := h1.ops.1; omega
  rw [← hn] at q1 q2 ⊢
  clear h1 h2
  replace hn := Lib.hid hn
  go_enter Try.func17, Try.ntmps17
  go_wp2_with fail
  go_loopw [5] (fun v5 wr => ∃ i : Nat, v5 = .int .i64 i ∧ i ≤ n ∧ Below w.heap.size w wr) (fun v5 _ => n - (intOf v5).toNat)
  case atStart => exact ⟨0, rfl, Nat.zero_le _, Below.refl _ _⟩
  case round =>
    obtain ⟨i, rfl, hi, hB⟩ := hrel
    by_cases hin : i < n
    · have hlt : (i : Int) < n := by omega
      obtain ⟨x, y, z, g, o, hx, rfl, a0, a1, a2⟩ := q1.out.at hin; obtain ⟨g2, o2, rfl, b0, b1, b2⟩ := q2.out.2 i (x, y, z) hx; replace hx := Lib.hid hx; replace a0 := (hB.cell (World.block_lt_of_cell? w _ a0)).trans a0; replace a1 := (hB.cell (World.block_lt_of_cell? w _ a1)).trans a1; replace a2 := (hB.cell (World.block_lt_of_cell? w _ a2)).trans a2; replace b0 := (hB.cell (World.block_lt_of_cell? w _ b0)).trans b0; replace b1 := (hB.cell (World.block_lt_of_cell? w _ b1)).trans b1; replace b2 := (hB.cell (World.block_lt_of_cell? w _ b2)).trans b2; simp only at b0 b1 b2
      go_wp2_with fail
      refine still_all (by kernel_rfl) (by kernel_rfl) ?_
      repeat still_step
      refine wpStill_nil ?_
      go_wp2_with fail
      go_roundw
      case rel => exact ⟨i + 1, by simp, by omega, hB.drew⟩
      case measure => simp [intOf]; omega
    · have hlt : ¬ (i : Int) < n := by omega
      go_wp2_with fail
      go_ret
      exact ⟨rfl, hB⟩
/-- A slice of what was said, read. -/
theorem SL.saids {W : World} {A : Option Addr} {n c : Nat} {xs : List Sd} {fp : List Nat} (h : SL kSd W (.slice A n c) xs fp) : n = xs.length ∧ n ≤ 9223372036854775807 ∧ ∀ i b x, xs[i]? = some (b, x) → ∃ g o, A = some ⟨g, o, none⟩ ∧ W.cell? ⟨g, o + i * 2, none⟩ = some (.bool b) ∧ W.cell? ⟨g, o + i * 2 + 1, none⟩ = some (.int .i64 x) := by
  obtain ⟨A', c', h0, h1, h2, _⟩ := id h
  injection h0 with e1 e2 e3
  subst e1 e2 e3
  refine ⟨rfl, by omega, fun i b x hx => ?_⟩
  obtain ⟨y, g, o, cs, f, k1, rfl, _, k2, _, k3⟩ := h.get (i := i) (List.getElem?_eq_some_iff.1 hx).1
  rw [hx] at k1
  injection k1 with k1
  subst k1
  have k4 := k3 0 (by decide)
  have k5 := k3 1 (by decide)
  rw [k2.1] at k4 k5
  exact ⟨g, o, rfl, k4, k5⟩
theorem skSaid_c (xs : List Sd) (v1 v2 : Value) (f1 f2 : List Nat) (w : World) (h1 : SL kSd w v1 xs f1) (h2 : SL kSd w v2 xs f2) : Calls Try.prog 14 #[v1, v2] w (Ret w (.bool true)) := by
  obtain ⟨A1, c1, rfl, _, _⟩ := h1.form
  obtain ⟨A2, c2, rfl, _, _⟩ := h2.form
  have q1 := Lib.hid h1.saids
  have q2 := Lib.hid h2.saids
  obtain ⟨n, hn⟩ : ∃ n, n = xs.length := ⟨_, rfl⟩
  have hn9 : n ≤ 9223372036854775807 := by have := q1.out.2.1; omega
  rw [← hn] at q1 q2 ⊢
  clear h1 h2
  replace hn := Lib.hid hn
  go_enter Try.func14, Try.ntmps14
  go_wp2_with fail
  go_loopw [5] (fun v5 wr => ∃ i : Nat, v5 = .int .i64 i ∧ i ≤ n ∧ Below w.heap.size w wr) (fun v5 _ => n - (intOf v5).toNat)
  case atStart => exact ⟨0, rfl, Nat.zero_le _, Below.refl _ _⟩
  case round =>
    obtain ⟨i, rfl, hi, hB⟩ := hrel
    by_cases hin : i < n
    · have hlt : (i : Int) < n := by omega
      obtain ⟨⟨x, y⟩, hx⟩ : ∃ p, xs[i]? = some p := ⟨_, List.getElem?_eq_getElem (by rw [← hn.out]; exact hin)⟩; obtain ⟨g, o, rfl, a0, a1⟩ := q1.out.2.2 i x y hx; obtain ⟨g2, o2, rfl, b0, b1⟩ := q2.out.2.2 i x y hx; replace hx := Lib.hid hx; replace a0 := (hB.cell (World.block_lt_of_cell? w _ a0)).trans a0; replace a1 := (hB.cell (World.block_lt_of_cell? w _ a1)).trans a1; replace b0 := (hB.cell (World.block_lt_of_cell? w _ b0)).trans b0; replace b1 := (hB.cell (World.block_lt_of_cell? w _ b1)).trans b1
      go_wp2_with fail
      refine still_all (by kernel_rfl) (by kernel_rfl) ?_
      repeat still_step
      refine wpStill_nil ?_
      go_wp2_with fail
      go_roundw
      case rel => exact ⟨i + 1, by simp, by omega, hB.drew⟩
      case measure => simp [intOf]; omega
    · have hlt : ¬ (i : Int) < n := by omega
      go_wp2_with fail
      go_ret
      exact ⟨rfl, hB⟩
theorem skPart_c (p : Pt) (v1 v2 v3 u1 u2 u3 : Value) (f1 f2 f3 g1 g2 g3 : List Nat) (w : World) (h : PtF w p v1 v2 v3 f1 f2 f3) (k : PtF w p u1 u2 u3 g1 g2 g3) : Calls Try.prog 12 #[.agg #[v1, v2, .int .i64 p.pc, .bool p.fails, v3], .agg #[u1, u2, .int .i64 p.pc, .bool p.fails, u3]] w (Ret w (.bool true)) := by
  obtain ⟨A1, c1, rfl, _⟩ := h.prog.form
  obtain ⟨A2, c2, rfl, _⟩ := h.cells.form
  obtain ⟨A3, c3, rfl, _⟩ := h.box.form
  obtain ⟨B1, d1, rfl, _⟩ := k.prog.form
  obtain ⟨B2, d2, rfl, _⟩ := k.cells.form
  obtain ⟨B3, d3, rfl, _⟩ := k.box.form
  have hp := Lib.hid (fun W (hW : Below w.heap.size w W) => skProg_c p.prog _ _ _ _ W (h.prog.below hW) (k.prog.below hW))
  have hc := Lib.hid (fun W (hW : Below w.heap.size w W) => skInts_c p.cells _ _ _ _ W (h.cells.below hW) (k.cells.below hW))
  have hb := Lib.hid (fun W (hW : Below w.heap.size w W) => skInts_c p.box _ _ _ _ W (h.box.below hW) (k.box.below hW))
  clear h k
  obtain ⟨pg, cl, pc, fl, bx⟩ := p
  simp only at *
  have hq1 : w.heap.size < w.heap.size + 1 + 1 := by omega
  go_enter Try.func12, Try.ntmps12
  go_wp2_with fail
  refine (hp.out _ (by repeat (first | (with_reducible exact Below.refl _ _) | (with_reducible assumption) | (with_reducible refine Below.drew ?_) | (with_reducible refine below_drewN' ?_ _) | (with_reducible refine Below.setCell ?_ (by first | (simp; done) | (simp; omega) | omega) _) | (with_reducible refine Below.alloc ?_ (by first | (simp; done) | (simp; omega) | omega) _) | (with_reducible refine Below.trans ?_ (Below.mono (by assumption) (by first | (simp; done) | (simp; omega) | omega)))))).mono ?_
  rintro e w1 ⟨rfl, hB1⟩
  obtain ⟨hc1, hf1⟩ := bcell hB1
  have hz1 := hB1.size
  (try simp only [World.size_alloc, World.size_setCell, World.size_drew] at hz1)
  have hy1 : w.heap.size < w1.heap.size := by omega
  have hx1 : w.heap.size + 1 < w1.heap.size := by omega
  go_wp2_with fail
  refine (hc.out _ (by repeat (first | (with_reducible exact Below.refl _ _) | (with_reducible assumption) | (with_reducible refine Below.drew ?_) | (with_reducible refine below_drewN' ?_ _) | (with_reducible refine Below.setCell ?_ (by first | (simp; done) | (simp; omega) | omega) _) | (with_reducible refine Below.alloc ?_ (by first | (simp; done) | (simp; omega) | omega) _) | (with_reducible refine Below.trans ?_ (Below.mono (by assumption) (by first | (simp; done) | (simp; omega) | omega)))))).mono ?_
  rintro e w2 ⟨rfl, hB2⟩
  obtain ⟨hc2, hf2⟩ := bcell hB2
  have hz2 := hB2.size
  (try simp only [World.size_alloc, World.size_setCell, World.size_drew] at hz2)
  have hy2 : w.heap.size < w2.heap.size := by omega
  have hx2 : w.heap.size + 1 < w2.heap.size := by omega
  go_wp2_with fail
  refine (hb.out _ (by repeat (first | (with_reducible exact Below.refl _ _) | (with_reducible assumption) | (with_reducible refine Below.drew ?_) | (with_reducible refine below_drewN' ?_ _) | (with_reducible refine Below.setCell ?_ (by first | (simp; done) | (simp; omega) | omega) _) | (with_reducible refine Below.alloc ?_ (by first | (simp; done) | (simp; omega) | omega) _) | (with_reducible refine Below.trans ?_ (Below.mono (by assumption) (by first | (simp; done) | (simp; omega) | omega)))))).mono ?_
  rintro e w3 ⟨rfl, hB3⟩
  obtain ⟨hc3, hf3⟩ := bcell hB3
  have hz3 := hB3.size
  (try simp only [World.size_alloc, World.size_setCell, World.size_drew] at hz3)
  go_wp2_with fail
  go_ret
  exact ⟨rfl, (by repeat (first | (with_reducible exact Below.refl _ _) | (with_reducible assumption) | (with_reducible refine Below.drew ?_) | (with_reducible refine below_drewN' ?_ _) | (with_reducible refine Below.setCell ?_ (by first | (simp; done) | (simp; omega) | omega) _) | (with_reducible refine Below.alloc ?_ (by first | (simp; done) | (simp; omega) | omega) _) | (with_reducible refine Below.trans ?_ (Below.mono (by assumption) (by first | (simp; done) | (simp; omega) | omega)))))⟩
theorem skIn_c (a b c : Int) (w : World) : Calls Try.prog 15 #[.int .i64 a, .int .i64 b, .int .i64 c] w fun e w' => e = .returned (.bool (decide (b ≤ a) && decide (a ≤ c))) ∧ w = w' := by
  by_cases h : b ≤ a
  all_goals
    go_enter Try.func15, Try.ntmps15
    go_wp2
    go_ret
    exact ⟨rb (by rw [Bool.eq_iff_iff]; simp; omega), rfl⟩
end Go.Proofs.Ytkphkkfgphhjcaa
