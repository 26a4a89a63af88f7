/- A new part: the region's facts. -/
import Derived.Test.YtkphkkfgphhjcaaQ2
import Derived.Test.YtkphkkfgphhjcaaS7
namespace Go.Proofs.Ytkphkkfgphhjcaa
open Go.RowKit
set_option linter.unusedSimpArgs false
set_option linter.unusedVariables false
theorem list_len6_Q3 : ∀ (l : List Value), l.length = 6 → ∃ x0 x1 x2 x3 x4 x5, l = x0 :: x1 :: x2 :: x3 :: x4 :: x5 :: []
  | x0 :: x1 :: x2 :: x3 :: x4 :: x5 :: [], _ => ⟨x0, x1, x2, x3, x4, x5, rfl⟩

structure PnI (w : World) (done : Bool) (W : World) : Prop where
  below : Below w.heap.size w W
  size : w.heap.size + 1 ≤ W.heap.size
  res : done = false → W.heap[w.heap.size]? = some zPt
theorem PnI.go {w W W' : World} {d : Bool} (h : PnI w d W) (hb : Below W.heap.size W W') : PnI w d W' :=
  have hs := h.size
  ⟨h.below.trans (hb.mono (by omega)), by have := hb.size; omega, fun e => (hb.block _ (by omega)).trans (h.res e)⟩
theorem row_zero (W : World) (N : Nat) (hN : N ≤ W.heap.size) : RowF kI 3 N (.slice (some ⟨W.heap.size, 0, none⟩) 8 8) [0, 0, 0, 0, 0, 0, 0, 0] [W.heap.size] (W.alloc (.cells #[.int .i64 0, .int .i64 0, .int .i64 0, .int .i64 0, .int .i64 0, .int .i64 0, .int .i64 0, .int .i64 0] 3 (0, 0))) := by
  have ht := heap_top W (.cells #[.int .i64 0, .int .i64 0, .int .i64 0, .int .i64 0, .int .i64 0, .int .i64 0, .int .i64 0, .int .i64 0] 3 (0, 0)) rfl
  refine ⟨⟨_, _, rfl, by simp, by decide, .inr ⟨W.heap.size, 0, _, _, _, [], rfl, ht, rfl, at_of_cells (fun j u hu => ?_)⟩⟩, ⟨by simp, fun b hb => ?_⟩, fun b hb => ?_, _, _, rfl⟩
  · rw [Nat.zero_add, ← Array.getElem?_toList]
    exact hu
  · simp only [List.mem_singleton] at hb
    subst hb
    exact ⟨⟨hN, by simp⟩, _, _, ht⟩
  · simp only [List.mem_singleton] at hb
    subst hb
    exact ⟨_, ht⟩
def pn0 (ops : List Op3) : Pt := ⟨ops, [0, 0, 0, 0, 0, 0, 0, 0], 0, false, []⟩
def PnF (M : Nat) (ops : List Op3) (a1 : Addr) (c1 : Nat) (a2 : Addr) (c2 : Nat) (f1 f2 : List Nat) (W : World) : Prop := CpP M (pn0 ops) (.slice (some a1) ops.length c1) (.slice (some a2) 8 c2) (.slice none 0 0) f1 f2 [] W
def PnA (M : Nat) (ops : List Op3) (v : Value) (W : World) : Prop := ∃ a1 c1 a2 c2 f1 f2, v = .agg #[.slice (some a1) ops.length c1, .slice (some a2) 8 c2, .int .i64 0, .bool false, .slice none 0 0] ∧ PnF M ops a1 c1 a2 c2 f1 f2 W
def PnD (M : Nat) (ops : List Op3) (v : Value) (W : World) : Prop := ∃ a1 c1 a2 c2 f1 f2, W.heap[M + 1]? = some (.cells #[.slice (some a1) ops.length c1, .slice (some a2) 8 c2, .int .i64 0, .bool false, .slice none 0 0] 26 (0, 0)) ∧ PnF M ops a1 c1 a2 c2 f1 f2 W
theorem pnF_of {M : Nat} {ops : List Op3} {a1 : Addr} {c1 : Nat} {a2 : Addr} {c2 : Nat} {f1 f2 : List Nat} {W : World} (h1 : RowF kO 44 (M + 2) (.slice (some a1) ops.length c1) ops f1 W) (h2 : RowF kI 3 (M + 2) (.slice (some a2) 8 c2) [0, 0, 0, 0, 0, 0, 0, 0] f2 W) : PnF M ops a1 c1 a2 c2 f1 f2 W := by
  refine ⟨⟨h1.1, h2.1, sl_nil _ _⟩, ⟨List.nodup_append.2 ⟨h1.2.1.1, by simpa using h2.2.1.1, fun x hx y hy e => ?_⟩, fun b hb => ?_⟩⟩
  · subst e
    simp only [List.append_nil] at hy
    obtain ⟨c1, k1⟩ := h1.2.2.1 x hx
    obtain ⟨c2, k2⟩ := h2.2.2.1 x hy
    rw [k1] at k2
    simp at k2
  · simp only [List.append_nil] at hb
    rcases List.mem_append.1 hb with hb | hb
    · exact h1.2.1.2 b hb
    · exact h2.2.1.2 b hb
theorem pnA_st {M : Nat} {ops : List Op3} : StableV (CpR M) (PnA M ops) := fun v W1 W2 hR h => by
  obtain ⟨a1, c1, a2, c2, f1, f2, e, h⟩ := h
  exact ⟨a1, c1, a2, c2, f1, f2, e, h.st hR⟩
theorem pnD_st {M : Nat} {ops : List Op3} : StableV (CpR M) (PnD M ops) := fun v W1 W2 hR h => by
  obtain ⟨a1, c1, a2, c2, f1, f2, e, h⟩ := h
  refine ⟨a1, c1, a2, c2, f1, f2, ?_, h.st hR⟩
  rw [hR.2 ?_]
  · exact e
  · rw [e]
    unfold zPt
    intro h
    simp at h
theorem mk8 (w : World) : (Instr.makeSlice 24 (.int .i64 8) (.int .i64 8)).run Try.prog w = .ok (.slice (some ⟨w.heap.size, 0, none⟩) 8 8) (w.alloc (.cells #[.int .i64 0, .int .i64 0, .int .i64 0, .int .i64 0, .int .i64 0, .int .i64 0, .int .i64 0, .int .i64 0] 3)) := by kernel_rfl
/-- A new part: its box is nil. -/
def NewPt0 (w : World) (p : Pt) (e : Ending) (w' : World) : Prop := ∃ u1 u2 g1 g2, e = .returned (.agg #[u1, u2, .int .i64 p.pc, .bool p.fails, .slice none 0 0]) ∧ Has w.heap.size w'.heap.size w' (PtN p w.heap.size w'.heap.size u1 u2 (.slice none 0 0) g1 g2 []) ∧ Below w.heap.size w w'
set_option maxHeartbeats 4000000 in
set_option maxRecDepth 100000 in
theorem partNew_c (ops : List Op3) (v1 : Value) (f1 : List Nat) (w : World) (h : SL kO w v1 ops f1) (hok : progOK ops = true) : Calls Try.prog 84 #[v1] w (NewPt0 w ⟨ops, [0, 0, 0, 0, 0, 0, 0, 0], 0, false, []⟩) := by
  have hlen : ops.length ≤ 16 ∧ 1 ≤ ops.length := by
    simp only [progOK, Bool.and_eq_true, decide_eq_true_eq] at hok
    exact ⟨hok.1.2, hok.1.1⟩
  obtain ⟨A1, c1, rfl, _, _⟩ := h.form
  obtain ⟨M, hM1, hM2⟩ : ∃ M, M + 1 ≤ w.heap.size ∧ w.heap.size ≤ M + 1 := by
    obtain ⟨A, c, e0, e1, e2, ⟨rfl, _⟩ | ⟨g, o, cur, e, fr, f, rfl, hg, rfl, _⟩⟩ := id h
    · simp at hlen
    · have := (Array.getElem?_eq_some_iff.1 hg).1
      exact ⟨w.heap.size - 1, by omega, by omega⟩
  have hS := Lib.hid h
  have hp := Lib.hid (fun W (hb : Below w.heap.size w W) => lprogOk_c A1 ops.length c1 ops W (h.below hb).ops (by omega))
  rw [hok] at hp
  clear h hok
  go_enter Try.func84, Try.ntmps84
  go_wp2_with fail
  refine (hp.out _ (by repeat (first | (with_reducible exact Below.refl _ _) | (with_reducible assumption) | (with_reducible refine Below.drew ?_) | (with_reducible refine below_drewN' ?_ _) | (with_reducible refine Below.setCell ?_ (by first | (simp; done) | (simp; omega) | omega) _) | (with_reducible refine Below.alloc ?_ (by first | (simp; done) | (simp; omega) | omega) _) | (with_reducible refine Below.trans ?_ (Below.mono (by assumption) (by first | (simp; done) | (simp; omega) | omega)))))).mono ?_
  rintro e w1 ⟨rfl, hB1⟩
  obtain ⟨hc1, hf1⟩ := bcell hB1
  have hz1 := hB1.size
  (try simp only [World.size_alloc, World.size_setCell, World.size_drew] at hz1)
  have hy1 : w.heap.size < w1.heap.size := by omega
  go_wp2_with fail
  have hZ0 : Hid (PnI w false w1) := Lib.hid ⟨(by repeat (first | (with_reducible exact Below.refl _ _) | (with_reducible assumption) | (with_reducible refine Below.drew ?_) | (with_reducible refine below_drewN' ?_ _) | (with_reducible refine Below.setCell ?_ (by first | (simp; done) | (simp; omega) | omega) _) | (with_reducible refine Below.alloc ?_ (by first | (simp; done) | (simp; omega) | omega) _) | (with_reducible refine Below.trans ?_ (Below.mono (by assumption) (by first | (simp; done) | (simp; omega) | omega))))), by omega, fun _ => blk_below (heap_top _ _ rfl) hB1⟩
  have hMe : ∀ b, b = M + 1 ↔ b = w.heap.size := fun b => by omega
  apply region_inv4 (VV2 [fun _ => (CpE), fun _ => IsV _, fun _ => (fun v W => RowT kO 44 (M + 2) v ops W), fun _ => (fun v W => RowT kI 3 (M + 2) v [0, 0, 0, 0, 0, 0, 0, 0] W), (fun _ => PnA M ops), fun _ => (PnD M ops)]) (fun bs W => PnI w (bs 5) W) (CpR M) (by kernel_rfl) 12 rfl (by kernel_rfl)
  case h0 =>
    exact ⟨hZ0.out.below.drew, hZ0.out.size, fun _ => hZ0.out.res rfl⟩
  case hsteps =>
    refine ⟨?_, ?_, ?_, ?_, ?_, ?_, trivial⟩
    · refine stepOK4_of _ [] rfl (by kernel_rfl) ?_ rfl
      intro bs ρ W hbj hbn hc hf hn ho hI
      clear hn
      clear ho
      have hI' := Lib.hid hI
      clear hI
      go_simp
      exact postL_mk (hI'.out.go ((Below.refl _ _).alloc (Nat.le_refl _) _)) (CpR.below ((Below.refl _ _).alloc (Nat.le_refl _) _) (by have := hI'.out.size; omega)) ⟨_, rfl⟩
    · refine stepOK4_of _ [0] rfl (by kernel_rfl) ?_ rfl
      intro bs ρ W hbj hbn hc hf hn ho hI
      clear hn
      have s0 := ho.1
      simp only [Array.getD_eq_getD_getElem?] at s0
      clear ho
      have hI' := Lib.hid hI
      clear hI
      go_simp
      exact postL_mk (hI'.out) (CpR.below (Below.refl _ _) (by have := hI'.out.size; omega)) rfl
    · refine stepOK4_of _ [] rfl (by kernel_rfl) ?_ rfl
      intro bs ρ W hbj hbn hc hf hn ho hI
      obtain ⟨u0, q0, s7⟩ := hn.1
      obtain ⟨u1, q1, s8⟩ := hn.2.1
      clear hn
      obtain ⟨B, rfl⟩ := q0
      have s7 : ρ (.tmp 7) = _ := s7
      have q1 : u1 = _ := q1
      subst q1
      have s8 : ρ (.tmp 8) = _ := s8
      clear ho
      have hI' := Lib.hid hI
      obtain ⟨v', w', fp', hr, hb, hT, _⟩ := app_ops W (M + 2) (by have := hI.size; omega) B A1 ops.length c1 ops f1 (hS.out.below hI.below) (by omega)
      unfold execOp
      simp only [resolve, invoke, builtin, Sem.run_bind, Sem.run_pure, Result.andThen_ok, List.map_toArray, List.map_cons, List.map_nil, s7, s8, hr]
      rw [opOK_value]
      exact postL_mk (hI'.out.go hb) (CpR.below hb (by have := hI'.out.size; omega)) ⟨fp', hT⟩
    · refine stepOK4_of _ [] rfl (by kernel_rfl) ?_ rfl
      intro bs ρ W hbj hbn hc hf hn ho hI
      clear hn
      clear ho
      have hI' := Lib.hid hI
      have hsz := hI.size
      clear hI
      go_simp
      rw [mk8]
      simp only [Result.andThen_ok, opOK_value]
      exact postL_mk (hI'.out.go ((Below.refl _ _).alloc (Nat.le_refl _) _)) (CpR.below ((Below.refl _ _).alloc (Nat.le_refl _) _) (by omega)) ⟨_, row_zero W (M + 2) (by omega)⟩
    · refine stepOK4_of _ [] rfl (by kernel_rfl) ?_ rfl
      intro bs ρ W hbj hbn hc hf hn ho hI
      obtain ⟨u2, q2, s9⟩ := hn.1
      obtain ⟨u3, q3, s10⟩ := hn.2.1
      clear hn
      obtain ⟨g1, hg1⟩ := q2
      have s9 : ρ (.tmp 9) = _ := s9
      obtain ⟨g2, hg2⟩ := q3
      have s10 : ρ (.tmp 10) = _ := s10
      clear ho
      have hI' := Lib.hid hI
      clear hI
      obtain ⟨a1, d1, rfl⟩ := hg1.2.2.2
      obtain ⟨a2, d2, rfl⟩ := hg2.2.2.2
      go_simp
      exact postL_mk hI'.out (CpR.below (Below.refl _ _) (by have := hI'.out.size; omega)) ⟨a1, d1, a2, d2, g1, g2, rfl, pnF_of hg1 hg2⟩
    · refine stepOK4_of _ [2] rfl (by kernel_rfl) ?_ rfl
      intro bs ρ W hbj hbn hc hf hn ho hI
      obtain ⟨u4, q4, s11⟩ := hn.1
      obtain ⟨u2, q2, s9⟩ := hn.2.1
      obtain ⟨u3, q3, s10⟩ := hn.2.2.2.2.2.1
      clear hn
      obtain ⟨a1, d1, a2, d2, e1, e2, rfl, hY⟩ := q4
      have s11 : ρ (.tmp 11) = _ := s11
      obtain ⟨g1, hg1⟩ := q2
      have s9 : ρ (.tmp 9) = _ := s9
      obtain ⟨g2, hg2⟩ := q3
      have s10 : ρ (.tmp 10) = _ := s10
      have s2 := ho.1
      simp only [Array.getD_eq_getD_getElem?] at s2
      clear ho
      have hI' := Lib.hid hI
      have hZ := hI.res (by cases h : bs 5 with | false => rfl | true => rw [h] at hbj; cases hbj)
      have j0 := blk_cell hZ
      have j1 := blk_frozen hZ
      clear hI
      go_simp
      have hb9 := blk_put (blk_put (blk_put (blk_put (blk_put hZ 0 (.slice (some a1) ops.length d1)) 1 (.slice (some a2) 8 d2)) 2 (.int .i64 0)) 3 (.bool false)) 4 (.slice none 0 0)
      have hsz := hI'.out.size
      have hne : ∀ A : Nat, A ≠ w.heap.size → (((((W.setCell ⟨w.heap.size, 0, none⟩ (.slice (some a1) ops.length d1)).setCell ⟨w.heap.size, 1, none⟩ (.slice (some a2) 8 d2)).setCell ⟨w.heap.size, 2, none⟩ (.int .i64 0)).setCell ⟨w.heap.size, 3, none⟩ (.bool false)).setCell ⟨w.heap.size, 4, none⟩ (.slice none 0 0)).heap[A]? = W.heap[A]? := fun A hA => by
        rw [Below.heap_setCell _ _ _ _ hA, Below.heap_setCell _ _ _ _ hA, Below.heap_setCell _ _ _ _ hA, Below.heap_setCell _ _ _ _ hA, Below.heap_setCell _ _ _ _ hA]
      have hMw : M + 1 = w.heap.size := by omega
      have hKp : Kept [M + 1] W (((((W.setCell ⟨w.heap.size, 0, none⟩ (.slice (some a1) ops.length d1)).setCell ⟨w.heap.size, 1, none⟩ (.slice (some a2) 8 d2)).setCell ⟨w.heap.size, 2, none⟩ (.int .i64 0)).setCell ⟨w.heap.size, 3, none⟩ (.bool false)).setCell ⟨w.heap.size, 4, none⟩ (.slice none 0 0)) := ⟨rfl, rfl, rfl, by simp, fun b hb hn => hne b (by simp at hn; omega)⟩
      have hR : CpR M W (((((W.setCell ⟨w.heap.size, 0, none⟩ (.slice (some a1) ops.length d1)).setCell ⟨w.heap.size, 1, none⟩ (.slice (some a2) 8 d2)).setCell ⟨w.heap.size, 2, none⟩ (.int .i64 0)).setCell ⟨w.heap.size, 3, none⟩ (.bool false)).setCell ⟨w.heap.size, 4, none⟩ (.slice none 0 0)) := ⟨hKp, fun h => absurd (by rw [hMw]; exact hZ) h⟩
      exact postL_mk ⟨hI'.out.below.trans (hKp.below (fun b hb => by simp at hb; omega) (by omega)), by simp; omega, fun h => by simp [upB] at h⟩ hR ⟨a1, d1, a2, d2, e1, e2, by rw [hMw]; exact hb9, hY.st hR⟩
  case hst => exact vv_stable2 ⟨fun _ => fun _ _ _ _ h => h, fun _ => isV_st, fun _ => rowT_st, fun _ => rowT_st, fun _ => pnA_st, fun _ => pnD_st, trivial⟩
  case hloc => exact locAll_of ⟨locE_c, locE_c, locE_c, locE_c, locE_c, locE_c, trivial⟩
  intro vs bs W hlen hall hI hV
  obtain ⟨x0, x1, x2, x3, x4, x5, rfl⟩ := list_len6_Q3 vs hlen
  have y0 := hV 0 _ rfl
  obtain ⟨B, rfl⟩ := y0
  have y1 : x1 = _ := hV 1 _ rfl
  subst y1
  have y2 := hV 2 _ rfl
  obtain ⟨g1, hg1⟩ := y2
  have y3 := hV 3 _ rfl
  obtain ⟨g2, hg2⟩ := y3
  have y4 := hV 4 _ rfl
  obtain ⟨a1, d1, a2, d2, e1, e2, rfl, hY⟩ := y4
  have y5 := hV 5 _ rfl
  obtain ⟨a1, d1, a2, d2, e1, e2, hYb, hY⟩ := y5
  clear hV hlen
  simp only [Exit.then, putAll, Act.put, List.setIfInBounds_toArray, List.set_cons_zero, List.set_cons_succ]
  have hMw : M + 1 = w.heap.size := by omega
  rw [hMw] at hYb
  have j := blk_cell hYb
  have hY1 := Lib.hid hY
  have hI1 := Lib.hid hI
  clear hY hI hYb hMw
  go_wp2_with fail
  refine bodyPost_ret (v := .agg #[.slice (some a1) ops.length d1, .slice (some a2) 8 d2, .int .i64 0, .bool false, .slice none 0 0]) (by simp [results, Try.results84, go_sem, j]) rfl ?_
  exact ⟨_, _, e1, e2, rfl, PtN.has ⟨hY1.out.1, hY1.out.2.mono (by omega) (Nat.le_refl _)⟩, hI1.out.below⟩
end Go.Proofs.Ytkphkkfgphhjcaa
