/- What draws: an op. -/
import Derived.Test.YtkphkkfgphhjcaaD1
import Derived.Test.YtkphkkfgphhjcaaP1
namespace Go.Proofs.Ytkphkkfgphhjcaa
open Go.RowKit
set_option linter.unusedSimpArgs false
set_option linter.unusedVariables false

def OpV (k : Int) (v : Value) : Prop := ∃ d a b : Int, v = .agg #[.int .i64 d, .int .i64 a, .int .i64 b] ∧ opOKP d a b k = true
def IntR (hi : Int) (v : Value) : Prop := ∃ x : Int, v = .int .i64 x ∧ 0 ≤ x ∧ x ≤ hi
theorem Kp.kept {g : Nat} {a b c : World} (h : Kp g a b) (hg : g < a.heap.size) {i : Nat} {o : Obj} (hi : a.heap[i]? = some o) (hne : i ≠ g) : b.heap[i]? = some o := h.blk hi hne
theorem kcell {g : Nat} {a b : World} (h : Kp g a b) : (∀ k o : Nat, k < a.heap.size → k ≠ g → b.cell? ⟨k, o, none⟩ = a.cell? ⟨k, o, none⟩) ∧ ∀ k o : Nat, k < a.heap.size → k ≠ g → b.frozen? ⟨k, o, none⟩ = a.frozen? ⟨k, o, none⟩ :=
  ⟨fun k o h1 h2 => World.cell?_of_block (h.block k h1 h2), fun k o h1 h2 => World.frozen?_of_block (h.block k h1 h2)⟩
set_option maxHeartbeats 4000000
set_option maxRecDepth 100000
theorem op_d (w0 w : World) (g : Nat) (p k : Int) (h : Rd w0 w g p) (h0 : 0 ≤ p) (h1 : p ≤ 100000000000) (h2 : 1 ≤ k) (h3 : k ≤ 1000) : Calls Try.prog 88 #[.pointer (some ⟨g, 0, none⟩), .int .i64 k] w (Dr w0 w g p 4 (OpV k)) := by
  have hg : g < w.heap.size := h.lt
  have hge := h.ge
  have hg1 : ¬ g = w.heap.size := by omega
  have hg3 : ¬ w.heap.size = g := by omega
  go_enter Try.func88, Try.ntmps88
  go_wp2_with fail
  refine (pick_c w0 _ g (p) (13) (by repeat (first | (with_reducible assumption) | (with_reducible refine Rd.drew ?_) | (with_reducible refine Rd.own ?_ (by first | (simp; done) | (simp; omega) | omega) (by first | (simp; done) | (simp; omega) | omega) _) | (with_reducible refine Rd.alloc ?_ _))) (by omega) (by omega) (by omega) (by omega)).mono ?_
  rintro e w1 ⟨r1, rfl, ra1, rb1, hR1, hK1⟩
  obtain ⟨hc1, hf1⟩ := kcell hK1
  have hz1 := hK1.size
  (try simp only [World.size_alloc, World.size_setCell, World.size_drew] at hz1)
  go_wp2_with fail
  refine (pick_c w0 _ g (p + 1) (8) (by repeat (first | (with_reducible assumption) | (with_reducible refine Rd.drew ?_) | (with_reducible refine Rd.own ?_ (by first | (simp; done) | (simp; omega) | omega) (by first | (simp; done) | (simp; omega) | omega) _) | (with_reducible refine Rd.alloc ?_ _))) (by omega) (by omega) (by omega) (by omega)).mono ?_
  rintro e w2 ⟨r2, rfl, ra2, rb2, hR2, hK2⟩
  obtain ⟨hc2, hf2⟩ := kcell hK2
  have hz2 := hK2.size
  (try simp only [World.size_alloc, World.size_setCell, World.size_drew] at hz2)
  have hy1 : w.heap.size < w1.heap.size := by omega
  have hy2 : w.heap.size < w2.heap.size := by omega
  have hg2 : ¬ w2.heap.size = g := by omega
  have hg4 : ¬ g = w2.heap.size := by omega
  rcases (by omega : r1 = 0 ∨ r1 = 1 ∨ r1 = 2 ∨ r1 = 3 ∨ r1 = 4 ∨ r1 = 5 ∨ r1 = 6 ∨ r1 = 7 ∨ r1 = 8 ∨ r1 = 9 ∨ r1 = 10 ∨ r1 = 11 ∨ r1 = 12) with rfl | rfl | rfl | rfl | rfl | rfl | rfl | rfl | rfl | rfl | rfl | rfl | rfl
  · go_wp2_with fail
    refine (pick_c w0 _ g (p + 1 + 1) (20) (by repeat (first | (with_reducible assumption) | (with_reducible refine Rd.drew ?_) | (with_reducible refine Rd.own ?_ (by first | (simp; done) | (simp; omega) | omega) (by first | (simp; done) | (simp; omega) | omega) _) | (with_reducible refine Rd.alloc ?_ _))) (by omega) (by omega) (by omega) (by omega)).mono ?_
    rintro e w3 ⟨r3, rfl, ra3, rb3, hR3, hK3⟩
    obtain ⟨hc3, hf3⟩ := kcell hK3
    have hz3 := hK3.size
    (try simp only [World.size_alloc, World.size_setCell, World.size_drew] at hz3)
    have hy3 : w.heap.size < w3.heap.size := by omega
    have hy4 : w2.heap.size < w3.heap.size := by omega
    go_wp2_with fail
    refine (one_c w0 _ g (p + 1 + 1 + 1) w3.heap.size #[.int .i64 r3, .int .i64 9999, .int .i64 1] 3 (by repeat (first | (with_reducible assumption) | (with_reducible refine Rd.drew ?_) | (with_reducible refine Rd.own ?_ (by first | (simp; done) | (simp; omega) | omega) (by first | (simp; done) | (simp; omega) | omega) _) | (with_reducible refine Rd.alloc ?_ _))) (by omega) (by omega) (heap_top _ _ rfl) (by omega) rfl (by decide) (by decide) (IntR 9999) (fun j v hj => ?_)).mono ?_
    · match j, hj with
      | 0, hj => cases hj; exact ⟨_, rfl, by omega, by omega⟩
      | 1, hj => cases hj; exact ⟨_, rfl, by decide, by decide⟩
      | 2, hj => cases hj; exact ⟨_, rfl, by decide, by decide⟩
      | (j + 3), hj => simp at hj
    rintro e w4 ⟨v, rfl, ⟨x, rfl, x0, x1⟩, hR4, hK4⟩
    have hb4 : w4.heap[w.heap.size]? = some (.cells #[.int .i64 0, .int .i64 0, .int .i64 0] 44 (0, 0)) := hK4.blk (heap_up (hK3.blk (heap_up (hK2.blk (hK1.blk (heap_top _ _ rfl) hg3) hg3) _) hg3) _) hg3
    have k4 := fun o => blk_cell hb4 o
    have k4f := fun o => blk_frozen hb4 o
    have hy7 : w2.heap.size < w3.heap.size + 1 := by omega
    have hy8 : w.heap.size < w3.heap.size + 1 := by omega
    have hy9 : w.heap.size ≤ w3.heap.size := by omega
    have hya : w.heap.size ≤ w2.heap.size := by omega
    have hyb : w2.heap.size ≤ w3.heap.size := by omega
    obtain ⟨hc4, hf4⟩ := kcell hK4
    have hz4 := hK4.size
    (try simp only [World.size_alloc, World.size_setCell, World.size_drew] at hz4)
    have hy5 : w.heap.size < w4.heap.size := by omega
    have hy6 : w2.heap.size < w4.heap.size := by omega
    go_wp2_with fail
    have hbF := blk_put (blk_put (blk_put (blk_set (b' := w2.heap.size) hb4 2 (.int .i64 x) (by omega)) 0 (.int .i64 1)) 1 (.int .i64 r2)) 2 (.int .i64 x)
    have hRF : Rd w0 (((((w4.setCell ⟨w2.heap.size, 2, none⟩ (.int .i64 x)).setCell ⟨w.heap.size, 0, none⟩ (.int .i64 1)).setCell ⟨w.heap.size, 1, none⟩ (.int .i64 r2)).setCell ⟨w.heap.size, 2, none⟩ (.int .i64 x))) g (p + 1 + 1 + 1 + 1) := (by repeat (first | (with_reducible assumption) | (with_reducible refine Rd.drew ?_) | (with_reducible refine Rd.own ?_ (by first | (simp; done) | (simp; omega) | omega) (by first | (simp; done) | (simp; omega) | omega) _) | (with_reducible refine Rd.alloc ?_ _)))
    have hKF : Kp g w (((((w4.setCell ⟨w2.heap.size, 2, none⟩ (.int .i64 x)).setCell ⟨w.heap.size, 0, none⟩ (.int .i64 1)).setCell ⟨w.heap.size, 1, none⟩ (.int .i64 r2)).setCell ⟨w.heap.size, 2, none⟩ (.int .i64 x))) := (by repeat (first | (with_reducible exact Kp.refl _ _) | (with_reducible assumption) | (with_reducible refine Kp.own ?_ (by first | (simp; done) | (simp; omega) | omega) _) | (with_reducible refine Kp.alloc ?_ _) | (with_reducible refine Kp.drew ?_) | (with_reducible refine Kp.trans ?_ (by assumption))))
    generalize World.setCell _ _ _ = W' at *
    have kF := blk_cell hbF
    refine bodyPost_ret (v := .agg #[.int .i64 1, .int .i64 r2, .int .i64 x]) (by simp [results, Try.results88, go_sem, kF]) rfl ?_
    exact ⟨_, p + 1 + 1 + 1 + 1, rfl, ⟨1, r2, x, rfl, by first | (simp [opOKP, inR_iff]; done) | (simp [opOKP, inR_iff]; omega)⟩, by omega, by omega, hRF, hKF⟩
  · go_wp2_with fail
    refine (pick_c w0 _ g (p + 1 + 1) (8) (by repeat (first | (with_reducible assumption) | (with_reducible refine Rd.drew ?_) | (with_reducible refine Rd.own ?_ (by first | (simp; done) | (simp; omega) | omega) (by first | (simp; done) | (simp; omega) | omega) _) | (with_reducible refine Rd.alloc ?_ _))) (by omega) (by omega) (by omega) (by omega)).mono ?_
    rintro e w3 ⟨r3, rfl, ra3, rb3, hR3, hK3⟩
    obtain ⟨hc3, hf3⟩ := kcell hK3
    have hz3 := hK3.size
    (try simp only [World.size_alloc, World.size_setCell, World.size_drew] at hz3)
    have hy3 : w.heap.size < w3.heap.size := by omega
    have hy4 : w2.heap.size < w3.heap.size := by omega
    have hb3 : w3.heap[w.heap.size]? = some (.cells #[.int .i64 0, .int .i64 0, .int .i64 0] 44 (0, 0)) := hK3.blk (heap_up (hK2.blk (hK1.blk (heap_top _ _ rfl) hg3) hg3) _) hg3
    go_wp2_with fail
    have hbF := blk_put (blk_put (blk_put (blk_set (b' := w2.heap.size) hb3 2 (.int .i64 r3) (by omega)) 0 (.int .i64 2)) 1 (.int .i64 r2)) 2 (.int .i64 r3)
    have hRF : Rd w0 (((((w3.setCell ⟨w2.heap.size, 2, none⟩ (.int .i64 r3)).setCell ⟨w.heap.size, 0, none⟩ (.int .i64 2)).setCell ⟨w.heap.size, 1, none⟩ (.int .i64 r2)).setCell ⟨w.heap.size, 2, none⟩ (.int .i64 r3))) g (p + 1 + 1 + 1) := (by repeat (first | (with_reducible assumption) | (with_reducible refine Rd.drew ?_) | (with_reducible refine Rd.own ?_ (by first | (simp; done) | (simp; omega) | omega) (by first | (simp; done) | (simp; omega) | omega) _) | (with_reducible refine Rd.alloc ?_ _)))
    have hKF : Kp g w (((((w3.setCell ⟨w2.heap.size, 2, none⟩ (.int .i64 r3)).setCell ⟨w.heap.size, 0, none⟩ (.int .i64 2)).setCell ⟨w.heap.size, 1, none⟩ (.int .i64 r2)).setCell ⟨w.heap.size, 2, none⟩ (.int .i64 r3))) := (by repeat (first | (with_reducible exact Kp.refl _ _) | (with_reducible assumption) | (with_reducible refine Kp.own ?_ (by first | (simp; done) | (simp; omega) | omega) _) | (with_reducible refine Kp.alloc ?_ _) | (with_reducible refine Kp.drew ?_) | (with_reducible refine Kp.trans ?_ (by assumption))))
    generalize World.setCell _ _ _ = W' at *
    have kF := blk_cell hbF
    refine bodyPost_ret (v := .agg #[.int .i64 2, .int .i64 r2, .int .i64 r3]) (by simp [results, Try.results88, go_sem, kF]) rfl ?_
    exact ⟨_, p + 1 + 1 + 1, rfl, ⟨2, r2, r3, rfl, by first | (simp [opOKP, inR_iff]; done) | (simp [opOKP, inR_iff]; omega)⟩, by omega, by omega, hRF, hKF⟩
  · go_wp2_with fail
    refine (pick_c w0 _ g (p + 1 + 1) (20) (by repeat (first | (with_reducible assumption) | (with_reducible refine Rd.drew ?_) | (with_reducible refine Rd.own ?_ (by first | (simp; done) | (simp; omega) | omega) (by first | (simp; done) | (simp; omega) | omega) _) | (with_reducible refine Rd.alloc ?_ _))) (by omega) (by omega) (by omega) (by omega)).mono ?_
    rintro e w3 ⟨r3, rfl, ra3, rb3, hR3, hK3⟩
    obtain ⟨hc3, hf3⟩ := kcell hK3
    have hz3 := hK3.size
    (try simp only [World.size_alloc, World.size_setCell, World.size_drew] at hz3)
    have hy3 : w.heap.size < w3.heap.size := by omega
    have hy4 : w2.heap.size < w3.heap.size := by omega
    go_wp2_with fail
    refine (one_c w0 _ g (p + 1 + 1 + 1) w3.heap.size #[.int .i64 r3, .int .i64 9999, .int .i64 1] 3 (by repeat (first | (with_reducible assumption) | (with_reducible refine Rd.drew ?_) | (with_reducible refine Rd.own ?_ (by first | (simp; done) | (simp; omega) | omega) (by first | (simp; done) | (simp; omega) | omega) _) | (with_reducible refine Rd.alloc ?_ _))) (by omega) (by omega) (heap_top _ _ rfl) (by omega) rfl (by decide) (by decide) (IntR 9999) (fun j v hj => ?_)).mono ?_
    · match j, hj with
      | 0, hj => cases hj; exact ⟨_, rfl, by omega, by omega⟩
      | 1, hj => cases hj; exact ⟨_, rfl, by decide, by decide⟩
      | 2, hj => cases hj; exact ⟨_, rfl, by decide, by decide⟩
      | (j + 3), hj => simp at hj
    rintro e w4 ⟨v, rfl, ⟨x, rfl, x0, x1⟩, hR4, hK4⟩
    have hb4 : w4.heap[w.heap.size]? = some (.cells #[.int .i64 0, .int .i64 0, .int .i64 0] 44 (0, 0)) := hK4.blk (heap_up (hK3.blk (heap_up (hK2.blk (hK1.blk (heap_top _ _ rfl) hg3) hg3) _) hg3) _) hg3
    have k4 := fun o => blk_cell hb4 o
    have k4f := fun o => blk_frozen hb4 o
    have hy7 : w2.heap.size < w3.heap.size + 1 := by omega
    have hy8 : w.heap.size < w3.heap.size + 1 := by omega
    have hy9 : w.heap.size ≤ w3.heap.size := by omega
    have hya : w.heap.size ≤ w2.heap.size := by omega
    have hyb : w2.heap.size ≤ w3.heap.size := by omega
    obtain ⟨hc4, hf4⟩ := kcell hK4
    have hz4 := hK4.size
    (try simp only [World.size_alloc, World.size_setCell, World.size_drew] at hz4)
    have hy5 : w.heap.size < w4.heap.size := by omega
    have hy6 : w2.heap.size < w4.heap.size := by omega
    go_wp2_with fail
    have hbF := blk_put (blk_put (blk_put (blk_set (b' := w2.heap.size) hb4 2 (.int .i64 x) (by omega)) 0 (.int .i64 3)) 1 (.int .i64 r2)) 2 (.int .i64 x)
    have hRF : Rd w0 (((((w4.setCell ⟨w2.heap.size, 2, none⟩ (.int .i64 x)).setCell ⟨w.heap.size, 0, none⟩ (.int .i64 3)).setCell ⟨w.heap.size, 1, none⟩ (.int .i64 r2)).setCell ⟨w.heap.size, 2, none⟩ (.int .i64 x))) g (p + 1 + 1 + 1 + 1) := (by repeat (first | (with_reducible assumption) | (with_reducible refine Rd.drew ?_) | (with_reducible refine Rd.own ?_ (by first | (simp; done) | (simp; omega) | omega) (by first | (simp; done) | (simp; omega) | omega) _) | (with_reducible refine Rd.alloc ?_ _)))
    have hKF : Kp g w (((((w4.setCell ⟨w2.heap.size, 2, none⟩ (.int .i64 x)).setCell ⟨w.heap.size, 0, none⟩ (.int .i64 3)).setCell ⟨w.heap.size, 1, none⟩ (.int .i64 r2)).setCell ⟨w.heap.size, 2, none⟩ (.int .i64 x))) := (by repeat (first | (with_reducible exact Kp.refl _ _) | (with_reducible assumption) | (with_reducible refine Kp.own ?_ (by first | (simp; done) | (simp; omega) | omega) _) | (with_reducible refine Kp.alloc ?_ _) | (with_reducible refine Kp.drew ?_) | (with_reducible refine Kp.trans ?_ (by assumption))))
    generalize World.setCell _ _ _ = W' at *
    have kF := blk_cell hbF
    refine bodyPost_ret (v := .agg #[.int .i64 3, .int .i64 r2, .int .i64 x]) (by simp [results, Try.results88, go_sem, kF]) rfl ?_
    exact ⟨_, p + 1 + 1 + 1 + 1, rfl, ⟨3, r2, x, rfl, by first | (simp [opOKP, inR_iff]; done) | (simp [opOKP, inR_iff]; omega)⟩, by omega, by omega, hRF, hKF⟩
  · go_wp2_with fail
    refine bodyPost_ret (v := .agg #[.int .i64 4, .int .i64 (r2), .int .i64 (0)]) (by simp [results, Try.results88, go_sem, hy1, hy2, hg1, hg2, hg3, hg4, hc1, hc2]) rfl ?_
    exact ⟨_, p + 1 + 1, rfl, ⟨4, r2, 0, rfl, by first | (simp [opOKP, inR_iff]; done) | (simp [opOKP, inR_iff]; omega)⟩, by omega, by omega, (by repeat (first | (with_reducible assumption) | (with_reducible refine Rd.drew ?_) | (with_reducible refine Rd.own ?_ (by first | (simp; done) | (simp; omega) | omega) (by first | (simp; done) | (simp; omega) | omega) _) | (with_reducible refine Rd.alloc ?_ _))), (by repeat (first | (with_reducible exact Kp.refl _ _) | (with_reducible assumption) | (with_reducible refine Kp.own ?_ (by first | (simp; done) | (simp; omega) | omega) _) | (with_reducible refine Kp.alloc ?_ _) | (with_reducible refine Kp.drew ?_) | (with_reducible refine Kp.trans ?_ (by assumption))))⟩
  · go_wp2_with fail
    refine (pick_c w0 _ g (p + 1 + 1) (k) (by repeat (first | (with_reducible assumption) | (with_reducible refine Rd.drew ?_) | (with_reducible refine Rd.own ?_ (by first | (simp; done) | (simp; omega) | omega) (by first | (simp; done) | (simp; omega) | omega) _) | (with_reducible refine Rd.alloc ?_ _))) (by omega) (by omega) (by omega) (by omega)).mono ?_
    rintro e w3 ⟨r3, rfl, ra3, rb3, hR3, hK3⟩
    obtain ⟨hc3, hf3⟩ := kcell hK3
    have hz3 := hK3.size
    (try simp only [World.size_alloc, World.size_setCell, World.size_drew] at hz3)
    have hy3 : w.heap.size < w3.heap.size := by omega
    have hy4 : w2.heap.size < w3.heap.size := by omega
    have hb3 : w3.heap[w.heap.size]? = some (.cells #[.int .i64 0, .int .i64 0, .int .i64 0] 44 (0, 0)) := hK3.blk (heap_up (hK2.blk (hK1.blk (heap_top _ _ rfl) hg3) hg3) _) hg3
    go_wp2_with fail
    have hbF := blk_put (blk_put (blk_put (blk_set (b' := w2.heap.size) hb3 2 (.int .i64 r3) (by omega)) 0 (.int .i64 5)) 1 (.int .i64 r2)) 2 (.int .i64 r3)
    have hRF : Rd w0 (((((w3.setCell ⟨w2.heap.size, 2, none⟩ (.int .i64 r3)).setCell ⟨w.heap.size, 0, none⟩ (.int .i64 5)).setCell ⟨w.heap.size, 1, none⟩ (.int .i64 r2)).setCell ⟨w.heap.size, 2, none⟩ (.int .i64 r3))) g (p + 1 + 1 + 1) := (by repeat (first | (with_reducible assumption) | (with_reducible refine Rd.drew ?_) | (with_reducible refine Rd.own ?_ (by first | (simp; done) | (simp; omega) | omega) (by first | (simp; done) | (simp; omega) | omega) _) | (with_reducible refine Rd.alloc ?_ _)))
    have hKF : Kp g w (((((w3.setCell ⟨w2.heap.size, 2, none⟩ (.int .i64 r3)).setCell ⟨w.heap.size, 0, none⟩ (.int .i64 5)).setCell ⟨w.heap.size, 1, none⟩ (.int .i64 r2)).setCell ⟨w.heap.size, 2, none⟩ (.int .i64 r3))) := (by repeat (first | (with_reducible exact Kp.refl _ _) | (with_reducible assumption) | (with_reducible refine Kp.own ?_ (by first | (simp; done) | (simp; omega) | omega) _) | (with_reducible refine Kp.alloc ?_ _) | (with_reducible refine Kp.drew ?_) | (with_reducible refine Kp.trans ?_ (by assumption))))
    generalize World.setCell _ _ _ = W' at *
    have kF := blk_cell hbF
    refine bodyPost_ret (v := .agg #[.int .i64 5, .int .i64 r2, .int .i64 r3]) (by simp [results, Try.results88, go_sem, kF]) rfl ?_
    exact ⟨_, p + 1 + 1 + 1, rfl, ⟨5, r2, r3, rfl, by first | (simp [opOKP, inR_iff]; done) | (simp [opOKP, inR_iff]; omega)⟩, by omega, by omega, hRF, hKF⟩
  · go_wp2_with fail
    refine bodyPost_ret (v := .agg #[.int .i64 6, .int .i64 (r2), .int .i64 (0)]) (by simp [results, Try.results88, go_sem, hy1, hy2, hg1, hg2, hg3, hg4, hc1, hc2]) rfl ?_
    exact ⟨_, p + 1 + 1, rfl, ⟨6, r2, 0, rfl, by first | (simp [opOKP, inR_iff]; done) | (simp [opOKP, inR_iff]; omega)⟩, by omega, by omega, (by repeat (first | (with_reducible assumption) | (with_reducible refine Rd.drew ?_) | (with_reducible refine Rd.own ?_ (by first | (simp; done) | (simp; omega) | omega) (by first | (simp; done) | (simp; omega) | omega) _) | (with_reducible refine Rd.alloc ?_ _))), (by repeat (first | (with_reducible exact Kp.refl _ _) | (with_reducible assumption) | (with_reducible refine Kp.own ?_ (by first | (simp; done) | (simp; omega) | omega) _) | (with_reducible refine Kp.alloc ?_ _) | (with_reducible refine Kp.drew ?_) | (with_reducible refine Kp.trans ?_ (by assumption))))⟩
  · go_wp2_with fail
    refine bodyPost_ret (v := .agg #[.int .i64 7, .int .i64 (r2), .int .i64 (0)]) (by simp [results, Try.results88, go_sem, hy1, hy2, hg1, hg2, hg3, hg4, hc1, hc2]) rfl ?_
    exact ⟨_, p + 1 + 1, rfl, ⟨7, r2, 0, rfl, by first | (simp [opOKP, inR_iff]; done) | (simp [opOKP, inR_iff]; omega)⟩, by omega, by omega, (by repeat (first | (with_reducible assumption) | (with_reducible refine Rd.drew ?_) | (with_reducible refine Rd.own ?_ (by first | (simp; done) | (simp; omega) | omega) (by first | (simp; done) | (simp; omega) | omega) _) | (with_reducible refine Rd.alloc ?_ _))), (by repeat (first | (with_reducible exact Kp.refl _ _) | (with_reducible assumption) | (with_reducible refine Kp.own ?_ (by first | (simp; done) | (simp; omega) | omega) _) | (with_reducible refine Kp.alloc ?_ _) | (with_reducible refine Kp.drew ?_) | (with_reducible refine Kp.trans ?_ (by assumption))))⟩
  · go_wp2_with fail
    refine bodyPost_ret (v := .agg #[.int .i64 8, .int .i64 (r2), .int .i64 (0)]) (by simp [results, Try.results88, go_sem, hy1, hy2, hg1, hg2, hg3, hg4, hc1, hc2]) rfl ?_
    exact ⟨_, p + 1 + 1, rfl, ⟨8, r2, 0, rfl, by first | (simp [opOKP, inR_iff]; done) | (simp [opOKP, inR_iff]; omega)⟩, by omega, by omega, (by repeat (first | (with_reducible assumption) | (with_reducible refine Rd.drew ?_) | (with_reducible refine Rd.own ?_ (by first | (simp; done) | (simp; omega) | omega) (by first | (simp; done) | (simp; omega) | omega) _) | (with_reducible refine Rd.alloc ?_ _))), (by repeat (first | (with_reducible exact Kp.refl _ _) | (with_reducible assumption) | (with_reducible refine Kp.own ?_ (by first | (simp; done) | (simp; omega) | omega) _) | (with_reducible refine Kp.alloc ?_ _) | (with_reducible refine Kp.drew ?_) | (with_reducible refine Kp.trans ?_ (by assumption))))⟩
  · go_wp2_with fail
    refine (pick_c w0 _ g (p + 1 + 1) (4) (by repeat (first | (with_reducible assumption) | (with_reducible refine Rd.drew ?_) | (with_reducible refine Rd.own ?_ (by first | (simp; done) | (simp; omega) | omega) (by first | (simp; done) | (simp; omega) | omega) _) | (with_reducible refine Rd.alloc ?_ _))) (by omega) (by omega) (by omega) (by omega)).mono ?_
    rintro e w3 ⟨r3, rfl, ra3, rb3, hR3, hK3⟩
    obtain ⟨hc3, hf3⟩ := kcell hK3
    have hz3 := hK3.size
    (try simp only [World.size_alloc, World.size_setCell, World.size_drew] at hz3)
    have hy3 : w.heap.size < w3.heap.size := by omega
    have hy4 : w2.heap.size < w3.heap.size := by omega
    have hb3 : w3.heap[w.heap.size]? = some (.cells #[.int .i64 0, .int .i64 0, .int .i64 0] 44 (0, 0)) := hK3.blk (heap_up (hK2.blk (hK1.blk (heap_top _ _ rfl) hg3) hg3) _) hg3
    go_wp2_with fail
    have hbF := blk_put (blk_put (blk_put (blk_set (b' := w2.heap.size) hb3 2 (.int .i64 r3) (by omega)) 0 (.int .i64 9)) 1 (.int .i64 r2)) 2 (.int .i64 r3)
    have hRF : Rd w0 (((((w3.setCell ⟨w2.heap.size, 2, none⟩ (.int .i64 r3)).setCell ⟨w.heap.size, 0, none⟩ (.int .i64 9)).setCell ⟨w.heap.size, 1, none⟩ (.int .i64 r2)).setCell ⟨w.heap.size, 2, none⟩ (.int .i64 r3))) g (p + 1 + 1 + 1) := (by repeat (first | (with_reducible assumption) | (with_reducible refine Rd.drew ?_) | (with_reducible refine Rd.own ?_ (by first | (simp; done) | (simp; omega) | omega) (by first | (simp; done) | (simp; omega) | omega) _) | (with_reducible refine Rd.alloc ?_ _)))
    have hKF : Kp g w (((((w3.setCell ⟨w2.heap.size, 2, none⟩ (.int .i64 r3)).setCell ⟨w.heap.size, 0, none⟩ (.int .i64 9)).setCell ⟨w.heap.size, 1, none⟩ (.int .i64 r2)).setCell ⟨w.heap.size, 2, none⟩ (.int .i64 r3))) := (by repeat (first | (with_reducible exact Kp.refl _ _) | (with_reducible assumption) | (with_reducible refine Kp.own ?_ (by first | (simp; done) | (simp; omega) | omega) _) | (with_reducible refine Kp.alloc ?_ _) | (with_reducible refine Kp.drew ?_) | (with_reducible refine Kp.trans ?_ (by assumption))))
    generalize World.setCell _ _ _ = W' at *
    have kF := blk_cell hbF
    refine bodyPost_ret (v := .agg #[.int .i64 9, .int .i64 r2, .int .i64 r3]) (by simp [results, Try.results88, go_sem, kF]) rfl ?_
    exact ⟨_, p + 1 + 1 + 1, rfl, ⟨9, r2, r3, rfl, by first | (simp [opOKP, inR_iff]; done) | (simp [opOKP, inR_iff]; omega)⟩, by omega, by omega, hRF, hKF⟩
  · go_wp2_with fail
    refine (pick_c w0 _ g (p + 1 + 1) (4) (by repeat (first | (with_reducible assumption) | (with_reducible refine Rd.drew ?_) | (with_reducible refine Rd.own ?_ (by first | (simp; done) | (simp; omega) | omega) (by first | (simp; done) | (simp; omega) | omega) _) | (with_reducible refine Rd.alloc ?_ _))) (by omega) (by omega) (by omega) (by omega)).mono ?_
    rintro e w3 ⟨r3, rfl, ra3, rb3, hR3, hK3⟩
    obtain ⟨hc3, hf3⟩ := kcell hK3
    have hz3 := hK3.size
    (try simp only [World.size_alloc, World.size_setCell, World.size_drew] at hz3)
    have hy3 : w.heap.size < w3.heap.size := by omega
    have hy4 : w2.heap.size < w3.heap.size := by omega
    have hb3 : w3.heap[w.heap.size]? = some (.cells #[.int .i64 0, .int .i64 0, .int .i64 0] 44 (0, 0)) := hK3.blk (heap_up (hK2.blk (hK1.blk (heap_top _ _ rfl) hg3) hg3) _) hg3
    go_wp2_with fail
    have hbF := blk_put (blk_put (blk_put (blk_set (b' := w2.heap.size) hb3 2 (.int .i64 r3) (by omega)) 0 (.int .i64 10)) 1 (.int .i64 r2)) 2 (.int .i64 r3)
    have hRF : Rd w0 (((((w3.setCell ⟨w2.heap.size, 2, none⟩ (.int .i64 r3)).setCell ⟨w.heap.size, 0, none⟩ (.int .i64 10)).setCell ⟨w.heap.size, 1, none⟩ (.int .i64 r2)).setCell ⟨w.heap.size, 2, none⟩ (.int .i64 r3))) g (p + 1 + 1 + 1) := (by repeat (first | (with_reducible assumption) | (with_reducible refine Rd.drew ?_) | (with_reducible refine Rd.own ?_ (by first | (simp; done) | (simp; omega) | omega) (by first | (simp; done) | (simp; omega) | omega) _) | (with_reducible refine Rd.alloc ?_ _)))
    have hKF : Kp g w (((((w3.setCell ⟨w2.heap.size, 2, none⟩ (.int .i64 r3)).setCell ⟨w.heap.size, 0, none⟩ (.int .i64 10)).setCell ⟨w.heap.size, 1, none⟩ (.int .i64 r2)).setCell ⟨w.heap.size, 2, none⟩ (.int .i64 r3))) := (by repeat (first | (with_reducible exact Kp.refl _ _) | (with_reducible assumption) | (with_reducible refine Kp.own ?_ (by first | (simp; done) | (simp; omega) | omega) _) | (with_reducible refine Kp.alloc ?_ _) | (with_reducible refine Kp.drew ?_) | (with_reducible refine Kp.trans ?_ (by assumption))))
    generalize World.setCell _ _ _ = W' at *
    have kF := blk_cell hbF
    refine bodyPost_ret (v := .agg #[.int .i64 10, .int .i64 r2, .int .i64 r3]) (by simp [results, Try.results88, go_sem, kF]) rfl ?_
    exact ⟨_, p + 1 + 1 + 1, rfl, ⟨10, r2, r3, rfl, by first | (simp [opOKP, inR_iff]; done) | (simp [opOKP, inR_iff]; omega)⟩, by omega, by omega, hRF, hKF⟩
  · go_wp2_with fail
    refine bodyPost_ret (v := .agg #[.int .i64 11, .int .i64 (0), .int .i64 (0)]) (by simp [results, Try.results88, go_sem, hy1, hy2, hg1, hg2, hg3, hg4, hc1, hc2]) rfl ?_
    exact ⟨_, p + 1 + 1, rfl, ⟨11, 0, 0, rfl, by first | (simp [opOKP, inR_iff]; done) | (simp [opOKP, inR_iff]; omega)⟩, by omega, by omega, (by repeat (first | (with_reducible assumption) | (with_reducible refine Rd.drew ?_) | (with_reducible refine Rd.own ?_ (by first | (simp; done) | (simp; omega) | omega) (by first | (simp; done) | (simp; omega) | omega) _) | (with_reducible refine Rd.alloc ?_ _))), (by repeat (first | (with_reducible exact Kp.refl _ _) | (with_reducible assumption) | (with_reducible refine Kp.own ?_ (by first | (simp; done) | (simp; omega) | omega) _) | (with_reducible refine Kp.alloc ?_ _) | (with_reducible refine Kp.drew ?_) | (with_reducible refine Kp.trans ?_ (by assumption))))⟩
  · go_wp2_with fail
    refine bodyPost_ret (v := .agg #[.int .i64 12, .int .i64 (r2), .int .i64 (0)]) (by simp [results, Try.results88, go_sem, hy1, hy2, hg1, hg2, hg3, hg4, hc1, hc2]) rfl ?_
    exact ⟨_, p + 1 + 1, rfl, ⟨12, r2, 0, rfl, by first | (simp [opOKP, inR_iff]; done) | (simp [opOKP, inR_iff]; omega)⟩, by omega, by omega, (by repeat (first | (with_reducible assumption) | (with_reducible refine Rd.drew ?_) | (with_reducible refine Rd.own ?_ (by first | (simp; done) | (simp; omega) | omega) (by first | (simp; done) | (simp; omega) | omega) _) | (with_reducible refine Rd.alloc ?_ _))), (by repeat (first | (with_reducible exact Kp.refl _ _) | (with_reducible assumption) | (with_reducible refine Kp.own ?_ (by first | (simp; done) | (simp; omega) | omega) _) | (with_reducible refine Kp.alloc ?_ _) | (with_reducible refine Kp.drew ?_) | (with_reducible refine Kp.trans ?_ (by assumption))))⟩
  · go_wp2_with fail
    refine (pick_c w0 _ g (p + 1 + 1) (8) (by repeat (first | (with_reducible assumption) | (with_reducible refine Rd.drew ?_) | (with_reducible refine Rd.own ?_ (by first | (simp; done) | (simp; omega) | omega) (by first | (simp; done) | (simp; omega) | omega) _) | (with_reducible refine Rd.alloc ?_ _))) (by omega) (by omega) (by omega) (by omega)).mono ?_
    rintro e w3 ⟨r3, rfl, ra3, rb3, hR3, hK3⟩
    obtain ⟨hc3, hf3⟩ := kcell hK3
    have hz3 := hK3.size
    (try simp only [World.size_alloc, World.size_setCell, World.size_drew] at hz3)
    have hy3 : w.heap.size < w3.heap.size := by omega
    have hy4 : w2.heap.size < w3.heap.size := by omega
    have hb3 : w3.heap[w.heap.size]? = some (.cells #[.int .i64 0, .int .i64 0, .int .i64 0] 44 (0, 0)) := hK3.blk (heap_up (hK2.blk (hK1.blk (heap_top _ _ rfl) hg3) hg3) _) hg3
    go_wp2_with fail
    have hbF := blk_put (blk_put (blk_put (blk_set (b' := w2.heap.size) hb3 2 (.int .i64 r3) (by omega)) 0 (.int .i64 13)) 1 (.int .i64 r2)) 2 (.int .i64 r3)
    have hRF : Rd w0 (((((w3.setCell ⟨w2.heap.size, 2, none⟩ (.int .i64 r3)).setCell ⟨w.heap.size, 0, none⟩ (.int .i64 13)).setCell ⟨w.heap.size, 1, none⟩ (.int .i64 r2)).setCell ⟨w.heap.size, 2, none⟩ (.int .i64 r3))) g (p + 1 + 1 + 1) := (by repeat (first | (with_reducible assumption) | (with_reducible refine Rd.drew ?_) | (with_reducible refine Rd.own ?_ (by first | (simp; done) | (simp; omega) | omega) (by first | (simp; done) | (simp; omega) | omega) _) | (with_reducible refine Rd.alloc ?_ _)))
    have hKF : Kp g w (((((w3.setCell ⟨w2.heap.size, 2, none⟩ (.int .i64 r3)).setCell ⟨w.heap.size, 0, none⟩ (.int .i64 13)).setCell ⟨w.heap.size, 1, none⟩ (.int .i64 r2)).setCell ⟨w.heap.size, 2, none⟩ (.int .i64 r3))) := (by repeat (first | (with_reducible exact Kp.refl _ _) | (with_reducible assumption) | (with_reducible refine Kp.own ?_ (by first | (simp; done) | (simp; omega) | omega) _) | (with_reducible refine Kp.alloc ?_ _) | (with_reducible refine Kp.drew ?_) | (with_reducible refine Kp.trans ?_ (by assumption))))
    generalize World.setCell _ _ _ = W' at *
    have kF := blk_cell hbF
    refine bodyPost_ret (v := .agg #[.int .i64 13, .int .i64 r2, .int .i64 r3]) (by simp [results, Try.results88, go_sem, kF]) rfl ?_
    exact ⟨_, p + 1 + 1 + 1, rfl, ⟨13, r2, r3, rfl, by first | (simp [opOKP, inR_iff]; done) | (simp [opOKP, inR_iff]; omega)⟩, by omega, by omega, hRF, hKF⟩
end Go.Proofs.Ytkphkkfgphhjcaa
