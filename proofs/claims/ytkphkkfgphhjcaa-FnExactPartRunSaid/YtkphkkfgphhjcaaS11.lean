/- The reference's PartStep. -/
import Derived.Test.YtkphkkfgphhjcaaS10
namespace Go.Proofs.Ytkphkkfgphhjcaa
open Go.RowKit
set_option linter.unusedSimpArgs false
set_option linter.unusedVariables false

set_option maxHeartbeats 2000000
set_option maxRecDepth 100000
def StepN (w : World) (r : Pt × List Int × List Sd × Bool) (e : Ending) (w' : World) : Prop := LStepN w.heap.size w r e w'
theorem lpartStep_g (p : Pt) (now : Int) (xs : List Int) (v1 v2 v3 v4 : Value) (f1 f2 f3 f4 : List Nat) (w : World) (h : PtF w p v1 v2 v3 f1 f2 f3) (hx : SL kI w v4 xs f4) (hn : p.prog.length ≤ 10000000) (hr : runOk p now xs = true) (hfl : p.fails = false) : Calls Try.prog 11 #[.agg #[v1, v2, .int .i64 p.pc, .bool p.fails, v3], .int .i64 now, v4] w (StepN w (PStep p now xs)) := by
  obtain ⟨A1, c1, rfl, _⟩ := h.prog.form
  obtain ⟨A2, c2, rfl, _⟩ := h.cells.form
  obtain ⟨A3, c3, rfl, _⟩ := h.box.form
  obtain ⟨A4, c4, rfl, _⟩ := hx.form
  have hq1 : w.heap.size < w.heap.size + 1 + 1 := by omega
  have hok := runOk_ok hr
  have o2 : p.cells.length ≤ 10000000 := by have : p.cells.length = 8 := hok.len; omega
  have o3 : p.box.length ≤ 10000000 := by have : p.box.length ≤ 4 := hok.box; omega
  have o4 : xs.length ≤ 10000000 := by have : xs.length = 4 := hok.plen; omega
  simp only [runOk, Bool.and_eq_true] at hr
  obtain ⟨hr1, hr2, hr3⟩ := hr
  have hp := Lib.hid (fun W (hW : Btw 0 w.heap.size w W) => lpartOk_c p _ _ _ _ _ _ _ _ _ W ((h.has.at hW).S hn))
  have hv := Lib.hid (fun W (hW : Btw 0 w.heap.size w W) => lportsOk_c _ _ _ xs W (hx.has.at hW).ints)
  have hl := Lib.hid (fun W => l1In0_c now 99999 W)
  have hcp := Lib.hid (fun W (hW : Btw 0 w.heap.size w W) => copyR_c p _ _ _ f1 f2 f3 W (h.has.at hW) hn o2 o3)
  have hX := Lib.hid hx.has
  have hst := Lib.hid (fun W v1 v2 v3 v4 f1 f2 f3 f4 h hx ho hlo => lstepN_c p now xs v1 v2 v3 v4 f1 f2 f3 f4 (w.heap.size + 1 + 1) W h hx ho hlo (by simp only [runOk, hr1, hr2, hr3, Bool.and_true]) hfl)
  obtain ⟨Z, hZ⟩ : ∃ Z, Z = PStep p now xs := ⟨_, rfl⟩
  rw [← hZ] at hst ⊢
  clear hZ
  rw [hr1] at hp
  rw [hr2] at hl
  rw [hr3] at hv
  clear h hx hok hr1 hr2 hr3
  obtain ⟨pg, cl, pc, fl, bx⟩ := p
  simp only at hfl
  subst hfl
  simp only at *
  go_enter Try.func11, Try.ntmps11
  go_wp2_with fail
  refine (hp.out _ (by repeat (first | (with_reducible exact Btw.refl _ _ _) | (with_reducible assumption) | (with_reducible refine Btw.drew ?_) | (with_reducible refine Btw.drewN ?_ _) | (with_reducible refine Btw.setCell ?_ (by first | (simp; done) | (simp; omega) | omega) _) | (with_reducible refine Btw.alloc ?_ (by first | (simp; done) | (simp; omega) | omega) _) | (with_reducible refine Btw.trans ?_ (Btw.of_below (by assumption) (by first | (simp; done) | (simp; omega) | omega)))))).mono ?_
  rintro e w1 ⟨rfl, hB1⟩
  obtain ⟨hc1, hf1⟩ := bcell hB1
  have hz1 := hB1.size
  (try simp only [World.size_alloc, World.size_setCell, World.size_drew] at hz1)
  have hy1 : w.heap.size < w1.heap.size := by omega
  have hx1 : w.heap.size + 1 < w1.heap.size := by omega
  go_wp2_with fail
  refine (hv.out _ (by repeat (first | (with_reducible exact Btw.refl _ _ _) | (with_reducible assumption) | (with_reducible refine Btw.drew ?_) | (with_reducible refine Btw.drewN ?_ _) | (with_reducible refine Btw.setCell ?_ (by first | (simp; done) | (simp; omega) | omega) _) | (with_reducible refine Btw.alloc ?_ (by first | (simp; done) | (simp; omega) | omega) _) | (with_reducible refine Btw.trans ?_ (Btw.of_below (by assumption) (by first | (simp; done) | (simp; omega) | omega)))))).mono ?_
  rintro e w2 ⟨rfl, rfl⟩
  go_wp2_with fail
  refine (hl.out _).mono ?_
  rintro e w2 ⟨rfl, rfl⟩
  go_wp2_with fail
  refine (hcp.out _ (by repeat (first | (with_reducible exact Btw.refl _ _ _) | (with_reducible assumption) | (with_reducible refine Btw.drew ?_) | (with_reducible refine Btw.drewN ?_ _) | (with_reducible refine Btw.setCell ?_ (by first | (simp; done) | (simp; omega) | omega) _) | (with_reducible refine Btw.alloc ?_ (by first | (simp; done) | (simp; omega) | omega) _) | (with_reducible refine Btw.trans ?_ (Btw.of_below (by assumption) (by first | (simp; done) | (simp; omega) | omega)))))).mono ?_
  rintro e w3 ⟨U1, U2, U3, g1, g2, g3, rfl, hP3, hB3⟩
  obtain ⟨hc3, hf3⟩ := bcell hB3
  have hz3 := hB3.size
  (try simp only [World.size_alloc, World.size_setCell, World.size_drew] at hz3)
  have hy3 : w.heap.size < w3.heap.size := by omega
  have hx3 : w.heap.size + 1 < w3.heap.size := by omega
  obtain ⟨V1, d1, rfl, _⟩ := hP3.get.1.prog.form
  obtain ⟨V2, d2, rfl, _⟩ := hP3.get.1.cells.form
  obtain ⟨V3, d3, rfl, _⟩ := hP3.get.1.box.form
  replace hP3 := Lib.hid hP3
  have hz5 : w.heap.size < w3.heap.size + 1 + 1 := by omega
  have hz6 : w.heap.size < w3.heap.size + 1 := by omega
  have hz7 : w.heap.size + 1 < w3.heap.size + 1 + 1 := by omega
  go_wp2_with (at_builtin; refine append_ints_e rfl _ _ rfl rfl _ _ _ _ xs f4 rfl rfl (hX.out.at (by repeat (first | (with_reducible exact Btw.refl _ _ _) | (with_reducible assumption) | (with_reducible refine Btw.drew ?_) | (with_reducible refine Btw.drewN ?_ _) | (with_reducible refine Btw.setCell ?_ (by first | (simp; done) | (simp; omega) | omega) _) | (with_reducible refine Btw.alloc ?_ (by first | (simp; done) | (simp; omega) | omega) _) | (with_reducible refine Btw.trans ?_ (Btw.of_below (by assumption) (by first | (simp; done) | (simp; omega) | omega)))))) o4 ?_; intro v4 w4 g4 hB4 hT4; obtain ⟨a4, d4, rfl⟩ := hT4.2.2.2; obtain ⟨hc4, hf4⟩ := bcell hB4; have hz4 := hB4.size; simp only [World.size_alloc, World.size_setCell, World.size_drew] at hz4; have hy4 : w.heap.size < w4.heap.size := (by omega); have hx4 : w.heap.size + 1 < w4.heap.size := (by omega); have hx5 : w3.heap.size < w4.heap.size := (by omega); replace hT4 := Lib.hid hT4)
  refine (hst.out _ _ _ _ _ g1 g2 g3 g4 (hP3.out.at (by repeat (first | (with_reducible exact Btw.refl _ _ _) | (with_reducible assumption) | (with_reducible refine Btw.drew ?_) | (with_reducible refine Btw.drewN ?_ _) | (with_reducible refine Btw.setCell ?_ (by first | (simp; done) | (simp; omega) | omega) _) | (with_reducible refine Btw.alloc ?_ (by first | (simp; done) | (simp; omega) | omega) _) | (with_reducible refine Btw.trans ?_ (Btw.of_below (by assumption) (by first | (simp; done) | (simp; omega) | omega)))))).1 ((has_new hT4.out.1 hT4.out.2.1).at (by repeat (first | (with_reducible exact Btw.refl _ _ _) | (with_reducible assumption) | (with_reducible refine Btw.drew ?_) | (with_reducible refine Btw.drewN ?_ _) | (with_reducible refine Btw.setCell ?_ (by first | (simp; done) | (simp; omega) | omega) _) | (with_reducible refine Btw.alloc ?_ (by first | (simp; done) | (simp; omega) | omega) _) | (with_reducible refine Btw.trans ?_ (Btw.of_below (by assumption) (by first | (simp; done) | (simp; omega) | omega)))))).1 ?ho (by first | (simp; done) | (simp; omega) | omega)).mono ?_
  case ho =>
    have h1 := ((hP3.out.at (W' := w4) (by repeat (first | (with_reducible exact Btw.refl _ _ _) | (with_reducible assumption) | (with_reducible refine Btw.drew ?_) | (with_reducible refine Btw.drewN ?_ _) | (with_reducible refine Btw.setCell ?_ (by first | (simp; done) | (simp; omega) | omega) _) | (with_reducible refine Btw.alloc ?_ (by first | (simp; done) | (simp; omega) | omega) _) | (with_reducible refine Btw.trans ?_ (Btw.of_below (by assumption) (by first | (simp; done) | (simp; omega) | omega)))))).2.mono (lo' := w.heap.size + 1 + 1) (by first | (simp; done) | (simp; omega) | omega) (Nat.le_refl _)).app hT4.out.2.1 (by first | (simp; done) | (simp; omega) | omega) (by first | (simp; done) | (simp; omega) | omega) (by first | (simp; done) | (simp; omega) | omega)
    simpa [List.append_assoc] using h1
  rintro e w5 ⟨u1, u2, u3, u4, u5, rfl, ⟨k1, k2, k3, k4, k5, hp5, hx5, hs5, ho5⟩, hB5⟩
  obtain ⟨E1, m1, rfl, _⟩ := hp5.prog.form
  obtain ⟨E2, m2, rfl, _⟩ := hp5.cells.form
  obtain ⟨E3, m3, rfl, _⟩ := hp5.box.form
  obtain ⟨E4, m4, rfl, _⟩ := hx5.form
  obtain ⟨E5, m5, rfl, _⟩ := hs5.form
  have hN := Lib.hid (RunN.has ⟨k1, k2, k3, k4, k5, hp5, hx5, hs5, ho5⟩)
  have hc5 : ∀ b o : Nat, b < w.heap.size + 1 + 1 → w5.cell? ⟨b, o, none⟩ = w4.cell? ⟨b, o, none⟩ := fun b o hb => hB5.cell (p := ⟨b, o, none⟩) hb
  have hf5 : ∀ b o : Nat, b < w.heap.size + 1 + 1 → w5.frozen? ⟨b, o, none⟩ = w4.frozen? ⟨b, o, none⟩ := fun b o hb => hB5.frozen (p := ⟨b, o, none⟩) hb
  have hz5' := hB5.size
  have hy5 : w.heap.size < w5.heap.size := by omega
  have hx6 : w.heap.size + 1 < w5.heap.size := by omega
  have hB5w : Below w.heap.size w4 w5 := hB5.mono (by omega)
  clear hp5 hx5 hs5 ho5 hst
  go_wp2_with fail
  refine bodyPost_ret (v := .tuple #[.agg #[.slice E1 Z.1.prog.length m1, .slice E2 Z.1.cells.length m2, .int .i64 Z.1.pc, .bool Z.1.fails, .slice E3 Z.1.box.length m3], .slice E4 Z.2.1.length m4, .slice E5 Z.2.2.1.length m5, .bool Z.2.2.2]) (by simp [results, Try.results11, go_sem, hc1, hf1, hc3, hf3, hc4, hf4, hc5, hf5, hq1, hy1, hx1, hy3, hx3, hy4, hx4, hx5, hz5, hz6, hz7, hy5, hx6]) rfl ?_
  refine ⟨_, _, _, _, _, rfl, ((hN.out.at (by repeat (first | (with_reducible exact Btw.refl _ _ _) | (with_reducible assumption) | (with_reducible refine Btw.drew ?_) | (with_reducible refine Btw.drewN ?_ _) | (with_reducible refine Btw.setCell ?_ (by first | (simp; done) | (simp; omega) | omega) _) | (with_reducible refine Btw.alloc ?_ (by first | (simp; done) | (simp; omega) | omega) _) | (with_reducible refine Btw.trans ?_ (Btw.of_below (by assumption) (by first | (simp; done) | (simp; omega) | omega)))))).mono (by first | (simp; done) | (simp; omega) | omega) (by first | (simp; done) | (simp; omega) | omega)), (by repeat (first | (with_reducible exact Below.refl _ _) | (with_reducible assumption) | (with_reducible refine Below.drew ?_) | (with_reducible refine below_drewN' ?_ _) | (with_reducible refine Below.setCell ?_ (by first | (simp; done) | (simp; omega) | omega) _) | (with_reducible refine Below.alloc ?_ (by first | (simp; done) | (simp; omega) | omega) _) | (with_reducible refine Below.trans ?_ (Below.mono (by assumption) (by first | (simp; done) | (simp; omega) | omega)))))⟩
theorem StepN.step {w : World} {r : Pt × List Int × List Sd × Bool} {e : Ending} {w' : World} (h : StepN w r e w') : StepR w r.1 r.2.1 r.2.2.1 r.2.2.2 e w' := by
  obtain ⟨u1, u2, u3, u4, u5, rfl, ⟨k1, k2, k3, k4, k5, hp5, hx5, hs5, ho5⟩, hB5⟩ := h
  obtain ⟨E1, m1, rfl, _⟩ := hp5.prog.form
  obtain ⟨E2, m2, rfl, _⟩ := hp5.cells.form
  obtain ⟨E3, m3, rfl, _⟩ := hp5.box.form
  obtain ⟨E4, m4, rfl, _⟩ := hx5.form
  obtain ⟨E5, m5, rfl, _⟩ := hs5.form
  exact ⟨E1, m1, E2, m2, E3, m3, E4, m4, E5, m5, rfl, RunN.has ⟨k1, k2, k3, k4, k5, hp5, hx5, hs5, ho5⟩, hB5⟩
theorem lpartStep_c (p : Pt) (now : Int) (xs : List Int) (v1 v2 v3 v4 : Value) (f1 f2 f3 f4 : List Nat) (w : World) (h : PtF w p v1 v2 v3 f1 f2 f3) (hx : SL kI w v4 xs f4) (hn : p.prog.length ≤ 10000000) : Calls Try.prog 11 #[.agg #[v1, v2, .int .i64 p.pc, .bool p.fails, v3], .int .i64 now, v4] w (StepR w (PStep p now xs).1 (PStep p now xs).2.1 (PStep p now xs).2.2.1 (PStep p now xs).2.2.2) := by
  cases hr : runOk p now xs
  · have hP : PStep p now xs = (pt0, [], [], false) := by unfold PStep; rw [hr]; rfl
    rw [hP]
    exact lpartStep_not p now xs v1 v2 v3 v4 f1 f2 f3 f4 w h hx hn hr
  · cases hfl : p.fails
    · have hs := lpartStep_g p now xs v1 v2 v3 v4 f1 f2 f3 f4 w h hx hn hr hfl
      rw [hfl] at hs
      exact hs.mono (fun e w' h => h.step)
    · have hP : PStep p now xs = (p, xs, [], false) := by unfold PStep; rw [if_pos hr, if_pos hfl]
      have hs := lpartStep_f p now xs v1 v2 v3 v4 f1 f2 f3 f4 w h hx hn hr hfl
      rw [hP]
      rw [hfl] at hs
      exact hs
end Go.Proofs.Ytkphkkfgphhjcaa
