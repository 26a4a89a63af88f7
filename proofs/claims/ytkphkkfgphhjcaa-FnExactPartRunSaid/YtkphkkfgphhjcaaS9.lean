/- The reference's PartStep. -/
import Derived.Test.YtkphkkfgphhjcaaS8
namespace Go.Proofs.Ytkphkkfgphhjcaa
open Go.RowKit
set_option linter.unusedSimpArgs false
set_option linter.unusedVariables false

/-- A row of ints that is not empty lies in one block. -/
theorem SL.one {W : World} {v : Value} {xs : List Int} {fp : List Nat} (h : SL kI W v xs fp) (hne : xs ≠ []) : ∃ g o c, v = .slice (some ⟨g, o, none⟩) xs.length c ∧ fp = [g] := by
  obtain ⟨A, c, rfl, h1, h2, ⟨rfl, _⟩ | ⟨g, o, cur, e, fr, f, rfl, hg, rfl, h4⟩⟩ := h
  · exact absurd rfl hne
  · obtain rfl : f = [] := At.flat_nil h4
    exact ⟨g, o, c, rfl, rfl⟩
theorem runN_of {W : World} {p : Pt} {xs : List Int} {sd : List Sd} {v1 v2 v3 v4 v5 : Value} {g1 g2 g3 g4 g5 : List Nat} {lo hi l1 h1 l4 h4 l5 h5 : Nat} (a : PtN p l1 h1 v1 v2 v3 g1 g2 g3 W) (b : SLn kI l4 h4 v4 xs g4 W) (c : SL kSd W v5 sd g5) (d : Own W l5 h5 g5) (e1 : lo ≤ l1) (e2 : h1 ≤ l4) (e3 : h4 ≤ l5) (e4 : h5 ≤ hi) (e5 : l4 ≤ h4) (e6 : l1 ≤ h1) (e7 : l5 ≤ h5) : RunN lo hi p xs sd v1 v2 v3 v4 v5 W := by
  have h := (a.2.mono e1 (Nat.le_refl _)).app (b.2.app (d.mono (Nat.le_refl _) e4) e3 (by omega) (by omega)) e2 (by omega) (by omega)
  refine ⟨g1, g2, g3, g4, g5, a.1, b.1, c, ?_⟩
  simpa [List.append_assoc] using h
set_option maxHeartbeats 2000000
set_option maxRecDepth 100000
theorem lpartStep_f (p : Pt) (now : Int) (xs : List Int) (v1 v2 v3 v4 : Value) (f1 f2 f3 f4 : List Nat) (w : World) (h : PtF w p v1 v2 v3 f1 f2 f3) (hx : SL kI w v4 xs f4) (hn : p.prog.length ≤ 10000000) (hr : runOk p now xs = true) (hfl : p.fails = true) : Calls Try.prog 11 #[.agg #[v1, v2, .int .i64 p.pc, .bool p.fails, v3], .int .i64 now, v4] w (StepR w p xs [] false) := by
  obtain ⟨A1, c1, rfl, _⟩ := h.prog.form
  obtain ⟨A2, c2, rfl, _⟩ := h.cells.form
  obtain ⟨A3, c3, rfl, _⟩ := h.box.form
  obtain ⟨A4, c4, rfl, _⟩ := hx.form
  have hq1 : w.heap.size < w.heap.size + 1 + 1 := by omega
  have hok := runOk_ok hr
  have o2 : p.cells.length ≤ 10000000 := by have : p.cells.length = 8 := hok.len; omega
  have o3 : p.box.length ≤ 10000000 := by have : p.box.length ≤ 4 := hok.box; omega
  have o4 : xs.length ≤ 10000000 := by have : xs.length = 4 := hok.plen; omega
  simp only [runOk, Bool.and_eq_true] at hr
  obtain ⟨hr1, hr2, hr3⟩ := hr
  have hp := Lib.hid (fun W (hW : Btw 0 w.heap.size w W) => lpartOk_c p _ _ _ _ _ _ _ _ _ W ((h.has.at hW).S hn))
  have hv := Lib.hid (fun W (hW : Btw 0 w.heap.size w W) => lportsOk_c _ _ _ xs W (hx.has.at hW).ints)
  have hl := Lib.hid (fun W => l1In0_c now 99999 W)
  have hcp := Lib.hid (fun W (hW : Btw 0 w.heap.size w W) => copyR_c p _ _ _ f1 f2 f3 W (h.has.at hW) hn o2 o3)
  have hX := Lib.hid hx.has
  rw [hr1] at hp
  rw [hr2] at hl
  rw [hr3] at hv
  clear h hx hok hr1 hr2 hr3
  obtain ⟨pg, cl, pc, fl, bx⟩ := p
  simp only at hfl
  subst hfl
  simp only at *
  go_enter Try.func11, Try.ntmps11
  go_wp2_with fail
  refine (hp.out _ (by repeat (first | (with_reducible exact Btw.refl _ _ _) | (with_reducible assumption) | (with_reducible refine Btw.drew ?_) | (with_reducible refine Btw.drewN ?_ _) | (with_reducible refine Btw.setCell ?_ (by first | (simp; done) | (simp; omega) | omega) _) | (with_reducible refine Btw.alloc ?_ (by first | (simp; done) | (simp; omega) | omega) _) | (with_reducible refine Btw.trans ?_ (Btw.of_below (by assumption) (by first | (simp; done) | (simp; omega) | omega)))))).mono ?_
  rintro e w1 ⟨rfl, hB1⟩
  obtain ⟨hc1, hf1⟩ := bcell hB1
  have hz1 := hB1.size
  (try simp only [World.size_alloc, World.size_setCell, World.size_drew] at hz1)
  have hy1 : w.heap.size < w1.heap.size := by omega
  have hx1 : w.heap.size + 1 < w1.heap.size := by omega
  go_wp2_with fail
  refine (hv.out _ (by repeat (first | (with_reducible exact Btw.refl _ _ _) | (with_reducible assumption) | (with_reducible refine Btw.drew ?_) | (with_reducible refine Btw.drewN ?_ _) | (with_reducible refine Btw.setCell ?_ (by first | (simp; done) | (simp; omega) | omega) _) | (with_reducible refine Btw.alloc ?_ (by first | (simp; done) | (simp; omega) | omega) _) | (with_reducible refine Btw.trans ?_ (Btw.of_below (by assumption) (by first | (simp; done) | (simp; omega) | omega)))))).mono ?_
  rintro e w2 ⟨rfl, rfl⟩
  go_wp2_with fail
  refine (hl.out _).mono ?_
  rintro e w2 ⟨rfl, rfl⟩
  go_wp2_with fail
  refine (hcp.out _ (by repeat (first | (with_reducible exact Btw.refl _ _ _) | (with_reducible assumption) | (with_reducible refine Btw.drew ?_) | (with_reducible refine Btw.drewN ?_ _) | (with_reducible refine Btw.setCell ?_ (by first | (simp; done) | (simp; omega) | omega) _) | (with_reducible refine Btw.alloc ?_ (by first | (simp; done) | (simp; omega) | omega) _) | (with_reducible refine Btw.trans ?_ (Btw.of_below (by assumption) (by first | (simp; done) | (simp; omega) | omega)))))).mono ?_
  rintro e w3 ⟨U1, U2, U3, g1, g2, g3, rfl, hP3, hB3⟩
  obtain ⟨hc3, hf3⟩ := bcell hB3
  have hz3 := hB3.size
  (try simp only [World.size_alloc, World.size_setCell, World.size_drew] at hz3)
  have hy3 : w.heap.size < w3.heap.size := by omega
  have hx3 : w.heap.size + 1 < w3.heap.size := by omega
  obtain ⟨V1, d1, rfl, _⟩ := hP3.get.1.prog.form
  obtain ⟨V2, d2, rfl, _⟩ := hP3.get.1.cells.form
  obtain ⟨V3, d3, rfl, _⟩ := hP3.get.1.box.form
  replace hP3 := Lib.hid hP3
  have hz5 : w.heap.size < w3.heap.size + 1 + 1 := by omega
  have hz6 : w.heap.size < w3.heap.size + 1 := by omega
  have hz7 : w.heap.size + 1 < w3.heap.size + 1 + 1 := by omega
  go_wp2_with (at_builtin; refine append_ints_e rfl _ _ rfl rfl _ _ _ _ xs f4 rfl rfl (hX.out.at (by repeat (first | (with_reducible exact Btw.refl _ _ _) | (with_reducible assumption) | (with_reducible refine Btw.drew ?_) | (with_reducible refine Btw.drewN ?_ _) | (with_reducible refine Btw.setCell ?_ (by first | (simp; done) | (simp; omega) | omega) _) | (with_reducible refine Btw.alloc ?_ (by first | (simp; done) | (simp; omega) | omega) _) | (with_reducible refine Btw.trans ?_ (Btw.of_below (by assumption) (by first | (simp; done) | (simp; omega) | omega)))))) o4 ?_; intro v4 w4 g4 hB4 hT4; obtain ⟨a4, d4, rfl⟩ := hT4.2.2.2; obtain ⟨hc4, hf4⟩ := bcell hB4; have hz4 := hB4.size; simp only [World.size_alloc, World.size_setCell, World.size_drew] at hz4; have hy4 : w.heap.size < w4.heap.size := (by omega); have hx4 : w.heap.size + 1 < w4.heap.size := (by omega); have hx5 : w3.heap.size < w4.heap.size := (by omega); replace hT4 := Lib.hid hT4)
  refine bodyPost_ret (v := .tuple #[.agg #[.slice V1 pg.length d1, .slice V2 cl.length d2, .int .i64 pc, .bool true, .slice V3 bx.length d3], .slice (some a4) xs.length d4, .slice (some ⟨w4.heap.size, 0, none⟩) 0 0, .bool false]) (by simp [results, Try.results11, go_sem, hc1, hf1, hc3, hf3, hc4, hf4, hq1, hy1, hx1, hy3, hx3, hy4, hx4, hx5, hz5, hz6, hz7]) rfl ?_
  refine ⟨V1, d1, V2, d2, V3, d3, some a4, d4, some ⟨w4.heap.size, 0, none⟩, 0, rfl, RunN.has ?_, (by repeat (first | (with_reducible exact Below.refl _ _) | (with_reducible assumption) | (with_reducible refine Below.drew ?_) | (with_reducible refine below_drewN' ?_ _) | (with_reducible refine Below.setCell ?_ (by first | (simp; done) | (simp; omega) | omega) _) | (with_reducible refine Below.alloc ?_ (by first | (simp; done) | (simp; omega) | omega) _) | (with_reducible refine Below.trans ?_ (Below.mono (by assumption) (by first | (simp; done) | (simp; omega) | omega)))))⟩
  exact runN_of (lo := w.heap.size) (hP3.out.at (by repeat (first | (with_reducible exact Btw.refl _ _ _) | (with_reducible assumption) | (with_reducible refine Btw.drew ?_) | (with_reducible refine Btw.drewN ?_ _) | (with_reducible refine Btw.setCell ?_ (by first | (simp; done) | (simp; omega) | omega) _) | (with_reducible refine Btw.alloc ?_ (by first | (simp; done) | (simp; omega) | omega) _) | (with_reducible refine Btw.trans ?_ (Btw.of_below (by assumption) (by first | (simp; done) | (simp; omega) | omega)))))) ((has_new hT4.out.1 hT4.out.2.1).at (by repeat (first | (with_reducible exact Btw.refl _ _ _) | (with_reducible assumption) | (with_reducible refine Btw.drew ?_) | (with_reducible refine Btw.drewN ?_ _) | (with_reducible refine Btw.setCell ?_ (by first | (simp; done) | (simp; omega) | omega) _) | (with_reducible refine Btw.alloc ?_ (by first | (simp; done) | (simp; omega) | omega) _) | (with_reducible refine Btw.trans ?_ (Btw.of_below (by assumption) (by first | (simp; done) | (simp; omega) | omega)))))) ⟨_, _, rfl, Nat.le_refl _, by omega, .inl ⟨rfl, rfl⟩⟩ (own_nil _ w4.heap.size w4.heap.size) (by first | (simp; done) | (simp; omega) | omega) (by first | (simp; done) | (simp; omega) | omega) (by first | (simp; done) | (simp; omega) | omega) (by first | (simp; done) | (simp; omega) | omega) (by first | (simp; done) | (simp; omega) | omega) (by first | (simp; done) | (simp; omega) | omega) (by first | (simp; done) | (simp; omega) | omega)
end Go.Proofs.Ytkphkkfgphhjcaa
