/- A part: as a kind; copied. -/
import Derived.Test.YtkphkkfgphhjcaaP4
namespace Go.Proofs.Ytkphkkfgphhjcaa
open Go.RowKit
set_option linter.unusedSimpArgs false
set_option linter.unusedVariables false

/-- A part's three slices. -/
structure PtF (W : World) (p : Pt) (v1 v2 v3 : Value) (f1 f2 f3 : List Nat) : Prop where
  prog : SL kO W v1 p.prog f1
  cells : SL kI W v2 p.cells f2
  box : SL kI W v3 p.box f3
theorem PtF.keep {W W' : World} {p : Pt} {v1 v2 v3 : Value} {f1 f2 f3 : List Nat} (h : PtF W p v1 v2 v3 f1 f2 f3) (hk : ∀ b ∈ f1 ++ (f2 ++ f3), W'.heap[b]? = W.heap[b]?) : PtF W' p v1 v2 v3 f1 f2 f3 :=
  ⟨h.prog.keep (fun b hb => hk b (by simp [hb])), h.cells.keep (fun b hb => hk b (by simp [hb])), h.box.keep (fun b hb => hk b (by simp [hb]))⟩
theorem PtF.below {W W' : World} {p : Pt} {v1 v2 v3 : Value} {f1 f2 f3 : List Nat} (h : PtF W p v1 v2 v3 f1 f2 f3) (hb : Below W.heap.size W W') : PtF W' p v1 v2 v3 f1 f2 f3 :=
  ⟨h.prog.below hb, h.cells.below hb, h.box.below hb⟩
def kPt : Kd Pt where
  sz := 5
  K W p cs fp := ∃ v1 v2 v3 f1 f2 f3, cs = [v1, v2, .int .i64 p.pc, .bool p.fails, v3] ∧ fp = f1 ++ (f2 ++ f3) ∧ PtF W p v1 v2 v3 f1 f2 f3
  len W p cs fp h := by obtain ⟨v1, v2, v3, f1, f2, f3, rfl, _⟩ := h; rfl
  lt W p cs fp h b hb := by
    obtain ⟨v1, v2, v3, f1, f2, f3, _, rfl, h⟩ := h
    simp only [List.mem_append] at hb
    rcases hb with hb | hb | hb
    · exact h.prog.lt b hb
    · exact h.cells.lt b hb
    · exact h.box.lt b hb
  keep W W' p cs fp h hk := by
    obtain ⟨v1, v2, v3, f1, f2, f3, h0, rfl, h⟩ := h
    exact ⟨v1, v2, v3, f1, f2, f3, h0, rfl, h.keep hk⟩
theorem PtF.S {W : World} {p : Pt} {A1 A2 A3 : Option Addr} {n1 n2 n3 c1 c2 c3 : Nat} {f1 f2 f3 : List Nat} (h : PtF W p (.slice A1 n1 c1) (.slice A2 n2 c2) (.slice A3 n3 c3) f1 f2 f3) (hn : n1 ≤ 10000000) : PtS W p A1 n1 c1 A2 n2 c2 A3 n3 c3 := ⟨h.prog.ops, h.cells.ints, h.box.ints, hn⟩

theorem PtF.has {W : World} {p : Pt} {v1 v2 v3 : Value} {f1 f2 f3 : List Nat} (h : PtF W p v1 v2 v3 f1 f2 f3) : Has 0 W.heap.size W (fun W => PtF W p v1 v2 v3 f1 f2 f3) := fun W2 h2 =>
  ⟨h.prog.has W2 h2, h.cells.has W2 h2, h.box.has W2 h2⟩
/-- A part that is made, in blocks of one's own. -/
def PtN (p : Pt) (lo hi : Nat) (v1 v2 v3 : Value) (f1 f2 f3 : List Nat) (W : World) : Prop := PtF W p v1 v2 v3 f1 f2 f3 ∧ Own W lo hi (f1 ++ (f2 ++ f3))
theorem PtN.mono {W : World} {p : Pt} {lo lo' hi : Nat} {v1 v2 v3 : Value} {f1 f2 f3 : List Nat} (h : PtN p lo hi v1 v2 v3 f1 f2 f3 W) (hl : lo' ≤ lo) : PtN p lo' hi v1 v2 v3 f1 f2 f3 W := ⟨h.1, h.2.mono hl (Nat.le_refl _)⟩
theorem PtN.has {W : World} {p : Pt} {lo hi : Nat} {v1 v2 v3 : Value} {f1 f2 f3 : List Nat} (h : PtN p lo hi v1 v2 v3 f1 f2 f3 W) : Has lo hi W (PtN p lo hi v1 v2 v3 f1 f2 f3) := fun W2 h2 =>
  have hk : ∀ b ∈ f1 ++ (f2 ++ f3), W2.heap[b]? = W.heap[b]? := fun b hb => h2 b (h.2.2 b hb).1.1 (h.2.2 b hb).1.2
  ⟨h.1.keep hk, h.2.keep hk⟩
def NewPt (w : World) (p : Pt) (e : Ending) (w' : World) : Prop := ∃ u1 u2 u3 g1 g2 g3, e = .returned (.agg #[u1, u2, .int .i64 p.pc, .bool p.fails, u3]) ∧ Has w.heap.size w'.heap.size w' (PtN p w.heap.size w'.heap.size u1 u2 u3 g1 g2 g3) ∧ Below w.heap.size w w'
theorem PtN.mk {W : World} {p : Pt} {lo hi l1 l2 l3 h1 h2 h3 : Nat} {v1 v2 v3 : Value} {f1 f2 f3 : List Nat} (a : SLn kO l1 h1 v1 p.prog f1 W) (b : SLn kI l2 h2 v2 p.cells f2 W) (c : SLn kI l3 h3 v3 p.box f3 W) (e1 : h1 ≤ l2) (e2 : h2 ≤ l3) (e3 : lo ≤ l2) (e4 : l2 ≤ l3) (e5 : h3 ≤ hi) (e6 : h2 ≤ hi) (e7 : h1 ≤ hi) (e8 : lo ≤ l1) : PtN p lo hi v1 v2 v3 f1 f2 f3 W :=
  ⟨⟨a.1, b.1, c.1⟩, (a.2.mono e8 (Nat.le_refl _)).app (b.2.app (c.2.mono (Nat.le_refl _) e5) e2 (by omega) e6) e1 e3 (by omega)⟩
set_option maxHeartbeats 1000000 in
set_option maxRecDepth 100000 in
theorem partCopy_c (p : Pt) (v1 v2 v3 : Value) (f1 f2 f3 : List Nat) (w : World) (h : PtF w p v1 v2 v3 f1 f2 f3) (q1 : p.prog.length ≤ 10000000) (q2 : p.cells.length ≤ 10000000) (q3 : p.box.length ≤ 10000000) : Calls Try.prog 59 #[.agg #[v1, v2, .int .i64 p.pc, .bool p.fails, v3]] w (NewPt w p) := by
  have hS := Lib.hid h.has
  clear h
  obtain ⟨pg, cl, pc, fl, bx⟩ := p
  simp only at hS q1 q2 q3 ⊢
  have hq1 : w.heap.size < w.heap.size + 1 + 1 := (by omega)
  go_enter Try.func59, Try.ntmps59
  go_wp2_with fail
  refine (cloneO_c v1 pg f1 _ (hS.out.at (by repeat (first | (with_reducible exact Btw.refl _ _ _) | (with_reducible assumption) | (with_reducible refine Btw.drew ?_) | (with_reducible refine Btw.drewN ?_ _) | (with_reducible refine Btw.setCell ?_ (by first | (simp; done) | (simp; omega) | omega) _) | (with_reducible refine Btw.alloc ?_ (by first | (simp; done) | (simp; omega) | omega) _) | (with_reducible refine Btw.trans ?_ (Btw.of_below (by assumption) (by first | (simp; done) | (simp; omega) | omega)))))).prog q1).mono ?_
  rintro e w1 ⟨U1, d1, g1, rfl, hs1, hB1⟩
  obtain ⟨hc1, hf1⟩ := bcell hB1
  have hz1 := hB1.size
  (try simp only [World.size_alloc, World.size_setCell, World.size_drew] at hz1)
  replace hs1 := Lib.hid hs1
  go_wp2_with fail
  refine (cloneI_c v2 cl f2 _ (hS.out.at (by repeat (first | (with_reducible exact Btw.refl _ _ _) | (with_reducible assumption) | (with_reducible refine Btw.drew ?_) | (with_reducible refine Btw.drewN ?_ _) | (with_reducible refine Btw.setCell ?_ (by first | (simp; done) | (simp; omega) | omega) _) | (with_reducible refine Btw.alloc ?_ (by first | (simp; done) | (simp; omega) | omega) _) | (with_reducible refine Btw.trans ?_ (Btw.of_below (by assumption) (by first | (simp; done) | (simp; omega) | omega)))))).cells q2).mono ?_
  rintro e w2 ⟨U2, d2, g2, rfl, hs2, hB2⟩
  obtain ⟨hc2, hf2⟩ := bcell hB2
  have hz2 := hB2.size
  (try simp only [World.size_alloc, World.size_setCell, World.size_drew] at hz2)
  replace hs2 := Lib.hid hs2
  have hy2 : w.heap.size < w1.heap.size := by omega
  have hx2 : w.heap.size + 1 < w1.heap.size := by omega
  go_wp2_with fail
  refine (cloneI_c v3 bx f3 _ (hS.out.at (by repeat (first | (with_reducible exact Btw.refl _ _ _) | (with_reducible assumption) | (with_reducible refine Btw.drew ?_) | (with_reducible refine Btw.drewN ?_ _) | (with_reducible refine Btw.setCell ?_ (by first | (simp; done) | (simp; omega) | omega) _) | (with_reducible refine Btw.alloc ?_ (by first | (simp; done) | (simp; omega) | omega) _) | (with_reducible refine Btw.trans ?_ (Btw.of_below (by assumption) (by first | (simp; done) | (simp; omega) | omega)))))).box q3).mono ?_
  rintro e w3 ⟨U3, d3, g3, rfl, hs3, hB3⟩
  obtain ⟨hc3, hf3⟩ := bcell hB3
  have hz3 := hB3.size
  (try simp only [World.size_alloc, World.size_setCell, World.size_drew] at hz3)
  replace hs3 := Lib.hid hs3
  have hy3 : w.heap.size < w2.heap.size := by omega
  have hx3 : w.heap.size + 1 < w2.heap.size := by omega
  go_wp2_with fail
  refine bodyPost_ret (v := .agg #[.slice U1 pg.length d1, .slice U2 cl.length d2, .int .i64 pc, .bool fl, .slice U3 bx.length d3]) (by simp [results, Try.results59, go_sem, hc1, hc2, hc3, hq1, hy2, hx2, hy3, hx3]) rfl ?_
  exact ⟨_, _, _, g1, g2, g3, rfl, PtN.has (PtN.mk ((hs1.out.at (by repeat (first | (with_reducible exact Btw.refl _ _ _) | (with_reducible assumption) | (with_reducible refine Btw.drew ?_) | (with_reducible refine Btw.drewN ?_ _) | (with_reducible refine Btw.setCell ?_ (by first | (simp; done) | (simp; omega) | omega) _) | (with_reducible refine Btw.alloc ?_ (by first | (simp; done) | (simp; omega) | omega) _) | (with_reducible refine Btw.trans ?_ (Btw.of_below (by assumption) (by first | (simp; done) | (simp; omega) | omega))))))) ((hs2.out.at (by repeat (first | (with_reducible exact Btw.refl _ _ _) | (with_reducible assumption) | (with_reducible refine Btw.drew ?_) | (with_reducible refine Btw.drewN ?_ _) | (with_reducible refine Btw.setCell ?_ (by first | (simp; done) | (simp; omega) | omega) _) | (with_reducible refine Btw.alloc ?_ (by first | (simp; done) | (simp; omega) | omega) _) | (with_reducible refine Btw.trans ?_ (Btw.of_below (by assumption) (by first | (simp; done) | (simp; omega) | omega))))))) ((hs3.out.at (by repeat (first | (with_reducible exact Btw.refl _ _ _) | (with_reducible assumption) | (with_reducible refine Btw.drew ?_) | (with_reducible refine Btw.drewN ?_ _) | (with_reducible refine Btw.setCell ?_ (by first | (simp; done) | (simp; omega) | omega) _) | (with_reducible refine Btw.alloc ?_ (by first | (simp; done) | (simp; omega) | omega) _) | (with_reducible refine Btw.trans ?_ (Btw.of_below (by assumption) (by first | (simp; done) | (simp; omega) | omega))))))) (by first | (simp; done) | (simp; omega) | omega) (by first | (simp; done) | (simp; omega) | omega) (by first | (simp; done) | (simp; omega) | omega) (by first | (simp; done) | (simp; omega) | omega) (by first | (simp; done) | (simp; omega) | omega) (by first | (simp; done) | (simp; omega) | omega) (by first | (simp; done) | (simp; omega) | omega) (by first | (simp; done) | (simp; omega) | omega)), (by repeat (first | (with_reducible exact Below.refl _ _) | (with_reducible assumption) | (with_reducible refine Below.drew ?_) | (with_reducible refine below_drewN' ?_ _) | (with_reducible refine Below.setCell ?_ (by first | (simp; done) | (simp; omega) | omega) _) | (with_reducible refine Below.alloc ?_ (by first | (simp; done) | (simp; omega) | omega) _) | (with_reducible refine Below.trans ?_ (Below.mono (by assumption) (by first | (simp; done) | (simp; omega) | omega)))))⟩
end Go.Proofs.Ytkphkkfgphhjcaa
