/- The exact laws' helpers: of parts. -/
import Derived.Test.YtkphkkfgphhjcaaX2
namespace Go.Proofs.Ytkphkkfgphhjcaa
open Go.RowKit
set_option linter.unusedSimpArgs false
set_option linter.unusedVariables false
set_option maxHeartbeats 2000000
set_option maxRecDepth 100000
theorem toPart_c (p : Pt) (v1 v2 v3 : Value) (f1 f2 f3 : List Nat) (w : World) (h : PtF w p v1 v2 v3 f1 f2 f3) (q1 : p.prog.length ≤ 1048576) (q2 : p.cells.length ≤ 1048576) (q3 : p.box.length ≤ 1048576) : Calls Try.prog 22 #[.agg #[v1, v2, .int .i64 p.pc, .bool p.fails, v3]] w (NewPt w p) := by
  have hS := Lib.hid h.has
  clear h
  obtain ⟨pg, cl, pc, fl, bx⟩ := p
  simp only at hS q1 q2 q3 ⊢
  have hq1 : w.heap.size < w.heap.size + 1 + 1 := (by omega)
  have hq2 : w.heap.size < w.heap.size + 1 + 1 + 1 := (by omega)
  have hq3 : w.heap.size + 1 < w.heap.size + 1 + 1 + 1 := (by omega)
  go_enter Try.func22, Try.ntmps22
  go_wp2_with fail
  refine (toOpS_c pg v1 f1 _ (hS.out.at (by repeat (first | (with_reducible exact Btw.refl _ _ _) | (with_reducible assumption) | (with_reducible refine Btw.drew ?_) | (with_reducible refine Btw.drewN ?_ _) | (with_reducible refine Btw.setCell ?_ (by first | (simp; done) | (simp; omega) | omega) _) | (with_reducible refine Btw.alloc ?_ (by first | (simp; done) | (simp; omega) | omega) _) | (with_reducible refine Btw.trans ?_ (Btw.of_below (by assumption) (by first | (simp; done) | (simp; omega) | omega)))))).prog q1).mono ?_
  rintro e w1 ⟨U1, d1, g1, rfl, hs1, hB1⟩
  obtain ⟨hc1, hf1⟩ := bcell hB1
  have hz1 := hB1.size
  (try simp only [World.size_alloc, World.size_setCell, World.size_drew] at hz1)
  replace hs1 := Lib.hid hs1
  have hy1 : w.heap.size < w1.heap.size := by omega
  have hx1 : w.heap.size + 1 < w1.heap.size := by omega
  have hu1 : w.heap.size + 1 + 1 < w1.heap.size := by omega
  go_wp2_with fail
  refine (toIntS_c cl v2 f2 _ (hS.out.at (by repeat (first | (with_reducible exact Btw.refl _ _ _) | (with_reducible assumption) | (with_reducible refine Btw.drew ?_) | (with_reducible refine Btw.drewN ?_ _) | (with_reducible refine Btw.setCell ?_ (by first | (simp; done) | (simp; omega) | omega) _) | (with_reducible refine Btw.alloc ?_ (by first | (simp; done) | (simp; omega) | omega) _) | (with_reducible refine Btw.trans ?_ (Btw.of_below (by assumption) (by first | (simp; done) | (simp; omega) | omega)))))).cells q2).mono ?_
  rintro e w2 ⟨U2, d2, g2, rfl, hs2, hB2⟩
  obtain ⟨hc2, hf2⟩ := bcell hB2
  have hz2 := hB2.size
  (try simp only [World.size_alloc, World.size_setCell, World.size_drew] at hz2)
  replace hs2 := Lib.hid hs2
  have hy2 : w.heap.size < w2.heap.size := by omega
  have hx2 : w.heap.size + 1 < w2.heap.size := by omega
  have hu2 : w.heap.size + 1 + 1 < w2.heap.size := by omega
  go_wp2_with fail
  refine (toIntS_c bx v3 f3 _ (hS.out.at (by repeat (first | (with_reducible exact Btw.refl _ _ _) | (with_reducible assumption) | (with_reducible refine Btw.drew ?_) | (with_reducible refine Btw.drewN ?_ _) | (with_reducible refine Btw.setCell ?_ (by first | (simp; done) | (simp; omega) | omega) _) | (with_reducible refine Btw.alloc ?_ (by first | (simp; done) | (simp; omega) | omega) _) | (with_reducible refine Btw.trans ?_ (Btw.of_below (by assumption) (by first | (simp; done) | (simp; omega) | omega)))))).box q3).mono ?_
  rintro e w3 ⟨U3, d3, g3, rfl, hs3, hB3⟩
  obtain ⟨hc3, hf3⟩ := bcell hB3
  have hz3 := hB3.size
  (try simp only [World.size_alloc, World.size_setCell, World.size_drew] at hz3)
  replace hs3 := Lib.hid hs3
  have hy3 : w.heap.size < w3.heap.size := by omega
  have hx3 : w.heap.size + 1 < w3.heap.size := by omega
  have hu3 : w.heap.size + 1 + 1 < w3.heap.size := by omega
  go_wp2_with fail
  refine bodyPost_ret (v := .agg #[.slice U1 pg.length d1, .slice U2 cl.length d2, .int .i64 pc, .bool fl, .slice U3 bx.length d3]) (by simp [results, Try.results22, go_sem, hc1, hc2, hc3, hf1, hf2, hf3, hq1, hq2, hq3, hy1, hx1, hu1, hy2, hx2, hu2, hy3, hx3, hu3]) rfl ?_
  exact ⟨_, _, _, g1, g2, g3, rfl, PtN.has (PtN.mk ((hs1.out.at (by repeat (first | (with_reducible exact Btw.refl _ _ _) | (with_reducible assumption) | (with_reducible refine Btw.drew ?_) | (with_reducible refine Btw.drewN ?_ _) | (with_reducible refine Btw.setCell ?_ (by first | (simp; done) | (simp; omega) | omega) _) | (with_reducible refine Btw.alloc ?_ (by first | (simp; done) | (simp; omega) | omega) _) | (with_reducible refine Btw.trans ?_ (Btw.of_below (by assumption) (by first | (simp; done) | (simp; omega) | omega))))))) ((hs2.out.at (by repeat (first | (with_reducible exact Btw.refl _ _ _) | (with_reducible assumption) | (with_reducible refine Btw.drew ?_) | (with_reducible refine Btw.drewN ?_ _) | (with_reducible refine Btw.setCell ?_ (by first | (simp; done) | (simp; omega) | omega) _) | (with_reducible refine Btw.alloc ?_ (by first | (simp; done) | (simp; omega) | omega) _) | (with_reducible refine Btw.trans ?_ (Btw.of_below (by assumption) (by first | (simp; done) | (simp; omega) | omega))))))) ((hs3.out.at (by repeat (first | (with_reducible exact Btw.refl _ _ _) | (with_reducible assumption) | (with_reducible refine Btw.drew ?_) | (with_reducible refine Btw.drewN ?_ _) | (with_reducible refine Btw.setCell ?_ (by first | (simp; done) | (simp; omega) | omega) _) | (with_reducible refine Btw.alloc ?_ (by first | (simp; done) | (simp; omega) | omega) _) | (with_reducible refine Btw.trans ?_ (Btw.of_below (by assumption) (by first | (simp; done) | (simp; omega) | omega))))))) (by first | (simp; done) | (simp; omega) | omega) (by first | (simp; done) | (simp; omega) | omega) (by first | (simp; done) | (simp; omega) | omega) (by first | (simp; done) | (simp; omega) | omega) (by first | (simp; done) | (simp; omega) | omega) (by first | (simp; done) | (simp; omega) | omega) (by first | (simp; done) | (simp; omega) | omega) (by first | (simp; done) | (simp; omega) | omega)), (by repeat (first | (with_reducible exact Below.refl _ _) | (with_reducible assumption) | (with_reducible refine Below.drew ?_) | (with_reducible refine below_drewN' ?_ _) | (with_reducible refine Below.setCell ?_ (by first | (simp; done) | (simp; omega) | omega) _) | (with_reducible refine Below.alloc ?_ (by first | (simp; done) | (simp; omega) | omega) _) | (with_reducible refine Below.trans ?_ (Below.mono (by assumption) (by first | (simp; done) | (simp; omega) | omega)))))⟩
theorem eqPart_c (p : Pt) (v1 v2 v3 u1 u2 u3 : Value) (f1 f2 f3 g1 g2 g3 : List Nat) (w : World) (h : PtF w p v1 v2 v3 f1 f2 f3) (k : PtF w p u1 u2 u3 g1 g2 g3) : Calls Try.prog 24 #[.agg #[v1, v2, .int .i64 p.pc, .bool p.fails, v3], .agg #[u1, u2, .int .i64 p.pc, .bool p.fails, u3]] w (Ret w (.bool true)) := by
  obtain ⟨A1, c1, rfl, _⟩ := h.prog.form
  obtain ⟨A2, c2, rfl, _⟩ := h.cells.form
  obtain ⟨A3, c3, rfl, _⟩ := h.box.form
  obtain ⟨B1, d1, rfl, _⟩ := k.prog.form
  obtain ⟨B2, d2, rfl, _⟩ := k.cells.form
  obtain ⟨B3, d3, rfl, _⟩ := k.box.form
  have hp := Lib.hid (fun W (hW : Below w.heap.size w W) => eqOpS_c p.prog _ _ _ _ W (h.prog.below hW) (k.prog.below hW))
  have hc := Lib.hid (fun W (hW : Below w.heap.size w W) => eqIntS_c p.cells _ _ _ _ W (h.cells.below hW) (k.cells.below hW))
  have hb := Lib.hid (fun W (hW : Below w.heap.size w W) => eqIntS_c p.box _ _ _ _ W (h.box.below hW) (k.box.below hW))
  clear h k
  obtain ⟨pg, cl, pc, fl, bx⟩ := p
  simp only at *
  have hfl : (fl != fl) = false := by cases fl <;> rfl
  have hq1 : w.heap.size < w.heap.size + 1 + 1 := by omega
  go_enter Try.func24, Try.ntmps24
  go_wp2_with fail
  refine (hp.out _ (by repeat (first | (with_reducible exact Below.refl _ _) | (with_reducible assumption) | (with_reducible refine Below.drew ?_) | (with_reducible refine below_drewN' ?_ _) | (with_reducible refine Below.setCell ?_ (by first | (simp; done) | (simp; omega) | omega) _) | (with_reducible refine Below.alloc ?_ (by first | (simp; done) | (simp; omega) | omega) _) | (with_reducible refine Below.trans ?_ (Below.mono (by assumption) (by first | (simp; done) | (simp; omega) | omega)))))).mono ?_
  rintro e w1 ⟨rfl, hB1⟩
  obtain ⟨hc1, hf1⟩ := bcell hB1
  have hz1 := hB1.size
  (try simp only [World.size_alloc, World.size_setCell, World.size_drew] at hz1)
  have hy1 : w.heap.size < w1.heap.size := by omega
  have hx1 : w.heap.size + 1 < w1.heap.size := by omega
  go_wp2_with fail
  refine (hc.out _ (by repeat (first | (with_reducible exact Below.refl _ _) | (with_reducible assumption) | (with_reducible refine Below.drew ?_) | (with_reducible refine below_drewN' ?_ _) | (with_reducible refine Below.setCell ?_ (by first | (simp; done) | (simp; omega) | omega) _) | (with_reducible refine Below.alloc ?_ (by first | (simp; done) | (simp; omega) | omega) _) | (with_reducible refine Below.trans ?_ (Below.mono (by assumption) (by first | (simp; done) | (simp; omega) | omega)))))).mono ?_
  rintro e w2 ⟨rfl, hB2⟩
  obtain ⟨hc2, hf2⟩ := bcell hB2
  have hz2 := hB2.size
  (try simp only [World.size_alloc, World.size_setCell, World.size_drew] at hz2)
  have hy2 : w.heap.size < w2.heap.size := by omega
  have hx2 : w.heap.size + 1 < w2.heap.size := by omega
  go_wp2_with fail
  refine (hb.out _ (by repeat (first | (with_reducible exact Below.refl _ _) | (with_reducible assumption) | (with_reducible refine Below.drew ?_) | (with_reducible refine below_drewN' ?_ _) | (with_reducible refine Below.setCell ?_ (by first | (simp; done) | (simp; omega) | omega) _) | (with_reducible refine Below.alloc ?_ (by first | (simp; done) | (simp; omega) | omega) _) | (with_reducible refine Below.trans ?_ (Below.mono (by assumption) (by first | (simp; done) | (simp; omega) | omega)))))).mono ?_
  rintro e w3 ⟨rfl, hB3⟩
  obtain ⟨hc3, hf3⟩ := bcell hB3
  have hz3 := hB3.size
  (try simp only [World.size_alloc, World.size_setCell, World.size_drew] at hz3)
  go_wp2_with fail
  go_ret
  exact ⟨rfl, (by repeat (first | (with_reducible exact Below.refl _ _) | (with_reducible assumption) | (with_reducible refine Below.drew ?_) | (with_reducible refine below_drewN' ?_ _) | (with_reducible refine Below.setCell ?_ (by first | (simp; done) | (simp; omega) | omega) _) | (with_reducible refine Below.alloc ?_ (by first | (simp; done) | (simp; omega) | omega) _) | (with_reducible refine Below.trans ?_ (Below.mono (by assumption) (by first | (simp; done) | (simp; omega) | omega)))))⟩
/-- What is left behind a part. -/
def leftP (l a b c : Int) : Int := if l < a then -1 else if l - a < b then -1 else if l - a - b < c then -1 else l - a - b - c
theorem szPart_c (v1 v2 v3 : Value) (A1 A2 A3 : Option Addr) (n1 n2 n3 c1 c2 c3 : Nat) (pc : Int) (fl : Bool) (l : Int) (w : World) (h0 : 0 ≤ l) (h1 : l ≤ 1048576) (m1 : n1 ≤ 9223372036854775807) (m2 : n2 ≤ 9223372036854775807) (m3 : n3 ≤ 9223372036854775807) : Calls Try.prog 21 #[.agg #[.slice A1 n1 c1, .slice A2 n2 c2, .int .i64 pc, .bool fl, .slice A3 n3 c3], .int .i64 l] w (Ret w (.int .i64 (leftP l n1 n2 n3))) := by
  have hp := Lib.hid (fun W => szOpS_c A1 n1 c1 l W h0 h1 m1)
  unfold leftP
  by_cases e1 : l < n1
  · rw [show leftOf l n1 = -1 from if_pos e1] at hp
    rw [if_pos e1]
    go_enter Try.func21, Try.ntmps21
    go_wp2_with fail
    refine (hp.out _).mono ?_
    rintro e w1 ⟨rfl, rfl⟩
    go_wp2_with fail
    go_ret
    exact ⟨rfl, (by repeat (first | (with_reducible exact Below.refl _ _) | (with_reducible assumption) | (with_reducible refine Below.drew ?_) | (with_reducible refine below_drewN' ?_ _) | (with_reducible refine Below.setCell ?_ (by first | (simp; done) | (simp; omega) | omega) _) | (with_reducible refine Below.alloc ?_ (by first | (simp; done) | (simp; omega) | omega) _) | (with_reducible refine Below.trans ?_ (Below.mono (by assumption) (by first | (simp; done) | (simp; omega) | omega)))))⟩
  rw [show leftOf l n1 = l - n1 from if_neg e1] at hp
  rw [if_neg e1]
  have s1 : ¬ l - (n1 : Int) < 0 := by omega
  have hc := Lib.hid (fun W => szIntS_c A2 n2 c2 (l - n1) W (by omega) (by omega) m2)
  by_cases e2 : l - n1 < n2
  · rw [show leftOf (l - n1) n2 = -1 from if_pos e2] at hc
    rw [if_pos e2]
    go_enter Try.func21, Try.ntmps21
    go_wp2_with fail
    refine (hp.out _).mono ?_
    rintro e w1 ⟨rfl, rfl⟩
    go_wp2_with fail
    refine (hc.out _).mono ?_
    rintro e w1 ⟨rfl, rfl⟩
    go_wp2_with fail
    go_ret
    exact ⟨rfl, (by repeat (first | (with_reducible exact Below.refl _ _) | (with_reducible assumption) | (with_reducible refine Below.drew ?_) | (with_reducible refine below_drewN' ?_ _) | (with_reducible refine Below.setCell ?_ (by first | (simp; done) | (simp; omega) | omega) _) | (with_reducible refine Below.alloc ?_ (by first | (simp; done) | (simp; omega) | omega) _) | (with_reducible refine Below.trans ?_ (Below.mono (by assumption) (by first | (simp; done) | (simp; omega) | omega)))))⟩
  rw [show leftOf (l - n1) n2 = l - n1 - n2 from if_neg e2] at hc
  rw [if_neg e2]
  have s2 : ¬ l - (n1 : Int) - n2 < 0 := by omega
  have hb := Lib.hid (fun W => szIntS_c A3 n3 c3 (l - n1 - n2) W (by omega) (by omega) m3)
  by_cases e3 : l - n1 - n2 < n3
  · rw [show leftOf (l - n1 - n2) n3 = -1 from if_pos e3] at hb
    rw [if_pos e3]
    go_enter Try.func21, Try.ntmps21
    go_wp2_with fail
    refine (hp.out _).mono ?_
    rintro e w1 ⟨rfl, rfl⟩
    go_wp2_with fail
    refine (hc.out _).mono ?_
    rintro e w1 ⟨rfl, rfl⟩
    go_wp2_with fail
    refine (hb.out _).mono ?_
    rintro e w1 ⟨rfl, rfl⟩
    go_wp2_with fail
    go_ret
    exact ⟨rfl, (by repeat (first | (with_reducible exact Below.refl _ _) | (with_reducible assumption) | (with_reducible refine Below.drew ?_) | (with_reducible refine below_drewN' ?_ _) | (with_reducible refine Below.setCell ?_ (by first | (simp; done) | (simp; omega) | omega) _) | (with_reducible refine Below.alloc ?_ (by first | (simp; done) | (simp; omega) | omega) _) | (with_reducible refine Below.trans ?_ (Below.mono (by assumption) (by first | (simp; done) | (simp; omega) | omega)))))⟩
  rw [show leftOf (l - n1 - n2) n3 = l - n1 - n2 - n3 from if_neg e3] at hb
  rw [if_neg e3]
  have s3 : ¬ l - (n1 : Int) - n2 - n3 < 0 := by omega
  go_enter Try.func21, Try.ntmps21
  go_wp2_with fail
  refine (hp.out _).mono ?_
  rintro e w1 ⟨rfl, rfl⟩
  go_wp2_with fail
  refine (hc.out _).mono ?_
  rintro e w1 ⟨rfl, rfl⟩
  go_wp2_with fail
  refine (hb.out _).mono ?_
  rintro e w1 ⟨rfl, rfl⟩
  go_wp2_with fail
  go_ret
  exact ⟨rfl, (by repeat (first | (with_reducible exact Below.refl _ _) | (with_reducible assumption) | (with_reducible refine Below.drew ?_) | (with_reducible refine below_drewN' ?_ _) | (with_reducible refine Below.setCell ?_ (by first | (simp; done) | (simp; omega) | omega) _) | (with_reducible refine Below.alloc ?_ (by first | (simp; done) | (simp; omega) | omega) _) | (with_reducible refine Below.trans ?_ (Below.mono (by assumption) (by first | (simp; done) | (simp; omega) | omega)))))⟩
end Go.Proofs.Ytkphkkfgphhjcaa
