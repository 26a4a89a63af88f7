/- Arguments that are read: a part. -/
import Derived.Test.YtkphkkfgphhjcaaY0
import Derived.ProofKit
namespace Go.Proofs.Ytkphkkfgphhjcaa
open Go.RowKit Go.ChangeShapes Go.WideShapes Go.Deep
set_option linter.unusedSimpArgs false
set_option linter.unusedVariables false
theorem x_int : Try.prog.cellsOf 3 = 1 := by kernel_rfl
theorem x_bool : Try.prog.cellsOf 4 = 1 := by kernel_rfl
theorem x_ints : Try.prog.cellsOf 24 = 1 := by kernel_rfl
theorem x_ops : Try.prog.cellsOf 46 = 1 := by kernel_rfl
theorem x_op : Try.prog.cellsOf 95 = 3 := by kernel_rfl
theorem x_part : Try.prog.cellsOf 48 = 5 := by kernel_rfl
section
variable {H : Type} {enc : TypeId × Value → H} {W : World} {base b0 : Nat} {spare : Nat → Bool} {held : Bool}
set_option maxRecDepth 100000
theorem op_of_trod (n : Nat) (cs : List Value) (y : DataW H × List MemPlace) (h : DataW.trod enc Try.prog W base spare held n 95 cs = some y) : ∃ x fp, kO.K W x cs fp := by
  obtain ⟨xs, n, _, _, hl, hlen, hg⟩ := DataW.trod_struct Try.underlying95 h
  replace hlen : xs.length = 3 := hlen
  rw [x_op] at hl
  obtain ⟨c0, c1, c2, rfl⟩ : ∃ a b c, cs = [a, b, c] := by
    match cs, hl with
    | [a, b, c], _ => exact ⟨a, b, c, rfl⟩
  obtain ⟨y0, hy0⟩ : ∃ y, xs[0]? = some y := ⟨_, List.getElem?_eq_getElem (by omega)⟩
  have t0 : DataW.trod enc Try.prog W base spare held n 3 (List.take (Try.prog.cellsOf 3) [c0, c1, c2]) = some y0 := (hg 0 _ rfl).trans hy0
  rw [x_int] at t0
  obtain ⟨z0, e0, _⟩ := DataW.trod_int Try.underlying3 t0
  simp only [List.take_succ_cons, List.take_zero] at e0
  injection e0 with e0
  subst e0
  obtain ⟨y1, hy1⟩ : ∃ y, xs[1]? = some y := ⟨_, List.getElem?_eq_getElem (by omega)⟩
  have t1 : DataW.trod enc Try.prog W base spare held n 3 (List.take (Try.prog.cellsOf 3) [c1, c2]) = some y1 := (hg 1 _ rfl).trans hy1
  rw [x_int] at t1
  obtain ⟨z1, e1, _⟩ := DataW.trod_int Try.underlying3 t1
  simp only [List.take_succ_cons, List.take_zero] at e1
  injection e1 with e1
  subst e1
  obtain ⟨y2, hy2⟩ : ∃ y, xs[2]? = some y := ⟨_, List.getElem?_eq_getElem (by omega)⟩
  have t2 : DataW.trod enc Try.prog W base spare held n 3 (List.take (Try.prog.cellsOf 3) [c2]) = some y2 := (hg 2 _ rfl).trans hy2
  rw [x_int] at t2
  obtain ⟨z2, e2, _⟩ := DataW.trod_int Try.underlying3 t2
  simp only [List.take_succ_cons, List.take_zero] at e2
  injection e2 with e2
  subst e2
  exact ⟨(z0, z1, z2), [], rfl, rfl⟩
theorem open_part {v : Value} {d : DataW H} {p : List MemPlace} (hv : Value.okWide Try.prog W .any b0 48 v) (h : DataW.Trod enc Try.prog W base spare held 48 v d p) : ∃ (pt : Pt) (v1 v2 v3 : Value) (f1 f2 f3 : List Nat), v = .agg #[v1, v2, .int .i64 pt.pc, .bool pt.fails, v3] ∧ PtF W pt v1 v2 v3 f1 f2 f3 := by
  obtain ⟨cs, rfl, hsz⟩ := okWide_struct Try.underlying48 hv
  obtain ⟨c0, c1, c2, c3, c4, rfl⟩ := arr_len5 cs (hsz.trans x_part)
  obtain ⟨fuel, hf⟩ := h
  obtain ⟨xs, n, _, _, _, hlen, hg⟩ := DataW.trod_struct Try.underlying48 hf
  replace hlen : xs.length = 5 := hlen
  obtain ⟨y0, hy0⟩ : ∃ y, xs[0]? = some y := ⟨_, List.getElem?_eq_getElem (by omega)⟩
  have t0 := (hg 0 _ rfl).trans hy0
  simp only [x_ops, Value.cells, List.drop_succ_cons, List.drop_zero, List.take_succ_cons, List.take_zero] at t0
  obtain ⟨y1, hy1⟩ : ∃ y, xs[1]? = some y := ⟨_, List.getElem?_eq_getElem (by omega)⟩
  have t1 := (hg 1 _ rfl).trans hy1
  simp only [x_ints, Value.cells, List.drop_succ_cons, List.drop_zero, List.take_succ_cons, List.take_zero] at t1
  obtain ⟨y2, hy2⟩ : ∃ y, xs[2]? = some y := ⟨_, List.getElem?_eq_getElem (by omega)⟩
  have t2 := (hg 2 _ rfl).trans hy2
  simp only [x_int, Value.cells, List.drop_succ_cons, List.drop_zero, List.take_succ_cons, List.take_zero] at t2
  obtain ⟨z2, e2, _⟩ := DataW.trod_int Try.underlying3 t2
  injection e2 with e2
  subst e2
  obtain ⟨y3, hy3⟩ : ∃ y, xs[3]? = some y := ⟨_, List.getElem?_eq_getElem (by omega)⟩
  have t3 := (hg 3 _ rfl).trans hy3
  simp only [x_bool, Value.cells, List.drop_succ_cons, List.drop_zero, List.take_succ_cons, List.take_zero] at t3
  obtain ⟨z3, e3, _⟩ := DataW.trod_bool Try.underlying4 t3
  injection e3 with e3
  subst e3
  obtain ⟨y4, hy4⟩ : ∃ y, xs[4]? = some y := ⟨_, List.getElem?_eq_getElem (by omega)⟩
  have t4 := (hg 4 _ rfl).trans hy4
  simp only [x_ints, Value.cells, List.drop_succ_cons, List.drop_zero, List.take_succ_cons, List.take_zero] at t4
  obtain ⟨u0, ps, f1, e0, s0⟩ := sl_of_trod Try.underlying46 x_op (by decide) op_of_trod t0
  obtain ⟨u1, cl, f2, e1, s1⟩ := ints_of_trod Try.underlying24 t1
  obtain ⟨u4, bx, f3, e4, s4⟩ := ints_of_trod Try.underlying24 t4
  injection e0 with e0
  injection e1 with e1
  injection e4 with e4
  subst e0 e1 e4
  exact ⟨⟨ps, cl, z2, z3, bx⟩, _, _, _, f1, f2, f3, rfl, s0, s1, s4⟩
end
end Go.Proofs.Ytkphkkfgphhjcaa
