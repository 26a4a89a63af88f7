/- FnExactFarmHear: for every farm, frame and flag the law returns true, and the arguments read behind the call as they read before. No condition. -/
import Derived.Test.YtcbbebhjddphfaaRows
import Derived.Test.YtcbbebhjddphfaaL7
import Derived.WalkKit
import Derived.ProofKit
import Derived.OpenShut
import Derived.ShutString
import Derived.ChangeOld
import Derived.Below
import Derived.SizedLaws
import Derived.ChangeArms
import Derived.Deep.Fields
namespace Go.Proofs.Ytcbbebhjddphfaa.fnExactFarmHear
open Go.ChangeShapes Go.WideShapes Go.ChangeAt Go.RowKit Go.Deep
set_option linter.unusedVariables false
set_option linter.unusedSimpArgs false
theorem own : ownKnob Try.prog.godebug = none := by kernel_rfl
theorem laidOut : laidOutB Try.prog = true := by kernel_rfl
theorem one4 : Try.prog.cellsOf 4 = 1 := by kernel_rfl
theorem one3 : Try.prog.cellsOf 3 = 1 := by kernel_rfl
theorem one9 : Try.prog.cellsOf 9 = 1 := by kernel_rfl
theorem five : Try.prog.cellsOf 38 = 5 := by kernel_rfl
theorem six : Try.prog.cellsOf 39 = 6 := by kernel_rfl
theorem arr_len6 : ∀ (cs : Array Value), cs.size = 6 → ∃ a b c d e f, cs = #[a, b, c, d, e, f]
  | ⟨[a, b, c, d, e, f]⟩, _ => ⟨a, b, c, d, e, f, rfl⟩
section
variable {H : Type} {enc : TypeId × Value → H} {W : World} {base b0 : Nat} {spare : Nat → Bool} {held : Bool}
set_option maxRecDepth 100000 in
theorem open_farm {v : Value} {d : DataW H} {p : List MemPlace} (hv : Value.okWide Try.prog W .any b0 38 v) (h : DataW.Trod enc Try.prog W base spare held 38 v d p) : ∃ (s wt ag : Bool) (ct nx : Int), v = .agg #[.bool s, .bool wt, .bool ag, .int .i64 ct, .int .i64 nx] := by
  obtain ⟨cs, rfl, hsz⟩ := okWide_struct Try.underlying38 hv
  obtain ⟨c0, c1, c2, c3, c4, rfl⟩ := arr_len5 cs (hsz.trans five)
  obtain ⟨fuel, hf⟩ := h
  obtain ⟨xs, n, _, _, _, hlen, hg⟩ := DataW.trod_struct Try.underlying38 hf
  replace hlen : xs.length = 5 := hlen
  obtain ⟨y0, hy0⟩ : ∃ y, xs[0]? = some y := ⟨_, List.getElem?_eq_getElem (by omega)⟩
  have t0 := (hg 0 _ rfl).trans hy0
  simp only [one4, Value.cells, List.drop_succ_cons, List.drop_zero, List.take_succ_cons, List.take_zero] at t0
  obtain ⟨z0, e0, _⟩ := DataW.trod_bool Try.underlying4 t0
  injection e0 with e0
  subst e0
  obtain ⟨y1, hy1⟩ : ∃ y, xs[1]? = some y := ⟨_, List.getElem?_eq_getElem (by omega)⟩
  have t1 := (hg 1 _ rfl).trans hy1
  simp only [one4, Value.cells, List.drop_succ_cons, List.drop_zero, List.take_succ_cons, List.take_zero] at t1
  obtain ⟨z1, e1, _⟩ := DataW.trod_bool Try.underlying4 t1
  injection e1 with e1
  subst e1
  obtain ⟨y2, hy2⟩ : ∃ y, xs[2]? = some y := ⟨_, List.getElem?_eq_getElem (by omega)⟩
  have t2 := (hg 2 _ rfl).trans hy2
  simp only [one4, Value.cells, List.drop_succ_cons, List.drop_zero, List.take_succ_cons, List.take_zero] at t2
  obtain ⟨z2, e2, _⟩ := DataW.trod_bool Try.underlying4 t2
  injection e2 with e2
  subst e2
  obtain ⟨y3, hy3⟩ : ∃ y, xs[3]? = some y := ⟨_, List.getElem?_eq_getElem (by omega)⟩
  have t3 := (hg 3 _ rfl).trans hy3
  simp only [one3, Value.cells, List.drop_succ_cons, List.drop_zero, List.take_succ_cons, List.take_zero] at t3
  obtain ⟨z3, e3, _⟩ := DataW.trod_int Try.underlying3 t3
  injection e3 with e3
  subst e3
  obtain ⟨y4, hy4⟩ : ∃ y, xs[4]? = some y := ⟨_, List.getElem?_eq_getElem (by omega)⟩
  have t4 := (hg 4 _ rfl).trans hy4
  simp only [one3, Value.cells, List.drop_succ_cons, List.drop_zero, List.take_succ_cons, List.take_zero] at t4
  obtain ⟨z4, e4, _⟩ := DataW.trod_int Try.underlying3 t4
  injection e4 with e4
  subst e4
  exact ⟨_, _, _, _, _, rfl⟩
set_option maxRecDepth 100000 in
theorem open_frame {v : Value} {d : DataW H} {p : List MemPlace} (hv : Value.okWide Try.prog W .any b0 39 v) (h : DataW.Trod enc Try.prog W base spare held 39 v d p) : ∃ (px gx : Bool) (cx vx sx : Int) (dx : ByteArray), v = .agg #[.bool px, .bool gx, .int .i64 cx, .int .i64 vx, .int .i64 sx, .string dx] ∧ dx.size ≤ 9223372036854775807 := by
  obtain ⟨cs, rfl, hsz⟩ := okWide_struct Try.underlying39 hv
  obtain ⟨c0, c1, c2, c3, c4, c5, rfl⟩ := arr_len6 cs (hsz.trans six)
  obtain ⟨fuel, hf⟩ := h
  obtain ⟨xs, n, _, _, _, hlen, hg⟩ := DataW.trod_struct Try.underlying39 hf
  replace hlen : xs.length = 6 := hlen
  obtain ⟨y0, hy0⟩ : ∃ y, xs[0]? = some y := ⟨_, List.getElem?_eq_getElem (by omega)⟩
  have t0 := (hg 0 _ rfl).trans hy0
  simp only [one4, Value.cells, List.drop_succ_cons, List.drop_zero, List.take_succ_cons, List.take_zero] at t0
  obtain ⟨z0, e0, _⟩ := DataW.trod_bool Try.underlying4 t0
  injection e0 with e0
  subst e0
  obtain ⟨y1, hy1⟩ : ∃ y, xs[1]? = some y := ⟨_, List.getElem?_eq_getElem (by omega)⟩
  have t1 := (hg 1 _ rfl).trans hy1
  simp only [one4, Value.cells, List.drop_succ_cons, List.drop_zero, List.take_succ_cons, List.take_zero] at t1
  obtain ⟨z1, e1, _⟩ := DataW.trod_bool Try.underlying4 t1
  injection e1 with e1
  subst e1
  obtain ⟨y2, hy2⟩ : ∃ y, xs[2]? = some y := ⟨_, List.getElem?_eq_getElem (by omega)⟩
  have t2 := (hg 2 _ rfl).trans hy2
  simp only [one3, Value.cells, List.drop_succ_cons, List.drop_zero, List.take_succ_cons, List.take_zero] at t2
  obtain ⟨z2, e2, _⟩ := DataW.trod_int Try.underlying3 t2
  injection e2 with e2
  subst e2
  obtain ⟨y3, hy3⟩ : ∃ y, xs[3]? = some y := ⟨_, List.getElem?_eq_getElem (by omega)⟩
  have t3 := (hg 3 _ rfl).trans hy3
  simp only [one3, Value.cells, List.drop_succ_cons, List.drop_zero, List.take_succ_cons, List.take_zero] at t3
  obtain ⟨z3, e3, _⟩ := DataW.trod_int Try.underlying3 t3
  injection e3 with e3
  subst e3
  obtain ⟨y4, hy4⟩ : ∃ y, xs[4]? = some y := ⟨_, List.getElem?_eq_getElem (by omega)⟩
  have t4 := (hg 4 _ rfl).trans hy4
  simp only [one3, Value.cells, List.drop_succ_cons, List.drop_zero, List.take_succ_cons, List.take_zero] at t4
  obtain ⟨z4, e4, _⟩ := DataW.trod_int Try.underlying3 t4
  injection e4 with e4
  subst e4
  obtain ⟨y5, hy5⟩ : ∃ y, xs[5]? = some y := ⟨_, List.getElem?_eq_getElem (by omega)⟩
  have t5 := (hg 5 _ rfl).trans hy5
  simp only [one9, Value.cells, List.drop_succ_cons, List.drop_zero, List.take_succ_cons, List.take_zero] at t5
  obtain ⟨z5, e5, _, hz5⟩ := DataW.trod_string Try.underlying9 t5
  injection e5 with e5
  subst e5
  exact ⟨_, _, _, _, _, _, rfl, by unfold maxLen at hz5; omega⟩
end
set_option maxRecDepth 100000 in
theorem lifted (os : Os) (started : os.Started) (H : Type) (enc : TypeId × Value → H) :
    ReturnsInHanded {} Try.checked os 5 .any (Rows.fnExactFarmHearSpec.pre6 enc Try.prog Try.f5 Rows.fnExactFarmHearRow.domain false) (Rows.fnExactFarmHearSpec.post enc Try.prog Try.f5 false true false false) := by
  refine returnsInHanded_of_change_sized (C := Try.checked) own started (by kernel_rfl) Try.func5
    (ChangeSpec.witness6 (enc := enc) (C := Try.checked) false ⟨#[], #[.agg #[.bool false, .bool false, .bool false, .int .i64 0, .int .i64 0], .agg #[.bool false, .bool false, .int .i64 0, .int .i64 0, .int .i64 0, .string ⟨#[]⟩], .bool false], []⟩ 8 (by kernel_rfl) (by kernel_rfl) (by kernel_rfl) (by kernel_rfl)) ?_
  intro W base args ds gs before hval0 hW hcnd hsz0 _
  have hval : ∀ (j : Nat) t v, Try.f5.params[j]? = some t → args[j]? = some v → Value.okWide Try.prog W .any base t v := hval0
  have hW' := hW
  obtain ⟨p, q, hA0, hV, rfl, hfz, hnd⟩ := hW
  have hA : DataW.TrodAll enc Try.prog W 0 (fun _ => true) true Try.f5.params.toList args.toList ds p := hA0
  rw [Try.params5] at hA hval
  obtain ⟨v0, vs0, d0, ds0, p0, q0, hargs, rfl, rfl, h0, r0⟩ := trodAll_cons hA
  obtain ⟨v1, vs1, d1, ds1, p1, q1, rfl, rfl, rfl, h1, r1⟩ := trodAll_cons r0
  obtain ⟨v2, vs2, d2, ds2, p2, q2, rfl, rfl, rfl, h2, r2⟩ := trodAll_cons r1
  obtain ⟨rfl, rfl, rfl⟩ := trodAll_nil r2
  obtain rfl : args = #[v0, v1, v2] := by cases args; simp_all
  obtain ⟨rfl, rfl⟩ := trodVars_none hV
  have k0 := h0
  have lt0 : ∀ x ∈ p0, x.block < W.heap.size := by obtain ⟨m, hm⟩ := k0; exact DataW.trod_lt m _ _ _ hm
  have k1 := h1
  have lt1 : ∀ x ∈ p1, x.block < W.heap.size := by obtain ⟨m, hm⟩ := k1; exact DataW.trod_lt m _ _ _ hm
  have k2 := h2
  have lt2 : ∀ x ∈ p2, x.block < W.heap.size := by obtain ⟨m, hm⟩ := k2; exact DataW.trod_lt m _ _ _ hm
  obtain ⟨s, wt, ag, ct, nx, rfl⟩ := open_farm (hval 0 38 v0 rfl rfl) h0
  obtain ⟨px, gx, cx, vx, sx, dx, rfl, hd⟩ := open_frame (hval 1 39 v1 rfl rfl) h1
  obtain ⟨b, rfl⟩ := okWide_bool Try.underlying4 (hval 2 4 v2 rfl rfl)
  clear hA0 hval0 hsz0
  refine (law_hear W s wt ag ct nx px gx cx vx sx dx b hd).mono fun e W' ⟨he, bel⟩ => ?_
  subst he
  exact ⟨_, rfl, _, _, _, [], _, [], hW', trodAll_mk1 (shut_bool Try.underlying4 _), (trodAll_cons_mk (Below.trod laidOut (by kernel_rfl) (of_decide_eq_true (by kernel_rfl)) k0 bel lt0) (trodAll_cons_mk (Below.trod laidOut (by kernel_rfl) (of_decide_eq_true (by kernel_rfl)) k1 bel lt1) (trodAll_cons_mk (Below.trod laidOut (by kernel_rfl) (of_decide_eq_true (by kernel_rfl)) k2 bel lt2) trodAll_mk0))), rfl, bel.frame _, fun h => by cases h⟩
theorem over : Rows.fnExactFarmHearRow.holds Try.pinned (OpenSpec.ofChange Rows.fnExactFarmHearSpec) :=
  OpenClaim.holds_of_wide 5 Try.f5 rfl rfl rfl rfl rfl rfl rfl ⟨rfl, rfl, rfl, rfl, rfl⟩ rfl rfl rfl rfl rfl (by kernel_rfl) Try.func5 (by kernel_rfl)
    (of_decide_eq_true (by kernel_rfl)) (by unfold Func.isWrapper; first | (rw [if_pos (by decide +kernel)]; kernel_rfl) | (rw [if_neg (by decide +kernel)]; exact ⟨rfl, rfl⟩))
    (fun os started H enc _ => lifted os started H enc)
theorem proved : Rows.FnExactFarmHearSaid := over
#print axioms proved
end Go.Proofs.Ytcbbebhjddphfaa.fnExactFarmHear
namespace Go.Proofs.Ytcbbebhjddphfaa
/-- The row, under a short name, for the claim. -/
theorem fnExactFarmHear_holds : Rows.FnExactFarmHearSaid := fnExactFarmHear.proved
end Go.Proofs.Ytcbbebhjddphfaa
