/- The reference's copy. -/
import Derived.Test.YtkphkkfgphhjcaaS6
namespace Go.Proofs.Ytkphkkfgphhjcaa
open Go.RowKit
set_option linter.unusedSimpArgs false
set_option linter.unusedVariables false
theorem list_len18_S7 : ∀ (l : List Value), l.length = 18 → ∃ x0 x1 x2 x3 x4 x5 x6 x7 x8 x9 x10 x11 x12 x13 x14 x15 x16 x17, l = x0 :: x1 :: x2 :: x3 :: x4 :: x5 :: x6 :: x7 :: x8 :: x9 :: x10 :: x11 :: x12 :: x13 :: x14 :: x15 :: x16 :: x17 :: []
  | x0 :: x1 :: x2 :: x3 :: x4 :: x5 :: x6 :: x7 :: x8 :: x9 :: x10 :: x11 :: x12 :: x13 :: x14 :: x15 :: x16 :: x17 :: [], _ => ⟨x0, x1, x2, x3, x4, x5, x6, x7, x8, x9, x10, x11, x12, x13, x14, x15, x16, x17, rfl⟩

set_option maxHeartbeats 4000000 in
set_option maxRecDepth 100000 in
theorem copyR_c (p : Pt) (v1 v2 v3 : Value) (f1 f2 f3 : List Nat) (w : World) (h : PtF w p v1 v2 v3 f1 f2 f3) (q1 : p.prog.length ≤ 10000000) (q2 : p.cells.length ≤ 10000000) (q3 : p.box.length ≤ 10000000) : Calls Try.prog 43 #[.agg #[v1, v2, .int .i64 p.pc, .bool p.fails, v3]] w (NewPt w p) := by
  obtain ⟨A1, c1, rfl, _, _⟩ := h.prog.form
  obtain ⟨A2, c2, rfl, _, _⟩ := h.cells.form
  obtain ⟨A3, c3, rfl, _, _⟩ := h.box.form
  have hl1 := h.prog.lt
  have hl2 := h.cells.lt
  have hl3 := h.box.lt
  have hS := Lib.hid h
  clear h
  go_enter Try.func43, Try.ntmps43
  go_wp2_with fail
  have hZ0 : Hid (CpI w p (.slice A1 p.prog.length c1) (.slice A2 p.cells.length c2) (.slice A3 p.box.length c3) f1 f2 f3 false ((w.alloc (.cells #[.slice A1 p.prog.length c1, .slice A2 p.cells.length c2, .int .i64 p.pc, .bool p.fails, .slice A3 p.box.length c3] 26)).alloc zPt)) := Lib.hid ⟨(by repeat (first | (with_reducible exact Below.refl _ _) | (with_reducible assumption) | (with_reducible refine Below.drew ?_) | (with_reducible refine below_drewN' ?_ _) | (with_reducible refine Below.setCell ?_ (by first | (simp; done) | (simp; omega) | omega) _) | (with_reducible refine Below.alloc ?_ (by first | (simp; done) | (simp; omega) | omega) _) | (with_reducible refine Below.trans ?_ (Below.mono (by assumption) (by first | (simp; done) | (simp; omega) | omega))))), by simp, (Below.heap_alloc _ _ _ (by simp)).trans (heap_top _ _ rfl), fun _ => heap_top _ _ (by simp)⟩
  apply region_inv4 (VV2 [fun _ => (CpE), fun _ => IsV _, fun _ => IsV _, fun _ => (fun v W => RowT kO 44 (w.heap.size + 2) v p.prog W), fun _ => (CpE), fun _ => IsV _, fun _ => IsV _, fun _ => (fun v W => RowT kI 3 (w.heap.size + 2) v p.cells W), fun _ => IsV _, fun _ => IsV _, fun _ => IsV _, fun _ => IsV _, fun _ => (CpE), fun _ => IsV _, fun _ => IsV _, (CpB w.heap.size p 10), fun _ => (CpA w.heap.size p), fun _ => (CpD w.heap.size p)]) (fun bs W => CpI w p (.slice A1 p.prog.length c1) (.slice A2 p.cells.length c2) (.slice A3 p.box.length c3) f1 f2 f3 (bs 17) W) (CpR w.heap.size) (by kernel_rfl) 20 rfl (by kernel_rfl)
  case h0 =>
    exact ⟨hZ0.out.below.drew, hZ0.out.size, hZ0.out.par, fun _ => hZ0.out.res rfl⟩
  case hsteps =>
    refine ⟨?_, ?_, ?_, ?_, ?_, ?_, ?_, ?_, ?_, ?_, ?_, ?_, ?_, ?_, ?_, ?_, ?_, ?_, trivial⟩
    · refine stepOK4_of _ [] rfl (by kernel_rfl) ?_ rfl
      intro bs ρ W hbj hbn hc hf hn ho hI
      clear hn
      clear ho
      have hI' := Lib.hid hI
      clear hI
      go_simp
      exact postL_mk (hI'.out.go ((Below.refl _ _).alloc (Nat.le_refl _) _)) (CpR.below ((Below.refl _ _).alloc (Nat.le_refl _) _) hI'.out.size) ⟨_, rfl⟩
    · refine stepOK4_of _ [1] rfl (by kernel_rfl) ?_ rfl
      intro bs ρ W hbj hbn hc hf hn ho hI
      clear hn
      have s1 := ho.1
      simp only [Array.getD_eq_getD_getElem?] at s1
      clear ho
      have hI' := Lib.hid hI
      clear hI
      go_simp
      exact postL_mk (hI'.out) (CpR.below (Below.refl _ _) hI'.out.size) rfl
    · refine stepOK4_of _ [] rfl (by kernel_rfl) ?_ rfl
      intro bs ρ W hbj hbn hc hf hn ho hI
      obtain ⟨u1, q1, s4⟩ := hn.1
      clear hn
      have q1 : u1 = _ := q1
      subst q1
      have s4 : ρ (.tmp 4) = _ := s4
      clear ho
      have hI' := Lib.hid hI
      have j0 := blk_cell hI.par 0
      have j1 := blk_cell hI.par 1
      have j2 := blk_cell hI.par 2
      have j3 := blk_cell hI.par 3
      have j4 := blk_cell hI.par 4
      clear hI
      go_simp
      exact postL_mk (hI'.out) (CpR.below (Below.refl _ _) hI'.out.size) rfl
    · refine stepOK4_of _ [] rfl (by kernel_rfl) ?_ rfl
      intro bs ρ W hbj hbn hc hf hn ho hI
      obtain ⟨u0, q0, s3⟩ := hn.1
      obtain ⟨u2, q2, s5⟩ := hn.2.1
      clear hn
      obtain ⟨B, rfl⟩ := q0
      have s3 : ρ (.tmp 3) = _ := s3
      have q2 : u2 = _ := q2
      subst q2
      have s5 : ρ (.tmp 5) = _ := s5
      clear ho
      have hI' := Lib.hid hI
      obtain ⟨v', w', fp', hr, hb, hT, _⟩ := app_ops W (w.heap.size + 2) hI.size B A1 p.prog.length c1 p.prog f1 (hS.out.prog.below hI.below) q1
      unfold execOp
      simp only [resolve, invoke, builtin, Sem.run_bind, Sem.run_pure, Result.andThen_ok, List.map_toArray, List.map_cons, List.map_nil, s3, s5, hr]
      rw [opOK_value]
      exact postL_mk (hI'.out.go hb) (CpR.below hb hI'.out.size) ⟨fp', hT⟩
    · refine stepOK4_of _ [] rfl (by kernel_rfl) ?_ rfl
      intro bs ρ W hbj hbn hc hf hn ho hI
      clear hn
      clear ho
      have hI' := Lib.hid hI
      clear hI
      go_simp
      exact postL_mk (hI'.out.go ((Below.refl _ _).alloc (Nat.le_refl _) _)) (CpR.below ((Below.refl _ _).alloc (Nat.le_refl _) _) hI'.out.size) ⟨_, rfl⟩
    · refine stepOK4_of _ [1] rfl (by kernel_rfl) ?_ rfl
      intro bs ρ W hbj hbn hc hf hn ho hI
      clear hn
      have s1 := ho.1
      simp only [Array.getD_eq_getD_getElem?] at s1
      clear ho
      have hI' := Lib.hid hI
      clear hI
      go_simp
      exact postL_mk (hI'.out) (CpR.below (Below.refl _ _) hI'.out.size) rfl
    · refine stepOK4_of _ [] rfl (by kernel_rfl) ?_ rfl
      intro bs ρ W hbj hbn hc hf hn ho hI
      obtain ⟨u5, q5, s8⟩ := hn.1
      clear hn
      have q5 : u5 = _ := q5
      subst q5
      have s8 : ρ (.tmp 8) = _ := s8
      clear ho
      have hI' := Lib.hid hI
      have j0 := blk_cell hI.par 0
      have j1 := blk_cell hI.par 1
      have j2 := blk_cell hI.par 2
      have j3 := blk_cell hI.par 3
      have j4 := blk_cell hI.par 4
      clear hI
      go_simp
      exact postL_mk (hI'.out) (CpR.below (Below.refl _ _) hI'.out.size) rfl
    · refine stepOK4_of _ [] rfl (by kernel_rfl) ?_ rfl
      intro bs ρ W hbj hbn hc hf hn ho hI
      obtain ⟨u4, q4, s7⟩ := hn.1
      obtain ⟨u6, q6, s9⟩ := hn.2.1
      obtain ⟨u3, q3, s6⟩ := hn.2.2.1
      clear hn
      obtain ⟨B, rfl⟩ := q4
      have s7 : ρ (.tmp 7) = _ := s7
      have q6 : u6 = _ := q6
      subst q6
      have s9 : ρ (.tmp 9) = _ := s9
      obtain ⟨g1, hg1⟩ := q3
      have s6 : ρ (.tmp 6) = _ := s6
      clear ho
      have hI' := Lib.hid hI
      obtain ⟨v', w', fp', hr, hb, hT, _⟩ := app_ints W (w.heap.size + 2) hI.size B A2 p.cells.length c2 p.cells f2 (hS.out.cells.below hI.below) q2
      unfold execOp
      simp only [resolve, invoke, builtin, Sem.run_bind, Sem.run_pure, Result.andThen_ok, List.map_toArray, List.map_cons, List.map_nil, s7, s9, hr]
      rw [opOK_value]
      exact postL_mk (hI'.out.go hb) (CpR.below hb hI'.out.size) ⟨fp', hT⟩
    · refine stepOK4_of _ [1] rfl (by kernel_rfl) ?_ rfl
      intro bs ρ W hbj hbn hc hf hn ho hI
      clear hn
      have s1 := ho.1
      simp only [Array.getD_eq_getD_getElem?] at s1
      clear ho
      have hI' := Lib.hid hI
      clear hI
      go_simp
      exact postL_mk (hI'.out) (CpR.below (Below.refl _ _) hI'.out.size) rfl
    · refine stepOK4_of _ [] rfl (by kernel_rfl) ?_ rfl
      intro bs ρ W hbj hbn hc hf hn ho hI
      obtain ⟨u8, q8, s11⟩ := hn.1
      clear hn
      have q8 : u8 = _ := q8
      subst q8
      have s11 : ρ (.tmp 11) = _ := s11
      clear ho
      have hI' := Lib.hid hI
      have j0 := blk_cell hI.par 0
      have j1 := blk_cell hI.par 1
      have j2 := blk_cell hI.par 2
      have j3 := blk_cell hI.par 3
      have j4 := blk_cell hI.par 4
      clear hI
      go_simp
      exact postL_mk (hI'.out) (CpR.below (Below.refl _ _) hI'.out.size) rfl
    · refine stepOK4_of _ [1] rfl (by kernel_rfl) ?_ rfl
      intro bs ρ W hbj hbn hc hf hn ho hI
      clear hn
      have s1 := ho.1
      simp only [Array.getD_eq_getD_getElem?] at s1
      clear ho
      have hI' := Lib.hid hI
      clear hI
      go_simp
      exact postL_mk (hI'.out) (CpR.below (Below.refl _ _) hI'.out.size) rfl
    · refine stepOK4_of _ [] rfl (by kernel_rfl) ?_ rfl
      intro bs ρ W hbj hbn hc hf hn ho hI
      obtain ⟨u10, q10, s13⟩ := hn.1
      clear hn
      have q10 : u10 = _ := q10
      subst q10
      have s13 : ρ (.tmp 13) = _ := s13
      clear ho
      have hI' := Lib.hid hI
      have j0 := blk_cell hI.par 0
      have j1 := blk_cell hI.par 1
      have j2 := blk_cell hI.par 2
      have j3 := blk_cell hI.par 3
      have j4 := blk_cell hI.par 4
      clear hI
      go_simp
      exact postL_mk (hI'.out) (CpR.below (Below.refl _ _) hI'.out.size) rfl
    · refine stepOK4_of _ [] rfl (by kernel_rfl) ?_ rfl
      intro bs ρ W hbj hbn hc hf hn ho hI
      clear hn
      clear ho
      have hI' := Lib.hid hI
      clear hI
      go_simp
      exact postL_mk (hI'.out.go ((Below.refl _ _).alloc (Nat.le_refl _) _)) (CpR.below ((Below.refl _ _).alloc (Nat.le_refl _) _) hI'.out.size) ⟨_, rfl⟩
    · refine stepOK4_of _ [1] rfl (by kernel_rfl) ?_ rfl
      intro bs ρ W hbj hbn hc hf hn ho hI
      clear hn
      have s1 := ho.1
      simp only [Array.getD_eq_getD_getElem?] at s1
      clear ho
      have hI' := Lib.hid hI
      clear hI
      go_simp
      exact postL_mk (hI'.out) (CpR.below (Below.refl _ _) hI'.out.size) rfl
    · refine stepOK4_of _ [] rfl (by kernel_rfl) ?_ rfl
      intro bs ρ W hbj hbn hc hf hn ho hI
      obtain ⟨u13, q13, s16⟩ := hn.1
      clear hn
      have q13 : u13 = _ := q13
      subst q13
      have s16 : ρ (.tmp 16) = _ := s16
      clear ho
      have hI' := Lib.hid hI
      have j0 := blk_cell hI.par 0
      have j1 := blk_cell hI.par 1
      have j2 := blk_cell hI.par 2
      have j3 := blk_cell hI.par 3
      have j4 := blk_cell hI.par 4
      clear hI
      go_simp
      exact postL_mk (hI'.out) (CpR.below (Below.refl _ _) hI'.out.size) rfl
    · refine stepOK4_of _ [] rfl (by kernel_rfl) ?_ rfl
      intro bs ρ W hbj hbn hc hf hn ho hI
      obtain ⟨u12, q12, s15⟩ := hn.1
      obtain ⟨u14, q14, s17⟩ := hn.2.1
      obtain ⟨u7, q7, s10⟩ := hn.2.2.1
      clear hn
      obtain ⟨B, rfl⟩ := q12
      have s15 : ρ (.tmp 15) = _ := s15
      have q14 : u14 = _ := q14
      subst q14
      have s17 : ρ (.tmp 17) = _ := s17
      obtain ⟨g2, hg2⟩ := q7
      have s10 : ρ (.tmp 10) = _ := s10
      clear ho
      have hI' := Lib.hid hI
      obtain ⟨v', w', fp', hr, hb, hT, hlo⟩ := app_ints W (w.heap.size + 2) hI.size B A3 p.box.length c3 p.box f3 (hS.out.box.below hI.below) q3
      unfold execOp
      simp only [resolve, invoke, builtin, Sem.run_bind, Sem.run_pure, Result.andThen_ok, List.map_toArray, List.map_cons, List.map_nil, s15, s17, hr]
      rw [opOK_value]
      exact postL_mk (hI'.out.go hb) (CpR.below hb hI'.out.size) ⟨g2, fp', (hg2.st (CpR.below hb hI'.out.size)).of s10.symm, hT, List.nodup_append.2 ⟨hg2.2.1.1, hT.2.1.1, fun x hx y hy e => by subst e; have := hlo _ hy; have := (hg2.2.1.2 _ hx).1.2; omega⟩⟩
    · refine stepOK4_of _ [] rfl (by kernel_rfl) ?_ rfl
      intro bs ρ W hbj hbn hc hf hn ho hI
      obtain ⟨u3, q3, s6⟩ := hn.1
      obtain ⟨u7, q7, s10⟩ := hn.2.1
      obtain ⟨u9, q9, s12⟩ := hn.2.2.1
      obtain ⟨u11, q11, s14⟩ := hn.2.2.2.1
      obtain ⟨u15, q15, s18⟩ := hn.2.2.2.2.1
      clear hn
      obtain ⟨g1, hg1⟩ := q3
      have s6 : ρ (.tmp 6) = _ := s6
      obtain ⟨g2, hg2⟩ := q7
      have s10 : ρ (.tmp 10) = _ := s10
      have q9 : u9 = _ := q9
      subst q9
      have s12 : ρ (.tmp 12) = _ := s12
      have q11 : u11 = _ := q11
      subst q11
      have s14 : ρ (.tmp 14) = _ := s14
      obtain ⟨g2', g3, hg2', hg3, hnd⟩ := q15
      have s18 : ρ (.tmp 18) = _ := s18
      clear ho
      have hI' := Lib.hid hI
      clear hI
      obtain ⟨a1, d1, rfl⟩ := hg1.2.2.2
      obtain ⟨a2, d2, rfl⟩ := hg2.2.2.2
      obtain ⟨a3, d3, rfl⟩ := hg3.2.2.2
      go_simp
      refine postL_mk hI'.out (CpR.below (Below.refl _ _) hI'.out.size) ⟨a1, d1, a2, d2, a3, d3, g1, g2', g3, rfl, ?_⟩
      replace hg2' := hg2'.of s10
      exact CpP.of hg1 hg2' hg3 hnd
    · refine stepOK4_of _ [2] rfl (by kernel_rfl) ?_ rfl
      intro bs ρ W hbj hbn hc hf hn ho hI
      obtain ⟨u16, q16, s19⟩ := hn.1
      obtain ⟨u3, q3, s6⟩ := hn.2.2.2.2.2.1
      obtain ⟨u7, q7, s10⟩ := hn.2.2.2.2.2.2.2.2.2.1
      clear hn
      obtain ⟨a1, d1, a2, d2, a3, d3, e1, e2, e3, rfl, hY⟩ := q16
      have s19 : ρ (.tmp 19) = _ := s19
      obtain ⟨g1, hg1⟩ := q3
      have s6 : ρ (.tmp 6) = _ := s6
      obtain ⟨g2, hg2⟩ := q7
      have s10 : ρ (.tmp 10) = _ := s10
      have s2 := ho.1
      simp only [Array.getD_eq_getD_getElem?] at s2
      clear ho
      have hI' := Lib.hid hI
      have hZ := hI.res (by cases h : bs 17 with | false => rfl | true => rw [h] at hbj; cases hbj)
      have j0 := blk_cell hZ
      have j1 := blk_frozen hZ
      clear hI
      go_simp
      have hb9 := blk_put (blk_put (blk_put (blk_put (blk_put hZ 0 (.slice (some a1) p.prog.length d1)) 1 (.slice (some a2) p.cells.length d2)) 2 (.int .i64 p.pc)) 3 (.bool p.fails)) 4 (.slice (some a3) p.box.length d3)
      have hsz := hI'.out.size
      have hne : ∀ A : Nat, A ≠ w.heap.size + 1 → (((((W.setCell ⟨w.heap.size + 1, 0, none⟩ (.slice (some a1) p.prog.length d1)).setCell ⟨w.heap.size + 1, 1, none⟩ (.slice (some a2) p.cells.length d2)).setCell ⟨w.heap.size + 1, 2, none⟩ (.int .i64 p.pc)).setCell ⟨w.heap.size + 1, 3, none⟩ (.bool p.fails)).setCell ⟨w.heap.size + 1, 4, none⟩ (.slice (some a3) p.box.length d3)).heap[A]? = W.heap[A]? := fun A hA => by
        rw [Below.heap_setCell _ _ _ _ hA, Below.heap_setCell _ _ _ _ hA, Below.heap_setCell _ _ _ _ hA, Below.heap_setCell _ _ _ _ hA, Below.heap_setCell _ _ _ _ hA]
      have hKp : Kept [w.heap.size + 1] W (((((W.setCell ⟨w.heap.size + 1, 0, none⟩ (.slice (some a1) p.prog.length d1)).setCell ⟨w.heap.size + 1, 1, none⟩ (.slice (some a2) p.cells.length d2)).setCell ⟨w.heap.size + 1, 2, none⟩ (.int .i64 p.pc)).setCell ⟨w.heap.size + 1, 3, none⟩ (.bool p.fails)).setCell ⟨w.heap.size + 1, 4, none⟩ (.slice (some a3) p.box.length d3)) := ⟨rfl, rfl, rfl, by simp, fun b hb hn => hne b (by simpa using hn)⟩
      have hR : CpR w.heap.size W (((((W.setCell ⟨w.heap.size + 1, 0, none⟩ (.slice (some a1) p.prog.length d1)).setCell ⟨w.heap.size + 1, 1, none⟩ (.slice (some a2) p.cells.length d2)).setCell ⟨w.heap.size + 1, 2, none⟩ (.int .i64 p.pc)).setCell ⟨w.heap.size + 1, 3, none⟩ (.bool p.fails)).setCell ⟨w.heap.size + 1, 4, none⟩ (.slice (some a3) p.box.length d3)) := ⟨hKp, fun h => absurd hZ h⟩
      exact postL_mk ⟨hI'.out.below.trans (hKp.below (fun b hb => by simp at hb; omega) (by omega)), by simp; omega, (hne _ (by omega)).trans hI'.out.par, fun h => by simp [upB] at h⟩ hR ⟨a1, d1, a2, d2, a3, d3, e1, e2, e3, hb9, hY.st hR⟩
  case hst => exact vv_stable2 ⟨fun _ => fun _ _ _ _ h => h, fun _ => isV_st, fun _ => isV_st, fun _ => rowT_st, fun _ => fun _ _ _ _ h => h, fun _ => isV_st, fun _ => isV_st, fun _ => rowT_st, fun _ => isV_st, fun _ => isV_st, fun _ => isV_st, fun _ => isV_st, fun _ => fun _ _ _ _ h => h, fun _ => isV_st, fun _ => isV_st, cpB_st, fun _ => cpA_st, fun _ => cpD_st, trivial⟩
  case hloc => exact locAll_of ⟨locE_c, locE_c, locE_c, locE_c, locE_c, locE_c, locE_c, locE_c, locE_c, locE_c, locE_c, locE_c, locE_c, locE_c, locE_c, cpB_loc 7 (by kernel_rfl) (by kernel_rfl), locE_c, locE_c, trivial⟩
  intro vs bs W hlen hall hI hV
  obtain ⟨x0, x1, x2, x3, x4, x5, x6, x7, x8, x9, x10, x11, x12, x13, x14, x15, x16, x17, rfl⟩ := list_len18_S7 vs hlen
  have y0 := hV 0 _ rfl
  obtain ⟨B, rfl⟩ := y0
  have y1 : x1 = _ := hV 1 _ rfl
  subst y1
  have y2 : x2 = _ := hV 2 _ rfl
  subst y2
  have y3 := hV 3 _ rfl
  obtain ⟨g1, hg1⟩ := y3
  have y4 := hV 4 _ rfl
  obtain ⟨B, rfl⟩ := y4
  have y5 : x5 = _ := hV 5 _ rfl
  subst y5
  have y6 : x6 = _ := hV 6 _ rfl
  subst y6
  have y7 := hV 7 _ rfl
  obtain ⟨g2, hg2⟩ := y7
  have y8 : x8 = _ := hV 8 _ rfl
  subst y8
  have y9 : x9 = _ := hV 9 _ rfl
  subst y9
  have y10 : x10 = _ := hV 10 _ rfl
  subst y10
  have y11 : x11 = _ := hV 11 _ rfl
  subst y11
  have y12 := hV 12 _ rfl
  obtain ⟨B, rfl⟩ := y12
  have y13 : x13 = _ := hV 13 _ rfl
  subst y13
  have y14 : x14 = _ := hV 14 _ rfl
  subst y14
  have y15 := hV 15 _ rfl
  obtain ⟨g2', g3, hg2', hg3, hnd⟩ := y15
  have y16 := hV 16 _ rfl
  obtain ⟨a1, d1, a2, d2, a3, d3, e1, e2, e3, rfl, hY⟩ := y16
  have y17 := hV 17 _ rfl
  obtain ⟨b1, d1, b2, d2, b3, d3, e1, e2, e3, hYb, hY⟩ := y17
  clear hV hlen
  simp only [Exit.then, putAll, Act.put, List.setIfInBounds_toArray, List.set_cons_zero, List.set_cons_succ]
  have j := blk_cell hYb
  have j0 : W.cell? ⟨w.heap.size + 1, 0, none⟩ = some (.slice (some b1) p.prog.length d1) := j 0
  have j1 : W.cell? ⟨w.heap.size + 1, 1, none⟩ = some (.slice (some b2) p.cells.length d2) := j 1
  have j2 : W.cell? ⟨w.heap.size + 1, 2, none⟩ = some (.int .i64 p.pc) := j 2
  have j3 : W.cell? ⟨w.heap.size + 1, 3, none⟩ = some (.bool p.fails) := j 3
  have j4 : W.cell? ⟨w.heap.size + 1, 4, none⟩ = some (.slice (some b3) p.box.length d3) := j 4
  clear j
  go_wp2_with fail
  refine bodyPost_ret (v := .agg #[.slice (some b1) p.prog.length d1, .slice (some b2) p.cells.length d2, .int .i64 p.pc, .bool p.fails, .slice (some b3) p.box.length d3]) (by simp [results, Try.results43, go_sem, j0, j1, j2, j3, j4]) rfl ?_
  exact ⟨_, _, _, e1, e2, e3, rfl, PtN.has ⟨hY.1, hY.2.mono (by omega) (Nat.le_refl _)⟩, hI.below⟩
end Go.Proofs.Ytkphkkfgphhjcaa
