/- The law FnPartAlone, walked. -/
import Derived.Test.YtkphkkfgphhjcaaU2
namespace Go.Proofs.Ytkphkkfgphhjcaa
open Go.RowKit
set_option linter.unusedSimpArgs false
set_option linter.unusedVariables false

theorem Code_.below {w W : World} {A : Option Addr} {n c : Nat} (h : Code_ w A n c) (hb : Below w.heap.size w W) : Code_ W A n c :=
  ⟨h.1, h.2.1, fun j hj => by
    obtain ⟨ad, x, h1, h2, h3⟩ := h.2.2 j hj
    exact ⟨ad, x, h1, (hb.cell (World.block_lt_of_cell? w _ h2)).trans h2, h3⟩⟩
/-- What the law of being alone wants. -/
theorem alone_pure {pt : Pt} {now most : Int} {xs ys : List Int} {r : Pt × List Int × List Sd} (hr : r = PRun pt now xs most) (hz : r.1.prog.length ≠ 0) (h4 : ys.length = 4) (hv : ∀ x ∈ ys, 0 ≤ x ∧ x ≤ 9999) (hn : ∀ o ∈ pt.prog, o.1 ≠ 9 ∧ o.1 ≠ 10) : r.1 = (PRun pt now ys most).1 ∧ r.2.2 = (PRun pt now ys most).2.2 ∧ (PRun pt now ys most).2.1 = ys := by
  subst hr
  obtain ⟨h1, h2, h3⟩ := prun_is hz
  have hy : portsOK ys = true := by
    simp only [portsOK, valsOk, valOk, Bool.and_eq_true, beq_iff_eq, List.all_eq_true, inR_iff]
    exact ⟨h4, hv⟩
  have h5 : runOk pt now ys = true := by
    simp only [runOk, Bool.and_eq_true] at h1 ⊢
    exact ⟨h1.1, h1.2.1, hy⟩
  rw [h3, prun_run h5 h2]
  obtain ⟨e1, e2, e3⟩ := runF_alone hy most.toNat (sd := []) h1 hn
  exact ⟨e1.symm, e2.symm, e3⟩
set_option maxHeartbeats 1000000
set_option maxRecDepth 100000
theorem law_partAlone (w : World) (A : Option Addr) (n c : Nat) (A' : Option Addr) (n' c' : Nat) (h : Code_ w A n c) (h' : Code_ w A' n' c') : Calls Try.prog 5 #[.slice A n c, .slice A' n' c'] w (Ret w (.bool true)) := by
  have hC := Lib.hid h
  have hC' := Lib.hid h'
  have hn9 := h.2.1.2
  have hn9' := h'.2.1.2
  clear h h'
  by_cases hlong : n > 1048576
  · have hl : (1048576 : Int) < n := by omega
    go_enter Try.func5, Try.ntmps5
    go_wp2_with fail
    go_ret
    exact ⟨rfl, (by repeat (first | (with_reducible exact Below.refl _ _) | (with_reducible assumption) | (with_reducible refine Below.drew ?_) | (with_reducible refine below_drewN' ?_ _) | (with_reducible refine Below.setCell ?_ (by first | (simp; done) | (simp; omega) | omega) _) | (with_reducible refine Below.alloc ?_ (by first | (simp; done) | (simp; omega) | omega) _) | (with_reducible refine Below.trans ?_ (Below.mono (by assumption) (by first | (simp; done) | (simp; omega) | omega)))))⟩
  by_cases hlong' : n' > 1048576
  · have hl : ¬ (1048576 : Int) < n := by omega
    have hl' : (1048576 : Int) < n' := by omega
    go_enter Try.func5, Try.ntmps5
    go_wp2_with fail
    go_ret
    exact ⟨rfl, (by repeat (first | (with_reducible exact Below.refl _ _) | (with_reducible assumption) | (with_reducible refine Below.drew ?_) | (with_reducible refine below_drewN' ?_ _) | (with_reducible refine Below.setCell ?_ (by first | (simp; done) | (simp; omega) | omega) _) | (with_reducible refine Below.alloc ?_ (by first | (simp; done) | (simp; omega) | omega) _) | (with_reducible refine Below.trans ?_ (Below.mono (by assumption) (by first | (simp; done) | (simp; omega) | omega)))))⟩
  · have hl : ¬ (1048576 : Int) < n := by omega
    have hl' : ¬ (1048576 : Int) < n' := by omega
    go_enter Try.func5, Try.ntmps5
    go_wp2_with fail
    refine (drawRun_d w A n c hC.out).mono ?_
    rintro e w1 ⟨v1, v2, v3, v4, pt, now, xs, most, rfl, f1, f2, f3, f4, hP, hX, hpl, hxl, hxv, hB1⟩
    obtain ⟨A1, c1, rfl, _⟩ := hP.prog.form
    obtain ⟨A2, c2, rfl, _⟩ := hP.cells.form
    obtain ⟨A3, c3, rfl, _⟩ := hP.box.form
    obtain ⟨A4, c4, rfl, _⟩ := hX.form
    have hO := Lib.hid ((OwnL.nil w1).put (.cells #[.slice A1 pt.prog.length c1, .slice A2 pt.cells.length c2, .int .i64 pt.pc, .bool pt.fails, .slice A3 pt.box.length c3] 26))
    replace hP := Lib.hid hP
    replace hX := Lib.hid hX
    replace hB1 := Lib.hid hB1
    clear hC hl hlong hl' hlong' hxv
    have k0 := fun o => blk_cell hO.g0 o
    have hl0 := (Array.getElem?_eq_some_iff.1 hO.g0).1
    go_wp2_with fail
    refine (drawStep_d _ A' n' c' (hC'.out.below (hB1.out.trans (hO.out.1.mono hB1.out.size)))).mono ?_
    rintro e wy ⟨z1, z2, z3, z4, pty, nowy, ys, rfl, k1, k2, k3, k4, hPy, hY, hyl, hyl4, hyv, hBy⟩
    obtain ⟨Z1, a1, rfl, _⟩ := hPy.prog.form
    obtain ⟨Z2, a2, rfl, _⟩ := hPy.cells.form
    obtain ⟨Z3, a3, rfl, _⟩ := hPy.box.form
    obtain ⟨Z4, a4, rfl, _⟩ := hY.form
    have hOn := (hO.out.below hBy).alloc (.cells #[.slice Z1 pty.prog.length a1, .slice Z2 pty.cells.length a2, .int .i64 pty.pc, .bool pty.fails, .slice Z3 pty.box.length a3] 26)
    clear k0 hl0 hC'
    by_cases hy4 : ys.length = 4
    · obtain ⟨gy, oy, cy, ey, rfl⟩ := hY.one (by intro e; rw [e] at hy4; cases hy4)
      injection ey with ey1 ey2 ey3
      subst ey1 ey3
      obtain ⟨oby, hgy⟩ : ∃ o, wy.heap[gy]? = some o := ⟨_, Array.getElem?_eq_getElem (hY.lt gy (by simp))⟩
      have hO : OwnL w1 [(w1.heap.size, .cells #[.slice A1 pt.prog.length c1, .slice A2 pt.cells.length c2, .int .i64 pt.pc, .bool pt.fails, .slice A3 pt.box.length c3] 26), (gy, oby)] (wy.alloc (.cells #[.slice Z1 pty.prog.length a1, .slice Z2 pty.cells.length a2, .int .i64 pty.pc, .bool pty.fails, .slice Z3 pty.box.length a3] 26)) := ⟨hOn.1, fun p hp => by
        simp only [List.mem_cons, List.not_mem_nil, or_false] at hp
        rcases hp with rfl | rfl
        · exact hOn.g0
        · exact heap_up hgy _⟩
      have hY2 := Lib.hid (fun (W : World) (hW : W.heap[gy]? = some oby) => hY.keep (W' := W) (fun b hb => by simp only [List.mem_singleton] at hb; subst hb; exact hW.trans hgy.symm))
      have hwz := hOn.1.size
      replace hO := Lib.hid hO
      have hyn := hy4
      replace hy4 := Lib.hid hy4
      replace hyv := Lib.hid hyv
      have h4' : ((ys.length : Int) != 4) = false := by rw [hyn]; rfl
      clear hPy hBy hY hOn hgy hyn
      have hxv := Lib.hid trivial
      have k0 := fun o => blk_cell hO.g0 o
      have hl0 := (Array.getElem?_eq_some_iff.1 hO.g0).1
      go_wp2_with fail
      refine (partRun_c pt now xs most _ _ _ _ f1 f2 f3 f4 _ (hP.out.below hO.out.1) (hX.out.below hO.out.1) (by omega)).mono ?_
      intro e w2 hq
      have hst := lpartRun_c pt now xs most (.slice A1 pt.prog.length c1) (.slice A2 pt.cells.length c2) (.slice A3 pt.box.length c3) (.slice A4 xs.length c4) f1 f2 f3 f4
      obtain ⟨r, hr⟩ : ∃ r, r = PRun pt now xs most := ⟨_, rfl⟩
      rw [← hr] at hst hq
      replace hr := Lib.hid hr
      replace hst := Lib.hid hst
      obtain ⟨B1, b1, B2, b2, B3, b3, B4, b4, B5, b5, g1, g2, g3, g4, g5, rfl, hP2, hX2, hS2, hB2⟩ := hq.get
      clear hq
      have hO := Lib.hid (hO.out.below hB2)
      clear k0 hl0
      have k0 := fun o => blk_cell hO.g0 o
      have hl0 := (Array.getElem?_eq_some_iff.1 hO.g0).1
      have hO := Lib.hid (hO.out.put (.cells #[.slice B1 r.1.prog.length b1, .slice B2 r.1.cells.length b2, .int .i64 r.1.pc, .bool r.1.fails, .slice B3 r.1.box.length b3] 26))
      clear k0 hl0
      have k0 := fun o => blk_cell hO.g0 o
      have hl0 := (Array.getElem?_eq_some_iff.1 hO.g0).1
      have k1 := fun o => blk_cell hO.g1 o
      have hl1 := (Array.getElem?_eq_some_iff.1 hO.g1).1
      have hW2 := Lib.hid (Below.refl w2.heap.size w2)
      replace hP2 := Lib.hid hP2
      replace hX2 := Lib.hid hX2
      replace hS2 := Lib.hid hS2
      clear hB2
      go_wp2_with fail
      refine (hst.out _ (hP.out.below hO.out.1) (hX.out.below hO.out.1) (by omega)).mono ?_
      intro e w3 hq
      obtain ⟨D1, d1, D2, d2, D3, d3, D4, d4, D5, d5, h1, h2, h3, h4, h5, rfl, hP3, hX3, hS3, hB3⟩ := hq.get
      clear hq hst
      have hO := Lib.hid (hO.out.below hB3)
      clear k0 k1 hl0 hl1
      have k0 := fun o => blk_cell hO.g0 o
      have hl0 := (Array.getElem?_eq_some_iff.1 hO.g0).1
      have k1 := fun o => blk_cell hO.g1 o
      have hl1 := (Array.getElem?_eq_some_iff.1 hO.g1).1
      have hO := Lib.hid (hO.out.put (.cells #[.slice D1 r.1.prog.length d1, .slice D2 r.1.cells.length d2, .int .i64 r.1.pc, .bool r.1.fails, .slice D3 r.1.box.length d3] 26))
      clear k0 k1 hl0 hl1
      have k0 := fun o => blk_cell hO.g0 o
      have hl0 := (Array.getElem?_eq_some_iff.1 hO.g0).1
      have k1 := fun o => blk_cell hO.g1 o
      have hl1 := (Array.getElem?_eq_some_iff.1 hO.g1).1
      have k2 := fun o => blk_cell hO.g2 o
      have hl2 := (Array.getElem?_eq_some_iff.1 hO.g2).1
      have hW2 := Lib.hid (((hW2.out.alloc (Nat.le_refl _) _).trans (hB3.mono (by simp))).alloc (by have := hB3.size; simp at this; omega) (.cells #[.slice D1 r.1.prog.length d1, .slice D2 r.1.cells.length d2, .int .i64 r.1.pc, .bool r.1.fails, .slice D3 r.1.box.length d3] 26))
      have hW3 := Lib.hid ((Below.refl w3.heap.size w3).alloc (Nat.le_refl _) (.cells #[.slice D1 r.1.prog.length d1, .slice D2 r.1.cells.length d2, .int .i64 r.1.pc, .bool r.1.fails, .slice D3 r.1.box.length d3] 26))
      replace hP3 := Lib.hid hP3
      replace hX3 := Lib.hid hX3
      replace hS3 := Lib.hid hS3
      clear hB3
      go_wp2_with fail
      refine (skPart_c r.1 _ _ _ _ _ _ g1 g2 g3 h1 h2 h3 _ (hP2.out.below hW2.out) (hP3.out.below hW3.out)).mono ?_
      rintro e w4 ⟨rfl, hB4⟩
      have hO := Lib.hid (hO.out.below hB4)
      clear k0 k1 k2 hl0 hl1 hl2
      have k0 := fun o => blk_cell hO.g0 o
      have hl0 := (Array.getElem?_eq_some_iff.1 hO.g0).1
      have k1 := fun o => blk_cell hO.g1 o
      have hl1 := (Array.getElem?_eq_some_iff.1 hO.g1).1
      have k2 := fun o => blk_cell hO.g2 o
      have hl2 := (Array.getElem?_eq_some_iff.1 hO.g2).1
      replace hW2 := Lib.hid (below_then hW2.out hW2.out.size hB4)
      replace hW3 := Lib.hid (below_then hW3.out hW3.out.size hB4)
      clear hB4
      go_wp2_with fail
      refine (skSaid_c r.2.2 _ _ g5 h5 _ (hS2.out.below hW2.out) (hS3.out.below hW3.out)).mono ?_
      rintro e w4 ⟨rfl, hB4⟩
      have hO := Lib.hid (hO.out.below hB4)
      clear k0 k1 k2 hl0 hl1 hl2
      have k0 := fun o => blk_cell hO.g0 o
      have hl0 := (Array.getElem?_eq_some_iff.1 hO.g0).1
      have k1 := fun o => blk_cell hO.g1 o
      have hl1 := (Array.getElem?_eq_some_iff.1 hO.g1).1
      have k2 := fun o => blk_cell hO.g2 o
      have hl2 := (Array.getElem?_eq_some_iff.1 hO.g2).1
      replace hW2 := Lib.hid (below_then hW2.out hW2.out.size hB4)
      replace hW3 := Lib.hid (below_then hW3.out hW3.out.size hB4)
      clear hB4
      by_cases hz : r.1.prog.length = 0
      · have hz' : ((r.1.prog.length : Int) == 0) = true := by rw [hz]; rfl
        replace hz := Lib.hid hz
        go_wp2_with fail
        refine (skPart_c r.1 _ _ _ _ _ _ g1 g2 g3 h1 h2 h3 _ (hP2.out.below hW2.out) (hP3.out.below hW3.out)).mono ?_
        rintro e w4 ⟨rfl, hB4⟩
        have hO := Lib.hid (hO.out.below hB4)
        clear k0 k1 k2 hl0 hl1 hl2
        have k0 := fun o => blk_cell hO.g0 o
        have hl0 := (Array.getElem?_eq_some_iff.1 hO.g0).1
        have k1 := fun o => blk_cell hO.g1 o
        have hl1 := (Array.getElem?_eq_some_iff.1 hO.g1).1
        have k2 := fun o => blk_cell hO.g2 o
        have hl2 := (Array.getElem?_eq_some_iff.1 hO.g2).1
        replace hW2 := Lib.hid (below_then hW2.out hW2.out.size hB4)
        replace hW3 := Lib.hid (below_then hW3.out hW3.out.size hB4)
        clear hB4
        go_wp2_with fail
        refine (skSaid_c r.2.2 _ _ g5 h5 _ (hS2.out.below hW2.out) (hS3.out.below hW3.out)).mono ?_
        rintro e w4 ⟨rfl, hB4⟩
        have hO := Lib.hid (hO.out.below hB4)
        clear k0 k1 k2 hl0 hl1 hl2
        have k0 := fun o => blk_cell hO.g0 o
        have hl0 := (Array.getElem?_eq_some_iff.1 hO.g0).1
        have k1 := fun o => blk_cell hO.g1 o
        have hl1 := (Array.getElem?_eq_some_iff.1 hO.g1).1
        have k2 := fun o => blk_cell hO.g2 o
        have hl2 := (Array.getElem?_eq_some_iff.1 hO.g2).1
        replace hW2 := Lib.hid (below_then hW2.out hW2.out.size hB4)
        replace hW3 := Lib.hid (below_then hW3.out hW3.out.size hB4)
        clear hB4
        go_wp2_with fail
        go_ret
        exact ⟨rfl, hB1.out.trans (hO.out.1.mono hB1.out.size)⟩
      · have hz' : ((r.1.prog.length : Int) == 0) = false := beq_eq_false_iff_ne.2 (by omega)
        have hal := fun hn => alone_pure hr.out hz hy4.out hyv.out hn
        replace hal := Lib.hid hal
        clear hr hz
        go_wp2_with fail
        go_loopw [18] (fun v18 wr => ∃ i : Nat, v18 = .int .i64 i ∧ i ≤ pt.prog.length ∧ w4 = wr ∧ Hid (∀ j o, j < i → pt.prog[j]? = some o → o.1 ≠ 9 ∧ o.1 ≠ 10)) (fun v18 _ => pt.prog.length - (intOf v18).toNat)
        case atStart => exact ⟨0, rfl, Nat.zero_le _, rfl, Lib.hid (fun j o hj => by omega)⟩
        case round =>
          obtain ⟨i, rfl, hi, rfl, hF⟩ := hrel
          by_cases hin : i < pt.prog.length
          · obtain ⟨x, y, z, g, o, hx, rfl, a0, a1', a2'⟩ := (hP.out.below hO.out.1).prog.ops.at hin
            clear a1' a2'
            have hlt : (i : Int) < pt.prog.length := by omega
            by_cases hx10 : x = 10
            · have e1 : (x == 10) = true := by rw [hx10]; rfl
              replace hx10 := Lib.hid hx10
              go_wp2_with fail
              go_ret
              exact ⟨rfl, hB1.out.trans (hO.out.1.mono hB1.out.size)⟩
            · have e1 : (x == 10) = false := beq_eq_false_iff_ne.2 hx10
              by_cases hx9 : x = 9
              · have e2 : (x == 9) = true := by rw [hx9]; rfl
                replace hx9 := Lib.hid hx9
                go_wp2_with fail
                go_ret
                exact ⟨rfl, hB1.out.trans (hO.out.1.mono hB1.out.size)⟩
              · have e2 : (x == 9) = false := beq_eq_false_iff_ne.2 hx9
                have hF2 : Hid (∀ j o, j < i + 1 → pt.prog[j]? = some o → o.1 ≠ 9 ∧ o.1 ≠ 10) := Lib.hid (fun j o hj ho => by
                  by_cases e : j = i
                  · subst e
                    rw [hx] at ho
                    injection ho with ho
                    subst ho
                    exact ⟨hx9, hx10⟩
                  · exact hF.out j o (by omega) ho)
                replace hx := Lib.hid hx
                replace hx9 := Lib.hid hx9
                replace hx10 := Lib.hid hx10
                go_wp2_with fail
                go_roundw
                case rel => exact ⟨i + 1, by simp, by omega, trivial, hF2⟩
                case measure => simp [intOf]; omega
          · have hlt : ¬ (i : Int) < pt.prog.length := by omega
            have hF2 : ∀ o ∈ pt.prog, o.1 ≠ 9 ∧ o.1 ≠ 10 := fun o ho => by
              obtain ⟨j, hj, e⟩ := List.getElem_of_mem ho
              exact hF.out j o (by omega) (by rw [List.getElem?_eq_getElem hj, e])
            obtain ⟨p1, p2, p3⟩ := hal.out hF2
            replace p1 := Lib.hid p1
            replace p2 := Lib.hid p2
            replace p3 := Lib.hid p3
            clear hF hF2 hal hi
            have hg3 := Lib.hid hO.out.g3
            go_wp2_with fail
            refine (partRun_c pt now ys most _ _ _ _ f1 f2 f3 [gy] _ (hP.out.below hO.out.1) (hY2.out _ hg3.out) (by omega)).mono ?_
            intro e w5 hq
            obtain ⟨r2, hr2⟩ : ∃ r2, r2 = PRun pt now ys most := ⟨_, rfl⟩
            rw [← hr2] at hq p1 p2 p3
            obtain ⟨E1, m1, E2, m2, E3, m3, E4, m4, E5, m5, t1, t2, t3, t4, t5, rfl, hP5, hX5, hS5, hB5⟩ := hq.get
            clear hq
            have hO := Lib.hid (hO.out.below hB5)
            clear k0 k1 k2 hl0 hl1 hl2
            have k0 := fun o => blk_cell hO.g0 o
            have hl0 := (Array.getElem?_eq_some_iff.1 hO.g0).1
            have k1 := fun o => blk_cell hO.g1 o
            have hl1 := (Array.getElem?_eq_some_iff.1 hO.g1).1
            have k2 := fun o => blk_cell hO.g2 o
            have hl2 := (Array.getElem?_eq_some_iff.1 hO.g2).1
            replace hW2 := Lib.hid (below_then hW2.out hW2.out.size hB5)
            clear hB5
            have hO := Lib.hid (hO.out.put (.cells #[.slice E1 r2.1.prog.length m1, .slice E2 r2.1.cells.length m2, .int .i64 r2.1.pc, .bool r2.1.fails, .slice E3 r2.1.box.length m3] 26))
            clear k0 k1 k2 hl0 hl1 hl2
            have k0 := fun o => blk_cell hO.g0 o
            have hl0 := (Array.getElem?_eq_some_iff.1 hO.g0).1
            have k1 := fun o => blk_cell hO.g1 o
            have hl1 := (Array.getElem?_eq_some_iff.1 hO.g1).1
            have k2 := fun o => blk_cell hO.g2 o
            have hl2 := (Array.getElem?_eq_some_iff.1 hO.g2).1
            have k3 := fun o => blk_cell hO.g3 o
            have hl3 := (Array.getElem?_eq_some_iff.1 hO.g3).1
            have hW5 := Lib.hid ((Below.refl w5.heap.size w5).alloc (Nat.le_refl _) (.cells #[.slice E1 r2.1.prog.length m1, .slice E2 r2.1.cells.length m2, .int .i64 r2.1.pc, .bool r2.1.fails, .slice E3 r2.1.box.length m3] 26))
            replace hW2 := Lib.hid (hW2.out.alloc hW2.out.size (.cells #[.slice E1 r2.1.prog.length m1, .slice E2 r2.1.cells.length m2, .int .i64 r2.1.pc, .bool r2.1.fails, .slice E3 r2.1.box.length m3] 26))
            replace hP5 := Lib.hid hP5
            replace hX5 := Lib.hid hX5
            replace hS5 := Lib.hid hS5
            clear hr2
            go_wp2_with fail
            refine (skPart_e r.1 r2.1 r2.1.fails p1.out rfl _ _ _ _ _ _ g1 g2 g3 t1 t2 t3 _ (hP2.out.below hW2.out) (hP5.out.below hW5.out)).mono ?_
            rintro e w9 ⟨rfl, hB4⟩
            have hO := Lib.hid (hO.out.below hB4)
            clear k0 k1 k2 k3 hl0 hl1 hl2 hl3
            have k0 := fun o => blk_cell hO.g0 o
            have hl0 := (Array.getElem?_eq_some_iff.1 hO.g0).1
            have k1 := fun o => blk_cell hO.g1 o
            have hl1 := (Array.getElem?_eq_some_iff.1 hO.g1).1
            have k2 := fun o => blk_cell hO.g2 o
            have hl2 := (Array.getElem?_eq_some_iff.1 hO.g2).1
            have k3 := fun o => blk_cell hO.g3 o
            have hl3 := (Array.getElem?_eq_some_iff.1 hO.g3).1
            replace hW2 := Lib.hid (below_then hW2.out hW2.out.size hB4)
            replace hW5 := Lib.hid (below_then hW5.out hW5.out.size hB4)
            clear hB4
            go_wp2_with fail
            refine (skSaid_e r.2.2 r2.2.2 p2.out _ _ g5 t5 _ (hS2.out.below hW2.out) (hS5.out.below hW5.out)).mono ?_
            rintro e w10 ⟨rfl, hB4⟩
            have hO := Lib.hid (hO.out.below hB4)
            clear k0 k1 k2 k3 hl0 hl1 hl2 hl3
            have k0 := fun o => blk_cell hO.g0 o
            have hl0 := (Array.getElem?_eq_some_iff.1 hO.g0).1
            have k1 := fun o => blk_cell hO.g1 o
            have hl1 := (Array.getElem?_eq_some_iff.1 hO.g1).1
            have k2 := fun o => blk_cell hO.g2 o
            have hl2 := (Array.getElem?_eq_some_iff.1 hO.g2).1
            have k3 := fun o => blk_cell hO.g3 o
            have hl3 := (Array.getElem?_eq_some_iff.1 hO.g3).1
            replace hW5 := Lib.hid (below_then hW5.out hW5.out.size hB4)
            clear hB4
            go_wp2_with fail
            refine (skInts_e r2.2.1 ys p3.out _ _ t4 [gy] _ (hX5.out.below hW5.out) (hY2.out _ hO.out.g4)).mono ?_
            rintro e w11 ⟨rfl, hB4⟩
            have hO := Lib.hid (hO.out.below hB4)
            clear k0 k1 k2 k3 hl0 hl1 hl2 hl3
            have k0 := fun o => blk_cell hO.g0 o
            have hl0 := (Array.getElem?_eq_some_iff.1 hO.g0).1
            have k1 := fun o => blk_cell hO.g1 o
            have hl1 := (Array.getElem?_eq_some_iff.1 hO.g1).1
            have k2 := fun o => blk_cell hO.g2 o
            have hl2 := (Array.getElem?_eq_some_iff.1 hO.g2).1
            have k3 := fun o => blk_cell hO.g3 o
            have hl3 := (Array.getElem?_eq_some_iff.1 hO.g3).1
            clear hB4
            go_wp2_with fail
            go_ret
            exact ⟨rfl, hB1.out.trans (hO.out.1.mono hB1.out.size)⟩
    · have h4' : ((ys.length : Int) != 4) = true := by
        rw [bne, beq_eq_false_iff_ne.2 (by omega : (ys.length : Int) ≠ 4)]
        rfl
      replace hy4 := Lib.hid hy4
      have hO := Lib.hid hOn
      clear hPy hBy hY hOn
      have hxv := Lib.hid trivial
      have k0 := fun o => blk_cell hO.g0 o
      have hl0 := (Array.getElem?_eq_some_iff.1 hO.g0).1
      go_wp2_with fail
      refine (partRun_c pt now xs most _ _ _ _ f1 f2 f3 f4 _ (hP.out.below hO.out.1) (hX.out.below hO.out.1) (by omega)).mono ?_
      intro e w2 hq
      have hst := lpartRun_c pt now xs most (.slice A1 pt.prog.length c1) (.slice A2 pt.cells.length c2) (.slice A3 pt.box.length c3) (.slice A4 xs.length c4) f1 f2 f3 f4
      obtain ⟨r, hr⟩ : ∃ r, r = PRun pt now xs most := ⟨_, rfl⟩
      rw [← hr] at hst hq
      replace hr := Lib.hid hr
      replace hst := Lib.hid hst
      obtain ⟨B1, b1, B2, b2, B3, b3, B4, b4, B5, b5, g1, g2, g3, g4, g5, rfl, hP2, hX2, hS2, hB2⟩ := hq.get
      clear hq
      have hO := Lib.hid (hO.out.below hB2)
      clear k0 hl0
      have k0 := fun o => blk_cell hO.g0 o
      have hl0 := (Array.getElem?_eq_some_iff.1 hO.g0).1
      have hO := Lib.hid (hO.out.put (.cells #[.slice B1 r.1.prog.length b1, .slice B2 r.1.cells.length b2, .int .i64 r.1.pc, .bool r.1.fails, .slice B3 r.1.box.length b3] 26))
      clear k0 hl0
      have k0 := fun o => blk_cell hO.g0 o
      have hl0 := (Array.getElem?_eq_some_iff.1 hO.g0).1
      have k1 := fun o => blk_cell hO.g1 o
      have hl1 := (Array.getElem?_eq_some_iff.1 hO.g1).1
      have hW2 := Lib.hid (Below.refl w2.heap.size w2)
      replace hP2 := Lib.hid hP2
      replace hX2 := Lib.hid hX2
      replace hS2 := Lib.hid hS2
      clear hB2
      go_wp2_with fail
      refine (hst.out _ (hP.out.below hO.out.1) (hX.out.below hO.out.1) (by omega)).mono ?_
      intro e w3 hq
      obtain ⟨D1, d1, D2, d2, D3, d3, D4, d4, D5, d5, h1, h2, h3, h4, h5, rfl, hP3, hX3, hS3, hB3⟩ := hq.get
      clear hq hst
      have hO := Lib.hid (hO.out.below hB3)
      clear k0 k1 hl0 hl1
      have k0 := fun o => blk_cell hO.g0 o
      have hl0 := (Array.getElem?_eq_some_iff.1 hO.g0).1
      have k1 := fun o => blk_cell hO.g1 o
      have hl1 := (Array.getElem?_eq_some_iff.1 hO.g1).1
      have hO := Lib.hid (hO.out.put (.cells #[.slice D1 r.1.prog.length d1, .slice D2 r.1.cells.length d2, .int .i64 r.1.pc, .bool r.1.fails, .slice D3 r.1.box.length d3] 26))
      clear k0 k1 hl0 hl1
      have k0 := fun o => blk_cell hO.g0 o
      have hl0 := (Array.getElem?_eq_some_iff.1 hO.g0).1
      have k1 := fun o => blk_cell hO.g1 o
      have hl1 := (Array.getElem?_eq_some_iff.1 hO.g1).1
      have k2 := fun o => blk_cell hO.g2 o
      have hl2 := (Array.getElem?_eq_some_iff.1 hO.g2).1
      have hW2 := Lib.hid (((hW2.out.alloc (Nat.le_refl _) _).trans (hB3.mono (by simp))).alloc (by have := hB3.size; simp at this; omega) (.cells #[.slice D1 r.1.prog.length d1, .slice D2 r.1.cells.length d2, .int .i64 r.1.pc, .bool r.1.fails, .slice D3 r.1.box.length d3] 26))
      have hW3 := Lib.hid ((Below.refl w3.heap.size w3).alloc (Nat.le_refl _) (.cells #[.slice D1 r.1.prog.length d1, .slice D2 r.1.cells.length d2, .int .i64 r.1.pc, .bool r.1.fails, .slice D3 r.1.box.length d3] 26))
      replace hP3 := Lib.hid hP3
      replace hX3 := Lib.hid hX3
      replace hS3 := Lib.hid hS3
      clear hB3
      go_wp2_with fail
      refine (skPart_c r.1 _ _ _ _ _ _ g1 g2 g3 h1 h2 h3 _ (hP2.out.below hW2.out) (hP3.out.below hW3.out)).mono ?_
      rintro e w4 ⟨rfl, hB4⟩
      have hO := Lib.hid (hO.out.below hB4)
      clear k0 k1 k2 hl0 hl1 hl2
      have k0 := fun o => blk_cell hO.g0 o
      have hl0 := (Array.getElem?_eq_some_iff.1 hO.g0).1
      have k1 := fun o => blk_cell hO.g1 o
      have hl1 := (Array.getElem?_eq_some_iff.1 hO.g1).1
      have k2 := fun o => blk_cell hO.g2 o
      have hl2 := (Array.getElem?_eq_some_iff.1 hO.g2).1
      replace hW2 := Lib.hid (below_then hW2.out hW2.out.size hB4)
      replace hW3 := Lib.hid (below_then hW3.out hW3.out.size hB4)
      clear hB4
      go_wp2_with fail
      refine (skSaid_c r.2.2 _ _ g5 h5 _ (hS2.out.below hW2.out) (hS3.out.below hW3.out)).mono ?_
      rintro e w4 ⟨rfl, hB4⟩
      have hO := Lib.hid (hO.out.below hB4)
      clear k0 k1 k2 hl0 hl1 hl2
      have k0 := fun o => blk_cell hO.g0 o
      have hl0 := (Array.getElem?_eq_some_iff.1 hO.g0).1
      have k1 := fun o => blk_cell hO.g1 o
      have hl1 := (Array.getElem?_eq_some_iff.1 hO.g1).1
      have k2 := fun o => blk_cell hO.g2 o
      have hl2 := (Array.getElem?_eq_some_iff.1 hO.g2).1
      replace hW2 := Lib.hid (below_then hW2.out hW2.out.size hB4)
      replace hW3 := Lib.hid (below_then hW3.out hW3.out.size hB4)
      clear hB4
      by_cases hz : r.1.prog.length = 0
      · have hz' : ((r.1.prog.length : Int) == 0) = true := by rw [hz]; rfl
        replace hz := Lib.hid hz
        go_wp2_with fail
        refine (skPart_c r.1 _ _ _ _ _ _ g1 g2 g3 h1 h2 h3 _ (hP2.out.below hW2.out) (hP3.out.below hW3.out)).mono ?_
        rintro e w4 ⟨rfl, hB4⟩
        have hO := Lib.hid (hO.out.below hB4)
        clear k0 k1 k2 hl0 hl1 hl2
        have k0 := fun o => blk_cell hO.g0 o
        have hl0 := (Array.getElem?_eq_some_iff.1 hO.g0).1
        have k1 := fun o => blk_cell hO.g1 o
        have hl1 := (Array.getElem?_eq_some_iff.1 hO.g1).1
        have k2 := fun o => blk_cell hO.g2 o
        have hl2 := (Array.getElem?_eq_some_iff.1 hO.g2).1
        replace hW2 := Lib.hid (below_then hW2.out hW2.out.size hB4)
        replace hW3 := Lib.hid (below_then hW3.out hW3.out.size hB4)
        clear hB4
        go_wp2_with fail
        refine (skSaid_c r.2.2 _ _ g5 h5 _ (hS2.out.below hW2.out) (hS3.out.below hW3.out)).mono ?_
        rintro e w4 ⟨rfl, hB4⟩
        have hO := Lib.hid (hO.out.below hB4)
        clear k0 k1 k2 hl0 hl1 hl2
        have k0 := fun o => blk_cell hO.g0 o
        have hl0 := (Array.getElem?_eq_some_iff.1 hO.g0).1
        have k1 := fun o => blk_cell hO.g1 o
        have hl1 := (Array.getElem?_eq_some_iff.1 hO.g1).1
        have k2 := fun o => blk_cell hO.g2 o
        have hl2 := (Array.getElem?_eq_some_iff.1 hO.g2).1
        replace hW2 := Lib.hid (below_then hW2.out hW2.out.size hB4)
        replace hW3 := Lib.hid (below_then hW3.out hW3.out.size hB4)
        clear hB4
        go_wp2_with fail
        go_ret
        exact ⟨rfl, hB1.out.trans (hO.out.1.mono hB1.out.size)⟩
      · have hz' : ((r.1.prog.length : Int) == 0) = false := beq_eq_false_iff_ne.2 (by omega)
        replace hz := Lib.hid hz
        go_wp2_with fail
        refine (skPart_c r.1 _ _ _ _ _ _ g1 g2 g3 h1 h2 h3 _ (hP2.out.below hW2.out) (hP3.out.below hW3.out)).mono ?_
        rintro e w4 ⟨rfl, hB4⟩
        have hO := Lib.hid (hO.out.below hB4)
        clear k0 k1 k2 hl0 hl1 hl2
        have k0 := fun o => blk_cell hO.g0 o
        have hl0 := (Array.getElem?_eq_some_iff.1 hO.g0).1
        have k1 := fun o => blk_cell hO.g1 o
        have hl1 := (Array.getElem?_eq_some_iff.1 hO.g1).1
        have k2 := fun o => blk_cell hO.g2 o
        have hl2 := (Array.getElem?_eq_some_iff.1 hO.g2).1
        replace hW2 := Lib.hid (below_then hW2.out hW2.out.size hB4)
        replace hW3 := Lib.hid (below_then hW3.out hW3.out.size hB4)
        clear hB4
        go_wp2_with fail
        refine (skSaid_c r.2.2 _ _ g5 h5 _ (hS2.out.below hW2.out) (hS3.out.below hW3.out)).mono ?_
        rintro e w4 ⟨rfl, hB4⟩
        have hO := Lib.hid (hO.out.below hB4)
        clear k0 k1 k2 hl0 hl1 hl2
        have k0 := fun o => blk_cell hO.g0 o
        have hl0 := (Array.getElem?_eq_some_iff.1 hO.g0).1
        have k1 := fun o => blk_cell hO.g1 o
        have hl1 := (Array.getElem?_eq_some_iff.1 hO.g1).1
        have k2 := fun o => blk_cell hO.g2 o
        have hl2 := (Array.getElem?_eq_some_iff.1 hO.g2).1
        replace hW2 := Lib.hid (below_then hW2.out hW2.out.size hB4)
        replace hW3 := Lib.hid (below_then hW3.out hW3.out.size hB4)
        clear hB4
        go_wp2_with fail
        go_ret
        exact ⟨rfl, hB1.out.trans (hO.out.1.mono hB1.out.size)⟩
end Go.Proofs.Ytkphkkfgphhjcaa
