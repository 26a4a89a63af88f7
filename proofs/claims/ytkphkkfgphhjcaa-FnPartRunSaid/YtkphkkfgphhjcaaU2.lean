/- The law FnPartFail, walked. -/
import Derived.Test.YtkphkkfgphhjcaaU1
import Derived.Test.YtkphkkfgphhjcaaT3
namespace Go.Proofs.Ytkphkkfgphhjcaa
open Go.RowKit
set_option linter.unusedSimpArgs false
set_option linter.unusedVariables false

theorem RunR.get {w w' : World} {r : Pt × List Int × List Sd} {e : Ending} (h : RunR w r e w') : ∃ A1 c1 A2 c2 A3 c3 A4 c4 A5 c5 f1 f2 f3 f4 f5, e = .returned (.tuple #[.agg #[.slice A1 r.1.prog.length c1, .slice A2 r.1.cells.length c2, .int .i64 r.1.pc, .bool r.1.fails, .slice A3 r.1.box.length c3], .slice A4 r.2.1.length c4, .slice A5 r.2.2.length c5]) ∧ PtF w' r.1 (.slice A1 r.1.prog.length c1) (.slice A2 r.1.cells.length c2) (.slice A3 r.1.box.length c3) f1 f2 f3 ∧ SL kI w' (.slice A4 r.2.1.length c4) r.2.1 f4 ∧ SL kSd w' (.slice A5 r.2.2.length c5) r.2.2 f5 ∧ Below w.heap.size w w' := by
  obtain ⟨A1, c1, A2, c2, A3, c3, A4, c4, A5, c5, rfl, hR, hB⟩ := h
  obtain ⟨f1, f2, f3, f4, f5, h1, h2, h3, _⟩ := hR.get
  exact ⟨A1, c1, A2, c2, A3, c3, A4, c4, A5, c5, f1, f2, f3, f4, f5, rfl, h1, h2, h3, hB⟩
theorem prun_is {p : Pt} {now : Int} {xs : List Int} {most : Int} (h : (PRun p now xs most).1.prog.length ≠ 0) : runOk p now xs = true ∧ inR most 9999 = true ∧ PRun p now xs most = runF now most.toNat p xs [] := by
  unfold PRun at h ⊢
  cases hk : runOk p now xs && inR most 9999
  · rw [hk] at h
    exact absurd rfl h
  · rw [Bool.and_eq_true] at hk
    exact ⟨hk.1, hk.2, by rw [if_pos rfl]⟩
theorem prun_run {p : Pt} {now : Int} {xs : List Int} {most : Int} (h : runOk p now xs = true) (hm : inR most 9999 = true) : PRun p now xs most = runF now most.toNat p xs [] := by
  unfold PRun
  rw [h, hm]
  rfl
theorem runOk_ports {p q : Pt} {now : Int} {xs ys : List Int} (h : runOk p now xs = true) (k : runOk q now ys = true) : runOk q now xs = true := by
  simp only [runOk, Bool.and_eq_true] at h k ⊢
  exact ⟨k.1, h.2⟩
/-- What the law of failing wants. -/
theorem fail_pure {pt : Pt} {now most : Int} {xs : List Int} {r : Pt × List Int × List Sd} (hr : r = PRun pt now xs most) (hz : r.1.prog.length ≠ 0) : (pt.fails = true → r = (pt, xs, [])) ∧ (pt.fails = false → (∀ o ∈ pt.prog, o.1 ≠ 13) → r.1.fails = false) ∧ (r.1.fails = true → PRun r.1 now xs most = (r.1, xs, [])) ∧ r.1.prog = pt.prog := by
  subst hr
  obtain ⟨h1, h2, h3⟩ := prun_is hz
  rw [h3]
  have hk := runF_ok most.toNat (sd := []) h1
  refine ⟨fun hf => runF_fails hf _, fun hf hn => runF_near _ h1 hn hf, fun hf => ?_, hk.prog⟩
  rw [prun_run (runOk_ports h1 hk.ok) h2]
  exact runF_fails hf _
theorem skPart_e2 (p q : Pt) (a b : Bool) (e : p = q) (ha : p.fails = a) (hb : q.fails = b) (v1 v2 v3 u1 u2 u3 : Value) (f1 f2 f3 g1 g2 g3 : List Nat) (w : World) (h : PtF w p v1 v2 v3 f1 f2 f3) (k : PtF w q u1 u2 u3 g1 g2 g3) : Calls Try.prog 12 #[.agg #[v1, v2, .int .i64 p.pc, .bool a, v3], .agg #[u1, u2, .int .i64 q.pc, .bool b, u3]] w (Ret w (.bool true)) := by
  subst e ha hb
  exact skPart_c p v1 v2 v3 u1 u2 u3 f1 f2 f3 g1 g2 g3 w h k
set_option maxHeartbeats 1000000
set_option maxRecDepth 100000
theorem law_partFail (w : World) (A : Option Addr) (n c : Nat) (h : Code_ w A n c) : Calls Try.prog 4 #[.slice A n c] w (Ret w (.bool true)) := by
  have hC := Lib.hid h
  have hn9 := h.2.1.2
  clear h
  by_cases hlong : n > 1048576
  · have hl : (1048576 : Int) < n := by omega
    go_enter Try.func4, Try.ntmps4
    go_wp2_with fail
    go_ret
    exact ⟨rfl, (by repeat (first | (with_reducible exact Below.refl _ _) | (with_reducible assumption) | (with_reducible refine Below.drew ?_) | (with_reducible refine below_drewN' ?_ _) | (with_reducible refine Below.setCell ?_ (by first | (simp; done) | (simp; omega) | omega) _) | (with_reducible refine Below.alloc ?_ (by first | (simp; done) | (simp; omega) | omega) _) | (with_reducible refine Below.trans ?_ (Below.mono (by assumption) (by first | (simp; done) | (simp; omega) | omega)))))⟩
  · have hl : ¬ (1048576 : Int) < n := by omega
    go_enter Try.func4, Try.ntmps4
    go_wp2_with fail
    refine (drawRun_d w A n c hC.out).mono ?_
    rintro e w1 ⟨v1, v2, v3, v4, pt, now, xs, most, rfl, f1, f2, f3, f4, hP, hX, hpl, hxl, hxv, hB1⟩
    obtain ⟨A1, c1, rfl, _⟩ := hP.prog.form
    obtain ⟨A2, c2, rfl, _⟩ := hP.cells.form
    obtain ⟨A3, c3, rfl, _⟩ := hP.box.form
    obtain ⟨A4, c4, rfl, _⟩ := hX.form
    have hO := Lib.hid ((OwnL.nil w1).put (.cells #[.slice A1 pt.prog.length c1, .slice A2 pt.cells.length c2, .int .i64 pt.pc, .bool pt.fails, .slice A3 pt.box.length c3] 26))
    replace hP := Lib.hid hP
    replace hX := Lib.hid hX
    replace hxv := Lib.hid hxv
    replace hB1 := Lib.hid hB1
    clear hC hl hlong
    have k0 := fun o => blk_cell hO.g0 o
    have hl0 := (Array.getElem?_eq_some_iff.1 hO.g0).1
    go_wp2_with fail
    refine (partRun_c pt now xs most _ _ _ _ f1 f2 f3 f4 _ (hP.out.below hO.out.1) (hX.out.below hO.out.1) (by omega)).mono ?_
    intro e w2 hq
    have hst := lpartRun_c pt now xs most (.slice A1 pt.prog.length c1) (.slice A2 pt.cells.length c2) (.slice A3 pt.box.length c3) (.slice A4 xs.length c4) f1 f2 f3 f4
    obtain ⟨r, hr⟩ : ∃ r, r = PRun pt now xs most := ⟨_, rfl⟩
    rw [← hr] at hst hq
    replace hr := Lib.hid hr
    replace hst := Lib.hid hst
    obtain ⟨B1, b1, B2, b2, B3, b3, B4, b4, B5, b5, g1, g2, g3, g4, g5, rfl, hP2, hX2, hS2, hB2⟩ := hq.get
    clear hq
    have hO := Lib.hid (hO.out.below hB2)
    clear k0 hl0
    have k0 := fun o => blk_cell hO.g0 o
    have hl0 := (Array.getElem?_eq_some_iff.1 hO.g0).1
    have hO := Lib.hid (hO.out.put (.cells #[.slice B1 r.1.prog.length b1, .slice B2 r.1.cells.length b2, .int .i64 r.1.pc, .bool r.1.fails, .slice B3 r.1.box.length b3] 26))
    clear k0 hl0
    have k0 := fun o => blk_cell hO.g0 o
    have hl0 := (Array.getElem?_eq_some_iff.1 hO.g0).1
    have k1 := fun o => blk_cell hO.g1 o
    have hl1 := (Array.getElem?_eq_some_iff.1 hO.g1).1
    have hW2 := Lib.hid (Below.refl w2.heap.size w2)
    replace hP2 := Lib.hid hP2
    replace hX2 := Lib.hid hX2
    replace hS2 := Lib.hid hS2
    clear hB2
    go_wp2_with fail
    refine (hst.out _ (hP.out.below hO.out.1) (hX.out.below hO.out.1) (by omega)).mono ?_
    intro e w3 hq
    obtain ⟨D1, d1, D2, d2, D3, d3, D4, d4, D5, d5, h1, h2, h3, h4, h5, rfl, hP3, hX3, hS3, hB3⟩ := hq.get
    clear hq hst
    have hO := Lib.hid (hO.out.below hB3)
    clear k0 k1 hl0 hl1
    have k0 := fun o => blk_cell hO.g0 o
    have hl0 := (Array.getElem?_eq_some_iff.1 hO.g0).1
    have k1 := fun o => blk_cell hO.g1 o
    have hl1 := (Array.getElem?_eq_some_iff.1 hO.g1).1
    have hO := Lib.hid (hO.out.put (.cells #[.slice D1 r.1.prog.length d1, .slice D2 r.1.cells.length d2, .int .i64 r.1.pc, .bool r.1.fails, .slice D3 r.1.box.length d3] 26))
    clear k0 k1 hl0 hl1
    have k0 := fun o => blk_cell hO.g0 o
    have hl0 := (Array.getElem?_eq_some_iff.1 hO.g0).1
    have k1 := fun o => blk_cell hO.g1 o
    have hl1 := (Array.getElem?_eq_some_iff.1 hO.g1).1
    have k2 := fun o => blk_cell hO.g2 o
    have hl2 := (Array.getElem?_eq_some_iff.1 hO.g2).1
    have hW2 := Lib.hid (((hW2.out.alloc (Nat.le_refl _) _).trans (hB3.mono (by simp))).alloc (by have := hB3.size; simp at this; omega) (.cells #[.slice D1 r.1.prog.length d1, .slice D2 r.1.cells.length d2, .int .i64 r.1.pc, .bool r.1.fails, .slice D3 r.1.box.length d3] 26))
    have hW3 := Lib.hid ((Below.refl w3.heap.size w3).alloc (Nat.le_refl _) (.cells #[.slice D1 r.1.prog.length d1, .slice D2 r.1.cells.length d2, .int .i64 r.1.pc, .bool r.1.fails, .slice D3 r.1.box.length d3] 26))
    replace hP3 := Lib.hid hP3
    replace hX3 := Lib.hid hX3
    replace hS3 := Lib.hid hS3
    clear hB3
    go_wp2_with fail
    refine (skPart_c r.1 _ _ _ _ _ _ g1 g2 g3 h1 h2 h3 _ (hP2.out.below hW2.out) (hP3.out.below hW3.out)).mono ?_
    rintro e w4 ⟨rfl, hB4⟩
    have hO := Lib.hid (hO.out.below hB4)
    clear k0 k1 k2 hl0 hl1 hl2
    have k0 := fun o => blk_cell hO.g0 o
    have hl0 := (Array.getElem?_eq_some_iff.1 hO.g0).1
    have k1 := fun o => blk_cell hO.g1 o
    have hl1 := (Array.getElem?_eq_some_iff.1 hO.g1).1
    have k2 := fun o => blk_cell hO.g2 o
    have hl2 := (Array.getElem?_eq_some_iff.1 hO.g2).1
    replace hW2 := Lib.hid (below_then hW2.out hW2.out.size hB4)
    replace hW3 := Lib.hid (below_then hW3.out hW3.out.size hB4)
    clear hB4
    go_wp2_with fail
    refine (skSaid_c r.2.2 _ _ g5 h5 _ (hS2.out.below hW2.out) (hS3.out.below hW3.out)).mono ?_
    rintro e w4 ⟨rfl, hB4⟩
    have hO := Lib.hid (hO.out.below hB4)
    clear k0 k1 k2 hl0 hl1 hl2
    have k0 := fun o => blk_cell hO.g0 o
    have hl0 := (Array.getElem?_eq_some_iff.1 hO.g0).1
    have k1 := fun o => blk_cell hO.g1 o
    have hl1 := (Array.getElem?_eq_some_iff.1 hO.g1).1
    have k2 := fun o => blk_cell hO.g2 o
    have hl2 := (Array.getElem?_eq_some_iff.1 hO.g2).1
    replace hW2 := Lib.hid (below_then hW2.out hW2.out.size hB4)
    replace hW3 := Lib.hid (below_then hW3.out hW3.out.size hB4)
    clear hB4
    by_cases hz : r.1.prog.length = 0
    · have hz' : ((r.1.prog.length : Int) == 0) = true := by rw [hz]; rfl
      replace hz := Lib.hid hz
      go_wp2_with fail
      refine (skPart_c r.1 _ _ _ _ _ _ g1 g2 g3 h1 h2 h3 _ (hP2.out.below hW2.out) (hP3.out.below hW3.out)).mono ?_
      rintro e w4 ⟨rfl, hB4⟩
      have hO := Lib.hid (hO.out.below hB4)
      clear k0 k1 k2 hl0 hl1 hl2
      have k0 := fun o => blk_cell hO.g0 o
      have hl0 := (Array.getElem?_eq_some_iff.1 hO.g0).1
      have k1 := fun o => blk_cell hO.g1 o
      have hl1 := (Array.getElem?_eq_some_iff.1 hO.g1).1
      have k2 := fun o => blk_cell hO.g2 o
      have hl2 := (Array.getElem?_eq_some_iff.1 hO.g2).1
      replace hW2 := Lib.hid (below_then hW2.out hW2.out.size hB4)
      replace hW3 := Lib.hid (below_then hW3.out hW3.out.size hB4)
      clear hB4
      go_wp2_with fail
      refine (skSaid_c r.2.2 _ _ g5 h5 _ (hS2.out.below hW2.out) (hS3.out.below hW3.out)).mono ?_
      rintro e w4 ⟨rfl, hB4⟩
      have hO := Lib.hid (hO.out.below hB4)
      clear k0 k1 k2 hl0 hl1 hl2
      have k0 := fun o => blk_cell hO.g0 o
      have hl0 := (Array.getElem?_eq_some_iff.1 hO.g0).1
      have k1 := fun o => blk_cell hO.g1 o
      have hl1 := (Array.getElem?_eq_some_iff.1 hO.g1).1
      have k2 := fun o => blk_cell hO.g2 o
      have hl2 := (Array.getElem?_eq_some_iff.1 hO.g2).1
      replace hW2 := Lib.hid (below_then hW2.out hW2.out.size hB4)
      replace hW3 := Lib.hid (below_then hW3.out hW3.out.size hB4)
      clear hB4
      go_wp2_with fail
      go_ret
      exact ⟨rfl, hB1.out.trans (hO.out.1.mono hB1.out.size)⟩
    · have hz' : ((r.1.prog.length : Int) == 0) = false := beq_eq_false_iff_ne.2 (by omega)
      obtain ⟨q1, q2, q3, q4⟩ := fail_pure hr.out hz
      replace q1 := Lib.hid q1
      replace q2 := Lib.hid q2
      replace q3 := Lib.hid q3
      replace q4 := Lib.hid q4
      clear hr hz
      have hfail : ∃ b, pt.fails = b := ⟨_, rfl⟩
      go_wp2_with fail
      go_loopw [14, 13] (fun v14 v13 wr => ∃ (i : Nat) (b : Bool), v14 = .int .i64 i ∧ v13 = .bool b ∧ i ≤ pt.prog.length ∧ w4 = wr ∧ Hid (b = false → ∀ j o, j < i → pt.prog[j]? = some o → o.1 ≠ 13)) (fun v14 _ _ => pt.prog.length - (intOf v14).toNat)
      case atStart => exact ⟨0, false, rfl, rfl, Nat.zero_le _, rfl, Lib.hid (fun _ j o hj => by omega)⟩
      case round =>
        obtain ⟨i, b, rfl, rfl, hi, rfl, hF⟩ := hrel
        by_cases hin : i < pt.prog.length
        · obtain ⟨x, y, z, g, o, hx, rfl, a0, a1, a2⟩ := (hP.out.below hO.out.1).prog.ops.at hin
          clear a1 a2
          have hlt : (i : Int) < pt.prog.length := by omega
          have hF2 : Hid ((b || x == 13) = false → ∀ j o, j < i + 1 → pt.prog[j]? = some o → o.1 ≠ 13) := Lib.hid (fun hb j o hj ho => by
            rw [Bool.or_eq_false_iff] at hb
            by_cases e : j = i
            · subst e
              rw [hx] at ho
              injection ho with ho
              subst ho
              simpa using hb.2
            · exact hF.out hb.1 j o (by omega) ho)
          replace hx := Lib.hid hx
          cases b
          · simp only [Bool.false_or] at hF2
            go_wp2_with fail
            go_roundw
            case rel => exact ⟨i + 1, _, by simp, rfl, by omega, trivial, hF2⟩
            case measure => simp [intOf]; omega
          · simp only [Bool.true_or] at hF2
            go_wp2_with fail
            go_roundw
            case rel => exact ⟨i + 1, true, by simp, rfl, by omega, trivial, hF2⟩
            case measure => simp [intOf]; omega
        · have hlt : ¬ (i : Int) < pt.prog.length := by omega
          have hF2 : b = false → ∀ o ∈ pt.prog, o.1 ≠ 13 := fun hb o ho => by
            obtain ⟨j, hj, e⟩ := List.getElem_of_mem ho
            exact hF.out hb j o (by omega) (by rw [List.getElem?_eq_getElem hj, e])
          replace hF2 := Lib.hid hF2
          clear hF
          cases hf : pt.fails
          · clear hi
            have hpl2 : r.1.prog.length ≤ 10000000 := by rw [q4.out]; omega
            go_wp2_with fail
            refine (partRun_c r.1 now xs most _ _ _ _ g1 g2 g3 f4 _ (hP2.out.below hW2.out) (hX.out.below hO.out.1) hpl2).mono ?_
            intro e w5 hq
            obtain ⟨r2, hr2⟩ : ∃ r2, r2 = PRun r.1 now xs most := ⟨_, rfl⟩
            rw [← hr2] at hq
            obtain ⟨E1, m1, E2, m2, E3, m3, E4, m4, E5, m5, t1, t2, t3, t4, t5, rfl, hP5, hX5, hS5, hB5⟩ := hq.get
            clear hq
            have hO := Lib.hid (hO.out.below hB5)
            clear k0 k1 k2 hl0 hl1 hl2
            have k0 := fun o => blk_cell hO.g0 o
            have hl0 := (Array.getElem?_eq_some_iff.1 hO.g0).1
            have k1 := fun o => blk_cell hO.g1 o
            have hl1 := (Array.getElem?_eq_some_iff.1 hO.g1).1
            have k2 := fun o => blk_cell hO.g2 o
            have hl2 := (Array.getElem?_eq_some_iff.1 hO.g2).1
            replace hW2 := Lib.hid (below_then hW2.out hW2.out.size hB5)
            clear hB5
            have hO := Lib.hid (hO.out.put (.cells #[.slice E1 r2.1.prog.length m1, .slice E2 r2.1.cells.length m2, .int .i64 r2.1.pc, .bool r2.1.fails, .slice E3 r2.1.box.length m3] 26))
            clear k0 k1 k2 hl0 hl1 hl2
            have k0 := fun o => blk_cell hO.g0 o
            have hl0 := (Array.getElem?_eq_some_iff.1 hO.g0).1
            have k1 := fun o => blk_cell hO.g1 o
            have hl1 := (Array.getElem?_eq_some_iff.1 hO.g1).1
            have k2 := fun o => blk_cell hO.g2 o
            have hl2 := (Array.getElem?_eq_some_iff.1 hO.g2).1
            have k3 := fun o => blk_cell hO.g3 o
            have hl3 := (Array.getElem?_eq_some_iff.1 hO.g3).1
            have hW5 := Lib.hid ((Below.refl w5.heap.size w5).alloc (Nat.le_refl _) (.cells #[.slice E1 r2.1.prog.length m1, .slice E2 r2.1.cells.length m2, .int .i64 r2.1.pc, .bool r2.1.fails, .slice E3 r2.1.box.length m3] 26))
            replace hW2 := Lib.hid (hW2.out.alloc hW2.out.size (.cells #[.slice E1 r2.1.prog.length m1, .slice E2 r2.1.cells.length m2, .int .i64 r2.1.pc, .bool r2.1.fails, .slice E3 r2.1.box.length m3] 26))
            replace hr2 := Lib.hid hr2
            cases hrf : r.1.fails
            · cases b
              · go_wp2_with fail
                go_ret
                exact ⟨rfl, hB1.out.trans (hO.out.1.mono hB1.out.size)⟩
              · go_wp2_with fail
                go_ret
                exact ⟨rfl, hB1.out.trans (hO.out.1.mono hB1.out.size)⟩
            · have hb1 : b = true := by
                cases hb : b
                · exfalso
                  have := q2.out hf (hF2.out hb)
                  rw [hrf] at this
                  cases this
                · rfl
              subst hb1
              have hr3 := Lib.hid (hr2.out.trans (q3.out hrf))
              have e1 := Lib.hid (show r2.1 = r.1 by rw [hr3.out])
              have e3 : r2.2.2.length = 0 := by rw [hr3.out]; rfl
              clear hr2
              go_wp2_with fail
              refine (skPart_e2 r2.1 r.1 r2.1.fails true e1.out rfl hrf _ _ _ _ _ _ t1 t2 t3 g1 g2 g3 _ (hP5.below hW5.out) (hP2.out.below hW2.out)).mono ?_
              rintro e w9 ⟨rfl, hB4⟩
              have hO := Lib.hid (hO.out.below hB4)
              clear k0 k1 k2 k3 hl0 hl1 hl2 hl3
              have k0 := fun o => blk_cell hO.g0 o
              have hl0 := (Array.getElem?_eq_some_iff.1 hO.g0).1
              have k1 := fun o => blk_cell hO.g1 o
              have hl1 := (Array.getElem?_eq_some_iff.1 hO.g1).1
              have k2 := fun o => blk_cell hO.g2 o
              have hl2 := (Array.getElem?_eq_some_iff.1 hO.g2).1
              have k3 := fun o => blk_cell hO.g3 o
              have hl3 := (Array.getElem?_eq_some_iff.1 hO.g3).1
              clear hB4
              go_wp2_with fail
              go_ret
              exact ⟨rfl, hB1.out.trans (hO.out.1.mono hB1.out.size)⟩
          · have hrr := Lib.hid (q1.out hf)
            have e1 := Lib.hid (show r.1 = pt by rw [hrr.out])
            have e3 : r.2.2.length = 0 := by rw [hrr.out]; rfl
            clear hi
            go_wp2_with fail
            refine (skPart_e r.1 pt true e1.out hf _ _ _ _ _ _ g1 g2 g3 f1 f2 f3 _ (hP2.out.below hW2.out) (hP.out.below hO.out.1)).mono ?_
            rintro e w9 ⟨rfl, hB4⟩
            have hO := Lib.hid (hO.out.below hB4)
            clear k0 k1 k2 hl0 hl1 hl2
            have k0 := fun o => blk_cell hO.g0 o
            have hl0 := (Array.getElem?_eq_some_iff.1 hO.g0).1
            have k1 := fun o => blk_cell hO.g1 o
            have hl1 := (Array.getElem?_eq_some_iff.1 hO.g1).1
            have k2 := fun o => blk_cell hO.g2 o
            have hl2 := (Array.getElem?_eq_some_iff.1 hO.g2).1
            clear hB4
            go_wp2_with fail
            go_ret
            exact ⟨rfl, hB1.out.trans (hO.out.1.mono hB1.out.size)⟩
end Go.Proofs.Ytkphkkfgphhjcaa
