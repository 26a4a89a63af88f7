/- The law FnPartStep, walked. -/
import Derived.Test.YtkphkkfgphhjcaaQ8
import Derived.Test.YtkphkkfgphhjcaaT4
import Derived.Test.YtkphkkfgphhjcaaS11
namespace Go.Proofs.Ytkphkkfgphhjcaa
open Go.RowKit
set_option linter.unusedSimpArgs false
set_option linter.unusedVariables false

theorem StepR.get {w w' : World} {p : Pt} {xs : List Int} {sd : List Sd} {b : Bool} {e : Ending} (h : StepR w p xs sd b e w') : ∃ A1 c1 A2 c2 A3 c3 A4 c4 A5 c5 f1 f2 f3 f4 f5, e = .returned (.tuple #[.agg #[.slice A1 p.prog.length c1, .slice A2 p.cells.length c2, .int .i64 p.pc, .bool p.fails, .slice A3 p.box.length c3], .slice A4 xs.length c4, .slice A5 sd.length c5, .bool b]) ∧ PtF w' p (.slice A1 p.prog.length c1) (.slice A2 p.cells.length c2) (.slice A3 p.box.length c3) f1 f2 f3 ∧ SL kI w' (.slice A4 xs.length c4) xs f4 ∧ SL kSd w' (.slice A5 sd.length c5) sd f5 ∧ Below w.heap.size w w' := by
  obtain ⟨A1, c1, A2, c2, A3, c3, A4, c4, A5, c5, rfl, hR, hB⟩ := h
  obtain ⟨f1, f2, f3, f4, f5, h1, h2, h3, _⟩ := hR.get
  exact ⟨A1, c1, A2, c2, A3, c3, A4, c4, A5, c5, f1, f2, f3, f4, f5, rfl, h1, h2, h3, hB⟩
theorem skPart_e (p q : Pt) (b : Bool) (e : p = q) (hb : q.fails = b) (v1 v2 v3 u1 u2 u3 : Value) (f1 f2 f3 g1 g2 g3 : List Nat) (w : World) (h : PtF w p v1 v2 v3 f1 f2 f3) (k : PtF w q u1 u2 u3 g1 g2 g3) : Calls Try.prog 12 #[.agg #[v1, v2, .int .i64 p.pc, .bool p.fails, v3], .agg #[u1, u2, .int .i64 q.pc, .bool b, u3]] w (Ret w (.bool true)) := by
  subst e hb
  exact skPart_c p v1 v2 v3 u1 u2 u3 f1 f2 f3 g1 g2 g3 w h k
theorem skInts_e (xs ys : List Int) (e : xs = ys) (v1 v2 : Value) (f1 f2 : List Nat) (w : World) (h1 : SL kI w v1 xs f1) (h2 : SL kI w v2 ys f2) : Calls Try.prog 13 #[v1, v2] w (Ret w (.bool true)) := by
  subst e
  exact skInts_c xs v1 v2 f1 f2 w h1 h2
theorem skSaid_e (xs ys : List Sd) (e : xs = ys) (v1 v2 : Value) (f1 f2 : List Nat) (w : World) (h1 : SL kSd w v1 xs f1) (h2 : SL kSd w v2 ys f2) : Calls Try.prog 14 #[v1, v2] w (Ret w (.bool true)) := by
  subst e
  exact skSaid_c xs v1 v2 f1 f2 w h1 h2
set_option maxHeartbeats 4000000
set_option maxRecDepth 100000
theorem law_partStep (w : World) (A : Option Addr) (n c : Nat) (h : Code_ w A n c) : Calls Try.prog 3 #[.slice A n c] w (Ret w (.bool true)) := by
  have hC := Lib.hid h
  have hn9 := h.2.1.2
  clear h
  by_cases hlong : n > 1048576
  · have hl : (1048576 : Int) < n := by omega
    go_enter Try.func3, Try.ntmps3
    go_wp2_with fail
    go_ret
    exact ⟨rfl, (by repeat (first | (with_reducible exact Below.refl _ _) | (with_reducible assumption) | (with_reducible refine Below.drew ?_) | (with_reducible refine below_drewN' ?_ _) | (with_reducible refine Below.setCell ?_ (by first | (simp; done) | (simp; omega) | omega) _) | (with_reducible refine Below.alloc ?_ (by first | (simp; done) | (simp; omega) | omega) _) | (with_reducible refine Below.trans ?_ (Below.mono (by assumption) (by first | (simp; done) | (simp; omega) | omega)))))⟩
  · have hl : ¬ (1048576 : Int) < n := by omega
    go_enter Try.func3, Try.ntmps3
    go_wp2_with fail
    refine (drawStep_d w A n c hC.out).mono ?_
    rintro e w1 ⟨v1, v2, v3, v4, pt, now, xs, rfl, f1, f2, f3, f4, hP, hX, hpl, hxl, hxv, hB1⟩
    obtain ⟨A1, c1, rfl, _⟩ := hP.prog.form
    obtain ⟨A2, c2, rfl, _⟩ := hP.cells.form
    obtain ⟨A3, c3, rfl, _⟩ := hP.box.form
    obtain ⟨A4, c4, rfl, _⟩ := hX.form
    have hO := Lib.hid ((OwnL.nil w1).put (.cells #[.slice A1 pt.prog.length c1, .slice A2 pt.cells.length c2, .int .i64 pt.pc, .bool pt.fails, .slice A3 pt.box.length c3] 26))
    replace hP := Lib.hid hP
    replace hX := Lib.hid hX
    replace hxv := Lib.hid hxv
    replace hB1 := Lib.hid hB1
    clear hC hl hlong
    have k0 := fun o => blk_cell hO.g0 o
    have hl0 := (Array.getElem?_eq_some_iff.1 hO.g0).1
    go_wp2_with fail
    refine (partStep_c pt now xs _ _ _ _ f1 f2 f3 f4 _ (hP.out.below hO.out.1) (hX.out.below hO.out.1) (by omega)).mono ?_
    intro e w2 hq
    have hst := lpartStep_c pt now xs (.slice A1 pt.prog.length c1) (.slice A2 pt.cells.length c2) (.slice A3 pt.box.length c3) (.slice A4 xs.length c4) f1 f2 f3 f4
    obtain ⟨r, hr⟩ : ∃ r, r = PStep pt now xs := ⟨_, rfl⟩
    rw [← hr] at hst hq
    replace hr := Lib.hid hr
    replace hst := Lib.hid hst
    obtain ⟨B1, b1, B2, b2, B3, b3, B4, b4, B5, b5, g1, g2, g3, g4, g5, rfl, hP2, hX2, hS2, hB2⟩ := hq.get
    clear hq
    have hO := Lib.hid (hO.out.below hB2)
    clear k0 hl0
    have k0 := fun o => blk_cell hO.g0 o
    have hl0 := (Array.getElem?_eq_some_iff.1 hO.g0).1
    have hO := Lib.hid (hO.out.put (.cells #[.slice B1 r.1.prog.length b1, .slice B2 r.1.cells.length b2, .int .i64 r.1.pc, .bool r.1.fails, .slice B3 r.1.box.length b3] 26))
    clear k0 hl0
    have k0 := fun o => blk_cell hO.g0 o
    have hl0 := (Array.getElem?_eq_some_iff.1 hO.g0).1
    have k1 := fun o => blk_cell hO.g1 o
    have hl1 := (Array.getElem?_eq_some_iff.1 hO.g1).1
    have hW2 := Lib.hid (Below.refl w2.heap.size w2)
    replace hP2 := Lib.hid hP2
    replace hX2 := Lib.hid hX2
    replace hS2 := Lib.hid hS2
    clear hB2
    go_wp2_with fail
    refine (hst.out _ (hP.out.below hO.out.1) (hX.out.below hO.out.1) (by omega)).mono ?_
    intro e w3 hq
    obtain ⟨D1, d1, D2, d2, D3, d3, D4, d4, D5, d5, h1, h2, h3, h4, h5, rfl, hP3, hX3, hS3, hB3⟩ := hq.get
    clear hq hst
    have hO := Lib.hid (hO.out.below hB3)
    clear k0 k1 hl0 hl1
    have k0 := fun o => blk_cell hO.g0 o
    have hl0 := (Array.getElem?_eq_some_iff.1 hO.g0).1
    have k1 := fun o => blk_cell hO.g1 o
    have hl1 := (Array.getElem?_eq_some_iff.1 hO.g1).1
    have hO := Lib.hid (hO.out.put (.cells #[.slice D1 r.1.prog.length d1, .slice D2 r.1.cells.length d2, .int .i64 r.1.pc, .bool r.1.fails, .slice D3 r.1.box.length d3] 26))
    clear k0 k1 hl0 hl1
    have k0 := fun o => blk_cell hO.g0 o
    have hl0 := (Array.getElem?_eq_some_iff.1 hO.g0).1
    have k1 := fun o => blk_cell hO.g1 o
    have hl1 := (Array.getElem?_eq_some_iff.1 hO.g1).1
    have k2 := fun o => blk_cell hO.g2 o
    have hl2 := (Array.getElem?_eq_some_iff.1 hO.g2).1
    have hW2 := Lib.hid (((hW2.out.alloc (Nat.le_refl _) _).trans (hB3.mono (by simp))).alloc (by have := hB3.size; simp at this; omega) (.cells #[.slice D1 r.1.prog.length d1, .slice D2 r.1.cells.length d2, .int .i64 r.1.pc, .bool r.1.fails, .slice D3 r.1.box.length d3] 26))
    have hW3 := Lib.hid ((Below.refl w3.heap.size w3).alloc (Nat.le_refl _) (.cells #[.slice D1 r.1.prog.length d1, .slice D2 r.1.cells.length d2, .int .i64 r.1.pc, .bool r.1.fails, .slice D3 r.1.box.length d3] 26))
    replace hP3 := Lib.hid hP3
    replace hX3 := Lib.hid hX3
    replace hS3 := Lib.hid hS3
    clear hB3
    have hon : (r.2.2.2 != r.2.2.2) = false := by cases r.2.2.2 <;> rfl
    go_wp2_with fail
    refine (skPart_c r.1 _ _ _ _ _ _ g1 g2 g3 h1 h2 h3 _ (hP2.out.below hW2.out) (hP3.out.below hW3.out)).mono ?_
    rintro e w4 ⟨rfl, hB4⟩
    have hO := Lib.hid (hO.out.below hB4)
    clear k0 k1 k2 hl0 hl1 hl2
    have k0 := fun o => blk_cell hO.g0 o
    have hl0 := (Array.getElem?_eq_some_iff.1 hO.g0).1
    have k1 := fun o => blk_cell hO.g1 o
    have hl1 := (Array.getElem?_eq_some_iff.1 hO.g1).1
    have k2 := fun o => blk_cell hO.g2 o
    have hl2 := (Array.getElem?_eq_some_iff.1 hO.g2).1
    replace hW2 := Lib.hid (below_then hW2.out hW2.out.size hB4)
    replace hW3 := Lib.hid (below_then hW3.out hW3.out.size hB4)
    clear hB4
    go_wp2_with fail
    refine (skInts_c r.2.1 _ _ g4 h4 _ (hX2.out.below hW2.out) (hX3.out.below hW3.out)).mono ?_
    rintro e w5 ⟨rfl, hB4⟩
    have hO := Lib.hid (hO.out.below hB4)
    clear k0 k1 k2 hl0 hl1 hl2
    have k0 := fun o => blk_cell hO.g0 o
    have hl0 := (Array.getElem?_eq_some_iff.1 hO.g0).1
    have k1 := fun o => blk_cell hO.g1 o
    have hl1 := (Array.getElem?_eq_some_iff.1 hO.g1).1
    have k2 := fun o => blk_cell hO.g2 o
    have hl2 := (Array.getElem?_eq_some_iff.1 hO.g2).1
    replace hW2 := Lib.hid (below_then hW2.out hW2.out.size hB4)
    replace hW3 := Lib.hid (below_then hW3.out hW3.out.size hB4)
    clear hB4
    go_wp2_with fail
    refine (skSaid_c r.2.2.1 _ _ g5 h5 _ (hS2.out.below hW2.out) (hS3.out.below hW3.out)).mono ?_
    rintro e w6 ⟨rfl, hB4⟩
    have hO := Lib.hid (hO.out.below hB4)
    clear k0 k1 k2 hl0 hl1 hl2
    have k0 := fun o => blk_cell hO.g0 o
    have hl0 := (Array.getElem?_eq_some_iff.1 hO.g0).1
    have k1 := fun o => blk_cell hO.g1 o
    have hl1 := (Array.getElem?_eq_some_iff.1 hO.g1).1
    have k2 := fun o => blk_cell hO.g2 o
    have hl2 := (Array.getElem?_eq_some_iff.1 hO.g2).1
    replace hW2 := Lib.hid (below_then hW2.out hW2.out.size hB4)
    replace hW3 := Lib.hid (below_then hW3.out hW3.out.size hB4)
    clear hB4
    by_cases hz : r.1.prog.length = 0
    · have hz' : ((r.1.prog.length : Int) == 0) = true := by rw [hz]; rfl
      replace hz := Lib.hid hz
      have hon2 : (r.2.2.2 == r.2.2.2) = true := by cases r.2.2.2 <;> rfl
      go_wp2_with fail
      refine (skPart_c r.1 _ _ _ _ _ _ g1 g2 g3 h1 h2 h3 _ (hP2.out.below hW2.out) (hP3.out.below hW3.out)).mono ?_
      rintro e w7 ⟨rfl, hB4⟩
      have hO := Lib.hid (hO.out.below hB4)
      clear k0 k1 k2 hl0 hl1 hl2
      have k0 := fun o => blk_cell hO.g0 o
      have hl0 := (Array.getElem?_eq_some_iff.1 hO.g0).1
      have k1 := fun o => blk_cell hO.g1 o
      have hl1 := (Array.getElem?_eq_some_iff.1 hO.g1).1
      have k2 := fun o => blk_cell hO.g2 o
      have hl2 := (Array.getElem?_eq_some_iff.1 hO.g2).1
      replace hW2 := Lib.hid (below_then hW2.out hW2.out.size hB4)
      replace hW3 := Lib.hid (below_then hW3.out hW3.out.size hB4)
      clear hB4
      go_wp2_with fail
      refine (skInts_c r.2.1 _ _ g4 h4 _ (hX2.out.below hW2.out) (hX3.out.below hW3.out)).mono ?_
      rintro e w8 ⟨rfl, hB4⟩
      have hO := Lib.hid (hO.out.below hB4)
      clear k0 k1 k2 hl0 hl1 hl2
      have k0 := fun o => blk_cell hO.g0 o
      have hl0 := (Array.getElem?_eq_some_iff.1 hO.g0).1
      have k1 := fun o => blk_cell hO.g1 o
      have hl1 := (Array.getElem?_eq_some_iff.1 hO.g1).1
      have k2 := fun o => blk_cell hO.g2 o
      have hl2 := (Array.getElem?_eq_some_iff.1 hO.g2).1
      replace hW2 := Lib.hid (below_then hW2.out hW2.out.size hB4)
      replace hW3 := Lib.hid (below_then hW3.out hW3.out.size hB4)
      clear hB4
      go_wp2_with fail
      refine (skSaid_c r.2.2.1 _ _ g5 h5 _ (hS2.out.below hW2.out) (hS3.out.below hW3.out)).mono ?_
      rintro e w9 ⟨rfl, hB4⟩
      have hO := Lib.hid (hO.out.below hB4)
      clear k0 k1 k2 hl0 hl1 hl2
      have k0 := fun o => blk_cell hO.g0 o
      have hl0 := (Array.getElem?_eq_some_iff.1 hO.g0).1
      have k1 := fun o => blk_cell hO.g1 o
      have hl1 := (Array.getElem?_eq_some_iff.1 hO.g1).1
      have k2 := fun o => blk_cell hO.g2 o
      have hl2 := (Array.getElem?_eq_some_iff.1 hO.g2).1
      clear hB4
      go_wp2_with fail
      go_ret
      exact ⟨rfl, hB1.out.trans (hO.out.1.mono hB1.out.size)⟩
    · have hz' : ((r.1.prog.length : Int) == 0) = false := beq_eq_false_iff_ne.2 (by omega)
      have hok : runOk pt now xs = true := by
        cases hk : runOk pt now xs
        · exfalso
          apply hz
          rw [hr.out]
          unfold PStep
          rw [hk]
          rfl
        · rfl
      have hps := pstep_ok hok
      rw [← hr.out] at hps
      have hfl := fun hf => hr.out.trans (pstep_fails hok hf)
      have hpr := hps.prog
      have hsd : (r.2.2.1.length : Int) ≤ 1 := by have := hps.said; omega
      have hbx : (r.1.box.length : Int) ≤ pt.box.length := by have := hps.box; omega
      have hk2 : r.1.ok = true := by have := hps.ok; simp only [runOk, Bool.and_eq_true] at this; exact this.1
      have hv2 : ∀ x ∈ r.2.1, 0 ≤ x ∧ x ≤ 9999 := by have := hps.ok; simp only [runOk, portsOK, valsOk, valOk, Bool.and_eq_true, List.all_eq_true, inR_iff] at this; exact this.2.2.2
      have hv5 : r.2.1.length ≤ 100 := by have := hps.ok; simp only [runOk, portsOK, Bool.and_eq_true, beq_iff_eq] at this; omega
      replace hv2 := Lib.hid hv2
      replace hpr := Lib.hid hpr
      replace hfl := Lib.hid hfl
      have hpl2 : r.1.prog.length ≤ 10000000 := by rw [hpr.out]; omega
      clear hr hps hz hok
      cases hf : pt.fails
      · go_wp2_with fail
        go_loopw [14] (fun v14 wr => ∃ i : Nat, v14 = .int .i64 i ∧ i ≤ r.2.1.length ∧ Below w6.heap.size w6 wr) (fun v14 _ => r.2.1.length - (intOf v14).toNat)
        case atStart => exact ⟨0, rfl, Nat.zero_le _, Below.refl _ _⟩
        case round =>
          obtain ⟨i, rfl, hi, hB⟩ := hrel
          by_cases hin : i < r.2.1.length
          · obtain ⟨x, ad, hx, rfl, hc⟩ := hX2.out.ints.at hin
            have hv := hv2.out x (List.mem_of_getElem? hx)
            replace hc := (hB.cell (World.block_lt_of_cell? w6 _ ((hW2.out.cell (World.block_lt_of_cell? w2 _ hc)).trans hc))).trans ((hW2.out.cell (World.block_lt_of_cell? w2 _ hc)).trans hc)
            have hsk := Lib.hid (fun W => skIn_c x 0 9999 W)
            rw [show (decide (0 ≤ x) && decide (x ≤ 9999)) = true by simp; exact hv] at hsk
            replace hx := Lib.hid hx
            have hlt : (i : Int) < r.2.1.length := by omega
            clear hv
            go_wp2_with fail
            refine (hsk.out _).mono ?_
            rintro e w7 ⟨rfl, rfl⟩
            go_wp2_with fail
            go_roundw
            case rel => exact ⟨i + 1, by simp, by omega, hB⟩
            case measure => simp [intOf]; omega
          · have hlt : ¬ (i : Int) < r.2.1.length := by omega
            have hO := Lib.hid (hO.out.below hB)
            clear k0 k1 k2 hl0 hl1 hl2
            have k0 := fun o => blk_cell hO.g0 o
            have hl0 := (Array.getElem?_eq_some_iff.1 hO.g0).1
            have k1 := fun o => blk_cell hO.g1 o
            have hl1 := (Array.getElem?_eq_some_iff.1 hO.g1).1
            have k2 := fun o => blk_cell hO.g2 o
            have hl2 := (Array.getElem?_eq_some_iff.1 hO.g2).1
            replace hW2 := Lib.hid (below_then hW2.out hW2.out.size hB)
            replace hW3 := Lib.hid (below_then hW3.out hW3.out.size hB)
            clear hB
            go_wp2_with fail
            have hPO := partOk_c r.1 _ _ _ _ _ _ _ _ _ wr ((hP2.out.below hW2.out).S hpl2)
            rw [hk2] at hPO
            refine hPO.mono ?_
            rintro e w7 ⟨rfl, hB4⟩
            have hO := Lib.hid (hO.out.below hB4)
            clear k0 k1 k2 hl0 hl1 hl2
            have k0 := fun o => blk_cell hO.g0 o
            have hl0 := (Array.getElem?_eq_some_iff.1 hO.g0).1
            have k1 := fun o => blk_cell hO.g1 o
            have hl1 := (Array.getElem?_eq_some_iff.1 hO.g1).1
            have k2 := fun o => blk_cell hO.g2 o
            have hl2 := (Array.getElem?_eq_some_iff.1 hO.g2).1
            replace hW2 := Lib.hid (below_then hW2.out hW2.out.size hB4)
            have hW1 := hO.out.1
            clear hB4
            go_wp2_with fail
            refine (skProg_c r.1.prog _ _ g1 f1 _ (hP2.out.below hW2.out).prog (by rw [hpr.out]; exact (hP.out.below hW1).prog)).mono ?_
            rintro e w8 ⟨rfl, hB4⟩
            have hO := Lib.hid (hO.out.below hB4)
            clear k0 k1 k2 hl0 hl1 hl2
            have k0 := fun o => blk_cell hO.g0 o
            have hl0 := (Array.getElem?_eq_some_iff.1 hO.g0).1
            have k1 := fun o => blk_cell hO.g1 o
            have hl1 := (Array.getElem?_eq_some_iff.1 hO.g1).1
            have k2 := fun o => blk_cell hO.g2 o
            have hl2 := (Array.getElem?_eq_some_iff.1 hO.g2).1
            replace hW2 := Lib.hid (below_then hW2.out hW2.out.size hB4)
            replace hW1 := hO.out.1
            clear hB4
            go_wp2_with fail
            skip
            go_ret
            exact ⟨rfl, hB1.out.trans (hO.out.1.mono hB1.out.size)⟩
      · have hrr := Lib.hid (hfl.out hf)
        have hon0 : r.2.2.2 = false := by rw [hrr.out]
        have e1 := Lib.hid (show r.1 = pt by rw [hrr.out])
        have e2 := Lib.hid (show r.2.1 = xs by rw [hrr.out])
        go_wp2_with fail
        go_loopw [14] (fun v14 wr => ∃ i : Nat, v14 = .int .i64 i ∧ i ≤ r.2.1.length ∧ Below w6.heap.size w6 wr) (fun v14 _ => r.2.1.length - (intOf v14).toNat)
        case atStart => exact ⟨0, rfl, Nat.zero_le _, Below.refl _ _⟩
        case round =>
          obtain ⟨i, rfl, hi, hB⟩ := hrel
          by_cases hin : i < r.2.1.length
          · obtain ⟨x, ad, hx, rfl, hc⟩ := hX2.out.ints.at hin
            have hv := hv2.out x (List.mem_of_getElem? hx)
            replace hc := (hB.cell (World.block_lt_of_cell? w6 _ ((hW2.out.cell (World.block_lt_of_cell? w2 _ hc)).trans hc))).trans ((hW2.out.cell (World.block_lt_of_cell? w2 _ hc)).trans hc)
            have hsk := Lib.hid (fun W => skIn_c x 0 9999 W)
            rw [show (decide (0 ≤ x) && decide (x ≤ 9999)) = true by simp; exact hv] at hsk
            replace hx := Lib.hid hx
            have hlt : (i : Int) < r.2.1.length := by omega
            clear hv
            go_wp2_with fail
            refine (hsk.out _).mono ?_
            rintro e w7 ⟨rfl, rfl⟩
            go_wp2_with fail
            go_roundw
            case rel => exact ⟨i + 1, by simp, by omega, hB⟩
            case measure => simp [intOf]; omega
          · have hlt : ¬ (i : Int) < r.2.1.length := by omega
            have hO := Lib.hid (hO.out.below hB)
            clear k0 k1 k2 hl0 hl1 hl2
            have k0 := fun o => blk_cell hO.g0 o
            have hl0 := (Array.getElem?_eq_some_iff.1 hO.g0).1
            have k1 := fun o => blk_cell hO.g1 o
            have hl1 := (Array.getElem?_eq_some_iff.1 hO.g1).1
            have k2 := fun o => blk_cell hO.g2 o
            have hl2 := (Array.getElem?_eq_some_iff.1 hO.g2).1
            replace hW2 := Lib.hid (below_then hW2.out hW2.out.size hB)
            replace hW3 := Lib.hid (below_then hW3.out hW3.out.size hB)
            clear hB
            go_wp2_with fail
            have hPO := partOk_c r.1 _ _ _ _ _ _ _ _ _ wr ((hP2.out.below hW2.out).S hpl2)
            rw [hk2] at hPO
            refine hPO.mono ?_
            rintro e w7 ⟨rfl, hB4⟩
            have hO := Lib.hid (hO.out.below hB4)
            clear k0 k1 k2 hl0 hl1 hl2
            have k0 := fun o => blk_cell hO.g0 o
            have hl0 := (Array.getElem?_eq_some_iff.1 hO.g0).1
            have k1 := fun o => blk_cell hO.g1 o
            have hl1 := (Array.getElem?_eq_some_iff.1 hO.g1).1
            have k2 := fun o => blk_cell hO.g2 o
            have hl2 := (Array.getElem?_eq_some_iff.1 hO.g2).1
            replace hW2 := Lib.hid (below_then hW2.out hW2.out.size hB4)
            have hW1 := hO.out.1
            clear hB4
            go_wp2_with fail
            refine (skProg_c r.1.prog _ _ g1 f1 _ (hP2.out.below hW2.out).prog (by rw [hpr.out]; exact (hP.out.below hW1).prog)).mono ?_
            rintro e w8 ⟨rfl, hB4⟩
            have hO := Lib.hid (hO.out.below hB4)
            clear k0 k1 k2 hl0 hl1 hl2
            have k0 := fun o => blk_cell hO.g0 o
            have hl0 := (Array.getElem?_eq_some_iff.1 hO.g0).1
            have k1 := fun o => blk_cell hO.g1 o
            have hl1 := (Array.getElem?_eq_some_iff.1 hO.g1).1
            have k2 := fun o => blk_cell hO.g2 o
            have hl2 := (Array.getElem?_eq_some_iff.1 hO.g2).1
            replace hW2 := Lib.hid (below_then hW2.out hW2.out.size hB4)
            replace hW1 := hO.out.1
            clear hB4
            go_wp2_with fail
            skip
            refine (skPart_e r.1 pt true e1.out hf _ _ _ _ _ _ g1 g2 g3 f1 f2 f3 _ (hP2.out.below hW2.out) (hP.out.below hW1)).mono ?_
            rintro e w9 ⟨rfl, hB4⟩
            have hO := Lib.hid (hO.out.below hB4)
            clear k0 k1 k2 hl0 hl1 hl2
            have k0 := fun o => blk_cell hO.g0 o
            have hl0 := (Array.getElem?_eq_some_iff.1 hO.g0).1
            have k1 := fun o => blk_cell hO.g1 o
            have hl1 := (Array.getElem?_eq_some_iff.1 hO.g1).1
            have k2 := fun o => blk_cell hO.g2 o
            have hl2 := (Array.getElem?_eq_some_iff.1 hO.g2).1
            replace hW2 := Lib.hid (below_then hW2.out hW2.out.size hB4)
            replace hW1 := hO.out.1
            clear hB4
            go_wp2_with fail
            refine (skInts_e r.2.1 xs e2.out _ _ g4 f4 _ (hX2.out.below hW2.out) (hX.out.below hW1)).mono ?_
            rintro e w10 ⟨rfl, hB4⟩
            have hO := Lib.hid (hO.out.below hB4)
            clear k0 k1 k2 hl0 hl1 hl2
            have k0 := fun o => blk_cell hO.g0 o
            have hl0 := (Array.getElem?_eq_some_iff.1 hO.g0).1
            have k1 := fun o => blk_cell hO.g1 o
            have hl1 := (Array.getElem?_eq_some_iff.1 hO.g1).1
            have k2 := fun o => blk_cell hO.g2 o
            have hl2 := (Array.getElem?_eq_some_iff.1 hO.g2).1
            clear hB4
            go_wp2_with fail
            go_ret
            exact ⟨rfl, hB1.out.trans (hO.out.1.mono hB1.out.size)⟩
end Go.Proofs.Ytkphkkfgphhjcaa
