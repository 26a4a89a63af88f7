/- The law FnPartRun, walked. -/
import Derived.Test.YtkphkkfgphhjcaaU2
namespace Go.Proofs.Ytkphkkfgphhjcaa
open Go.RowKit
set_option linter.unusedSimpArgs false
set_option linter.unusedVariables false

/-- Where the law's own loop stands. -/
structure LW (now : Int) (R : Pt × List Int × List Sd) (w : World) (k : Nat) (v14 v15 : Value) (pt : Pt) (ys : List Int) (sd : List Sd) (u1 u2 u3 : Value) (f1 f2 f3 f4 : List Nat) (wr : World) : Prop where
  box : wr.heap[w.heap.size]? = some (.cells #[u1, u2, .int .i64 pt.pc, .bool pt.fails, u3] 26 (0, 0))
  hpt : PtF wr pt u1 u2 u3 f1 f2 f3
  ports : SL kI wr v14 ys f4
  said : wr.ownsRow (w.heap.size + 1) 76 2 v15 sd.length (sd.flatMap encS)
  ne : ∀ b ∈ f1 ++ (f2 ++ (f3 ++ f4)), b ≠ w.heap.size ∧ v15.ownBlock ≠ some b
  ok : runOk pt now ys = true
  run : itF now k pt ys sd = R
  len : sd.length + k ≤ 10000
  below : Below w.heap.size w wr
  size : w.heap.size + 1 ≤ wr.heap.size
theorem LW.fin {now : Int} {R : Pt × List Int × List Sd} {w : World} {v14 v15 : Value} {pt : Pt} {ys : List Int} {sd : List Sd} {u1 u2 u3 : Value} {f1 f2 f3 f4 : List Nat} {wr : World} (h : LW now R w 0 v14 v15 pt ys sd u1 u2 u3 f1 f2 f3 f4 wr) : R.1 = pt ∧ R.2.1 = ys ∧ R.2.2 = sd := by
  have := h.run
  unfold itF at this
  rw [← this]
  exact ⟨rfl, rfl, rfl⟩
theorem LW.next {now : Int} {R : Pt × List Int × List Sd} {w : World} {k : Nat} {v14 v15 : Value} {pt : Pt} {ys : List Int} {sd : List Sd} {u1 u2 u3 : Value} {f1 f2 f3 f4 : List Nat} {wr : World} (hL : LW now R w (k + 1) v14 v15 pt ys sd u1 u2 u3 f1 f2 f3 f4 wr) {w5 w6 w7 : World} {q1 q2 q3 q4 : Value} {r : Pt × List Int × List Sd × Bool} (hr : r = PStep pt now ys) {g1 g2 g3 g4 g5 : List Nat} (hp5 : PtF w5 r.1 q1 q2 q3 g1 g2 g3) (hx5 : SL kI w5 q4 r.2.1 g4) (ho5 : Own w5 wr.heap.size w5.heap.size (g1 ++ (g2 ++ (g3 ++ (g4 ++ g5))))) (hB5 : Below wr.heap.size wr w5)
    (h6 : ∀ b, b ≠ w.heap.size → b < w5.heap.size → w6.heap[b]? = w5.heap[b]?) (hB6 : Below w.heap.size w5 w6) (h6b : w6.heap[w.heap.size]? = some (.cells #[q1, q2, .int .i64 r.1.pc, .bool r.1.fails, q3] 26 (0, 0))) {v7 : Value} (h7 : w7.ownsRow (w.heap.size + 1) 76 2 v7 (sd ++ r.2.2.1).length ((sd ++ r.2.2.1).flatMap encS)) (h7g : w6.grownBy w7 v15.ownBlock) (h7b : v7.ownBlock = v15.ownBlock ∨ v7.ownBlock = some w6.heap.size) :
    LW now R w (if r.2.2.2 = true then k else 0) q4 v7 r.1 r.2.1 (sd ++ r.2.2.1) q1 q2 q3 g1 g2 g3 g4 w7 := by
  have hz5 := hB5.size
  have hz6 := hB6.size
  have hz7 := h7g.size
  have hsz := hL.size
  have hrow := fun k hk => hL.said.lt k hk
  have hsub : ∀ b ∈ g1 ++ (g2 ++ (g3 ++ g4)), wr.heap.size ≤ b ∧ b < w5.heap.size := fun b hb => (ho5.2 b (by simp only [List.mem_append] at hb ⊢; rcases hb with h | h | h | h <;> simp [h])).1
  have hk : ∀ b ∈ g1 ++ (g2 ++ (g3 ++ g4)), w7.heap[b]? = w5.heap[b]? := fun b hb => by
    obtain ⟨h1, h2⟩ := hsub b hb
    rw [h7g.block b (by omega) (fun e => by have := hrow _ e.symm; omega), h6 b (by omega) h2]
  have hps := pstep_ok hL.ok
  rw [← hr] at hps
  refine ⟨?_, hp5.keep (fun b hb => hk b (by simp only [List.mem_append] at hb ⊢; rcases hb with h | h | h <;> simp [h])), hx5.keep (fun b hb => hk b (by simp [hb])), h7, fun b hb => ?_, hps.ok, ?_, ?_, ?_, by omega⟩
  · rw [h7g.block _ (by omega) (fun e => by have := hrow _ e.symm; omega)]
    exact h6b
  · obtain ⟨h1, h2⟩ := hsub b hb
    refine ⟨by omega, fun e => ?_⟩
    rcases h7b with h | h
    · have := hrow b (h.symm.trans e)
      omega
    · rw [e] at h
      injection h with h
      omega
  · have h1 := hL.run
    unfold itF at h1
    rw [← hr] at h1
    split at h1
    · rename_i hg
      rw [if_pos hg]
      exact h1
    · rename_i hg
      rw [if_neg hg]
      exact h1
  · have h1 := hps.said
    have h2 := hL.len
    rw [List.length_append]
    split <;> omega
  · exact ((below_then hL.below hL.below.size hB5).trans hB6).grown h7g (by have := hL.below.size; omega) (fun k hk => by have := hrow k hk; omega)
theorem said7 {w wr w5 w6 : World} {v15 : Value} {sd : List Sd} (hs : wr.ownsRow (w.heap.size + 1) 76 2 v15 sd.length (sd.flatMap encS)) (hB5 : Below wr.heap.size wr w5) (h6 : ∀ b, b ≠ w.heap.size → b < w5.heap.size → w6.heap[b]? = w5.heap[b]?) : w6.ownsRow (w.heap.size + 1) 76 2 v15 sd.length (sd.flatMap encS) := by
  refine ownsRow_keep hs (fun b hb => ?_)
  have hb' : v15.ownBlock = some b := by simpa using hb
  obtain ⟨h1, h2⟩ := hs.lt b hb'
  have := hB5.size
  rw [h6 b (by omega) (by omega)]
  exact hB5.block b h2
theorem StepR.get2 {w w' : World} {p : Pt} {xs : List Int} {sd : List Sd} {b : Bool} {e : Ending} (h : StepR w p xs sd b e w') : ∃ A1 c1 A2 c2 A3 c3 A4 c4 A5 c5 f1 f2 f3 f4 f5, e = .returned (.tuple #[.agg #[.slice A1 p.prog.length c1, .slice A2 p.cells.length c2, .int .i64 p.pc, .bool p.fails, .slice A3 p.box.length c3], .slice A4 xs.length c4, .slice A5 sd.length c5, .bool b]) ∧ PtF w' p (.slice A1 p.prog.length c1) (.slice A2 p.cells.length c2) (.slice A3 p.box.length c3) f1 f2 f3 ∧ SL kI w' (.slice A4 xs.length c4) xs f4 ∧ SL kSd w' (.slice A5 sd.length c5) sd f5 ∧ Own w' w.heap.size w'.heap.size (f1 ++ (f2 ++ (f3 ++ (f4 ++ f5)))) ∧ Below w.heap.size w w' := by
  obtain ⟨A1, c1, A2, c2, A3, c3, A4, c4, A5, c5, rfl, hR, hB⟩ := h
  obtain ⟨f1, f2, f3, f4, f5, h1, h2, h3, h4⟩ := hR.get
  exact ⟨A1, c1, A2, c2, A3, c3, A4, c4, A5, c5, f1, f2, f3, f4, f5, rfl, h1, h2, h3, h4, hB⟩
/-- What the law of running wants. -/
theorem run_pure {pt : Pt} {now most : Int} {xs : List Int} {r : Pt × List Int × List Sd} (hr : r = PRun pt now xs most) (hz : r.1.prog.length ≠ 0) : runOk pt now xs = true ∧ (0 ≤ most ∧ most ≤ 9999) ∧ itF now most.toNat pt xs [] = r ∧ (r.2.2.length : Int) ≤ most ∧ (most = 0 → r = (pt, xs, [])) := by
  subst hr
  obtain ⟨h1, h2, h3⟩ := prun_is hz
  obtain ⟨m0, m1⟩ := inR_iff.1 h2
  have hk := (runF_ok most.toNat (sd := []) h1).said
  rw [h3]
  refine ⟨h1, ⟨m0, m1⟩, itF_eq _ h1, by simp at hk; omega, fun e => ?_⟩
  subst e
  rfl
set_option maxHeartbeats 1000000
set_option maxRecDepth 100000
theorem law_partRun (w : World) (A : Option Addr) (n c : Nat) (h : Code_ w A n c) : Calls Try.prog 6 #[.slice A n c] w (Ret w (.bool true)) := by
  have hC := Lib.hid h
  have hn9 := h.2.1.2
  clear h
  by_cases hlong : n > 1048576
  · have hl : (1048576 : Int) < n := by omega
    go_enter Try.func6, Try.ntmps6
    go_wp2_with fail
    go_ret
    exact ⟨rfl, (by repeat (first | (with_reducible exact Below.refl _ _) | (with_reducible assumption) | (with_reducible refine Below.drew ?_) | (with_reducible refine below_drewN' ?_ _) | (with_reducible refine Below.setCell ?_ (by first | (simp; done) | (simp; omega) | omega) _) | (with_reducible refine Below.alloc ?_ (by first | (simp; done) | (simp; omega) | omega) _) | (with_reducible refine Below.trans ?_ (Below.mono (by assumption) (by first | (simp; done) | (simp; omega) | omega)))))⟩
  · have hl : ¬ (1048576 : Int) < n := by omega
    go_enter Try.func6, Try.ntmps6
    go_wp2_with fail
    refine (drawRun_d w A n c hC.out).mono ?_
    rintro e w1 ⟨v1, v2, v3, v4, pt, now, xs, most, rfl, f1, f2, f3, f4, hP, hX, hpl, hxl, hxv, hB1⟩
    obtain ⟨A1, c1, rfl, _⟩ := hP.prog.form
    obtain ⟨A2, c2, rfl, _⟩ := hP.cells.form
    obtain ⟨A3, c3, rfl, _⟩ := hP.box.form
    obtain ⟨A4, c4, rfl, _⟩ := hX.form
    have hO := Lib.hid ((OwnL.nil w1).put (.cells #[.slice A1 pt.prog.length c1, .slice A2 pt.cells.length c2, .int .i64 pt.pc, .bool pt.fails, .slice A3 pt.box.length c3] 26))
    replace hP := Lib.hid hP
    replace hX := Lib.hid hX
    replace hxv := Lib.hid hxv
    replace hB1 := Lib.hid hB1
    clear hC hl hlong
    have k0 := fun o => blk_cell hO.g0 o
    have hl0 := (Array.getElem?_eq_some_iff.1 hO.g0).1
    go_wp2_with fail
    refine (partRun_c pt now xs most _ _ _ _ f1 f2 f3 f4 _ (hP.out.below hO.out.1) (hX.out.below hO.out.1) (by omega)).mono ?_
    intro e w2 hq
    have hst := lpartRun_c pt now xs most (.slice A1 pt.prog.length c1) (.slice A2 pt.cells.length c2) (.slice A3 pt.box.length c3) (.slice A4 xs.length c4) f1 f2 f3 f4
    obtain ⟨r, hr⟩ : ∃ r, r = PRun pt now xs most := ⟨_, rfl⟩
    rw [← hr] at hst hq
    replace hr := Lib.hid hr
    replace hst := Lib.hid hst
    obtain ⟨B1, b1, B2, b2, B3, b3, B4, b4, B5, b5, g1, g2, g3, g4, g5, rfl, hP2, hX2, hS2, hB2⟩ := hq.get
    clear hq
    have hO := Lib.hid (hO.out.below hB2)
    clear k0 hl0
    have k0 := fun o => blk_cell hO.g0 o
    have hl0 := (Array.getElem?_eq_some_iff.1 hO.g0).1
    have hO := Lib.hid (hO.out.put (.cells #[.slice B1 r.1.prog.length b1, .slice B2 r.1.cells.length b2, .int .i64 r.1.pc, .bool r.1.fails, .slice B3 r.1.box.length b3] 26))
    clear k0 hl0
    have k0 := fun o => blk_cell hO.g0 o
    have hl0 := (Array.getElem?_eq_some_iff.1 hO.g0).1
    have k1 := fun o => blk_cell hO.g1 o
    have hl1 := (Array.getElem?_eq_some_iff.1 hO.g1).1
    have hW2 := Lib.hid (Below.refl w2.heap.size w2)
    replace hP2 := Lib.hid hP2
    replace hX2 := Lib.hid hX2
    replace hS2 := Lib.hid hS2
    clear hB2
    go_wp2_with fail
    refine (hst.out _ (hP.out.below hO.out.1) (hX.out.below hO.out.1) (by omega)).mono ?_
    intro e w3 hq
    obtain ⟨D1, d1, D2, d2, D3, d3, D4, d4, D5, d5, h1, h2, h3, h4, h5, rfl, hP3, hX3, hS3, hB3⟩ := hq.get
    clear hq hst
    have hO := Lib.hid (hO.out.below hB3)
    clear k0 k1 hl0 hl1
    have k0 := fun o => blk_cell hO.g0 o
    have hl0 := (Array.getElem?_eq_some_iff.1 hO.g0).1
    have k1 := fun o => blk_cell hO.g1 o
    have hl1 := (Array.getElem?_eq_some_iff.1 hO.g1).1
    have hO := Lib.hid (hO.out.put (.cells #[.slice D1 r.1.prog.length d1, .slice D2 r.1.cells.length d2, .int .i64 r.1.pc, .bool r.1.fails, .slice D3 r.1.box.length d3] 26))
    clear k0 k1 hl0 hl1
    have k0 := fun o => blk_cell hO.g0 o
    have hl0 := (Array.getElem?_eq_some_iff.1 hO.g0).1
    have k1 := fun o => blk_cell hO.g1 o
    have hl1 := (Array.getElem?_eq_some_iff.1 hO.g1).1
    have k2 := fun o => blk_cell hO.g2 o
    have hl2 := (Array.getElem?_eq_some_iff.1 hO.g2).1
    have hW2 := Lib.hid (((hW2.out.alloc (Nat.le_refl _) _).trans (hB3.mono (by simp))).alloc (by have := hB3.size; simp at this; omega) (.cells #[.slice D1 r.1.prog.length d1, .slice D2 r.1.cells.length d2, .int .i64 r.1.pc, .bool r.1.fails, .slice D3 r.1.box.length d3] 26))
    have hW3 := Lib.hid ((Below.refl w3.heap.size w3).alloc (Nat.le_refl _) (.cells #[.slice D1 r.1.prog.length d1, .slice D2 r.1.cells.length d2, .int .i64 r.1.pc, .bool r.1.fails, .slice D3 r.1.box.length d3] 26))
    replace hP3 := Lib.hid hP3
    replace hX3 := Lib.hid hX3
    replace hS3 := Lib.hid hS3
    clear hB3
    go_wp2_with fail
    refine (skPart_c r.1 _ _ _ _ _ _ g1 g2 g3 h1 h2 h3 _ (hP2.out.below hW2.out) (hP3.out.below hW3.out)).mono ?_
    rintro e w4 ⟨rfl, hB4⟩
    have hO := Lib.hid (hO.out.below hB4)
    clear k0 k1 k2 hl0 hl1 hl2
    have k0 := fun o => blk_cell hO.g0 o
    have hl0 := (Array.getElem?_eq_some_iff.1 hO.g0).1
    have k1 := fun o => blk_cell hO.g1 o
    have hl1 := (Array.getElem?_eq_some_iff.1 hO.g1).1
    have k2 := fun o => blk_cell hO.g2 o
    have hl2 := (Array.getElem?_eq_some_iff.1 hO.g2).1
    replace hW2 := Lib.hid (below_then hW2.out hW2.out.size hB4)
    replace hW3 := Lib.hid (below_then hW3.out hW3.out.size hB4)
    clear hB4
    go_wp2_with fail
    refine (skInts_c r.2.1 _ _ g4 h4 _ (hX2.out.below hW2.out) (hX3.out.below hW3.out)).mono ?_
    rintro e w4 ⟨rfl, hB4⟩
    have hO := Lib.hid (hO.out.below hB4)
    clear k0 k1 k2 hl0 hl1 hl2
    have k0 := fun o => blk_cell hO.g0 o
    have hl0 := (Array.getElem?_eq_some_iff.1 hO.g0).1
    have k1 := fun o => blk_cell hO.g1 o
    have hl1 := (Array.getElem?_eq_some_iff.1 hO.g1).1
    have k2 := fun o => blk_cell hO.g2 o
    have hl2 := (Array.getElem?_eq_some_iff.1 hO.g2).1
    replace hW2 := Lib.hid (below_then hW2.out hW2.out.size hB4)
    replace hW3 := Lib.hid (below_then hW3.out hW3.out.size hB4)
    clear hB4
    go_wp2_with fail
    refine (skSaid_c r.2.2 _ _ g5 h5 _ (hS2.out.below hW2.out) (hS3.out.below hW3.out)).mono ?_
    rintro e w4 ⟨rfl, hB4⟩
    have hO := Lib.hid (hO.out.below hB4)
    clear k0 k1 k2 hl0 hl1 hl2
    have k0 := fun o => blk_cell hO.g0 o
    have hl0 := (Array.getElem?_eq_some_iff.1 hO.g0).1
    have k1 := fun o => blk_cell hO.g1 o
    have hl1 := (Array.getElem?_eq_some_iff.1 hO.g1).1
    have k2 := fun o => blk_cell hO.g2 o
    have hl2 := (Array.getElem?_eq_some_iff.1 hO.g2).1
    replace hW2 := Lib.hid (below_then hW2.out hW2.out.size hB4)
    replace hW3 := Lib.hid (below_then hW3.out hW3.out.size hB4)
    clear hB4
    by_cases hz : r.1.prog.length = 0
    · have hz' : ((r.1.prog.length : Int) == 0) = true := by rw [hz]; rfl
      replace hz := Lib.hid hz
      go_wp2_with fail
      refine (skPart_c r.1 _ _ _ _ _ _ g1 g2 g3 h1 h2 h3 _ (hP2.out.below hW2.out) (hP3.out.below hW3.out)).mono ?_
      rintro e w4 ⟨rfl, hB4⟩
      have hO := Lib.hid (hO.out.below hB4)
      clear k0 k1 k2 hl0 hl1 hl2
      have k0 := fun o => blk_cell hO.g0 o
      have hl0 := (Array.getElem?_eq_some_iff.1 hO.g0).1
      have k1 := fun o => blk_cell hO.g1 o
      have hl1 := (Array.getElem?_eq_some_iff.1 hO.g1).1
      have k2 := fun o => blk_cell hO.g2 o
      have hl2 := (Array.getElem?_eq_some_iff.1 hO.g2).1
      replace hW2 := Lib.hid (below_then hW2.out hW2.out.size hB4)
      replace hW3 := Lib.hid (below_then hW3.out hW3.out.size hB4)
      clear hB4
      go_wp2_with fail
      refine (skInts_c r.2.1 _ _ g4 h4 _ (hX2.out.below hW2.out) (hX3.out.below hW3.out)).mono ?_
      rintro e w4 ⟨rfl, hB4⟩
      have hO := Lib.hid (hO.out.below hB4)
      clear k0 k1 k2 hl0 hl1 hl2
      have k0 := fun o => blk_cell hO.g0 o
      have hl0 := (Array.getElem?_eq_some_iff.1 hO.g0).1
      have k1 := fun o => blk_cell hO.g1 o
      have hl1 := (Array.getElem?_eq_some_iff.1 hO.g1).1
      have k2 := fun o => blk_cell hO.g2 o
      have hl2 := (Array.getElem?_eq_some_iff.1 hO.g2).1
      replace hW2 := Lib.hid (below_then hW2.out hW2.out.size hB4)
      replace hW3 := Lib.hid (below_then hW3.out hW3.out.size hB4)
      clear hB4
      go_wp2_with fail
      refine (skSaid_c r.2.2 _ _ g5 h5 _ (hS2.out.below hW2.out) (hS3.out.below hW3.out)).mono ?_
      rintro e w4 ⟨rfl, hB4⟩
      have hO := Lib.hid (hO.out.below hB4)
      clear k0 k1 k2 hl0 hl1 hl2
      have k0 := fun o => blk_cell hO.g0 o
      have hl0 := (Array.getElem?_eq_some_iff.1 hO.g0).1
      have k1 := fun o => blk_cell hO.g1 o
      have hl1 := (Array.getElem?_eq_some_iff.1 hO.g1).1
      have k2 := fun o => blk_cell hO.g2 o
      have hl2 := (Array.getElem?_eq_some_iff.1 hO.g2).1
      replace hW2 := Lib.hid (below_then hW2.out hW2.out.size hB4)
      replace hW3 := Lib.hid (below_then hW3.out hW3.out.size hB4)
      clear hB4
      go_wp2_with fail
      go_ret
      exact ⟨rfl, hB1.out.trans (hO.out.1.mono hB1.out.size)⟩
    · have hz' : ((r.1.prog.length : Int) == 0) = false := beq_eq_false_iff_ne.2 (by omega)
      obtain ⟨hok, ⟨m0, m1⟩, q1, q2, q3⟩ := run_pure hr.out hz
      replace q1 := Lib.hid q1
      replace q3 := Lib.hid q3
      have hStart : LW now r w4 most.toNat (.slice A4 xs.length c4) (.slice (some ⟨w4.heap.size + 1, 0, none⟩) 0 0) pt xs [] (.slice A1 pt.prog.length c1) (.slice A2 pt.cells.length c2) (.slice A3 pt.box.length c3) f1 f2 f3 f4 ((w4.alloc (.cells #[.slice A1 pt.prog.length c1, .slice A2 pt.cells.length c2, .int .i64 pt.pc, .bool pt.fails, .slice A3 pt.box.length c3] 26)).alloc (.cells #[] 76)) := by
        have hb : Below w4.heap.size w4 ((w4.alloc (.cells #[.slice A1 pt.prog.length c1, .slice A2 pt.cells.length c2, .int .i64 pt.pc, .bool pt.fails, .slice A3 pt.box.length c3] 26)).alloc (.cells #[] 76)) := (by repeat (first | (with_reducible exact Below.refl _ _) | (with_reducible assumption) | (with_reducible refine Below.drew ?_) | (with_reducible refine below_drewN' ?_ _) | (with_reducible refine Below.setCell ?_ (by first | (simp; done) | (simp; omega) | omega) _) | (with_reducible refine Below.alloc ?_ (by first | (simp; done) | (simp; omega) | omega) _) | (with_reducible refine Below.trans ?_ (Below.mono (by assumption) (by first | (simp; done) | (simp; omega) | omega)))))
        have hW1 := below_then hO.out.1 hO.out.1.size hb
        have hs1 := hO.out.1.size
        refine ⟨heap_up (heap_top _ _ rfl) _, hP.out.below hW1, hX.out.below hW1, ?_, fun b hm => ?_, hok, q1.out, by simp; omega, hb, by simp⟩
        · have := litN2 (w4.alloc (.cells #[.slice A1 pt.prog.length c1, .slice A2 pt.cells.length c2, .int .i64 pt.pc, .bool pt.fails, .slice A3 pt.box.length c3] 26)) 76 2
          simpa using this
        · have : b < w1.heap.size := by
            simp only [List.mem_append] at hm
            rcases hm with h | h | h | h
            · exact hP.out.prog.lt b h
            · exact hP.out.cells.lt b h
            · exact hP.out.box.lt b h
            · exact hX.out.lt b h
          exact ⟨by omega, by simp [Value.ownBlock]; omega⟩
      replace hStart := Lib.hid hStart
      clear hr hz hok q1
      go_wp2_with fail
      go_loopw [16, 14, 15] (fun v16 v14 v15 wr => ∃ (k : Nat) (pt' : Pt) (ys : List Int) (sd : List Sd) (u1 u2 u3 : Value) (f1 f2 f3 f4 : List Nat), v16 = .int .i64 (most - k) ∧ (k : Int) ≤ most ∧ Hid (LW now r w4 k v14 v15 pt' ys sd u1 u2 u3 f1 f2 f3 f4 wr)) (fun v16 _ _ _ => (most - intOf v16).toNat)
      case atStart => exact ⟨most.toNat, pt, xs, [], _, _, _, f1, f2, f3, f4, by rw [Int.toNat_of_nonneg m0]; simp, by omega, hStart⟩
      case round =>
        obtain ⟨k, pt', ys, sd, u1, u2, u3, y1, y2, y3, y4, rfl, hkm, hL⟩ := hrel
        clear hStart
        obtain ⟨Y1, s1, rfl, _⟩ := hL.out.hpt.prog.form
        obtain ⟨Y2, s2, rfl, _⟩ := hL.out.hpt.cells.form
        obtain ⟨Y3, s3, rfl, _⟩ := hL.out.hpt.box.form
        obtain ⟨Y4, s4, rfl, _⟩ := hL.out.ports.form
        have hB5' := hL.out.below.size
        have kb := blk_cell hL.out.box
        have kf := blk_frozen hL.out.box
        have hsz := hL.out.size
        have hs1 : w4.heap.size < wr.heap.size := by omega
        rcases Nat.eq_zero_or_pos k with rfl | hk
        · obtain ⟨V7, c7, rfl⟩ := own_form hL.out.said
          by_cases hm0 : most = 0
          · have hr0 := Lib.hid (q3.out hm0)
            have e1 := Lib.hid (show r.1 = pt by rw [hr0.out])
            have e3 : r.2.2.length = 0 := by rw [hr0.out]; rfl
            clear q2 hkm
            subst hm0
            have hO := Lib.hid (hO.out.below (hL).out.below); clear k0 k1 k2 hl0 hl1 hl2; have k0 := (fun o => blk_cell hO.out.g0 o); have hl0 := (Array.getElem?_eq_some_iff.1 hO.out.g0).1; have k1 := (fun o => blk_cell hO.out.g1 o); have hl1 := (Array.getElem?_eq_some_iff.1 hO.out.g1).1; have k2 := (fun o => blk_cell hO.out.g2 o); have hl2 := (Array.getElem?_eq_some_iff.1 hO.out.g2).1; have kx := blk_cell (hL).out.box; have kz := blk_frozen (hL).out.box; have hx9 := (hL).out.size
            go_wp2_with fail
            replace hW2 := Lib.hid (below_then hW2.out hW2.out.size hL.out.below)
            refine (skPart_e r.1 pt _ e1.out rfl _ _ _ _ _ _ g1 g2 g3 f1 f2 f3 _ (hP2.out.below hW2.out) (hP.out.below hO.out.1)).mono ?_
            rintro e w9 ⟨rfl, hB4⟩
            have hO := Lib.hid (hO.out.below hB4)
            clear k0 k1 k2 hl0 hl1 hl2
            have k0 := fun o => blk_cell hO.g0 o
            have hl0 := (Array.getElem?_eq_some_iff.1 hO.g0).1
            have k1 := fun o => blk_cell hO.g1 o
            have hl1 := (Array.getElem?_eq_some_iff.1 hO.g1).1
            have k2 := fun o => blk_cell hO.g2 o
            have hl2 := (Array.getElem?_eq_some_iff.1 hO.g2).1
            clear hB4
            go_wp2_with fail
            go_ret
            exact ⟨rfl, hB1.out.trans (hO.out.1.mono hB1.out.size)⟩
          · have hm1 : (most == 0) = false := beq_eq_false_iff_ne.2 hm0
            clear hkm
            have hO := Lib.hid (hO.out.below (hL).out.below); clear k0 k1 k2 hl0 hl1 hl2; have k0 := (fun o => blk_cell hO.out.g0 o); have hl0 := (Array.getElem?_eq_some_iff.1 hO.out.g0).1; have k1 := (fun o => blk_cell hO.out.g1 o); have hl1 := (Array.getElem?_eq_some_iff.1 hO.out.g1).1; have k2 := (fun o => blk_cell hO.out.g2 o); have hl2 := (Array.getElem?_eq_some_iff.1 hO.out.g2).1; have kx := blk_cell (hL).out.box; have kz := blk_frozen (hL).out.box; have hx9 := (hL).out.size
            go_wp2_with fail
            obtain ⟨e1, e2, e3⟩ := (hL).out.fin
            replace e1 := Lib.hid e1
            replace e2 := Lib.hid e2
            replace e3 := Lib.hid e3
            obtain ⟨fs, hs8, _, _⟩ := sl_of_row (enc := encS) (sz := 2) (hl := fun _ => rfl) (hL).out.said (by decide)
            (try simp only [List.length_append] at hs8)
            replace hs8 := Lib.hid hs8
            have hW7 := Lib.hid (Below.refl (wr).heap.size wr)
            replace hW2 := Lib.hid (below_then hW2.out hW2.out.size (hL).out.below)
            refine (skPart_e r.1 (pt') (pt'.fails) e1.out rfl _ _ _ _ _ _ g1 g2 g3 _ _ _ _ (hP2.out.below hW2.out) (hL).out.hpt).mono ?_
            rintro e w9 ⟨rfl, hB4⟩
            have hO := Lib.hid (hO.out.below hB4)
            clear k0 k1 k2 hl0 hl1 hl2
            have k0 := fun o => blk_cell hO.g0 o
            have hl0 := (Array.getElem?_eq_some_iff.1 hO.g0).1
            have k1 := fun o => blk_cell hO.g1 o
            have hl1 := (Array.getElem?_eq_some_iff.1 hO.g1).1
            have k2 := fun o => blk_cell hO.g2 o
            have hl2 := (Array.getElem?_eq_some_iff.1 hO.g2).1
            replace hW2 := Lib.hid (below_then hW2.out hW2.out.size hB4)
            replace hW7 := Lib.hid (below_then hW7.out hW7.out.size hB4)
            clear hB4
            go_wp2_with fail
            refine (skInts_e r.2.1 _ e2.out _ _ g4 _ _ (hX2.out.below hW2.out) ((hL).out.ports.below hW7.out)).mono ?_
            rintro e w10 ⟨rfl, hB4⟩
            have hO := Lib.hid (hO.out.below hB4)
            clear k0 k1 k2 hl0 hl1 hl2
            have k0 := fun o => blk_cell hO.g0 o
            have hl0 := (Array.getElem?_eq_some_iff.1 hO.g0).1
            have k1 := fun o => blk_cell hO.g1 o
            have hl1 := (Array.getElem?_eq_some_iff.1 hO.g1).1
            have k2 := fun o => blk_cell hO.g2 o
            have hl2 := (Array.getElem?_eq_some_iff.1 hO.g2).1
            replace hW2 := Lib.hid (below_then hW2.out hW2.out.size hB4)
            replace hW7 := Lib.hid (below_then hW7.out hW7.out.size hB4)
            clear hB4
            go_wp2_with fail
            refine (skSaid_e r.2.2 _ e3.out _ _ g5 _ _ (hS2.out.below hW2.out) (hs8.out.below hW7.out)).mono ?_
            rintro e w11 ⟨rfl, hB4⟩
            have hO := Lib.hid (hO.out.below hB4)
            clear k0 k1 k2 hl0 hl1 hl2
            have k0 := fun o => blk_cell hO.g0 o
            have hl0 := (Array.getElem?_eq_some_iff.1 hO.g0).1
            have k1 := fun o => blk_cell hO.g1 o
            have hl1 := (Array.getElem?_eq_some_iff.1 hO.g1).1
            have k2 := fun o => blk_cell hO.g2 o
            have hl2 := (Array.getElem?_eq_some_iff.1 hO.g2).1
            clear hB4
            go_wp2_with fail
            go_ret
            exact ⟨rfl, hB1.out.trans (hO.out.1.mono hB1.out.size)⟩
        · obtain ⟨k', rfl⟩ : ∃ k', k = k' + 1 := ⟨k - 1, by omega⟩
          have hm1 : (most == 0) = false := beq_eq_false_iff_ne.2 (by omega)
          have hlt : most - ((k' + 1 : Nat) : Int) < most := by omega
          have hpl3 : pt'.prog.length ≤ 10000000 := by
            have h3 : progOK pt'.prog = true := (runOk_ok hL.out.ok).prog
            simp only [progOK, Bool.and_eq_true, decide_eq_true_eq] at h3
            omega
          have hlen := hL.out.len
          go_wp2_with fail
          refine (partStep_c pt' now ys _ _ _ _ y1 y2 y3 y4 _ hL.out.hpt hL.out.ports hpl3).mono ?_
          intro e w5 hq
          obtain ⟨r', hr'⟩ : ∃ r', r' = PStep pt' now ys := ⟨_, rfl⟩
          rw [← hr'] at hq
          obtain ⟨E1, e1, E2, e2, E3, e3, E4, e4, E5, e5, t1, t2, t3, t4, t5, rfl, hP5, hX5, hS5, hO5, hB5⟩ := hq.get2
          clear hq
          have hpl := (pstep_ok hL.out.ok).said
          rw [← hr'] at hpl
          have hz5 := hB5.size
          have hbox5 := blk_below hL.out.box hB5
          have k5 := blk_cell hbox5
          have z5 := blk_frozen hbox5
          have hnx := fun (w6 w7 : World) h6 hB6 h6b v7 h7 h7g h7b => LW.next (w6 := w6) (w7 := w7) hL.out hr' hP5 hX5 hO5 hB5 h6 hB6 h6b (v7 := v7) h7 h7g h7b
          have hs9 : w4.heap.size < w5.heap.size := by omega
          have hf5 := fun b (hb : b ∈ t5) => (hO5.2 b (by simp [hb])).1.1
          obtain ⟨⟨pg, cl, pc, fl, bx⟩, ys', sd', on⟩ := r'
          simp only at E1 E2 E3 hP5 hX5 hS5 hO5 hnx hpl hf5 ⊢
          have h6 : ∀ b, b ≠ w4.heap.size → b < w5.heap.size → ((((((w5.setCell ⟨w4.heap.size, 0, none⟩ (.slice E1 pg.length e1)).setCell ⟨w4.heap.size, 1, none⟩ (.slice E2 cl.length e2)).setCell ⟨w4.heap.size, 2, none⟩ (.int .i64 pc)).setCell ⟨w4.heap.size, 3, none⟩ (.bool fl)).setCell ⟨w4.heap.size, 4, none⟩ (.slice E3 bx.length e3)).alloc (.cells #[.slice E1 pg.length e1, .slice E2 cl.length e2, .int .i64 pc, .bool fl, .slice E3 bx.length e3] 26)).heap[b]? = w5.heap[b]? := fun b hb hlt => by
            rw [Below.heap_alloc _ _ _ (by simpa using hlt), Below.heap_setCell _ _ _ _ hb, Below.heap_setCell _ _ _ _ hb, Below.heap_setCell _ _ _ _ hb, Below.heap_setCell _ _ _ _ hb, Below.heap_setCell _ _ _ _ hb]
          have hB6 : Below w4.heap.size w5 ((((((w5.setCell ⟨w4.heap.size, 0, none⟩ (.slice E1 pg.length e1)).setCell ⟨w4.heap.size, 1, none⟩ (.slice E2 cl.length e2)).setCell ⟨w4.heap.size, 2, none⟩ (.int .i64 pc)).setCell ⟨w4.heap.size, 3, none⟩ (.bool fl)).setCell ⟨w4.heap.size, 4, none⟩ (.slice E3 bx.length e3)).alloc (.cells #[.slice E1 pg.length e1, .slice E2 cl.length e2, .int .i64 pc, .bool fl, .slice E3 bx.length e3] 26)) := by
            exact (by repeat (first | (with_reducible exact Below.refl _ _) | (with_reducible assumption) | (with_reducible refine Below.drew ?_) | (with_reducible refine below_drewN' ?_ _) | (with_reducible refine Below.setCell ?_ (by first | (simp; done) | (simp; omega) | omega) _) | (with_reducible refine Below.alloc ?_ (by first | (simp; done) | (simp; omega) | omega) _) | (with_reducible refine Below.trans ?_ (Below.mono (by assumption) (by first | (simp; done) | (simp; omega) | omega)))))
          have h6b : ((((((w5.setCell ⟨w4.heap.size, 0, none⟩ (.slice E1 pg.length e1)).setCell ⟨w4.heap.size, 1, none⟩ (.slice E2 cl.length e2)).setCell ⟨w4.heap.size, 2, none⟩ (.int .i64 pc)).setCell ⟨w4.heap.size, 3, none⟩ (.bool fl)).setCell ⟨w4.heap.size, 4, none⟩ (.slice E3 bx.length e3)).alloc (.cells #[.slice E1 pg.length e1, .slice E2 cl.length e2, .int .i64 pc, .bool fl, .slice E3 bx.length e3] 26)).heap[w4.heap.size]? = some (.cells #[.slice E1 pg.length e1, .slice E2 cl.length e2, .int .i64 pc, .bool fl, .slice E3 bx.length e3] 26 (0, 0)) := heap_up (blk_put (blk_put (blk_put (blk_put (blk_put hbox5 0 _) 1 _) 2 _) 3 _) 4 _) _
          have hsd6 := said7 hL.out.said hB5 h6
          have hs56 := hS5.keep (W' := (((((w5.setCell ⟨w4.heap.size, 0, none⟩ (.slice E1 pg.length e1)).setCell ⟨w4.heap.size, 1, none⟩ (.slice E2 cl.length e2)).setCell ⟨w4.heap.size, 2, none⟩ (.int .i64 pc)).setCell ⟨w4.heap.size, 3, none⟩ (.bool fl)).setCell ⟨w4.heap.size, 4, none⟩ (.slice E3 bx.length e3)).alloc (.cells #[.slice E1 pg.length e1, .slice E2 cl.length e2, .int .i64 pc, .bool fl, .slice E3 bx.length e3] 26)) (fun b hb => h6 b (by have := hf5 b hb; omega) (hS5.lt b hb))
          have hlen6 : sd.length + sd'.length ≤ 1000000 := by omega
          have hbase6 : w4.heap.size + 1 ≤ ((((((w5.setCell ⟨w4.heap.size, 0, none⟩ (.slice E1 pg.length e1)).setCell ⟨w4.heap.size, 1, none⟩ (.slice E2 cl.length e2)).setCell ⟨w4.heap.size, 2, none⟩ (.int .i64 pc)).setCell ⟨w4.heap.size, 3, none⟩ (.bool fl)).setCell ⟨w4.heap.size, 4, none⟩ (.slice E3 bx.length e3)).alloc (.cells #[.slice E1 pg.length e1, .slice E2 cl.length e2, .int .i64 pc, .bool fl, .slice E3 bx.length e3] 26)).heap.size := by simp only [World.size_setCell, World.size_alloc]; omega
          replace hnx := Lib.hid (fun w7 v7 h7 h7g h7b => hnx _ w7 h6 hB6 h6b v7 h7 h7g h7b)
          replace hsd6 := Lib.hid hsd6
          replace hs56 := Lib.hid hs56
          clear hP5 hX5 hS5 hO5 hB5 hbox5 h6 hB6 h6b hL kb kf hr' hf5 hlen hB5'
          cases on
          · simp only [Bool.false_eq_true, if_false] at hnx
            go_wp2_with (at_builtin; refine append_said rfl (.tmp 103) (.tmp 104) rfl (w4.heap.size + 1) u15 sd E5 sd'.length e5 sd' t5 rfl rfl hsd6.out hs56.out hlen6 hbase6 ?_; intro v7 w7 b1 b2 b3; replace hnx := Lib.hid (hnx.out w7 v7 b1 b2 b3); clear b1 b2 b3 hsd6 hs56; obtain ⟨V7, c7, rfl⟩ := own_form hnx.out.said; clear k5 z5; have hO := Lib.hid (hO.out.below (hnx).out.below); clear k0 k1 k2 hl0 hl1 hl2; have k0 := (fun o => blk_cell hO.out.g0 o); have hl0 := (Array.getElem?_eq_some_iff.1 hO.out.g0).1; have k1 := (fun o => blk_cell hO.out.g1 o); have hl1 := (Array.getElem?_eq_some_iff.1 hO.out.g1).1; have k2 := (fun o => blk_cell hO.out.g2 o); have hl2 := (Array.getElem?_eq_some_iff.1 hO.out.g2).1; have kx := blk_cell (hnx).out.box; have kz := blk_frozen (hnx).out.box; have hx9 := (hnx).out.size)
            obtain ⟨e1, e2, e3⟩ := (hnx).out.fin
            replace e1 := Lib.hid e1
            replace e2 := Lib.hid e2
            replace e3 := Lib.hid e3
            obtain ⟨fs, hs8, _, _⟩ := sl_of_row (enc := encS) (sz := 2) (hl := fun _ => rfl) (hnx).out.said (by decide)
            (try simp only [List.length_append] at hs8)
            replace hs8 := Lib.hid hs8
            have hW7 := Lib.hid (Below.refl (w7).heap.size w7)
            replace hW2 := Lib.hid (below_then hW2.out hW2.out.size (hnx).out.below)
            refine (skPart_e r.1 (⟨pg, cl, pc, fl, bx⟩) (fl) e1.out rfl _ _ _ _ _ _ g1 g2 g3 _ _ _ _ (hP2.out.below hW2.out) (hnx).out.hpt).mono ?_
            rintro e w9 ⟨rfl, hB4⟩
            have hO := Lib.hid (hO.out.below hB4)
            clear k0 k1 k2 hl0 hl1 hl2
            have k0 := fun o => blk_cell hO.g0 o
            have hl0 := (Array.getElem?_eq_some_iff.1 hO.g0).1
            have k1 := fun o => blk_cell hO.g1 o
            have hl1 := (Array.getElem?_eq_some_iff.1 hO.g1).1
            have k2 := fun o => blk_cell hO.g2 o
            have hl2 := (Array.getElem?_eq_some_iff.1 hO.g2).1
            replace hW2 := Lib.hid (below_then hW2.out hW2.out.size hB4)
            replace hW7 := Lib.hid (below_then hW7.out hW7.out.size hB4)
            clear hB4
            go_wp2_with fail
            refine (skInts_e r.2.1 _ e2.out _ _ g4 _ _ (hX2.out.below hW2.out) ((hnx).out.ports.below hW7.out)).mono ?_
            rintro e w10 ⟨rfl, hB4⟩
            have hO := Lib.hid (hO.out.below hB4)
            clear k0 k1 k2 hl0 hl1 hl2
            have k0 := fun o => blk_cell hO.g0 o
            have hl0 := (Array.getElem?_eq_some_iff.1 hO.g0).1
            have k1 := fun o => blk_cell hO.g1 o
            have hl1 := (Array.getElem?_eq_some_iff.1 hO.g1).1
            have k2 := fun o => blk_cell hO.g2 o
            have hl2 := (Array.getElem?_eq_some_iff.1 hO.g2).1
            replace hW2 := Lib.hid (below_then hW2.out hW2.out.size hB4)
            replace hW7 := Lib.hid (below_then hW7.out hW7.out.size hB4)
            clear hB4
            go_wp2_with fail
            refine (skSaid_e r.2.2 _ e3.out _ _ g5 _ _ (hS2.out.below hW2.out) (hs8.out.below hW7.out)).mono ?_
            rintro e w11 ⟨rfl, hB4⟩
            have hO := Lib.hid (hO.out.below hB4)
            clear k0 k1 k2 hl0 hl1 hl2
            have k0 := fun o => blk_cell hO.g0 o
            have hl0 := (Array.getElem?_eq_some_iff.1 hO.g0).1
            have k1 := fun o => blk_cell hO.g1 o
            have hl1 := (Array.getElem?_eq_some_iff.1 hO.g1).1
            have k2 := fun o => blk_cell hO.g2 o
            have hl2 := (Array.getElem?_eq_some_iff.1 hO.g2).1
            clear hB4
            go_wp2_with fail
            go_ret
            exact ⟨rfl, hB1.out.trans (hO.out.1.mono hB1.out.size)⟩
          · simp only [if_true] at hnx
            go_wp2_with (at_builtin; refine append_said rfl (.tmp 103) (.tmp 104) rfl (w4.heap.size + 1) u15 sd E5 sd'.length e5 sd' t5 rfl rfl hsd6.out hs56.out hlen6 hbase6 ?_; intro v7 w7 b1 b2 b3; replace hnx := Lib.hid (hnx.out w7 v7 b1 b2 b3); clear b1 b2 b3 hsd6 hs56; obtain ⟨V7, c7, rfl⟩ := own_form hnx.out.said; clear k5 z5)
            exact ⟨⟨k', _, _, _, _, _, _, t1, t2, t3, t4, by congr 1; omega, by omega, by simpa using hnx⟩, by simp [intOf]; omega⟩
end Go.Proofs.Ytkphkkfgphhjcaa
