/- PartRun. -/
import Derived.Test.YtkphkkfgphhjcaaT0
namespace Go.Proofs.Ytkphkkfgphhjcaa
open Go.RowKit
set_option linter.unusedSimpArgs false
set_option linter.unusedVariables false
theorem list_len15_T1 : ∀ (l : List Value), l.length = 15 → ∃ x0 x1 x2 x3 x4 x5 x6 x7 x8 x9 x10 x11 x12 x13 x14, l = x0 :: x1 :: x2 :: x3 :: x4 :: x5 :: x6 :: x7 :: x8 :: x9 :: x10 :: x11 :: x12 :: x13 :: x14 :: []
  | x0 :: x1 :: x2 :: x3 :: x4 :: x5 :: x6 :: x7 :: x8 :: x9 :: x10 :: x11 :: x12 :: x13 :: x14 :: [], _ => ⟨x0, x1, x2, x3, x4, x5, x6, x7, x8, x9, x10, x11, x12, x13, x14, rfl⟩

def RunR (w : World) (r : Pt × List Int × List Sd) (e : Ending) (w' : World) : Prop := ∃ A1 c1 A2 c2 A3 c3 A4 c4 A5 c5, e = .returned (.tuple #[.agg #[.slice A1 r.1.prog.length c1, .slice A2 r.1.cells.length c2, .int .i64 r.1.pc, .bool r.1.fails, .slice A3 r.1.box.length c3], .slice A4 r.2.1.length c4, .slice A5 r.2.2.length c5]) ∧ Has w.heap.size w'.heap.size w' (RunN w.heap.size w'.heap.size r.1 r.2.1 r.2.2 (.slice A1 r.1.prog.length c1) (.slice A2 r.1.cells.length c2) (.slice A3 r.1.box.length c3) (.slice A4 r.2.1.length c4) (.slice A5 r.2.2.length c5)) ∧ Below w.heap.size w w'
theorem pstep_on {p : Pt} {now : Int} {xs : List Int} (h : runOk p now xs = true) (hf : p.fails = false) (ho : (PStep p now xs).2.2.2 = true) : (PStep p now xs).1.fails = false := by
  rw [pstep_run h hf] at ho ⊢
  have hm := runOk_ok h
  obtain ⟨d, a, b, hp, hop⟩ := ok_at hm
  rw [step_some hp] at ho ⊢
  cases hh : Mac.op { mac0 p now xs with jumps := false, rests := false, next := ((mac0 p now xs).p.pc + 1) % (mac0 p now xs).p.prog.length } d a b with
  | none => rw [hh] at ho; cases ho
  | some m2 =>
    have := (op_ok (m := { mac0 p now xs with jumps := false, rests := false, next := ((mac0 p now xs).p.pc + 1) % (mac0 p now xs).p.prog.length }) ⟨hm.prog, hm.pc, hm.len, hm.cells, hm.box, hm.boxv, hm.plen, hm.ports, hm.now⟩ hop hh).fails
    exact this.trans hf
/-- What a run has still to do. -/
def Still (now : Int) (k : Nat) (goes : Bool) (m : Mac) (r : Pt × List Int × List Sd) : Prop := m.Ok ∧ m.now = now ∧ m.said.length + k ≤ 10000 ∧ if goes = true then m.p.fails = false ∧ runF now k m.p m.ports m.said = r else (m.p, m.ports, m.said) = r
theorem still_next {now : Int} {k : Nat} {m : Mac} {r : Pt × List Int × List Sd} (h : Still now (k + 1) true m r) : Still now k m.step.2 m.step.1 r := by
  obtain ⟨h1, h2, h3, h4⟩ := h
  rw [if_pos rfl] at h4
  obtain ⟨h4, h5⟩ := h4
  subst h2
  have hs := step_ok h1
  obtain ⟨e1, e2, e3, e4, e5⟩ := step_said h1
  have hr := ok_runOk h1
  have hp := pstep_run hr h4
  obtain ⟨s, s1, s2⟩ := hs.said
  have hon := pstep_on hr h4
  unfold runF at h5
  rw [if_neg (by rw [h4]; exact Bool.false_ne_true), hp] at h5
  rw [hp] at hon
  simp only at h5 hon
  rw [← e1, ← e2, ← e4, ← e5] at h5
  rw [← e1, ← e5] at hon
  refine ⟨hs.ok, hs.now, by rw [s1, List.length_append]; omega, ?_⟩
  split at h5
  · rename_i hg
    rw [if_pos hg]
    exact ⟨hon hg, h5⟩
  · rename_i hg
    rw [if_neg hg]
    exact h5
theorem still_end {now : Int} {k : Nat} {goes : Bool} {m : Mac} {r : Pt × List Int × List Sd} (h : Still now k goes m r) (hk : goes = false ∨ k = 0) : r = (m.p, m.ports, m.said) := by
  obtain ⟨h1, h2, h3, h4⟩ := h
  cases goes
  · rw [if_neg Bool.false_ne_true] at h4
    exact h4.symm
  · rcases hk with hk | rfl
    · cases hk
    · rw [if_pos rfl] at h4
      exact h4.2.symm
set_option maxHeartbeats 2000000
set_option maxRecDepth 100000
theorem partRun_c (p : Pt) (now : Int) (xs : List Int) (most : Int) (v1 v2 v3 v4 : Value) (f1 f2 f3 f4 : List Nat) (w : World) (h : PtF w p v1 v2 v3 f1 f2 f3) (hx : SL kI w v4 xs f4) (hn : p.prog.length ≤ 10000000) : Calls Try.prog 19 #[.agg #[v1, v2, .int .i64 p.pc, .bool p.fails, v3], .int .i64 now, v4, .int .i64 most] w (RunR w (PRun p now xs most)) := by
  obtain ⟨A1, c1, rfl, _⟩ := h.prog.form
  obtain ⟨A2, c2, rfl, _⟩ := h.cells.form
  obtain ⟨A3, c3, rfl, _⟩ := h.box.form
  obtain ⟨A4, c4, rfl, _⟩ := hx.form
  have hq1 : w.heap.size < w.heap.size + 1 + 1 := by omega
  have hS := Lib.hid h.has
  have hX := Lib.hid hx.has
  have hw := Lib.hid (fun W => within_c most 9999 W)
  cases hr : runOk p now xs
  · have hP : PRun p now xs most = (pt0, [], []) := by unfold PRun; rw [hr]; rfl
    rw [hP]
    have hm := Lib.hid (fun W (hW : Btw 0 w.heap.size w W) => machineOf_not p now xs _ _ _ _ _ _ _ _ W (hS.out.at hW) (hX.out.at hW) hn hr)
    clear h hx hr hP
    go_enter Try.func19, Try.ntmps19
    go_wp2_with fail
    refine (hm.out _ (by repeat (first | (with_reducible exact Btw.refl _ _ _) | (with_reducible assumption) | (with_reducible refine Btw.drew ?_) | (with_reducible refine Btw.drewN ?_ _) | (with_reducible refine Btw.setCell ?_ (by first | (simp; done) | (simp; omega) | omega) _) | (with_reducible refine Btw.alloc ?_ (by first | (simp; done) | (simp; omega) | omega) _) | (with_reducible refine Btw.trans ?_ (Btw.of_below (by assumption) (by first | (simp; done) | (simp; omega) | omega)))))).mono ?_
    rintro e w1 ⟨rfl, hB1⟩
    obtain ⟨hc1, hf1⟩ := bcell hB1
    have hz1 := hB1.size
    (try simp only [World.size_alloc, World.size_setCell, World.size_drew] at hz1)
    go_wp2_with fail
    refine bodyPost_ret (v := .tuple #[.agg #[.slice none 0 0, .slice none 0 0, .int .i64 0, .bool false, .slice none 0 0], .slice none 0 0, .slice none 0 0]) (by simp [results, Try.results19, go_sem, hc1, hf1, hq1]) rfl ?_
    exact ⟨none, 0, none, 0, none, 0, none, 0, none, 0, rfl, (runN_0 _ _ _).has, (by repeat (first | (with_reducible exact Below.refl _ _) | (with_reducible assumption) | (with_reducible refine Below.drew ?_) | (with_reducible refine below_drewN' ?_ _) | (with_reducible refine Below.setCell ?_ (by first | (simp; done) | (simp; omega) | omega) _) | (with_reducible refine Below.alloc ?_ (by first | (simp; done) | (simp; omega) | omega) _) | (with_reducible refine Below.trans ?_ (Below.mono (by assumption) (by first | (simp; done) | (simp; omega) | omega)))))⟩
  · have hm := Lib.hid (fun W (hW : Btw 0 w.heap.size w W) => machineOf_c p now xs _ _ _ _ _ _ _ _ W (hS.out.at hW) (hX.out.at hW) hr)
    cases hmo : inR most 9999
    · have hP : PRun p now xs most = (pt0, [], []) := by unfold PRun; rw [hr, hmo]; rfl
      rw [hP]
      rw [hmo] at hw
      clear h hx hr hP hmo
      go_enter Try.func19, Try.ntmps19
      go_wp2_with fail
      refine (hm.out _ (by repeat (first | (with_reducible exact Btw.refl _ _ _) | (with_reducible assumption) | (with_reducible refine Btw.drew ?_) | (with_reducible refine Btw.drewN ?_ _) | (with_reducible refine Btw.setCell ?_ (by first | (simp; done) | (simp; omega) | omega) _) | (with_reducible refine Btw.alloc ?_ (by first | (simp; done) | (simp; omega) | omega) _) | (with_reducible refine Btw.trans ?_ (Btw.of_below (by assumption) (by first | (simp; done) | (simp; omega) | omega)))))).mono ?_
      rintro e w1 ⟨g, S, rfl, hM, hB1⟩
      obtain ⟨hc1, hf1⟩ := bcell hB1
      have hz1 := hB1.size
      (try simp only [World.size_alloc, World.size_setCell, World.size_drew] at hz1)
      go_wp2_with fail
      refine (hw.out _).mono ?_
      rintro e w2 ⟨rfl, rfl⟩
      go_wp2_with fail
      refine bodyPost_ret (v := .tuple #[.agg #[.slice none 0 0, .slice none 0 0, .int .i64 0, .bool false, .slice none 0 0], .slice none 0 0, .slice none 0 0]) (by simp [results, Try.results19, go_sem, hc1, hf1, hq1]) rfl ?_
      exact ⟨none, 0, none, 0, none, 0, none, 0, none, 0, rfl, (runN_0 _ _ _).has, (by repeat (first | (with_reducible exact Below.refl _ _) | (with_reducible assumption) | (with_reducible refine Below.drew ?_) | (with_reducible refine below_drewN' ?_ _) | (with_reducible refine Below.setCell ?_ (by first | (simp; done) | (simp; omega) | omega) _) | (with_reducible refine Below.alloc ?_ (by first | (simp; done) | (simp; omega) | omega) _) | (with_reducible refine Below.trans ?_ (Below.mono (by assumption) (by first | (simp; done) | (simp; omega) | omega)))))⟩
    · have hP : PRun p now xs most = runF now most.toNat p xs [] := by unfold PRun; rw [hr, hmo]; rfl
      rw [hP]
      rw [hmo] at hw
      have hmo2 := (inR_iff.1 hmo)
      obtain ⟨m0, m1⟩ := hmo2
      have hStart : Still now most.toNat (!p.fails) (mac0 p now xs) (runF now most.toNat p xs []) := by
        refine ⟨runOk_ok hr, rfl, by show 0 + most.toNat ≤ 10000; omega, ?_⟩
        cases hf : p.fails
        · exact ⟨hf, rfl⟩
        · rw [runF_fails hf]
          rfl
      obtain ⟨R, hR⟩ : ∃ R, R = runF now most.toNat p xs [] := ⟨_, rfl⟩
      rw [← hR] at hStart ⊢
      replace hStart := Lib.hid hStart
      clear h hx hr hP hmo hR
      go_enter Try.func19, Try.ntmps19
      go_wp2_with fail
      refine (hm.out _ (by repeat (first | (with_reducible exact Btw.refl _ _ _) | (with_reducible assumption) | (with_reducible refine Btw.drew ?_) | (with_reducible refine Btw.drewN ?_ _) | (with_reducible refine Btw.setCell ?_ (by first | (simp; done) | (simp; omega) | omega) _) | (with_reducible refine Btw.alloc ?_ (by first | (simp; done) | (simp; omega) | omega) _) | (with_reducible refine Btw.trans ?_ (Btw.of_below (by assumption) (by first | (simp; done) | (simp; omega) | omega)))))).mono ?_
      rintro e w1 ⟨g, S, rfl, hM, hB1⟩
      obtain ⟨hc1, hf1⟩ := bcell hB1
      have hz1 := hB1.size
      (try simp only [World.size_alloc, World.size_setCell, World.size_drew] at hz1)
      have hy1 : w.heap.size + 1 < w1.heap.size := by omega
      have hy2 : w.heap.size < w1.heap.size := by omega
      have hR1 : w1.heap[w.heap.size + 1]? = some (.cells #[.slice none 0 0, .slice none 0 0, .int .i64 0, .bool false, .slice none 0 0] 26 (0, 0)) := blk_below (heap_top _ _ (by simp)) hB1
      have hP1 : w1.heap[w.heap.size]? = some (.cells #[.slice A1 p.prog.length c1, .slice A2 p.cells.length c2, .int .i64 p.pc, .bool p.fails, .slice A3 p.box.length c3] 26 (0, 0)) := blk_below (heap_up (heap_top _ _ rfl) _) hB1
      have hB1w : Below w.heap.size w w1 := (by repeat (first | (with_reducible exact Below.refl _ _) | (with_reducible assumption) | (with_reducible refine Below.drew ?_) | (with_reducible refine below_drewN' ?_ _) | (with_reducible refine Below.setCell ?_ (by first | (simp; done) | (simp; omega) | omega) _) | (with_reducible refine Below.alloc ?_ (by first | (simp; done) | (simp; omega) | omega) _) | (with_reducible refine Below.trans ?_ (Below.mono (by assumption) (by first | (simp; done) | (simp; omega) | omega)))))
      replace hM := Lib.hid hM
      go_wp2_with fail
      refine (hw.out _).mono ?_
      rintro e w2 ⟨rfl, rfl⟩
      go_wp2_with fail
      refine (opTable_c _).mono ?_
      rintro e w2 ⟨rfl, hB2⟩
      have hz2 := hB2.size
      have hM3 := (hM.out.keep (fun b hb => hB2.block b (hM.out.own.lt b hb)) hB2.size).alloc (.cells opTbl 69)
      have hS3 := hM.out.own
      have hTS : w2.heap.size ∉ S := fun hm => by have := hS3.lt _ hm; omega
      have hSlo : ∀ b ∈ S, w.heap.size + 1 + 1 ≤ b := fun b hb => by have := (hS3.2 b hb).1.1; simpa using this
      have hR3 : (w2.alloc (.cells opTbl 69)).heap[w.heap.size + 1]? = some (.cells #[.slice none 0 0, .slice none 0 0, .int .i64 0, .bool false, .slice none 0 0] 26 (0, 0)) := heap_up (blk_below hR1 hB2) _
      have hP3 : (w2.alloc (.cells opTbl 69)).heap[w.heap.size]? = some (.cells #[.slice A1 p.prog.length c1, .slice A2 p.cells.length c2, .int .i64 p.pc, .bool p.fails, .slice A3 p.box.length c3] 26 (0, 0)) := heap_up (blk_below hP1 hB2) _
      have hB3 : Below w.heap.size w (w2.alloc (.cells opTbl 69)) := (hB1w.trans (hB2.mono (by omega))).alloc (by omega) _
      have kP := blk_cell (blk_below hP1 hB2)
      have hTT : (w2.alloc (.cells opTbl 69)).heap[w2.heap.size]? = some (.cells opTbl 69 (0, 0)) := heap_top _ _ rfl
      have hy3 : w.heap.size < w2.heap.size := by omega
      simp only [World.size_alloc] at hM3
      have hN := Lib.hid (And.intro hM3 (And.intro hTS (And.intro hSlo (And.intro hR3 (And.intro hB3 hTT)))))
      clear hc1 hf1 hM hM3 hS3 hTS hSlo hB1 hB1w hR1 hP1 hR3 hP3 hTT hB2 hB3 hm
      unfold opTbl
      go_wp2_with fail
      go_loopw [14, 3] (fun v14 v3 wr => ∃ (k : Nat) (goes : Bool) (m : Mac) (S : List Nat), v14 = .bool goes ∧ v3 = .int .i64 k ∧ Hid (Still now k goes m R) ∧ k ≤ 9999 ∧ MacR wr (w.heap.size + 1 + 1) m g S ∧ w2.heap.size ∉ S ∧ wr.heap[w2.heap.size]? = some (.cells opTbl 69 (0, 0)) ∧ (∀ b ∈ S, w.heap.size + 1 + 1 ≤ b) ∧ wr.heap[w.heap.size + 1]? = some (.cells #[.slice none 0 0, .slice none 0 0, .int .i64 0, .bool false, .slice none 0 0] 26 (0, 0)) ∧ Below w.heap.size w wr) (fun _ v3 _ => (intOf v3).toNat)
      case atStart =>
        obtain ⟨a1, a2, a3, a4, a5, a6⟩ := hN.out
        exact ⟨most.toNat, !p.fails, _, S, rfl, by rw [Int.toNat_of_nonneg m0], hStart, by omega, a1, a2, a6, a3, a4, a5⟩
      case round =>
        obtain ⟨k, goes, m, S', rfl, rfl, hSt, hk9, hM, hTS, hTT, hSlo, hZ, hB⟩ := hrel
        clear hN hStart
        by_cases hgo : goes = true ∧ 0 < k
        · obtain ⟨rfl, hk⟩ := hgo
          obtain ⟨k', rfl⟩ : ∃ k', k = k' + 1 := ⟨k - 1, by omega⟩
          have hOk := hSt.out.1
          have hsl := hSt.out.2.2.1
          have hst := Lib.hid (step_c m (w.heap.size + 1 + 1) g w2.heap.size S' wr hM hOk (by omega) hTT hTS)
          have hkk : (0 : Int) < ((k' + 1 : Nat) : Int) := by omega
          have hall := Lib.hid (And.intro hM (And.intro hTS (And.intro hTT (And.intro hSlo (And.intro hZ hB)))))
          clear hM hTS hTT hSlo hZ hB hOk
          go_wp2_with fail
          refine hst.out.mono ?_
          rintro e w5 ⟨rfl, S5, hM5, hK5, hS5⟩
          obtain ⟨a1, a2, a3, a4, a5, a6⟩ := hall.out
          have hS1 := a1.own.lt
          have hTl : w2.heap.size < wr.heap.size := (Array.getElem?_eq_some_iff.1 a3).1
          have hz5 := hK5.size
          have hr1 : w.heap.size + 1 + 1 ≤ wr.heap.size := by omega
          have hfin : MacR w5 (w.heap.size + 1 + 1) m.step.1 g S5 ∧ w2.heap.size ∉ S5 ∧ w5.heap[w2.heap.size]? = some (.cells opTbl 69 (0, 0)) ∧ (∀ b ∈ S5, w.heap.size + 1 + 1 ≤ b) ∧ w5.heap[w.heap.size + 1]? = some (.cells #[.slice none 0 0, .slice none 0 0, .int .i64 0, .bool false, .slice none 0 0] 26 (0, 0)) ∧ Below w.heap.size w w5 := by
            refine ⟨hM5, fun hm => ?_, (hK5.block _ hTl a2).trans a3, fun b hb => ?_, (hK5.block _ (by omega) (fun hm => by have := a4 _ hm; omega)).trans a5, a6.trans (hK5.below (fun b hb => by have := a4 b hb; omega) (by omega))⟩
            · rcases hS5 _ hm with h | h
              · exact a2 h
              · omega
            · rcases hS5 _ hb with h | h
              · exact a4 b h
              · omega
          replace hfin := Lib.hid hfin
          have hnx := Lib.hid (still_next hSt.out)
          clear hall hst hM5 hK5 hS5 hS1 a1 a2 a3 a4 a5 a6
          generalize m.step.2 = goes at *
          generalize m.step.1 = m5 at *
          go_wp2_with fail
          go_roundw
          case rel => exact ⟨k', goes, m5, S5, rfl, by first | rfl | (congr 1; omega), hnx, by omega, hfin.out⟩
          case measure => simp [intOf]
        · have hend : goes = false ∨ k = 0 := by
            cases goes
            · exact .inl rfl
            · exact .inr (by
                have : ¬ 0 < k := fun h => hgo ⟨rfl, h⟩
                omega)
          have hRm := still_end hSt.out hend
          subst hRm
          obtain ⟨U1, d1, U2, d2, U3, d3, U4, d4, U5, d5, g1, g2, g3, g4, g5, hF, rfl⟩ := hM
          obtain ⟨⟨pg, cl, pc, fl, bx⟩, xs', nw, sd, nx, jb, rb⟩ := m
          simp only at *
          have hmg := (hF.own.2 g (by simp)).1
          have k1 := fun o => blk_cell hF.blk o
          simp only at k1
          have hy4 : w.heap.size + 1 < wr.heap.size := by omega
          have hy5 : w.heap.size < wr.heap.size := by omega
          have hgw : w.heap.size + 1 < g := by omega
          clear hgo hSt hTS hTT hSlo hw
          have hX2 : ∀ W, (W = wr.drew ∨ W = ((((((wr).setCell ⟨w.heap.size + 1, 0, none⟩ (.slice U1 pg.length d1)).setCell ⟨w.heap.size + 1, 1, none⟩ (.slice U2 cl.length d2)).setCell ⟨w.heap.size + 1, 2, none⟩ (.int .i64 pc)).setCell ⟨w.heap.size + 1, 3, none⟩ (.bool fl)).setCell ⟨w.heap.size + 1, 4, none⟩ (.slice U3 bx.length d3)).drew) → W.heap[g]? = wr.heap[g]? := fun W hW => by
            rcases hW with rfl | rfl
            · rfl
            · show ((((((wr).setCell ⟨w.heap.size + 1, 0, none⟩ (.slice U1 pg.length d1)).setCell ⟨w.heap.size + 1, 1, none⟩ (.slice U2 cl.length d2)).setCell ⟨w.heap.size + 1, 2, none⟩ (.int .i64 pc)).setCell ⟨w.heap.size + 1, 3, none⟩ (.bool fl)).setCell ⟨w.heap.size + 1, 4, none⟩ (.slice U3 bx.length d3)).heap[g]? = _
              rw [Below.heap_setCell _ _ _ _ (by simp; omega), Below.heap_setCell _ _ _ _ (by simp; omega), Below.heap_setCell _ _ _ _ (by simp; omega), Below.heap_setCell _ _ _ _ (by simp; omega), Below.heap_setCell _ _ _ _ (by simp; omega)]
          replace hX2 := Lib.hid hX2
          have hF' := Lib.hid hF
          have kr := fun o => blk_cell hZ o
          have zr := fun o => blk_frozen hZ o
          have hk : ∀ W : World, W.heap[g]? = wr.heap[g]? → ∀ o, W.cell? ⟨g, o, none⟩ = wr.cell? ⟨g, o, none⟩ := fun W e o => by rw [blk_cell (e.trans hF'.out.blk), blk_cell hF'.out.blk]
          replace hk := Lib.hid hk
          clear hF
          have hR1 := hZ
          rcases hend with rfl | rfl
          · go_wp2_with fail
            apply region_invL (PQ := fun _ _ => False) (VV [IsV _, IsV _, IsV _, IsV _, IsV _, IsV _, IsV _, IsV _, IsV _, IsV _, IsV _, IsV _, IsV _, IsV _, IsV _]) (fun bs W => (Hid True) ∧ W = (if bs 12 = true then (((((((wr).setCell ⟨w.heap.size + 1, 0, none⟩ (.slice U1 pg.length d1)).setCell ⟨w.heap.size + 1, 1, none⟩ (.slice U2 cl.length d2)).setCell ⟨w.heap.size + 1, 2, none⟩ (.int .i64 pc)).setCell ⟨w.heap.size + 1, 3, none⟩ (.bool fl)).setCell ⟨w.heap.size + 1, 4, none⟩ (.slice U3 bx.length d3)).drew) else (wr.drew))) (fun _ _ => True) (by kernel_rfl) 55 rfl (by kernel_rfl)
            case hp =>
              exact fun _ _ _ _ h => h.elim
            case h0 =>
              exact ⟨Lib.hid trivial, by simp⟩
            case hsteps =>
              refine ⟨?_, ?_, ?_, ?_, ?_, ?_, ?_, ?_, ?_, ?_, ?_, ?_, ?_, ?_, ?_, trivial⟩
              · refine stepOKL_of _ [11] rfl (by kernel_rfl) ?_ rfl
                intro bs ρ W hbj hbn hc hf hn ho hI
                clear hn
                have s11 := ho.1
                simp only [Array.getD_eq_getD_getElem?] at s11
                clear ho
                obtain ⟨j0, _⟩ := (fun W hW => And.intro (hk.out W (hX2.out W hW)) trivial) W (pickW2 hI.2)
                have hI' := Lib.hid hI
                clear hI
                go_simp
                exact postL_mk hI'.out trivial rfl
              · refine stepOKL_of _ [] rfl (by kernel_rfl) ?_ rfl
                intro bs ρ W hbj hbn hc hf hn ho hI
                obtain ⟨u0, q0, s43⟩ := hn.1
                clear hn
                have q0 : u0 = _ := q0
                subst q0
                have s43 : ρ (.tmp 43) = _ := s43
                clear ho
                obtain ⟨j0, _⟩ := (fun W hW => And.intro (hk.out W (hX2.out W hW)) trivial) W (pickW2 hI.2)
                have hI' := Lib.hid hI
                clear hI
                go_simp
                exact postL_mk hI'.out trivial rfl
              · refine stepOKL_of _ [] rfl (by kernel_rfl) ?_ rfl
                intro bs ρ W hbj hbn hc hf hn ho hI
                obtain ⟨u1, q1, s44⟩ := hn.1
                clear hn
                have q1 : u1 = _ := q1
                subst q1
                have s44 : ρ (.tmp 44) = _ := s44
                clear ho
                obtain ⟨j0, _⟩ := (fun W hW => And.intro (hk.out W (hX2.out W hW)) trivial) W (pickW2 hI.2)
                have hI' := Lib.hid hI
                clear hI
                go_simp
                exact postL_mk hI'.out trivial rfl
              · refine stepOKL_of _ [] rfl (by kernel_rfl) ?_ rfl
                intro bs ρ W hbj hbn hc hf hn ho hI
                obtain ⟨u2, q2, s45⟩ := hn.1
                clear hn
                have q2 : u2 = _ := q2
                subst q2
                have s45 : ρ (.tmp 45) = _ := s45
                clear ho
                obtain ⟨j0, _⟩ := (fun W hW => And.intro (hk.out W (hX2.out W hW)) trivial) W (pickW2 hI.2)
                have hI' := Lib.hid hI
                clear hI
                go_simp
                exact postL_mk hI'.out trivial rfl
              · refine stepOKL_of _ [11] rfl (by kernel_rfl) ?_ rfl
                intro bs ρ W hbj hbn hc hf hn ho hI
                clear hn
                have s11 := ho.1
                simp only [Array.getD_eq_getD_getElem?] at s11
                clear ho
                obtain ⟨j0, _⟩ := (fun W hW => And.intro (hk.out W (hX2.out W hW)) trivial) W (pickW2 hI.2)
                have hI' := Lib.hid hI
                clear hI
                go_simp
                exact postL_mk hI'.out trivial rfl
              · refine stepOKL_of _ [] rfl (by kernel_rfl) ?_ rfl
                intro bs ρ W hbj hbn hc hf hn ho hI
                obtain ⟨u4, q4, s47⟩ := hn.1
                clear hn
                have q4 : u4 = _ := q4
                subst q4
                have s47 : ρ (.tmp 47) = _ := s47
                clear ho
                obtain ⟨j0, _⟩ := (fun W hW => And.intro (hk.out W (hX2.out W hW)) trivial) W (pickW2 hI.2)
                have hI' := Lib.hid hI
                clear hI
                go_simp
                exact postL_mk hI'.out trivial rfl
              · refine stepOKL_of _ [] rfl (by kernel_rfl) ?_ rfl
                intro bs ρ W hbj hbn hc hf hn ho hI
                obtain ⟨u5, q5, s48⟩ := hn.1
                clear hn
                have q5 : u5 = _ := q5
                subst q5
                have s48 : ρ (.tmp 48) = _ := s48
                clear ho
                obtain ⟨j0, _⟩ := (fun W hW => And.intro (hk.out W (hX2.out W hW)) trivial) W (pickW2 hI.2)
                have hI' := Lib.hid hI
                clear hI
                go_simp
                exact postL_mk hI'.out trivial rfl
              · refine stepOKL_of _ [] rfl (by kernel_rfl) ?_ rfl
                intro bs ρ W hbj hbn hc hf hn ho hI
                obtain ⟨u6, q6, s49⟩ := hn.1
                clear hn
                have q6 : u6 = _ := q6
                subst q6
                have s49 : ρ (.tmp 49) = _ := s49
                clear ho
                obtain ⟨j0, _⟩ := (fun W hW => And.intro (hk.out W (hX2.out W hW)) trivial) W (pickW2 hI.2)
                have hI' := Lib.hid hI
                clear hI
                go_simp
                exact postL_mk hI'.out trivial rfl
              · refine stepOKL_of _ [11] rfl (by kernel_rfl) ?_ rfl
                intro bs ρ W hbj hbn hc hf hn ho hI
                clear hn
                have s11 := ho.1
                simp only [Array.getD_eq_getD_getElem?] at s11
                clear ho
                obtain ⟨j0, _⟩ := (fun W hW => And.intro (hk.out W (hX2.out W hW)) trivial) W (pickW2 hI.2)
                have hI' := Lib.hid hI
                clear hI
                go_simp
                exact postL_mk hI'.out trivial rfl
              · refine stepOKL_of _ [] rfl (by kernel_rfl) ?_ rfl
                intro bs ρ W hbj hbn hc hf hn ho hI
                obtain ⟨u8, q8, s51⟩ := hn.1
                clear hn
                have q8 : u8 = _ := q8
                subst q8
                have s51 : ρ (.tmp 51) = _ := s51
                clear ho
                obtain ⟨j0, _⟩ := (fun W hW => And.intro (hk.out W (hX2.out W hW)) trivial) W (pickW2 hI.2)
                have hI' := Lib.hid hI
                clear hI
                go_simp
                exact postL_mk hI'.out trivial rfl
              · refine stepOKL_of _ [] rfl (by kernel_rfl) ?_ rfl
                intro bs ρ W hbj hbn hc hf hn ho hI
                obtain ⟨u9, q9, s52⟩ := hn.1
                clear hn
                have q9 : u9 = _ := q9
                subst q9
                have s52 : ρ (.tmp 52) = _ := s52
                clear ho
                obtain ⟨j0, _⟩ := (fun W hW => And.intro (hk.out W (hX2.out W hW)) trivial) W (pickW2 hI.2)
                have hI' := Lib.hid hI
                clear hI
                go_simp
                exact postL_mk hI'.out trivial rfl
              · refine stepOKL_of _ [] rfl (by kernel_rfl) ?_ rfl
                intro bs ρ W hbj hbn hc hf hn ho hI
                obtain ⟨u10, q10, s53⟩ := hn.1
                clear hn
                have q10 : u10 = _ := q10
                subst q10
                have s53 : ρ (.tmp 53) = _ := s53
                clear ho
                obtain ⟨j0, _⟩ := (fun W hW => And.intro (hk.out W (hX2.out W hW)) trivial) W (pickW2 hI.2)
                have hI' := Lib.hid hI
                clear hI
                go_simp
                exact postL_mk hI'.out trivial rfl
              · refine stepOKL_of _ [8] rfl (by kernel_rfl) ?_ rfl
                intro bs ρ W hbj hbn hc hf hn ho hI
                obtain ⟨u3, q3, s46⟩ := hn.1
                clear hn
                have q3 : u3 = _ := q3
                subst q3
                have s46 : ρ (.tmp 46) = _ := s46
                have s8 := ho.1
                simp only [Array.getD_eq_getD_getElem?] at s8
                clear ho
                have hW : W = (wr.drew) := by
                  have e := hI.2
                  simpa [hbj] using e
                have hch := Lib.hid hI.1
                clear hI
                subst hW
                obtain ⟨j0, _⟩ := (fun W hW => And.intro (hk.out W (hX2.out W hW)) trivial) _ (.inl rfl)
                go_simp
                refine postL_mk ⟨Lib.hid trivial, ?_⟩ trivial rfl
                simp [upB]
              · refine stepOKL_of _ [] rfl (by kernel_rfl) ?_ rfl
                intro bs ρ W hbj hbn hc hf hn ho hI
                obtain ⟨u7, q7, s50⟩ := hn.1
                clear hn
                have q7 : u7 = _ := q7
                subst q7
                have s50 : ρ (.tmp 50) = _ := s50
                clear ho
                obtain ⟨j0, _⟩ := (fun W hW => And.intro (hk.out W (hX2.out W hW)) trivial) W (pickW2 hI.2)
                have hI' := Lib.hid hI
                clear hI
                go_simp
                exact postL_mk hI'.out trivial rfl
              · refine stepOKL_of _ [] rfl (by kernel_rfl) ?_ rfl
                intro bs ρ W hbj hbn hc hf hn ho hI
                obtain ⟨u11, q11, s54⟩ := hn.1
                clear hn
                have q11 : u11 = _ := q11
                subst q11
                have s54 : ρ (.tmp 54) = _ := s54
                clear ho
                obtain ⟨j0, _⟩ := (fun W hW => And.intro (hk.out W (hX2.out W hW)) trivial) W (pickW2 hI.2)
                have hI' := Lib.hid hI
                clear hI
                go_simp
                exact postL_mk hI'.out trivial rfl
            case hst => exact vv_stable ⟨isV_st, isV_st, isV_st, isV_st, isV_st, isV_st, isV_st, isV_st, isV_st, isV_st, isV_st, isV_st, isV_st, isV_st, isV_st, trivial⟩
            intro vs bs W hlen hall hI hV
            obtain ⟨x0, x1, x2, x3, x4, x5, x6, x7, x8, x9, x10, x11, x12, x13, x14, rfl⟩ := list_len15_T1 vs hlen
            have y0 : x0 = _ := hV 0 _ rfl
            subst y0
            have y1 : x1 = _ := hV 1 _ rfl
            subst y1
            have y2 : x2 = _ := hV 2 _ rfl
            subst y2
            have y3 : x3 = _ := hV 3 _ rfl
            subst y3
            have y4 : x4 = _ := hV 4 _ rfl
            subst y4
            have y5 : x5 = _ := hV 5 _ rfl
            subst y5
            have y6 : x6 = _ := hV 6 _ rfl
            subst y6
            have y7 : x7 = _ := hV 7 _ rfl
            subst y7
            have y8 : x8 = _ := hV 8 _ rfl
            subst y8
            have y9 : x9 = _ := hV 9 _ rfl
            subst y9
            have y10 : x10 = _ := hV 10 _ rfl
            subst y10
            have y11 : x11 = _ := hV 11 _ rfl
            subst y11
            have y12 : x12 = _ := hV 12 _ rfl
            subst y12
            have y13 : x13 = _ := hV 13 _ rfl
            subst y13
            have y14 : x14 = _ := hV 14 _ rfl
            subst y14
            have hWe : W = (((((((wr).setCell ⟨w.heap.size + 1, 0, none⟩ (.slice U1 pg.length d1)).setCell ⟨w.heap.size + 1, 1, none⟩ (.slice U2 cl.length d2)).setCell ⟨w.heap.size + 1, 2, none⟩ (.int .i64 pc)).setCell ⟨w.heap.size + 1, 3, none⟩ (.bool fl)).setCell ⟨w.heap.size + 1, 4, none⟩ (.slice U3 bx.length d3)).drew) := by
              have e := hI.2
              simpa [hall 12 (by decide)] using e
            replace hWe := Lib.hid hWe
            clear hV hlen hall hI
            simp only [Exit.then, putAll, Act.put, List.setIfInBounds_toArray, List.set_cons_zero, List.set_cons_succ]
            skip
            have hb5 : W.heap[w.heap.size + 1]? = some (.cells #[.slice U1 pg.length d1, .slice U2 cl.length d2, .int .i64 pc, .bool fl, .slice U3 bx.length d3] 26 (0, 0)) := by
              rw [hWe.out]
              exact blk_put (blk_put (blk_put (blk_put (blk_put hR1 0 (.slice U1 pg.length d1)) 1 (.slice U2 cl.length d2)) 2 (.int .i64 pc)) 3 (.bool fl)) 4 (.slice U3 bx.length d3)
            have hBel : Below w.heap.size w W := by rw [hWe.out]; exact (by repeat (first | (with_reducible exact Below.refl _ _) | (with_reducible assumption) | (with_reducible refine Below.drew ?_) | (with_reducible refine below_drewN' ?_ _) | (with_reducible refine Below.setCell ?_ (by first | (simp; done) | (simp; omega) | omega) _) | (with_reducible refine Below.alloc ?_ (by first | (simp; done) | (simp; omega) | omega) _) | (with_reducible refine Below.trans ?_ (Below.mono (by assumption) (by first | (simp; done) | (simp; omega) | omega)))))
            have hsW : wr.heap.size = W.heap.size := by rw [hWe.out]; simp
            have hRun : Has w.heap.size W.heap.size W (RunN w.heap.size W.heap.size ⟨pg, cl, pc, fl, bx⟩ xs' sd (.slice U1 pg.length d1) (.slice U2 cl.length d2) (.slice U3 bx.length d3) (.slice U4 xs'.length d4) (.slice U5 sd.length d5)) := by
              have h3 := hF'.out.run.has.at (W' := W) (by rw [hWe.out]; exact (by repeat (first | (with_reducible exact Btw.refl _ _ _) | (with_reducible assumption) | (with_reducible refine Btw.drew ?_) | (with_reducible refine Btw.drewN ?_ _) | (with_reducible refine Btw.setCell ?_ (by first | (simp; done) | (simp; omega) | omega) _) | (with_reducible refine Btw.alloc ?_ (by first | (simp; done) | (simp; omega) | omega) _) | (with_reducible refine Btw.trans ?_ (Btw.of_below (by assumption) (by first | (simp; done) | (simp; omega) | omega))))))
              exact (h3.mono (lo' := w.heap.size) (hi' := W.heap.size) (by first | (simp; done) | (simp; omega) | omega) (by omega)).has
            have kW := fun o => blk_cell hb5 o
            clear hWe hk hX2 hF' k1 kr zr hR1 hb5
            go_wp2_with fail
            refine bodyPost_ret (v := .tuple #[.agg #[.slice U1 pg.length d1, .slice U2 cl.length d2, .int .i64 pc, .bool fl, .slice U3 bx.length d3], .slice U4 xs'.length d4, .slice U5 sd.length d5]) (by simp [results, Try.results19, go_sem, kW]) rfl ?_
            exact ⟨U1, d1, U2, d2, U3, d3, U4, d4, U5, d5, rfl, hRun, hBel⟩
          · cases goes
            · go_wp2_with fail
              apply region_invL (PQ := fun _ _ => False) (VV [IsV _, IsV _, IsV _, IsV _, IsV _, IsV _, IsV _, IsV _, IsV _, IsV _, IsV _, IsV _, IsV _, IsV _, IsV _]) (fun bs W => (Hid True) ∧ W = (if bs 12 = true then (((((((wr).setCell ⟨w.heap.size + 1, 0, none⟩ (.slice U1 pg.length d1)).setCell ⟨w.heap.size + 1, 1, none⟩ (.slice U2 cl.length d2)).setCell ⟨w.heap.size + 1, 2, none⟩ (.int .i64 pc)).setCell ⟨w.heap.size + 1, 3, none⟩ (.bool fl)).setCell ⟨w.heap.size + 1, 4, none⟩ (.slice U3 bx.length d3)).drew) else (wr.drew))) (fun _ _ => True) (by kernel_rfl) 55 rfl (by kernel_rfl)
              case hp =>
                exact fun _ _ _ _ h => h.elim
              case h0 =>
                exact ⟨Lib.hid trivial, by simp⟩
              case hsteps =>
                refine ⟨?_, ?_, ?_, ?_, ?_, ?_, ?_, ?_, ?_, ?_, ?_, ?_, ?_, ?_, ?_, trivial⟩
                · refine stepOKL_of _ [11] rfl (by kernel_rfl) ?_ rfl
                  intro bs ρ W hbj hbn hc hf hn ho hI
                  clear hn
                  have s11 := ho.1
                  simp only [Array.getD_eq_getD_getElem?] at s11
                  clear ho
                  obtain ⟨j0, _⟩ := (fun W hW => And.intro (hk.out W (hX2.out W hW)) trivial) W (pickW2 hI.2)
                  have hI' := Lib.hid hI
                  clear hI
                  go_simp
                  exact postL_mk hI'.out trivial rfl
                · refine stepOKL_of _ [] rfl (by kernel_rfl) ?_ rfl
                  intro bs ρ W hbj hbn hc hf hn ho hI
                  obtain ⟨u0, q0, s43⟩ := hn.1
                  clear hn
                  have q0 : u0 = _ := q0
                  subst q0
                  have s43 : ρ (.tmp 43) = _ := s43
                  clear ho
                  obtain ⟨j0, _⟩ := (fun W hW => And.intro (hk.out W (hX2.out W hW)) trivial) W (pickW2 hI.2)
                  have hI' := Lib.hid hI
                  clear hI
                  go_simp
                  exact postL_mk hI'.out trivial rfl
                · refine stepOKL_of _ [] rfl (by kernel_rfl) ?_ rfl
                  intro bs ρ W hbj hbn hc hf hn ho hI
                  obtain ⟨u1, q1, s44⟩ := hn.1
                  clear hn
                  have q1 : u1 = _ := q1
                  subst q1
                  have s44 : ρ (.tmp 44) = _ := s44
                  clear ho
                  obtain ⟨j0, _⟩ := (fun W hW => And.intro (hk.out W (hX2.out W hW)) trivial) W (pickW2 hI.2)
                  have hI' := Lib.hid hI
                  clear hI
                  go_simp
                  exact postL_mk hI'.out trivial rfl
                · refine stepOKL_of _ [] rfl (by kernel_rfl) ?_ rfl
                  intro bs ρ W hbj hbn hc hf hn ho hI
                  obtain ⟨u2, q2, s45⟩ := hn.1
                  clear hn
                  have q2 : u2 = _ := q2
                  subst q2
                  have s45 : ρ (.tmp 45) = _ := s45
                  clear ho
                  obtain ⟨j0, _⟩ := (fun W hW => And.intro (hk.out W (hX2.out W hW)) trivial) W (pickW2 hI.2)
                  have hI' := Lib.hid hI
                  clear hI
                  go_simp
                  exact postL_mk hI'.out trivial rfl
                · refine stepOKL_of _ [11] rfl (by kernel_rfl) ?_ rfl
                  intro bs ρ W hbj hbn hc hf hn ho hI
                  clear hn
                  have s11 := ho.1
                  simp only [Array.getD_eq_getD_getElem?] at s11
                  clear ho
                  obtain ⟨j0, _⟩ := (fun W hW => And.intro (hk.out W (hX2.out W hW)) trivial) W (pickW2 hI.2)
                  have hI' := Lib.hid hI
                  clear hI
                  go_simp
                  exact postL_mk hI'.out trivial rfl
                · refine stepOKL_of _ [] rfl (by kernel_rfl) ?_ rfl
                  intro bs ρ W hbj hbn hc hf hn ho hI
                  obtain ⟨u4, q4, s47⟩ := hn.1
                  clear hn
                  have q4 : u4 = _ := q4
                  subst q4
                  have s47 : ρ (.tmp 47) = _ := s47
                  clear ho
                  obtain ⟨j0, _⟩ := (fun W hW => And.intro (hk.out W (hX2.out W hW)) trivial) W (pickW2 hI.2)
                  have hI' := Lib.hid hI
                  clear hI
                  go_simp
                  exact postL_mk hI'.out trivial rfl
                · refine stepOKL_of _ [] rfl (by kernel_rfl) ?_ rfl
                  intro bs ρ W hbj hbn hc hf hn ho hI
                  obtain ⟨u5, q5, s48⟩ := hn.1
                  clear hn
                  have q5 : u5 = _ := q5
                  subst q5
                  have s48 : ρ (.tmp 48) = _ := s48
                  clear ho
                  obtain ⟨j0, _⟩ := (fun W hW => And.intro (hk.out W (hX2.out W hW)) trivial) W (pickW2 hI.2)
                  have hI' := Lib.hid hI
                  clear hI
                  go_simp
                  exact postL_mk hI'.out trivial rfl
                · refine stepOKL_of _ [] rfl (by kernel_rfl) ?_ rfl
                  intro bs ρ W hbj hbn hc hf hn ho hI
                  obtain ⟨u6, q6, s49⟩ := hn.1
                  clear hn
                  have q6 : u6 = _ := q6
                  subst q6
                  have s49 : ρ (.tmp 49) = _ := s49
                  clear ho
                  obtain ⟨j0, _⟩ := (fun W hW => And.intro (hk.out W (hX2.out W hW)) trivial) W (pickW2 hI.2)
                  have hI' := Lib.hid hI
                  clear hI
                  go_simp
                  exact postL_mk hI'.out trivial rfl
                · refine stepOKL_of _ [11] rfl (by kernel_rfl) ?_ rfl
                  intro bs ρ W hbj hbn hc hf hn ho hI
                  clear hn
                  have s11 := ho.1
                  simp only [Array.getD_eq_getD_getElem?] at s11
                  clear ho
                  obtain ⟨j0, _⟩ := (fun W hW => And.intro (hk.out W (hX2.out W hW)) trivial) W (pickW2 hI.2)
                  have hI' := Lib.hid hI
                  clear hI
                  go_simp
                  exact postL_mk hI'.out trivial rfl
                · refine stepOKL_of _ [] rfl (by kernel_rfl) ?_ rfl
                  intro bs ρ W hbj hbn hc hf hn ho hI
                  obtain ⟨u8, q8, s51⟩ := hn.1
                  clear hn
                  have q8 : u8 = _ := q8
                  subst q8
                  have s51 : ρ (.tmp 51) = _ := s51
                  clear ho
                  obtain ⟨j0, _⟩ := (fun W hW => And.intro (hk.out W (hX2.out W hW)) trivial) W (pickW2 hI.2)
                  have hI' := Lib.hid hI
                  clear hI
                  go_simp
                  exact postL_mk hI'.out trivial rfl
                · refine stepOKL_of _ [] rfl (by kernel_rfl) ?_ rfl
                  intro bs ρ W hbj hbn hc hf hn ho hI
                  obtain ⟨u9, q9, s52⟩ := hn.1
                  clear hn
                  have q9 : u9 = _ := q9
                  subst q9
                  have s52 : ρ (.tmp 52) = _ := s52
                  clear ho
                  obtain ⟨j0, _⟩ := (fun W hW => And.intro (hk.out W (hX2.out W hW)) trivial) W (pickW2 hI.2)
                  have hI' := Lib.hid hI
                  clear hI
                  go_simp
                  exact postL_mk hI'.out trivial rfl
                · refine stepOKL_of _ [] rfl (by kernel_rfl) ?_ rfl
                  intro bs ρ W hbj hbn hc hf hn ho hI
                  obtain ⟨u10, q10, s53⟩ := hn.1
                  clear hn
                  have q10 : u10 = _ := q10
                  subst q10
                  have s53 : ρ (.tmp 53) = _ := s53
                  clear ho
                  obtain ⟨j0, _⟩ := (fun W hW => And.intro (hk.out W (hX2.out W hW)) trivial) W (pickW2 hI.2)
                  have hI' := Lib.hid hI
                  clear hI
                  go_simp
                  exact postL_mk hI'.out trivial rfl
                · refine stepOKL_of _ [8] rfl (by kernel_rfl) ?_ rfl
                  intro bs ρ W hbj hbn hc hf hn ho hI
                  obtain ⟨u3, q3, s46⟩ := hn.1
                  clear hn
                  have q3 : u3 = _ := q3
                  subst q3
                  have s46 : ρ (.tmp 46) = _ := s46
                  have s8 := ho.1
                  simp only [Array.getD_eq_getD_getElem?] at s8
                  clear ho
                  have hW : W = (wr.drew) := by
                    have e := hI.2
                    simpa [hbj] using e
                  have hch := Lib.hid hI.1
                  clear hI
                  subst hW
                  obtain ⟨j0, _⟩ := (fun W hW => And.intro (hk.out W (hX2.out W hW)) trivial) _ (.inl rfl)
                  go_simp
                  refine postL_mk ⟨Lib.hid trivial, ?_⟩ trivial rfl
                  simp [upB]
                · refine stepOKL_of _ [] rfl (by kernel_rfl) ?_ rfl
                  intro bs ρ W hbj hbn hc hf hn ho hI
                  obtain ⟨u7, q7, s50⟩ := hn.1
                  clear hn
                  have q7 : u7 = _ := q7
                  subst q7
                  have s50 : ρ (.tmp 50) = _ := s50
                  clear ho
                  obtain ⟨j0, _⟩ := (fun W hW => And.intro (hk.out W (hX2.out W hW)) trivial) W (pickW2 hI.2)
                  have hI' := Lib.hid hI
                  clear hI
                  go_simp
                  exact postL_mk hI'.out trivial rfl
                · refine stepOKL_of _ [] rfl (by kernel_rfl) ?_ rfl
                  intro bs ρ W hbj hbn hc hf hn ho hI
                  obtain ⟨u11, q11, s54⟩ := hn.1
                  clear hn
                  have q11 : u11 = _ := q11
                  subst q11
                  have s54 : ρ (.tmp 54) = _ := s54
                  clear ho
                  obtain ⟨j0, _⟩ := (fun W hW => And.intro (hk.out W (hX2.out W hW)) trivial) W (pickW2 hI.2)
                  have hI' := Lib.hid hI
                  clear hI
                  go_simp
                  exact postL_mk hI'.out trivial rfl
              case hst => exact vv_stable ⟨isV_st, isV_st, isV_st, isV_st, isV_st, isV_st, isV_st, isV_st, isV_st, isV_st, isV_st, isV_st, isV_st, isV_st, isV_st, trivial⟩
              intro vs bs W hlen hall hI hV
              obtain ⟨x0, x1, x2, x3, x4, x5, x6, x7, x8, x9, x10, x11, x12, x13, x14, rfl⟩ := list_len15_T1 vs hlen
              have y0 : x0 = _ := hV 0 _ rfl
              subst y0
              have y1 : x1 = _ := hV 1 _ rfl
              subst y1
              have y2 : x2 = _ := hV 2 _ rfl
              subst y2
              have y3 : x3 = _ := hV 3 _ rfl
              subst y3
              have y4 : x4 = _ := hV 4 _ rfl
              subst y4
              have y5 : x5 = _ := hV 5 _ rfl
              subst y5
              have y6 : x6 = _ := hV 6 _ rfl
              subst y6
              have y7 : x7 = _ := hV 7 _ rfl
              subst y7
              have y8 : x8 = _ := hV 8 _ rfl
              subst y8
              have y9 : x9 = _ := hV 9 _ rfl
              subst y9
              have y10 : x10 = _ := hV 10 _ rfl
              subst y10
              have y11 : x11 = _ := hV 11 _ rfl
              subst y11
              have y12 : x12 = _ := hV 12 _ rfl
              subst y12
              have y13 : x13 = _ := hV 13 _ rfl
              subst y13
              have y14 : x14 = _ := hV 14 _ rfl
              subst y14
              have hWe : W = (((((((wr).setCell ⟨w.heap.size + 1, 0, none⟩ (.slice U1 pg.length d1)).setCell ⟨w.heap.size + 1, 1, none⟩ (.slice U2 cl.length d2)).setCell ⟨w.heap.size + 1, 2, none⟩ (.int .i64 pc)).setCell ⟨w.heap.size + 1, 3, none⟩ (.bool fl)).setCell ⟨w.heap.size + 1, 4, none⟩ (.slice U3 bx.length d3)).drew) := by
                have e := hI.2
                simpa [hall 12 (by decide)] using e
              replace hWe := Lib.hid hWe
              clear hV hlen hall hI
              simp only [Exit.then, putAll, Act.put, List.setIfInBounds_toArray, List.set_cons_zero, List.set_cons_succ]
              skip
              have hb5 : W.heap[w.heap.size + 1]? = some (.cells #[.slice U1 pg.length d1, .slice U2 cl.length d2, .int .i64 pc, .bool fl, .slice U3 bx.length d3] 26 (0, 0)) := by
                rw [hWe.out]
                exact blk_put (blk_put (blk_put (blk_put (blk_put hR1 0 (.slice U1 pg.length d1)) 1 (.slice U2 cl.length d2)) 2 (.int .i64 pc)) 3 (.bool fl)) 4 (.slice U3 bx.length d3)
              have hBel : Below w.heap.size w W := by rw [hWe.out]; exact (by repeat (first | (with_reducible exact Below.refl _ _) | (with_reducible assumption) | (with_reducible refine Below.drew ?_) | (with_reducible refine below_drewN' ?_ _) | (with_reducible refine Below.setCell ?_ (by first | (simp; done) | (simp; omega) | omega) _) | (with_reducible refine Below.alloc ?_ (by first | (simp; done) | (simp; omega) | omega) _) | (with_reducible refine Below.trans ?_ (Below.mono (by assumption) (by first | (simp; done) | (simp; omega) | omega)))))
              have hsW : wr.heap.size = W.heap.size := by rw [hWe.out]; simp
              have hRun : Has w.heap.size W.heap.size W (RunN w.heap.size W.heap.size ⟨pg, cl, pc, fl, bx⟩ xs' sd (.slice U1 pg.length d1) (.slice U2 cl.length d2) (.slice U3 bx.length d3) (.slice U4 xs'.length d4) (.slice U5 sd.length d5)) := by
                have h3 := hF'.out.run.has.at (W' := W) (by rw [hWe.out]; exact (by repeat (first | (with_reducible exact Btw.refl _ _ _) | (with_reducible assumption) | (with_reducible refine Btw.drew ?_) | (with_reducible refine Btw.drewN ?_ _) | (with_reducible refine Btw.setCell ?_ (by first | (simp; done) | (simp; omega) | omega) _) | (with_reducible refine Btw.alloc ?_ (by first | (simp; done) | (simp; omega) | omega) _) | (with_reducible refine Btw.trans ?_ (Btw.of_below (by assumption) (by first | (simp; done) | (simp; omega) | omega))))))
                exact (h3.mono (lo' := w.heap.size) (hi' := W.heap.size) (by first | (simp; done) | (simp; omega) | omega) (by omega)).has
              have kW := fun o => blk_cell hb5 o
              clear hWe hk hX2 hF' k1 kr zr hR1 hb5
              go_wp2_with fail
              refine bodyPost_ret (v := .tuple #[.agg #[.slice U1 pg.length d1, .slice U2 cl.length d2, .int .i64 pc, .bool fl, .slice U3 bx.length d3], .slice U4 xs'.length d4, .slice U5 sd.length d5]) (by simp [results, Try.results19, go_sem, kW]) rfl ?_
              exact ⟨U1, d1, U2, d2, U3, d3, U4, d4, U5, d5, rfl, hRun, hBel⟩
            · go_wp2_with fail
              apply region_invL (PQ := fun _ _ => False) (VV [IsV _, IsV _, IsV _, IsV _, IsV _, IsV _, IsV _, IsV _, IsV _, IsV _, IsV _, IsV _, IsV _, IsV _, IsV _]) (fun bs W => (Hid True) ∧ W = (if bs 12 = true then (((((((wr).setCell ⟨w.heap.size + 1, 0, none⟩ (.slice U1 pg.length d1)).setCell ⟨w.heap.size + 1, 1, none⟩ (.slice U2 cl.length d2)).setCell ⟨w.heap.size + 1, 2, none⟩ (.int .i64 pc)).setCell ⟨w.heap.size + 1, 3, none⟩ (.bool fl)).setCell ⟨w.heap.size + 1, 4, none⟩ (.slice U3 bx.length d3)).drew) else (wr.drew))) (fun _ _ => True) (by kernel_rfl) 55 rfl (by kernel_rfl)
              case hp =>
                exact fun _ _ _ _ h => h.elim
              case h0 =>
                exact ⟨Lib.hid trivial, by simp⟩
              case hsteps =>
                refine ⟨?_, ?_, ?_, ?_, ?_, ?_, ?_, ?_, ?_, ?_, ?_, ?_, ?_, ?_, ?_, trivial⟩
                · refine stepOKL_of _ [11] rfl (by kernel_rfl) ?_ rfl
                  intro bs ρ W hbj hbn hc hf hn ho hI
                  clear hn
                  have s11 := ho.1
                  simp only [Array.getD_eq_getD_getElem?] at s11
                  clear ho
                  obtain ⟨j0, _⟩ := (fun W hW => And.intro (hk.out W (hX2.out W hW)) trivial) W (pickW2 hI.2)
                  have hI' := Lib.hid hI
                  clear hI
                  go_simp
                  exact postL_mk hI'.out trivial rfl
                · refine stepOKL_of _ [] rfl (by kernel_rfl) ?_ rfl
                  intro bs ρ W hbj hbn hc hf hn ho hI
                  obtain ⟨u0, q0, s43⟩ := hn.1
                  clear hn
                  have q0 : u0 = _ := q0
                  subst q0
                  have s43 : ρ (.tmp 43) = _ := s43
                  clear ho
                  obtain ⟨j0, _⟩ := (fun W hW => And.intro (hk.out W (hX2.out W hW)) trivial) W (pickW2 hI.2)
                  have hI' := Lib.hid hI
                  clear hI
                  go_simp
                  exact postL_mk hI'.out trivial rfl
                · refine stepOKL_of _ [] rfl (by kernel_rfl) ?_ rfl
                  intro bs ρ W hbj hbn hc hf hn ho hI
                  obtain ⟨u1, q1, s44⟩ := hn.1
                  clear hn
                  have q1 : u1 = _ := q1
                  subst q1
                  have s44 : ρ (.tmp 44) = _ := s44
                  clear ho
                  obtain ⟨j0, _⟩ := (fun W hW => And.intro (hk.out W (hX2.out W hW)) trivial) W (pickW2 hI.2)
                  have hI' := Lib.hid hI
                  clear hI
                  go_simp
                  exact postL_mk hI'.out trivial rfl
                · refine stepOKL_of _ [] rfl (by kernel_rfl) ?_ rfl
                  intro bs ρ W hbj hbn hc hf hn ho hI
                  obtain ⟨u2, q2, s45⟩ := hn.1
                  clear hn
                  have q2 : u2 = _ := q2
                  subst q2
                  have s45 : ρ (.tmp 45) = _ := s45
                  clear ho
                  obtain ⟨j0, _⟩ := (fun W hW => And.intro (hk.out W (hX2.out W hW)) trivial) W (pickW2 hI.2)
                  have hI' := Lib.hid hI
                  clear hI
                  go_simp
                  exact postL_mk hI'.out trivial rfl
                · refine stepOKL_of _ [11] rfl (by kernel_rfl) ?_ rfl
                  intro bs ρ W hbj hbn hc hf hn ho hI
                  clear hn
                  have s11 := ho.1
                  simp only [Array.getD_eq_getD_getElem?] at s11
                  clear ho
                  obtain ⟨j0, _⟩ := (fun W hW => And.intro (hk.out W (hX2.out W hW)) trivial) W (pickW2 hI.2)
                  have hI' := Lib.hid hI
                  clear hI
                  go_simp
                  exact postL_mk hI'.out trivial rfl
                · refine stepOKL_of _ [] rfl (by kernel_rfl) ?_ rfl
                  intro bs ρ W hbj hbn hc hf hn ho hI
                  obtain ⟨u4, q4, s47⟩ := hn.1
                  clear hn
                  have q4 : u4 = _ := q4
                  subst q4
                  have s47 : ρ (.tmp 47) = _ := s47
                  clear ho
                  obtain ⟨j0, _⟩ := (fun W hW => And.intro (hk.out W (hX2.out W hW)) trivial) W (pickW2 hI.2)
                  have hI' := Lib.hid hI
                  clear hI
                  go_simp
                  exact postL_mk hI'.out trivial rfl
                · refine stepOKL_of _ [] rfl (by kernel_rfl) ?_ rfl
                  intro bs ρ W hbj hbn hc hf hn ho hI
                  obtain ⟨u5, q5, s48⟩ := hn.1
                  clear hn
                  have q5 : u5 = _ := q5
                  subst q5
                  have s48 : ρ (.tmp 48) = _ := s48
                  clear ho
                  obtain ⟨j0, _⟩ := (fun W hW => And.intro (hk.out W (hX2.out W hW)) trivial) W (pickW2 hI.2)
                  have hI' := Lib.hid hI
                  clear hI
                  go_simp
                  exact postL_mk hI'.out trivial rfl
                · refine stepOKL_of _ [] rfl (by kernel_rfl) ?_ rfl
                  intro bs ρ W hbj hbn hc hf hn ho hI
                  obtain ⟨u6, q6, s49⟩ := hn.1
                  clear hn
                  have q6 : u6 = _ := q6
                  subst q6
                  have s49 : ρ (.tmp 49) = _ := s49
                  clear ho
                  obtain ⟨j0, _⟩ := (fun W hW => And.intro (hk.out W (hX2.out W hW)) trivial) W (pickW2 hI.2)
                  have hI' := Lib.hid hI
                  clear hI
                  go_simp
                  exact postL_mk hI'.out trivial rfl
                · refine stepOKL_of _ [11] rfl (by kernel_rfl) ?_ rfl
                  intro bs ρ W hbj hbn hc hf hn ho hI
                  clear hn
                  have s11 := ho.1
                  simp only [Array.getD_eq_getD_getElem?] at s11
                  clear ho
                  obtain ⟨j0, _⟩ := (fun W hW => And.intro (hk.out W (hX2.out W hW)) trivial) W (pickW2 hI.2)
                  have hI' := Lib.hid hI
                  clear hI
                  go_simp
                  exact postL_mk hI'.out trivial rfl
                · refine stepOKL_of _ [] rfl (by kernel_rfl) ?_ rfl
                  intro bs ρ W hbj hbn hc hf hn ho hI
                  obtain ⟨u8, q8, s51⟩ := hn.1
                  clear hn
                  have q8 : u8 = _ := q8
                  subst q8
                  have s51 : ρ (.tmp 51) = _ := s51
                  clear ho
                  obtain ⟨j0, _⟩ := (fun W hW => And.intro (hk.out W (hX2.out W hW)) trivial) W (pickW2 hI.2)
                  have hI' := Lib.hid hI
                  clear hI
                  go_simp
                  exact postL_mk hI'.out trivial rfl
                · refine stepOKL_of _ [] rfl (by kernel_rfl) ?_ rfl
                  intro bs ρ W hbj hbn hc hf hn ho hI
                  obtain ⟨u9, q9, s52⟩ := hn.1
                  clear hn
                  have q9 : u9 = _ := q9
                  subst q9
                  have s52 : ρ (.tmp 52) = _ := s52
                  clear ho
                  obtain ⟨j0, _⟩ := (fun W hW => And.intro (hk.out W (hX2.out W hW)) trivial) W (pickW2 hI.2)
                  have hI' := Lib.hid hI
                  clear hI
                  go_simp
                  exact postL_mk hI'.out trivial rfl
                · refine stepOKL_of _ [] rfl (by kernel_rfl) ?_ rfl
                  intro bs ρ W hbj hbn hc hf hn ho hI
                  obtain ⟨u10, q10, s53⟩ := hn.1
                  clear hn
                  have q10 : u10 = _ := q10
                  subst q10
                  have s53 : ρ (.tmp 53) = _ := s53
                  clear ho
                  obtain ⟨j0, _⟩ := (fun W hW => And.intro (hk.out W (hX2.out W hW)) trivial) W (pickW2 hI.2)
                  have hI' := Lib.hid hI
                  clear hI
                  go_simp
                  exact postL_mk hI'.out trivial rfl
                · refine stepOKL_of _ [8] rfl (by kernel_rfl) ?_ rfl
                  intro bs ρ W hbj hbn hc hf hn ho hI
                  obtain ⟨u3, q3, s46⟩ := hn.1
                  clear hn
                  have q3 : u3 = _ := q3
                  subst q3
                  have s46 : ρ (.tmp 46) = _ := s46
                  have s8 := ho.1
                  simp only [Array.getD_eq_getD_getElem?] at s8
                  clear ho
                  have hW : W = (wr.drew) := by
                    have e := hI.2
                    simpa [hbj] using e
                  have hch := Lib.hid hI.1
                  clear hI
                  subst hW
                  obtain ⟨j0, _⟩ := (fun W hW => And.intro (hk.out W (hX2.out W hW)) trivial) _ (.inl rfl)
                  go_simp
                  refine postL_mk ⟨Lib.hid trivial, ?_⟩ trivial rfl
                  simp [upB]
                · refine stepOKL_of _ [] rfl (by kernel_rfl) ?_ rfl
                  intro bs ρ W hbj hbn hc hf hn ho hI
                  obtain ⟨u7, q7, s50⟩ := hn.1
                  clear hn
                  have q7 : u7 = _ := q7
                  subst q7
                  have s50 : ρ (.tmp 50) = _ := s50
                  clear ho
                  obtain ⟨j0, _⟩ := (fun W hW => And.intro (hk.out W (hX2.out W hW)) trivial) W (pickW2 hI.2)
                  have hI' := Lib.hid hI
                  clear hI
                  go_simp
                  exact postL_mk hI'.out trivial rfl
                · refine stepOKL_of _ [] rfl (by kernel_rfl) ?_ rfl
                  intro bs ρ W hbj hbn hc hf hn ho hI
                  obtain ⟨u11, q11, s54⟩ := hn.1
                  clear hn
                  have q11 : u11 = _ := q11
                  subst q11
                  have s54 : ρ (.tmp 54) = _ := s54
                  clear ho
                  obtain ⟨j0, _⟩ := (fun W hW => And.intro (hk.out W (hX2.out W hW)) trivial) W (pickW2 hI.2)
                  have hI' := Lib.hid hI
                  clear hI
                  go_simp
                  exact postL_mk hI'.out trivial rfl
              case hst => exact vv_stable ⟨isV_st, isV_st, isV_st, isV_st, isV_st, isV_st, isV_st, isV_st, isV_st, isV_st, isV_st, isV_st, isV_st, isV_st, isV_st, trivial⟩
              intro vs bs W hlen hall hI hV
              obtain ⟨x0, x1, x2, x3, x4, x5, x6, x7, x8, x9, x10, x11, x12, x13, x14, rfl⟩ := list_len15_T1 vs hlen
              have y0 : x0 = _ := hV 0 _ rfl
              subst y0
              have y1 : x1 = _ := hV 1 _ rfl
              subst y1
              have y2 : x2 = _ := hV 2 _ rfl
              subst y2
              have y3 : x3 = _ := hV 3 _ rfl
              subst y3
              have y4 : x4 = _ := hV 4 _ rfl
              subst y4
              have y5 : x5 = _ := hV 5 _ rfl
              subst y5
              have y6 : x6 = _ := hV 6 _ rfl
              subst y6
              have y7 : x7 = _ := hV 7 _ rfl
              subst y7
              have y8 : x8 = _ := hV 8 _ rfl
              subst y8
              have y9 : x9 = _ := hV 9 _ rfl
              subst y9
              have y10 : x10 = _ := hV 10 _ rfl
              subst y10
              have y11 : x11 = _ := hV 11 _ rfl
              subst y11
              have y12 : x12 = _ := hV 12 _ rfl
              subst y12
              have y13 : x13 = _ := hV 13 _ rfl
              subst y13
              have y14 : x14 = _ := hV 14 _ rfl
              subst y14
              have hWe : W = (((((((wr).setCell ⟨w.heap.size + 1, 0, none⟩ (.slice U1 pg.length d1)).setCell ⟨w.heap.size + 1, 1, none⟩ (.slice U2 cl.length d2)).setCell ⟨w.heap.size + 1, 2, none⟩ (.int .i64 pc)).setCell ⟨w.heap.size + 1, 3, none⟩ (.bool fl)).setCell ⟨w.heap.size + 1, 4, none⟩ (.slice U3 bx.length d3)).drew) := by
                have e := hI.2
                simpa [hall 12 (by decide)] using e
              replace hWe := Lib.hid hWe
              clear hV hlen hall hI
              simp only [Exit.then, putAll, Act.put, List.setIfInBounds_toArray, List.set_cons_zero, List.set_cons_succ]
              skip
              have hb5 : W.heap[w.heap.size + 1]? = some (.cells #[.slice U1 pg.length d1, .slice U2 cl.length d2, .int .i64 pc, .bool fl, .slice U3 bx.length d3] 26 (0, 0)) := by
                rw [hWe.out]
                exact blk_put (blk_put (blk_put (blk_put (blk_put hR1 0 (.slice U1 pg.length d1)) 1 (.slice U2 cl.length d2)) 2 (.int .i64 pc)) 3 (.bool fl)) 4 (.slice U3 bx.length d3)
              have hBel : Below w.heap.size w W := by rw [hWe.out]; exact (by repeat (first | (with_reducible exact Below.refl _ _) | (with_reducible assumption) | (with_reducible refine Below.drew ?_) | (with_reducible refine below_drewN' ?_ _) | (with_reducible refine Below.setCell ?_ (by first | (simp; done) | (simp; omega) | omega) _) | (with_reducible refine Below.alloc ?_ (by first | (simp; done) | (simp; omega) | omega) _) | (with_reducible refine Below.trans ?_ (Below.mono (by assumption) (by first | (simp; done) | (simp; omega) | omega)))))
              have hsW : wr.heap.size = W.heap.size := by rw [hWe.out]; simp
              have hRun : Has w.heap.size W.heap.size W (RunN w.heap.size W.heap.size ⟨pg, cl, pc, fl, bx⟩ xs' sd (.slice U1 pg.length d1) (.slice U2 cl.length d2) (.slice U3 bx.length d3) (.slice U4 xs'.length d4) (.slice U5 sd.length d5)) := by
                have h3 := hF'.out.run.has.at (W' := W) (by rw [hWe.out]; exact (by repeat (first | (with_reducible exact Btw.refl _ _ _) | (with_reducible assumption) | (with_reducible refine Btw.drew ?_) | (with_reducible refine Btw.drewN ?_ _) | (with_reducible refine Btw.setCell ?_ (by first | (simp; done) | (simp; omega) | omega) _) | (with_reducible refine Btw.alloc ?_ (by first | (simp; done) | (simp; omega) | omega) _) | (with_reducible refine Btw.trans ?_ (Btw.of_below (by assumption) (by first | (simp; done) | (simp; omega) | omega))))))
                exact (h3.mono (lo' := w.heap.size) (hi' := W.heap.size) (by first | (simp; done) | (simp; omega) | omega) (by omega)).has
              have kW := fun o => blk_cell hb5 o
              clear hWe hk hX2 hF' k1 kr zr hR1 hb5
              go_wp2_with fail
              refine bodyPost_ret (v := .tuple #[.agg #[.slice U1 pg.length d1, .slice U2 cl.length d2, .int .i64 pc, .bool fl, .slice U3 bx.length d3], .slice U4 xs'.length d4, .slice U5 sd.length d5]) (by simp [results, Try.results19, go_sem, kW]) rfl ?_
              exact ⟨U1, d1, U2, d2, U3, d3, U4, d4, U5, d5, rfl, hRun, hBel⟩
end Go.Proofs.Ytkphkkfgphhjcaa
