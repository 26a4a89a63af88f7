/- The reference's step. -/
import Derived.Test.YtkphkkfgphhjcaaS2
import Derived.Deep.CutBlock
import Derived.Deep.DeepCutAuto
namespace Go.Proofs.Ytkphkkfgphhjcaa
open Go.RowKit
set_option linter.unusedSimpArgs false
set_option linter.unusedVariables false
theorem list_len10_S3 : ∀ (l : List Value), l.length = 10 → ∃ x0 x1 x2 x3 x4 x5 x6 x7 x8 x9, l = x0 :: x1 :: x2 :: x3 :: x4 :: x5 :: x6 :: x7 :: x8 :: x9 :: []
  | x0 :: x1 :: x2 :: x3 :: x4 :: x5 :: x6 :: x7 :: x8 :: x9 :: [], _ => ⟨x0, x1, x2, x3, x4, x5, x6, x7, x8, x9, rfl⟩

/-- Where the ways of a step meet. -/
def MidR (w : World) (q : Pt) (xs : List Int) (sd : List Sd) (nx : Int) (A1 : Option Addr) (n1 c1 gc oc c2 : Nat) (v4 : Value) (gq : Nat) (f1 f3 : List Nat) (d a b : Int) (v10 v12 : Value) (W : World) : Prop :=
  ∃ A3 c3 f3' A5 c5, v10 = .slice A5 sd.length c5 ∧ v12 = .int .i64 nx ∧
    W.heap[w.heap.size]? = some (.cells #[.slice A1 n1 c1, .slice (some ⟨gc, oc, none⟩) 8 c2, .int .i64 q.pc, .bool q.fails, .slice A3 q.box.length c3] 26 (0, 0)) ∧
    W.heap[w.heap.size + 1]? = some (.cells #[.slice none 0 0, .slice none 0 0, .int .i64 0, .bool false, .slice none 0 0] 26 (0, 0)) ∧
    W.heap[w.heap.size + 1 + 1 + 1]? = some (.cells #[.int .i64 d, .int .i64 a, .int .i64 b] 44 (0, 0)) ∧
    PtF W q (.slice A1 n1 c1) (.slice (some ⟨gc, oc, none⟩) 8 c2) (.slice A3 q.box.length c3) f1 [gc] f3' ∧ (∀ x ∈ f3', x ∈ f3) ∧ SL kI W v4 xs [gq] ∧ W.ownsRow w.heap.size 76 2 (.slice A5 sd.length c5) sd.length (sd.flatMap encS) ∧ KeptK [gc, gq] w W ∧ w.heap.size + 3 < W.heap.size ∧ ∀ x ∈ (Value.ownBlock (.slice A5 sd.length c5)).toList, w.heap.size + 1 < x
/-- What a step comes to, out of what its op left. -/
def LRes (q : Pt × List Int × List Sd × Int) (n : Nat) (d : Int) : Pt × List Int × List Sd × Bool :=
  if q.1.fails = true then (q.1, q.2.1, q.2.2.1, false)
  else if q.2.2.2 ≥ n then ({ q.1 with pc := 0 }, q.2.1, q.2.2.1, false)
  else ({ q.1 with pc := q.2.2.2 }, q.2.1, q.2.2.1, d != 11)
def LStepQ (w : World) (r : Pt × List Int × List Sd × Bool) (A1 : Option Addr) (n1 c1 gc oc c2 : Nat) (v4 : Value) (gq : Nat) (f1 f3 : List Nat) (e : Ending) (w' : World) : Prop := ∃ A3 c3 f3' A5 c5 f5, e = .returned (.tuple #[.agg #[.slice A1 n1 c1, .slice (some ⟨gc, oc, none⟩) 8 c2, .int .i64 r.1.pc, .bool r.1.fails, .slice A3 r.1.box.length c3], v4, .slice A5 r.2.2.1.length c5, .bool r.2.2.2]) ∧ PtF w' r.1 (.slice A1 n1 c1) (.slice (some ⟨gc, oc, none⟩) 8 c2) (.slice A3 r.1.box.length c3) f1 [gc] f3' ∧ (∀ x ∈ f3', x ∈ f3) ∧ SL kI w' v4 r.2.1 [gq] ∧ SL kSd w' (.slice A5 r.2.2.1.length c5) r.2.2.1 f5 ∧ Own w' w.heap.size w'.heap.size f5 ∧ KeptK [gc, gq] w w'
theorem PtF.pc {W : World} {p : Pt} {v1 v2 v3 : Value} {f1 f2 f3 : List Nat} (h : PtF W p v1 v2 v3 f1 f2 f3) (n : Int) : PtF W { p with pc := n } v1 v2 v3 f1 f2 f3 := ⟨h.prog, h.cells, h.box⟩
theorem opd_rest (p : Pt) (now : Int) (xs : List Int) (d a b : Int) (h0 : 1 ≤ d) (h1 : d ≤ 13) (hd : d ≠ 5 ∧ d ≠ 6 ∧ d ≠ 7 ∧ d ≠ 9 ∧ d ≠ 11) : (p.opd now xs d a b).2 = (xs, [], p.pc + 1) := by
  obtain ⟨h5, h6, h7, h9, h11⟩ := hd
  have hp : ∀ v, ((mac0 p now xs).put a v).jumps = false := fun v => rfl
  rcases (by omega : d = 1 ∨ d = 2 ∨ d = 3 ∨ d = 4 ∨ d = 8 ∨ d = 10 ∨ d = 12 ∨ d = 13) with rfl | rfl | rfl | rfl | rfl | rfl | rfl | rfl
  · rfl
  · rfl
  · rfl
  · rfl
  · rfl
  · rfl
  · have : (mac0 p now xs).op 12 a b = some (match p.box with | [] => (mac0 p now xs).put a 0 | x :: r => { (mac0 p now xs) with p := { p with box := r } }.put a x) := rfl
    unfold Pt.opd
    rw [this]
    cases p.box <;> rfl
  · have : (mac0 p now xs).op 13 a b = (if (mac0 p now xs).cell b < 8 then some ((mac0 p now xs).put a ((mac0 p now xs).cell ((mac0 p now xs).cell b))) else none) := rfl
    unfold Pt.opd
    by_cases hf : (mac0 p now xs).cell b < 8
    · rw [if_pos hf] at this
      rw [this]
      rfl
    · rw [if_neg hf] at this
      rw [this]
theorem opd5 (p : Pt) (now : Int) (xs : List Int) (a b : Int) : p.opd now xs 5 a b = (p, xs, [], if p.cells.getD a.toNat 0 > 0 then b else p.pc + 1) := by
  have : (mac0 p now xs).op 5 a b = some (if p.cells.getD a.toNat 0 > 0 then { (mac0 p now xs) with next := b, jumps := true } else mac0 p now xs) := rfl
  unfold Pt.opd
  rw [this]
  by_cases h : p.cells.getD a.toNat 0 > 0
  · simp only [if_pos h]; rfl
  · simp only [if_neg h]; rfl
/-- Five stores into one block leave the others. -/
theorem keep5 (W : World) (B : Nat) (u0 u1 u2 u3 u4 : Value) (x : Nat) (hx : x ≠ B) : (((((W.setCell ⟨B, 0, none⟩ u0).setCell ⟨B, 1, none⟩ u1).setCell ⟨B, 2, none⟩ u2).setCell ⟨B, 3, none⟩ u3).setCell ⟨B, 4, none⟩ u4).heap[x]? = W.heap[x]? := by
  rw [Below.heap_setCell _ _ _ _ (by exact hx), Below.heap_setCell _ _ _ _ (by exact hx), Below.heap_setCell _ _ _ _ (by exact hx), Below.heap_setCell _ _ _ _ (by exact hx), Below.heap_setCell _ _ _ _ (by exact hx)]
set_option maxHeartbeats 2000000
set_option maxRecDepth 100000
theorem lstep_c (p : Pt) (now : Int) (xs : List Int) (d a b : Int) (A1 A3 : Option Addr) (n1 c1 c3 c4 gc oc c2 gq oq : Nat) (f1 f3 : List Nat) (w : World) (hOk : (mac0 p now xs).Ok) (h : PtF w p (.slice A1 n1 c1) (.slice (some ⟨gc, oc, none⟩) 8 c2) (.slice A3 p.box.length c3) f1 [gc] f3) (hx : SL kI w (.slice (some ⟨gq, oq, none⟩) 4 c4) xs [gq]) (hz : ∀ o, w.frozen? ⟨gc, o, none⟩ = false) (hzq : ∀ o, w.frozen? ⟨gq, o, none⟩ = false) (g1 : gc ∉ f1) (g3 : gc ∉ f3) (k1 : gq ∉ f1) (k3 : gq ∉ f3) (gk : gc ≠ gq) (hpr : p.prog[p.pc.toNat]? = some (d, a, b)) (hfl : p.fails = false) :
    Calls Try.prog 44 #[.agg #[.slice A1 n1 c1, .slice (some ⟨gc, oc, none⟩) 8 c2, .int .i64 p.pc, .bool p.fails, .slice A3 p.box.length c3], .int .i64 now, .slice (some ⟨gq, oq, none⟩) 4 c4] w (LStepQ w (LRes (p.opd now xs d a b) n1 d) A1 n1 c1 gc oc c2 (.slice (some ⟨gq, oq, none⟩) 4 c4) gq f1 f3) := by
  obtain ⟨Z, hZ⟩ : ∃ Z, Z = LRes (p.opd now xs d a b) n1 d := ⟨_, rfl⟩
  rw [← hZ]
  replace hZ := Lib.hid hZ
  have hop := prog_op hOk.prog hpr
  obtain ⟨⟨d0, d1⟩, ⟨a0, a1⟩, b0, r1, r2, r3, r4⟩ := op_range hop
  obtain ⟨p0, p1⟩ := hOk.pc
  have hn1 : n1 = p.prog.length := by
    obtain ⟨_, _, e1, _⟩ := h.prog.form
    injection e1
  obtain ⟨d', a', b', gp, op, hpx, rfl, hp0, hp1, hp2⟩ := h.prog.ops.at (i := p.pc.toNat) (by rw [hn1]; have := p1; simp only [mac0] at this p0; omega)
  rw [hpr] at hpx
  injection hpx with hpx
  injection hpx with e1 hpx
  injection hpx with e2 e3
  subst e1 e2 e3
  have hgp := World.block_lt_of_cell? w _ hp0
  simp only at hgp
  obtain ⟨n3, hn3⟩ : ∃ n, n = p.box.length := ⟨_, rfl⟩
  obtain ⟨pc, hpc⟩ : ∃ n, n = p.pc := ⟨_, rfl⟩
  obtain ⟨fl, hfl'⟩ : ∃ n, n = p.fails := ⟨_, rfl⟩
  simp only [mac0] at p0 p1
  rw [← hn1] at p1
  rw [← hpc] at p0 p1 hp0 hp1 hp2 ⊢
  rw [← hn3, ← hfl']
  have hS := Lib.hid h
  have hX := Lib.hid hx
  clear h hx
  have e1 : IntKind.i64.wrap (pc + 1) = pc + 1 := wr (by omega) (by have := hS.out.prog.ops.1; omega)
  have hgp1 : gp < w.heap.size + 1 := by omega
  have hgp2 : gp < w.heap.size + 1 + 1 := by omega
  have hgp3 : gp < w.heap.size + 1 + 1 + 1 := by omega
  have hgp4 : gp < w.heap.size + 1 + 1 + 1 + 1 := by omega
  have hq1 : w.heap.size < w.heap.size + 1 + 1 := by omega
  have hq2 : w.heap.size < w.heap.size + 1 + 1 + 1 := by omega
  have hq3 : w.heap.size < w.heap.size + 1 + 1 + 1 + 1 := by omega
  replace hn1 := Lib.hid hn1
  replace hn3 := Lib.hid hn3
  replace hpc := Lib.hid hpc
  replace hfl' := Lib.hid hfl'
  replace hfl := Lib.hid hfl
  replace hpr := Lib.hid hpr
  go_enter Try.func44, Try.ntmps44
  go_upto_block 0 with fail
  obtain ⟨W0, hW0⟩ : ∃ W, W = (((w.alloc (.cells #[.slice (some ⟨gp, op, none⟩) n1 c1, .slice (some ⟨gc, oc, none⟩) 8 c2, .int .i64 pc, .bool fl, .slice A3 n3 c3] 26)).alloc (.cells #[.slice none 0 0, .slice none 0 0, .int .i64 0, .bool false, .slice none 0 0] 26)).alloc (.cells #[] 76)).alloc (.cells #[.int .i64 d, .int .i64 a, .int .i64 b] 44) := ⟨_, rfl⟩
  rw [← hW0]
  have hB0 : Below w.heap.size w W0 := by rw [hW0]; exact (by repeat (first | (with_reducible exact Below.refl _ _) | (with_reducible assumption) | (with_reducible refine Below.drew ?_) | (with_reducible refine below_drewN' ?_ _) | (with_reducible refine Below.setCell ?_ (by first | (simp; done) | (simp; omega) | omega) _) | (with_reducible refine Below.alloc ?_ (by first | (simp; done) | (simp; omega) | omega) _) | (with_reducible refine Below.trans ?_ (Below.mono (by assumption) (by first | (simp; done) | (simp; omega) | omega)))))
  have hz0 : W0.heap.size = w.heap.size + 4 := by rw [hW0]; simp
  have hb0 : W0.heap[w.heap.size]? = some (.cells #[.slice (some ⟨gp, op, none⟩) n1 c1, .slice (some ⟨gc, oc, none⟩) 8 c2, .int .i64 pc, .bool fl, .slice A3 n3 c3] 26) := by rw [hW0]; exact heap_up (heap_up (heap_up (heap_top _ _ rfl) _) _) _
  have hb1 : W0.heap[w.heap.size + 1]? = some (.cells #[.slice none 0 0, .slice none 0 0, .int .i64 0, .bool false, .slice none 0 0] 26) := by rw [hW0]; exact heap_up (heap_up (heap_top _ _ (by simp)) _) _
  have hb2 : W0.heap[w.heap.size + 1 + 1]? = some (.cells #[] 76) := by rw [hW0]; exact heap_up (heap_top _ _ (by simp)) _
  have hb3 : W0.heap[w.heap.size + 1 + 1 + 1]? = some (.cells #[.int .i64 d, .int .i64 a, .int .i64 b] 44) := by rw [hW0]; exact heap_top _ _ (by simp)
  clear hW0
  have hz0a : W0.heap.size ≤ w.heap.size + 4 := by omega
  have hz0b : w.heap.size + 4 ≤ W0.heap.size := by omega
  clear hz0
  have hS0 := Lib.hid (hS.out.below hB0)
  have hX0 := Lib.hid (hX.out.below hB0)
  have hgc : gc < w.heap.size := hS.out.cells.lt gc (by simp)
  have hf1 := hS.out.prog.lt
  have hf3 := hS.out.box.lt
  have hgq : gq < w.heap.size := hX.out.lt gq (by simp)
  have hz' : ∀ o, W0.frozen? ⟨gc, o, none⟩ = false := fun o => (hB0.frozen (p := ⟨gc, o, none⟩) hgc).trans (hz o)
  have hzq' : ∀ o, W0.frozen? ⟨gq, o, none⟩ = false := fun o => (hB0.frozen (p := ⟨gq, o, none⟩) hgq).trans (hzq o)
  have hrow : W0.ownsRow w.heap.size 76 2 (.slice (some ⟨w.heap.size + 1 + 1, 0, none⟩) 0 0) 0 [] := ⟨rfl, .inr ⟨w.heap.size + 1 + 1, 0, #[], rfl, by omega, hb2, Nat.le_refl _, by simp [maxLen], rfl, rfl⟩⟩
  have km := fun o => blk_cell hb0 o
  have ko := fun o => blk_cell hb3 o
  replace hz := Lib.hid hz'
  replace hzq := Lib.hid hzq'
  clear hz' hzq' hp0 hp1 hp2 hS hX
  obtain ⟨q, hq⟩ : ∃ q, q = p.opd now xs d a b := ⟨_, rfl⟩
  replace hq := Lib.hid hq
  replace hrow := Lib.hid hrow
  go_cut [10, 12] (fun v10 v12 W => MidR w q.1 q.2.1 q.2.2.1 q.2.2.2 (some ⟨gp, op, none⟩) n1 c1 gc oc c2 (.slice (some ⟨gq, oq, none⟩) 4 c4) gq f1 f3 d a b v10 v12 W)
  case first =>
    have hlen8 : p.cells.length = 8 := hOk.len
    have hcl := hS0.out.cells
    rw [← hlen8] at hcl
    obtain ⟨_, _, ee1, _, kc⟩ := cell_of hcl a0 (by omega)
    injection ee1 with ee1
    injection ee1 with ee1 ee2
    subst ee1 ee2
    obtain ⟨x, hx⟩ : ∃ x, p.cells.getD a.toNat 0 = x := ⟨_, rfl⟩
    rw [hx] at kc
    replace hx := Lib.hid hx
    have ha8 : a < ((8 : Nat) : Int) := by omega
    clear hcl hlen8
    by_cases hd5 : d = 5
    · subst hd5
      have h5 := opd5 p now xs a b
      rw [hx.out] at h5
      by_cases hx0 : x > 0
      · rw [if_pos hx0] at h5
        replace h5 := Lib.hid h5
        go_wp2_with fail
        go_meet
        case rel =>
          have er := hq.out
          subst er
          rw [h5.out]
          rw [hpc.out, hfl'.out, hn3.out] at hb0
          exact ⟨A3, c3, f3, _, _, rfl, rfl, hb0, hb1, hb3, hS0.out, fun x hx => hx, hX0.out, hrow.out, KeptK.of_below hB0 _, by omega, fun x hx => by simp [Value.ownBlock] at hx; omega⟩
      · rw [if_neg hx0] at h5
        replace h5 := Lib.hid h5
        go_wp2_with fail
        go_meet
        case rel =>
          have er := hq.out
          subst er
          rw [h5.out, hpc.out]
          rw [hpc.out, hfl'.out, hn3.out] at hb0
          exact ⟨A3, c3, f3, _, _, rfl, rfl, hb0, hb1, hb3, hS0.out, fun x hx => hx, hX0.out, hrow.out, KeptK.of_below hB0 _, by omega, fun x hx => by simp [Value.ownBlock] at hx; omega⟩
    by_cases hd6 : d = 6
    · subst hd6
      have h5 : p.opd now xs 6 a b = (p, xs, [(false, x)], p.pc + 1) := by rw [← hx.out]; rfl
      replace h5 := Lib.hid h5
      obtain ⟨i0, hi, hzz⟩ := Option.map_eq_some_iff.1 said_info
      simp only [Prod.mk.injEq] at hzz
      obtain ⟨hi0, hi1, hi2⟩ := hzz
      replace hi := Lib.hid hi
      replace hi0 := Lib.hid hi0
      replace hi1 := Lib.hid hi1
      replace hi2 := Lib.hid hi2
      have hrow1 := Lib.hid (hrow.out.alloc (.cells #[.bool false, .int .i64 x] 76))
      have hnews := Lib.hid (World.news_of_block (heap_top W0 (.cells #[.bool false, .int .i64 x] 76) rfl))
      go_wp2_with (at_builtin; refine wpList_append_own_at _ rfl _ _ 29 rfl w.heap.size 76 i0 (.agg #[.bool false, .int .i64 0]) 2 16 Try.underlying29 hi.out hi0.out hi1.out hi2.out rfl (by decide) (.slice (some ⟨w.heap.size + 1 + 1, 0, none⟩) 0 0) 0 [] rfl hrow1.out ⟨W0.heap.size, 0, none⟩ 1 1 [.bool false, .int .i64 x] rfl rfl hnews.out (by intro u hu; simp at hu; rcases hu with rfl | rfl <;> rfl) (by simp [maxLen]) (by omega) (by simp; omega) ?_; intro v5 w5 hown hgr hnil hob; obtain ⟨A6, c6, rfl⟩ := row_form hown; replace hown := Lib.hid hown; replace hgr := Lib.hid hgr; replace hob := Lib.hid hob; clear hnil)
      go_meet
      case rel =>
        have er := hq.out
        subst er
        rw [h5.out]
        have kk : ∀ y, y < w.heap.size + 4 → y ≠ w.heap.size + 1 + 1 → w5.heap[y]? = W0.heap[y]? := fun y hy hne => (hgr.out.block y (by simp; omega) (by simp [Value.ownBlock]; omega)).trans (Below.heap_alloc _ _ _ (by omega))
        have hne : ∀ y ∈ f1 ++ ([gc] ++ f3), y < w.heap.size := fun y hy => by
          simp only [List.mem_append, List.mem_singleton] at hy
          rcases hy with hy | rfl | hy
          · exact hf1 y hy
          · exact hgc
          · exact hf3 y hy
        rw [hpc.out, hfl'.out, hn3.out] at hb0
        have hs5 := hgr.out.size
        simp only [World.size_alloc] at hs5
        refine ⟨A3, c3, f3, A6, c6, rfl, by rw [hpc.out], (kk _ (by omega) (by omega)).trans hb0, (kk _ (by omega) (by omega)).trans hb1, (kk _ (by omega) (by omega)).trans hb3, hS0.out.keep (fun y hy => kk y (by have := hne y hy; omega) (by have := hne y hy; omega)), fun y hy => hy, hX0.out.keep (fun y hy => kk y (by simp at hy; omega) (by simp at hy; omega)), hown.out, KeptK.of_below ⟨hgr.out.os.trans hB0.os, hgr.out.tape.trans hB0.tape, hgr.out.output.trans hB0.output, by omega, fun y hy => (kk y (by omega) (by omega)).trans (hB0.block y hy)⟩ _, by omega, fun y hy => by rcases hob.out with e | e; (rw [show Value.ownBlock (.slice A6 ([(false, x)] : List Sd).length c6) = _ from e] at hy; simp [Value.ownBlock] at hy; omega); (rw [show Value.ownBlock (.slice A6 ([(false, x)] : List Sd).length c6) = _ from e] at hy; simp at hy; omega)⟩
    by_cases hd7 : d = 7
    · subst hd7
      have h5 : p.opd now xs 7 a b = (p, xs, [(true, x)], p.pc + 1) := by rw [← hx.out]; rfl
      replace h5 := Lib.hid h5
      obtain ⟨i0, hi, hzz⟩ := Option.map_eq_some_iff.1 said_info
      simp only [Prod.mk.injEq] at hzz
      obtain ⟨hi0, hi1, hi2⟩ := hzz
      replace hi := Lib.hid hi
      replace hi0 := Lib.hid hi0
      replace hi1 := Lib.hid hi1
      replace hi2 := Lib.hid hi2
      have hrow1 := Lib.hid (hrow.out.alloc (.cells #[.bool true, .int .i64 x] 76))
      have hnews := Lib.hid (World.news_of_block (heap_top W0 (.cells #[.bool true, .int .i64 x] 76) rfl))
      go_wp2_with (at_builtin; refine wpList_append_own_at _ rfl _ _ 29 rfl w.heap.size 76 i0 (.agg #[.bool false, .int .i64 0]) 2 16 Try.underlying29 hi.out hi0.out hi1.out hi2.out rfl (by decide) (.slice (some ⟨w.heap.size + 1 + 1, 0, none⟩) 0 0) 0 [] rfl hrow1.out ⟨W0.heap.size, 0, none⟩ 1 1 [.bool true, .int .i64 x] rfl rfl hnews.out (by intro u hu; simp at hu; rcases hu with rfl | rfl <;> rfl) (by simp [maxLen]) (by omega) (by simp; omega) ?_; intro v5 w5 hown hgr hnil hob; obtain ⟨A6, c6, rfl⟩ := row_form hown; replace hown := Lib.hid hown; replace hgr := Lib.hid hgr; replace hob := Lib.hid hob; clear hnil)
      go_meet
      case rel =>
        have er := hq.out
        subst er
        rw [h5.out]
        have kk : ∀ y, y < w.heap.size + 4 → y ≠ w.heap.size + 1 + 1 → w5.heap[y]? = W0.heap[y]? := fun y hy hne => (hgr.out.block y (by simp; omega) (by simp [Value.ownBlock]; omega)).trans (Below.heap_alloc _ _ _ (by omega))
        have hne : ∀ y ∈ f1 ++ ([gc] ++ f3), y < w.heap.size := fun y hy => by
          simp only [List.mem_append, List.mem_singleton] at hy
          rcases hy with hy | rfl | hy
          · exact hf1 y hy
          · exact hgc
          · exact hf3 y hy
        rw [hpc.out, hfl'.out, hn3.out] at hb0
        have hs5 := hgr.out.size
        simp only [World.size_alloc] at hs5
        refine ⟨A3, c3, f3, A6, c6, rfl, by rw [hpc.out], (kk _ (by omega) (by omega)).trans hb0, (kk _ (by omega) (by omega)).trans hb1, (kk _ (by omega) (by omega)).trans hb3, hS0.out.keep (fun y hy => kk y (by have := hne y hy; omega) (by have := hne y hy; omega)), fun y hy => hy, hX0.out.keep (fun y hy => kk y (by simp at hy; omega) (by simp at hy; omega)), hown.out, KeptK.of_below ⟨hgr.out.os.trans hB0.os, hgr.out.tape.trans hB0.tape, hgr.out.output.trans hB0.output, by omega, fun y hy => (kk y (by omega) (by omega)).trans (hB0.block y hy)⟩ _, by omega, fun y hy => by rcases hob.out with e | e; (rw [show Value.ownBlock (.slice A6 ([(true, x)] : List Sd).length c6) = _ from e] at hy; simp [Value.ownBlock] at hy; omega); (rw [show Value.ownBlock (.slice A6 ([(true, x)] : List Sd).length c6) = _ from e] at hy; simp at hy; omega)⟩
    by_cases hd9 : d = 9
    · subst hd9
      have h5 : p.opd now xs 9 a b = (p, xs.set b.toNat x, [], p.pc + 1) := by rw [← hx.out]; rfl
      replace h5 := Lib.hid h5
      have hxl : xs.length = 4 := hOk.plen
      have hXX := hX0.out
      rw [← hxl] at hXX
      have hb4 := r3 (.inl rfl)
      obtain ⟨_, _, ee1, _, kq⟩ := cell_of hXX b0 (by omega)
      injection ee1 with ee1
      injection ee1 with ee1 ee2
      subst ee1 ee2
      have hset := (hXX.setI b.toNat x (by omega)).1
      rw [hxl] at hset
      replace hset := Lib.hid hset
      have hb44 : b < ((4 : Nat) : Int) := by omega
      have zq := hzq.out (oq + b.toNat)
      clear hXX
      replace hxl := Lib.hid hxl
      go_wp2_with fail
      refine still_tail 10 (by kernel_rfl) (by kernel_rfl) ?_
      simp only [List.take_succ_cons, List.take_zero, List.drop_succ_cons, List.drop_zero]
      repeat still_step
      refine wpStill_nil ?_
      go_wp2_with fail
      go_meet
      case rel =>
        have er := hq.out
        subst er
        rw [h5.out]
        rw [hpc.out, hfl'.out, hn3.out] at hb0
        have kk : ∀ y, y ≠ gq → (W0.setCell ⟨gq, oq + b.toNat, none⟩ (.int .i64 x)).heap[y]? = W0.heap[y]? := fun y hy => Below.heap_setCell _ _ _ _ (by exact hy)
        refine ⟨A3, c3, f3, _, _, rfl, by rw [hpc.out], (kk _ (by omega)).trans hb0, (kk _ (by omega)).trans hb1, (kk _ (by omega)).trans hb3, hS0.out.keep (fun y hy => kk y (fun e => by subst e; simp only [List.mem_append, List.mem_singleton] at hy; rcases hy with hy | hy | hy; exact k1 hy; exact gk hy.symm; exact k3 hy)), fun y hy => hy, hset.out.keep (fun _ _ => rfl), ownsRow_keep hrow.out (fun y hy => kk y (by simp [Value.ownBlock] at hy; omega)), ((KeptK.of_below hB0 _).set (.inl (by simp)) _).drew, by simp; omega, fun x hx => by simp [Value.ownBlock] at hx; omega⟩
    by_cases hd11 : d = 11
    · subst hd11
      have h5 : p.opd now xs 11 a b = (p, xs, [], p.pc + 1) := rfl
      replace h5 := Lib.hid h5
      go_wp2_with fail
      go_meet
      case rel =>
        have er := hq.out
        subst er
        rw [h5.out, hpc.out]
        rw [hpc.out, hfl'.out, hn3.out] at hb0
        exact ⟨A3, c3, f3, _, _, rfl, rfl, hb0, hb1, hb3, hS0.out, fun x hx => hx, hX0.out, hrow.out, KeptK.of_below hB0 _, by omega, fun x hx => by simp [Value.ownBlock] at hx; omega⟩
    have d5 : (d == 5) = false := beq_eq_false_iff_ne.2 hd5
    have d6 : (d == 6) = false := beq_eq_false_iff_ne.2 hd6
    have d7 : (d == 7) = false := beq_eq_false_iff_ne.2 hd7
    have d9 : (d == 9) = false := beq_eq_false_iff_ne.2 hd9
    have d11 : (d == 11) = false := beq_eq_false_iff_ne.2 hd11
    have hdoes := does_c p now xs d a b _ (some ⟨gp, op, none⟩) A3 (some ⟨gq, oq, none⟩) n1 c1 c3 4 c4 gc oc c2 f1 f3 [gq] W0 hOk hS0.out hX0.out hz.out g1 g3 hop ⟨hd5, hd6, hd7, hd9, hd11⟩
    rw [← hn3.out, ← hpc.out, ← hfl'.out] at hdoes
    replace hdoes := Lib.hid hdoes
    go_wp2_with fail
    refine hdoes.out.mono ?_
    rintro e w1 ⟨A3', c3', f3', rfl, hP, hsub, hK⟩
    have hz1 := hK.size
    have hb0' := (hK.block w.heap.size (by omega) (by simp; omega)).trans hb0
    have km1 := fun o => blk_cell hb0' o
    have zm1 := fun o => blk_frozen hb0' o
    replace hP := Lib.hid hP
    go_wp2_with fail
    go_meet
    case rel =>
      have hor := opd_rest p now xs d a b d0 d1 ⟨hd5, hd6, hd7, hd9, hd11⟩
      have er := hq.out
      subst er
      rw [hor, hpc.out]
      have hne : ∀ x ∈ f1 ++ ([gc] ++ f3'), x ≠ w.heap.size := fun x hx => by
        simp only [List.mem_append, List.mem_singleton] at hx
        rcases hx with hx | rfl | hx
        · have := hf1 x hx; omega
        · omega
        · have := hf3 x (hsub x hx); omega
      refine ⟨A3', c3', f3', _, _, rfl, rfl, blk_put (blk_put (blk_put (blk_put (blk_put hb0' 0 _) 1 _) 2 _) 3 _) 4 _, (keep5 _ _ _ _ _ _ _ _ (by omega)).trans ((hK.block _ (by omega) (by simp; omega)).trans hb1), (keep5 _ _ _ _ _ _ _ _ (by omega)).trans ((hK.block _ (by omega) (by simp; omega)).trans hb3), hP.out.keep (fun x hx => keep5 _ _ _ _ _ _ _ _ (hne x hx)), hsub, (hX0.out.kept hK.toKept (by simp; exact gk.symm)).keep (fun x hx => keep5 _ _ _ _ _ _ _ _ (by simp at hx; omega)), ownsRow_keep hrow.out (fun x hx => (keep5 _ _ _ _ _ _ _ _ (by simp [Value.ownBlock] at hx; omega)).trans (hK.block _ (by simp [Value.ownBlock] at hx; omega) (by simp [Value.ownBlock] at hx; simp; omega))), ?_, by simp; omega, fun x hx => by simp [Value.ownBlock] at hx; omega⟩
      exact (((((((KeptK.of_below hB0 _).trans hK (fun x hx => .inl (by simp at hx; simp [hx]))).set (.inr (by simp)) _).set (.inr (by simp)) _).set (.inr (by simp)) _).set (.inr (by simp)) _).set (.inr (by simp)) _)
  case rest =>
    obtain ⟨A3', c3', f3', A5, c5, rfl, rfl, hbc0, hbc1, hbc3, hPc, hsub, hXc, hrowc, hKc, hszc, hrc⟩ := hcut
    have hZ' := hZ.out
    rw [← hq.out] at hZ'
    obtain ⟨⟨pg', cl', pc', fl', bx'⟩, xs', sd', nx'⟩ := q
    simp only at *
    obtain ⟨f5, hs5, ho5, hb5⟩ := sl_of_row (enc := encS) (sz := 2) (hl := fun _ => rfl) hrowc (by decide)
    have kmc := fun o => blk_cell hbc0 o
    have zmc := fun o => blk_frozen hbc0 o
    have kmr := fun o => blk_cell hbc1 o
    have zmr := fun o => blk_frozen hbc1 o
    have koc := fun o => blk_cell hbc3 o
    have hf5 : ∀ x ∈ f5, x ≠ w.heap.size ∧ x ≠ w.heap.size + 1 := fun x hx => by have := hrc x (by rw [hb5 x hx]; simp); omega
    unfold LRes at hZ'
    simp only at hZ'
    replace hPc := Lib.hid hPc
    replace hs5 := Lib.hid hs5
    replace ho5 := Lib.hid ho5
    clear hZ hq hrowc hb5 hS0 hX0 hz hzq hrow km ko hb0 hb1 hb2 hb3
    cases fl'
    · rw [if_neg Bool.false_ne_true] at hZ'
      by_cases hge : nx' ≥ n1
      · rw [if_pos hge] at hZ'
        replace hZ' := Lib.hid hZ'
        go_wp2_with fail
        refine bodyPost_ret (v := .tuple #[.agg #[.slice (some ⟨gp, op, none⟩) n1 c1, .slice (some ⟨gc, oc, none⟩) 8 c2, .int .i64 (0), .bool false, .slice A3' bx'.length c3'], .slice (some ⟨gq, oq, none⟩) 4 c4, .slice A5 sd'.length c5, .bool false]) (by simp [results, Try.results44, go_sem, kmr]) rfl ?_
        generalize hW' : World.setCell _ _ _ = W'
        replace hW' := Lib.hid hW'.symm
        have hk : ∀ x, x ≠ w.heap.size → x ≠ w.heap.size + 1 → W'.heap[x]? = wc.heap[x]? := fun x h0 h1 => by rw [hW'.out]; exact (keep5 _ _ _ _ _ _ _ _ h1).trans (Below.heap_setCell _ _ _ _ (by exact h0))
        have hKW : KeptK [gc, gq] w W' := by rw [hW'.out]; exact ((((((hKc.set (.inr (by simp)) _).set (.inr (by simp)) _).set (.inr (by simp)) _).set (.inr (by simp)) _).set (.inr (by simp)) _).set (.inr (by simp)) _)
        have hsW : wc.heap.size ≤ W'.heap.size := by rw [hW'.out]; simp
        have z := hZ'.out
        subst z
        have hne : ∀ x ∈ f1 ++ ([gc] ++ f3'), x < w.heap.size := fun x hx => by
          simp only [List.mem_append, List.mem_singleton] at hx
          rcases hx with hx | rfl | hx
          · exact hf1 x hx
          · exact hgc
          · exact hf3 x (hsub x hx)
        have hk' : ∀ x, x < w.heap.size → W'.heap[x]? = wc.heap[x]? := fun x hx => hk x (by omega) (by omega)
        exact ⟨A3', c3', f3', A5, c5, f5, rfl, (hPc.out.keep (fun x hx => hk' x (hne x hx))).pc _, hsub, hXc.keep (fun x hx => hk' x (by simp at hx; omega)), hs5.out.keep (fun x hx => hk x (hf5 x hx).1 (hf5 x hx).2), (ho5.out.keep (fun x hx => hk x (hf5 x hx).1 (hf5 x hx).2)).mono (Nat.le_refl _) hsW, hKW⟩
      · rw [if_neg hge] at hZ'
        replace hZ' := Lib.hid hZ'
        go_wp2_with fail
        obtain ⟨wd, hwd⟩ : ∃ W, W = wc.setCell ⟨w.heap.size, 2, none⟩ (.int .i64 nx') := ⟨_, rfl⟩
        rw [← hwd]
        have hbc3' := hbc3
        have hd0 : wd.heap[w.heap.size]? = some (.cells #[.slice (some ⟨gp, op, none⟩) n1 c1, .slice (some ⟨gc, oc, none⟩) 8 c2, .int .i64 nx', .bool false, .slice A3' bx'.length c3'] 26 (0, 0)) := by rw [hwd]; exact blk_put hbc0 2 _
        have hd1 : wd.heap[w.heap.size + 1]? = some (.cells #[.slice none 0 0, .slice none 0 0, .int .i64 0, .bool false, .slice none 0 0] 26) := by rw [hwd]; exact blk_set hbc1 _ _ (by omega)
        have hd3 : wd.heap[w.heap.size + 1 + 1 + 1]? = some (.cells #[.int .i64 d, .int .i64 a, .int .i64 b] 44) := by rw [hwd]; exact blk_set hbc3 _ _ (by omega)
        have hkd : ∀ x, x ≠ w.heap.size → wd.heap[x]? = wc.heap[x]? := fun x h0 => by rw [hwd]; exact Below.heap_setCell _ _ _ _ (by exact h0)
        have hKd : KeptK [gc, gq] w wd := by rw [hwd]; exact hKc.set (.inr (by simp)) _
        have hsd : wc.heap.size ≤ wd.heap.size := by rw [hwd]; simp
        clear hwd kmc zmc kmr zmr koc
        have kmr := fun o => blk_cell hd1 o
        have zmr := fun o => blk_frozen hd1 o
        have hh5 : ∀ x, x ≠ w.heap.size + 1 → (((((wd.setCell ⟨w.heap.size + 1, 0, none⟩ (.slice (some ⟨gp, op, none⟩) n1 c1)).setCell ⟨w.heap.size + 1, 1, none⟩ (.slice (some ⟨gc, oc, none⟩) 8 c2)).setCell ⟨w.heap.size + 1, 2, none⟩ (.int .i64 nx')).setCell ⟨w.heap.size + 1, 3, none⟩ (.bool false)).setCell ⟨w.heap.size + 1, 4, none⟩ (.slice A3' bx'.length c3')).drew.heap[x]? = wd.heap[x]? := fun x hx => keep5 wd _ _ _ _ _ _ x hx
        have hX2 : ∀ W, (W = wd.drew ∨ W = (((((wd.setCell ⟨w.heap.size + 1, 0, none⟩ (.slice (some ⟨gp, op, none⟩) n1 c1)).setCell ⟨w.heap.size + 1, 1, none⟩ (.slice (some ⟨gc, oc, none⟩) 8 c2)).setCell ⟨w.heap.size + 1, 2, none⟩ (.int .i64 nx')).setCell ⟨w.heap.size + 1, 3, none⟩ (.bool false)).setCell ⟨w.heap.size + 1, 4, none⟩ (.slice A3' bx'.length c3')).drew) → (∀ o, W.cell? ⟨w.heap.size, o, none⟩ = (#[.slice (some ⟨gp, op, none⟩) n1 c1, .slice (some ⟨gc, oc, none⟩) 8 c2, .int .i64 nx', .bool false, .slice A3' bx'.length c3'] : Array Value)[o]?) ∧ (∀ o, W.cell? ⟨w.heap.size + 1 + 1 + 1, o, none⟩ = (#[.int .i64 d, .int .i64 a, .int .i64 b] : Array Value)[o]?) := fun W hW => by
          rcases hW with rfl | rfl
          · exact ⟨fun o => blk_cell hd0 o, fun o => blk_cell hd3 o⟩
          · exact ⟨fun o => blk_cell ((hh5 _ (by omega)).trans hd0) o, fun o => blk_cell ((hh5 _ (by omega)).trans hd3) o⟩
        replace hX2 := Lib.hid hX2
        replace hh5 := Lib.hid hh5
        apply region_invL (PQ := fun _ _ => False) (VV [IsV _, IsV _, IsV _, IsV _, IsV _, IsV _, IsV _, IsV _, IsV _, IsV _]) (fun bs W => (Hid True) ∧ W = (if bs 6 = true then ((((((wd.setCell ⟨w.heap.size + 1, 0, none⟩ (.slice (some ⟨gp, op, none⟩) n1 c1)).setCell ⟨w.heap.size + 1, 1, none⟩ (.slice (some ⟨gc, oc, none⟩) 8 c2)).setCell ⟨w.heap.size + 1, 2, none⟩ (.int .i64 nx')).setCell ⟨w.heap.size + 1, 3, none⟩ (.bool false)).setCell ⟨w.heap.size + 1, 4, none⟩ (.slice A3' bx'.length c3')).drew) else (wd.drew))) (fun _ _ => True) (by kernel_rfl) 101 rfl (by kernel_rfl)
        case hp =>
          exact fun _ _ _ _ h => h.elim
        case h0 =>
          exact ⟨Lib.hid trivial, by simp⟩
        case hsteps =>
          refine ⟨?_, ?_, ?_, ?_, ?_, ?_, ?_, ?_, ?_, ?_, trivial⟩
          · refine stepOKL_of _ [3] rfl (by kernel_rfl) ?_ rfl
            intro bs ρ W hbj hbn hc hf hn ho hI
            clear hn
            have s3 := ho.1
            simp only [Array.getD_eq_getD_getElem?] at s3
            clear ho
            obtain ⟨j0, j1⟩ := (hX2.out) W (pickW2 hI.2)
            have hI' := Lib.hid hI
            clear hI
            go_simp
            exact postL_mk hI'.out trivial rfl
          · refine stepOKL_of _ [2] rfl (by kernel_rfl) ?_ rfl
            intro bs ρ W hbj hbn hc hf hn ho hI
            clear hn
            have s2 := ho.1
            simp only [Array.getD_eq_getD_getElem?] at s2
            clear ho
            obtain ⟨j0, j1⟩ := (hX2.out) W (pickW2 hI.2)
            have hI' := Lib.hid hI
            clear hI
            go_simp
            exact postL_mk hI'.out trivial rfl
          · refine stepOKL_of _ [10] rfl (by kernel_rfl) ?_ rfl
            intro bs ρ W hbj hbn hc hf hn ho hI
            clear hn
            have s10 := ho.1
            simp only [Array.getD_eq_getD_getElem?] at s10
            clear ho
            obtain ⟨j0, j1⟩ := (hX2.out) W (pickW2 hI.2)
            have hI' := Lib.hid hI
            clear hI
            go_simp
            exact postL_mk hI'.out trivial rfl
          · refine stepOKL_of _ [11] rfl (by kernel_rfl) ?_ rfl
            intro bs ρ W hbj hbn hc hf hn ho hI
            clear hn
            have s11 := ho.1
            simp only [Array.getD_eq_getD_getElem?] at s11
            clear ho
            obtain ⟨j0, j1⟩ := (hX2.out) W (pickW2 hI.2)
            have hI' := Lib.hid hI
            clear hI
            go_simp
            exact postL_mk hI'.out trivial rfl
          · refine stepOKL_of _ [] rfl (by kernel_rfl) ?_ rfl
            intro bs ρ W hbj hbn hc hf hn ho hI
            obtain ⟨u3, q3, s98⟩ := hn.1
            clear hn
            have q3 : u3 = _ := q3
            subst q3
            have s98 : ρ (.tmp 98) = _ := s98
            clear ho
            obtain ⟨j0, j1⟩ := (hX2.out) W (pickW2 hI.2)
            have hI' := Lib.hid hI
            clear hI
            go_simp
            exact postL_mk hI'.out trivial rfl
          · refine stepOKL_of _ [] rfl (by kernel_rfl) ?_ rfl
            intro bs ρ W hbj hbn hc hf hn ho hI
            obtain ⟨u4, q4, s99⟩ := hn.1
            clear hn
            have q4 : u4 = _ := q4
            subst q4
            have s99 : ρ (.tmp 99) = _ := s99
            clear ho
            obtain ⟨j0, j1⟩ := (hX2.out) W (pickW2 hI.2)
            have hI' := Lib.hid hI
            clear hI
            go_simp
            exact postL_mk hI'.out trivial rfl
          · refine stepOKL_of _ [6] rfl (by kernel_rfl) ?_ rfl
            intro bs ρ W hbj hbn hc hf hn ho hI
            obtain ⟨u0, q0, s95⟩ := hn.1
            clear hn
            have q0 : u0 = _ := q0
            subst q0
            have s95 : ρ (.tmp 95) = _ := s95
            have s6 := ho.1
            simp only [Array.getD_eq_getD_getElem?] at s6
            clear ho
            have hW : W = (wd.drew) := by
              have e := hI.2
              simpa [hbj] using e
            have hch := Lib.hid hI.1
            clear hI
            subst hW
            obtain ⟨j0, j1⟩ := (hX2.out) _ (.inl rfl)
            go_simp
            refine postL_mk ⟨Lib.hid trivial, ?_⟩ trivial rfl
            simp [upB]
          · refine stepOKL_of _ [] rfl (by kernel_rfl) ?_ rfl
            intro bs ρ W hbj hbn hc hf hn ho hI
            obtain ⟨u1, q1, s96⟩ := hn.1
            clear hn
            have q1 : u1 = _ := q1
            subst q1
            have s96 : ρ (.tmp 96) = _ := s96
            clear ho
            obtain ⟨j0, j1⟩ := (hX2.out) W (pickW2 hI.2)
            have hI' := Lib.hid hI
            clear hI
            go_simp
            exact postL_mk hI'.out trivial rfl
          · refine stepOKL_of _ [] rfl (by kernel_rfl) ?_ rfl
            intro bs ρ W hbj hbn hc hf hn ho hI
            obtain ⟨u2, q2, s97⟩ := hn.1
            clear hn
            have q2 : u2 = _ := q2
            subst q2
            have s97 : ρ (.tmp 97) = _ := s97
            clear ho
            obtain ⟨j0, j1⟩ := (hX2.out) W (pickW2 hI.2)
            have hI' := Lib.hid hI
            clear hI
            go_simp
            exact postL_mk hI'.out trivial rfl
          · refine stepOKL_of _ [] rfl (by kernel_rfl) ?_ rfl
            intro bs ρ W hbj hbn hc hf hn ho hI
            obtain ⟨u5, q5, s100⟩ := hn.1
            clear hn
            have q5 : u5 = _ := q5
            subst q5
            have s100 : ρ (.tmp 100) = _ := s100
            clear ho
            obtain ⟨j0, j1⟩ := (hX2.out) W (pickW2 hI.2)
            have hI' := Lib.hid hI
            clear hI
            go_simp
            exact postL_mk hI'.out trivial rfl
        case hst => exact vv_stable ⟨isV_st, isV_st, isV_st, isV_st, isV_st, isV_st, isV_st, isV_st, isV_st, isV_st, trivial⟩
        intro vs bs W hlen hall hI hV
        obtain ⟨x0, x1, x2, x3, x4, x5, x6, x7, x8, x9, rfl⟩ := list_len10_S3 vs hlen
        have y0 : x0 = _ := hV 0 _ rfl
        subst y0
        have y1 : x1 = _ := hV 1 _ rfl
        subst y1
        have y2 : x2 = _ := hV 2 _ rfl
        subst y2
        have y3 : x3 = _ := hV 3 _ rfl
        subst y3
        have y4 : x4 = _ := hV 4 _ rfl
        subst y4
        have y5 : x5 = _ := hV 5 _ rfl
        subst y5
        have y6 : x6 = _ := hV 6 _ rfl
        subst y6
        have y7 : x7 = _ := hV 7 _ rfl
        subst y7
        have y8 : x8 = _ := hV 8 _ rfl
        subst y8
        have y9 : x9 = _ := hV 9 _ rfl
        subst y9
        have hWe : W = ((((((wd.setCell ⟨w.heap.size + 1, 0, none⟩ (.slice (some ⟨gp, op, none⟩) n1 c1)).setCell ⟨w.heap.size + 1, 1, none⟩ (.slice (some ⟨gc, oc, none⟩) 8 c2)).setCell ⟨w.heap.size + 1, 2, none⟩ (.int .i64 nx')).setCell ⟨w.heap.size + 1, 3, none⟩ (.bool false)).setCell ⟨w.heap.size + 1, 4, none⟩ (.slice A3' bx'.length c3')).drew) := by
          have e := hI.2
          simpa [hall 6 (by decide)] using e
        replace hWe := Lib.hid hWe
        clear hV hlen hall hI
        simp only [Exit.then, putAll, Act.put, List.setIfInBounds_toArray, List.set_cons_zero, List.set_cons_succ]
        skip
        obtain ⟨W', hW'⟩ : ∃ W', W' = W := ⟨_, rfl⟩
        rw [← hW'] at hWe ⊢
        clear hW'
        have hW' := hWe
        have hb1 : W'.heap[w.heap.size + 1]? = some (.cells #[.slice (some ⟨gp, op, none⟩) n1 c1, .slice (some ⟨gc, oc, none⟩) 8 c2, .int .i64 nx', .bool false, .slice A3' bx'.length c3'] 26 (0, 0)) := by
          rw [hW'.out]
          exact blk_put (blk_put (blk_put (blk_put (blk_put hd1 0 (.slice (some ⟨gp, op, none⟩) n1 c1)) 1 (.slice (some ⟨gc, oc, none⟩) 8 c2)) 2 (.int .i64 nx')) 3 (.bool false)) 4 (.slice A3' bx'.length c3')
        have k1' := fun o => blk_cell hb1 o
        have hk : ∀ x, x ≠ w.heap.size → x ≠ w.heap.size + 1 → W'.heap[x]? = wc.heap[x]? := fun x h0 h1 => by rw [hW'.out]; exact (hh5.out x h1).trans (hkd x h0)
        have hKW : KeptK [gc, gq] w W' := by rw [hW'.out]; exact (((((hKd.set (.inr (by simp)) _).set (.inr (by simp)) _).set (.inr (by simp)) _).set (.inr (by simp)) _).set (.inr (by simp)) _).drew
        have hsW : wc.heap.size ≤ W'.heap.size := by rw [hW'.out]; simp; exact hsd
        clear hWe hX2 kmr zmr hd0 hd1 hd3 hkd hKd
        go_wp2_with fail
        refine bodyPost_ret (v := .tuple #[.agg #[.slice (some ⟨gp, op, none⟩) n1 c1, .slice (some ⟨gc, oc, none⟩) 8 c2, .int .i64 nx', .bool false, .slice A3' bx'.length c3'], .slice (some ⟨gq, oq, none⟩) 4 c4, .slice A5 sd'.length c5, .bool (d != 11)]) (by simp [results, Try.results44, go_sem, k1']) rfl ?_
        have z := hZ'.out
        subst z
        have hne : ∀ x ∈ f1 ++ ([gc] ++ f3'), x < w.heap.size := fun x hx => by
          simp only [List.mem_append, List.mem_singleton] at hx
          rcases hx with hx | rfl | hx
          · exact hf1 x hx
          · exact hgc
          · exact hf3 x (hsub x hx)
        have hk' : ∀ x, x < w.heap.size → W'.heap[x]? = wc.heap[x]? := fun x hx => hk x (by omega) (by omega)
        exact ⟨A3', c3', f3', A5, c5, f5, rfl, (hPc.out.keep (fun x hx => hk' x (hne x hx))).pc _, hsub, hXc.keep (fun x hx => hk' x (by simp at hx; omega)), hs5.out.keep (fun x hx => hk x (hf5 x hx).1 (hf5 x hx).2), (ho5.out.keep (fun x hx => hk x (hf5 x hx).1 (hf5 x hx).2)).mono (Nat.le_refl _) hsW, hKW⟩
    · rw [if_pos rfl] at hZ'
      replace hZ' := Lib.hid hZ'
      go_wp2_with fail
      refine bodyPost_ret (v := .tuple #[.agg #[.slice (some ⟨gp, op, none⟩) n1 c1, .slice (some ⟨gc, oc, none⟩) 8 c2, .int .i64 (pc'), .bool true, .slice A3' bx'.length c3'], .slice (some ⟨gq, oq, none⟩) 4 c4, .slice A5 sd'.length c5, .bool false]) (by simp [results, Try.results44, go_sem, kmr]) rfl ?_
      generalize hW' : World.setCell _ _ _ = W'
      replace hW' := Lib.hid hW'.symm
      have hk : ∀ x, x ≠ w.heap.size → x ≠ w.heap.size + 1 → W'.heap[x]? = wc.heap[x]? := fun x h0 h1 => by rw [hW'.out]; exact keep5 _ _ _ _ _ _ _ _ h1
      have hKW : KeptK [gc, gq] w W' := by rw [hW'.out]; exact (((((hKc.set (.inr (by simp)) _).set (.inr (by simp)) _).set (.inr (by simp)) _).set (.inr (by simp)) _).set (.inr (by simp)) _)
      have hsW : wc.heap.size ≤ W'.heap.size := by rw [hW'.out]; simp
      have z := hZ'.out
      subst z
      have hne : ∀ x ∈ f1 ++ ([gc] ++ f3'), x < w.heap.size := fun x hx => by
        simp only [List.mem_append, List.mem_singleton] at hx
        rcases hx with hx | rfl | hx
        · exact hf1 x hx
        · exact hgc
        · exact hf3 x (hsub x hx)
      have hk' : ∀ x, x < w.heap.size → W'.heap[x]? = wc.heap[x]? := fun x hx => hk x (by omega) (by omega)
      exact ⟨A3', c3', f3', A5, c5, f5, rfl, (hPc.out.keep (fun x hx => hk' x (hne x hx))).pc _, hsub, hXc.keep (fun x hx => hk' x (by simp at hx; omega)), hs5.out.keep (fun x hx => hk x (hf5 x hx).1 (hf5 x hx).2), (ho5.out.keep (fun x hx => hk x (hf5 x hx).1 (hf5 x hx).2)).mono (Nat.le_refl _) hsW, hKW⟩
end Go.Proofs.Ytkphkkfgphhjcaa
