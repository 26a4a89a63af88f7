/- The reference's step is the program's step: in plain Lean. -/
import Derived.Test.YtkphkkfgphhjcaaS3
namespace Go.Proofs.Ytkphkkfgphhjcaa
open Go.RowKit
set_option linter.unusedSimpArgs false
set_option linter.unusedVariables false

theorem op_some {m m2 : Mac} {d a b : Int} (h0 : 1 ≤ d) (h1 : d ≤ 13) (hj : m.jumps = false) (hr : m.rests = false) (h : m.op d a b = some m2) (n : Int) : ({ m with next := n }.op d a b = some (if m2.jumps = true then m2 else { m2 with next := n })) ∧ m2.p.fails = m.p.fails ∧ m2.p.pc = m.p.pc ∧ m2.p.prog = m.p.prog ∧ m2.rests = (d == 11) ∧ (m2.jumps = true → d = 5 ∧ m2.next = b) := by
  obtain ⟨⟨pg, cl, pc, fl, bx⟩, xs, nw, sd, nx, jb, rb⟩ := m
  simp only at hj hr
  subst hj hr
  rcases (by omega : d = 1 ∨ d = 2 ∨ d = 3 ∨ d = 4 ∨ d = 5 ∨ d = 6 ∨ d = 7 ∨ d = 8 ∨ d = 9 ∨ d = 10 ∨ d = 11 ∨ d = 12 ∨ d = 13) with rfl | rfl | rfl | rfl | rfl | rfl | rfl | rfl | rfl | rfl | rfl | rfl | rfl
  all_goals
    try
      have h' := h
      change some _ = some _ at h'
      injection h' with h'
  · subst h'; exact ⟨rfl, rfl, rfl, rfl, rfl, fun h => nomatch h⟩
  · subst h'; exact ⟨rfl, rfl, rfl, rfl, rfl, fun h => nomatch h⟩
  · subst h'; exact ⟨rfl, rfl, rfl, rfl, rfl, fun h => nomatch h⟩
  · subst h'; exact ⟨rfl, rfl, rfl, rfl, rfl, fun h => nomatch h⟩
  · by_cases hc : cl.getD a.toNat 0 > 0
    · have e : m2 = ⟨⟨pg, cl, pc, fl, bx⟩, xs, nw, sd, b, true, false⟩ := by rw [← h']; exact if_pos hc
      subst e
      refine ⟨?_, rfl, rfl, rfl, rfl, fun _ => ⟨rfl, rfl⟩⟩
      show some (if cl.getD a.toNat 0 > 0 then _ else _) = _
      rw [if_pos hc]
      rfl
    · have e : m2 = ⟨⟨pg, cl, pc, fl, bx⟩, xs, nw, sd, nx, false, false⟩ := by rw [← h']; exact if_neg hc
      subst e
      refine ⟨?_, rfl, rfl, rfl, rfl, fun h => nomatch h⟩
      show some (if cl.getD a.toNat 0 > 0 then _ else _) = _
      rw [if_neg hc]
      rfl
  · subst h'; exact ⟨rfl, rfl, rfl, rfl, rfl, fun h => nomatch h⟩
  · subst h'; exact ⟨rfl, rfl, rfl, rfl, rfl, fun h => nomatch h⟩
  · subst h'; exact ⟨rfl, rfl, rfl, rfl, rfl, fun h => nomatch h⟩
  · subst h'; exact ⟨rfl, rfl, rfl, rfl, rfl, fun h => nomatch h⟩
  · subst h'; exact ⟨rfl, rfl, rfl, rfl, rfl, fun h => nomatch h⟩
  · subst h'; exact ⟨rfl, rfl, rfl, rfl, rfl, fun h => nomatch h⟩
  · cases bx with
    | nil => subst h'; exact ⟨rfl, rfl, rfl, rfl, rfl, fun h => nomatch h⟩
    | cons x r => subst h'; exact ⟨rfl, rfl, rfl, rfl, rfl, fun h => nomatch h⟩
  · change (if cl.getD b.toNat 0 < 8 then _ else _) = _ at h
    by_cases hc : cl.getD b.toNat 0 < 8
    · rw [if_pos hc] at h
      injection h with h
      subst h
      refine ⟨?_, rfl, rfl, rfl, rfl, fun h => nomatch h⟩
      show (if cl.getD b.toNat 0 < 8 then _ else _) = _
      rw [if_pos hc]
      rfl
    · rw [if_neg hc] at h
      cases h
theorem op_none {m : Mac} {d a b : Int} (h0 : 1 ≤ d) (h1 : d ≤ 13) (h : m.op d a b = none) (n : Int) : { m with next := n }.op d a b = none := by
  rcases (by omega : d = 1 ∨ d = 2 ∨ d = 3 ∨ d = 4 ∨ d = 5 ∨ d = 6 ∨ d = 7 ∨ d = 8 ∨ d = 9 ∨ d = 10 ∨ d = 11 ∨ d = 12 ∨ d = 13) with rfl | rfl | rfl | rfl | rfl | rfl | rfl | rfl | rfl | rfl | rfl | rfl | rfl
  all_goals first | (change some _ = none at h; cases h; done) | skip
  change (if m.cell b < 8 then _ else _) = _ at h
  show (if m.cell b < 8 then _ else _) = _
  by_cases hc : m.cell b < 8
  · rw [if_pos hc] at h
    cases h
  · rw [if_neg hc]
theorem lres_eq (p : Pt) (now : Int) (xs : List Int) (d a b : Int) (hOk : (mac0 p now xs).Ok) (hpr : p.prog[p.pc.toNat]? = some (d, a, b)) (hfl : p.fails = false) : LRes (p.opd now xs d a b) p.prog.length d = ((mac0 p now xs).step.1.p, (mac0 p now xs).step.1.ports, (mac0 p now xs).step.1.said, (mac0 p now xs).step.2) := by
  have hop := prog_op hOk.prog hpr
  obtain ⟨⟨d0, d1⟩, ⟨a0, a1⟩, b0, r1, r2, r3, r4⟩ := op_range hop
  obtain ⟨p0, p1⟩ := hOk.pc
  simp only [mac0] at p0 p1 r4
  have hst : (mac0 p now xs).step = (match { (mac0 p now xs) with next := (p.pc + 1) % p.prog.length }.op d a b with
    | none => ({ (mac0 p now xs) with next := (p.pc + 1) % p.prog.length, p := { p with fails := true } }, false)
    | some m2 => ({ m2 with p := { m2.p with pc := m2.next } }, !m2.rests && (m2.jumps || !((p.pc + 1) % p.prog.length == 0)))) := by
    unfold Mac.step
    have e : (mac0 p now xs).p.prog[(mac0 p now xs).p.pc.toNat]? = some (d, a, b) := hpr
    rw [e]
    rfl
  obtain ⟨nx, hnx⟩ : ∃ n : Int, n = (p.pc + 1) % p.prog.length := ⟨_, rfl⟩
  rw [← hnx] at hst
  rw [hst]
  unfold Pt.opd
  cases ho : (mac0 p now xs).op d a b with
  | none =>
    rw [op_none d0 d1 ho]
    rfl
  | some m2 =>
    obtain ⟨e1, e2, e3, e4, e5, e6⟩ := op_some d0 d1 rfl rfl ho nx
    rw [e1]
    have ef : m2.p.fails = false := e2.trans hfl
    unfold LRes
    simp only
    rw [if_neg (by rw [ef]; exact Bool.false_ne_true)]
    cases hj : m2.jumps
    · simp only [Bool.false_eq_true, if_false]
      by_cases hge : p.pc + 1 ≥ (p.prog.length : Int)
      · rw [if_pos hge]
        have h0 : nx = 0 := by
          rw [hnx, show p.pc + 1 = (p.prog.length : Int) by omega]
          exact Int.emod_self
        rw [h0]
        simp [hj]
      · rw [if_neg hge]
        have h0 : nx = p.pc + 1 := by
          rw [hnx]
          exact Int.emod_eq_of_lt (by omega) (by omega)
        rw [h0]
        have h2 : (p.pc + 1 == 0) = false := beq_eq_false_iff_ne.2 (by omega)
        simp [hj, h2, e5, bne]
    · obtain ⟨e7, e8⟩ := e6 hj
      subst e7
      have hlt : ¬ (m2.next ≥ (p.prog.length : Int)) := by rw [e8]; have := r4 rfl; omega
      simp only [if_true]
      rw [if_neg hlt]
      simp only [hj, e5]
      rfl
end Go.Proofs.Ytkphkkfgphhjcaa
