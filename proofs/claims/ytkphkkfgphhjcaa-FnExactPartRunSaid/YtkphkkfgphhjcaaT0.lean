/- The step and the run of a part, in plain Lean. -/
import Derived.Test.YtkphkkfgphhjcaaP13
namespace Go.Proofs.Ytkphkkfgphhjcaa
open Go.RowKit
set_option linter.unusedSimpArgs false
set_option linter.unusedVariables false

theorem Mac.Ok.put {m : Mac} (h : m.Ok) (a v : Int) : (m.put a v).Ok :=
  ⟨h.prog, h.pc, by simp [Mac.put, h.len], fun x hx => by
    rcases List.mem_or_eq_of_mem_set hx with hx | rfl
    · exact h.cells x hx
    · omega, h.box, h.boxv, h.plen, h.ports, h.now⟩
/-- The thirteen kinds of op. -/
theorem kinds {d : Int} (h0 : 1 ≤ d) (h1 : d ≤ 13) : d = 1 ∨ d = 2 ∨ d = 3 ∨ d = 4 ∨ d = 5 ∨ d = 6 ∨ d = 7 ∨ d = 8 ∨ d = 9 ∨ d = 10 ∨ d = 11 ∨ d = 12 ∨ d = 13 := by omega
structure OpF (m m2 : Mac) (d b : Int) : Prop where
  ok : m2.Ok
  prog : m2.p.prog = m.p.prog
  pc : m2.p.pc = m.p.pc
  fails : m2.p.fails = m.p.fails
  box : m2.p.box.length ≤ m.p.box.length
  now : m2.now = m.now
  said : ∃ s : List Sd, m2.said = m.said ++ s ∧ s.length ≤ 1
  next : m2.next = m.next ∨ (d = 5 ∧ m2.next = b)
theorem op_ok {m m2 : Mac} {d a b k : Int} (h : m.Ok) (hop : opOKP d a b k = true) (hs : m.op d a b = some m2) : OpF m m2 d b := by
  obtain ⟨⟨d0, d1⟩, ⟨a0, a1⟩, b0, r1, r2, r3, r4⟩ := op_range hop
  have hput : ∀ v, OpF m (m.put a v) d b := fun v => ⟨h.put a v, rfl, rfl, rfl, Nat.le_refl _, rfl, ⟨[], by simp [Mac.put], by simp⟩, .inl rfl⟩
  rcases kinds d0 d1 with rfl | rfl | rfl | rfl | rfl | rfl | rfl | rfl | rfl | rfl | rfl | rfl | rfl
  all_goals
    try
      have h' := hs
      change some _ = some _ at h'
      injection h' with h'
  · subst h'; exact hput _
  · subst h'; exact hput _
  · subst h'; exact hput _
  · subst h'; exact hput _
  · by_cases hc : m.cell a > 0
    · have e : m2 = { m with next := b, jumps := true } := by rw [← h']; exact if_pos hc
      subst e
      exact ⟨⟨h.prog, h.pc, h.len, h.cells, h.box, h.boxv, h.plen, h.ports, h.now⟩, rfl, rfl, rfl, Nat.le_refl _, rfl, ⟨[], by simp, by simp⟩, .inr ⟨rfl, rfl⟩⟩
    · have e : m2 = m := by rw [← h']; exact if_neg hc
      subst e
      exact ⟨h, rfl, rfl, rfl, Nat.le_refl _, rfl, ⟨[], by simp, by simp⟩, .inl rfl⟩
  · subst h'; exact ⟨⟨h.prog, h.pc, h.len, h.cells, h.box, h.boxv, h.plen, h.ports, h.now⟩, rfl, rfl, rfl, Nat.le_refl _, rfl, ⟨_, rfl, by simp⟩, .inl rfl⟩
  · subst h'; exact ⟨⟨h.prog, h.pc, h.len, h.cells, h.box, h.boxv, h.plen, h.ports, h.now⟩, rfl, rfl, rfl, Nat.le_refl _, rfl, ⟨_, rfl, by simp⟩, .inl rfl⟩
  · subst h'; exact hput _
  · subst h'
    refine ⟨⟨h.prog, h.pc, h.len, h.cells, h.box, h.boxv, by simp [h.plen], fun x hx => ?_, h.now⟩, rfl, rfl, rfl, Nat.le_refl _, rfl, ⟨[], by simp, by simp⟩, .inl rfl⟩
    rcases List.mem_or_eq_of_mem_set hx with hx | rfl
    · exact h.ports x hx
    · exact h.cellv a
  · subst h'; exact hput _
  · subst h'; exact ⟨⟨h.prog, h.pc, h.len, h.cells, h.box, h.boxv, h.plen, h.ports, h.now⟩, rfl, rfl, rfl, Nat.le_refl _, rfl, ⟨[], by simp, by simp⟩, .inl rfl⟩
  · cases hb : m.p.box with
    | nil =>
      rw [hb] at h'
      subst h'
      exact hput 0
    | cons x r =>
      rw [hb] at h'
      subst h'
      have hbl := h.box
      rw [hb] at hbl
      have hr : Mac.Ok { m with p := { m.p with box := r } } := ⟨h.prog, h.pc, h.len, h.cells, by simp at hbl ⊢; omega, fun y hy => h.boxv y (by rw [hb]; exact List.mem_cons_of_mem _ hy), h.plen, h.ports, h.now⟩
      exact ⟨hr.put a x, rfl, rfl, rfl, by rw [hb]; simp [Mac.put], rfl, ⟨[], by simp [Mac.put], by simp⟩, .inl rfl⟩
  · change (if m.cell b < 8 then _ else _) = _ at hs
    by_cases hc : m.cell b < 8
    · rw [if_pos hc] at hs
      injection hs with hs
      subst hs
      exact hput _
    · rw [if_neg hc] at hs
      cases hs
/-- What was said before does not count. -/
theorem op_said (m : Mac) {d : Int} (a b : Int) (d0 : 1 ≤ d) (d1 : d ≤ 13) : m.op d a b = ({ m with said := [] }.op d a b).map (fun m2 : Mac => { m2 with said := m.said ++ m2.said }) := by
  obtain ⟨⟨pg, cl, pc, fl, bx⟩, xs, nw, sd, nx, jb, rb⟩ := m
  rcases kinds d0 d1 with rfl | rfl | rfl | rfl | rfl | rfl | rfl | rfl | rfl | rfl | rfl | rfl | rfl
  · simp [Mac.op, Mac.put, Mac.cell]
  · simp [Mac.op, Mac.put, Mac.cell]
  · simp [Mac.op, Mac.put, Mac.cell]
  · simp [Mac.op, Mac.put, Mac.cell]
  · show some (if cl.getD a.toNat 0 > 0 then _ else _) = Option.map _ (some (if cl.getD a.toNat 0 > 0 then _ else _))
    by_cases hc : cl.getD a.toNat 0 > 0
    · rw [if_pos hc, if_pos hc]; simp
    · rw [if_neg hc, if_neg hc]; simp
  · simp [Mac.op, Mac.put, Mac.cell]
  · simp [Mac.op, Mac.put, Mac.cell]
  · simp [Mac.op, Mac.put, Mac.cell]
  · simp [Mac.op, Mac.put, Mac.cell]
  · simp [Mac.op, Mac.put, Mac.cell]
  · simp [Mac.op, Mac.put, Mac.cell]
  · cases bx <;> simp [Mac.op, Mac.put, Mac.cell]
  · show (if cl.getD b.toNat 0 < 8 then _ else _) = Option.map _ (if cl.getD b.toNat 0 < 8 then _ else _)
    by_cases hc : cl.getD b.toNat 0 < 8
    · rw [if_pos hc, if_pos hc]; simp [Mac.put, Mac.cell]
    · rw [if_neg hc, if_neg hc]; simp
/-- Ports do not count either, for ops that are of no port. -/
theorem op_port (m : Mac) {d : Int} (a b : Int) (d0 : 1 ≤ d) (d1 : d ≤ 13) (h9 : d ≠ 9) (h10 : d ≠ 10) (ys : List Int) : { m with ports := ys }.op d a b = (m.op d a b).map (fun m2 : Mac => { m2 with ports := ys }) ∧ ∀ m2, m.op d a b = some m2 → m2.ports = m.ports := by
  obtain ⟨⟨pg, cl, pc, fl, bx⟩, xs, nw, sd, nx, jb, rb⟩ := m
  rcases kinds d0 d1 with rfl | rfl | rfl | rfl | rfl | rfl | rfl | rfl | rfl | rfl | rfl | rfl | rfl
  · exact ⟨by simp [Mac.op, Mac.put, Mac.cell], fun m2 h => by simp [Mac.op, Mac.put] at h; rw [← h]⟩
  · exact ⟨by simp [Mac.op, Mac.put, Mac.cell], fun m2 h => by simp [Mac.op, Mac.put] at h; rw [← h]⟩
  · exact ⟨by simp [Mac.op, Mac.put, Mac.cell], fun m2 h => by simp [Mac.op, Mac.put] at h; rw [← h]⟩
  · exact ⟨by simp [Mac.op, Mac.put, Mac.cell], fun m2 h => by simp [Mac.op, Mac.put] at h; rw [← h]⟩
  · show some (if cl.getD a.toNat 0 > 0 then _ else _) = Option.map _ (some (if cl.getD a.toNat 0 > 0 then _ else _)) ∧ ∀ m2, some (if cl.getD a.toNat 0 > 0 then _ else _) = some m2 → _
    by_cases hc : cl.getD a.toNat 0 > 0
    · rw [if_pos hc, if_pos hc]
      exact ⟨rfl, fun m2 h => by injection h with h; rw [← h]⟩
    · rw [if_neg hc, if_neg hc]
      exact ⟨rfl, fun m2 h => by injection h with h; rw [← h]⟩
  · exact ⟨by simp [Mac.op, Mac.put, Mac.cell], fun m2 h => by simp [Mac.op, Mac.put] at h; rw [← h]⟩
  · exact ⟨by simp [Mac.op, Mac.put, Mac.cell], fun m2 h => by simp [Mac.op, Mac.put] at h; rw [← h]⟩
  · exact ⟨by simp [Mac.op, Mac.put, Mac.cell], fun m2 h => by simp [Mac.op, Mac.put] at h; rw [← h]⟩
  · exact absurd rfl h9
  · exact absurd rfl h10
  · exact ⟨by simp [Mac.op, Mac.put, Mac.cell], fun m2 h => by simp [Mac.op, Mac.put] at h; rw [← h]⟩
  · cases bx with
    | nil => exact ⟨by simp [Mac.op, Mac.put, Mac.cell], fun m2 h => by simp [Mac.op, Mac.put] at h; rw [← h]⟩
    | cons x r => exact ⟨by simp [Mac.op, Mac.put, Mac.cell], fun m2 h => by simp [Mac.op, Mac.put] at h; rw [← h]⟩
  · show (if cl.getD b.toNat 0 < 8 then _ else _) = Option.map _ (if cl.getD b.toNat 0 < 8 then _ else _) ∧ ∀ m2, (if cl.getD b.toNat 0 < 8 then _ else _) = some m2 → _
    by_cases hc : cl.getD b.toNat 0 < 8
    · rw [if_pos hc, if_pos hc]
      exact ⟨rfl, fun m2 h => by injection h with h; rw [← h]; rfl⟩
    · rw [if_neg hc, if_neg hc]
      exact ⟨rfl, fun m2 h => by cases h⟩
theorem op_far {m : Mac} {d : Int} {a b : Int} (d0 : 1 ≤ d) (d1 : d ≤ 13) (h : m.op d a b = none) : d = 13 := by
  rcases kinds d0 d1 with rfl | rfl | rfl | rfl | rfl | rfl | rfl | rfl | rfl | rfl | rfl | rfl | rfl
  all_goals first | rfl | (change some _ = none at h; cases h)
theorem ok_at {m : Mac} (h : m.Ok) : ∃ d a b, m.p.prog[m.p.pc.toNat]? = some (d, a, b) ∧ opOKP d a b m.p.prog.length = true := by
  have := h.pc
  obtain ⟨⟨d, a, b⟩, hp⟩ : ∃ o, m.p.prog[m.p.pc.toNat]? = some o := ⟨_, List.getElem?_eq_getElem (by omega)⟩
  exact ⟨d, a, b, hp, prog_op h.prog hp⟩
theorem step_some {m : Mac} {d a b : Int} (h : m.p.prog[m.p.pc.toNat]? = some (d, a, b)) : m.step = (match { m with jumps := false, rests := false, next := (m.p.pc + 1) % m.p.prog.length }.op d a b with
    | none => ({ m with jumps := false, rests := false, next := (m.p.pc + 1) % m.p.prog.length, p := { m.p with fails := true } }, false)
    | some m2 => ({ m2 with p := { m2.p with pc := m2.next } }, !m2.rests && (m2.jumps || !((m.p.pc + 1) % m.p.prog.length == 0)))) := by
  unfold Mac.step
  rw [h]
  simp only
  rfl
structure StepF (m m2 : Mac) : Prop where
  ok : m2.Ok
  prog : m2.p.prog = m.p.prog
  box : m2.p.box.length ≤ m.p.box.length
  now : m2.now = m.now
  said : ∃ s : List Sd, m2.said = m.said ++ s ∧ s.length ≤ 1
theorem step_ok {m : Mac} (h : m.Ok) : StepF m m.step.1 := by
  obtain ⟨d, a, b, hp, hop⟩ := ok_at h
  obtain ⟨⟨d0, d1⟩, ⟨a0, a1⟩, b0, r1, r2, r3, r4⟩ := op_range hop
  rw [step_some hp]
  have hm : Mac.Ok { m with jumps := false, rests := false, next := (m.p.pc + 1) % m.p.prog.length } := ⟨h.prog, h.pc, h.len, h.cells, h.box, h.boxv, h.plen, h.ports, h.now⟩
  have hlen : (0 : Int) < m.p.prog.length := by have := h.pc; omega
  cases ho : Mac.op { m with jumps := false, rests := false, next := (m.p.pc + 1) % m.p.prog.length } d a b with
  | none => exact ⟨⟨h.prog, h.pc, h.len, h.cells, h.box, h.boxv, h.plen, h.ports, h.now⟩, rfl, Nat.le_refl _, rfl, ⟨[], by simp, by simp⟩⟩
  | some m2 =>
    have hf := op_ok hm hop ho
    have hnx : 0 ≤ m2.next ∧ m2.next < m.p.prog.length := by
      rcases hf.next with e | ⟨rfl, e⟩
      · rw [e]
        exact ⟨Int.emod_nonneg _ (by omega), Int.emod_lt_of_pos _ hlen⟩
      · rw [e]
        have := r4 rfl
        omega
    exact ⟨⟨hf.ok.prog, ⟨hnx.1, by show m2.next < m2.p.prog.length; rw [hf.prog]; exact hnx.2⟩, hf.ok.len, hf.ok.cells, hf.ok.box, hf.ok.boxv, hf.ok.plen, hf.ok.ports, hf.ok.now⟩, hf.prog, hf.box, hf.now, hf.said⟩
/-- A step of a machine is a step of a machine that has said nothing yet. -/
theorem step_said {m : Mac} (h : m.Ok) : m.step.1.p = (mac0 m.p m.now m.ports).step.1.p ∧ m.step.1.ports = (mac0 m.p m.now m.ports).step.1.ports ∧ m.step.1.now = m.now ∧ m.step.1.said = m.said ++ (mac0 m.p m.now m.ports).step.1.said ∧ m.step.2 = (mac0 m.p m.now m.ports).step.2 := by
  obtain ⟨d, a, b, hp, hop⟩ := ok_at h
  obtain ⟨⟨d0, d1⟩, _⟩ := op_range hop
  have hn := (step_ok h).now
  rw [step_some (m := mac0 m.p m.now m.ports) hp, step_some hp] at *
  obtain ⟨⟨pg, cl, pc, fl, bx⟩, xs, nw, sd, nx, jb, rb⟩ := m
  simp only [mac0] at *
  rw [op_said _ a b d0 d1] at hn ⊢
  simp only at hn ⊢
  cases ho : Mac.op ⟨⟨pg, cl, pc, fl, bx⟩, xs, nw, [], (pc + 1) % pg.length, false, false⟩ d a b with
  | none => simp
  | some m2 =>
    rw [ho] at hn
    exact ⟨rfl, rfl, hn, rfl, rfl⟩
theorem ok_runOk {m : Mac} (h : m.Ok) : runOk m.p m.now m.ports = true := by
  simp only [runOk, Pt.ok, portsOK, Bool.and_eq_true, beq_iff_eq, decide_eq_true_eq, inR_iff, valsOk, List.all_eq_true, valOk]
  exact ⟨⟨h.prog, h.len, fun x hx => h.cells x hx, ⟨h.pc.1, by have := h.pc.2; omega⟩, h.box, fun x hx => h.boxv x hx⟩, h.now, h.plen, fun x hx => h.ports x hx⟩
/-- What a step keeps. -/
structure PSF (p : Pt) (now : Int) (xs : List Int) (r : Pt × List Int × List Sd × Bool) : Prop where
  ok : runOk r.1 now r.2.1 = true
  prog : r.1.prog = p.prog
  said : r.2.2.1.length ≤ 1
  box : r.1.box.length ≤ p.box.length
theorem pstep_run {p : Pt} {now : Int} {xs : List Int} (h : runOk p now xs = true) (hf : p.fails = false) : PStep p now xs = ((mac0 p now xs).step.1.p, (mac0 p now xs).step.1.ports, (mac0 p now xs).step.1.said, (mac0 p now xs).step.2) := by
  unfold PStep
  rw [if_pos h, if_neg (by rw [hf]; exact Bool.false_ne_true)]
theorem pstep_fails {p : Pt} {now : Int} {xs : List Int} (h : runOk p now xs = true) (hf : p.fails = true) : PStep p now xs = (p, xs, [], false) := by
  unfold PStep
  rw [if_pos h, if_pos hf]
theorem pstep_ok {p : Pt} {now : Int} {xs : List Int} (h : runOk p now xs = true) : PSF p now xs (PStep p now xs) := by
  cases hf : p.fails
  · rw [pstep_run h hf]
    have hs := step_ok (runOk_ok h)
    obtain ⟨s, h1, h2⟩ := hs.said
    have hk := ok_runOk hs.ok
    rw [hs.now] at hk
    exact ⟨hk, hs.prog, by show (mac0 p now xs).step.1.said.length ≤ 1; rw [h1]; simpa [mac0] using h2, hs.box⟩
  · rw [pstep_fails h hf]
    exact ⟨h, rfl, by simp, Nat.le_refl _⟩
/-- So many steps at most. -/
def runF (now : Int) : Nat → Pt → List Int → List Sd → Pt × List Int × List Sd
  | 0, p, xs, sd => (p, xs, sd)
  | n + 1, p, xs, sd => if p.fails = true then (p, xs, sd) else
      if (PStep p now xs).2.2.2 = true then runF now n (PStep p now xs).1 (PStep p now xs).2.1 (sd ++ (PStep p now xs).2.2.1) else ((PStep p now xs).1, (PStep p now xs).2.1, sd ++ (PStep p now xs).2.2.1)
theorem runF_fails {now : Int} {p : Pt} {xs : List Int} {sd : List Sd} (hf : p.fails = true) : ∀ n, runF now n p xs sd = (p, xs, sd)
  | 0 => rfl
  | n + 1 => by
    unfold runF
    rw [if_pos hf]
structure RunF (now : Int) (p : Pt) (sd : List Sd) (n : Nat) (r : Pt × List Int × List Sd) : Prop where
  ok : runOk r.1 now r.2.1 = true
  prog : r.1.prog = p.prog
  said : r.2.2.length ≤ sd.length + n
theorem runF_ok {now : Int} : ∀ (n : Nat) {p : Pt} {xs : List Int} {sd : List Sd}, runOk p now xs = true → RunF now p sd n (runF now n p xs sd)
  | 0, p, xs, sd, h => ⟨h, rfl, Nat.le_refl _⟩
  | n + 1, p, xs, sd, h => by
    have hs := pstep_ok h
    have h1 := hs.said
    unfold runF
    split
    · exact ⟨h, rfl, by simp⟩
    split
    · have := runF_ok n (sd := sd ++ (PStep p now xs).2.2.1) hs.ok
      have h2 := this.said
      rw [List.length_append] at h2
      exact ⟨this.ok, this.prog.trans hs.prog, by omega⟩
    · exact ⟨hs.ok, hs.prog, by simp only [List.length_append]; omega⟩
/-- What the law does: step behind step, whether it failed or not. -/
def itF (now : Int) : Nat → Pt → List Int → List Sd → Pt × List Int × List Sd
  | 0, p, xs, sd => (p, xs, sd)
  | n + 1, p, xs, sd => if (PStep p now xs).2.2.2 = true then itF now n (PStep p now xs).1 (PStep p now xs).2.1 (sd ++ (PStep p now xs).2.2.1) else ((PStep p now xs).1, (PStep p now xs).2.1, sd ++ (PStep p now xs).2.2.1)
theorem itF_eq {now : Int} : ∀ (n : Nat) {p : Pt} {xs : List Int} {sd : List Sd}, runOk p now xs = true → itF now n p xs sd = runF now n p xs sd
  | 0, p, xs, sd, h => rfl
  | n + 1, p, xs, sd, h => by
    unfold itF runF
    cases hf : p.fails
    · simp only [Bool.false_eq_true, if_false]
      split
      · exact itF_eq n (pstep_ok h).ok
      · rfl
    · rw [pstep_fails h hf]
      simp
/-- No op looks far: no failing. -/
theorem pstep_near {p : Pt} {now : Int} {xs : List Int} (h : runOk p now xs = true) (hn : ∀ o ∈ p.prog, o.1 ≠ 13) (hf : p.fails = false) : (PStep p now xs).1.fails = false := by
  rw [pstep_run h hf]
  have hm := runOk_ok h
  obtain ⟨d, a, b, hp, hop⟩ := ok_at hm
  obtain ⟨⟨d0, d1⟩, _⟩ := op_range hop
  rw [step_some hp]
  cases ho : Mac.op { mac0 p now xs with jumps := false, rests := false, next := ((mac0 p now xs).p.pc + 1) % (mac0 p now xs).p.prog.length } d a b with
  | none => exact absurd (op_far d0 d1 ho) (hn _ (List.mem_of_getElem? hp))
  | some m2 =>
    have := (op_ok (m := { mac0 p now xs with jumps := false, rests := false, next := ((mac0 p now xs).p.pc + 1) % (mac0 p now xs).p.prog.length }) ⟨hm.prog, hm.pc, hm.len, hm.cells, hm.box, hm.boxv, hm.plen, hm.ports, hm.now⟩ hop ho).fails
    exact this.trans hf
theorem runF_near {now : Int} : ∀ (n : Nat) {p : Pt} {xs : List Int} {sd : List Sd}, runOk p now xs = true → (∀ o ∈ p.prog, o.1 ≠ 13) → p.fails = false → (runF now n p xs sd).1.fails = false
  | 0, p, xs, sd, _, _, hf => hf
  | n + 1, p, xs, sd, h, hn, hf => by
    have hs := pstep_ok h
    have h1 := pstep_near h hn hf
    unfold runF
    rw [if_neg (by rw [hf]; exact Bool.false_ne_true)]
    split
    · exact runF_near n hs.ok (by rw [hs.prog]; exact hn) h1
    · exact h1
/-- No op is of a port: ports do not count, and stay. -/
theorem pstep_alone {p : Pt} {now : Int} {xs ys : List Int} (h : runOk p now xs = true) (hy : portsOK ys = true) (hn : ∀ o ∈ p.prog, o.1 ≠ 9 ∧ o.1 ≠ 10) : (PStep p now ys).1 = (PStep p now xs).1 ∧ (PStep p now ys).2.2 = (PStep p now xs).2.2 ∧ (PStep p now xs).2.1 = xs ∧ (PStep p now ys).2.1 = ys := by
  have h2 : runOk p now ys = true := by
    simp only [runOk, Bool.and_eq_true] at h ⊢
    exact ⟨h.1, h.2.1, hy⟩
  cases hf : p.fails
  · have hm := runOk_ok h
    obtain ⟨d, a, b, hp, hop⟩ := ok_at hm
    obtain ⟨⟨d0, d1⟩, _⟩ := op_range hop
    obtain ⟨n9, n10⟩ := hn _ (List.mem_of_getElem? hp)
    rw [pstep_run h hf, pstep_run h2 hf, step_some (m := mac0 p now ys) hp, step_some hp]
    obtain ⟨e1, e2⟩ := op_port ⟨p, xs, now, [], (p.pc + 1) % p.prog.length, false, false⟩ a b d0 d1 n9 n10 ys
    simp only [mac0] at e1 e2 ⊢
    rw [e1]
    cases ho : Mac.op ⟨p, xs, now, [], (p.pc + 1) % p.prog.length, false, false⟩ d a b with
    | none => simp
    | some m2 =>
      have := e2 m2 ho
      exact ⟨rfl, rfl, this, rfl⟩
  · rw [pstep_fails h hf, pstep_fails h2 hf]
    exact ⟨rfl, rfl, rfl, rfl⟩
theorem runF_alone {now : Int} {ys : List Int} (hy : portsOK ys = true) : ∀ (n : Nat) {p : Pt} {xs : List Int} {sd : List Sd}, runOk p now xs = true → (∀ o ∈ p.prog, o.1 ≠ 9 ∧ o.1 ≠ 10) → (runF now n p ys sd).1 = (runF now n p xs sd).1 ∧ (runF now n p ys sd).2.2 = (runF now n p xs sd).2.2 ∧ (runF now n p ys sd).2.1 = ys
  | 0, p, xs, sd, _, _ => ⟨rfl, rfl, rfl⟩
  | n + 1, p, xs, sd, h, hn => by
    obtain ⟨e1, e2, e3, e4⟩ := pstep_alone h hy hn
    have hs := pstep_ok h
    have e5 : (PStep p now ys).2.2.1 = (PStep p now xs).2.2.1 := by rw [e2]
    have e6 : (PStep p now ys).2.2.2 = (PStep p now xs).2.2.2 := by rw [e2]
    unfold runF
    split
    · exact ⟨rfl, rfl, rfl⟩
    · rw [e1, e4, e5, e6]
      split
      · have := runF_alone hy n (sd := sd ++ (PStep p now xs).2.2.1) hs.ok (by rw [hs.prog]; exact hn)
        exact this
      · exact ⟨rfl, rfl, rfl⟩
/-- What a run comes to. -/
def PRun (p : Pt) (now : Int) (xs : List Int) (most : Int) : Pt × List Int × List Sd := if (runOk p now xs && inR most 9999) = true then runF now most.toNat p xs [] else (pt0, [], [])
end Go.Proofs.Ytkphkkfgphhjcaa
