/- The reference: the op that changes a cell, in one contract. -/
import Derived.Test.YtkphkkfgphhjcaaS1
namespace Go.Proofs.Ytkphkkfgphhjcaa
open Go.RowKit
set_option linter.unusedSimpArgs false
set_option linter.unusedVariables false

/-- What an op of the reference leaves: op, ports, what is said, what is next. -/
def Pt.opd (p : Pt) (now : Int) (xs : List Int) (d a b : Int) : Pt × List Int × List Sd × Int := match (mac0 p now xs).op d a b with
  | none => ({ p with fails := true }, xs, [], p.pc + 1)
  | some m2 => (m2.p, m2.ports, m2.said, if m2.jumps then m2.next else p.pc + 1)
theorem put_p (m : Mac) (a v : Int) (h0 : 0 ≤ v) (h1 : v ≤ 9999) : (m.put a v).p = { m.p with cells := m.p.cells.set a.toNat v } := by
  unfold Mac.put
  rw [show v % 10000 = v by omega]
theorem ptf_set {w w' : World} {p : Pt} {v1 v3 : Value} {gc oc c2 : Nat} {f1 f3 : List Nat} (h : PtF w p v1 (.slice (some ⟨gc, oc, none⟩) 8 c2) v3 f1 [gc] f3) (hl : p.cells.length = 8) (a v : Int) (h0 : 0 ≤ a) (h1 : a < 8) (g1 : gc ∉ f1) (g3 : gc ∉ f3) (hb : Below w.heap.size (w.setCell ⟨gc, oc + a.toNat, none⟩ (.int .i64 v)) w') : PtF w' { p with cells := p.cells.set a.toNat v } v1 (.slice (some ⟨gc, oc, none⟩) 8 c2) v3 f1 [gc] f3 := by
  have e : (w.setCell ⟨gc, oc + a.toNat, none⟩ (.int .i64 v)).heap.size = w.heap.size := by simp
  have hb' := hb
  rw [← e] at hb'
  refine ⟨(h.prog.setOther (by exact g1) _).below hb', ?_, (h.box.setOther (by exact g3) _).below hb'⟩
  have hc := h.cells
  rw [← hl] at hc ⊢
  exact ((hc.setI a.toNat v (by omega)).1).below hb'
/-- Likewise; and a row stays a row. -/
structure KeptK (S : List Nat) (w w' : World) : Prop extends Kept S w w' where
  kind : ∀ (b : Nat) cur e fr, w.heap[b]? = some (.cells cur e fr) → ∃ cur', w'.heap[b]? = some (.cells cur' e fr)
theorem KeptK.refl (S : List Nat) (w : World) : KeptK S w w := ⟨Kept.refl _ _, fun b cur e fr h => ⟨cur, h⟩⟩
theorem KeptK.trans {S T : List Nat} {a b c : World} (h : KeptK S a b) (k : KeptK T b c) (hT : ∀ x ∈ T, x ∈ S ∨ a.heap.size ≤ x) : KeptK S a c :=
  ⟨h.toKept.trans k.toKept hT, fun b cur e fr hb => by
    obtain ⟨c1, h1⟩ := h.kind b cur e fr hb
    exact k.kind b c1 e fr h1⟩
theorem KeptK.of_below {w w' : World} (h : Below w.heap.size w w') (S : List Nat) : KeptK S w w' := ⟨Kept.of_below h S, fun b cur e fr hb => ⟨cur, (h.block b (Array.getElem?_eq_some_iff.1 hb).1).trans hb⟩⟩
theorem KeptK.mono {S T : List Nat} {w w' : World} (h : KeptK S w w') (hT : ∀ x ∈ S, x ∈ T) : KeptK T w w' := ⟨h.toKept.mono hT, h.kind⟩
theorem KeptK.drew {S : List Nat} {a b : World} (h : KeptK S a b) : KeptK S a b.drew := ⟨h.toKept.drew, h.kind⟩
theorem KeptK.alloc {S : List Nat} {a b : World} (h : KeptK S a b) (o : Obj) : KeptK S a (b.alloc o) := h.trans (T := []) (KeptK.of_below ((Below.refl _ _).alloc (Nat.le_refl _) o) _) (fun x hx => by cases hx)
theorem kind_set (w : World) (p : Addr) (u : Value) (b : Nat) (cur : Array Value) (e : TypeId) (fr : Nat × Nat) (h : w.heap[b]? = some (.cells cur e fr)) : ∃ cur', (w.setCell p u).heap[b]? = some (.cells cur' e fr) := by
  by_cases hb : b = p.block
  · subst hb
    have hlt := (Array.getElem?_eq_some_iff.1 h).1
    refine ⟨if p.spot.isSome then cur else cur.setIfInBounds p.off u, ?_⟩
    have h2 := h
    rw [Array.getElem?_eq_getElem hlt] at h2
    injection h2 with h2
    simp [World.setCell, hlt, Array.getElem_modify, h2]
  · exact ⟨cur, (Below.heap_setCell w p u b hb).trans h⟩
theorem KeptK.set {S : List Nat} {a b : World} (h : KeptK S a b) {p : Addr} (hp : p.block ∈ S ∨ a.heap.size ≤ p.block) (u : Value) : KeptK S a (b.setCell p u) :=
  ⟨h.toKept.set hp u, fun i cur e fr hi => by
    obtain ⟨c1, h1⟩ := h.kind i cur e fr hi
    exact kind_set b p u i c1 e fr h1⟩
theorem kept_set {w w' : World} {gc o : Nat} {v : Value} (hb : Below w.heap.size (w.setCell ⟨gc, o, none⟩ v) w') : KeptK [gc] w w' :=
  ((KeptK.refl _ _).set (.inl (by simp)) _).trans (T := []) (KeptK.of_below (hb.mono (by simp)) _) (fun x hx => by cases hx)
/-- What l10Does leaves. -/
def DoesQ (w : World) (q : Pt) (A1 : Option Addr) (n1 c1 gc oc c2 : Nat) (f1 f3 : List Nat) (e : Ending) (w' : World) : Prop := ∃ A3' c3' f3', e = .returned (.agg #[.slice A1 n1 c1, .slice (some ⟨gc, oc, none⟩) 8 c2, .int .i64 q.pc, .bool q.fails, .slice A3' q.box.length c3']) ∧ PtF w' q (.slice A1 n1 c1) (.slice (some ⟨gc, oc, none⟩) 8 c2) (.slice A3' q.box.length c3') f1 [gc] f3' ∧ (∀ x ∈ f3', x ∈ f3) ∧ KeptK [gc] w w'
theorem does_c (p : Pt) (now : Int) (xs : List Int) (d a b k : Int) (A1 A3 A4 : Option Addr) (n1 c1 c3 n4 c4 gc oc c2 : Nat) (f1 f3 f4 : List Nat) (w : World) (hOk : (mac0 p now xs).Ok) (h : PtF w p (.slice A1 n1 c1) (.slice (some ⟨gc, oc, none⟩) 8 c2) (.slice A3 p.box.length c3) f1 [gc] f3) (hx : SL kI w (.slice A4 n4 c4) xs f4) (hz : ∀ o, w.frozen? ⟨gc, o, none⟩ = false) (g1 : gc ∉ f1) (g3 : gc ∉ f3) (hop : opOKP d a b k = true) (hd : d ≠ 5 ∧ d ≠ 6 ∧ d ≠ 7 ∧ d ≠ 9 ∧ d ≠ 11) :
    Calls Try.prog 80 #[.agg #[.slice A1 n1 c1, .slice (some ⟨gc, oc, none⟩) 8 c2, .int .i64 p.pc, .bool p.fails, .slice A3 p.box.length c3], .agg #[.int .i64 d, .int .i64 a, .int .i64 b], .int .i64 now, .slice A4 n4 c4] w (DoesQ w (p.opd now xs d a b).1 A1 n1 c1 gc oc c2 f1 f3) := by
  obtain ⟨⟨d0, d1⟩, ⟨a0, a1⟩, b0, r1, r2, r3, r4⟩ := op_range hop
  have hlen : p.cells.length = 8 := hOk.len
  have hcv : ∀ x ∈ p.cells, 0 ≤ x ∧ x ≤ 9999 := hOk.cells
  have hc := h.cells
  rw [← hlen] at hc
  have fin : ∀ (v : Int), ∀ e w', (e = .returned (.agg #[.slice A1 n1 c1, .slice (some ⟨gc, oc, none⟩) 8 c2, .int .i64 p.pc, .bool p.fails, .slice A3 p.box.length c3]) ∧ Below w.heap.size (w.setCell ⟨gc, oc + a.toNat, none⟩ (.int .i64 v)) w') → DoesQ w { p with cells := p.cells.set a.toNat v } A1 n1 c1 gc oc c2 f1 f3 e w' := fun v e w' hh => ⟨A3, c3, f3, hh.1, ptf_set h hlen a v a0 a1 g1 g3 hh.2, fun x hx => hx, kept_set hh.2⟩
  have cv := hOk.cellv
  have ec : ∀ i, (mac0 p now xs).cell i = p.cells.getD i.toNat 0 := fun i => rfl
  have eq1 : ∀ v m2, (mac0 p now xs).op d a b = some m2 → m2.p = { p with cells := p.cells.set a.toNat v } → (p.opd now xs d a b).1 = { p with cells := p.cells.set a.toNat v } := fun v m2 h1 h2 => by unfold Pt.opd; rw [h1]; exact h2
  obtain ⟨h5, h6, h7, h9, h11⟩ := hd
  rcases (by omega : d = 1 ∨ d = 2 ∨ d = 3 ∨ d = 4 ∨ d = 8 ∨ d = 10 ∨ d = 12 ∨ d = 13) with rfl | rfl | rfl | rfl | rfl | rfl | rfl | rfl
  · have e := eq1 b _ rfl (put_p _ a b b0 (r1 (.inl rfl)))
    rw [e]
    exact (does1_c p.prog p.cells p.pc p.fails p.box now xs a b A1 A3 A4 n1 c1 p.box.length c3 n4 c4 gc oc c2 w a0 a1 hlen hc hz hcv).mono (fin _)
  · have e := eq1 ((p.cells.getD a.toNat 0 + p.cells.getD b.toNat 0) % 10000) _ rfl rfl
    rw [e]
    exact (does2_c p.prog p.cells p.pc p.fails p.box now xs a b A1 A3 A4 n1 c1 p.box.length c3 n4 c4 gc oc c2 w a0 a1 hlen hc hz hcv b0 (r2 (.inl rfl))).mono (fin _)
  · have e := eq1 ((p.cells.getD a.toNat 0 + b) % 10000) _ rfl rfl
    rw [e]
    exact (does3_c p.prog p.cells p.pc p.fails p.box now xs a b A1 A3 A4 n1 c1 p.box.length c3 n4 c4 gc oc c2 w a0 a1 hlen hc hz hcv b0 (r1 (.inr rfl))).mono (fin _)
  · have ca := cv a
    rw [ec] at ca
    have e := eq1 (max (p.cells.getD a.toNat 0 - 1) 0) _ rfl (put_p _ a _ (by rw [ec]; omega) (by rw [ec]; omega))
    rw [e]
    exact (does4_c p.prog p.cells p.pc p.fails p.box now xs a b A1 A3 A4 n1 c1 p.box.length c3 n4 c4 gc oc c2 w a0 a1 hlen hc hz hcv).mono (fin _)
  · have e := eq1 (now % 10000) _ rfl rfl
    rw [e]
    exact (does8_c p.prog p.cells p.pc p.fails p.box now xs a b A1 A3 A4 n1 c1 p.box.length c3 n4 c4 gc oc c2 w a0 a1 hlen hc hz hcv hOk.now.1 hOk.now.2).mono (fin _)
  · have hn4 : n4 = 4 := by
      obtain ⟨_, _, e1, _⟩ := hx.form
      injection e1 with _ e2 _
      rw [e2]
      exact hOk.plen
    have hb4 := r3 (.inr rfl)
    have hpv : 0 ≤ xs.getD b.toNat 0 ∧ xs.getD b.toNat 0 ≤ 9999 := by
      have : xs.length = 4 := hOk.plen
      rw [List.getD_eq_getElem?_getD, List.getElem?_eq_getElem (by omega)]
      exact hOk.ports _ (List.getElem_mem _)
    have e := eq1 (xs.getD b.toNat 0) _ rfl (put_p _ a _ hpv.1 hpv.2)
    rw [e]
    exact (does10_c p.prog p.cells p.pc p.fails p.box now xs a b A1 A3 A4 n1 c1 p.box.length c3 n4 c4 gc oc c2 w a0 a1 hlen hc hz hcv f4 hx hn4 b0 hb4).mono (fin _)
  · have e : (p.opd now xs 12 a b).1 = { p with cells := p.cells.set a.toNat (p.box.headD 0), box := p.box.tail } := by
      unfold Pt.opd
      have : (mac0 p now xs).op 12 a b = some (match p.box with | [] => (mac0 p now xs).put a 0 | x :: r => { (mac0 p now xs) with p := { p with box := r } }.put a x) := rfl
      rw [this]
      cases hb : p.box with
      | nil => show ((mac0 p now xs).put a 0).p = _; rw [put_p _ _ _ (by omega) (by omega)]; show (⟨_, _, _, _, p.box⟩ : Pt) = _; rw [hb]; rfl
      | cons x r =>
        have hv := hOk.boxv x (by show x ∈ p.box; rw [hb]; simp)
        show (Mac.put _ a x).p = _
        rw [put_p _ _ _ hv.1 hv.2]
        rfl
    rw [e]
    refine (does12_c p.prog p.cells p.pc p.fails p.box now xs a b A1 A3 A4 n1 c1 p.box.length c3 n4 c4 gc oc c2 w a0 a1 hlen hc hz hcv f3 h.box).mono ?_
    rintro e w' ⟨A3', c3', fb', rfl, hs, hsub, hB⟩
    have h' : PtF w { p with box := p.box.tail } (.slice A1 n1 c1) (.slice (some ⟨gc, oc, none⟩) 8 c2) (.slice A3' p.box.tail.length c3') f1 [gc] fb' := ⟨h.prog, h.cells, hs⟩
    exact ⟨A3', c3', fb', rfl, ptf_set h' hlen a _ a0 a1 g1 (fun hm => g3 (hsub _ hm)) hB, hsub, kept_set hB⟩
  · have cb := cv b
    rw [ec] at cb
    by_cases hf : p.cells.getD b.toNat 0 < 8
    · have cc := cv (p.cells.getD b.toNat 0)
      rw [ec] at cc
      have e := eq1 (p.cells.getD (p.cells.getD b.toNat 0).toNat 0) ((mac0 p now xs).put a (p.cells.getD (p.cells.getD b.toNat 0).toNat 0)) (by show (if (mac0 p now xs).cell b < 8 then _ else _) = _; rw [if_pos (by rw [ec]; exact hf)]; rfl) (put_p _ a _ cc.1 cc.2)
      rw [e]
      exact (does13_c p.prog p.cells p.pc p.fails p.box now xs a b A1 A3 A4 n1 c1 p.box.length c3 n4 c4 gc oc c2 w a0 a1 hlen hc hz hcv b0 (r2 (.inr rfl)) hf).mono (fin _)
    · have e : (p.opd now xs 13 a b).1 = { p with fails := true } := by
        unfold Pt.opd
        have : (mac0 p now xs).op 13 a b = none := by show (if (mac0 p now xs).cell b < 8 then _ else _) = _; rw [if_neg (by rw [ec]; exact hf)]
        rw [this]
      rw [e]
      refine (does13f_c p.prog p.cells p.pc p.fails p.box now xs a b A1 A3 A4 n1 c1 p.box.length c3 n4 c4 gc oc c2 w a0 a1 hlen hc hz hcv b0 (r2 (.inr rfl)) (by omega)).mono ?_
      rintro e w' ⟨rfl, hB⟩
      exact ⟨A3, c3, f3, rfl, ⟨h.prog.below hB, h.cells.below hB, h.box.below hB⟩, fun x hx => hx, KeptK.of_below hB _⟩
end Go.Proofs.Ytkphkkfgphhjcaa
