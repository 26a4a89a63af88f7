/- The exact laws' helpers: what stays where marks are laid. -/
import Derived.Test.YtkphkkfgphhjcaaX4
import Derived.Test.YtkphkkfgphhjcaaT1

namespace Go.Proofs.Ytkphkkfgphhjcaa
open Go.RowKit
set_option linter.unusedSimpArgs false
set_option linter.unusedVariables false
/-- A fact that hangs on the blocks of fp alone. -/
structure Fix (fp : List Nat) (Q : World → Prop) : Prop where
  keep : ∀ W W', Q W → (∀ b ∈ fp, W'.heap[b]? = W.heap[b]?) → Q W'
  lt : ∀ W, Q W → ∀ b ∈ fp, b < W.heap.size
theorem Fix.kept {fp S : List Nat} {Q : World → Prop} (h : Fix fp Q) {W W' : World} (hq : Q W) (hk : Kept S W W') (hd : ∀ b ∈ fp, b ∉ S) : Q W' := h.keep _ _ hq (fun b hb => hk.block b (h.lt _ hq b hb) (hd b hb))
theorem Fix.below {fp : List Nat} {Q : World → Prop} (h : Fix fp Q) {W W' : World} (hq : Q W) (hb : Below W.heap.size W W') : Q W' := h.keep _ _ hq (fun b hm => hb.block b (h.lt _ hq b hm))
theorem Fix.and {f g : List Nat} {Q R : World → Prop} (h : Fix f Q) (k : Fix g R) : Fix (f ++ g) (fun W => Q W ∧ R W) :=
  ⟨fun W W' hq hb => ⟨h.keep _ _ hq.1 (fun b hm => hb b (List.mem_append_left _ hm)), k.keep _ _ hq.2 (fun b hm => hb b (List.mem_append_right _ hm))⟩, fun W hq b hm => by
    rcases List.mem_append.1 hm with hm | hm
    · exact h.lt _ hq.1 b hm
    · exact k.lt _ hq.2 b hm⟩
theorem fix_ptf (p : Pt) (v1 v2 v3 : Value) (f1 f2 f3 : List Nat) : Fix (f1 ++ (f2 ++ f3)) (fun W => PtF W p v1 v2 v3 f1 f2 f3) :=
  ⟨fun _ _ hq hb => hq.keep hb, fun W hq b hm => by
    simp only [List.mem_append] at hm
    rcases hm with h | h | h
    · exact hq.prog.lt b h
    · exact hq.cells.lt b h
    · exact hq.box.lt b h⟩
theorem fix_sl {α : Type} (d : Kd α) (v : Value) (xs : List α) (fp : List Nat) : Fix fp (fun W => SL d W v xs fp) := ⟨fun _ _ hq hb => hq.keep hb, fun _ hq => hq.lt⟩
theorem fix_own (lo hi : Nat) (fp : List Nat) : Fix fp (fun W => Own W lo hi fp) := ⟨fun _ _ hq hb => hq.keep hb, fun _ hq => hq.lt⟩
theorem OwnL.kept {w W W' : World} {L : List (Nat × Obj)} {S : List Nat} (h : OwnL w L W) (hk : Kept S W W') (hS : ∀ b ∈ S, w.heap.size ≤ b) (hd : ∀ p ∈ L, p.1 ∉ S) : OwnL w L W' :=
  ⟨h.1.trans (hk.below hS h.1.size), fun p hp => (hk.block p.1 (Array.getElem?_eq_some_iff.1 (h.2 p hp)).1 (hd p hp)).trans (h.2 p hp)⟩
/-- What stays, whatever calls and marks upon S do, as one. -/
theorem opaqueK {A : World → Prop} {fp : List Nat} (S : List Nat) {w W : World} {L : List (Nat × Obj)} (hf : Fix fp A) (h : OwnL w L W) (k : A W) (hS : ∀ b ∈ S, w.heap.size ≤ b) (hd : ∀ p ∈ L, p.1 ∉ S) (hf2 : ∀ b ∈ fp, b ∉ S) : ∃ J : World → Prop, Hid (∀ W, J W → OwnL w L W ∧ A W) ∧ Hid (∀ W W', J W → Below W.heap.size W W' → J W') ∧ Hid (∀ W W' T, J W → Kept T W W' → (∀ b ∈ T, b ∈ S) → J W') ∧ J W :=
  ⟨fun W => OwnL w L W ∧ A W, Lib.hid fun W h => h, Lib.hid fun W W' h hb => ⟨h.1.below hb, hf.below h.2 hb⟩, Lib.hid fun W W' T h hk ht => ⟨h.1.kept (hk.mono ht) hS hd, hf.kept h.2 (hk.mono ht) hf2⟩, h, k⟩
/-- The five rows of an answer: each one's own, no two share a block. -/
theorem Own.five {W : World} {lo hi : Nat} {f1 f2 f3 f4 f5 : List Nat} (h : Own W lo hi (f1 ++ (f2 ++ (f3 ++ (f4 ++ f5))))) : (Own W lo hi (f1 ++ (f2 ++ f3)) ∧ Own W lo hi f4 ∧ Own W lo hi f5) ∧ (∀ b ∈ f4, b ∉ f1 ++ (f2 ++ f3)) ∧ (∀ b ∈ f5, b ∉ f1 ++ (f2 ++ f3)) ∧ (∀ b ∈ f5, b ∉ f4) := by
  have e : f1 ++ (f2 ++ (f3 ++ (f4 ++ f5))) = (f1 ++ (f2 ++ f3)) ++ (f4 ++ f5) := by simp only [List.append_assoc]
  rw [e] at h
  exact h.three
theorem MkP.below {k : Int} {n1 n2 n3 : Nat} {v1 v2 v3 : Value} {W W' : World} (h : MkP k n1 n2 n3 v1 v2 v3 W) (hb : Below W.heap.size W W') : MkP k n1 n2 n3 v1 v2 v3 W' := ⟨h.m1.below hb, h.m2.below hb, h.m3.below hb⟩
theorem MkP.kept {k : Int} {p : Pt} {v1 v2 v3 : Value} {W W0 W' : World} {f1 f2 f3 S : List Nat} (h : MkP k p.prog.length p.cells.length p.box.length v1 v2 v3 W) (hp : PtF W0 p v1 v2 v3 f1 f2 f3) (hk : Kept S W W') (hd : ∀ b ∈ f1 ++ (f2 ++ f3), b ∉ S) : MkP k p.prog.length p.cells.length p.box.length v1 v2 v3 W' :=
  ⟨h.m1.kept (fp := f1) (fun hN => hp.prog.in_fp (fun e => hN (by rw [e]; rfl))) hk (fun b hb => hd b (by simp [hb])), h.m2.kept (fp := f2) (fun hN => hp.cells.in_fp (fun e => hN (by rw [e]; rfl))) hk (fun b hb => hd b (by simp [hb])), h.m3.kept (fp := f3) (fun hN => hp.box.in_fp (fun e => hN (by rw [e]; rfl))) hk (fun b hb => hd b (by simp [hb]))⟩
theorem mem4 {S : List Nat} {a b c d : Nat} {o1 o2 o3 o4 : Obj} (h1 : a ∉ S) (h2 : b ∉ S) (h3 : c ∉ S) (h4 : d ∉ S) : ∀ p ∈ [(a, o1), (b, o2), (c, o3), (d, o4)], p.1 ∉ S := fun p hp => by
  simp only [List.mem_cons, List.not_mem_nil, or_false] at hp
  rcases hp with rfl | rfl | rfl | rfl <;> assumption
theorem mem_g5 {h1 h2 h3 h4 h5 : List Nat} {b : Nat} : b ∈ (h1 ++ (h2 ++ h3)) ++ (h4 ++ (h5 ++ (h1 ++ (h2 ++ (h3 ++ (h4 ++ h5)))))) → b ∈ h1 ++ (h2 ++ (h3 ++ (h4 ++ h5))) := by
  simp only [List.mem_append]
  rintro ((h | h | h) | h | h | h | h | h | h | h) <;> simp [h]
theorem mem_g3 {h1 h2 h3 h4 h5 : List Nat} {b : Nat} : b ∈ h1 ++ (h2 ++ h3) → b ∈ h1 ++ (h2 ++ (h3 ++ (h4 ++ h5))) := by
  simp only [List.mem_append]
  rintro (h | h | h) <;> simp [h]
theorem mem_g4 {h1 h2 h3 h4 h5 : List Nat} {b : Nat} : b ∈ h4 → b ∈ h1 ++ (h2 ++ (h3 ++ (h4 ++ h5))) := fun h => by simp [h]
theorem mem_h5 {h1 h2 h3 h4 h5 : List Nat} {b : Nat} : b ∈ h5 → b ∈ h1 ++ (h2 ++ (h3 ++ (h4 ++ h5))) := fun h => by simp [h]
theorem leftP_nn {l a b c : Int} (h : ¬ leftP l a b c < 0) (h0 : 0 ≤ a) (h1 : 0 ≤ b) (h2 : 0 ≤ c) : a + b + c ≤ l := by
  unfold leftP at h
  split at h
  · omega
  split at h
  · omega
  split at h
  · omega
  · omega
/-- A part that is read. -/
def VP (p : Pt) (v : Value) (W : World) : Prop := ∃ U1 U2 U3 a1 a2 a3, v = .agg #[U1, U2, .int .i64 p.pc, .bool p.fails, U3] ∧ PtF W p U1 U2 U3 a1 a2 a3
/-- A fact that calls leave alone. -/
def Stays (Q : World → Prop) (W : World) : Prop := ∀ W', Below W.heap.size W W' → Q W'
theorem Stays.get {Q : World → Prop} {W : World} (h : Stays Q W) : Q W := h W (Below.refl _ _)
theorem Stays.below {Q : World → Prop} {W W' : World} (h : Stays Q W) (hb : Below W.heap.size W W') : Stays Q W' := fun W2 h2 => h W2 (below_then hb hb.size h2)
theorem Stays.and {Q R : World → Prop} {W : World} (h : Stays Q W) (k : Stays R W) : Stays (fun W => Q W ∧ R W) W := fun W2 h2 => ⟨h W2 h2, k W2 h2⟩
theorem Stays.alloc {Q : World → Prop} {W : World} (h : Stays Q W) (o : Obj) : Stays Q (W.alloc o) := h.below ((Below.refl _ _).alloc (Nat.le_refl _) o)
theorem opaqueJ {A : World → Prop} {w W : World} {L : List (Nat × Obj)} (h : OwnL w L W) (k : Stays A W) : ∃ J : World → Prop, Hid (∀ W, J W → OwnL w L W ∧ A W) ∧ Hid (∀ W W', J W → Below W.heap.size W W' → J W') ∧ J W :=
  ⟨fun W => OwnL w L W ∧ Stays A W, Lib.hid fun W h => ⟨h.1, h.2.get⟩, Lib.hid fun W W' h hb => ⟨h.1.below hb, h.2.below hb⟩, h, k⟩
theorem PtF.stays {W : World} {p : Pt} {v1 v2 v3 : Value} {f1 f2 f3 : List Nat} (h : PtF W p v1 v2 v3 f1 f2 f3) : Stays (fun W => PtF W p v1 v2 v3 f1 f2 f3) W := fun W2 h2 => h.below h2
theorem SL.stays {α : Type} {d : Kd α} {W : World} {v : Value} {xs : List α} {fp : List Nat} (h : SL d W v xs fp) : Stays (fun W => SL d W v xs fp) W := fun W2 h2 => h.below h2
theorem Own.stays {W : World} {lo hi : Nat} {fp : List Nat} (h : Own W lo hi fp) : Stays (fun W => Own W lo hi fp) W := fun W2 h2 => h.below h2
theorem PtF.kept {W W' : World} {S : List Nat} {p : Pt} {v1 v2 v3 : Value} {f1 f2 f3 : List Nat} (h : PtF W p v1 v2 v3 f1 f2 f3) (hk : Kept S W W') (hd : ∀ b ∈ f1 ++ (f2 ++ f3), b ∉ S) : PtF W' p v1 v2 v3 f1 f2 f3 :=
  ⟨h.prog.kept hk (fun b hb => hd b (by simp [hb])), h.cells.kept hk (fun b hb => hd b (by simp [hb])), h.box.kept hk (fun b hb => hd b (by simp [hb]))⟩
theorem Fix.stays {fp : List Nat} {Q : World → Prop} (h : Fix fp Q) {W : World} (hq : Q W) : Stays Q W := fun W2 h2 => h.below hq h2
theorem MkP.stays {k : Int} {n1 n2 n3 : Nat} {v1 v2 v3 : Value} {W : World} (h : MkP k n1 n2 n3 v1 v2 v3 W) : Stays (MkP k n1 n2 n3 v1 v2 v3) W := fun W2 h2 => h.below h2
theorem Mk.stays {f : Nat → Value} {v : Value} {N : Nat} {W : World} (h : Mk f v N W) : Stays (Mk f v N) W := fun W2 h2 => h.below h2
theorem StepR.get5 {w w' : World} {p : Pt} {xs : List Int} {sd : List Sd} {b : Bool} {e : Ending} (h : StepR w p xs sd b e w') : ∃ A1 c1 A2 c2 A3 c3 A4 c4 A5 c5 f1 f2 f3 f4 f5, e = .returned (.tuple #[.agg #[.slice A1 p.prog.length c1, .slice A2 p.cells.length c2, .int .i64 p.pc, .bool p.fails, .slice A3 p.box.length c3], .slice A4 xs.length c4, .slice A5 sd.length c5, .bool b]) ∧ PtF w' p (.slice A1 p.prog.length c1) (.slice A2 p.cells.length c2) (.slice A3 p.box.length c3) f1 f2 f3 ∧ SL kI w' (.slice A4 xs.length c4) xs f4 ∧ SL kSd w' (.slice A5 sd.length c5) sd f5 ∧ Own w' w.heap.size w'.heap.size (f1 ++ (f2 ++ (f3 ++ (f4 ++ f5)))) ∧ Below w.heap.size w w' := by
  obtain ⟨A1, c1, A2, c2, A3, c3, A4, c4, A5, c5, rfl, hR, hB⟩ := h
  obtain ⟨f1, f2, f3, f4, f5, h1, h2, h3, h4⟩ := hR.get
  exact ⟨A1, c1, A2, c2, A3, c3, A4, c4, A5, c5, f1, f2, f3, f4, f5, rfl, h1, h2, h3, h4, hB⟩
theorem RunR.get5 {w w' : World} {r : Pt × List Int × List Sd} {e : Ending} (h : RunR w r e w') : ∃ A1 c1 A2 c2 A3 c3 A4 c4 A5 c5 f1 f2 f3 f4 f5, e = .returned (.tuple #[.agg #[.slice A1 r.1.prog.length c1, .slice A2 r.1.cells.length c2, .int .i64 r.1.pc, .bool r.1.fails, .slice A3 r.1.box.length c3], .slice A4 r.2.1.length c4, .slice A5 r.2.2.length c5]) ∧ PtF w' r.1 (.slice A1 r.1.prog.length c1) (.slice A2 r.1.cells.length c2) (.slice A3 r.1.box.length c3) f1 f2 f3 ∧ SL kI w' (.slice A4 r.2.1.length c4) r.2.1 f4 ∧ SL kSd w' (.slice A5 r.2.2.length c5) r.2.2 f5 ∧ Own w' w.heap.size w'.heap.size (f1 ++ (f2 ++ (f3 ++ (f4 ++ f5)))) ∧ Below w.heap.size w w' := by
  obtain ⟨A1, c1, A2, c2, A3, c3, A4, c4, A5, c5, rfl, hR, hB⟩ := h
  obtain ⟨f1, f2, f3, f4, f5, h1, h2, h3, h4⟩ := hR.get
  exact ⟨A1, c1, A2, c2, A3, c3, A4, c4, A5, c5, f1, f2, f3, f4, f5, rfl, h1, h2, h3, h4, hB⟩
/-- What a step comes to is small. -/
theorem runOk_small {p : Pt} {now : Int} {xs : List Int} (h : runOk p now xs = true) : p.prog.length ≤ 1000 ∧ p.cells.length ≤ 1000 ∧ p.box.length ≤ 1000 ∧ xs.length ≤ 1000 := by
  simp only [runOk, Pt.ok, progOK, portsOK, Bool.and_eq_true, beq_iff_eq, decide_eq_true_eq, inR_iff] at h
  obtain ⟨⟨⟨⟨h1, h1'⟩, _⟩, h2, _, _, h5, _⟩, h7, h8, h9⟩ := h
  exact ⟨by omega, by omega, by omega, by omega⟩
theorem pstep_small (p : Pt) (now : Int) (xs : List Int) : ((PStep p now xs).1.prog.length ≤ 1000 ∧ (PStep p now xs).1.cells.length ≤ 1000 ∧ (PStep p now xs).1.box.length ≤ 1000 ∧ (PStep p now xs).2.1.length ≤ 1000) ∧ (PStep p now xs).2.2.1.length ≤ 1000 := by
  by_cases h : runOk p now xs = true
  · exact ⟨runOk_small (pstep_ok h).ok, Nat.le_trans (pstep_ok h).said (by decide)⟩
  · unfold PStep
    rw [if_neg h]
    simp [pt0]
theorem prun_small (p : Pt) (now : Int) (xs : List Int) (most : Int) : ((PRun p now xs most).1.prog.length ≤ 1000 ∧ (PRun p now xs most).1.cells.length ≤ 1000 ∧ (PRun p now xs most).1.box.length ≤ 1000 ∧ (PRun p now xs most).2.1.length ≤ 1000) ∧ (PRun p now xs most).2.2.length ≤ 10000 := by
  unfold PRun
  split
  · rename_i h
    rw [Bool.and_eq_true, inR_iff] at h
    have hk := runF_ok most.toNat (sd := []) h.1
    refine ⟨runOk_small hk.ok, ?_⟩
    have := hk.said
    simp only [List.length_nil] at this
    omega
  · simp [pt0]
end Go.Proofs.Ytkphkkfgphhjcaa
