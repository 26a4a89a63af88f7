/- The reference's copy: the walk. -/
import Derived.Test.YtkphkkfgphhjcaaS5
import Derived.Test.YtkphkkfgphhjcaaR4
namespace Go.Proofs.Ytkphkkfgphhjcaa
open Go.RowKit
set_option linter.unusedSimpArgs false
set_option linter.unusedVariables false

theorem op_info : (Try.prog.info? 44).map (fun i => (i.zero, i.size, i.bytes)) = some (some (.agg #[.int .i64 0, .int .i64 0, .int .i64 0]), 3, 24) := by kernel_rfl
theorem int_info : (Try.prog.info? 3).map (fun i => (i.zero, i.size, i.bytes)) = some (some (.int .i64 0), 1, 8) := by kernel_rfl
theorem app_ops (W : World) (N : Nat) (hN : N ≤ W.heap.size) (B : Nat) (A : Option Addr) (n c : Nat) (xs : List Op3) (fp : List Nat) (h : SL kO W (.slice A n c) xs fp) (hn : xs.length ≤ 10000000) :
    ∃ v' w' fp', (Builtin.append_ #[23, 23] 23 #[.slice (some ⟨B, 0, none⟩) 0 0, .slice A n c]).run Try.prog W = .ok v' w' ∧ Below W.heap.size W w' ∧ RowF kO 44 N v' xs fp' w' ∧ ∀ b ∈ fp', W.heap.size ≤ b := by
  obtain ⟨i0, hi, hzz⟩ := Option.map_eq_some_iff.1 op_info
  simp only [Prod.mk.injEq] at hzz
  obtain ⟨hz0, hz1, hz2⟩ := hzz
  exact app_e W _ _ _ i0 _ 24 Try.underlying23 hi hz0 hz1 hz2 (by decide) (by decide) (by decide) N hN B A n c xs fp h hn
theorem app_ints (W : World) (N : Nat) (hN : N ≤ W.heap.size) (B : Nat) (A : Option Addr) (n c : Nat) (xs : List Int) (fp : List Nat) (h : SL kI W (.slice A n c) xs fp) (hn : xs.length ≤ 10000000) :
    ∃ v' w' fp', (Builtin.append_ #[24, 24] 24 #[.slice (some ⟨B, 0, none⟩) 0 0, .slice A n c]).run Try.prog W = .ok v' w' ∧ Below W.heap.size W w' ∧ RowF kI 3 N v' xs fp' w' ∧ ∀ b ∈ fp', W.heap.size ≤ b := by
  obtain ⟨i0, hi, hzz⟩ := Option.map_eq_some_iff.1 int_info
  simp only [Prod.mk.injEq] at hzz
  obtain ⟨hz0, hz1, hz2⟩ := hzz
  exact app_e W _ _ _ i0 _ 8 Try.underlying24 hi hz0 hz1 hz2 (by decide) (by decide) (by decide) N hN B A n c xs fp h hn

def zPt : Obj := .cells #[.slice none 0 0, .slice none 0 0, .int .i64 0, .bool false, .slice none 0 0] 26 (0, 0)
/-- What holds of the world while the copy is made. -/
structure CpI (w : World) (p : Pt) (v1 v2 v3 : Value) (f1 f2 f3 : List Nat) (done : Bool) (W : World) : Prop where
  below : Below w.heap.size w W
  size : w.heap.size + 2 ≤ W.heap.size
  par : W.heap[w.heap.size]? = some (.cells #[v1, v2, .int .i64 p.pc, .bool p.fails, v3] 26 (0, 0))
  res : done = false → W.heap[w.heap.size + 1]? = some zPt
def CpR (N : Nat) (W1 W2 : World) : Prop := Kept [N + 1] W1 W2 ∧ (W1.heap[N + 1]? ≠ some zPt → W2.heap[N + 1]? = W1.heap[N + 1]?)
theorem CpR.below {N : Nat} {W1 W2 : World} (h : Below W1.heap.size W1 W2) (hN : N + 2 ≤ W1.heap.size) : CpR N W1 W2 := ⟨Kept.of_below h _, fun _ => h.block _ (by omega)⟩
theorem CpI.go {w W W' : World} {p : Pt} {v1 v2 v3 : Value} {f1 f2 f3 : List Nat} {d : Bool} (h : CpI w p v1 v2 v3 f1 f2 f3 d W) (hb : Below W.heap.size W W') : CpI w p v1 v2 v3 f1 f2 f3 d W' :=
  have hs := h.size
  ⟨h.below.trans (hb.mono (by omega)), by have := hb.size; omega, (hb.block _ (by omega)).trans h.par, fun e => (hb.block _ (by omega)).trans (h.res e)⟩
def CpE (v : Value) (W : World) : Prop := ∃ B : Nat, v = .slice (some ⟨B, 0, none⟩) 0 0
def CpB (N : Nat) (p : Pt) (d : Tmp) (σ : Tmp → Value) (v : Value) (W : World) : Prop := ∃ f2 f3, RowF kI 3 (N + 2) (σ d) p.cells f2 W ∧ RowF kI 3 (N + 2) v p.box f3 W ∧ (f2 ++ f3).Nodup
def CpP (N : Nat) (p : Pt) (v1 v2 v3 : Value) (f1 f2 f3 : List Nat) (W : World) : Prop := PtF W p v1 v2 v3 f1 f2 f3 ∧ Own W (N + 2) W.heap.size (f1 ++ (f2 ++ f3)) 
def CpA (N : Nat) (p : Pt) (v : Value) (W : World) : Prop := ∃ a1 c1 a2 c2 a3 c3 f1 f2 f3, v = .agg #[.slice (some a1) p.prog.length c1, .slice (some a2) p.cells.length c2, .int .i64 p.pc, .bool p.fails, .slice (some a3) p.box.length c3] ∧ CpP N p (.slice (some a1) p.prog.length c1) (.slice (some a2) p.cells.length c2) (.slice (some a3) p.box.length c3) f1 f2 f3 W
def CpD (N : Nat) (p : Pt) (v : Value) (W : World) : Prop := ∃ a1 c1 a2 c2 a3 c3 f1 f2 f3, W.heap[N + 1]? = some (.cells #[.slice (some a1) p.prog.length c1, .slice (some a2) p.cells.length c2, .int .i64 p.pc, .bool p.fails, .slice (some a3) p.box.length c3] 26 (0, 0)) ∧ CpP N p (.slice (some a1) p.prog.length c1) (.slice (some a2) p.cells.length c2) (.slice (some a3) p.box.length c3) f1 f2 f3 W
theorem RowF.st {α : Type} {d : Kd α} {e N : Nat} {v : Value} {xs : List α} {fp : List Nat} {W W' : World} (h : RowF d e (N + 2) v xs fp W) (hR : CpR N W W') : RowF d e (N + 2) v xs fp W' :=
  h.keep hR.1.size (fun b h1 h2 => hR.1.block b h2 (by simp; omega))
theorem RowF.of {α : Type} {d : Kd α} {e N : Nat} {v v' : Value} {xs : List α} {fp : List Nat} {W : World} (h : RowF d e N v xs fp W) (h' : v = v') : RowF d e N v' xs fp W := h' ▸ h
theorem rowT_st {α : Type} {d : Kd α} {e N : Nat} {xs : List α} : StableV (CpR N) (fun v W => RowT d e (N + 2) v xs W) := fun v W1 W2 hR h => by
  obtain ⟨fp, h⟩ := h
  exact ⟨fp, h.st hR⟩
theorem cpB_st {N : Nat} {p : Pt} {d : Tmp} (σ : Tmp → Value) : StableV (CpR N) (CpB N p d σ) := fun v W1 W2 hR h => by
  obtain ⟨f2, f3, h1, h2, h3⟩ := h
  exact ⟨f2, f3, h1.st hR, h2.st hR, h3⟩
theorem CpP.st {N : Nat} {p : Pt} {v1 v2 v3 : Value} {f1 f2 f3 : List Nat} {W W' : World} (h : CpP N p v1 v2 v3 f1 f2 f3 W) (hR : CpR N W W') : CpP N p v1 v2 v3 f1 f2 f3 W' := by
  have hk' : ∀ b ∈ f1 ++ (f2 ++ f3), W'.heap[b]? = W.heap[b]? := fun b hb => hR.1.block b (h.2.2 b hb).1.2 (by have := (h.2.2 b hb).1.1; simp; omega)
  exact ⟨h.1.keep hk', (h.2.keep hk').mono (Nat.le_refl _) hR.1.size⟩
theorem CpP.of {N : Nat} {p : Pt} {v1 v2 v3 : Value} {f1 f2 f3 : List Nat} {W : World} (h1 : RowF kO 44 (N + 2) v1 p.prog f1 W) (h2 : RowF kI 3 (N + 2) v2 p.cells f2 W) (h3 : RowF kI 3 (N + 2) v3 p.box f3 W) (hn : (f2 ++ f3).Nodup) : CpP N p v1 v2 v3 f1 f2 f3 W := by
  refine ⟨⟨h1.1, h2.1, h3.1⟩, ⟨List.nodup_append.2 ⟨h1.2.1.1, hn, fun x hx y hy e => ?_⟩, fun b hb => ?_⟩⟩
  · subst e
    obtain ⟨c1, k1⟩ := h1.2.2.1 x hx
    rcases List.mem_append.1 hy with hy | hy
    · obtain ⟨c2, k2⟩ := h2.2.2.1 x hy
      rw [k1] at k2
      simp at k2
    · obtain ⟨c2, k2⟩ := h3.2.2.1 x hy
      rw [k1] at k2
      simp at k2
  · rcases List.mem_append.1 hb with hb | hb
    · exact h1.2.1.2 b hb
    · rcases List.mem_append.1 hb with hb | hb
      · exact h2.2.1.2 b hb
      · exact h3.2.1.2 b hb
theorem cpA_st {N : Nat} {p : Pt} : StableV (CpR N) (CpA N p) := fun v W1 W2 hR h => by
  obtain ⟨a1, c1, a2, c2, a3, c3, f1, f2, f3, e, h⟩ := h
  exact ⟨a1, c1, a2, c2, a3, c3, f1, f2, f3, e, h.st hR⟩
theorem cpD_st {N : Nat} {p : Pt} : StableV (CpR N) (CpD N p) := fun v W1 W2 hR h => by
  obtain ⟨a1, c1, a2, c2, a3, c3, f1, f2, f3, e, h⟩ := h
  refine ⟨a1, c1, a2, c2, a3, c3, f1, f2, f3, ?_, h.st hR⟩
  rw [hR.2 ?_]
  · exact e
  · rw [e]
    unfold zPt
    intro h
    simp at h
theorem cpB_loc {ops : Array Oper} {i : Nat} {N : Nat} {p : Pt} {d : Tmp} (k : Nat) (hk : (match ops[i]? with | some o => (needs o).contains k | none => true) = true) (hd : dstOf ops k = some d) : LocE ops i (CpB N p d) := fun o ho σ σ' hs v w h => by
  obtain ⟨f2, f3, h1, h2⟩ := h
  rw [ho] at hk
  exact ⟨f2, f3, by rw [← hs k (by simpa using hk) d hd]; exact h1, h2⟩
end Go.Proofs.Ytkphkkfgphhjcaa
