/- The machine's step. -/
import Derived.Test.YtkphkkfgphhjcaaP9
import Derived.Laws.EntriesVeiled
import Derived.Defers
import Derived.Recover
namespace Go.Proofs.Ytkphkkfgphhjcaa
open Go.RowKit
set_option linter.unusedSimpArgs false
set_option linter.unusedVariables false

def opTbl : Array Value := #[.nilFunc, .func (.func 61) #[] #[], .func (.func 63) #[] #[], .func (.func 65) #[] #[], .func (.func 66) #[] #[], .func (.func 67) #[] #[], .func (.func 68) #[] #[], .func (.func 70) #[] #[], .func (.func 71) #[] #[], .func (.func 72) #[] #[], .func (.func 73) #[] #[], .func (.func 74) #[] #[], .func (.func 75) #[] #[], .func (.func 76) #[] #[]]
set_option maxHeartbeats 1000000 in
theorem opTable_c (w : World) : Calls Try.prog 38 #[] w fun e w' => e = .returned (.agg opTbl) ∧ Below w.heap.size w w' := by
  go_enter Try.func38, Try.ntmps38
  go_wp2_with fail
  refine bodyPost_ret (v := .agg opTbl) (by simp [results, Try.results38, go_sem, opTbl]) rfl ⟨rfl, (by repeat (first | (with_reducible exact Below.refl _ _) | (with_reducible assumption) | (with_reducible refine Below.drew ?_) | (with_reducible refine below_drewN' ?_ _) | (with_reducible refine Below.setCell ?_ (by first | (simp; done) | (simp; omega) | omega) _) | (with_reducible refine Below.alloc ?_ (by first | (simp; done) | (simp; omega) | omega) _) | (with_reducible refine Below.trans ?_ (Below.mono (by assumption) (by first | (simp; done) | (simp; omega) | omega)))))⟩
/-- What an op does; none: it looks too far. -/
def Mac.op (m : Mac) (d a b : Int) : Option Mac :=
  if d = 1 then some (m.put a b)
  else if d = 2 then some (m.put a (m.cell a + m.cell b))
  else if d = 3 then some (m.put a (m.cell a + b))
  else if d = 4 then some (m.put a (max (m.cell a - 1) 0))
  else if d = 5 then some (if m.cell a > 0 then { m with next := b, jumps := true } else m)
  else if d = 6 then some { m with said := m.said ++ [(false, m.cell a)] }
  else if d = 7 then some { m with said := m.said ++ [(true, m.cell a)] }
  else if d = 8 then some (m.put a m.now)
  else if d = 9 then some { m with ports := m.ports.set b.toNat (m.cell a) }
  else if d = 10 then some (m.put a (m.ports.getD b.toNat 0))
  else if d = 11 then some { m with rests := true }
  else if d = 12 then some (match m.p.box with | [] => m.put a 0 | x :: r => { m with p := { m.p with box := r } }.put a x)
  else if m.cell b < 8 then some (m.put a (m.cell (m.cell b))) else none
def opFn (d : Int) : Nat := if d = 1 then 61 else if d = 2 then 63 else if d = 3 then 65 else if d = 4 then 66 else if d = 5 then 67 else if d = 6 then 68 else if d = 7 then 70 else if d = 8 then 71 else if d = 9 then 72 else if d = 10 then 73 else if d = 11 then 74 else if d = 12 then 75 else 76
/-- A machine that is ok. -/
structure Mac.Ok (m : Mac) : Prop where
  prog : progOK m.p.prog = true
  pc : 0 ≤ m.p.pc ∧ m.p.pc < m.p.prog.length
  len : m.p.cells.length = 8
  cells : ∀ x ∈ m.p.cells, 0 ≤ x ∧ x ≤ 9999
  box : m.p.box.length ≤ 4
  boxv : ∀ x ∈ m.p.box, 0 ≤ x ∧ x ≤ 9999
  plen : m.ports.length = 4
  ports : ∀ x ∈ m.ports, 0 ≤ x ∧ x ≤ 9999
  now : 0 ≤ m.now ∧ m.now ≤ 99999
theorem Mac.Ok.cellv {m : Mac} (h : m.Ok) (i : Int) : 0 ≤ m.cell i ∧ m.cell i ≤ 9999 := by
  unfold Mac.cell
  rw [List.getD_eq_getElem?_getD]
  cases hi : m.p.cells[i.toNat]? with
  | none => exact ⟨Int.le_refl _, by decide⟩
  | some x => exact h.cells x (List.mem_of_getElem? hi)
theorem op_range {d a b k : Int} (h : opOKP d a b k = true) : (1 ≤ d ∧ d ≤ 13) ∧ (0 ≤ a ∧ a < 8) ∧ 0 ≤ b ∧ (d = 1 ∨ d = 3 → b ≤ 9999) ∧ (d = 2 ∨ d = 13 → b < 8) ∧ (d = 9 ∨ d = 10 → b < 4) ∧ (d = 5 → b ≤ k - 1) := by
  unfold opOKP at h
  split at h
  · simp [inR] at h; omega
  split at h
  · simp [inR] at h; omega
  split at h
  · simp [inR] at h; omega
  split at h
  · simp [inR] at h; omega
  split at h
  · simp [inR] at h; omega
  split at h
  · simp at h; omega
  · cases h
def OpQ (w : World) (lo g : Nat) (S : List Nat) : Option Mac → Mac → Ending → World → Prop
  | some m', _, e, w' => e = .returned (.tuple #[]) ∧ MacP w lo g S m' w'
  | none, m, e, w' => (∃ x, e = .panicked [{ v := .iface 90 (.agg #[.int .i64 x]), recovered := false }]) ∧ MacP w lo g S m w'
theorem op_c (m : Mac) (lo g : Nat) (S : List Nat) (d a b k : Int) (w : World) (h : MacR w lo m g S) (hm : m.Ok) (hs : m.said.length ≤ 1000000) (hop : opOKP d a b k = true) : Calls Try.prog (opFn d) #[.pointer (some ⟨g, 0, none⟩), .agg #[.int .i64 d, .int .i64 a, .int .i64 b]] w (OpQ w lo g S (m.op d a b) m) := by
  obtain ⟨⟨d0, d1⟩, ⟨a0, a1⟩, b0, r1, r2, r3, r4⟩ := op_range hop
  rcases (by omega : d = 1 ∨ d = 2 ∨ d = 3 ∨ d = 4 ∨ d = 5 ∨ d = 6 ∨ d = 7 ∨ d = 8 ∨ d = 9 ∨ d = 10 ∨ d = 11 ∨ d = 12 ∨ d = 13) with rfl | rfl | rfl | rfl | rfl | rfl | rfl | rfl | rfl | rfl | rfl | rfl | rfl
  · exact op1_c m lo g S 1 a b w h hm.len a0 a1 b0 (r1 (.inl rfl))
  · exact op2_c m lo g S 2 a b w h hm.len a0 a1 b0 (r2 (.inl rfl)) hm.cellv
  · exact op3_c m lo g S 3 a b w h hm.len a0 a1 b0 (r1 (.inr rfl)) hm.cellv
  · exact op4_c m lo g S 4 a b w h hm.len a0 a1 hm.cellv
  · exact op5j_c m lo g S 5 a b w h hm.len a0 a1
  · exact op5_c m lo g S 6 a b w h hm.len a0 a1 hs
  · exact op6_c m lo g S 7 a b w h hm.len a0 a1 hs
  · exact op7_c m lo g S 8 a b w h hm.len a0 a1 hm.now.1 hm.now.2
  · exact op8_c m lo g S 9 a b w h hm.len a0 a1 hm.plen b0 (r3 (.inl rfl))
  · exact op9_c m lo g S 10 a b w h hm.len a0 a1 hm.plen b0 (r3 (.inr rfl)) hm.ports
  · exact op10_c m lo g S 11 a b w h hm.len a0 a1
  · exact op12_c m lo g S 12 a b w h hm.len a0 a1 (by have := hm.box; omega) hm.boxv
  · by_cases hf : m.cell b < 8
    · have e1 : m.op 13 a b = some (m.put a (m.cell (m.cell b))) := by simp [Mac.op, hf]
      rw [e1]
      exact op13_c m lo g S 13 a b w h hm.len a0 a1 b0 (r2 (.inr rfl)) hm.cellv hf
    · have e1 : m.op 13 a b = none := by simp [Mac.op, hf]
      rw [e1]
      refine (op13f_c m lo g S 13 a b w h hm.len a0 a1 b0 (r2 (.inr rfl)) (by omega)).mono ?_
      rintro e w' ⟨x, rfl, rfl⟩
      exact ⟨⟨x, rfl⟩, ((MacP.refl h).alloc _).drew⟩
end Go.Proofs.Ytkphkkfgphhjcaa
