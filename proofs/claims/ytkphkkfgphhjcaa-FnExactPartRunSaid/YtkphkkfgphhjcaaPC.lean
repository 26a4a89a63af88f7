/- What the deferred closure of step does. -/
import Derived.Test.YtkphkkfgphhjcaaP10
import Derived.Laws.Pointers
namespace Go.Proofs.Ytkphkkfgphhjcaa
open Go.RowKit
set_option linter.unusedSimpArgs false
set_option linter.unusedVariables false

theorem assert_far (v : Value) (w : World) : (Instr.typeAssert (.iface 90 v) 20 90 true).run Try.prog w = .ok (.tuple #[v, .bool true]) w := by
  have h := Try.underlying90
  simp [Instr.typeAssert, Sem.run_bind, run_underlying h, Result.andThen]
set_option maxRecDepth 100000 in
theorem assert_nil (w : World) : (Instr.typeAssert .nilIface 20 90 true).run Try.prog w = .ok (.tuple #[.agg #[.int .i64 0], .bool false]) w := by
  have h := Try.underlying90
  have h2 : ∀ w : World, (zeroValue 90).run Try.prog w = .ok (.agg #[.int .i64 0]) w := fun _ => by first | rfl | kernel_rfl
  simp [Instr.typeAssert, Sem.run_bind, run_underlying h, Result.andThen, h2]
set_option maxHeartbeats 1000000 in
theorem catch_far (B0 B1 g : Nat) (x : Int) (older : List PanicEntry) (w : World) (h0 : w.cell? ⟨B0, 0, none⟩ = some (.pointer (some ⟨g, 0, none⟩))) (h1 : ∃ u, w.cell? ⟨B1, 0, none⟩ = some u) (z1 : w.frozen? ⟨B1, 0, none⟩ = false) (h2 : ∃ u, w.cell? ⟨g, 3, none⟩ = some u) (z2 : w.frozen? ⟨g, 3, none⟩ = false) (l0 : B0 < w.heap.size) (l1 : B1 < w.heap.size) (l2 : g < w.heap.size) :
    CallsD Try.prog 77 #[.pointer (some ⟨B0, 0, none⟩), .pointer (some ⟨B1, 0, none⟩)] (.panicking ({ v := .iface 90 (.agg #[.int .i64 x]), recovered := false } :: older)) w fun e u' w' =>
      e = .returned (.tuple #[]) ∧ u' = .panicking ({ v := .iface 90 (.agg #[.int .i64 x]), recovered := true } :: older) ∧ w' = ((w.setCell ⟨g, 3, none⟩ (.bool true)).setCell ⟨B1, 0, none⟩ (.bool false)).alloc (.cells #[.int .i64 x] 90) := by
  obtain ⟨u1, h1⟩ := h1
  obtain ⟨u2, h2⟩ := h2
  refine callsD_of_wpS Try.func77 rfl fun c₀ cs hu => ?_
  apply wpS_seq
  apply wpS_region
  have hta := fun w => assert_far (.agg #[.int .i64 x]) w
  simp [hta, wpOpsS, go_sem, recoverD, hu, Try.ntmps77, Exit.thenS, h0, h1, h2, z1, z2, l0, l1, l2]
  refine wpS_of_wp ?_
  clear hta
  simp only [Array.replicate, List.replicate, List.setIfInBounds_toArray, List.set_cons_zero, List.set_cons_succ, List.append_toArray, List.cons_append, List.nil_append]
  go_wp2_with fail
  simp [bodyPostS, results, Try.results77]
theorem catch_idle (B0 B1 : Nat) (w : World) :
    CallsD Try.prog 77 #[.pointer (some ⟨B0, 0, none⟩), .pointer (some ⟨B1, 0, none⟩)] .returning w fun e u' w' => e = .returned (.tuple #[]) ∧ u' = .returning ∧ w' = w.alloc (.cells #[.int .i64 0] 90) := by
  refine callsD_of_wpS Try.func77 rfl fun c₀ cs hu => ?_
  apply wpS_seq
  apply wpS_region
  have hta := fun w => assert_nil w
  simp [hta, wpOpsS, go_sem, recoverD, hu, Try.ntmps77, Exit.thenS]
  refine wpS_of_wp ?_
  clear hta
  go_wp2_with fail
  all_goals (cases c₀; simp_all [bodyPostS, results, Try.results77])
end Go.Proofs.Ytkphkkfgphhjcaa
