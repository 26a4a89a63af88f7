/- What draws: a craft and a way; a craft, a way and a number. -/
import Derived.Test.YtcbbebhjddphfaaD3
namespace Go.Proofs.Ytcbbebhjddphfaa
open Go.RowKit
set_option linter.unusedSimpArgs false
set_option linter.unusedVariables false

theorem isI_list (l : List Int) (cs : Array Value) (h : cs.toList = l.map (Value.int .i64)) (j : Nat) (v : Value) (hj : cs[j]? = some v) : IsI v :=
  arr_all (Q := IsI) (fun v hv => by rw [h, List.mem_map] at hv; obtain ⟨x, _, rfl⟩ := hv; exact ⟨x, rfl⟩) j v hj
def IsI2 (v : Value) : Prop := ∃ a b : Int, v = .tuple #[.int .i64 a, .int .i64 b]
def IsI3 (v : Value) : Prop := ∃ a b c : Int, v = .tuple #[.int .i64 a, .int .i64 b, .int .i64 c]
set_option maxHeartbeats 1000000 in
theorem DrawFarmOpen_d (w : World) (A : Option Addr) (n c : Nat) (h : Code_ w A n c) : Calls Try.prog 18 #[.slice A n c] w (Dc w IsI2) := by
  have hC := Lib.hid h
  clear h
  go_enter Try.func18, Try.ntmps18
  go_wp2_with fail
  refine (open_c _ A n c hC.out.2.2 hC.out.1 hC.out.2.1.1).mono ?_
  rintro e w1 ⟨g, rfl, hR1, hB1⟩
  go_wp2_with fail
  refine (one_c w _ g 0 _ _ 5 (hR1.alloc _) (by omega) (by omega) (heap_top w1 _ rfl) (by have := hR1.lt; omega) (by rfl) (by omega) (by omega) IsI (isI_list [5, 0, 1023, 1024, -1] _ rfl)).mono ?_
  rintro e w2 ⟨v2, rfl, ⟨x, rfl⟩, hR2, hK2⟩
  go_wp2_with fail
  refine (one_c w _ g (0 + 1) _ _ 4 (hR2.alloc _) (by omega) (by omega) (heap_top w2 _ rfl) (by have := hR2.lt; omega) (by rfl) (by omega) (by omega) IsI (isI_list [3, 0, 63, 64] _ rfl)).mono ?_
  rintro e w3 ⟨v3, rfl, ⟨y, rfl⟩, hR3, hK3⟩
  go_wp2_with fail
  go_ret2
  exact ⟨_, rfl, ⟨x, y, rfl⟩, hR3.bel⟩

end Go.Proofs.Ytcbbebhjddphfaa
