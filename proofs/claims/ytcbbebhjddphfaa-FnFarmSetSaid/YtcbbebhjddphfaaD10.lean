/- What draws: a craft, a way and a number. -/
import Derived.Test.YtcbbebhjddphfaaD9
namespace Go.Proofs.Ytcbbebhjddphfaa
open Go.RowKit
set_option linter.unusedSimpArgs false
set_option linter.unusedVariables false

set_option maxHeartbeats 1000000 in
theorem DrawFarmSet_d (w : World) (A : Option Addr) (n c : Nat) (h : Code_ w A n c) : Calls Try.prog 29 #[.slice A n c] w (Dc w IsI3) := by
  have hC := Lib.hid h
  clear h
  go_enter Try.func29, Try.ntmps29
  go_wp2_with fail
  refine (open_c _ A n c hC.out.2.2 hC.out.1 hC.out.2.1.1).mono ?_
  rintro e w1 ⟨g, rfl, hR1, hB1⟩
  go_wp2_with fail
  refine (one_c w _ g 0 _ _ 5 (hR1.alloc _) (by omega) (by omega) (heap_top w1 _ rfl) (by have := hR1.lt; omega) (by rfl) (by omega) (by omega) IsI (isI_list [5, 5, 5, 1023, 1024] _ rfl)).mono ?_
  rintro e w2 ⟨v2, rfl, ⟨x, rfl⟩, hR2, hK2⟩
  go_wp2_with fail
  refine (one_c w _ g (0 + 1) _ _ 3 (hR2.alloc _) (by omega) (by omega) (heap_top w2 _ rfl) (by have := hR2.lt; omega) (by rfl) (by omega) (by omega) IsI (isI_list [3, 3, 63] _ rfl)).mono ?_
  rintro e w3 ⟨v3, rfl, ⟨y, rfl⟩, hR3, hK3⟩
  go_wp2_with fail
  refine (pick_c w _ g (0 + 1 + 1) 256 hR3 (by omega) (by omega) (by omega) (by omega)).mono ?_
  rintro e w4 ⟨r4, rfl, ra4, rb4, hR4, hK4⟩
  go_wp2_with fail
  refine (pick_c w _ g (0 + 1 + 1 + 1) 256 hR4 (by omega) (by omega) (by omega) (by omega)).mono ?_
  rintro e w5 ⟨r5, rfl, ra5, rb5, hR5, hK5⟩
  go_wp2_with fail
  refine (one_c w _ g (0 + 1 + 1 + 1 + 1) _ _ 5 (hR5.alloc _) (by omega) (by omega) (heap_top w5 _ rfl) (by have := hR5.lt; omega) (by rfl) (by omega) (by omega) IsI (isI_list [r4, r5, 255, 256, -1] _ rfl)).mono ?_
  rintro e w6 ⟨v6, rfl, ⟨z, rfl⟩, hR6, hK6⟩
  go_wp2_with fail
  refine bodyPost_ret (v := .tuple #[.int .i64 x, .int .i64 y, .int .i64 z]) (by simp [results, Try.results29, go_sem]) rfl ⟨_, rfl, ⟨x, y, z, rfl⟩, hR6.bel⟩

end Go.Proofs.Ytcbbebhjddphfaa
