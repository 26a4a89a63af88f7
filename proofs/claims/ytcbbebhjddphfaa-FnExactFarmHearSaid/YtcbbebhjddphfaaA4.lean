/- FarmHear of the reference. -/
import Derived.Test.YtcbbebhjddphfaaA3
import Derived.Deep.RegionWith
namespace Go.Proofs.Ytcbbebhjddphfaa
open Go.RowKit
set_option linter.unusedSimpArgs false
set_option linter.unusedVariables false

theorem l1In_c (a b c : Int) (w : World) : Calls Try.prog 40 #[.int .i64 a, .int .i64 b, .int .i64 c] w fun e w' => e = .returned (.bool (decide (b ≤ a) && decide (a ≤ c))) ∧ w = w' := by
  by_cases h : b ≤ a
  all_goals
    go_enter Try.func40, Try.ntmps40
    go_wp2
    go_ret
    exact ⟨rb (by rw [Bool.eq_iff_iff]; simp; omega), rfl⟩
theorem l1In0_c (a c : Int) (w : World) : Calls Try.prog 40 #[.int .i64 a, .int .i64 0, .int .i64 c] w fun e w' => e = .returned (.bool (inR a c)) ∧ w = w' := l1In_c a 0 c w
theorem sFarmOk_c (f : Fm) (w : World) : Calls Try.prog 15 #[f.v] w (Ret w (.bool f.ok)) := by
  obtain ⟨s, wt, ag, c, n⟩ := f
  show Calls Try.prog 15 #[.agg #[.bool s, .bool wt, .bool ag, .int .i64 c, .int .i64 n]] w _
  cases h1 : inR c 3 <;> cases h2 : inR n 255 <;> cases wt <;> 
  · go_enter Try.func15, Try.ntmps15
    go_wp2_with (go_at_call 40; refine (l1In0_c _ _ _).mono ?_; rintro e w1 ⟨rfl, rfl⟩)
    go_ret
    exact ⟨by simp [Fm.ok, h1, h2], (by repeat (first | (with_reducible exact Below.refl _ _) | (with_reducible assumption) | (with_reducible refine Below.drew ?_) | (with_reducible refine below_drewN' ?_ _) | (with_reducible refine Below.setCell ?_ (by first | (simp; done) | (simp; omega) | omega) _) | (with_reducible refine Below.alloc ?_ (by first | (simp; done) | (simp; omega) | omega) _) | (with_reducible refine Below.trans ?_ (Below.mono (by assumption) (by first | (simp; done) | (simp; omega) | omega)))))⟩
theorem sFrameOk_c (x : Fr) (w : World) : Calls Try.prog 22 #[x.v] w (Ret w (.bool x.ok)) := by
  obtain ⟨p, g, c, v, s, d⟩ := x
  show Calls Try.prog 22 #[.agg #[.bool p, .bool g, .int .i64 c, .int .i64 v, .int .i64 s, .string d]] w _
  have hd : (decide ((1 : Int) ≤ (d.size : Int)) && decide ((d.size : Int) ≤ 53)) = dOk d := by rw [Bool.eq_iff_iff]; simp [dOk]; omega
  have hl := fun W => l1In_c (d.size : Int) 1 53 W
  rw [hd] at hl
  have hl := Lib.hid hl
  clear hd
  cases h1 : inR c 1023 <;> cases h2 : inR v 63 <;> cases h3 : inR s 255 <;> cases h4 : dOk d <;> cases p <;>
  · rw [h4] at hl
    go_enter Try.func22, Try.ntmps22
    go_wp2_with (first | (go_at_call_of 40 (Value.int .i64 53); refine (hl.out _).mono ?_; rintro e w1 ⟨rfl, rfl⟩) | (go_at_call 40; refine (l1In0_c _ _ _).mono ?_; rintro e w1 ⟨rfl, rfl⟩))
    go_ret
    exact ⟨by simp [Fr.ok, h1, h2, h3, h4], (by repeat (first | (with_reducible exact Below.refl _ _) | (with_reducible assumption) | (with_reducible refine Below.drew ?_) | (with_reducible refine below_drewN' ?_ _) | (with_reducible refine Below.setCell ?_ (by first | (simp; done) | (simp; omega) | omega) _) | (with_reducible refine Below.alloc ?_ (by first | (simp; done) | (simp; omega) | omega) _) | (with_reducible refine Below.trans ?_ (Below.mono (by assumption) (by first | (simp; done) | (simp; omega) | omega)))))⟩
theorem l4Mod_c (n : Int) (w : World) (h0 : -255 ≤ n) (h1 : n ≤ 510) : Calls Try.prog 53 #[.int .i64 n] w fun e w' => e = .returned (.int .i64 (n % 256)) ∧ w = w' := by
  go_enter Try.func53, Try.ntmps53
  go_wp2
  go_ret
  exact ⟨ri (by omega), rfl⟩
set_option maxHeartbeats 1000000 in
theorem sGovern_c (f : Fm) (d : ByteArray) (w : World) (h0 : 0 ≤ f.ct) (h1 : f.ct ≤ 3) : Calls Try.prog 49 #[f.v, .string d] w (Ret w (.tuple #[(f.gov d).1.v, .int .i64 (f.gov d).2])) := by
  obtain ⟨s, wt, ag, c, n⟩ := f
  simp only at h0 h1
  cases hd : (d.toList == [0])
  · by_cases h3 : d.size = 3
    · cases h4 : ((d.extract 0 2).toList == [130, 0])
      · show Calls Try.prog 49 #[.agg #[.bool s, .bool wt, .bool ag, .int .i64 c, .int .i64 n], .string d] w _
        go_enter Try.func49, Try.ntmps49
        go_wp2_with fail
        exact bodyPost_ret (v := .tuple #[_, .int .i64 6]) (by simp [results, Try.results49, go_sem]; first | rfl | exact ⟨rfl, rfl⟩ | exact ⟨rfl, rfl, rfl⟩) rfl ⟨by simp [Fm.gov, isOpen, isSet, hd, h4, Fm.v], (by repeat (first | (with_reducible exact Below.refl _ _) | (with_reducible assumption) | (with_reducible refine Below.drew ?_) | (with_reducible refine below_drewN' ?_ _) | (with_reducible refine Below.setCell ?_ (by first | (simp; done) | (simp; omega) | omega) _) | (with_reducible refine Below.alloc ?_ (by first | (simp; done) | (simp; omega) | omega) _) | (with_reducible refine Below.trans ?_ (Below.mono (by assumption) (by first | (simp; done) | (simp; omega) | omega)))))⟩
      · cases s <;> 
        · show Calls Try.prog 49 #[.agg #[.bool _, .bool wt, .bool ag, .int .i64 c, .int .i64 n], .string d] w _
          go_enter Try.func49, Try.ntmps49
          go_wp2_with fail
          exact bodyPost_ret (v := .tuple #[_, .int .i64 7]) (by simp [results, Try.results49, go_sem]; first | rfl | exact ⟨rfl, rfl⟩ | exact ⟨rfl, rfl, rfl⟩) rfl ⟨by simp [Fm.gov, isOpen, isSet, hd, h4, h3, Fm.v, b2, Fm.counted, w64b], (by repeat (first | (with_reducible exact Below.refl _ _) | (with_reducible assumption) | (with_reducible refine Below.drew ?_) | (with_reducible refine below_drewN' ?_ _) | (with_reducible refine Below.setCell ?_ (by first | (simp; done) | (simp; omega) | omega) _) | (with_reducible refine Below.alloc ?_ (by first | (simp; done) | (simp; omega) | omega) _) | (with_reducible refine Below.trans ?_ (Below.mono (by assumption) (by first | (simp; done) | (simp; omega) | omega)))))⟩
    · show Calls Try.prog 49 #[.agg #[.bool s, .bool wt, .bool ag, .int .i64 c, .int .i64 n], .string d] w _
      go_enter Try.func49, Try.ntmps49
      go_wp2_with fail
      exact bodyPost_ret (v := .tuple #[_, .int .i64 6]) (by simp [results, Try.results49, go_sem]; first | rfl | exact ⟨rfl, rfl⟩ | exact ⟨rfl, rfl, rfl⟩) rfl ⟨by simp [Fm.gov, isOpen, isSet, hd, h3, Fm.v], (by repeat (first | (with_reducible exact Below.refl _ _) | (with_reducible assumption) | (with_reducible refine Below.drew ?_) | (with_reducible refine below_drewN' ?_ _) | (with_reducible refine Below.setCell ?_ (by first | (simp; done) | (simp; omega) | omega) _) | (with_reducible refine Below.alloc ?_ (by first | (simp; done) | (simp; omega) | omega) _) | (with_reducible refine Below.trans ?_ (Below.mono (by assumption) (by first | (simp; done) | (simp; omega) | omega)))))⟩
  · show Calls Try.prog 49 #[.agg #[.bool s, .bool wt, .bool ag, .int .i64 c, .int .i64 n], .string d] w _
    go_enter Try.func49, Try.ntmps49
    go_wp2_with fail
    exact bodyPost_ret (v := .tuple #[_, .int .i64 7]) (by simp [results, Try.results49, go_sem]; first | rfl | exact ⟨rfl, rfl⟩ | exact ⟨rfl, rfl, rfl⟩) rfl ⟨by simp [Fm.gov, isOpen, hd, Fm.v, Fm.counted], (by repeat (first | (with_reducible exact Below.refl _ _) | (with_reducible assumption) | (with_reducible refine Below.drew ?_) | (with_reducible refine below_drewN' ?_ _) | (with_reducible refine Below.setCell ?_ (by first | (simp; done) | (simp; omega) | omega) _) | (with_reducible refine Below.alloc ?_ (by first | (simp; done) | (simp; omega) | omega) _) | (with_reducible refine Below.trans ?_ (Below.mono (by assumption) (by first | (simp; done) | (simp; omega) | omega)))))⟩

end Go.Proofs.Ytcbbebhjddphfaa
