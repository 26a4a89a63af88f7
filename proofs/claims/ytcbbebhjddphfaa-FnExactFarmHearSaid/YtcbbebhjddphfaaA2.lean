/- FarmHear of the program, on. -/
import Derived.Test.YtcbbebhjddphfaaA1
namespace Go.Proofs.Ytcbbebhjddphfaa
open Go.RowKit
set_option linter.unusedSimpArgs false
set_option linter.unusedVariables false

def Fm.ord (f : Fm) (d : Int) (room : Bool) : Fm × Int :=
  if f.sh then (f, 5)
  else if 8 ≤ d ∧ d ≤ 247 then ({ f with sh := true }, 3)
  else if 247 < d then (f, 1)
  else if f.wt then (f, 4)
  else if 0 < d then ({ f with ag := true }, 2)
  else if room = false then ({ f with wt := true, ag := true }, 4)
  else ({ f with ag := false, nx := (f.nx + 1) % 256 }, 0)
theorem hearS_c (f : Fm) (d : Int) (room : Bool) (w : World) (hs : f.sh = true) : Calls Try.prog 88 #[.agg #[], f.v, .int .i64 d, .bool room] w (Ret w (.tuple #[(f.ord d room).1.v, .int .i64 (f.ord d room).2])) := by
  obtain ⟨s, wt, ag, c, n⟩ := f
  simp only at hs
  subst hs
  show Calls Try.prog 88 #[.agg #[], .agg #[.bool true, .bool wt, .bool ag, .int .i64 c, .int .i64 n], .int .i64 d, .bool room] w _
  go_enter Try.func88, Try.ntmps88
  go_wp2_with fail
  exact bodyPost_ret (v := .tuple #[_, .int .i64 5]) (by simp [results, Try.results88, go_sem]; first | rfl | exact ⟨rfl, rfl⟩ | exact ⟨rfl, rfl, rfl⟩) rfl ⟨by simp [Fm.ord, Fm.v], (by repeat (first | (with_reducible exact Below.refl _ _) | (with_reducible assumption) | (with_reducible refine Below.drew ?_) | (with_reducible refine below_drewN' ?_ _) | (with_reducible refine Below.setCell ?_ (by first | (simp; done) | (simp; omega) | omega) _) | (with_reducible refine Below.alloc ?_ (by first | (simp; done) | (simp; omega) | omega) _) | (with_reducible refine Below.trans ?_ (Below.mono (by assumption) (by simp; omega)))))⟩
set_option maxHeartbeats 1000000 in
theorem hearW_c (f : Fm) (d : Int) (room : Bool) (w : World) (hs : f.sh = false) (hw : f.wt = true) : Calls Try.prog 89 #[.agg #[], f.v, .int .i64 d, .bool room] w (Ret w (.tuple #[(f.ord d room).1.v, .int .i64 (f.ord d room).2])) := by
  obtain ⟨s, wt, ag, c, n⟩ := f
  simp only at hs hw
  subst hs hw
  show Calls Try.prog 89 #[.agg #[], .agg #[.bool false, .bool true, .bool ag, .int .i64 c, .int .i64 n], .int .i64 d, .bool room] w _
  obtain ⟨⟨s1, w1, a1, c1, n1⟩, k, b, he⟩ : ∃ (g : Fm) (k : Int) (b : Bool), (Fm.mk false true ag c n).away d = (g, k, b) := ⟨_, _, _, rfl⟩
  have hf : (Fm.mk false true ag c n).ord d room = if b then (⟨s1, w1, a1, c1, n1⟩, k) else (⟨false, true, ag, c, n⟩, 4) := by
    simp only [Fm.away] at he
    simp only [Fm.ord]
    split at he
    · simp at he; simp_all
    · split at he
      · simp at he; simp_all
      · simp at he; obtain ⟨_, rfl, rfl⟩ := he; simp_all [show ¬ 8 ≤ d by omega, show ¬ 247 < d by omega]
  rw [hf]
  have A := Lib.hid (hearAway_c ⟨false, true, ag, c, n⟩ d)
  rw [he] at A
  clear he hf
  cases b
  all_goals
    go_enter Try.func89, Try.ntmps89
    go_wp2_with (go_at_call 90; refine (A.out _).mono ?_; rintro e w1 ⟨rfl, hb1⟩; obtain ⟨hc1, hf1⟩ := bcell hb1; have hz1 : w.heap.size + 2 < w1.heap.size := by { have := hb1.size; simp at this; omega }; have hy1 : w.heap.size < w1.heap.size := (by omega); have hx1 : w.heap.size + 1 < w1.heap.size := (by omega); simp only [Fm.v])
    exact bodyPost_ret (v := .tuple #[_, .int .i64 _]) (by simp [results, Try.results89, go_sem, hc1, hx1, hy1, hz1]; first | rfl | exact ⟨rfl, rfl⟩ | exact ⟨rfl, rfl, rfl⟩) rfl ⟨rfl, (by repeat (first | (with_reducible exact Below.refl _ _) | (with_reducible assumption) | (with_reducible refine Below.drew ?_) | (with_reducible refine below_drewN' ?_ _) | (with_reducible refine Below.setCell ?_ (by first | (simp; done) | (simp; omega) | omega) _) | (with_reducible refine Below.alloc ?_ (by first | (simp; done) | (simp; omega) | omega) _) | (with_reducible refine Below.trans ?_ (Below.mono (by assumption) (by simp; omega)))))⟩
set_option maxHeartbeats 1000000 in
theorem hearR_c (f : Fm) (d : Int) (room : Bool) (w : World) (hs : f.sh = false) (hw : f.wt = false) (h0 : 0 ≤ f.nx) (h1 : f.nx ≤ 255) : Calls Try.prog 91 #[.agg #[], f.v, .int .i64 d, .bool room] w (Ret w (.tuple #[(f.ord d room).1.v, .int .i64 (f.ord d room).2])) := by
  obtain ⟨s, wt, ag, c, n⟩ := f
  simp only at hs hw h0 h1
  subst hs hw
  show Calls Try.prog 91 #[.agg #[], .agg #[.bool false, .bool false, .bool ag, .int .i64 c, .int .i64 n], .int .i64 d, .bool room] w _
  obtain ⟨⟨s1, w1, a1, c1, n1⟩, k, b, he⟩ : ∃ (g : Fm) (k : Int) (b : Bool), (Fm.mk false false ag c n).away d = (g, k, b) := ⟨_, _, _, rfl⟩
  have hf : (Fm.mk false false ag c n).ord d room = if b then (⟨s1, w1, a1, c1, n1⟩, k) else if 0 < d then (⟨false, false, true, c, n⟩, 2) else if room = false then (⟨false, true, true, c, n⟩, 4) else (⟨false, false, false, c, (n + 1) % 256⟩, 0) := by
    simp only [Fm.away] at he
    simp only [Fm.ord]
    split at he
    · simp at he; simp_all
    · split at he
      · simp at he; simp_all
      · simp at he; obtain ⟨_, rfl, rfl⟩ := he; simp_all [show ¬ 8 ≤ d ∨ ¬ d ≤ 247 by omega, show ¬ 247 < d by omega]
        omega
  rw [hf]
  have A := Lib.hid (hearAway_c ⟨false, false, ag, c, n⟩ d)
  rw [he] at A
  clear he hf
  cases b
  · by_cases hd : 0 < d
    · go_enter Try.func91, Try.ntmps91
      go_wp2_with (first | (go_at_call 90; refine (A.out _).mono ?_; rintro e w1 ⟨rfl, hb1⟩; obtain ⟨hc1, hf1⟩ := bcell hb1; have hz1 : w.heap.size + 2 < w1.heap.size := by { have := hb1.size; simp at this; omega }; have hy1 : w.heap.size < w1.heap.size := (by omega); have hx1 : w.heap.size + 1 < w1.heap.size := (by omega); simp only [Fm.v]) | (go_at_call 65; refine (plus_c _ _ _ h0 h1 (by omega) (by omega)).mono ?_; rintro e w1 ⟨rfl, rfl⟩))
      exact bodyPost_ret (v := .tuple #[_, .int .i64 _]) (by simp [results, Try.results91, go_sem, hc1, hx1, hy1, hz1]; first | rfl | exact ⟨rfl, rfl⟩ | exact ⟨rfl, rfl, rfl⟩) rfl ⟨by simp [hd, Fm.v], (by repeat (first | (with_reducible exact Below.refl _ _) | (with_reducible assumption) | (with_reducible refine Below.drew ?_) | (with_reducible refine below_drewN' ?_ _) | (with_reducible refine Below.setCell ?_ (by first | (simp; done) | (simp; omega) | omega) _) | (with_reducible refine Below.alloc ?_ (by first | (simp; done) | (simp; omega) | omega) _) | (with_reducible refine Below.trans ?_ (Below.mono (by assumption) (by simp; omega)))))⟩
    · cases room
      all_goals
        go_enter Try.func91, Try.ntmps91
        go_wp2_with (first | (go_at_call 90; refine (A.out _).mono ?_; rintro e w1 ⟨rfl, hb1⟩; obtain ⟨hc1, hf1⟩ := bcell hb1; have hz1 : w.heap.size + 2 < w1.heap.size := by { have := hb1.size; simp at this; omega }; have hy1 : w.heap.size < w1.heap.size := (by omega); have hx1 : w.heap.size + 1 < w1.heap.size := (by omega); simp only [Fm.v]) | (go_at_call 65; refine (plus_c _ _ _ h0 h1 (by omega) (by omega)).mono ?_; rintro e w1 ⟨rfl, rfl⟩))
        exact bodyPost_ret (v := .tuple #[_, .int .i64 _]) (by simp [results, Try.results91, go_sem, hc1, hx1, hy1, hz1]; first | rfl | exact ⟨rfl, rfl⟩ | exact ⟨rfl, rfl, rfl⟩) rfl ⟨by simp [show ¬ 0 < d by omega, Fm.v], (by repeat (first | (with_reducible exact Below.refl _ _) | (with_reducible assumption) | (with_reducible refine Below.drew ?_) | (with_reducible refine below_drewN' ?_ _) | (with_reducible refine Below.setCell ?_ (by first | (simp; done) | (simp; omega) | omega) _) | (with_reducible refine Below.alloc ?_ (by first | (simp; done) | (simp; omega) | omega) _) | (with_reducible refine Below.trans ?_ (Below.mono (by assumption) (by simp; omega)))))⟩
  · go_enter Try.func91, Try.ntmps91
    go_wp2_with (go_at_call 90; refine (A.out _).mono ?_; rintro e w1 ⟨rfl, hb1⟩; obtain ⟨hc1, hf1⟩ := bcell hb1; have hz1 : w.heap.size + 2 < w1.heap.size := by { have := hb1.size; simp at this; omega }; have hy1 : w.heap.size < w1.heap.size := (by omega); have hx1 : w.heap.size + 1 < w1.heap.size := (by omega); simp only [Fm.v])
    exact bodyPost_ret (v := .tuple #[_, .int .i64 _]) (by simp [results, Try.results91, go_sem, hc1, hx1, hy1, hz1]; first | rfl | exact ⟨rfl, rfl⟩ | exact ⟨rfl, rfl, rfl⟩) rfl ⟨rfl, (by repeat (first | (with_reducible exact Below.refl _ _) | (with_reducible assumption) | (with_reducible refine Below.drew ?_) | (with_reducible refine below_drewN' ?_ _) | (with_reducible refine Below.setCell ?_ (by first | (simp; done) | (simp; omega) | omega) _) | (with_reducible refine Below.alloc ?_ (by first | (simp; done) | (simp; omega) | omega) _) | (with_reducible refine Below.trans ?_ (Below.mono (by assumption) (by simp; omega)))))⟩

theorem standingOf_c (f : Fm) (w : World) : Calls Try.prog 44 #[f.v] w (Ret w (.iface (if f.sh then 99 else if f.wt then 100 else 101) (.agg #[]))) := by
  obtain ⟨s, wt, ag, c, n⟩ := f
  show Calls Try.prog 44 #[.agg #[.bool s, .bool wt, .bool ag, .int .i64 c, .int .i64 n]] w _
  cases s <;> cases wt <;>
  · go_enter Try.func44, Try.ntmps44
    go_wp2_with fail
    go_ret
    exact ⟨rfl, (by repeat (first | (with_reducible exact Below.refl _ _) | (with_reducible assumption) | (with_reducible refine Below.drew ?_) | (with_reducible refine below_drewN' ?_ _) | (with_reducible refine Below.setCell ?_ (by first | (simp; done) | (simp; omega) | omega) _) | (with_reducible refine Below.alloc ?_ (by first | (simp; done) | (simp; omega) | omega) _) | (with_reducible refine Below.trans ?_ (Below.mono (by assumption) (by simp; omega)))))⟩

end Go.Proofs.Ytcbbebhjddphfaa
