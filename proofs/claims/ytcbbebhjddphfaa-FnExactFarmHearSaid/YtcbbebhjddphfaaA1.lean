/- FarmHear of the program. -/
import Derived.Test.YtcbbebhjddphfaaA0
namespace Go.Proofs.Ytcbbebhjddphfaa
open Go.RowKit

theorem tmod_neg {n : Int} (h2 : -255 ≤ n) (h3 : n < 0) : n.tmod 256 = n := by
  obtain ⟨m, rfl⟩ : ∃ m, n = -m := ⟨-n, by omega⟩
  rw [Int.neg_tmod, Int.tmod_eq_of_lt (by omega) (by omega)]
theorem plus_c (g n : Int) (w : World) (h0 : 0 ≤ g) (h1 : g ≤ 255) (h2 : -255 ≤ n) (h3 : n ≤ 255) : Calls Try.prog 65 #[.int .i64 g, .int .i64 n] w fun e w' => e = .returned (.int .i64 ((g + n) % 256)) ∧ w = w' := by
  by_cases h : 0 ≤ n
  · go_enter Try.func65, Try.ntmps65
    go_wp2
    go_ret
    exact ⟨ri (by omega), rfl⟩
  · have h5 : n < 0 := by omega
    have h4 := tmod_neg h2 h5
    clear h
    go_enter Try.func65, Try.ntmps65
    go_wp2
    go_ret
    exact ⟨ri (by omega), rfl⟩
theorem behind_c (g o : Int) (w : World) (h0 : 0 ≤ g) (h1 : g ≤ 255) (h2 : 0 ≤ o) (h3 : o ≤ 255) : Calls Try.prog 45 #[.int .i64 g, .int .i64 o] w fun e w' => e = .returned (.int .i64 ((g - o) % 256)) ∧ w = w' := by
  go_enter Try.func45, Try.ntmps45
  go_wp2_with (go_at_call 65; refine (plus_c _ _ _ h0 h1 (by omega) (by omega)).mono ?_; rintro e w1 ⟨rfl, rfl⟩)
  go_ret
  exact ⟨ri (by omega), rfl⟩

def isOpen (d : ByteArray) : Bool := d.toList == [0]
def isSet (d : ByteArray) : Bool := decide (d.size = 3) && ((d.extract 0 2).toList == [130, 0])
def b2 (d : ByteArray) : Int := if h : 2 < d.size then (d[2]'h).toNat else 0
def Fm.gov (f : Fm) (d : ByteArray) : Fm × Int :=
  if isOpen d then ({ f with sh := false, wt := false, ag := false }.counted, 7)
  else if isSet d then (if f.sh then f.counted else { f with wt := false, ag := false, nx := b2 d }.counted, 7)
  else (f, 6)
set_option maxHeartbeats 1000000 in
theorem hearGovern_c (f : Fm) (d : ByteArray) (w : World) (h0 : 0 ≤ f.ct) (h1 : f.ct ≤ 3) : Calls Try.prog 42 #[f.v, .string d] w (Ret w (.tuple #[(f.gov d).1.v, .int .i64 (f.gov d).2])) := by
  obtain ⟨s, wt, ag, c, n⟩ := f
  simp only at h0 h1
  cases hd : (d.toList == [0])
  · by_cases h3 : d.size = 3
    · cases h4 : ((d.extract 0 2).toList == [130, 0])
      · show Calls Try.prog 42 #[.agg #[.bool s, .bool wt, .bool ag, .int .i64 c, .int .i64 n], .string d] w _
        go_enter Try.func42, Try.ntmps42
        go_wp2_with fail
        exact bodyPost_ret (v := .tuple #[_, .int .i64 6]) (by simp [results, Try.results42, go_sem]; rfl) rfl ⟨by simp [Fm.gov, isOpen, isSet, hd, h4, Fm.v], (by repeat (first | (with_reducible exact Below.refl _ _) | (with_reducible assumption) | (with_reducible refine Below.drew ?_) | (with_reducible refine below_drewN' ?_ _) | (with_reducible refine Below.setCell ?_ (by simp) _) | (with_reducible refine Below.alloc ?_ (by simp) _) | (with_reducible refine Below.trans ?_ (Below.mono (by assumption) (by simp; omega)))))⟩
      · cases s <;> 
        · show Calls Try.prog 42 #[.agg #[.bool _, .bool wt, .bool ag, .int .i64 c, .int .i64 n], .string d] w _
          go_enter Try.func42, Try.ntmps42
          go_wp2_with (go_at_call 43; refine (counted_c ⟨_, _, _, _, _⟩ _ h0 h1).mono ?_; rintro e w1 ⟨rfl, hb1⟩; obtain ⟨hc1, hf1⟩ := bcell hb1; have hz1 : w.heap.size + 1 < w1.heap.size := by { have := hb1.size; simp at this; omega }; simp only [Fm.v, Fm.counted])
          exact bodyPost_ret (v := .tuple #[_, .int .i64 7]) (by simp [results, Try.results42, go_sem, hc1]; rfl) rfl ⟨by simp [Fm.gov, isOpen, isSet, hd, h4, h3, Fm.v, b2, Fm.counted, w64b], (by repeat (first | (with_reducible exact Below.refl _ _) | (with_reducible assumption) | (with_reducible refine Below.drew ?_) | (with_reducible refine below_drewN' ?_ _) | (with_reducible refine Below.setCell ?_ (by simp) _) | (with_reducible refine Below.alloc ?_ (by simp) _) | (with_reducible refine Below.trans ?_ (Below.mono (by assumption) (by simp; omega)))))⟩
    · show Calls Try.prog 42 #[.agg #[.bool s, .bool wt, .bool ag, .int .i64 c, .int .i64 n], .string d] w _
      go_enter Try.func42, Try.ntmps42
      go_wp2_with fail
      exact bodyPost_ret (v := .tuple #[_, .int .i64 6]) (by simp [results, Try.results42, go_sem]; rfl) rfl ⟨by simp [Fm.gov, isOpen, isSet, hd, h3, Fm.v], (by repeat (first | (with_reducible exact Below.refl _ _) | (with_reducible assumption) | (with_reducible refine Below.drew ?_) | (with_reducible refine below_drewN' ?_ _) | (with_reducible refine Below.setCell ?_ (by simp) _) | (with_reducible refine Below.alloc ?_ (by simp) _) | (with_reducible refine Below.trans ?_ (Below.mono (by assumption) (by simp; omega)))))⟩
  · show Calls Try.prog 42 #[.agg #[.bool s, .bool wt, .bool ag, .int .i64 c, .int .i64 n], .string d] w _
    go_enter Try.func42, Try.ntmps42
    go_wp2_with (go_at_call 43; refine (counted_c ⟨_, _, _, _, _⟩ _ h0 h1).mono ?_; rintro e w1 ⟨rfl, hb1⟩; obtain ⟨hc1, hf1⟩ := bcell hb1; have hz1 : w.heap.size + 1 < w1.heap.size := by { have := hb1.size; simp at this; omega }; simp only [Fm.v, Fm.counted])
    exact bodyPost_ret (v := .tuple #[_, .int .i64 7]) (by simp [results, Try.results42, go_sem, hc1]; rfl) rfl ⟨by simp [Fm.gov, isOpen, hd, Fm.v, Fm.counted], (by repeat (first | (with_reducible exact Below.refl _ _) | (with_reducible assumption) | (with_reducible refine Below.drew ?_) | (with_reducible refine below_drewN' ?_ _) | (with_reducible refine Below.setCell ?_ (by simp) _) | (with_reducible refine Below.alloc ?_ (by simp) _) | (with_reducible refine Below.trans ?_ (Below.mono (by assumption) (by simp; omega)))))⟩

def Fm.away (f : Fm) (d : Int) : Fm × Int × Bool :=
  if 8 ≤ d ∧ d ≤ 247 then ({ f with sh := true }, 3, true) else if 247 < d then (f, 1, true) else (f, 0, false)
theorem hearAway_c (f : Fm) (d : Int) (w : World) : Calls Try.prog 90 #[f.v, .int .i64 d] w (Ret w (.tuple #[(f.away d).1.v, .int .i64 (f.away d).2.1, .bool (f.away d).2.2])) := by
  obtain ⟨s, wt, ag, c, n⟩ := f
  show Calls Try.prog 90 #[.agg #[.bool s, .bool wt, .bool ag, .int .i64 c, .int .i64 n], .int .i64 d] w _
  by_cases h1 : 8 ≤ d
  · by_cases h2 : d ≤ 247
    · go_enter Try.func90, Try.ntmps90
      go_wp2_with fail
      exact bodyPost_ret (v := .tuple #[_, .int .i64 3, .bool true]) (by simp [results, Try.results90, go_sem]; rfl) rfl ⟨by simp [Fm.away, Fm.v, h1, h2], (by repeat (first | (with_reducible exact Below.refl _ _) | (with_reducible assumption) | (with_reducible refine Below.drew ?_) | (with_reducible refine below_drewN' ?_ _) | (with_reducible refine Below.setCell ?_ (by simp) _) | (with_reducible refine Below.alloc ?_ (by simp) _) | (with_reducible refine Below.trans ?_ (Below.mono (by assumption) (by simp; omega)))))⟩
    · go_enter Try.func90, Try.ntmps90
      go_wp2_with fail
      exact bodyPost_ret (v := .tuple #[_, .int .i64 1, .bool true]) (by simp [results, Try.results90, go_sem]; rfl) rfl ⟨by simp [Fm.away, Fm.v, h1, show ¬ d ≤ 247 by omega, show 247 < d by omega], (by repeat (first | (with_reducible exact Below.refl _ _) | (with_reducible assumption) | (with_reducible refine Below.drew ?_) | (with_reducible refine below_drewN' ?_ _) | (with_reducible refine Below.setCell ?_ (by simp) _) | (with_reducible refine Below.alloc ?_ (by simp) _) | (with_reducible refine Below.trans ?_ (Below.mono (by assumption) (by simp; omega)))))⟩
  · have h3 : d ≤ 247 := by omega
    go_enter Try.func90, Try.ntmps90
    go_wp2_with fail
    exact bodyPost_ret (v := .tuple #[_, .int .i64 0, .bool false]) (by simp [results, Try.results90, go_sem]; rfl) rfl ⟨by simp [Fm.away, Fm.v, show ¬ 8 ≤ d by omega, show ¬ 247 < d by omega], (by repeat (first | (with_reducible exact Below.refl _ _) | (with_reducible assumption) | (with_reducible refine Below.drew ?_) | (with_reducible refine below_drewN' ?_ _) | (with_reducible refine Below.setCell ?_ (by simp) _) | (with_reducible refine Below.alloc ?_ (by simp) _) | (with_reducible refine Below.trans ?_ (Below.mono (by assumption) (by simp; omega)))))⟩

end Go.Proofs.Ytcbbebhjddphfaa
