/- What opens and what sets: the program's frames and the reference's. -/
import Derived.Test.YtcbbebhjddphfaaA5
namespace Go.Proofs.Ytcbbebhjddphfaa
open Go.RowKit
set_option linter.unusedSimpArgs false
set_option linter.unusedVariables false

def zFr : Fr := ⟨false, false, 0, 0, 0, ⟨#[]⟩⟩
def FGov (c v : Int) (d : ByteArray) : Fr := if Fr.ok ⟨true, true, c, v, 0, d⟩ then ⟨true, true, c, v, 0, d⟩ else zFr
theorem governs_c (c v : Int) (d : ByteArray) (w : World) : Calls Try.prog 48 #[.int .i64 c, .int .i64 v, .string d] w (Ret w (FGov c v d).v) := by
  have hfo := Lib.hid (frameOk_c ⟨true, true, c, v, 0, d⟩)
  cases h1 : Fr.ok ⟨true, true, c, v, 0, d⟩
  all_goals
    rw [h1] at hfo
    simp only [FGov, h1, if_true, Bool.false_eq_true, if_false, zFr]
    clear h1
    go_enter Try.func48, Try.ntmps48
    go_wp2_with (go_at_call 41; refine (hfo.out _).mono ?_; rintro e w1 ⟨rfl, hb1⟩; have hq1 : w.heap.size < w.heap.size + 1 + 1 := (by omega); have hq2 : w.heap.size < w.heap.size + 1 + 1 + 1 := (by omega); obtain ⟨hc1, hf1⟩ := bcell hb1; have hz1 : w.heap.size + 1 < w1.heap.size := by { have := hb1.size; (try simp at this); omega }; have hy1 : w.heap.size < w1.heap.size := (by omega); have hx1 : w.heap.size + 1 < w1.heap.size := (by omega); have hB1 : Below w.heap.size w w1 := (by repeat (first | (with_reducible exact Below.refl _ _) | (with_reducible assumption) | (with_reducible refine Below.drew ?_) | (with_reducible refine below_drewN' ?_ _) | (with_reducible refine Below.setCell ?_ (by first | (simp; done) | (simp; omega) | omega) _) | (with_reducible refine Below.alloc ?_ (by first | (simp; done) | (simp; omega) | omega) _) | (with_reducible refine Below.trans ?_ (Below.mono (by assumption) (by first | (simp; done) | (simp; omega) | omega))))); skip)
    exact bodyPost_ret (v := _) (by simp [results, Try.results48, go_sem, hc1, hq1, hq2, hx1, hy1, hz1]; first | rfl | exact ⟨rfl, rfl⟩ | exact ⟨rfl, rfl, rfl⟩) rfl ⟨rfl, (by repeat (first | (with_reducible exact Below.refl _ _) | (with_reducible assumption) | (with_reducible refine Below.drew ?_) | (with_reducible refine below_drewN' ?_ _) | (with_reducible refine Below.setCell ?_ (by first | (simp; done) | (simp; omega) | omega) _) | (with_reducible refine Below.alloc ?_ (by first | (simp; done) | (simp; omega) | omega) _) | (with_reducible refine Below.trans ?_ (Below.mono (by assumption) (by first | (simp; done) | (simp; omega) | omega)))))⟩
theorem farmOpen_c (c v : Int) (w : World) : Calls Try.prog 20 #[.int .i64 c, .int .i64 v] w (Ret w (FGov c v ⟨#[0]⟩).v) := by
  have hg := Lib.hid (governs_c c v ⟨#[0]⟩)
  obtain ⟨⟨p, g, cx, vx, sx, dx⟩, hx⟩ : ∃ x, FGov c v ⟨#[0]⟩ = x := ⟨_, rfl⟩
  rw [hx] at hg ⊢
  clear hx
  go_enter Try.func20, Try.ntmps20
  go_wp2_with (go_at_call 48; refine (hg.out _).mono ?_; rintro e w1 ⟨rfl, hb1⟩; obtain ⟨hc1, hf1⟩ := bcell hb1; have hz1 : w.heap.size < w1.heap.size := by { have := hb1.size; (try simp at this); omega }; have hB1 : Below w.heap.size w w1 := (by repeat (first | (with_reducible exact Below.refl _ _) | (with_reducible assumption) | (with_reducible refine Below.drew ?_) | (with_reducible refine below_drewN' ?_ _) | (with_reducible refine Below.setCell ?_ (by first | (simp; done) | (simp; omega) | omega) _) | (with_reducible refine Below.alloc ?_ (by first | (simp; done) | (simp; omega) | omega) _) | (with_reducible refine Below.trans ?_ (Below.mono (by assumption) (by first | (simp; done) | (simp; omega) | omega))))); simp only [Fr.v])
  have hq1 : True := trivial
  have hq2 : True := trivial
  exact bodyPost_ret (v := _) (by simp [results, Try.results20, go_sem, hc1, hq1, hq2, hz1]; first | rfl | exact ⟨rfl, rfl⟩ | exact ⟨rfl, rfl, rfl⟩) rfl ⟨rfl, (by repeat (first | (with_reducible exact Below.refl _ _) | (with_reducible assumption) | (with_reducible refine Below.drew ?_) | (with_reducible refine below_drewN' ?_ _) | (with_reducible refine Below.setCell ?_ (by first | (simp; done) | (simp; omega) | omega) _) | (with_reducible refine Below.alloc ?_ (by first | (simp; done) | (simp; omega) | omega) _) | (with_reducible refine Below.trans ?_ (Below.mono (by assumption) (by first | (simp; done) | (simp; omega) | omega)))))⟩
theorem sFarmOpen_c (c v : Int) (w : World) : Calls Try.prog 21 #[.int .i64 c, .int .i64 v] w (Ret w (FGov c v ⟨#[0]⟩).v) := by
  have hfo := Lib.hid (sFrameOk_c ⟨true, true, c, v, 0, ⟨#[0]⟩⟩)
  cases h1 : Fr.ok ⟨true, true, c, v, 0, ⟨#[0]⟩⟩
  all_goals
    rw [h1] at hfo
    simp only [FGov, h1, if_true, Bool.false_eq_true, if_false, zFr]
    clear h1
    go_enter Try.func21, Try.ntmps21
    go_wp2_with (go_at_call 22; refine (hfo.out _).mono ?_; rintro e w1 ⟨rfl, hb1⟩; have hq1 : w.heap.size < w.heap.size + 1 + 1 := (by omega); have hq2 : w.heap.size < w.heap.size + 1 + 1 + 1 := (by omega); obtain ⟨hc1, hf1⟩ := bcell hb1; have hz1 : w.heap.size + 1 < w1.heap.size := by { have := hb1.size; (try simp at this); omega }; have hy1 : w.heap.size < w1.heap.size := (by omega); have hx1 : w.heap.size + 1 < w1.heap.size := (by omega); have hB1 : Below w.heap.size w w1 := (by repeat (first | (with_reducible exact Below.refl _ _) | (with_reducible assumption) | (with_reducible refine Below.drew ?_) | (with_reducible refine below_drewN' ?_ _) | (with_reducible refine Below.setCell ?_ (by first | (simp; done) | (simp; omega) | omega) _) | (with_reducible refine Below.alloc ?_ (by first | (simp; done) | (simp; omega) | omega) _) | (with_reducible refine Below.trans ?_ (Below.mono (by assumption) (by first | (simp; done) | (simp; omega) | omega))))); skip)
    exact bodyPost_ret (v := _) (by simp [results, Try.results21, go_sem, hc1, hq1, hq2, hx1, hy1, hz1]; first | rfl | exact ⟨rfl, rfl⟩ | exact ⟨rfl, rfl, rfl⟩) rfl ⟨rfl, (by repeat (first | (with_reducible exact Below.refl _ _) | (with_reducible assumption) | (with_reducible refine Below.drew ?_) | (with_reducible refine below_drewN' ?_ _) | (with_reducible refine Below.setCell ?_ (by first | (simp; done) | (simp; omega) | omega) _) | (with_reducible refine Below.alloc ?_ (by first | (simp; done) | (simp; omega) | omega) _) | (with_reducible refine Below.trans ?_ (Below.mono (by assumption) (by first | (simp; done) | (simp; omega) | omega)))))⟩

end Go.Proofs.Ytcbbebhjddphfaa
