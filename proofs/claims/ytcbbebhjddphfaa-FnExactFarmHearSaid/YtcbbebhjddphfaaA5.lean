/- FarmHear of the reference, whole; rooms, what opens and sets. -/
import Derived.Test.YtcbbebhjddphfaaA4
namespace Go.Proofs.Ytcbbebhjddphfaa
open Go.RowKit
set_option linter.unusedSimpArgs false
set_option linter.unusedVariables false

set_option maxHeartbeats 2000000 in
theorem sOrder_c (f : Fm) (q : Int) (room : Bool) (w : World) (h0 : 0 ≤ f.nx) (h1 : f.nx ≤ 255) (h2 : 0 ≤ q) (h3 : q ≤ 255) : Calls Try.prog 50 #[f.v, .int .i64 q, .bool room] w (Ret w (.tuple #[(f.ord ((q - f.nx) % 256) room).1.v, .int .i64 (f.ord ((q - f.nx) % 256) room).2])) := by
  obtain ⟨s, wt, ag, c, n⟩ := f
  simp only at h0 h1
  obtain ⟨d, hd⟩ : ∃ d, (q - n) % 256 = d := ⟨_, rfl⟩
  have hm := fun W => l4Mod_c (q - n) W (by omega) (by omega)
  rw [hd] at hm
  show Calls Try.prog 50 #[.agg #[.bool s, .bool wt, .bool ag, .int .i64 c, .int .i64 n], .int .i64 q, .bool room] w (Ret w (.tuple #[(Fm.ord ⟨s, wt, ag, c, n⟩ ((q - n) % 256) room).1.v, .int .i64 (Fm.ord ⟨s, wt, ag, c, n⟩ ((q - n) % 256) room).2]))
  rw [hd]
  have hm := Lib.hid hm
  have hd0 : 0 ≤ d ∧ d ≤ 255 := by omega
  obtain ⟨hd0, hd1⟩ := hd0
  clear hd
  cases s
  · by_cases c1 : 8 ≤ d
    · by_cases c2 : d ≤ 247
      · go_enter Try.func50, Try.ntmps50
        go_wp2_with (go_at_call 53; refine (hm.out _).mono ?_; rintro e w1 ⟨rfl, rfl⟩)
        exact bodyPost_ret (v := .tuple #[_, .int .i64 3]) (by simp [results, Try.results50, go_sem]; first | rfl | exact ⟨rfl, rfl⟩ | exact ⟨rfl, rfl, rfl⟩) rfl ⟨by simp [Fm.ord, Fm.v, c1, c2], (by repeat (first | (with_reducible exact Below.refl _ _) | (with_reducible assumption) | (with_reducible refine Below.drew ?_) | (with_reducible refine below_drewN' ?_ _) | (with_reducible refine Below.setCell ?_ (by first | (simp; done) | (simp; omega) | omega) _) | (with_reducible refine Below.alloc ?_ (by first | (simp; done) | (simp; omega) | omega) _) | (with_reducible refine Below.trans ?_ (Below.mono (by assumption) (by first | (simp; done) | (simp; omega) | omega)))))⟩
      · go_enter Try.func50, Try.ntmps50
        go_wp2_with (go_at_call 53; refine (hm.out _).mono ?_; rintro e w1 ⟨rfl, rfl⟩)
        exact bodyPost_ret (v := .tuple #[_, .int .i64 1]) (by simp [results, Try.results50, go_sem]; first | rfl | exact ⟨rfl, rfl⟩ | exact ⟨rfl, rfl, rfl⟩) rfl ⟨by simp [Fm.ord, Fm.v, c1, show ¬ d ≤ 247 by omega, show 247 < d by omega], (by repeat (first | (with_reducible exact Below.refl _ _) | (with_reducible assumption) | (with_reducible refine Below.drew ?_) | (with_reducible refine below_drewN' ?_ _) | (with_reducible refine Below.setCell ?_ (by first | (simp; done) | (simp; omega) | omega) _) | (with_reducible refine Below.alloc ?_ (by first | (simp; done) | (simp; omega) | omega) _) | (with_reducible refine Below.trans ?_ (Below.mono (by assumption) (by first | (simp; done) | (simp; omega) | omega)))))⟩
    · have c3 : d ≤ 247 := by omega
      cases wt
      · by_cases c4 : 0 < d
        · go_enter Try.func50, Try.ntmps50
          go_wp2_with (go_at_call 53; refine (hm.out _).mono ?_; rintro e w1 ⟨rfl, rfl⟩)
          exact bodyPost_ret (v := .tuple #[_, .int .i64 2]) (by simp [results, Try.results50, go_sem]; first | rfl | exact ⟨rfl, rfl⟩ | exact ⟨rfl, rfl, rfl⟩) rfl ⟨by simp [Fm.ord, Fm.v, show ¬ 8 ≤ d by omega, show ¬ 247 < d by omega, c4], (by repeat (first | (with_reducible exact Below.refl _ _) | (with_reducible assumption) | (with_reducible refine Below.drew ?_) | (with_reducible refine below_drewN' ?_ _) | (with_reducible refine Below.setCell ?_ (by first | (simp; done) | (simp; omega) | omega) _) | (with_reducible refine Below.alloc ?_ (by first | (simp; done) | (simp; omega) | omega) _) | (with_reducible refine Below.trans ?_ (Below.mono (by assumption) (by first | (simp; done) | (simp; omega) | omega)))))⟩
        · cases room
          · go_enter Try.func50, Try.ntmps50
            go_wp2_with (go_at_call 53; refine (hm.out _).mono ?_; rintro e w1 ⟨rfl, rfl⟩)
            exact bodyPost_ret (v := .tuple #[_, .int .i64 4]) (by simp [results, Try.results50, go_sem]; first | rfl | exact ⟨rfl, rfl⟩ | exact ⟨rfl, rfl, rfl⟩) rfl ⟨by simp [Fm.ord, Fm.v, show ¬ 8 ≤ d by omega, show ¬ 247 < d by omega, show ¬ 0 < d by omega], (by repeat (first | (with_reducible exact Below.refl _ _) | (with_reducible assumption) | (with_reducible refine Below.drew ?_) | (with_reducible refine below_drewN' ?_ _) | (with_reducible refine Below.setCell ?_ (by first | (simp; done) | (simp; omega) | omega) _) | (with_reducible refine Below.alloc ?_ (by first | (simp; done) | (simp; omega) | omega) _) | (with_reducible refine Below.trans ?_ (Below.mono (by assumption) (by first | (simp; done) | (simp; omega) | omega)))))⟩
          · go_enter Try.func50, Try.ntmps50
            go_wp2_with fail
            refine (hm.out _).mono ?_
            rintro e w1 ⟨rfl, rfl⟩
            go_wp2_with fail
            refine (l4Mod_c (n + 1) _ (by omega) (by omega)).mono ?_
            rintro e w1 ⟨rfl, rfl⟩
            go_wp2_with fail
            exact bodyPost_ret (v := .tuple #[_, .int .i64 0]) (by simp [results, Try.results50, go_sem]; first | rfl | exact ⟨rfl, rfl⟩ | exact ⟨rfl, rfl, rfl⟩) rfl ⟨by simp [Fm.ord, Fm.v, show ¬ 8 ≤ d by omega, show ¬ 247 < d by omega, show ¬ 0 < d by omega], (by repeat (first | (with_reducible exact Below.refl _ _) | (with_reducible assumption) | (with_reducible refine Below.drew ?_) | (with_reducible refine below_drewN' ?_ _) | (with_reducible refine Below.setCell ?_ (by first | (simp; done) | (simp; omega) | omega) _) | (with_reducible refine Below.alloc ?_ (by first | (simp; done) | (simp; omega) | omega) _) | (with_reducible refine Below.trans ?_ (Below.mono (by assumption) (by first | (simp; done) | (simp; omega) | omega)))))⟩
      · go_enter Try.func50, Try.ntmps50
        go_wp2_with (go_at_call 53; refine (hm.out _).mono ?_; rintro e w1 ⟨rfl, rfl⟩)
        exact bodyPost_ret (v := .tuple #[_, .int .i64 4]) (by simp [results, Try.results50, go_sem]; first | rfl | exact ⟨rfl, rfl⟩ | exact ⟨rfl, rfl, rfl⟩) rfl ⟨by simp [Fm.ord, Fm.v, show ¬ 8 ≤ d by omega, show ¬ 247 < d by omega], (by repeat (first | (with_reducible exact Below.refl _ _) | (with_reducible assumption) | (with_reducible refine Below.drew ?_) | (with_reducible refine below_drewN' ?_ _) | (with_reducible refine Below.setCell ?_ (by first | (simp; done) | (simp; omega) | omega) _) | (with_reducible refine Below.alloc ?_ (by first | (simp; done) | (simp; omega) | omega) _) | (with_reducible refine Below.trans ?_ (Below.mono (by assumption) (by first | (simp; done) | (simp; omega) | omega)))))⟩
  · go_enter Try.func50, Try.ntmps50
    go_wp2_with (go_at_call 53; refine (hm.out _).mono ?_; rintro e w1 ⟨rfl, rfl⟩)
    exact bodyPost_ret (v := .tuple #[_, .int .i64 5]) (by simp [results, Try.results50, go_sem]; first | rfl | exact ⟨rfl, rfl⟩ | exact ⟨rfl, rfl, rfl⟩) rfl ⟨by simp [Fm.ord, Fm.v], (by repeat (first | (with_reducible exact Below.refl _ _) | (with_reducible assumption) | (with_reducible refine Below.drew ?_) | (with_reducible refine below_drewN' ?_ _) | (with_reducible refine Below.setCell ?_ (by first | (simp; done) | (simp; omega) | omega) _) | (with_reducible refine Below.alloc ?_ (by first | (simp; done) | (simp; omega) | omega) _) | (with_reducible refine Below.trans ?_ (Below.mono (by assumption) (by first | (simp; done) | (simp; omega) | omega)))))⟩

set_option maxHeartbeats 2000000 in
set_option maxRecDepth 100000 in
theorem sHear_c (f : Fm) (x : Fr) (room : Bool) (w : World) : Calls Try.prog 24 #[f.v, x.v, .bool room] w (Ret w (.tuple #[(FH f x room).1.v, .int .i64 (FH f x room).2])) := by
  have hfo := Lib.hid (sFarmOk_c f)
  have hxo := Lib.hid (sFrameOk_c x)
  obtain ⟨⟨s1, w1', a1, c1, n1⟩, k, he⟩ : ∃ (g : Fm) (k : Int), FH f x room = (g, k) := ⟨_, _, rfl⟩
  have He := Lib.hid he
  rw [he]
  clear he
  cases h1 : f.ok
  · rw [h1] at hfo
    have hr := He.out
    simp [FH, h1] at hr
    obtain ⟨⟨rfl, rfl, rfl, rfl, rfl⟩, rfl⟩ := hr
    obtain ⟨s, wt, ag, c, n⟩ := f
    obtain ⟨px, gx, cx, vx, sx, dx⟩ := x
    clear He h1
    show Calls Try.prog 24 #[.agg #[.bool s, .bool wt, .bool ag, .int .i64 c, .int .i64 n], .agg #[.bool px, .bool gx, .int .i64 cx, .int .i64 vx, .int .i64 sx, .string dx], .bool room] w _
    go_enter Try.func24, Try.ntmps24
    go_wp2_with (go_at_call 15; refine (hfo.out _).mono ?_; rintro e w1 ⟨rfl, hb1⟩; have hq1 : w.heap.size < w.heap.size + 1 + 1 := (by omega); have hq2 : w.heap.size < w.heap.size + 1 + 1 + 1 := (by omega); obtain ⟨hc1, hf1⟩ := bcell hb1; have hz1 : w.heap.size + 2 < w1.heap.size := by { have := hb1.size; (try simp at this); omega }; have hy1 : w.heap.size < w1.heap.size := (by omega); have hx1 : w.heap.size + 1 < w1.heap.size := (by omega); have hB1 : Below w.heap.size w w1 := (by repeat (first | (with_reducible exact Below.refl _ _) | (with_reducible assumption) | (with_reducible refine Below.drew ?_) | (with_reducible refine below_drewN' ?_ _) | (with_reducible refine Below.setCell ?_ (by first | (simp; done) | (simp; omega) | omega) _) | (with_reducible refine Below.alloc ?_ (by first | (simp; done) | (simp; omega) | omega) _) | (with_reducible refine Below.trans ?_ (Below.mono (by assumption) (by first | (simp; done) | (simp; omega) | omega))))); skip)
    exact bodyPost_ret (v := .tuple #[_, .int .i64 _]) (by simp [results, Try.results24, go_sem, hc1, hq1, hq2, hx1, hy1, hz1]; first | rfl | exact ⟨rfl, rfl⟩ | exact ⟨rfl, rfl, rfl⟩) rfl ⟨rfl, (by repeat (first | (with_reducible exact Below.refl _ _) | (with_reducible assumption) | (with_reducible refine Below.drew ?_) | (with_reducible refine below_drewN' ?_ _) | (with_reducible refine Below.setCell ?_ (by first | (simp; done) | (simp; omega) | omega) _) | (with_reducible refine Below.alloc ?_ (by first | (simp; done) | (simp; omega) | omega) _) | (with_reducible refine Below.trans ?_ (Below.mono (by assumption) (by first | (simp; done) | (simp; omega) | omega)))))⟩
  · rw [h1] at hfo
    cases h2 : x.ok
    · rw [h2] at hxo
      have hr := He.out
      simp [FH, h1, h2] at hr
      obtain ⟨rfl, rfl⟩ := hr
      obtain ⟨px, gx, cx, vx, sx, dx⟩ := x
      clear He h1 h2
      show Calls Try.prog 24 #[.agg #[.bool s1, .bool w1', .bool a1, .int .i64 c1, .int .i64 n1], .agg #[.bool px, .bool gx, .int .i64 cx, .int .i64 vx, .int .i64 sx, .string dx], .bool room] w _
      go_enter Try.func24, Try.ntmps24
      go_wp2_with (first | (go_at_call 15; refine (hfo.out _).mono ?_; rintro e w1 ⟨rfl, hb1⟩; have hq1 : w.heap.size < w.heap.size + 1 + 1 := (by omega); have hq2 : w.heap.size < w.heap.size + 1 + 1 + 1 := (by omega); obtain ⟨hc1, hf1⟩ := bcell hb1; have hz1 : w.heap.size + 2 < w1.heap.size := by { have := hb1.size; (try simp at this); omega }; have hy1 : w.heap.size < w1.heap.size := (by omega); have hx1 : w.heap.size + 1 < w1.heap.size := (by omega); have hB1 : Below w.heap.size w w1 := (by repeat (first | (with_reducible exact Below.refl _ _) | (with_reducible assumption) | (with_reducible refine Below.drew ?_) | (with_reducible refine below_drewN' ?_ _) | (with_reducible refine Below.setCell ?_ (by first | (simp; done) | (simp; omega) | omega) _) | (with_reducible refine Below.alloc ?_ (by first | (simp; done) | (simp; omega) | omega) _) | (with_reducible refine Below.trans ?_ (Below.mono (by assumption) (by first | (simp; done) | (simp; omega) | omega))))); skip) | (go_at_call 22; refine (hxo.out _).mono ?_; rintro e w2 ⟨rfl, hb2⟩; have hq1 : w.heap.size < w.heap.size + 1 + 1 := (by omega); have hq2 : w.heap.size < w.heap.size + 1 + 1 + 1 := (by omega); obtain ⟨hc2, hf2⟩ := bcell hb2; have hz2 : w.heap.size + 2 < w2.heap.size := by { have := hb2.size; (try simp at this); omega }; have hy2 : w.heap.size < w2.heap.size := (by omega); have hx2 : w.heap.size + 1 < w2.heap.size := (by omega); have hB2 : Below w.heap.size w w2 := (by repeat (first | (with_reducible exact Below.refl _ _) | (with_reducible assumption) | (with_reducible refine Below.drew ?_) | (with_reducible refine below_drewN' ?_ _) | (with_reducible refine Below.setCell ?_ (by first | (simp; done) | (simp; omega) | omega) _) | (with_reducible refine Below.alloc ?_ (by first | (simp; done) | (simp; omega) | omega) _) | (with_reducible refine Below.trans ?_ (Below.mono (by assumption) (by first | (simp; done) | (simp; omega) | omega))))); skip))
      exact bodyPost_ret (v := .tuple #[_, .int .i64 _]) (by simp [results, Try.results24, go_sem, hc1, hq1, hq2, hc2, hx1, hy1, hz1, hx2, hy2, hz2]; first | rfl | exact ⟨rfl, rfl⟩ | exact ⟨rfl, rfl, rfl⟩) rfl ⟨rfl, (by repeat (first | (with_reducible exact Below.refl _ _) | (with_reducible assumption) | (with_reducible refine Below.drew ?_) | (with_reducible refine below_drewN' ?_ _) | (with_reducible refine Below.setCell ?_ (by first | (simp; done) | (simp; omega) | omega) _) | (with_reducible refine Below.alloc ?_ (by first | (simp; done) | (simp; omega) | omega) _) | (with_reducible refine Below.trans ?_ (Below.mono (by assumption) (by first | (simp; done) | (simp; omega) | omega)))))⟩
    · rw [h2] at hxo
      obtain ⟨hk, hn, _⟩ := Fm.ok_iff.1 h1
      have hs : 0 ≤ x.seq ∧ x.seq ≤ 255 := by simp [Fr.ok, inR_iff] at h2; omega
      have hg := Lib.hid (sGovern_c f x.data)
      have hor := Lib.hid (sOrder_c f x.seq room)
      obtain ⟨s, wt, ag, c, n⟩ := f
      obtain ⟨px, gx, cx, vx, sx, dx⟩ := x
      simp only at hk hn hs
      obtain ⟨hk0, hk1⟩ := hk
      obtain ⟨hn0, hn1⟩ := hn
      obtain ⟨hs0, hs1⟩ := hs
      have hr := He.out
      simp only [FH, h1, h2] at hr
      clear He h1 h2
      cases gx
      · cases px
        · simp at hr
          rw [hr] at hor
          clear hr
          show Calls Try.prog 24 #[.agg #[.bool s, .bool wt, .bool ag, .int .i64 c, .int .i64 n], .agg #[.bool _, .bool _, .int .i64 cx, .int .i64 vx, .int .i64 sx, .string dx], .bool room] w _
          go_enter Try.func24, Try.ntmps24
          go_wp2_with (first | (go_at_call 15; refine (hfo.out _).mono ?_; rintro e w1 ⟨rfl, hb1⟩; have hq1 : w.heap.size < w.heap.size + 1 + 1 := (by omega); have hq2 : w.heap.size < w.heap.size + 1 + 1 + 1 := (by omega); obtain ⟨hc1, hf1⟩ := bcell hb1; have hz1 : w.heap.size + 2 < w1.heap.size := by { have := hb1.size; (try simp at this); omega }; have hy1 : w.heap.size < w1.heap.size := (by omega); have hx1 : w.heap.size + 1 < w1.heap.size := (by omega); have hB1 : Below w.heap.size w w1 := (by repeat (first | (with_reducible exact Below.refl _ _) | (with_reducible assumption) | (with_reducible refine Below.drew ?_) | (with_reducible refine below_drewN' ?_ _) | (with_reducible refine Below.setCell ?_ (by first | (simp; done) | (simp; omega) | omega) _) | (with_reducible refine Below.alloc ?_ (by first | (simp; done) | (simp; omega) | omega) _) | (with_reducible refine Below.trans ?_ (Below.mono (by assumption) (by first | (simp; done) | (simp; omega) | omega))))); skip) | (go_at_call 22; refine (hxo.out _).mono ?_; rintro e w2 ⟨rfl, hb2⟩; have hq1 : w.heap.size < w.heap.size + 1 + 1 := (by omega); have hq2 : w.heap.size < w.heap.size + 1 + 1 + 1 := (by omega); obtain ⟨hc2, hf2⟩ := bcell hb2; have hz2 : w.heap.size + 2 < w2.heap.size := by { have := hb2.size; (try simp at this); omega }; have hy2 : w.heap.size < w2.heap.size := (by omega); have hx2 : w.heap.size + 1 < w2.heap.size := (by omega); have hB2 : Below w.heap.size w w2 := (by repeat (first | (with_reducible exact Below.refl _ _) | (with_reducible assumption) | (with_reducible refine Below.drew ?_) | (with_reducible refine below_drewN' ?_ _) | (with_reducible refine Below.setCell ?_ (by first | (simp; done) | (simp; omega) | omega) _) | (with_reducible refine Below.alloc ?_ (by first | (simp; done) | (simp; omega) | omega) _) | (with_reducible refine Below.trans ?_ (Below.mono (by assumption) (by first | (simp; done) | (simp; omega) | omega))))); skip) | (go_at_call 50; refine (hor.out _ hn0 hn1 hs0 hs1).mono ?_; rintro e w3 ⟨rfl, hb3⟩; have hq1 : w.heap.size < w.heap.size + 1 + 1 := (by omega); have hq2 : w.heap.size < w.heap.size + 1 + 1 + 1 := (by omega); obtain ⟨hc3, hf3⟩ := bcell hb3; have hz3 : w.heap.size + 2 < w3.heap.size := by { have := hb3.size; (try simp at this); omega }; have hy3 : w.heap.size < w3.heap.size := (by omega); have hx3 : w.heap.size + 1 < w3.heap.size := (by omega); have hB3 : Below w.heap.size w w3 := (by repeat (first | (with_reducible exact Below.refl _ _) | (with_reducible assumption) | (with_reducible refine Below.drew ?_) | (with_reducible refine below_drewN' ?_ _) | (with_reducible refine Below.setCell ?_ (by first | (simp; done) | (simp; omega) | omega) _) | (with_reducible refine Below.alloc ?_ (by first | (simp; done) | (simp; omega) | omega) _) | (with_reducible refine Below.trans ?_ (Below.mono (by assumption) (by first | (simp; done) | (simp; omega) | omega))))); simp only [Fm.v]))
          exact bodyPost_ret (v := .tuple #[_, .int .i64 _]) (by simp [results, Try.results24, go_sem, hc1, hq1, hq2, hc2, hc3, hx1, hy1, hz1, hx2, hy2, hz2, hx3, hy3, hz3]; first | rfl | exact ⟨rfl, rfl⟩ | exact ⟨rfl, rfl, rfl⟩) rfl ⟨rfl, (by repeat (first | (with_reducible exact Below.refl _ _) | (with_reducible assumption) | (with_reducible refine Below.drew ?_) | (with_reducible refine below_drewN' ?_ _) | (with_reducible refine Below.setCell ?_ (by first | (simp; done) | (simp; omega) | omega) _) | (with_reducible refine Below.alloc ?_ (by first | (simp; done) | (simp; omega) | omega) _) | (with_reducible refine Below.trans ?_ (Below.mono (by assumption) (by first | (simp; done) | (simp; omega) | omega)))))⟩
        · cases room
          · simp at hr
            obtain ⟨⟨rfl, rfl, rfl, rfl, rfl⟩, rfl⟩ := hr
            show Calls Try.prog 24 #[.agg #[.bool _, .bool _, .bool _, .int .i64 _, .int .i64 _], .agg #[.bool _, .bool _, .int .i64 cx, .int .i64 vx, .int .i64 sx, .string dx], .bool _] w _
            go_enter Try.func24, Try.ntmps24
            go_wp2_with (first | (go_at_call 15; refine (hfo.out _).mono ?_; rintro e w1 ⟨rfl, hb1⟩; have hq1 : w.heap.size < w.heap.size + 1 + 1 := (by omega); have hq2 : w.heap.size < w.heap.size + 1 + 1 + 1 := (by omega); obtain ⟨hc1, hf1⟩ := bcell hb1; have hz1 : w.heap.size + 2 < w1.heap.size := by { have := hb1.size; (try simp at this); omega }; have hy1 : w.heap.size < w1.heap.size := (by omega); have hx1 : w.heap.size + 1 < w1.heap.size := (by omega); have hB1 : Below w.heap.size w w1 := (by repeat (first | (with_reducible exact Below.refl _ _) | (with_reducible assumption) | (with_reducible refine Below.drew ?_) | (with_reducible refine below_drewN' ?_ _) | (with_reducible refine Below.setCell ?_ (by first | (simp; done) | (simp; omega) | omega) _) | (with_reducible refine Below.alloc ?_ (by first | (simp; done) | (simp; omega) | omega) _) | (with_reducible refine Below.trans ?_ (Below.mono (by assumption) (by first | (simp; done) | (simp; omega) | omega))))); skip) | (go_at_call 22; refine (hxo.out _).mono ?_; rintro e w2 ⟨rfl, hb2⟩; have hq1 : w.heap.size < w.heap.size + 1 + 1 := (by omega); have hq2 : w.heap.size < w.heap.size + 1 + 1 + 1 := (by omega); obtain ⟨hc2, hf2⟩ := bcell hb2; have hz2 : w.heap.size + 2 < w2.heap.size := by { have := hb2.size; (try simp at this); omega }; have hy2 : w.heap.size < w2.heap.size := (by omega); have hx2 : w.heap.size + 1 < w2.heap.size := (by omega); have hB2 : Below w.heap.size w w2 := (by repeat (first | (with_reducible exact Below.refl _ _) | (with_reducible assumption) | (with_reducible refine Below.drew ?_) | (with_reducible refine below_drewN' ?_ _) | (with_reducible refine Below.setCell ?_ (by first | (simp; done) | (simp; omega) | omega) _) | (with_reducible refine Below.alloc ?_ (by first | (simp; done) | (simp; omega) | omega) _) | (with_reducible refine Below.trans ?_ (Below.mono (by assumption) (by first | (simp; done) | (simp; omega) | omega))))); skip))
            exact bodyPost_ret (v := .tuple #[_, .int .i64 _]) (by simp [results, Try.results24, go_sem, hc1, hq1, hq2, hc2, hx1, hy1, hz1, hx2, hy2, hz2]; first | rfl | exact ⟨rfl, rfl⟩ | exact ⟨rfl, rfl, rfl⟩) rfl ⟨rfl, (by repeat (first | (with_reducible exact Below.refl _ _) | (with_reducible assumption) | (with_reducible refine Below.drew ?_) | (with_reducible refine below_drewN' ?_ _) | (with_reducible refine Below.setCell ?_ (by first | (simp; done) | (simp; omega) | omega) _) | (with_reducible refine Below.alloc ?_ (by first | (simp; done) | (simp; omega) | omega) _) | (with_reducible refine Below.trans ?_ (Below.mono (by assumption) (by first | (simp; done) | (simp; omega) | omega)))))⟩
          · simp [Fm.counted] at hr
            obtain ⟨⟨rfl, rfl, rfl, rfl, rfl⟩, rfl⟩ := hr
            show Calls Try.prog 24 #[.agg #[.bool _, .bool _, .bool _, .int .i64 c, .int .i64 _], .agg #[.bool _, .bool _, .int .i64 cx, .int .i64 vx, .int .i64 sx, .string dx], .bool _] w _
            go_enter Try.func24, Try.ntmps24
            go_wp2_with (first | (go_at_call 15; refine (hfo.out _).mono ?_; rintro e w1 ⟨rfl, hb1⟩; have hq1 : w.heap.size < w.heap.size + 1 + 1 := (by omega); have hq2 : w.heap.size < w.heap.size + 1 + 1 + 1 := (by omega); obtain ⟨hc1, hf1⟩ := bcell hb1; have hz1 : w.heap.size + 2 < w1.heap.size := by { have := hb1.size; (try simp at this); omega }; have hy1 : w.heap.size < w1.heap.size := (by omega); have hx1 : w.heap.size + 1 < w1.heap.size := (by omega); have hB1 : Below w.heap.size w w1 := (by repeat (first | (with_reducible exact Below.refl _ _) | (with_reducible assumption) | (with_reducible refine Below.drew ?_) | (with_reducible refine below_drewN' ?_ _) | (with_reducible refine Below.setCell ?_ (by first | (simp; done) | (simp; omega) | omega) _) | (with_reducible refine Below.alloc ?_ (by first | (simp; done) | (simp; omega) | omega) _) | (with_reducible refine Below.trans ?_ (Below.mono (by assumption) (by first | (simp; done) | (simp; omega) | omega))))); skip) | (go_at_call 22; refine (hxo.out _).mono ?_; rintro e w2 ⟨rfl, hb2⟩; have hq1 : w.heap.size < w.heap.size + 1 + 1 := (by omega); have hq2 : w.heap.size < w.heap.size + 1 + 1 + 1 := (by omega); obtain ⟨hc2, hf2⟩ := bcell hb2; have hz2 : w.heap.size + 2 < w2.heap.size := by { have := hb2.size; (try simp at this); omega }; have hy2 : w.heap.size < w2.heap.size := (by omega); have hx2 : w.heap.size + 1 < w2.heap.size := (by omega); have hB2 : Below w.heap.size w w2 := (by repeat (first | (with_reducible exact Below.refl _ _) | (with_reducible assumption) | (with_reducible refine Below.drew ?_) | (with_reducible refine below_drewN' ?_ _) | (with_reducible refine Below.setCell ?_ (by first | (simp; done) | (simp; omega) | omega) _) | (with_reducible refine Below.alloc ?_ (by first | (simp; done) | (simp; omega) | omega) _) | (with_reducible refine Below.trans ?_ (Below.mono (by assumption) (by first | (simp; done) | (simp; omega) | omega))))); skip))
            exact bodyPost_ret (v := .tuple #[_, .int .i64 _]) (by simp [results, Try.results24, go_sem, hc1, hq1, hq2, hc2, hx1, hy1, hz1, hx2, hy2, hz2]; first | rfl | exact ⟨rfl, rfl⟩ | exact ⟨rfl, rfl, rfl⟩) rfl ⟨rfl, (by repeat (first | (with_reducible exact Below.refl _ _) | (with_reducible assumption) | (with_reducible refine Below.drew ?_) | (with_reducible refine below_drewN' ?_ _) | (with_reducible refine Below.setCell ?_ (by first | (simp; done) | (simp; omega) | omega) _) | (with_reducible refine Below.alloc ?_ (by first | (simp; done) | (simp; omega) | omega) _) | (with_reducible refine Below.trans ?_ (Below.mono (by assumption) (by first | (simp; done) | (simp; omega) | omega)))))⟩
      · simp at hr
        rw [hr] at hg
        clear hr
        show Calls Try.prog 24 #[.agg #[.bool s, .bool wt, .bool ag, .int .i64 c, .int .i64 n], .agg #[.bool px, .bool _, .int .i64 cx, .int .i64 vx, .int .i64 sx, .string dx], .bool room] w _
        go_enter Try.func24, Try.ntmps24
        go_wp2_with (first | (go_at_call 15; refine (hfo.out _).mono ?_; rintro e w1 ⟨rfl, hb1⟩; have hq1 : w.heap.size < w.heap.size + 1 + 1 := (by omega); have hq2 : w.heap.size < w.heap.size + 1 + 1 + 1 := (by omega); obtain ⟨hc1, hf1⟩ := bcell hb1; have hz1 : w.heap.size + 2 < w1.heap.size := by { have := hb1.size; (try simp at this); omega }; have hy1 : w.heap.size < w1.heap.size := (by omega); have hx1 : w.heap.size + 1 < w1.heap.size := (by omega); have hB1 : Below w.heap.size w w1 := (by repeat (first | (with_reducible exact Below.refl _ _) | (with_reducible assumption) | (with_reducible refine Below.drew ?_) | (with_reducible refine below_drewN' ?_ _) | (with_reducible refine Below.setCell ?_ (by first | (simp; done) | (simp; omega) | omega) _) | (with_reducible refine Below.alloc ?_ (by first | (simp; done) | (simp; omega) | omega) _) | (with_reducible refine Below.trans ?_ (Below.mono (by assumption) (by first | (simp; done) | (simp; omega) | omega))))); skip) | (go_at_call 22; refine (hxo.out _).mono ?_; rintro e w2 ⟨rfl, hb2⟩; have hq1 : w.heap.size < w.heap.size + 1 + 1 := (by omega); have hq2 : w.heap.size < w.heap.size + 1 + 1 + 1 := (by omega); obtain ⟨hc2, hf2⟩ := bcell hb2; have hz2 : w.heap.size + 2 < w2.heap.size := by { have := hb2.size; (try simp at this); omega }; have hy2 : w.heap.size < w2.heap.size := (by omega); have hx2 : w.heap.size + 1 < w2.heap.size := (by omega); have hB2 : Below w.heap.size w w2 := (by repeat (first | (with_reducible exact Below.refl _ _) | (with_reducible assumption) | (with_reducible refine Below.drew ?_) | (with_reducible refine below_drewN' ?_ _) | (with_reducible refine Below.setCell ?_ (by first | (simp; done) | (simp; omega) | omega) _) | (with_reducible refine Below.alloc ?_ (by first | (simp; done) | (simp; omega) | omega) _) | (with_reducible refine Below.trans ?_ (Below.mono (by assumption) (by first | (simp; done) | (simp; omega) | omega))))); skip) | (go_at_call 49; refine (hg.out _ hk0 hk1).mono ?_; rintro e w3 ⟨rfl, hb3⟩; have hq1 : w.heap.size < w.heap.size + 1 + 1 := (by omega); have hq2 : w.heap.size < w.heap.size + 1 + 1 + 1 := (by omega); obtain ⟨hc3, hf3⟩ := bcell hb3; have hz3 : w.heap.size + 2 < w3.heap.size := by { have := hb3.size; (try simp at this); omega }; have hy3 : w.heap.size < w3.heap.size := (by omega); have hx3 : w.heap.size + 1 < w3.heap.size := (by omega); have hB3 : Below w.heap.size w w3 := (by repeat (first | (with_reducible exact Below.refl _ _) | (with_reducible assumption) | (with_reducible refine Below.drew ?_) | (with_reducible refine below_drewN' ?_ _) | (with_reducible refine Below.setCell ?_ (by first | (simp; done) | (simp; omega) | omega) _) | (with_reducible refine Below.alloc ?_ (by first | (simp; done) | (simp; omega) | omega) _) | (with_reducible refine Below.trans ?_ (Below.mono (by assumption) (by first | (simp; done) | (simp; omega) | omega))))); simp only [Fm.v]))
        exact bodyPost_ret (v := .tuple #[_, .int .i64 _]) (by simp [results, Try.results24, go_sem, hc1, hq1, hq2, hc2, hc3, hx1, hy1, hz1, hx2, hy2, hz2, hx3, hy3, hz3]; first | rfl | exact ⟨rfl, rfl⟩ | exact ⟨rfl, rfl, rfl⟩) rfl ⟨rfl, (by repeat (first | (with_reducible exact Below.refl _ _) | (with_reducible assumption) | (with_reducible refine Below.drew ?_) | (with_reducible refine below_drewN' ?_ _) | (with_reducible refine Below.setCell ?_ (by first | (simp; done) | (simp; omega) | omega) _) | (with_reducible refine Below.alloc ?_ (by first | (simp; done) | (simp; omega) | omega) _) | (with_reducible refine Below.trans ?_ (Below.mono (by assumption) (by first | (simp; done) | (simp; omega) | omega)))))⟩

/-! room again -/
def FRoom (f : Fm) : Fm := if f.ok then { f with wt := false } else ⟨false, false, false, 0, 0⟩
theorem room_c (f : Fm) (w : World) : Calls Try.prog 13 #[f.v] w (Ret w (FRoom f).v) := by
  have hfo := Lib.hid (farmOk_c f)
  cases h1 : f.ok
  all_goals
    rw [h1] at hfo
    simp only [FRoom, h1, if_true, Bool.false_eq_true, if_false]
    obtain ⟨s, wt, ag, c, n⟩ := f
    clear h1
    show Calls Try.prog 13 #[.agg #[.bool s, .bool wt, .bool ag, .int .i64 c, .int .i64 n]] w _
    go_enter Try.func13, Try.ntmps13
    go_wp2_with (go_at_call 17; refine (hfo.out _).mono ?_; rintro e w1 ⟨rfl, hb1⟩; have hq1 : w.heap.size < w.heap.size + 1 + 1 := (by omega); have hq2 : w.heap.size < w.heap.size + 1 + 1 + 1 := (by omega); obtain ⟨hc1, hf1⟩ := bcell hb1; have hz1 : w.heap.size + 1 < w1.heap.size := by { have := hb1.size; (try simp at this); omega }; have hy1 : w.heap.size < w1.heap.size := (by omega); have hx1 : w.heap.size + 1 < w1.heap.size := (by omega); have hB1 : Below w.heap.size w w1 := (by repeat (first | (with_reducible exact Below.refl _ _) | (with_reducible assumption) | (with_reducible refine Below.drew ?_) | (with_reducible refine below_drewN' ?_ _) | (with_reducible refine Below.setCell ?_ (by first | (simp; done) | (simp; omega) | omega) _) | (with_reducible refine Below.alloc ?_ (by first | (simp; done) | (simp; omega) | omega) _) | (with_reducible refine Below.trans ?_ (Below.mono (by assumption) (by first | (simp; done) | (simp; omega) | omega))))); skip)
    exact bodyPost_ret (v := _) (by simp [results, Try.results13, go_sem, hc1, hq1, hq2, hx1, hy1, hz1]; first | rfl | exact ⟨rfl, rfl⟩ | exact ⟨rfl, rfl, rfl⟩) rfl ⟨rfl, (by repeat (first | (with_reducible exact Below.refl _ _) | (with_reducible assumption) | (with_reducible refine Below.drew ?_) | (with_reducible refine below_drewN' ?_ _) | (with_reducible refine Below.setCell ?_ (by first | (simp; done) | (simp; omega) | omega) _) | (with_reducible refine Below.alloc ?_ (by first | (simp; done) | (simp; omega) | omega) _) | (with_reducible refine Below.trans ?_ (Below.mono (by assumption) (by first | (simp; done) | (simp; omega) | omega)))))⟩
theorem sRoom_c (f : Fm) (w : World) : Calls Try.prog 14 #[f.v] w (Ret w (FRoom f).v) := by
  have hfo := Lib.hid (sFarmOk_c f)
  cases h1 : f.ok
  all_goals
    rw [h1] at hfo
    simp only [FRoom, h1, if_true, Bool.false_eq_true, if_false]
    obtain ⟨s, wt, ag, c, n⟩ := f
    clear h1
    show Calls Try.prog 14 #[.agg #[.bool s, .bool wt, .bool ag, .int .i64 c, .int .i64 n]] w _
    go_enter Try.func14, Try.ntmps14
    go_wp2_with (go_at_call 15; refine (hfo.out _).mono ?_; rintro e w1 ⟨rfl, hb1⟩; have hq1 : w.heap.size < w.heap.size + 1 + 1 := (by omega); have hq2 : w.heap.size < w.heap.size + 1 + 1 + 1 := (by omega); obtain ⟨hc1, hf1⟩ := bcell hb1; have hz1 : w.heap.size + 1 < w1.heap.size := by { have := hb1.size; (try simp at this); omega }; have hy1 : w.heap.size < w1.heap.size := (by omega); have hx1 : w.heap.size + 1 < w1.heap.size := (by omega); have hB1 : Below w.heap.size w w1 := (by repeat (first | (with_reducible exact Below.refl _ _) | (with_reducible assumption) | (with_reducible refine Below.drew ?_) | (with_reducible refine below_drewN' ?_ _) | (with_reducible refine Below.setCell ?_ (by first | (simp; done) | (simp; omega) | omega) _) | (with_reducible refine Below.alloc ?_ (by first | (simp; done) | (simp; omega) | omega) _) | (with_reducible refine Below.trans ?_ (Below.mono (by assumption) (by first | (simp; done) | (simp; omega) | omega))))); skip)
    exact bodyPost_ret (v := _) (by simp [results, Try.results14, go_sem, hc1, hq1, hq2, hx1, hy1, hz1]; first | rfl | exact ⟨rfl, rfl⟩ | exact ⟨rfl, rfl, rfl⟩) rfl ⟨rfl, (by repeat (first | (with_reducible exact Below.refl _ _) | (with_reducible assumption) | (with_reducible refine Below.drew ?_) | (with_reducible refine below_drewN' ?_ _) | (with_reducible refine Below.setCell ?_ (by first | (simp; done) | (simp; omega) | omega) _) | (with_reducible refine Below.alloc ?_ (by first | (simp; done) | (simp; omega) | omega) _) | (with_reducible refine Below.trans ?_ (Below.mono (by assumption) (by first | (simp; done) | (simp; omega) | omega)))))⟩

end Go.Proofs.Ytcbbebhjddphfaa
