/- FarmHear of the program, whole. -/
import Derived.Test.YtcbbebhjddphfaaA2
import Derived.Test.YtcbbebhjddphfaaR0
import Derived.KernelRfl
namespace Go.Proofs.Ytcbbebhjddphfaa
open Go.RowKit
set_option linter.unusedSimpArgs false
set_option linter.unusedVariables false

def FH (f : Fm) (x : Fr) (room : Bool) : Fm × Int :=
  if f.ok = false then (⟨false, false, false, 0, 0⟩, 6) else if x.ok = false then (f, 6) else if x.gov then f.gov x.data
  else if x.past then (if room then (f.counted, 0) else (f, 4)) else f.ord ((x.seq - f.nx) % 256) room
theorem list_len17 : ∀ (l : List Value), l.length = 17 → ∃ x0 x1 x2 x3 x4 x5 x6 x7 x8 x9 x10 x11 x12 x13 x14 x15 x16, l = x0 :: x1 :: x2 :: x3 :: x4 :: x5 :: x6 :: x7 :: x8 :: x9 :: x10 :: x11 :: x12 :: x13 :: x14 :: x15 :: x16 :: []
  | x0 :: x1 :: x2 :: x3 :: x4 :: x5 :: x6 :: x7 :: x8 :: x9 :: x10 :: x11 :: x12 :: x13 :: x14 :: x15 :: x16 :: [], _ => ⟨x0, x1, x2, x3, x4, x5, x6, x7, x8, x9, x10, x11, x12, x13, x14, x15, x16, rfl⟩

theorem Fm.ok_iff {f : Fm} : f.ok = true ↔ (0 ≤ f.ct ∧ f.ct ≤ 3) ∧ (0 ≤ f.nx ∧ f.nx ≤ 255) ∧ (f.ag = true ∨ f.wt = false) := by
  simp [Fm.ok, inR_iff, and_assoc]
/-- Which method hears: by how the farm stands. -/
theorem hear_way (f : Fm) (d : Int) (room : Bool) (h0 : 0 ≤ f.nx) (h1 : f.nx ≤ 255) : ∃ T F : Nat, (if f.sh then 99 else if f.wt then 100 else 101) = T ∧
    (∀ W, (nilAhead 225 T (.agg #[]) "loop.example/skyway/impl.hear").run Try.prog W = .ok (some false) W) ∧ (∀ W, (method 225 T (.agg #[]) "loop.example/skyway/impl.hear").run Try.prog W = .ok (F, .agg #[]) W) ∧ (∀ args W, (callFunc F args).run Try.prog W = .ok (.enter F args) W) ∧
    ∀ W, Calls Try.prog F #[.agg #[], f.v, .int .i64 d, .bool room] W (Ret W (.tuple #[(f.ord d room).1.v, .int .i64 (f.ord d room).2])) := by
  cases hs : f.sh
  · cases hw : f.wt
    · exact ⟨101, 91, rfl, fun _ => by kernel_rfl, fun _ => by kernel_rfl, fun _ _ => by kernel_rfl, fun W => hearR_c f d room W hs hw h0 h1⟩
    · exact ⟨100, 89, rfl, fun _ => by kernel_rfl, fun _ => by kernel_rfl, fun _ _ => by kernel_rfl, fun W => hearW_c f d room W hs hw⟩
  · exact ⟨99, 88, rfl, fun _ => by kernel_rfl, fun _ => by kernel_rfl, fun _ _ => by kernel_rfl, fun W => hearS_c f d room W hs⟩
set_option maxHeartbeats 2000000 in
set_option maxRecDepth 100000 in
theorem hear_c (f : Fm) (x : Fr) (room : Bool) (w : World) : Calls Try.prog 16 #[f.v, x.v, .bool room] w (Ret w (.tuple #[(FH f x room).1.v, .int .i64 (FH f x room).2])) := by
  have hfo := Lib.hid (farmOk_c f)
  have hxo := Lib.hid (frameOk_c x)
  obtain ⟨⟨s1, w1', a1, c1, n1⟩, k, he⟩ : ∃ (g : Fm) (k : Int), FH f x room = (g, k) := ⟨_, _, rfl⟩
  have He := Lib.hid he
  rw [he]
  clear he
  cases h1 : f.ok
  · rw [h1] at hfo
    have hr := He.out
    simp [FH, h1] at hr
    obtain ⟨⟨rfl, rfl, rfl, rfl, rfl⟩, rfl⟩ := hr
    obtain ⟨s, wt, ag, c, n⟩ := f
    obtain ⟨px, gx, cx, vx, sx, dx⟩ := x
    clear He h1
    show Calls Try.prog 16 #[.agg #[.bool s, .bool wt, .bool ag, .int .i64 c, .int .i64 n], .agg #[.bool px, .bool gx, .int .i64 cx, .int .i64 vx, .int .i64 sx, .string dx], .bool room] w _
    go_enter Try.func16, Try.ntmps16
    go_wp2_with (go_at_call 17; refine (hfo.out _).mono ?_; rintro e w1 ⟨rfl, hb1⟩; have hq1 : w.heap.size < w.heap.size + 1 + 1 := (by omega); have hq2 : w.heap.size < w.heap.size + 1 + 1 + 1 := (by omega); obtain ⟨hc1, hf1⟩ := bcell hb1; have hz1 : w.heap.size + 2 < w1.heap.size := by { have := hb1.size; (try simp at this); omega }; have hy1 : w.heap.size < w1.heap.size := (by omega); have hx1 : w.heap.size + 1 < w1.heap.size := (by omega); have hB1 : Below w.heap.size w w1 := (by repeat (first | (with_reducible exact Below.refl _ _) | (with_reducible assumption) | (with_reducible refine Below.drew ?_) | (with_reducible refine below_drewN' ?_ _) | (with_reducible refine Below.setCell ?_ (by first | (simp; done) | (simp; omega) | omega) _) | (with_reducible refine Below.alloc ?_ (by first | (simp; done) | (simp; omega) | omega) _) | (with_reducible refine Below.trans ?_ (Below.mono (by assumption) (by first | (simp; done) | (simp; omega) | omega))))); skip)
    exact bodyPost_ret (v := .tuple #[_, .int .i64 _]) (by simp [results, Try.results16, go_sem, hc1, hq1, hq2, hx1, hy1, hz1]; first | rfl | exact ⟨rfl, rfl⟩ | exact ⟨rfl, rfl, rfl⟩) rfl ⟨rfl, (by repeat (first | (with_reducible exact Below.refl _ _) | (with_reducible assumption) | (with_reducible refine Below.drew ?_) | (with_reducible refine below_drewN' ?_ _) | (with_reducible refine Below.setCell ?_ (by first | (simp; done) | (simp; omega) | omega) _) | (with_reducible refine Below.alloc ?_ (by first | (simp; done) | (simp; omega) | omega) _) | (with_reducible refine Below.trans ?_ (Below.mono (by assumption) (by first | (simp; done) | (simp; omega) | omega)))))⟩
  · rw [h1] at hfo
    cases h2 : x.ok
    · rw [h2] at hxo
      have hr := He.out
      simp [FH, h1, h2] at hr
      obtain ⟨rfl, rfl⟩ := hr
      obtain ⟨px, gx, cx, vx, sx, dx⟩ := x
      clear He h1 h2
      show Calls Try.prog 16 #[.agg #[.bool s1, .bool w1', .bool a1, .int .i64 c1, .int .i64 n1], .agg #[.bool px, .bool gx, .int .i64 cx, .int .i64 vx, .int .i64 sx, .string dx], .bool room] w _
      go_enter Try.func16, Try.ntmps16
      go_wp2_with (first | (go_at_call 17; refine (hfo.out _).mono ?_; rintro e w1 ⟨rfl, hb1⟩; have hq1 : w.heap.size < w.heap.size + 1 + 1 := (by omega); have hq2 : w.heap.size < w.heap.size + 1 + 1 + 1 := (by omega); obtain ⟨hc1, hf1⟩ := bcell hb1; have hz1 : w.heap.size + 2 < w1.heap.size := by { have := hb1.size; (try simp at this); omega }; have hy1 : w.heap.size < w1.heap.size := (by omega); have hx1 : w.heap.size + 1 < w1.heap.size := (by omega); have hB1 : Below w.heap.size w w1 := (by repeat (first | (with_reducible exact Below.refl _ _) | (with_reducible assumption) | (with_reducible refine Below.drew ?_) | (with_reducible refine below_drewN' ?_ _) | (with_reducible refine Below.setCell ?_ (by first | (simp; done) | (simp; omega) | omega) _) | (with_reducible refine Below.alloc ?_ (by first | (simp; done) | (simp; omega) | omega) _) | (with_reducible refine Below.trans ?_ (Below.mono (by assumption) (by first | (simp; done) | (simp; omega) | omega))))); skip) | (go_at_call 41; refine (hxo.out _).mono ?_; rintro e w2 ⟨rfl, hb2⟩; have hq1 : w.heap.size < w.heap.size + 1 + 1 := (by omega); have hq2 : w.heap.size < w.heap.size + 1 + 1 + 1 := (by omega); obtain ⟨hc2, hf2⟩ := bcell hb2; have hz2 : w.heap.size + 2 < w2.heap.size := by { have := hb2.size; (try simp at this); omega }; have hy2 : w.heap.size < w2.heap.size := (by omega); have hx2 : w.heap.size + 1 < w2.heap.size := (by omega); have hB2 : Below w.heap.size w w2 := (by repeat (first | (with_reducible exact Below.refl _ _) | (with_reducible assumption) | (with_reducible refine Below.drew ?_) | (with_reducible refine below_drewN' ?_ _) | (with_reducible refine Below.setCell ?_ (by first | (simp; done) | (simp; omega) | omega) _) | (with_reducible refine Below.alloc ?_ (by first | (simp; done) | (simp; omega) | omega) _) | (with_reducible refine Below.trans ?_ (Below.mono (by assumption) (by first | (simp; done) | (simp; omega) | omega))))); skip))
      exact bodyPost_ret (v := .tuple #[_, .int .i64 _]) (by simp [results, Try.results16, go_sem, hc1, hq1, hq2, hc2, hx1, hy1, hz1, hx2, hy2, hz2]; first | rfl | exact ⟨rfl, rfl⟩ | exact ⟨rfl, rfl, rfl⟩) rfl ⟨rfl, (by repeat (first | (with_reducible exact Below.refl _ _) | (with_reducible assumption) | (with_reducible refine Below.drew ?_) | (with_reducible refine below_drewN' ?_ _) | (with_reducible refine Below.setCell ?_ (by first | (simp; done) | (simp; omega) | omega) _) | (with_reducible refine Below.alloc ?_ (by first | (simp; done) | (simp; omega) | omega) _) | (with_reducible refine Below.trans ?_ (Below.mono (by assumption) (by first | (simp; done) | (simp; omega) | omega)))))⟩
    · rw [h2] at hxo
      have hr := Lib.hid He.out
      obtain ⟨hk, hn, _⟩ := Fm.ok_iff.1 h1
      have hs : 0 ≤ x.seq ∧ x.seq ≤ 255 := by simp [Fr.ok, inR_iff] at h2; omega
      have hg := Lib.hid (hearGovern_c f x.data)
      have hcn := Lib.hid (counted_c f)
      have hst := Lib.hid (standingOf_c f)
      obtain ⟨s, wt, ag, c, n⟩ := f
      obtain ⟨px, gx, cx, vx, sx, dx⟩ := x
      simp only at hk hn hs
      obtain ⟨hk0, hk1⟩ := hk
      obtain ⟨hn0, hn1⟩ := hn
      obtain ⟨hs0, hs1⟩ := hs
      have hr := He.out
      simp only [FH, h1, h2] at hr
      clear He h1 h2
      cases gx
      · cases px
        · simp at hr
          obtain ⟨T, F, hT, hna, hme, hcf, hcall⟩ := hear_way ⟨s, wt, ag, c, n⟩ ((sx - n) % 256) room hn0 hn1
          rw [hr] at hcall
          clear hr
          simp only at hT
          have hcall := Lib.hid hcall
          rw [hT] at hst
          clear hT
          show Calls Try.prog 16 #[.agg #[.bool s, .bool wt, .bool ag, .int .i64 c, .int .i64 n], .agg #[.bool _, .bool _, .int .i64 cx, .int .i64 vx, .int .i64 sx, .string dx], .bool room] w _
          go_enter Try.func16, Try.ntmps16
          go_wp2_with (first | (go_at_call 17; refine (hfo.out _).mono ?_; rintro e w1 ⟨rfl, hb1⟩; have hq1 : w.heap.size < w.heap.size + 1 + 1 := (by omega); have hq2 : w.heap.size < w.heap.size + 1 + 1 + 1 := (by omega); obtain ⟨hc1, hf1⟩ := bcell hb1; have hz1 : w.heap.size + 2 < w1.heap.size := by { have := hb1.size; (try simp at this); omega }; have hy1 : w.heap.size < w1.heap.size := (by omega); have hx1 : w.heap.size + 1 < w1.heap.size := (by omega); have hB1 : Below w.heap.size w w1 := (by repeat (first | (with_reducible exact Below.refl _ _) | (with_reducible assumption) | (with_reducible refine Below.drew ?_) | (with_reducible refine below_drewN' ?_ _) | (with_reducible refine Below.setCell ?_ (by first | (simp; done) | (simp; omega) | omega) _) | (with_reducible refine Below.alloc ?_ (by first | (simp; done) | (simp; omega) | omega) _) | (with_reducible refine Below.trans ?_ (Below.mono (by assumption) (by first | (simp; done) | (simp; omega) | omega))))); skip) | (go_at_call 41; refine (hxo.out _).mono ?_; rintro e w2 ⟨rfl, hb2⟩; have hq1 : w.heap.size < w.heap.size + 1 + 1 := (by omega); have hq2 : w.heap.size < w.heap.size + 1 + 1 + 1 := (by omega); obtain ⟨hc2, hf2⟩ := bcell hb2; have hz2 : w.heap.size + 2 < w2.heap.size := by { have := hb2.size; (try simp at this); omega }; have hy2 : w.heap.size < w2.heap.size := (by omega); have hx2 : w.heap.size + 1 < w2.heap.size := (by omega); have hB2 : Below w.heap.size w w2 := (by repeat (first | (with_reducible exact Below.refl _ _) | (with_reducible assumption) | (with_reducible refine Below.drew ?_) | (with_reducible refine below_drewN' ?_ _) | (with_reducible refine Below.setCell ?_ (by first | (simp; done) | (simp; omega) | omega) _) | (with_reducible refine Below.alloc ?_ (by first | (simp; done) | (simp; omega) | omega) _) | (with_reducible refine Below.trans ?_ (Below.mono (by assumption) (by first | (simp; done) | (simp; omega) | omega))))); skip))
          have hb0 : w2.heap[w.heap.size]? = some (.cells #[.bool s, .bool wt, .bool ag, .int .i64 c, .int .i64 n] 24 (0, 0)) := blk_below (blk_below (heap_up (heap_up (heap_top _ _ rfl) _) _) hb1) hb2
          have hb3 : ∃ cs : Array Value, cs.size = 5 ∧ w2.heap[w.heap.size + 2]? = some (.cells cs 24 (0, 0)) := ⟨_, by rfl, blk_below (blk_below (heap_top _ _ (by simp)) hb1) hb2⟩
          have hb1 : w2.heap[w.heap.size + 1]? = some (.cells #[.bool false, .bool false, .int .i64 cx, .int .i64 vx, .int .i64 sx, .string dx] 31 (0, 0)) := blk_below (blk_below (heap_up (heap_top _ _ (by simp)) _) hb1) hb2
          clear hc2 hf2 hb2 hz2 hy2 hx2 hc1 hf1 hz1 hy1 hx1 hB1
          apply region_inv (VV [IsV _, (IsV (.iface T (.agg #[]))), IsV _, IsV _, IsV _, IsV _, IsV _, (IsV (.int .i64 ((sx - n) % 256))), IsV _, IsV _, IsV _, IsV _, (IsV (.tuple #[.agg #[.bool s1, .bool w1', .bool a1, .int .i64 c1, .int .i64 n1], .int .i64 k])), IsV _, IsV _, (fun _ W => W.heap[w.heap.size + 2]? = some (.cells #[.bool s1, .bool w1', .bool a1, .int .i64 c1, .int .i64 n1] 24 (0, 0))), IsV _]) (fun _ W => Below w.heap.size w W ∧ W.heap[w.heap.size]? = some (.cells #[.bool s, .bool wt, .bool ag, .int .i64 c, .int .i64 n] 24 (0, 0)) ∧ W.heap[w.heap.size + 1]? = some (.cells #[.bool false, .bool false, .int .i64 cx, .int .i64 vx, .int .i64 sx, .string dx] 31 (0, 0)) ∧ ∃ cs : Array Value, cs.size = 5 ∧ W.heap[w.heap.size + 2]? = some (.cells cs 24 (0, 0))) (fun W1 W2 => W1.heap[w.heap.size + 2]? = some (.cells #[.bool s1, .bool w1', .bool a1, .int .i64 c1, .int .i64 n1] 24 (0, 0)) → W2.heap[w.heap.size + 2]? = some (.cells #[.bool s1, .bool w1', .bool a1, .int .i64 c1, .int .i64 n1] 24 (0, 0))) (by kernel_rfl) 53 rfl (by kernel_rfl)
          case h0 =>
            exact ⟨hB2.drew, hb0, hb1, hb3⟩
          case hsteps =>
            refine ⟨?_, ?_, ?_, ?_, ?_, ?_, ?_, ?_, ?_, ?_, ?_, ?_, ?_, ?_, ?_, ?_, ?_, trivial⟩
            · refine stepOK_of _ [3] rfl (by kernel_rfl) ?_ rfl
              intro t ρ W ht hc hf hn ho hI
              clear hn
              have s3 := ho.1
              simp only [Array.getD_eq_getD_getElem?] at s3
              clear ho
              have hI' := Lib.hid hI
              obtain ⟨i1, i2, i3, i4⟩ := hI
              have j0 := blk_cell i2 0
              have j1 := blk_cell i2 1
              have j2 := blk_cell i2 2
              have j3 := blk_cell i2 3
              have j4 := blk_cell i2 4
              clear i1 i2 i3 i4
              go_simp
              exact post_mk (hI'.out) (fun h => h) rfl
            · refine stepOK_of _ [] rfl (by kernel_rfl) ?_ rfl
              intro t ρ W ht hc hf hn ho hI
              obtain ⟨u0, q0, s38⟩ := hn.1
              clear hn
              have q0 : u0 = _ := q0
              subst q0
              have s38 : ρ (.tmp 38) = _ := s38
              clear ho
              have hI' := Lib.hid hI
              clear hI
              go_simp
              refine (hst.out W).mono ?_
              rintro e W2 ⟨rfl, hb⟩
              obtain ⟨i1, i2, i3, i4⟩ := hI'.out
              obtain ⟨cs, i4, i5⟩ := i4
              exact endp_mk (post_mk ⟨below_then i1 i1.size hb, blk_below i2 hb, blk_below i3 hb, cs, i4, blk_below i5 hb⟩ (fun h => blk_below h hb) rfl)
            · refine stepOK_of _ [3] rfl (by kernel_rfl) ?_ rfl
              intro t ρ W ht hc hf hn ho hI
              clear hn
              have s3 := ho.1
              simp only [Array.getD_eq_getD_getElem?] at s3
              clear ho
              have hI' := Lib.hid hI
              obtain ⟨i1, i2, i3, i4⟩ := hI
              have j0 := blk_cell i2 0
              have j1 := blk_cell i2 1
              have j2 := blk_cell i2 2
              have j3 := blk_cell i2 3
              have j4 := blk_cell i2 4
              clear i1 i2 i3 i4
              go_simp
              exact post_mk (hI'.out) (fun h => h) rfl
            · refine stepOK_of _ [4] rfl (by kernel_rfl) ?_ rfl
              intro t ρ W ht hc hf hn ho hI
              clear hn
              have s4 := ho.1
              simp only [Array.getD_eq_getD_getElem?] at s4
              clear ho
              have hI' := Lib.hid hI
              clear hI
              go_simp
              exact post_mk (hI'.out) (fun h => h) rfl
            · refine stepOK_of _ [] rfl (by kernel_rfl) ?_ rfl
              intro t ρ W ht hc hf hn ho hI
              obtain ⟨u3, q3, s41⟩ := hn.1
              clear hn
              have q3 : u3 = _ := q3
              subst q3
              have s41 : ρ (.tmp 41) = _ := s41
              clear ho
              have hI' := Lib.hid hI
              obtain ⟨i1, i2, i3, i4⟩ := hI
              have j0 := blk_cell i3 0
              have j1 := blk_cell i3 1
              have j2 := blk_cell i3 2
              have j3 := blk_cell i3 3
              have j4 := blk_cell i3 4
              have j5 := blk_cell i3 5
              clear i1 i2 i3 i4
              go_simp
              exact post_mk (hI'.out) (fun h => h) rfl
            · refine stepOK_of _ [3] rfl (by kernel_rfl) ?_ rfl
              intro t ρ W ht hc hf hn ho hI
              clear hn
              have s3 := ho.1
              simp only [Array.getD_eq_getD_getElem?] at s3
              clear ho
              have hI' := Lib.hid hI
              clear hI
              go_simp
              exact post_mk (hI'.out) (fun h => h) rfl
            · refine stepOK_of _ [] rfl (by kernel_rfl) ?_ rfl
              intro t ρ W ht hc hf hn ho hI
              obtain ⟨u5, q5, s43⟩ := hn.1
              clear hn
              have q5 : u5 = _ := q5
              subst q5
              have s43 : ρ (.tmp 43) = _ := s43
              clear ho
              have hI' := Lib.hid hI
              obtain ⟨i1, i2, i3, i4⟩ := hI
              have j0 := blk_cell i2 0
              have j1 := blk_cell i2 1
              have j2 := blk_cell i2 2
              have j3 := blk_cell i2 3
              have j4 := blk_cell i2 4
              clear i1 i2 i3 i4
              go_simp
              exact post_mk (hI'.out) (fun h => h) rfl
            · refine stepOK_of _ [] rfl (by kernel_rfl) ?_ rfl
              intro t ρ W ht hc hf hn ho hI
              obtain ⟨u4, q4, s42⟩ := hn.1
              obtain ⟨u6, q6, s44⟩ := hn.2.1
              clear hn
              have q4 : u4 = _ := q4
              subst q4
              have s42 : ρ (.tmp 42) = _ := s42
              have q6 : u6 = _ := q6
              subst q6
              have s44 : ρ (.tmp 44) = _ := s44
              clear ho
              have hI' := Lib.hid hI
              clear hI
              go_simp
              refine (behind_c sx n W hs0 hs1 hn0 hn1).mono ?_
              rintro e W2 ⟨rfl, rfl⟩
              exact endp_mk (post_mk hI'.out (fun h => h) rfl)
            · refine stepOK_of _ [2] rfl (by kernel_rfl) ?_ rfl
              intro t ρ W ht hc hf hn ho hI
              clear hn
              have s2 := ho.1
              simp only [Array.getD_eq_getD_getElem?] at s2
              clear ho
              have hI' := Lib.hid hI
              clear hI
              go_simp
              exact post_mk (hI'.out) (fun h => h) rfl
            · refine stepOK_of _ [] rfl (by kernel_rfl) ?_ rfl
              intro t ρ W ht hc hf hn ho hI
              obtain ⟨u1, q1, s39⟩ := hn.1
              clear hn
              have q1 : u1 = _ := q1
              subst q1
              have s39 : ρ (.tmp 39) = _ := s39
              clear ho
              have hI' := Lib.hid hI
              clear hI
              go_simp
              exact post_mk (hI'.out) (fun h => h) rfl
            · refine stepOK_of _ [] rfl (by kernel_rfl) ?_ rfl
              intro t ρ W ht hc hf hn ho hI
              obtain ⟨u9, q9, s47⟩ := hn.1
              clear hn
              have q9 : u9 = _ := q9
              subst q9
              have s47 : ρ (.tmp 47) = _ := s47
              clear ho
              have hI' := Lib.hid hI
              clear hI
              go_simp
              exact post_mk (hI'.out) (fun h => h) rfl
            · refine stepOK_of _ [] rfl (by kernel_rfl) ?_ rfl
              intro t ρ W ht hc hf hn ho hI
              obtain ⟨u1, q1, s39⟩ := hn.1
              clear hn
              have q1 : u1 = _ := q1
              subst q1
              have s39 : ρ (.tmp 39) = _ := s39
              clear ho
              have hI' := Lib.hid hI
              clear hI
              go_simp
              exact post_mk (hI'.out) (fun h => h) rfl
            · refine stepOK_of _ [] rfl (by kernel_rfl) ?_ rfl
              intro t ρ W ht hc hf hn ho hI
              obtain ⟨u11, q11, s49⟩ := hn.1
              obtain ⟨u2, q2, s40⟩ := hn.2.1
              obtain ⟨u7, q7, s45⟩ := hn.2.2.1
              obtain ⟨u8, q8, s46⟩ := hn.2.2.2.1
              clear hn
              have q11 : u11 = _ := q11
              subst q11
              have s49 : ρ (.tmp 49) = _ := s49
              have q2 : u2 = _ := q2
              subst q2
              have s40 : ρ (.tmp 40) = _ := s40
              have q7 : u7 = _ := q7
              subst q7
              have s45 : ρ (.tmp 45) = _ := s45
              have q8 : u8 = _ := q8
              subst q8
              have s46 : ρ (.tmp 46) = _ := s46
              clear ho
              have hI' := Lib.hid hI
              clear hI
              go_simp
              refine (hcall.out W).mono ?_
              rintro e W2 ⟨rfl, hb⟩
              obtain ⟨i1, i2, i3, i4⟩ := hI'.out
              obtain ⟨cs, i4, i5⟩ := i4
              exact endp_mk (post_mk ⟨below_then i1 i1.size hb, blk_below i2 hb, blk_below i3 hb, cs, i4, blk_below i5 hb⟩ (fun h => blk_below h hb) rfl)
            · refine stepOK_of _ [] rfl (by kernel_rfl) ?_ rfl
              intro t ρ W ht hc hf hn ho hI
              obtain ⟨u12, q12, s50⟩ := hn.1
              clear hn
              have q12 : u12 = _ := q12
              subst q12
              have s50 : ρ (.tmp 50) = _ := s50
              clear ho
              have hI' := Lib.hid hI
              clear hI
              go_simp
              exact post_mk (hI'.out) (fun h => h) rfl
            · refine stepOK_of _ [] rfl (by kernel_rfl) ?_ rfl
              intro t ρ W ht hc hf hn ho hI
              obtain ⟨u12, q12, s50⟩ := hn.1
              clear hn
              have q12 : u12 = _ := q12
              subst q12
              have s50 : ρ (.tmp 50) = _ := s50
              clear ho
              have hI' := Lib.hid hI
              clear hI
              go_simp
              exact post_mk (hI'.out) (fun h => h) rfl
            · refine stepOK_of _ [6] rfl (by kernel_rfl) ?_ rfl
              intro t ρ W ht hc hf hn ho hI
              obtain ⟨u13, q13, s51⟩ := hn.1
              clear hn
              have q13 : u13 = _ := q13
              subst q13
              have s51 : ρ (.tmp 51) = _ := s51
              have s6 := ho.1
              simp only [Array.getD_eq_getD_getElem?] at s6
              clear ho
              have hI' := Lib.hid hI
              obtain ⟨i1, i2, i3, cs, i4, i5⟩ := hI
              obtain ⟨z0, z1, z2, z3, z4, rfl⟩ := arr_len5 cs i4
              have j0 := blk_cell i5 0
              have j1 := blk_cell i5 1
              have j2 := blk_cell i5 2
              have j3 := blk_cell i5 3
              have j4 := blk_cell i5 4
              have j5 := blk_frozen i5
              have hI' := Lib.hid (And.intro (And.intro i1 (And.intro i2 i3)) i5)
              clear i1 i2 i3 i4 i5
              go_simp
              obtain ⟨⟨i1, i2, i3⟩, i5⟩ := hI'.out
              have h5 := blk_put (blk_put (blk_put (blk_put (blk_put i5 0 (.bool s1)) 1 (.bool w1')) 2 (.bool a1)) 3 (.int .i64 c1)) 4 (.int .i64 n1)
              exact post_mk ⟨(by repeat (first | (with_reducible exact Below.refl _ _) | (with_reducible assumption) | (with_reducible refine Below.drew ?_) | (with_reducible refine below_drewN' ?_ _) | (with_reducible refine Below.setCell ?_ (by first | (simp; done) | (simp; omega) | omega) _) | (with_reducible refine Below.alloc ?_ (by first | (simp; done) | (simp; omega) | omega) _) | (with_reducible refine Below.trans ?_ (Below.mono (by assumption) (by first | (simp; done) | (simp; omega) | omega))))), blk_set (blk_set (blk_set (blk_set (blk_set i2 _ _ (by omega)) _ _ (by omega)) _ _ (by omega)) _ _ (by omega)) _ _ (by omega), blk_set (blk_set (blk_set (blk_set (blk_set i3 _ _ (by omega)) _ _ (by omega)) _ _ (by omega)) _ _ (by omega)) _ _ (by omega), _, by rfl, h5⟩ (fun _ => h5) h5
            · refine stepOK_of _ [] rfl (by kernel_rfl) ?_ rfl
              intro t ρ W ht hc hf hn ho hI
              obtain ⟨u14, q14, s52⟩ := hn.1
              clear hn
              have q14 : u14 = _ := q14
              subst q14
              have s52 : ρ (.tmp 52) = _ := s52
              clear ho
              have hI' := Lib.hid hI
              clear hI
              go_simp
              exact post_mk (hI'.out) (fun h => h) rfl
          case hst => exact vv_stable ⟨isV_st, fun _ _ _ _ h => h, isV_st, isV_st, isV_st, isV_st, isV_st, fun _ _ _ _ h => h, isV_st, isV_st, isV_st, isV_st, fun _ _ _ _ h => h, isV_st, isV_st, fun _ _ _ hR h => hR h, isV_st, trivial⟩
          case fin =>
            intro vs W hlen hI hV
            obtain ⟨x0, x1, x2, x3, x4, x5, x6, x7, x8, x9, x10, x11, x12, x13, x14, x15, x16, rfl⟩ := list_len17 vs hlen
            have y0 := hV 0 _ rfl
            have y0 : x0 = _ := y0
            subst y0
            have y1 := hV 1 _ rfl
            have y2 := hV 2 _ rfl
            have y2 : x2 = _ := y2
            subst y2
            have y3 := hV 3 _ rfl
            have y3 : x3 = _ := y3
            subst y3
            have y4 := hV 4 _ rfl
            have y4 : x4 = _ := y4
            subst y4
            have y5 := hV 5 _ rfl
            have y5 : x5 = _ := y5
            subst y5
            have y6 := hV 6 _ rfl
            have y6 : x6 = _ := y6
            subst y6
            have y7 := hV 7 _ rfl
            have y8 := hV 8 _ rfl
            have y8 : x8 = _ := y8
            subst y8
            have y9 := hV 9 _ rfl
            have y9 : x9 = _ := y9
            subst y9
            have y10 := hV 10 _ rfl
            have y10 : x10 = _ := y10
            subst y10
            have y11 := hV 11 _ rfl
            have y11 : x11 = _ := y11
            subst y11
            have y12 := hV 12 _ rfl
            have y13 := hV 13 _ rfl
            have y13 : x13 = _ := y13
            subst y13
            have y14 := hV 14 _ rfl
            have y14 : x14 = _ := y14
            subst y14
            have y15 := hV 15 _ rfl
            have y16 := hV 16 _ rfl
            have y16 : x16 = _ := y16
            subst y16
            clear hV hlen
            simp only [Exit.then, putAll, Act.put, List.setIfInBounds_toArray, List.set_cons_zero, List.set_cons_succ]
            obtain ⟨i1, i2, i3, i4⟩ := hI
            have j0 := blk_cell y15 0
            have j1 := blk_cell y15 1
            have j2 := blk_cell y15 2
            have j3 := blk_cell y15 3
            have j4 := blk_cell y15 4
            clear i2 i3 i4
            go_wp2
            exact bodyPost_ret (v := .tuple #[.agg #[.bool s1, .bool w1', .bool a1, .int .i64 c1, .int .i64 n1], .int .i64 k]) (by simp [results, Try.results16, go_sem, j0, j1, j2, j3, j4]) rfl ⟨rfl, i1⟩
        · cases room
          · simp at hr
            obtain ⟨⟨rfl, rfl, rfl, rfl, rfl⟩, rfl⟩ := hr
            show Calls Try.prog 16 #[.agg #[.bool _, .bool _, .bool _, .int .i64 _, .int .i64 _], .agg #[.bool _, .bool _, .int .i64 cx, .int .i64 vx, .int .i64 sx, .string dx], .bool _] w _
            go_enter Try.func16, Try.ntmps16
            go_wp2_with (first | (go_at_call 17; refine (hfo.out _).mono ?_; rintro e w1 ⟨rfl, hb1⟩; have hq1 : w.heap.size < w.heap.size + 1 + 1 := (by omega); have hq2 : w.heap.size < w.heap.size + 1 + 1 + 1 := (by omega); obtain ⟨hc1, hf1⟩ := bcell hb1; have hz1 : w.heap.size + 2 < w1.heap.size := by { have := hb1.size; (try simp at this); omega }; have hy1 : w.heap.size < w1.heap.size := (by omega); have hx1 : w.heap.size + 1 < w1.heap.size := (by omega); have hB1 : Below w.heap.size w w1 := (by repeat (first | (with_reducible exact Below.refl _ _) | (with_reducible assumption) | (with_reducible refine Below.drew ?_) | (with_reducible refine below_drewN' ?_ _) | (with_reducible refine Below.setCell ?_ (by first | (simp; done) | (simp; omega) | omega) _) | (with_reducible refine Below.alloc ?_ (by first | (simp; done) | (simp; omega) | omega) _) | (with_reducible refine Below.trans ?_ (Below.mono (by assumption) (by first | (simp; done) | (simp; omega) | omega))))); skip) | (go_at_call 41; refine (hxo.out _).mono ?_; rintro e w2 ⟨rfl, hb2⟩; have hq1 : w.heap.size < w.heap.size + 1 + 1 := (by omega); have hq2 : w.heap.size < w.heap.size + 1 + 1 + 1 := (by omega); obtain ⟨hc2, hf2⟩ := bcell hb2; have hz2 : w.heap.size + 2 < w2.heap.size := by { have := hb2.size; (try simp at this); omega }; have hy2 : w.heap.size < w2.heap.size := (by omega); have hx2 : w.heap.size + 1 < w2.heap.size := (by omega); have hB2 : Below w.heap.size w w2 := (by repeat (first | (with_reducible exact Below.refl _ _) | (with_reducible assumption) | (with_reducible refine Below.drew ?_) | (with_reducible refine below_drewN' ?_ _) | (with_reducible refine Below.setCell ?_ (by first | (simp; done) | (simp; omega) | omega) _) | (with_reducible refine Below.alloc ?_ (by first | (simp; done) | (simp; omega) | omega) _) | (with_reducible refine Below.trans ?_ (Below.mono (by assumption) (by first | (simp; done) | (simp; omega) | omega))))); skip))
            exact bodyPost_ret (v := .tuple #[_, .int .i64 _]) (by simp [results, Try.results16, go_sem, hc1, hq1, hq2, hc2, hx1, hy1, hz1, hx2, hy2, hz2]; first | rfl | exact ⟨rfl, rfl⟩ | exact ⟨rfl, rfl, rfl⟩) rfl ⟨rfl, (by repeat (first | (with_reducible exact Below.refl _ _) | (with_reducible assumption) | (with_reducible refine Below.drew ?_) | (with_reducible refine below_drewN' ?_ _) | (with_reducible refine Below.setCell ?_ (by first | (simp; done) | (simp; omega) | omega) _) | (with_reducible refine Below.alloc ?_ (by first | (simp; done) | (simp; omega) | omega) _) | (with_reducible refine Below.trans ?_ (Below.mono (by assumption) (by first | (simp; done) | (simp; omega) | omega)))))⟩
          · simp [Fm.counted] at hr
            obtain ⟨⟨rfl, rfl, rfl, rfl, rfl⟩, rfl⟩ := hr
            show Calls Try.prog 16 #[.agg #[.bool _, .bool _, .bool _, .int .i64 c, .int .i64 _], .agg #[.bool _, .bool _, .int .i64 cx, .int .i64 vx, .int .i64 sx, .string dx], .bool _] w _
            go_enter Try.func16, Try.ntmps16
            go_wp2_with (first | (go_at_call 17; refine (hfo.out _).mono ?_; rintro e w1 ⟨rfl, hb1⟩; have hq1 : w.heap.size < w.heap.size + 1 + 1 := (by omega); have hq2 : w.heap.size < w.heap.size + 1 + 1 + 1 := (by omega); obtain ⟨hc1, hf1⟩ := bcell hb1; have hz1 : w.heap.size + 2 < w1.heap.size := by { have := hb1.size; (try simp at this); omega }; have hy1 : w.heap.size < w1.heap.size := (by omega); have hx1 : w.heap.size + 1 < w1.heap.size := (by omega); have hB1 : Below w.heap.size w w1 := (by repeat (first | (with_reducible exact Below.refl _ _) | (with_reducible assumption) | (with_reducible refine Below.drew ?_) | (with_reducible refine below_drewN' ?_ _) | (with_reducible refine Below.setCell ?_ (by first | (simp; done) | (simp; omega) | omega) _) | (with_reducible refine Below.alloc ?_ (by first | (simp; done) | (simp; omega) | omega) _) | (with_reducible refine Below.trans ?_ (Below.mono (by assumption) (by first | (simp; done) | (simp; omega) | omega))))); skip) | (go_at_call 41; refine (hxo.out _).mono ?_; rintro e w2 ⟨rfl, hb2⟩; have hq1 : w.heap.size < w.heap.size + 1 + 1 := (by omega); have hq2 : w.heap.size < w.heap.size + 1 + 1 + 1 := (by omega); obtain ⟨hc2, hf2⟩ := bcell hb2; have hz2 : w.heap.size + 2 < w2.heap.size := by { have := hb2.size; (try simp at this); omega }; have hy2 : w.heap.size < w2.heap.size := (by omega); have hx2 : w.heap.size + 1 < w2.heap.size := (by omega); have hB2 : Below w.heap.size w w2 := (by repeat (first | (with_reducible exact Below.refl _ _) | (with_reducible assumption) | (with_reducible refine Below.drew ?_) | (with_reducible refine below_drewN' ?_ _) | (with_reducible refine Below.setCell ?_ (by first | (simp; done) | (simp; omega) | omega) _) | (with_reducible refine Below.alloc ?_ (by first | (simp; done) | (simp; omega) | omega) _) | (with_reducible refine Below.trans ?_ (Below.mono (by assumption) (by first | (simp; done) | (simp; omega) | omega))))); skip) | (go_at_call 43; refine (hcn.out _ hk0 hk1).mono ?_; rintro e w3 ⟨rfl, hb3⟩; have hq1 : w.heap.size < w.heap.size + 1 + 1 := (by omega); have hq2 : w.heap.size < w.heap.size + 1 + 1 + 1 := (by omega); obtain ⟨hc3, hf3⟩ := bcell hb3; have hz3 : w.heap.size + 2 < w3.heap.size := by { have := hb3.size; (try simp at this); omega }; have hy3 : w.heap.size < w3.heap.size := (by omega); have hx3 : w.heap.size + 1 < w3.heap.size := (by omega); have hB3 : Below w.heap.size w w3 := (by repeat (first | (with_reducible exact Below.refl _ _) | (with_reducible assumption) | (with_reducible refine Below.drew ?_) | (with_reducible refine below_drewN' ?_ _) | (with_reducible refine Below.setCell ?_ (by first | (simp; done) | (simp; omega) | omega) _) | (with_reducible refine Below.alloc ?_ (by first | (simp; done) | (simp; omega) | omega) _) | (with_reducible refine Below.trans ?_ (Below.mono (by assumption) (by first | (simp; done) | (simp; omega) | omega))))); simp only [Fm.v, Fm.counted]))
            exact bodyPost_ret (v := .tuple #[_, .int .i64 _]) (by simp [results, Try.results16, go_sem, hc1, hq1, hq2, hc2, hc3, hx1, hy1, hz1, hx2, hy2, hz2, hx3, hy3, hz3]; first | rfl | exact ⟨rfl, rfl⟩ | exact ⟨rfl, rfl, rfl⟩) rfl ⟨rfl, (by repeat (first | (with_reducible exact Below.refl _ _) | (with_reducible assumption) | (with_reducible refine Below.drew ?_) | (with_reducible refine below_drewN' ?_ _) | (with_reducible refine Below.setCell ?_ (by first | (simp; done) | (simp; omega) | omega) _) | (with_reducible refine Below.alloc ?_ (by first | (simp; done) | (simp; omega) | omega) _) | (with_reducible refine Below.trans ?_ (Below.mono (by assumption) (by first | (simp; done) | (simp; omega) | omega)))))⟩
      · simp at hr
        rw [hr] at hg
        clear hr
        show Calls Try.prog 16 #[.agg #[.bool s, .bool wt, .bool ag, .int .i64 c, .int .i64 n], .agg #[.bool px, .bool _, .int .i64 cx, .int .i64 vx, .int .i64 sx, .string dx], .bool room] w _
        go_enter Try.func16, Try.ntmps16
        go_wp2_with (first | (go_at_call 17; refine (hfo.out _).mono ?_; rintro e w1 ⟨rfl, hb1⟩; have hq1 : w.heap.size < w.heap.size + 1 + 1 := (by omega); have hq2 : w.heap.size < w.heap.size + 1 + 1 + 1 := (by omega); obtain ⟨hc1, hf1⟩ := bcell hb1; have hz1 : w.heap.size + 2 < w1.heap.size := by { have := hb1.size; (try simp at this); omega }; have hy1 : w.heap.size < w1.heap.size := (by omega); have hx1 : w.heap.size + 1 < w1.heap.size := (by omega); have hB1 : Below w.heap.size w w1 := (by repeat (first | (with_reducible exact Below.refl _ _) | (with_reducible assumption) | (with_reducible refine Below.drew ?_) | (with_reducible refine below_drewN' ?_ _) | (with_reducible refine Below.setCell ?_ (by first | (simp; done) | (simp; omega) | omega) _) | (with_reducible refine Below.alloc ?_ (by first | (simp; done) | (simp; omega) | omega) _) | (with_reducible refine Below.trans ?_ (Below.mono (by assumption) (by first | (simp; done) | (simp; omega) | omega))))); skip) | (go_at_call 41; refine (hxo.out _).mono ?_; rintro e w2 ⟨rfl, hb2⟩; have hq1 : w.heap.size < w.heap.size + 1 + 1 := (by omega); have hq2 : w.heap.size < w.heap.size + 1 + 1 + 1 := (by omega); obtain ⟨hc2, hf2⟩ := bcell hb2; have hz2 : w.heap.size + 2 < w2.heap.size := by { have := hb2.size; (try simp at this); omega }; have hy2 : w.heap.size < w2.heap.size := (by omega); have hx2 : w.heap.size + 1 < w2.heap.size := (by omega); have hB2 : Below w.heap.size w w2 := (by repeat (first | (with_reducible exact Below.refl _ _) | (with_reducible assumption) | (with_reducible refine Below.drew ?_) | (with_reducible refine below_drewN' ?_ _) | (with_reducible refine Below.setCell ?_ (by first | (simp; done) | (simp; omega) | omega) _) | (with_reducible refine Below.alloc ?_ (by first | (simp; done) | (simp; omega) | omega) _) | (with_reducible refine Below.trans ?_ (Below.mono (by assumption) (by first | (simp; done) | (simp; omega) | omega))))); skip) | (go_at_call 42; refine (hg.out _ hk0 hk1).mono ?_; rintro e w3 ⟨rfl, hb3⟩; have hq1 : w.heap.size < w.heap.size + 1 + 1 := (by omega); have hq2 : w.heap.size < w.heap.size + 1 + 1 + 1 := (by omega); obtain ⟨hc3, hf3⟩ := bcell hb3; have hz3 : w.heap.size + 2 < w3.heap.size := by { have := hb3.size; (try simp at this); omega }; have hy3 : w.heap.size < w3.heap.size := (by omega); have hx3 : w.heap.size + 1 < w3.heap.size := (by omega); have hB3 : Below w.heap.size w w3 := (by repeat (first | (with_reducible exact Below.refl _ _) | (with_reducible assumption) | (with_reducible refine Below.drew ?_) | (with_reducible refine below_drewN' ?_ _) | (with_reducible refine Below.setCell ?_ (by first | (simp; done) | (simp; omega) | omega) _) | (with_reducible refine Below.alloc ?_ (by first | (simp; done) | (simp; omega) | omega) _) | (with_reducible refine Below.trans ?_ (Below.mono (by assumption) (by first | (simp; done) | (simp; omega) | omega))))); simp only [Fm.v]))
        exact bodyPost_ret (v := .tuple #[_, .int .i64 _]) (by simp [results, Try.results16, go_sem, hc1, hq1, hq2, hc2, hc3, hx1, hy1, hz1, hx2, hy2, hz2, hx3, hy3, hz3]; first | rfl | exact ⟨rfl, rfl⟩ | exact ⟨rfl, rfl, rfl⟩) rfl ⟨rfl, (by repeat (first | (with_reducible exact Below.refl _ _) | (with_reducible assumption) | (with_reducible refine Below.drew ?_) | (with_reducible refine below_drewN' ?_ _) | (with_reducible refine Below.setCell ?_ (by first | (simp; done) | (simp; omega) | omega) _) | (with_reducible refine Below.alloc ?_ (by first | (simp; done) | (simp; omega) | omega) _) | (with_reducible refine Below.trans ?_ (Below.mono (by assumption) (by first | (simp; done) | (simp; omega) | omega)))))⟩

end Go.Proofs.Ytcbbebhjddphfaa
