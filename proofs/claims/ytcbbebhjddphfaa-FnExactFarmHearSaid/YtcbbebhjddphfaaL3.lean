/- The law FnFarmPast, walked. -/
import Derived.Test.YtcbbebhjddphfaaL2
namespace Go.Proofs.Ytcbbebhjddphfaa
open Go.RowKit
set_option linter.unusedSimpArgs false
set_option linter.unusedVariables false

theorem pure_past (f : Fm) (x : Fr) (b : Bool) (hf : f.ok = true) (hx : x.ok = true) (hg : x.gov = false) (hp : x.past = true) : FH f x b = if b then (⟨f.sh, f.wt, f.ag, (f.ct + 1) % 4, f.nx⟩, 0) else (f, 4) := by
  simp [FH, hf, hx, hg, hp, Fm.counted]
set_option maxHeartbeats 1000000 in
set_option maxRecDepth 100000 in
theorem law_past (w : World) (A : Option Addr) (n c : Nat) (h : Code_ w A n c) : Calls Try.prog 10 #[.slice A n c] w (Ret w (.bool true)) := by
  by_cases hn : 1048576 < n
  · go_enter Try.func10, Try.ntmps10
    go_wp2_with fail
    go_ret
    exact ⟨rfl, (by repeat (first | (with_reducible exact Below.refl _ _) | (with_reducible assumption) | (with_reducible refine Below.drew ?_) | (with_reducible refine below_drewN' ?_ _) | (with_reducible refine Below.setCell ?_ (by first | (simp; done) | (simp; omega) | omega) _) | (with_reducible refine Below.alloc ?_ (by first | (simp; done) | (simp; omega) | omega) _) | (with_reducible refine Below.trans ?_ (Below.mono (by assumption) (by first | (simp; done) | (simp; omega) | omega)))))⟩
  · have hC := Lib.hid h
    clear h
    go_enter Try.func10, Try.ntmps10
    go_wp2_with fail
    refine (DrawFarmHear_d _ A n c hC.out).mono ?_
    rintro e w1 ⟨v1, rfl, ⟨⟨s, wt, ag, ct, nx⟩, ⟨px, gx, cx, vx, sx, dx⟩, b, rfl⟩, hB1⟩
    have hh := Lib.hid (hear_c ⟨s, wt, ag, ct, nx⟩ ⟨true, false, cx, vx, sx, dx⟩ b)
    have hs := Lib.hid (sHear_c ⟨s, wt, ag, ct, nx⟩ ⟨true, false, cx, vx, sx, dx⟩ b)
    have hfo := Lib.hid (sFarmOk_c ⟨s, wt, ag, ct, nx⟩)
    have hxo := Lib.hid (sFrameOk_c ⟨true, false, cx, vx, sx, dx⟩)
    have hp := pure_past ⟨s, wt, ag, ct, nx⟩ ⟨true, false, cx, vx, sx, dx⟩ b
    have hO := ((OwnL.nil w).below hB1).put (.cells #[.bool s, .bool wt, .bool ag, .int .i64 ct, .int .i64 nx] 24) |>.put' (w1.heap.size + 1) (.cells #[.bool true, .bool false, .int .i64 cx, .int .i64 vx, .int .i64 sx, .string dx] 31) (by simp)
    clear hB1
    have hO := Lib.hid hO
    simp only [Fm.v, Fr.v]
    cases hk1 : Fm.ok ⟨s, wt, ag, ct, nx⟩
    · rw [hk1] at hfo
      clear hp hk1
      obtain ⟨⟨s1, wt1, ag1, ct1, nx1⟩, kk, hx⟩ : ∃ (y : Fm) (k : Int), FH ⟨s, wt, ag, ct, nx⟩ ⟨true, false, cx, vx, sx, dx⟩ b = (y, k) := ⟨_, _, rfl⟩
      rw [hx] at hh hs
      clear hx
      go_wp2_with fail
      refine (hh.out _).mono ?_
      rintro e w2 ⟨rfl, hB2⟩
      have hO := hO.out.below hB2
      have k0 := fun o => blk_cell hO.g0 o
      have hl0 := (Array.getElem?_eq_some_iff.1 hO.g0).1
      have k1 := fun o => blk_cell hO.g1 o
      have hl1 := (Array.getElem?_eq_some_iff.1 hO.g1).1
      have hO := Lib.hid (hO.put (.cells #[.bool s1, .bool wt1, .bool ag1, .int .i64 ct1, .int .i64 nx1] 24))
      clear hB2
      simp only [Fm.v]
      go_wp2_with fail
      refine (hs.out _).mono ?_
      rintro e w3 ⟨rfl, hB3⟩
      have hO := hO.out.below hB3
      clear k0 k1 hl0 hl1
      have k0 := fun o => blk_cell hO.g0 o
      have hl0 := (Array.getElem?_eq_some_iff.1 hO.g0).1
      have k1 := fun o => blk_cell hO.g1 o
      have hl1 := (Array.getElem?_eq_some_iff.1 hO.g1).1
      have k2 := fun o => blk_cell hO.g2 o
      have hl2 := (Array.getElem?_eq_some_iff.1 hO.g2).1
      have hO := Lib.hid (hO.put (.cells #[.bool s1, .bool wt1, .bool ag1, .int .i64 ct1, .int .i64 nx1] 24))
      clear hB3
      simp only [Fm.v]
      go_wp2_with fail
      refine (hfo.out _).mono ?_
      rintro e w4 ⟨rfl, hB⟩
      have hO := hO.out.below hB
      clear k0 k1 k2 hl0 hl1 hl2 hB
      have k0 := fun o => blk_cell hO.g0 o
      have hl0 := (Array.getElem?_eq_some_iff.1 hO.g0).1
      have k1 := fun o => blk_cell hO.g1 o
      have hl1 := (Array.getElem?_eq_some_iff.1 hO.g1).1
      have k2 := fun o => blk_cell hO.g2 o
      have hl2 := (Array.getElem?_eq_some_iff.1 hO.g2).1
      have k3 := fun o => blk_cell hO.g3 o
      have hl3 := (Array.getElem?_eq_some_iff.1 hO.g3).1
      have hO := Lib.hid hO
      go_wp2_with fail
      go_ret
      first
        | exact ⟨rfl, hO.out.1⟩
        | exact ⟨rfl, (hO.out.alloc _).1⟩
    · rw [hk1] at hfo
      cases hk2 : Fr.ok ⟨true, false, cx, vx, sx, dx⟩
      · rw [hk2] at hxo
        clear hp hk1 hk2
        obtain ⟨⟨s1, wt1, ag1, ct1, nx1⟩, kk, hx⟩ : ∃ (y : Fm) (k : Int), FH ⟨s, wt, ag, ct, nx⟩ ⟨true, false, cx, vx, sx, dx⟩ b = (y, k) := ⟨_, _, rfl⟩
        rw [hx] at hh hs
        clear hx
        go_wp2_with fail
        refine (hh.out _).mono ?_
        rintro e w2 ⟨rfl, hB2⟩
        have hO := hO.out.below hB2
        have k0 := fun o => blk_cell hO.g0 o
        have hl0 := (Array.getElem?_eq_some_iff.1 hO.g0).1
        have k1 := fun o => blk_cell hO.g1 o
        have hl1 := (Array.getElem?_eq_some_iff.1 hO.g1).1
        have hO := Lib.hid (hO.put (.cells #[.bool s1, .bool wt1, .bool ag1, .int .i64 ct1, .int .i64 nx1] 24))
        clear hB2
        simp only [Fm.v]
        go_wp2_with fail
        refine (hs.out _).mono ?_
        rintro e w3 ⟨rfl, hB3⟩
        have hO := hO.out.below hB3
        clear k0 k1 hl0 hl1
        have k0 := fun o => blk_cell hO.g0 o
        have hl0 := (Array.getElem?_eq_some_iff.1 hO.g0).1
        have k1 := fun o => blk_cell hO.g1 o
        have hl1 := (Array.getElem?_eq_some_iff.1 hO.g1).1
        have k2 := fun o => blk_cell hO.g2 o
        have hl2 := (Array.getElem?_eq_some_iff.1 hO.g2).1
        have hO := Lib.hid (hO.put (.cells #[.bool s1, .bool wt1, .bool ag1, .int .i64 ct1, .int .i64 nx1] 24))
        clear hB3
        simp only [Fm.v]
        go_wp2_with fail
        refine (hfo.out _).mono ?_
        rintro e w4 ⟨rfl, hB⟩
        have hO := hO.out.below hB
        clear k0 k1 k2 hl0 hl1 hl2 hB
        have k0 := fun o => blk_cell hO.g0 o
        have hl0 := (Array.getElem?_eq_some_iff.1 hO.g0).1
        have k1 := fun o => blk_cell hO.g1 o
        have hl1 := (Array.getElem?_eq_some_iff.1 hO.g1).1
        have k2 := fun o => blk_cell hO.g2 o
        have hl2 := (Array.getElem?_eq_some_iff.1 hO.g2).1
        have k3 := fun o => blk_cell hO.g3 o
        have hl3 := (Array.getElem?_eq_some_iff.1 hO.g3).1
        have hO := Lib.hid hO
        go_wp2_with fail
        refine (hxo.out _).mono ?_
        rintro e w5 ⟨rfl, hB⟩
        have hO := hO.out.below hB
        clear k0 k1 k2 k3 hl0 hl1 hl2 hl3 hB
        have k0 := fun o => blk_cell hO.g0 o
        have hl0 := (Array.getElem?_eq_some_iff.1 hO.g0).1
        have k1 := fun o => blk_cell hO.g1 o
        have hl1 := (Array.getElem?_eq_some_iff.1 hO.g1).1
        have k2 := fun o => blk_cell hO.g2 o
        have hl2 := (Array.getElem?_eq_some_iff.1 hO.g2).1
        have k3 := fun o => blk_cell hO.g3 o
        have hl3 := (Array.getElem?_eq_some_iff.1 hO.g3).1
        have hO := Lib.hid hO
        go_wp2_with fail
        go_ret
        first
          | exact ⟨rfl, hO.out.1⟩
          | exact ⟨rfl, (hO.out.alloc _).1⟩
      · rw [hk2] at hxo
        have hp := hp hk1 hk2 rfl rfl
        have hb := Fm.ok_iff.1 hk1
        obtain ⟨⟨hc0, hc1⟩, _⟩ := hb
        simp only at hc0 hc1
        clear hk1 hk2
        cases b
        · rw [hp] at hh hs
          clear hp
          go_wp2_with fail
          refine (hh.out _).mono ?_
          rintro e w2 ⟨rfl, hB2⟩
          have hO := hO.out.below hB2
          have k0 := fun o => blk_cell hO.g0 o
          have hl0 := (Array.getElem?_eq_some_iff.1 hO.g0).1
          have k1 := fun o => blk_cell hO.g1 o
          have hl1 := (Array.getElem?_eq_some_iff.1 hO.g1).1
          have hO := Lib.hid (hO.put (.cells #[.bool s, .bool wt, .bool ag, .int .i64 ct, .int .i64 nx] 24))
          clear hB2
          simp only [Fm.v]
          go_wp2_with fail
          refine (hs.out _).mono ?_
          rintro e w3 ⟨rfl, hB3⟩
          have hO := hO.out.below hB3
          clear k0 k1 hl0 hl1
          have k0 := fun o => blk_cell hO.g0 o
          have hl0 := (Array.getElem?_eq_some_iff.1 hO.g0).1
          have k1 := fun o => blk_cell hO.g1 o
          have hl1 := (Array.getElem?_eq_some_iff.1 hO.g1).1
          have k2 := fun o => blk_cell hO.g2 o
          have hl2 := (Array.getElem?_eq_some_iff.1 hO.g2).1
          have hO := Lib.hid (hO.put (.cells #[.bool s, .bool wt, .bool ag, .int .i64 ct, .int .i64 nx] 24))
          clear hB3
          simp only [Fm.v]
          go_wp2_with fail
          refine (hfo.out _).mono ?_
          rintro e w4 ⟨rfl, hB⟩
          have hO := hO.out.below hB
          clear k0 k1 k2 hl0 hl1 hl2 hB
          have k0 := fun o => blk_cell hO.g0 o
          have hl0 := (Array.getElem?_eq_some_iff.1 hO.g0).1
          have k1 := fun o => blk_cell hO.g1 o
          have hl1 := (Array.getElem?_eq_some_iff.1 hO.g1).1
          have k2 := fun o => blk_cell hO.g2 o
          have hl2 := (Array.getElem?_eq_some_iff.1 hO.g2).1
          have k3 := fun o => blk_cell hO.g3 o
          have hl3 := (Array.getElem?_eq_some_iff.1 hO.g3).1
          have hO := Lib.hid hO
          go_wp2_with fail
          refine (hxo.out _).mono ?_
          rintro e w5 ⟨rfl, hB⟩
          have hO := hO.out.below hB
          clear k0 k1 k2 k3 hl0 hl1 hl2 hl3 hB
          have k0 := fun o => blk_cell hO.g0 o
          have hl0 := (Array.getElem?_eq_some_iff.1 hO.g0).1
          have k1 := fun o => blk_cell hO.g1 o
          have hl1 := (Array.getElem?_eq_some_iff.1 hO.g1).1
          have k2 := fun o => blk_cell hO.g2 o
          have hl2 := (Array.getElem?_eq_some_iff.1 hO.g2).1
          have k3 := fun o => blk_cell hO.g3 o
          have hl3 := (Array.getElem?_eq_some_iff.1 hO.g3).1
          have hO := Lib.hid hO
          go_wp2_with fail
          go_ret
          first
            | exact ⟨rfl, hO.out.1⟩
            | exact ⟨rfl, (hO.out.alloc _).1⟩
        · rw [hp] at hh hs
          clear hp
          go_wp2_with fail
          refine (hh.out _).mono ?_
          rintro e w2 ⟨rfl, hB2⟩
          have hO := hO.out.below hB2
          have k0 := fun o => blk_cell hO.g0 o
          have hl0 := (Array.getElem?_eq_some_iff.1 hO.g0).1
          have k1 := fun o => blk_cell hO.g1 o
          have hl1 := (Array.getElem?_eq_some_iff.1 hO.g1).1
          have hO := Lib.hid (hO.put (.cells #[.bool s, .bool wt, .bool ag, .int .i64 ((ct + 1) % 4), .int .i64 nx] 24))
          clear hB2
          simp only [Fm.v]
          go_wp2_with fail
          refine (hs.out _).mono ?_
          rintro e w3 ⟨rfl, hB3⟩
          have hO := hO.out.below hB3
          clear k0 k1 hl0 hl1
          have k0 := fun o => blk_cell hO.g0 o
          have hl0 := (Array.getElem?_eq_some_iff.1 hO.g0).1
          have k1 := fun o => blk_cell hO.g1 o
          have hl1 := (Array.getElem?_eq_some_iff.1 hO.g1).1
          have k2 := fun o => blk_cell hO.g2 o
          have hl2 := (Array.getElem?_eq_some_iff.1 hO.g2).1
          have hO := Lib.hid (hO.put (.cells #[.bool s, .bool wt, .bool ag, .int .i64 ((ct + 1) % 4), .int .i64 nx] 24))
          clear hB3
          simp only [Fm.v]
          go_wp2_with fail
          refine (hfo.out _).mono ?_
          rintro e w4 ⟨rfl, hB⟩
          have hO := hO.out.below hB
          clear k0 k1 k2 hl0 hl1 hl2 hB
          have k0 := fun o => blk_cell hO.g0 o
          have hl0 := (Array.getElem?_eq_some_iff.1 hO.g0).1
          have k1 := fun o => blk_cell hO.g1 o
          have hl1 := (Array.getElem?_eq_some_iff.1 hO.g1).1
          have k2 := fun o => blk_cell hO.g2 o
          have hl2 := (Array.getElem?_eq_some_iff.1 hO.g2).1
          have k3 := fun o => blk_cell hO.g3 o
          have hl3 := (Array.getElem?_eq_some_iff.1 hO.g3).1
          have hO := Lib.hid hO
          go_wp2_with fail
          refine (hxo.out _).mono ?_
          rintro e w5 ⟨rfl, hB⟩
          have hO := hO.out.below hB
          clear k0 k1 k2 k3 hl0 hl1 hl2 hl3 hB
          have k0 := fun o => blk_cell hO.g0 o
          have hl0 := (Array.getElem?_eq_some_iff.1 hO.g0).1
          have k1 := fun o => blk_cell hO.g1 o
          have hl1 := (Array.getElem?_eq_some_iff.1 hO.g1).1
          have k2 := fun o => blk_cell hO.g2 o
          have hl2 := (Array.getElem?_eq_some_iff.1 hO.g2).1
          have k3 := fun o => blk_cell hO.g3 o
          have hl3 := (Array.getElem?_eq_some_iff.1 hO.g3).1
          have hO := Lib.hid hO
          go_wp2_with fail
          go_ret
          first
            | exact ⟨rfl, hO.out.1⟩
            | exact ⟨rfl, (hO.out.alloc _).1⟩

end Go.Proofs.Ytcbbebhjddphfaa
