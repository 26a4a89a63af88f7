/- The law FnFarmOrder, walked. -/
import Derived.Test.YtcbbebhjddphfaaL3
namespace Go.Proofs.Ytcbbebhjddphfaa
open Go.RowKit
set_option linter.unusedSimpArgs false
set_option linter.unusedVariables false

theorem fh_ord (f : Fm) (x : Fr) (b : Bool) (hf : f.ok = true) (hx : x.ok = true) (hp : x.past = false) : FH f x b = f.ord ((x.seq - f.nx) % 256) b := by
  have hg : x.gov = false := by
    cases h : x.gov
    · rfl
    · simp [Fr.ok, hp, h] at hx
  simp [FH, hf, hx, hp, hg]
/-- What a frame in order does, in five facts. -/
theorem ord_facts (f : Fm) (q : Int) (b : Bool) (hf : f.ok = true) (h0 : 0 ≤ q) (h1 : q ≤ 255) (y : Fm) (k : Int) (h : f.ord ((q - f.nx) % 256) b = (y, k)) :
    ((k == 0) = ((q == f.nx) && (!f.sh && (!f.wt && b)))) ∧ y.ct = f.ct ∧ (if k == 0 then y.nx = (f.nx + 1) % 256 else y.nx = f.nx) ∧ y.ok = true ∧ (f.sh = true → y = f) := by
  have hb := Fm.ok_iff.1 hf
  obtain ⟨s, wt, ag, ct, nx⟩ := f
  simp only at h hb ⊢
  have e1 : (q == nx) = decide ((q - nx) % 256 = 0) := by
    by_cases e : q = nx
    · subst e; simp
    · rw [beq_eq_false_iff_ne.2 e]
      symm
      simp only [decide_eq_false_iff_not]
      omega
  rw [e1]
  obtain ⟨d, hd⟩ : ∃ d, (q - nx) % 256 = d := ⟨_, rfl⟩
  have hd0 : 0 ≤ d ∧ d ≤ 255 := by omega
  rw [hd] at h ⊢
  clear hd e1
  unfold Fm.ord at h
  simp only at h
  split at h
  · rename_i h1
    simp only [Prod.mk.injEq] at h
    obtain ⟨rfl, rfl⟩ := h
    subst h1
    simp [hf]
  · rename_i h1
    have h1' : s = false := by simpa using h1
    subst h1'
    split at h
    · rename_i h2
      simp only [Prod.mk.injEq] at h
      obtain ⟨rfl, rfl⟩ := h
      have : ¬ d = 0 := by omega
      simp [this, Fm.ok_iff, hb]
    · split at h
      · rename_i h2 h3
        simp only [Prod.mk.injEq] at h
        obtain ⟨rfl, rfl⟩ := h
        have : ¬ d = 0 := by omega
        simp [this, hf]
      · split at h
        · rename_i h4
          simp only [Prod.mk.injEq] at h
          obtain ⟨rfl, rfl⟩ := h
          subst h4
          simp [hf]
        · rename_i h4
          have h4' : wt = false := by simpa using h4
          subst h4'
          split at h
          · simp only [Prod.mk.injEq] at h
            obtain ⟨rfl, rfl⟩ := h
            have : ¬ d = 0 := by omega
            simp [this, Fm.ok_iff, hb]
          · have : d = 0 := by omega
            cases b
            · simp at h
              obtain ⟨rfl, rfl⟩ := h
              simp [Fm.ok_iff, hb]
            · simp at h
              obtain ⟨rfl, rfl⟩ := h
              simp [Fm.ok_iff, hb, this]
              omega
set_option maxHeartbeats 1000000 in
set_option maxRecDepth 100000 in
theorem law_order (w : World) (A : Option Addr) (n c : Nat) (h : Code_ w A n c) : Calls Try.prog 9 #[.slice A n c] w (Ret w (.bool true)) := by
  by_cases hn : 1048576 < n
  · go_enter Try.func9, Try.ntmps9
    go_wp2_with fail
    go_ret
    exact ⟨rfl, (by repeat (first | (with_reducible exact Below.refl _ _) | (with_reducible assumption) | (with_reducible refine Below.drew ?_) | (with_reducible refine below_drewN' ?_ _) | (with_reducible refine Below.setCell ?_ (by first | (simp; done) | (simp; omega) | omega) _) | (with_reducible refine Below.alloc ?_ (by first | (simp; done) | (simp; omega) | omega) _) | (with_reducible refine Below.trans ?_ (Below.mono (by assumption) (by first | (simp; done) | (simp; omega) | omega)))))⟩
  · have hC := Lib.hid h
    clear h
    go_enter Try.func9, Try.ntmps9
    go_wp2_with fail
    refine (DrawFarmHear_d _ A n c hC.out).mono ?_
    rintro e w1 ⟨v1, rfl, ⟨⟨s, wt, ag, ct, nx⟩, ⟨px, gx, cx, vx, sx, dx⟩, b, rfl⟩, hB1⟩
    have hh := Lib.hid (hear_c ⟨s, wt, ag, ct, nx⟩ ⟨px, gx, cx, vx, sx, dx⟩ b)
    have hs := Lib.hid (sHear_c ⟨s, wt, ag, ct, nx⟩ ⟨px, gx, cx, vx, sx, dx⟩ b)
    have hfo := Lib.hid (sFarmOk_c ⟨s, wt, ag, ct, nx⟩)
    have hxo := Lib.hid (sFrameOk_c ⟨px, gx, cx, vx, sx, dx⟩)
    have hp := fh_ord ⟨s, wt, ag, ct, nx⟩ ⟨px, gx, cx, vx, sx, dx⟩ b
    have hO := ((OwnL.nil w).below hB1).put (.cells #[.bool s, .bool wt, .bool ag, .int .i64 ct, .int .i64 nx] 24) |>.put' (w1.heap.size + 1) (.cells #[.bool px, .bool gx, .int .i64 cx, .int .i64 vx, .int .i64 sx, .string dx] 31) (by simp)
    clear hB1
    have hO := Lib.hid hO
    simp only [Fm.v, Fr.v]
    obtain ⟨⟨s1, wt1, ag1, ct1, nx1⟩, kk, hx⟩ : ∃ (y : Fm) (k : Int), FH ⟨s, wt, ag, ct, nx⟩ ⟨px, gx, cx, vx, sx, dx⟩ b = (y, k) := ⟨_, _, rfl⟩
    rw [hx] at hh hs hp
    clear hx
    have hp := Lib.hid hp
    go_wp2_with fail
    refine (hh.out _).mono ?_
    rintro e w2 ⟨rfl, hB2⟩
    have hO := hO.out.below hB2
    have k0 := fun o => blk_cell hO.g0 o
    have hl0 := (Array.getElem?_eq_some_iff.1 hO.g0).1
    have k1 := fun o => blk_cell hO.g1 o
    have hl1 := (Array.getElem?_eq_some_iff.1 hO.g1).1
    have hO := Lib.hid (hO.put (.cells #[.bool s1, .bool wt1, .bool ag1, .int .i64 ct1, .int .i64 nx1] 24))
    clear hB2
    simp only [Fm.v]
    go_wp2_with fail
    refine (hs.out _).mono ?_
    rintro e w3 ⟨rfl, hB3⟩
    have hO := hO.out.below hB3
    clear k0 k1 hl0 hl1
    have k0 := fun o => blk_cell hO.g0 o
    have hl0 := (Array.getElem?_eq_some_iff.1 hO.g0).1
    have k1 := fun o => blk_cell hO.g1 o
    have hl1 := (Array.getElem?_eq_some_iff.1 hO.g1).1
    have k2 := fun o => blk_cell hO.g2 o
    have hl2 := (Array.getElem?_eq_some_iff.1 hO.g2).1
    have hO := Lib.hid (hO.put (.cells #[.bool s1, .bool wt1, .bool ag1, .int .i64 ct1, .int .i64 nx1] 24))
    clear hB3
    simp only [Fm.v]
    cases hk1 : Fm.ok ⟨s, wt, ag, ct, nx⟩
    · rw [hk1] at hfo
      clear hp hk1
      go_wp2_with fail
      refine (hfo.out _).mono ?_
      rintro e w4 ⟨rfl, hB⟩
      have hO := hO.out.below hB
      clear k0 k1 k2 hl0 hl1 hl2 hB
      have k0 := fun o => blk_cell hO.g0 o
      have hl0 := (Array.getElem?_eq_some_iff.1 hO.g0).1
      have k1 := fun o => blk_cell hO.g1 o
      have hl1 := (Array.getElem?_eq_some_iff.1 hO.g1).1
      have k2 := fun o => blk_cell hO.g2 o
      have hl2 := (Array.getElem?_eq_some_iff.1 hO.g2).1
      have k3 := fun o => blk_cell hO.g3 o
      have hl3 := (Array.getElem?_eq_some_iff.1 hO.g3).1
      have hO := Lib.hid hO
      go_wp2_with fail
      go_ret
      first
        | exact ⟨rfl, hO.out.1⟩
        | exact ⟨rfl, (hO.out.alloc _).1⟩
    · rw [hk1] at hfo
      cases hk2 : Fr.ok ⟨px, gx, cx, vx, sx, dx⟩
      · rw [hk2] at hxo
        clear hp hk1 hk2
        go_wp2_with fail
        refine (hfo.out _).mono ?_
        rintro e w4 ⟨rfl, hB⟩
        have hO := hO.out.below hB
        clear k0 k1 k2 hl0 hl1 hl2 hB
        have k0 := fun o => blk_cell hO.g0 o
        have hl0 := (Array.getElem?_eq_some_iff.1 hO.g0).1
        have k1 := fun o => blk_cell hO.g1 o
        have hl1 := (Array.getElem?_eq_some_iff.1 hO.g1).1
        have k2 := fun o => blk_cell hO.g2 o
        have hl2 := (Array.getElem?_eq_some_iff.1 hO.g2).1
        have k3 := fun o => blk_cell hO.g3 o
        have hl3 := (Array.getElem?_eq_some_iff.1 hO.g3).1
        have hO := Lib.hid hO
        go_wp2_with fail
        refine (hxo.out _).mono ?_
        rintro e w5 ⟨rfl, hB⟩
        have hO := hO.out.below hB
        clear k0 k1 k2 k3 hl0 hl1 hl2 hl3 hB
        have k0 := fun o => blk_cell hO.g0 o
        have hl0 := (Array.getElem?_eq_some_iff.1 hO.g0).1
        have k1 := fun o => blk_cell hO.g1 o
        have hl1 := (Array.getElem?_eq_some_iff.1 hO.g1).1
        have k2 := fun o => blk_cell hO.g2 o
        have hl2 := (Array.getElem?_eq_some_iff.1 hO.g2).1
        have k3 := fun o => blk_cell hO.g3 o
        have hl3 := (Array.getElem?_eq_some_iff.1 hO.g3).1
        have hO := Lib.hid hO
        go_wp2_with fail
        go_ret
        first
          | exact ⟨rfl, hO.out.1⟩
          | exact ⟨rfl, (hO.out.alloc _).1⟩
      · rw [hk2] at hxo
        cases px
        · have hp := (hp.out hk1 hk2 rfl).symm
          have hb := Fm.ok_iff.1 hk1
          obtain ⟨_, ⟨hc0, hc1⟩, _⟩ := hb
          simp only at hc0 hc1
          have hq : 0 ≤ sx ∧ sx ≤ 255 := by simp [Fr.ok, inR_iff] at hk2; omega
          obtain ⟨f1, f2, f3, f4, f5⟩ := ord_facts ⟨s, wt, ag, ct, nx⟩ sx b hk1 hq.1 hq.2 _ _ hp
          simp only at f1 f2 f3 f5
          subst f2
          have hyo := farmOk_c ⟨s1, wt1, ag1, ct1, nx1⟩
          rw [f4] at hyo
          have hyo := Lib.hid hyo
          simp only [Fm.v] at hyo
          clear hp hk1 hk2 f4
          have f5 := Lib.hid f5
          have f3 := Lib.hid f3
          go_wp2_with fail
          refine (hfo.out _).mono ?_
          rintro e w4 ⟨rfl, hB⟩
          have hO := hO.out.below hB
          clear k0 k1 k2 hl0 hl1 hl2 hB
          have k0 := fun o => blk_cell hO.g0 o
          have hl0 := (Array.getElem?_eq_some_iff.1 hO.g0).1
          have k1 := fun o => blk_cell hO.g1 o
          have hl1 := (Array.getElem?_eq_some_iff.1 hO.g1).1
          have k2 := fun o => blk_cell hO.g2 o
          have hl2 := (Array.getElem?_eq_some_iff.1 hO.g2).1
          have k3 := fun o => blk_cell hO.g3 o
          have hl3 := (Array.getElem?_eq_some_iff.1 hO.g3).1
          have hO := Lib.hid hO
          go_wp2_with fail
          refine (hxo.out _).mono ?_
          rintro e w5 ⟨rfl, hB⟩
          have hO := hO.out.below hB
          clear k0 k1 k2 k3 hl0 hl1 hl2 hl3 hB
          have k0 := fun o => blk_cell hO.g0 o
          have hl0 := (Array.getElem?_eq_some_iff.1 hO.g0).1
          have k1 := fun o => blk_cell hO.g1 o
          have hl1 := (Array.getElem?_eq_some_iff.1 hO.g1).1
          have k2 := fun o => blk_cell hO.g2 o
          have hl2 := (Array.getElem?_eq_some_iff.1 hO.g2).1
          have k3 := fun o => blk_cell hO.g3 o
          have hl3 := (Array.getElem?_eq_some_iff.1 hO.g3).1
          have hO := Lib.hid hO
          by_cases e : sx = nx
          · subst e
            cases s
            · cases wt
              · cases b
                · simp only [beq_self_eq_true, Bool.not_false, Bool.true_and, Bool.and_false] at f1
                  have f3 := f3.out
                  rw [f1] at f3
                  simp only [Bool.false_eq_true, if_false] at f3
                  subst f3
                  go_wp2_with fail
                  refine (hyo.out _).mono ?_
                  rintro e w6 ⟨rfl, hB⟩
                  have hO := hO.out.below hB
                  clear k0 k1 k2 k3 hl0 hl1 hl2 hl3 hB
                  have k0 := fun o => blk_cell hO.g0 o
                  have hl0 := (Array.getElem?_eq_some_iff.1 hO.g0).1
                  have k1 := fun o => blk_cell hO.g1 o
                  have hl1 := (Array.getElem?_eq_some_iff.1 hO.g1).1
                  have k2 := fun o => blk_cell hO.g2 o
                  have hl2 := (Array.getElem?_eq_some_iff.1 hO.g2).1
                  have k3 := fun o => blk_cell hO.g3 o
                  have hl3 := (Array.getElem?_eq_some_iff.1 hO.g3).1
                  have hO := Lib.hid hO
                  go_wp2_with fail
                  go_ret
                  first
                    | exact ⟨rfl, hO.out.1⟩
                    | exact ⟨rfl, (hO.out.alloc _).1⟩
                · simp only [beq_self_eq_true, Bool.not_false, Bool.true_and, Bool.and_true] at f1
                  have f3 := f3.out
                  rw [f1] at f3
                  simp only [if_true] at f3
                  subst f3
                  go_wp2_with fail
                  refine (hyo.out _).mono ?_
                  rintro e w6 ⟨rfl, hB⟩
                  have hO := hO.out.below hB
                  clear k0 k1 k2 k3 hl0 hl1 hl2 hl3 hB
                  have k0 := fun o => blk_cell hO.g0 o
                  have hl0 := (Array.getElem?_eq_some_iff.1 hO.g0).1
                  have k1 := fun o => blk_cell hO.g1 o
                  have hl1 := (Array.getElem?_eq_some_iff.1 hO.g1).1
                  have k2 := fun o => blk_cell hO.g2 o
                  have hl2 := (Array.getElem?_eq_some_iff.1 hO.g2).1
                  have k3 := fun o => blk_cell hO.g3 o
                  have hl3 := (Array.getElem?_eq_some_iff.1 hO.g3).1
                  have hO := Lib.hid hO
                  go_wp2_with fail
                  go_ret
                  first
                    | exact ⟨rfl, hO.out.1⟩
                    | exact ⟨rfl, (hO.out.alloc _).1⟩
              · simp only [beq_self_eq_true, Bool.not_false, Bool.not_true, Bool.true_and, Bool.false_and, Bool.and_false] at f1
                have f3 := f3.out
                rw [f1] at f3
                simp only [Bool.false_eq_true, if_false] at f3
                subst f3
                go_wp2_with fail
                refine (hyo.out _).mono ?_
                rintro e w6 ⟨rfl, hB⟩
                have hO := hO.out.below hB
                clear k0 k1 k2 k3 hl0 hl1 hl2 hl3 hB
                have k0 := fun o => blk_cell hO.g0 o
                have hl0 := (Array.getElem?_eq_some_iff.1 hO.g0).1
                have k1 := fun o => blk_cell hO.g1 o
                have hl1 := (Array.getElem?_eq_some_iff.1 hO.g1).1
                have k2 := fun o => blk_cell hO.g2 o
                have hl2 := (Array.getElem?_eq_some_iff.1 hO.g2).1
                have k3 := fun o => blk_cell hO.g3 o
                have hl3 := (Array.getElem?_eq_some_iff.1 hO.g3).1
                have hO := Lib.hid hO
                go_wp2_with fail
                go_ret
                first
                  | exact ⟨rfl, hO.out.1⟩
                  | exact ⟨rfl, (hO.out.alloc _).1⟩
            · simp only [beq_self_eq_true, Bool.not_true, Bool.true_and, Bool.false_and, Bool.and_false] at f1
              have f3 := f3.out
              rw [f1] at f3
              simp only [Bool.false_eq_true, if_false] at f3
              subst f3
              have f5 := f5.out rfl
              simp only [Fm.mk.injEq] at f5
              obtain ⟨rfl, rfl, rfl, _, _⟩ := f5
              go_wp2_with fail
              refine (hyo.out _).mono ?_
              rintro e w6 ⟨rfl, hB⟩
              have hO := hO.out.below hB
              clear k0 k1 k2 k3 hl0 hl1 hl2 hl3 hB
              have k0 := fun o => blk_cell hO.g0 o
              have hl0 := (Array.getElem?_eq_some_iff.1 hO.g0).1
              have k1 := fun o => blk_cell hO.g1 o
              have hl1 := (Array.getElem?_eq_some_iff.1 hO.g1).1
              have k2 := fun o => blk_cell hO.g2 o
              have hl2 := (Array.getElem?_eq_some_iff.1 hO.g2).1
              have k3 := fun o => blk_cell hO.g3 o
              have hl3 := (Array.getElem?_eq_some_iff.1 hO.g3).1
              have hO := Lib.hid hO
              go_wp2_with fail
              go_ret
              first
                | exact ⟨rfl, hO.out.1⟩
                | exact ⟨rfl, (hO.out.alloc _).1⟩
          · have e' : (sx == nx) = false := beq_eq_false_iff_ne.2 e
            rw [e'] at f1
            simp only [Bool.false_and] at f1
            have f3 := f3.out
            rw [f1] at f3
            simp only [Bool.false_eq_true, if_false] at f3
            subst f3
            cases s
            · go_wp2_with fail
              refine (hyo.out _).mono ?_
              rintro e w6 ⟨rfl, hB⟩
              have hO := hO.out.below hB
              clear k0 k1 k2 k3 hl0 hl1 hl2 hl3 hB
              have k0 := fun o => blk_cell hO.g0 o
              have hl0 := (Array.getElem?_eq_some_iff.1 hO.g0).1
              have k1 := fun o => blk_cell hO.g1 o
              have hl1 := (Array.getElem?_eq_some_iff.1 hO.g1).1
              have k2 := fun o => blk_cell hO.g2 o
              have hl2 := (Array.getElem?_eq_some_iff.1 hO.g2).1
              have k3 := fun o => blk_cell hO.g3 o
              have hl3 := (Array.getElem?_eq_some_iff.1 hO.g3).1
              have hO := Lib.hid hO
              go_wp2_with fail
              go_ret
              first
                | exact ⟨rfl, hO.out.1⟩
                | exact ⟨rfl, (hO.out.alloc _).1⟩
            · have f5 := f5.out rfl
              simp only [Fm.mk.injEq] at f5
              obtain ⟨rfl, rfl, rfl, _, _⟩ := f5
              go_wp2_with fail
              refine (hyo.out _).mono ?_
              rintro e w6 ⟨rfl, hB⟩
              have hO := hO.out.below hB
              clear k0 k1 k2 k3 hl0 hl1 hl2 hl3 hB
              have k0 := fun o => blk_cell hO.g0 o
              have hl0 := (Array.getElem?_eq_some_iff.1 hO.g0).1
              have k1 := fun o => blk_cell hO.g1 o
              have hl1 := (Array.getElem?_eq_some_iff.1 hO.g1).1
              have k2 := fun o => blk_cell hO.g2 o
              have hl2 := (Array.getElem?_eq_some_iff.1 hO.g2).1
              have k3 := fun o => blk_cell hO.g3 o
              have hl3 := (Array.getElem?_eq_some_iff.1 hO.g3).1
              have hO := Lib.hid hO
              go_wp2_with fail
              go_ret
              first
                | exact ⟨rfl, hO.out.1⟩
                | exact ⟨rfl, (hO.out.alloc _).1⟩
        · clear hp hk1 hk2
          go_wp2_with fail
          refine (hfo.out _).mono ?_
          rintro e w4 ⟨rfl, hB⟩
          have hO := hO.out.below hB
          clear k0 k1 k2 hl0 hl1 hl2 hB
          have k0 := fun o => blk_cell hO.g0 o
          have hl0 := (Array.getElem?_eq_some_iff.1 hO.g0).1
          have k1 := fun o => blk_cell hO.g1 o
          have hl1 := (Array.getElem?_eq_some_iff.1 hO.g1).1
          have k2 := fun o => blk_cell hO.g2 o
          have hl2 := (Array.getElem?_eq_some_iff.1 hO.g2).1
          have k3 := fun o => blk_cell hO.g3 o
          have hl3 := (Array.getElem?_eq_some_iff.1 hO.g3).1
          have hO := Lib.hid hO
          go_wp2_with fail
          refine (hxo.out _).mono ?_
          rintro e w5 ⟨rfl, hB⟩
          have hO := hO.out.below hB
          clear k0 k1 k2 k3 hl0 hl1 hl2 hl3 hB
          have k0 := fun o => blk_cell hO.g0 o
          have hl0 := (Array.getElem?_eq_some_iff.1 hO.g0).1
          have k1 := fun o => blk_cell hO.g1 o
          have hl1 := (Array.getElem?_eq_some_iff.1 hO.g1).1
          have k2 := fun o => blk_cell hO.g2 o
          have hl2 := (Array.getElem?_eq_some_iff.1 hO.g2).1
          have k3 := fun o => blk_cell hO.g3 o
          have hl3 := (Array.getElem?_eq_some_iff.1 hO.g3).1
          have hO := Lib.hid hO
          go_wp2_with fail
          go_ret
          first
            | exact ⟨rfl, hO.out.1⟩
            | exact ⟨rfl, (hO.out.alloc _).1⟩

end Go.Proofs.Ytcbbebhjddphfaa
