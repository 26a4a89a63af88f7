/- The law FnFarmOnce, walked. -/
import Derived.Test.YtcbbebhjddphfaaD9
import Derived.Test.YtcbbebhjddphfaaL0
namespace Go.Proofs.Ytcbbebhjddphfaa
open Go.RowKit
set_option linter.unusedSimpArgs false
set_option linter.unusedVariables false

theorem OwnL.put' {w W : World} {L : List (Nat × Obj)} (h : OwnL w L W) (k : Nat) (o : Obj) (hk : k = W.heap.size) : OwnL w ((k, o) :: L) (W.alloc o) := by
  subst hk
  exact h.put o
theorem ord_once (f : Fm) (d : Int) (e : Int) (b : Bool) (hb : 0 ≤ f.nx ∧ f.nx ≤ 255) (y : Fm) (h : f.ord d b = (y, 0)) (hd : d = (e - f.nx) % 256) : y.ord ((e - y.nx) % 256) b = (y, 1) := by
  unfold Fm.ord at h
  split at h <;> try (simp at h; done)
  rename_i h1
  split at h <;> try (simp at h; done)
  rename_i h2
  split at h <;> try (simp at h; done)
  rename_i h3
  split at h <;> try (simp at h; done)
  rename_i h4
  split at h <;> try (simp at h; done)
  rename_i h5
  split at h <;> try (simp at h; done)
  simp only [Prod.mk.injEq, and_true] at h
  subst h
  unfold Fm.ord
  have e1 : (e - (f.nx + 1) % 256) % 256 = 255 := by omega
  simp only [e1]
  simp [h1]
theorem pure_once (f : Fm) (x : Fr) (b : Bool) (y : Fm) (h : FH f x b = (y, 0)) (hp : x.past = false) : FH y x b = (y, 1) := by
  unfold FH at h
  split at h
  · simp at h
  rename_i h1
  have h1' : f.ok = true := by simpa using h1
  split at h
  · simp at h
  rename_i h2
  split at h
  · rename_i h3
    unfold Fm.gov at h
    split at h
    · simp at h
    · split at h <;> simp at h
  rename_i h3
  rw [hp] at h
  simp only [Bool.false_eq_true, if_false] at h
  have hb := Fm.ok_iff.1 h1'
  have h5 := ord_once f _ x.seq b hb.2.1 y h rfl
  have h6 : y.ok = true := by
    unfold Fm.ord at h
    split at h <;> try (simp at h; done)
    split at h <;> try (simp at h; done)
    split at h <;> try (simp at h; done)
    split at h <;> try (simp at h; done)
    rename_i h9
    split at h <;> try (simp at h; done)
    split at h <;> try (simp at h; done)
    simp only [Prod.mk.injEq, and_true] at h
    subst h
    refine Fm.ok_iff.2 ⟨hb.1, by simp only; omega, .inr (by simpa using h9)⟩
  unfold FH
  have h2' : x.ok = true := by simpa using h2
  simp [h6, h2', h3, hp, h5]
set_option maxHeartbeats 1000000 in
set_option maxRecDepth 100000 in
theorem law_once (w : World) (A : Option Addr) (n c : Nat) (h : Code_ w A n c) : Calls Try.prog 8 #[.slice A n c] w (Ret w (.bool true)) := by
  by_cases hn : 1048576 < n
  · go_enter Try.func8, Try.ntmps8
    go_wp2_with fail
    go_ret
    exact ⟨rfl, (by repeat (first | (with_reducible exact Below.refl _ _) | (with_reducible assumption) | (with_reducible refine Below.drew ?_) | (with_reducible refine below_drewN' ?_ _) | (with_reducible refine Below.setCell ?_ (by first | (simp; done) | (simp; omega) | omega) _) | (with_reducible refine Below.alloc ?_ (by first | (simp; done) | (simp; omega) | omega) _) | (with_reducible refine Below.trans ?_ (Below.mono (by assumption) (by first | (simp; done) | (simp; omega) | omega)))))⟩
  · have hC := Lib.hid h
    clear h
    go_enter Try.func8, Try.ntmps8
    go_wp2_with fail
    refine (DrawFarmHear_d _ A n c hC.out).mono ?_
    rintro e w1 ⟨v1, rfl, ⟨⟨s, wt, ag, ct, nx⟩, ⟨px, gx, cx, vx, sx, dx⟩, b, rfl⟩, hB1⟩
    have hh := Lib.hid (hear_c ⟨s, wt, ag, ct, nx⟩ ⟨px, gx, cx, vx, sx, dx⟩ b)
    have hs := Lib.hid (sHear_c ⟨s, wt, ag, ct, nx⟩ ⟨px, gx, cx, vx, sx, dx⟩ b)
    obtain ⟨⟨s1, wt1, ag1, ct1, nx1⟩, kk, hx⟩ : ∃ (y : Fm) (k : Int), FH ⟨s, wt, ag, ct, nx⟩ ⟨px, gx, cx, vx, sx, dx⟩ b = (y, k) := ⟨_, _, rfl⟩
    have hp : Hid (kk = 0 → px = false → FH ⟨s1, wt1, ag1, ct1, nx1⟩ ⟨px, gx, cx, vx, sx, dx⟩ b = (⟨s1, wt1, ag1, ct1, nx1⟩, 1)) := Lib.hid fun hk hp => pure_once ⟨s, wt, ag, ct, nx⟩ _ b _ (by rw [hx, hk]) hp
    rw [hx] at hh hs
    clear hx
    have hO := ((OwnL.nil w).below hB1).put (.cells #[.bool s, .bool wt, .bool ag, .int .i64 ct, .int .i64 nx] 24) |>.put' (w1.heap.size + 1) (.cells #[.bool px, .bool gx, .int .i64 cx, .int .i64 vx, .int .i64 sx, .string dx] 31) (by simp)
    clear hB1
    have hO := Lib.hid hO
    simp only [Fm.v, Fr.v]
    go_wp2_with fail
    refine (hh.out _).mono ?_
    rintro e w2 ⟨rfl, hB2⟩
    have hO := hO.out.below hB2
    have k0 := fun o => blk_cell hO.g0 o
    have hl0 := (Array.getElem?_eq_some_iff.1 hO.g0).1
    have k1 := fun o => blk_cell hO.g1 o
    have hl1 := (Array.getElem?_eq_some_iff.1 hO.g1).1
    have hO := Lib.hid (hO.put (.cells #[.bool s1, .bool wt1, .bool ag1, .int .i64 ct1, .int .i64 nx1] 24))
    clear hB2
    simp only [Fm.v]
    go_wp2_with fail
    refine (hs.out _).mono ?_
    rintro e w3 ⟨rfl, hB3⟩
    have hO := hO.out.below hB3
    clear k0 k1 hl0 hl1
    have k0 := fun o => blk_cell hO.g0 o
    have hl0 := (Array.getElem?_eq_some_iff.1 hO.g0).1
    have k1 := fun o => blk_cell hO.g1 o
    have hl1 := (Array.getElem?_eq_some_iff.1 hO.g1).1
    have k2 := fun o => blk_cell hO.g2 o
    have hl2 := (Array.getElem?_eq_some_iff.1 hO.g2).1
    have hO := Lib.hid (hO.put (.cells #[.bool s1, .bool wt1, .bool ag1, .int .i64 ct1, .int .i64 nx1] 24))
    clear hB3
    simp only [Fm.v]
    by_cases hk : kk = 0
    · subst hk
      cases px
      · have hp := hp.out rfl rfl
        have hh2 := Lib.hid (hear_c ⟨s1, wt1, ag1, ct1, nx1⟩ ⟨false, gx, cx, vx, sx, dx⟩ b)
        rw [hp] at hh2
        clear hp
        go_wp2_with fail
        refine (hh2.out _).mono ?_
        rintro e w4 ⟨rfl, hB4⟩
        have hO := hO.out.below hB4
        clear k0 k1 k2 hl0 hl1 hl2
        have k0 := fun o => blk_cell hO.g0 o
        have hl0 := (Array.getElem?_eq_some_iff.1 hO.g0).1
        have k1 := fun o => blk_cell hO.g1 o
        have hl1 := (Array.getElem?_eq_some_iff.1 hO.g1).1
        have k2 := fun o => blk_cell hO.g2 o
        have hl2 := (Array.getElem?_eq_some_iff.1 hO.g2).1
        have k3 := fun o => blk_cell hO.g3 o
        have hl3 := (Array.getElem?_eq_some_iff.1 hO.g3).1
        have hO := Lib.hid (hO.put (.cells #[.bool s1, .bool wt1, .bool ag1, .int .i64 ct1, .int .i64 nx1] 24))
        simp only [Fm.v]
        go_wp2_with fail
        go_ret
        exact ⟨rfl, hO.out.1⟩
      · go_wp2_with fail
        go_ret
        exact ⟨rfl, hO.out.1⟩
    · have hk' : (kk == 0) = false := beq_eq_false_iff_ne.2 hk
      go_wp2_with fail
      go_ret
      exact ⟨rfl, hO.out.1⟩

end Go.Proofs.Ytcbbebhjddphfaa
