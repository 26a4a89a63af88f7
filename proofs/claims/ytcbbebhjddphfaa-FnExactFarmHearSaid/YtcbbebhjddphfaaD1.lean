/- What draws: one of a list; the reader is made; how a farm stands. -/
import Derived.Test.YtcbbebhjddphfaaD0
namespace Go.Proofs.Ytcbbebhjddphfaa
open Go.RowKit
set_option linter.unusedSimpArgs false
set_option linter.unusedVariables false

/-- What a draw leaves: a value of which Q holds; at most N picks. -/
def Dr (w0 w : World) (g : Nat) (p N : Int) (Q : Value → Prop) (e : Ending) (w' : World) : Prop := ∃ v q, e = .returned v ∧ Q v ∧ p ≤ q ∧ q ≤ p + N ∧ Rd w0 w' g q ∧ Kp g w w'
/-- One of a list. -/
def On (w0 w : World) (g : Nat) (p : Int) (Q : Value → Prop) (e : Ending) (w' : World) : Prop := ∃ v, e = .returned v ∧ Q v ∧ Rd w0 w' g (p + 1) ∧ Kp g w w'
set_option maxHeartbeats 1000000 in
theorem one_c (w0 w : World) (g : Nat) (p : Int) (A : Nat) (cs : Array Value) (n : Nat) (h : Rd w0 w g p) (h0 : 0 ≤ p) (h1 : p ≤ 1000000000000) (hA : w.heap[A]? = some (.cells cs 3 (0, 0))) (hne : A ≠ g) (hn : cs.size = n) (h2 : 1 ≤ n) (h3 : n ≤ 9000000000000000000)
    (Q : Value → Prop) (hQ : ∀ (j : Nat) (v : Value), cs[j]? = some v → Q v) : Calls Try.prog 47 #[.pointer (some ⟨g, 0, none⟩), .slice (some ⟨A, 0, none⟩) n n] w (On w0 w g p Q) := by
  have hA := Lib.hid hA
  have hn := Lib.hid hn
  have hQ := Lib.hid hQ
  go_enter Try.func47, Try.ntmps47
  go_wp2_with fail
  refine (pick_c w0 _ g p (n : Int) h h0 h1 (by omega) (by omega)).mono ?_
  rintro e w1 ⟨r, rfl, ra, rb, hR, hK⟩
  have hA1 := hK.blk hA.out hne
  obtain ⟨v, hv⟩ : ∃ v, cs[r.toNat]? = some v := ⟨_, Array.getElem?_eq_getElem (by rw [hn.out]; omega)⟩
  have hc : w1.cell? ⟨A, r.toNat, none⟩ = some v := by rw [blk_cell hA1]; exact hv
  have hv := Lib.hid hv
  have hA1 := Lib.hid hA1
  have hr1 : r.toNat < n := by omega
  go_wp2_with fail
  go_ret
  exact ⟨v, rfl, hQ.out _ _ hv.out, hR, hK⟩

theorem open_c (w : World) (A : Option Addr) (n c : Nat) (hA : ∀ j, j < n → ∃ ad x, A = some ad ∧ w.cell? (ad.add j) = some (.int .u8 x) ∧ 0 ≤ x ∧ x ≤ 255) (hc : n ≤ c) (hm : c ≤ 9223372036854775807) : Calls Try.prog 39 #[.slice A n c] w fun e w' => ∃ g, e = .returned (.pointer (some ⟨g, 0, none⟩)) ∧ Rd w w' g 0 ∧ Below w.heap.size w w' := by
  have hA := Lib.hid hA
  by_cases h : 2000 < n
  · go_enter Try.func39, Try.ntmps39
    go_wp2_with fail
    go_ret
    exact ⟨_, rfl, ⟨Nat.le_refl _, (Below.refl _ _).alloc (Nat.le_refl _) _, A, 2000, c, heap_top _ _ rfl, by omega, fun j hj => hA.out j (by omega)⟩, (Below.refl _ _).alloc (Nat.le_refl _) _⟩
  · go_enter Try.func39, Try.ntmps39
    go_wp2_with fail
    go_ret
    exact ⟨_, rfl, ⟨Nat.le_refl _, (Below.refl _ _).alloc (Nat.le_refl _) _, A, n, c, heap_top _ _ rfl, by omega, fun j hj => hA.out j (by omega)⟩, (Below.refl _ _).alloc (Nat.le_refl _) _⟩

def IsFm (v : Value) : Prop := ∃ f : Fm, v = f.v
def IsI (v : Value) : Prop := ∃ r : Int, v = .int .i64 r
set_option maxHeartbeats 2000000 in
set_option maxRecDepth 100000 in
theorem farm_d (w0 w : World) (g : Nat) (p : Int) (h : Rd w0 w g p) (h0 : 0 ≤ p) (h1 : p ≤ 900000000000) : Calls Try.prog 68 #[.pointer (some ⟨g, 0, none⟩)] w (Dr w0 w g p 7 IsFm) := by
  have hg := h.lt
  have hw0 := h.bel.size
  have ob0 : (w.alloc (.cells #[.bool false, .bool false, .bool false, .int .i64 0, .int .i64 0] 24)).heap[w.heap.size]? = some (.cells #[.bool false, .bool false, .bool false, .int .i64 0, .int .i64 0] 24 (0, 0)) := heap_top _ _ rfl
  have ob0 := Lib.hid ob0
  go_enter Try.func68, Try.ntmps68
  go_wp2_with fail
  refine (pick_c w0 _ g (p) (6) (by repeat (first | (with_reducible assumption) | (with_reducible refine Rd.alloc ?_ _) | (with_reducible refine Rd.drew ?_) | (with_reducible refine Rd.drewN ?_ _) | (with_reducible refine Rd.own ?_ (by first | (simp; done) | (simp; omega) | omega) (by first | (simp; done) | (simp; omega) | omega) _))) (by omega) (by omega) (by omega) (by omega)).mono ?_
  rintro e w1 ⟨r1, rfl, ra1, rb1, hR1, hK1⟩
  have hKK1 : Kp g w w1 := Kp.trans (by repeat (first | (with_reducible assumption) | (with_reducible exact Kp.refl _ _) | (with_reducible refine Kp.alloc ?_ _) | (with_reducible refine Kp.drew ?_) | (with_reducible refine Kp.drewN ?_ _) | (with_reducible refine Kp.own ?_ (by first | (simp; done) | (simp; omega) | omega) _))) hK1
  have hs1 := hKK1.size
  have ob1 := Lib.hid (hK1.blk ob0.out (by omega))
  clear hK1
  go_wp2_with fail
  refine (pick_c w0 _ g (p + 1) (3) (by repeat (first | (with_reducible assumption) | (with_reducible refine Rd.alloc ?_ _) | (with_reducible refine Rd.drew ?_) | (with_reducible refine Rd.drewN ?_ _) | (with_reducible refine Rd.own ?_ (by first | (simp; done) | (simp; omega) | omega) (by first | (simp; done) | (simp; omega) | omega) _))) (by omega) (by omega) (by omega) (by omega)).mono ?_
  rintro e w2 ⟨r2, rfl, ra2, rb2, hR2, hK2⟩
  have hKK2 : Kp g w w2 := Kp.trans (by repeat (first | (with_reducible assumption) | (with_reducible exact Kp.refl _ _) | (with_reducible refine Kp.alloc ?_ _) | (with_reducible refine Kp.drew ?_) | (with_reducible refine Kp.drewN ?_ _) | (with_reducible refine Kp.own ?_ (by first | (simp; done) | (simp; omega) | omega) _))) hK2
  have hs2 := hKK2.size
  have ob2 := Lib.hid (hK2.blk ob1.out (by omega))
  clear hK2
  go_wp2_with fail
  refine (pick_c w0 _ g (p + 1 + 1) (4) (by repeat (first | (with_reducible assumption) | (with_reducible refine Rd.alloc ?_ _) | (with_reducible refine Rd.drew ?_) | (with_reducible refine Rd.drewN ?_ _) | (with_reducible refine Rd.own ?_ (by first | (simp; done) | (simp; omega) | omega) (by first | (simp; done) | (simp; omega) | omega) _))) (by omega) (by omega) (by omega) (by omega)).mono ?_
  rintro e w3 ⟨r3, rfl, ra3, rb3, hR3, hK3⟩
  have hKK3 : Kp g w w3 := Kp.trans (by repeat (first | (with_reducible assumption) | (with_reducible exact Kp.refl _ _) | (with_reducible refine Kp.alloc ?_ _) | (with_reducible refine Kp.drew ?_) | (with_reducible refine Kp.drewN ?_ _) | (with_reducible refine Kp.own ?_ (by first | (simp; done) | (simp; omega) | omega) _))) hK3
  have hs3 := hKK3.size
  have ob3 := Lib.hid (hK3.blk ob2.out (by omega))
  clear hK3
  go_wp2_with fail
  refine (pick_c w0 _ g (p + 1 + 1 + 1) (12) (by repeat (first | (with_reducible assumption) | (with_reducible refine Rd.alloc ?_ _) | (with_reducible refine Rd.drew ?_) | (with_reducible refine Rd.drewN ?_ _) | (with_reducible refine Rd.own ?_ (by first | (simp; done) | (simp; omega) | omega) (by first | (simp; done) | (simp; omega) | omega) _))) (by omega) (by omega) (by omega) (by omega)).mono ?_
  rintro e w4 ⟨r4, rfl, ra4, rb4, hR4, hK4⟩
  have hKK4 : Kp g w w4 := Kp.trans (by repeat (first | (with_reducible assumption) | (with_reducible exact Kp.refl _ _) | (with_reducible refine Kp.alloc ?_ _) | (with_reducible refine Kp.drew ?_) | (with_reducible refine Kp.drewN ?_ _) | (with_reducible refine Kp.own ?_ (by first | (simp; done) | (simp; omega) | omega) _))) hK4
  have hs4 := hKK4.size
  have ob4 := Lib.hid (hK4.blk ob3.out (by omega))
  clear hK4
  go_wp2_with fail
  refine (pick_c w0 _ g (p + 1 + 1 + 1 + 1) (256) (by repeat (first | (with_reducible assumption) | (with_reducible refine Rd.alloc ?_ _) | (with_reducible refine Rd.drew ?_) | (with_reducible refine Rd.drewN ?_ _) | (with_reducible refine Rd.own ?_ (by first | (simp; done) | (simp; omega) | omega) (by first | (simp; done) | (simp; omega) | omega) _))) (by omega) (by omega) (by omega) (by omega)).mono ?_
  rintro e w5 ⟨r5, rfl, ra5, rb5, hR5, hK5⟩
  have hKK5 : Kp g w w5 := Kp.trans (by repeat (first | (with_reducible assumption) | (with_reducible exact Kp.refl _ _) | (with_reducible refine Kp.alloc ?_ _) | (with_reducible refine Kp.drew ?_) | (with_reducible refine Kp.drewN ?_ _) | (with_reducible refine Kp.own ?_ (by first | (simp; done) | (simp; omega) | omega) _))) hK5
  have hs5 := hKK5.size
  have ob5 := Lib.hid (hK5.blk ob4.out (by omega))
  clear hK5
  go_wp2_with fail
  refine (pick_c w0 _ g (p + 1 + 1 + 1 + 1 + 1) (4) (by repeat (first | (with_reducible assumption) | (with_reducible refine Rd.alloc ?_ _) | (with_reducible refine Rd.drew ?_) | (with_reducible refine Rd.drewN ?_ _) | (with_reducible refine Rd.own ?_ (by first | (simp; done) | (simp; omega) | omega) (by first | (simp; done) | (simp; omega) | omega) _))) (by omega) (by omega) (by omega) (by omega)).mono ?_
  rintro e w6 ⟨r6, rfl, ra6, rb6, hR6, hK6⟩
  have hKK6 : Kp g w w6 := Kp.trans (by repeat (first | (with_reducible assumption) | (with_reducible exact Kp.refl _ _) | (with_reducible refine Kp.alloc ?_ _) | (with_reducible refine Kp.drew ?_) | (with_reducible refine Kp.drewN ?_ _) | (with_reducible refine Kp.own ?_ (by first | (simp; done) | (simp; omega) | omega) _))) hK6
  have hs6 := hKK6.size
  have ob6 := Lib.hid (hK6.blk (heap_up ob5.out _) (by omega))
  have hl6 := hK6.blk (heap_top w5 (.cells #[.int .i64 r4, .int .i64 r5, .int .i64 255, .int .i64 0] 3) rfl) (by omega)
  clear hK6
  obtain ⟨x, hx⟩ : ∃ x : Int, w6.cell? ⟨w5.heap.size, r6.toNat, none⟩ = some (.int .i64 x) := by
    rw [blk_cell hl6]
    rcases (by omega : r6 = 0 ∨ r6 = 1 ∨ r6 = 2 ∨ r6 = 3) with rfl | rfl | rfl | rfl <;> exact ⟨_, rfl⟩
  clear hl6
  by_cases hz : r2 = 0
  · subst hz
    go_wp2_with fail
    refine (pick_c w0 _ g (p + 1 + 1 + 1 + 1 + 1 + 1) (2) (by repeat (first | (with_reducible assumption) | (with_reducible refine Rd.alloc ?_ _) | (with_reducible refine Rd.drew ?_) | (with_reducible refine Rd.drewN ?_ _) | (with_reducible refine Rd.own ?_ (by first | (simp; done) | (simp; omega) | omega) (by first | (simp; done) | (simp; omega) | omega) _))) (by omega) (by omega) (by omega) (by omega)).mono ?_
    rintro e w7 ⟨r7, rfl, ra7, rb7, hR7, hK7⟩
    have hKK7 : Kp g w w7 := Kp.trans (by repeat (first | (with_reducible assumption) | (with_reducible exact Kp.refl _ _) | (with_reducible refine Kp.alloc ?_ _) | (with_reducible refine Kp.drew ?_) | (with_reducible refine Kp.drewN ?_ _) | (with_reducible refine Kp.own ?_ (by first | (simp; done) | (simp; omega) | omega) _))) hK7
    have hs7 := hKK7.size
    have ob7 := hK7.blk (heap_up ob6.out _) (by omega)
    have oc7 := hK7.blk (heap_top w6 (.cells #[.bool (r1 == 0), .bool false, .bool true, .int .i64 r3, .int .i64 x] 24) rfl) (by omega)
    have hlt7 : w6.heap.size < w7.heap.size := (Array.getElem?_eq_some_iff.1 oc7).1
    have hlt8 : w.heap.size < w7.heap.size := by omega
    have hne8 : ¬ w6.heap.size = w.heap.size := by have := (Array.getElem?_eq_some_iff.1 ob6.out).1; omega
    clear hK7
    have kb := fun o => blk_cell ob7 o
    have kf := fun o => blk_frozen ob7 o
    clear ob7
    have kc := fun o => blk_cell oc7 o
    have kg := fun o => blk_frozen oc7 o
    clear oc7
    go_wp2_with fail
    exact bodyPost_ret (v := .agg #[.bool _, .bool _, .bool _, .int .i64 _, .int .i64 _]) (by simp [results, Try.results68, go_sem, kb, hlt7, hlt8]; exact ⟨rfl, rfl, rfl, rfl, rfl⟩) rfl ⟨_, p + 1 + 1 + 1 + 1 + 1 + 1 + 1, rfl, ⟨⟨_, _, _, _, _⟩, rfl⟩, by omega, by omega, (by repeat (first | (with_reducible assumption) | (with_reducible refine Rd.alloc ?_ _) | (with_reducible refine Rd.drew ?_) | (with_reducible refine Rd.drewN ?_ _) | (with_reducible refine Rd.own ?_ (by first | (simp; done) | (simp; omega) | omega) (by first | (simp; done) | (simp; omega) | omega) _))), (by repeat (first | (with_reducible assumption) | (with_reducible exact Kp.refl _ _) | (with_reducible refine Kp.alloc ?_ _) | (with_reducible refine Kp.drew ?_) | (with_reducible refine Kp.drewN ?_ _) | (with_reducible refine Kp.own ?_ (by first | (simp; done) | (simp; omega) | omega) _)))⟩
  · have hz1 : (r2 == 0) = false := beq_eq_false_iff_ne.2 hz
    have ob7 := heap_up ob6.out (.cells #[.bool (r1 == 0), .bool false, .bool false, .int .i64 r3, .int .i64 x] 24)
    have kb := fun o => blk_cell ob7 o
    have kf := fun o => blk_frozen ob7 o
    clear ob7
    go_wp2_with fail
    exact bodyPost_ret (v := .agg #[.bool _, .bool _, .bool _, .int .i64 _, .int .i64 _]) (by simp [results, Try.results68, go_sem, kb]; exact ⟨rfl, rfl, rfl, rfl, rfl⟩) rfl ⟨_, p + 1 + 1 + 1 + 1 + 1 + 1, rfl, ⟨⟨_, _, _, _, _⟩, rfl⟩, by omega, by omega, (by repeat (first | (with_reducible assumption) | (with_reducible refine Rd.alloc ?_ _) | (with_reducible refine Rd.drew ?_) | (with_reducible refine Rd.drewN ?_ _) | (with_reducible refine Rd.own ?_ (by first | (simp; done) | (simp; omega) | omega) (by first | (simp; done) | (simp; omega) | omega) _))), (by repeat (first | (with_reducible assumption) | (with_reducible exact Kp.refl _ _) | (with_reducible refine Kp.alloc ?_ _) | (with_reducible refine Kp.drew ?_) | (with_reducible refine Kp.drewN ?_ _) | (with_reducible refine Kp.own ?_ (by first | (simp; done) | (simp; omega) | omega) _)))⟩

end Go.Proofs.Ytcbbebhjddphfaa
