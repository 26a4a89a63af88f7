/- What draws: any frame; how it stands, a frame and whether there is room. -/
import Derived.Test.YtcbbebhjddphfaaD7
namespace Go.Proofs.Ytcbbebhjddphfaa
open Go.RowKit
set_option linter.unusedSimpArgs false
set_option linter.unusedVariables false

theorem l4Mod_any (n : Int) (w : World) : Calls Try.prog 53 #[.int .i64 n] w fun e w' => ∃ r : Int, e = .returned (.int .i64 r) ∧ w = w' := by
  go_enter Try.func53, Try.ntmps53
  go_wp2_with fail
  go_ret
  exact ⟨_, rfl, rfl⟩
theorem isStr_two (a b : ByteArray) (ha : a.size ≤ 100000) (hb : b.size ≤ 100000) (j : Nat) (v : Value) (hj : (#[.string a, .string b] : Array Value)[j]? = some v) : IsStr v :=
  arr_all (Q := IsStr) (fun v hv => by
    simp at hv
    rcases hv with rfl | rfl
    · exact ⟨_, rfl, ha⟩
    · exact ⟨_, rfl, hb⟩) j v hj
set_option maxHeartbeats 4000000 in
set_option maxRecDepth 100000 in
theorem anyFrame_d (w0 w : World) (g : Nat) (p : Int) (h : Rd w0 w g p) (h0 : 0 ≤ p) (h1 : p ≤ 500000000000) : Calls Try.prog 51 #[.pointer (some ⟨g, 0, none⟩)] w (Dr w0 w g p 10002 IsFr) := by
  have hg := h.lt
  have hw0 := h.bel.size
  have ob0 : (w.alloc (.cells #[.bool false, .bool false, .int .i64 0, .int .i64 0, .int .i64 0, .string ⟨#[]⟩] 31)).heap[w.heap.size]? = some (.cells #[.bool false, .bool false, .int .i64 0, .int .i64 0, .int .i64 0, .string ⟨#[]⟩] 31 (0, 0)) := heap_top _ _ rfl
  have ob0 := Lib.hid ob0
  go_enter Try.func51, Try.ntmps51
  go_wp2_with fail
  refine (frame_d w0 _ g p (by repeat (first | (with_reducible assumption) | (with_reducible refine Rd.alloc ?_ _) | (with_reducible refine Rd.drew ?_) | (with_reducible refine Rd.drewN ?_ _) | (with_reducible refine Rd.own ?_ (by first | (simp; done) | (simp; omega) | omega) (by first | (simp; done) | (simp; omega) | omega) _))) (by omega) (by omega)).mono ?_
  rintro e w1 ⟨v1, q1, rfl, ⟨⟨px, gx, cx, vx, sx, dx⟩, rfl⟩, hq1, hq1', hR1, hK1⟩
  have hKK1 : Kp g w w1 := Kp.trans (by repeat (first | (with_reducible assumption) | (with_reducible exact Kp.refl _ _) | (with_reducible refine Kp.alloc ?_ _) | (with_reducible refine Kp.drew ?_) | (with_reducible refine Kp.drewN ?_ _) | (with_reducible refine Kp.own ?_ (by first | (simp; done) | (simp; omega) | omega) _))) hK1
  have hs1 := hKK1.size
  have ob1 := Lib.hid (hK1.blk ob0.out (by omega))
  clear hK1 h
  simp only [Fr.v]
  go_wp2_with fail
  refine (pick_c w0 _ g (q1) (20) (by repeat (first | (with_reducible assumption) | (with_reducible refine Rd.alloc ?_ _) | (with_reducible refine Rd.drew ?_) | (with_reducible refine Rd.drewN ?_ _) | (with_reducible refine Rd.own ?_ (by first | (simp; done) | (simp; omega) | omega) (by first | (simp; done) | (simp; omega) | omega) _))) (by omega) (by omega) (by omega) (by omega)).mono ?_
  rintro e w2 ⟨r2, rfl, ra2, rb2, hR2, hK2⟩
  have hKK2 : Kp g w w2 := Kp.trans (by repeat (first | (with_reducible assumption) | (with_reducible exact Kp.refl _ _) | (with_reducible refine Kp.alloc ?_ _) | (with_reducible refine Kp.drew ?_) | (with_reducible refine Kp.drewN ?_ _) | (with_reducible refine Kp.own ?_ (by first | (simp; done) | (simp; omega) | omega) _))) hK2
  have hs2 := hKK2.size
  have ob2 := hK2.blk (heap_up ob1.out _) (by omega)
  have oc2 := hK2.blk (heap_top w1 (.cells #[.bool px, .bool gx, .int .i64 cx, .int .i64 vx, .int .i64 sx, .string dx] 31) rfl) (by omega)
  have hlt2 : w1.heap.size < w2.heap.size := (Array.getElem?_eq_some_iff.1 oc2).1
  have hlt3 : w.heap.size < w1.heap.size := (Array.getElem?_eq_some_iff.1 ob1.out).1
  have hne3 : ¬ w1.heap.size = w.heap.size := by omega
  clear hK2
  have ob2 := Lib.hid ob2
  have oc2 := Lib.hid oc2
  by_cases c0 : r2 = 0
  · subst c0
    go_wp2_with fail
    refine (one_c w0 _ g (q1 + 1) _ _ 2 (by repeat (first | (with_reducible assumption) | (with_reducible refine Rd.alloc ?_ _) | (with_reducible refine Rd.drew ?_) | (with_reducible refine Rd.drewN ?_ _) | (with_reducible refine Rd.own ?_ (by first | (simp; done) | (simp; omega) | omega) (by first | (simp; done) | (simp; omega) | omega) _))) (by omega) (by omega) (heap_top w2 _ rfl) (by omega) (by rfl) (by omega) (by omega) IsI (isI_two _ _)).mono ?_
    rintro e w3 ⟨v3, rfl, hv3, hR3, hK3⟩
    have hKK3 : Kp g w w3 := Kp.trans (by repeat (first | (with_reducible assumption) | (with_reducible exact Kp.refl _ _) | (with_reducible refine Kp.alloc ?_ _) | (with_reducible refine Kp.drew ?_) | (with_reducible refine Kp.drewN ?_ _) | (with_reducible refine Kp.own ?_ (by first | (simp; done) | (simp; omega) | omega) _))) hK3
    have hs3 := hKK3.size
    obtain ⟨x, rfl⟩ := hv3
    have ob3 := hK3.blk (heap_up ob2.out _) (by omega)
    have oc3 := hK3.blk (heap_up oc2.out _) (by omega)
    have hlt4 : w1.heap.size < w3.heap.size := (Array.getElem?_eq_some_iff.1 oc3).1
    have hlt5 : w.heap.size < w3.heap.size := by omega
    clear hK3
    have kb := fun o => blk_cell ob3 o
    have kf := fun o => blk_frozen ob3 o
    clear ob3
    have kc := fun o => blk_cell oc3 o
    have kg := fun o => blk_frozen oc3 o
    clear oc3
    go_wp2_with fail
    exact bodyPost_ret (v := .agg #[.bool _, .bool _, .int .i64 _, .int .i64 _, .int .i64 _, .string _]) (by simp [results, Try.results51, go_sem, kb, hlt4, hlt5]; exact ⟨rfl, rfl, rfl, rfl, rfl, rfl⟩) rfl ⟨_, q1 + 1 + 1, rfl, ⟨⟨_, _, _, _, _, _⟩, rfl⟩, by omega, by omega, (by repeat (first | (with_reducible assumption) | (with_reducible refine Rd.alloc ?_ _) | (with_reducible refine Rd.drew ?_) | (with_reducible refine Rd.drewN ?_ _) | (with_reducible refine Rd.own ?_ (by first | (simp; done) | (simp; omega) | omega) (by first | (simp; done) | (simp; omega) | omega) _))), (by repeat (first | (with_reducible assumption) | (with_reducible exact Kp.refl _ _) | (with_reducible refine Kp.alloc ?_ _) | (with_reducible refine Kp.drew ?_) | (with_reducible refine Kp.drewN ?_ _) | (with_reducible refine Kp.own ?_ (by first | (simp; done) | (simp; omega) | omega) _)))⟩
  have d0 : (r2 == 0) = false := beq_eq_false_iff_ne.2 c0
  by_cases c1 : r2 = 1
  · subst c1
    go_wp2_with fail
    refine (one_c w0 _ g (q1 + 1) _ _ 2 (by repeat (first | (with_reducible assumption) | (with_reducible refine Rd.alloc ?_ _) | (with_reducible refine Rd.drew ?_) | (with_reducible refine Rd.drewN ?_ _) | (with_reducible refine Rd.own ?_ (by first | (simp; done) | (simp; omega) | omega) (by first | (simp; done) | (simp; omega) | omega) _))) (by omega) (by omega) (heap_top w2 _ rfl) (by omega) (by rfl) (by omega) (by omega) IsI (isI_two _ _)).mono ?_
    rintro e w3 ⟨v3, rfl, hv3, hR3, hK3⟩
    have hKK3 : Kp g w w3 := Kp.trans (by repeat (first | (with_reducible assumption) | (with_reducible exact Kp.refl _ _) | (with_reducible refine Kp.alloc ?_ _) | (with_reducible refine Kp.drew ?_) | (with_reducible refine Kp.drewN ?_ _) | (with_reducible refine Kp.own ?_ (by first | (simp; done) | (simp; omega) | omega) _))) hK3
    have hs3 := hKK3.size
    obtain ⟨x, rfl⟩ := hv3
    have ob3 := hK3.blk (heap_up ob2.out _) (by omega)
    have oc3 := hK3.blk (heap_up oc2.out _) (by omega)
    have hlt4 : w1.heap.size < w3.heap.size := (Array.getElem?_eq_some_iff.1 oc3).1
    have hlt5 : w.heap.size < w3.heap.size := by omega
    clear hK3
    have kb := fun o => blk_cell ob3 o
    have kf := fun o => blk_frozen ob3 o
    clear ob3
    have kc := fun o => blk_cell oc3 o
    have kg := fun o => blk_frozen oc3 o
    clear oc3
    go_wp2_with fail
    exact bodyPost_ret (v := .agg #[.bool _, .bool _, .int .i64 _, .int .i64 _, .int .i64 _, .string _]) (by simp [results, Try.results51, go_sem, kb, hlt4, hlt5]; exact ⟨rfl, rfl, rfl, rfl, rfl, rfl⟩) rfl ⟨_, q1 + 1 + 1, rfl, ⟨⟨_, _, _, _, _, _⟩, rfl⟩, by omega, by omega, (by repeat (first | (with_reducible assumption) | (with_reducible refine Rd.alloc ?_ _) | (with_reducible refine Rd.drew ?_) | (with_reducible refine Rd.drewN ?_ _) | (with_reducible refine Rd.own ?_ (by first | (simp; done) | (simp; omega) | omega) (by first | (simp; done) | (simp; omega) | omega) _))), (by repeat (first | (with_reducible assumption) | (with_reducible exact Kp.refl _ _) | (with_reducible refine Kp.alloc ?_ _) | (with_reducible refine Kp.drew ?_) | (with_reducible refine Kp.drewN ?_ _) | (with_reducible refine Kp.own ?_ (by first | (simp; done) | (simp; omega) | omega) _)))⟩
  have d1 : (r2 == 1) = false := beq_eq_false_iff_ne.2 c1
  by_cases c2 : r2 = 2
  · subst c2
    go_wp2_with fail
    refine (one_c w0 _ g (q1 + 1) _ _ 2 (by repeat (first | (with_reducible assumption) | (with_reducible refine Rd.alloc ?_ _) | (with_reducible refine Rd.drew ?_) | (with_reducible refine Rd.drewN ?_ _) | (with_reducible refine Rd.own ?_ (by first | (simp; done) | (simp; omega) | omega) (by first | (simp; done) | (simp; omega) | omega) _))) (by omega) (by omega) (heap_top w2 _ rfl) (by omega) (by rfl) (by omega) (by omega) IsI (isI_two _ _)).mono ?_
    rintro e w3 ⟨v3, rfl, hv3, hR3, hK3⟩
    have hKK3 : Kp g w w3 := Kp.trans (by repeat (first | (with_reducible assumption) | (with_reducible exact Kp.refl _ _) | (with_reducible refine Kp.alloc ?_ _) | (with_reducible refine Kp.drew ?_) | (with_reducible refine Kp.drewN ?_ _) | (with_reducible refine Kp.own ?_ (by first | (simp; done) | (simp; omega) | omega) _))) hK3
    have hs3 := hKK3.size
    obtain ⟨x, rfl⟩ := hv3
    have ob3 := hK3.blk (heap_up ob2.out _) (by omega)
    have oc3 := hK3.blk (heap_up oc2.out _) (by omega)
    have hlt4 : w1.heap.size < w3.heap.size := (Array.getElem?_eq_some_iff.1 oc3).1
    have hlt5 : w.heap.size < w3.heap.size := by omega
    clear hK3
    have kb := fun o => blk_cell ob3 o
    have kf := fun o => blk_frozen ob3 o
    clear ob3
    have kc := fun o => blk_cell oc3 o
    have kg := fun o => blk_frozen oc3 o
    clear oc3
    go_wp2_with fail
    exact bodyPost_ret (v := .agg #[.bool _, .bool _, .int .i64 _, .int .i64 _, .int .i64 _, .string _]) (by simp [results, Try.results51, go_sem, kb, hlt4, hlt5]; exact ⟨rfl, rfl, rfl, rfl, rfl, rfl⟩) rfl ⟨_, q1 + 1 + 1, rfl, ⟨⟨_, _, _, _, _, _⟩, rfl⟩, by omega, by omega, (by repeat (first | (with_reducible assumption) | (with_reducible refine Rd.alloc ?_ _) | (with_reducible refine Rd.drew ?_) | (with_reducible refine Rd.drewN ?_ _) | (with_reducible refine Rd.own ?_ (by first | (simp; done) | (simp; omega) | omega) (by first | (simp; done) | (simp; omega) | omega) _))), (by repeat (first | (with_reducible assumption) | (with_reducible exact Kp.refl _ _) | (with_reducible refine Kp.alloc ?_ _) | (with_reducible refine Kp.drew ?_) | (with_reducible refine Kp.drewN ?_ _) | (with_reducible refine Kp.own ?_ (by first | (simp; done) | (simp; omega) | omega) _)))⟩
  have d2 : (r2 == 2) = false := beq_eq_false_iff_ne.2 c2
  by_cases c3 : r2 = 3
  · subst c3
    go_wp2_with fail
    refine (many_c ⟨#[122]⟩ 54 _ (by omega) (by omega) (by decide)).mono ?_
    rintro e w9 ⟨⟨o, rfl, ho⟩, rfl⟩
    have ho1 : o.size ≤ 100000 := by
      have e1 : ((⟨#[122]⟩ : ByteArray).size : Int) = 1 := rfl
      rw [e1] at ho
      omega
    clear ho
    go_wp2_with fail
    refine (of_c w0 _ g (q1 + 1) _ _ 2 (by repeat (first | (with_reducible assumption) | (with_reducible refine Rd.alloc ?_ _) | (with_reducible refine Rd.drew ?_) | (with_reducible refine Rd.drewN ?_ _) | (with_reducible refine Rd.own ?_ (by first | (simp; done) | (simp; omega) | omega) (by first | (simp; done) | (simp; omega) | omega) _))) (by omega) (by omega) (heap_top w2 _ rfl) (by omega) (by rfl) (by omega) (by omega) IsStr (isStr_two _ _ (by decide) ho1)).mono ?_
    rintro e w3 ⟨v3, rfl, ⟨x, rfl, hx⟩, hR3, hK3⟩
    have hKK3 : Kp g w w3 := Kp.trans (by repeat (first | (with_reducible assumption) | (with_reducible exact Kp.refl _ _) | (with_reducible refine Kp.alloc ?_ _) | (with_reducible refine Kp.drew ?_) | (with_reducible refine Kp.drewN ?_ _) | (with_reducible refine Kp.own ?_ (by first | (simp; done) | (simp; omega) | omega) _))) hK3
    have hs3 := hKK3.size
    have ob3 := hK3.blk (heap_up ob2.out _) (by omega)
    have oc3 := hK3.blk (heap_up oc2.out _) (by omega)
    have hlt4 : w1.heap.size < w3.heap.size := (Array.getElem?_eq_some_iff.1 oc3).1
    have hlt5 : w.heap.size < w3.heap.size := by omega
    clear hK3
    have kb := fun o => blk_cell ob3 o
    have kf := fun o => blk_frozen ob3 o
    clear ob3
    have kc := fun o => blk_cell oc3 o
    have kg := fun o => blk_frozen oc3 o
    clear oc3
    go_wp2_with fail
    exact bodyPost_ret (v := .agg #[.bool _, .bool _, .int .i64 _, .int .i64 _, .int .i64 _, .string _]) (by simp [results, Try.results51, go_sem, kb, hlt4, hlt5]; exact ⟨rfl, rfl, rfl, rfl, rfl, rfl⟩) rfl ⟨_, q1 + 1 + 1, rfl, ⟨⟨_, _, _, _, _, _⟩, rfl⟩, by omega, by omega, (by repeat (first | (with_reducible assumption) | (with_reducible refine Rd.alloc ?_ _) | (with_reducible refine Rd.drew ?_) | (with_reducible refine Rd.drewN ?_ _) | (with_reducible refine Rd.own ?_ (by first | (simp; done) | (simp; omega) | omega) (by first | (simp; done) | (simp; omega) | omega) _))), (by repeat (first | (with_reducible assumption) | (with_reducible exact Kp.refl _ _) | (with_reducible refine Kp.alloc ?_ _) | (with_reducible refine Kp.drew ?_) | (with_reducible refine Kp.drewN ?_ _) | (with_reducible refine Kp.own ?_ (by first | (simp; done) | (simp; omega) | omega) _)))⟩
  have d3 : (r2 == 3) = false := beq_eq_false_iff_ne.2 c3
  have ob2 := ob2.out
  have oc2 := oc2.out
  have hlt5 : w.heap.size < w2.heap.size := by omega
  have kb := fun o => blk_cell ob2 o
  have kf := fun o => blk_frozen ob2 o
  clear ob2
  have kc := fun o => blk_cell oc2 o
  have kg := fun o => blk_frozen oc2 o
  clear oc2
  by_cases c4 : r2 = 4
  · subst c4
    go_wp2_with fail
    exact bodyPost_ret (v := .agg #[.bool _, .bool _, .int .i64 _, .int .i64 _, .int .i64 _, .string _]) (by simp [results, Try.results51, go_sem, kb, hlt2, hlt5]; exact ⟨rfl, rfl, rfl, rfl, rfl, rfl⟩) rfl ⟨_, q1 + 1, rfl, ⟨⟨_, _, _, _, _, _⟩, rfl⟩, by omega, by omega, (by repeat (first | (with_reducible assumption) | (with_reducible refine Rd.alloc ?_ _) | (with_reducible refine Rd.drew ?_) | (with_reducible refine Rd.drewN ?_ _) | (with_reducible refine Rd.own ?_ (by first | (simp; done) | (simp; omega) | omega) (by first | (simp; done) | (simp; omega) | omega) _))), (by repeat (first | (with_reducible assumption) | (with_reducible exact Kp.refl _ _) | (with_reducible refine Kp.alloc ?_ _) | (with_reducible refine Kp.drew ?_) | (with_reducible refine Kp.drewN ?_ _) | (with_reducible refine Kp.own ?_ (by first | (simp; done) | (simp; omega) | omega) _)))⟩
  have d4 : (r2 == 4) = false := beq_eq_false_iff_ne.2 c4
  go_wp2_with fail
  exact bodyPost_ret (v := .agg #[.bool _, .bool _, .int .i64 _, .int .i64 _, .int .i64 _, .string _]) (by simp [results, Try.results51, go_sem, kb, hlt2, hlt5]; exact ⟨rfl, rfl, rfl, rfl, rfl, rfl⟩) rfl ⟨_, q1 + 1, rfl, ⟨⟨_, _, _, _, _, _⟩, rfl⟩, by omega, by omega, (by repeat (first | (with_reducible assumption) | (with_reducible refine Rd.alloc ?_ _) | (with_reducible refine Rd.drew ?_) | (with_reducible refine Rd.drewN ?_ _) | (with_reducible refine Rd.own ?_ (by first | (simp; done) | (simp; omega) | omega) (by first | (simp; done) | (simp; omega) | omega) _))), (by repeat (first | (with_reducible assumption) | (with_reducible exact Kp.refl _ _) | (with_reducible refine Kp.alloc ?_ _) | (with_reducible refine Kp.drew ?_) | (with_reducible refine Kp.drewN ?_ _) | (with_reducible refine Kp.own ?_ (by first | (simp; done) | (simp; omega) | omega) _)))⟩

end Go.Proofs.Ytcbbebhjddphfaa
