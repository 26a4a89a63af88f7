/- The reference: what an op does to a cell. -/
import Derived.Test.YtkphkkfgphhjcaaP13
import Derived.StillTactics
namespace Go.Proofs.Ytkphkkfgphhjcaa
open Go.RowKit
set_option linter.unusedSimpArgs false
set_option linter.unusedVariables false
set_option maxHeartbeats 1000000
set_option maxRecDepth 100000
theorem does1_c (pg : List Op3) (cl : List Int) (pc : Int) (fl : Bool) (bx : List Int) (now : Int) (xs : List Int) (a b : Int) (A1 A3 A4 : Option Addr) (n1 c1 n3 c3 n4 c4 : Nat) (gc oc c2 : Nat) (w : World) (h0 : 0 ≤ a) (h1 : a < 8) (hlen : cl.length = 8) (hc : SL kI w (.slice (some ⟨gc, oc, none⟩) cl.length c2) cl [gc]) (hz : ∀ o, w.frozen? ⟨gc, o, none⟩ = false) (hcv : ∀ x ∈ cl, 0 ≤ x ∧ x ≤ 9999) : Calls Try.prog 80 #[.agg #[.slice A1 n1 c1, .slice (some ⟨gc, oc, none⟩) 8 c2, .int .i64 pc, .bool fl, .slice A3 n3 c3], .agg #[.int .i64 1, .int .i64 a, .int .i64 b], .int .i64 now, .slice A4 n4 c4] w (fun e w' => e = .returned (.agg #[.slice A1 n1 c1, .slice (some ⟨gc, oc, none⟩) 8 c2, .int .i64 pc, .bool fl, .slice A3 n3 c3]) ∧ Below w.heap.size (w.setCell ⟨gc, oc + a.toNat, none⟩ (.int .i64 (b))) w') := by
  obtain ⟨_, _, e1, e2, k1⟩ := cell_of hc h0 (by omega)
  injection e1 with e1
  injection e1 with e1 e3
  subst e1 e3
  have z1 := hz (oc + a.toNat)
  have h2 : a < ((8 : Nat) : Int) := by omega
  obtain ⟨x, hx⟩ : ∃ x, cl.getD a.toNat 0 = x := ⟨_, rfl⟩
  have hgl := World.block_lt_of_cell? w _ k1
  simp only at hgl
  have hg1 : gc < w.heap.size + 1 := by omega
  have hg2 : gc < w.heap.size + 1 + 1 := by omega
  have hg3 : gc < w.heap.size + 1 + 1 + 1 := by omega
  have hq1 : w.heap.size < w.heap.size + 1 + 1 := by omega
  have hq2 : w.heap.size < w.heap.size + 1 + 1 + 1 := by omega
  have hq3 : w.heap.size + 1 < w.heap.size + 1 + 1 + 1 := by omega
  have hxv : 0 ≤ x ∧ x ≤ 9999 := by
    rw [← hx, List.getD_eq_getElem?_getD, List.getElem?_eq_getElem (by omega)]
    exact hcv _ (List.getElem_mem _)
  obtain ⟨hx0, hx1⟩ := hxv
  rw [hx] at k1
  clear hc hz hcv hlen hx
  go_enter Try.func80, Try.ntmps80
  go_wp2_with fail
  refine bodyPost_ret (v := .agg #[.slice A1 n1 c1, .slice (some ⟨gc, oc, none⟩) 8 c2, .int .i64 pc, .bool fl, .slice A3 n3 c3]) (by simp [results, Try.results80, go_sem, hq1, hq2, hq3]) rfl ⟨rfl, (by repeat (first | (with_reducible exact Below.refl _ _) | (with_reducible assumption) | (with_reducible refine Below.drew ?_) | (with_reducible refine below_drewN' ?_ _) | (with_reducible refine Below.setCell ?_ (by first | (simp; done) | (simp; omega) | omega) _) | (with_reducible refine Below.alloc ?_ (by first | (simp; done) | (simp; omega) | omega) _) | (with_reducible refine Below.trans ?_ (Below.mono (by assumption) (by first | (simp; done) | (simp; omega) | omega)))))⟩
theorem does2_c (pg : List Op3) (cl : List Int) (pc : Int) (fl : Bool) (bx : List Int) (now : Int) (xs : List Int) (a b : Int) (A1 A3 A4 : Option Addr) (n1 c1 n3 c3 n4 c4 : Nat) (gc oc c2 : Nat) (w : World) (h0 : 0 ≤ a) (h1 : a < 8) (hlen : cl.length = 8) (hc : SL kI w (.slice (some ⟨gc, oc, none⟩) cl.length c2) cl [gc]) (hz : ∀ o, w.frozen? ⟨gc, o, none⟩ = false) (hcv : ∀ x ∈ cl, 0 ≤ x ∧ x ≤ 9999) (hb0 : 0 ≤ b) (hb1 : b < 8) : Calls Try.prog 80 #[.agg #[.slice A1 n1 c1, .slice (some ⟨gc, oc, none⟩) 8 c2, .int .i64 pc, .bool fl, .slice A3 n3 c3], .agg #[.int .i64 2, .int .i64 a, .int .i64 b], .int .i64 now, .slice A4 n4 c4] w (fun e w' => e = .returned (.agg #[.slice A1 n1 c1, .slice (some ⟨gc, oc, none⟩) 8 c2, .int .i64 pc, .bool fl, .slice A3 n3 c3]) ∧ Below w.heap.size (w.setCell ⟨gc, oc + a.toNat, none⟩ (.int .i64 ((cl.getD a.toNat 0 + cl.getD b.toNat 0) % 10000))) w') := by
  obtain ⟨_, _, e1, e2, k1⟩ := cell_of hc h0 (by omega)
  injection e1 with e1
  injection e1 with e1 e3
  subst e1 e3
  have z1 := hz (oc + a.toNat)
  have h2 : a < ((8 : Nat) : Int) := by omega
  obtain ⟨x, hx⟩ : ∃ x, cl.getD a.toNat 0 = x := ⟨_, rfl⟩
  have hgl := World.block_lt_of_cell? w _ k1
  simp only at hgl
  have hg1 : gc < w.heap.size + 1 := by omega
  have hg2 : gc < w.heap.size + 1 + 1 := by omega
  have hg3 : gc < w.heap.size + 1 + 1 + 1 := by omega
  have hq1 : w.heap.size < w.heap.size + 1 + 1 := by omega
  have hq2 : w.heap.size < w.heap.size + 1 + 1 + 1 := by omega
  have hq3 : w.heap.size + 1 < w.heap.size + 1 + 1 + 1 := by omega
  have hxv : 0 ≤ x ∧ x ≤ 9999 := by
    rw [← hx, List.getD_eq_getElem?_getD, List.getElem?_eq_getElem (by omega)]
    exact hcv _ (List.getElem_mem _)
  obtain ⟨hx0, hx1⟩ := hxv
  rw [hx] at k1
  rw [hx]
  obtain ⟨_, _, e1, e2, k2⟩ := cell_of hc (hb0) (by omega)
  injection e1 with e1
  injection e1 with e1 e3
  subst e1 e3
  obtain ⟨y, hy⟩ : ∃ y, cl.getD (b).toNat 0 = y := ⟨_, rfl⟩
  have hyv : 0 ≤ y ∧ y ≤ 9999 := by
    rw [← hy, List.getD_eq_getElem?_getD, List.getElem?_eq_getElem (by omega)]
    exact hcv _ (List.getElem_mem _)
  obtain ⟨hy0, hy1⟩ := hyv
  rw [hy] at k2 ⊢
  have h3 : b < ((8 : Nat) : Int) := by omega
  have e5 : IntKind.i64.wrap (x + y) = x + y := wr (by omega) (by omega)
  clear hy
  clear hc hz hcv hlen hx
  go_enter Try.func80, Try.ntmps80
  go_wp2_with fail
  refine bodyPost_ret (v := .agg #[.slice A1 n1 c1, .slice (some ⟨gc, oc, none⟩) 8 c2, .int .i64 pc, .bool fl, .slice A3 n3 c3]) (by simp [results, Try.results80, go_sem, hq1, hq2, hq3]) rfl ⟨rfl, (by repeat (first | (with_reducible exact Below.refl _ _) | (with_reducible assumption) | (with_reducible refine Below.drew ?_) | (with_reducible refine below_drewN' ?_ _) | (with_reducible refine Below.setCell ?_ (by first | (simp; done) | (simp; omega) | omega) _) | (with_reducible refine Below.alloc ?_ (by first | (simp; done) | (simp; omega) | omega) _) | (with_reducible refine Below.trans ?_ (Below.mono (by assumption) (by first | (simp; done) | (simp; omega) | omega)))))⟩
theorem does3_c (pg : List Op3) (cl : List Int) (pc : Int) (fl : Bool) (bx : List Int) (now : Int) (xs : List Int) (a b : Int) (A1 A3 A4 : Option Addr) (n1 c1 n3 c3 n4 c4 : Nat) (gc oc c2 : Nat) (w : World) (h0 : 0 ≤ a) (h1 : a < 8) (hlen : cl.length = 8) (hc : SL kI w (.slice (some ⟨gc, oc, none⟩) cl.length c2) cl [gc]) (hz : ∀ o, w.frozen? ⟨gc, o, none⟩ = false) (hcv : ∀ x ∈ cl, 0 ≤ x ∧ x ≤ 9999) (hb0 : 0 ≤ b) (hb1 : b ≤ 9999) : Calls Try.prog 80 #[.agg #[.slice A1 n1 c1, .slice (some ⟨gc, oc, none⟩) 8 c2, .int .i64 pc, .bool fl, .slice A3 n3 c3], .agg #[.int .i64 3, .int .i64 a, .int .i64 b], .int .i64 now, .slice A4 n4 c4] w (fun e w' => e = .returned (.agg #[.slice A1 n1 c1, .slice (some ⟨gc, oc, none⟩) 8 c2, .int .i64 pc, .bool fl, .slice A3 n3 c3]) ∧ Below w.heap.size (w.setCell ⟨gc, oc + a.toNat, none⟩ (.int .i64 ((cl.getD a.toNat 0 + b) % 10000))) w') := by
  obtain ⟨_, _, e1, e2, k1⟩ := cell_of hc h0 (by omega)
  injection e1 with e1
  injection e1 with e1 e3
  subst e1 e3
  have z1 := hz (oc + a.toNat)
  have h2 : a < ((8 : Nat) : Int) := by omega
  obtain ⟨x, hx⟩ : ∃ x, cl.getD a.toNat 0 = x := ⟨_, rfl⟩
  have hgl := World.block_lt_of_cell? w _ k1
  simp only at hgl
  have hg1 : gc < w.heap.size + 1 := by omega
  have hg2 : gc < w.heap.size + 1 + 1 := by omega
  have hg3 : gc < w.heap.size + 1 + 1 + 1 := by omega
  have hq1 : w.heap.size < w.heap.size + 1 + 1 := by omega
  have hq2 : w.heap.size < w.heap.size + 1 + 1 + 1 := by omega
  have hq3 : w.heap.size + 1 < w.heap.size + 1 + 1 + 1 := by omega
  have hxv : 0 ≤ x ∧ x ≤ 9999 := by
    rw [← hx, List.getD_eq_getElem?_getD, List.getElem?_eq_getElem (by omega)]
    exact hcv _ (List.getElem_mem _)
  obtain ⟨hx0, hx1⟩ := hxv
  rw [hx] at k1
  rw [hx]
  have e5 : IntKind.i64.wrap (x + b) = x + b := wr (by omega) (by omega)
  clear hc hz hcv hlen hx
  go_enter Try.func80, Try.ntmps80
  go_wp2_with fail
  refine bodyPost_ret (v := .agg #[.slice A1 n1 c1, .slice (some ⟨gc, oc, none⟩) 8 c2, .int .i64 pc, .bool fl, .slice A3 n3 c3]) (by simp [results, Try.results80, go_sem, hq1, hq2, hq3]) rfl ⟨rfl, (by repeat (first | (with_reducible exact Below.refl _ _) | (with_reducible assumption) | (with_reducible refine Below.drew ?_) | (with_reducible refine below_drewN' ?_ _) | (with_reducible refine Below.setCell ?_ (by first | (simp; done) | (simp; omega) | omega) _) | (with_reducible refine Below.alloc ?_ (by first | (simp; done) | (simp; omega) | omega) _) | (with_reducible refine Below.trans ?_ (Below.mono (by assumption) (by first | (simp; done) | (simp; omega) | omega)))))⟩
theorem does4_c (pg : List Op3) (cl : List Int) (pc : Int) (fl : Bool) (bx : List Int) (now : Int) (xs : List Int) (a b : Int) (A1 A3 A4 : Option Addr) (n1 c1 n3 c3 n4 c4 : Nat) (gc oc c2 : Nat) (w : World) (h0 : 0 ≤ a) (h1 : a < 8) (hlen : cl.length = 8) (hc : SL kI w (.slice (some ⟨gc, oc, none⟩) cl.length c2) cl [gc]) (hz : ∀ o, w.frozen? ⟨gc, o, none⟩ = false) (hcv : ∀ x ∈ cl, 0 ≤ x ∧ x ≤ 9999) : Calls Try.prog 80 #[.agg #[.slice A1 n1 c1, .slice (some ⟨gc, oc, none⟩) 8 c2, .int .i64 pc, .bool fl, .slice A3 n3 c3], .agg #[.int .i64 4, .int .i64 a, .int .i64 b], .int .i64 now, .slice A4 n4 c4] w (fun e w' => e = .returned (.agg #[.slice A1 n1 c1, .slice (some ⟨gc, oc, none⟩) 8 c2, .int .i64 pc, .bool fl, .slice A3 n3 c3]) ∧ Below w.heap.size (w.setCell ⟨gc, oc + a.toNat, none⟩ (.int .i64 (max (cl.getD a.toNat 0 - 1) 0))) w') := by
  obtain ⟨_, _, e1, e2, k1⟩ := cell_of hc h0 (by omega)
  injection e1 with e1
  injection e1 with e1 e3
  subst e1 e3
  have z1 := hz (oc + a.toNat)
  have h2 : a < ((8 : Nat) : Int) := by omega
  obtain ⟨x, hx⟩ : ∃ x, cl.getD a.toNat 0 = x := ⟨_, rfl⟩
  have hgl := World.block_lt_of_cell? w _ k1
  simp only at hgl
  have hg1 : gc < w.heap.size + 1 := by omega
  have hg2 : gc < w.heap.size + 1 + 1 := by omega
  have hg3 : gc < w.heap.size + 1 + 1 + 1 := by omega
  have hq1 : w.heap.size < w.heap.size + 1 + 1 := by omega
  have hq2 : w.heap.size < w.heap.size + 1 + 1 + 1 := by omega
  have hq3 : w.heap.size + 1 < w.heap.size + 1 + 1 + 1 := by omega
  have hxv : 0 ≤ x ∧ x ≤ 9999 := by
    rw [← hx, List.getD_eq_getElem?_getD, List.getElem?_eq_getElem (by omega)]
    exact hcv _ (List.getElem_mem _)
  obtain ⟨hx0, hx1⟩ := hxv
  rw [hx] at k1
  rw [hx]
  have e5 : IntKind.i64.wrap (x - 1) = x - 1 := wr (by omega) (by omega)
  by_cases hx2 : x > 0
  · rw [show max (x - 1) 0 = x - 1 by omega]
    clear hc hz hcv hlen hx
    go_enter Try.func80, Try.ntmps80
    go_wp2_with fail
    refine bodyPost_ret (v := .agg #[.slice A1 n1 c1, .slice (some ⟨gc, oc, none⟩) 8 c2, .int .i64 pc, .bool fl, .slice A3 n3 c3]) (by simp [results, Try.results80, go_sem, hq1, hq2, hq3]) rfl ⟨rfl, (by repeat (first | (with_reducible exact Below.refl _ _) | (with_reducible assumption) | (with_reducible refine Below.drew ?_) | (with_reducible refine below_drewN' ?_ _) | (with_reducible refine Below.setCell ?_ (by first | (simp; done) | (simp; omega) | omega) _) | (with_reducible refine Below.alloc ?_ (by first | (simp; done) | (simp; omega) | omega) _) | (with_reducible refine Below.trans ?_ (Below.mono (by assumption) (by first | (simp; done) | (simp; omega) | omega)))))⟩
  · rw [show max (x - 1) 0 = x by omega]
    clear hc hz hcv hlen hx
    go_enter Try.func80, Try.ntmps80
    go_wp2_with fail
    refine bodyPost_ret (v := .agg #[.slice A1 n1 c1, .slice (some ⟨gc, oc, none⟩) 8 c2, .int .i64 pc, .bool fl, .slice A3 n3 c3]) (by simp [results, Try.results80, go_sem, hq1, hq2, hq3]) rfl ⟨rfl, (by repeat (first | (with_reducible exact Below.refl _ _) | (with_reducible assumption) | (with_reducible refine Below.drew ?_) | (with_reducible refine below_drewN' ?_ _) | (with_reducible refine Below.setCell ?_ (by first | (simp; done) | (simp; omega) | omega) _) | (with_reducible refine Below.alloc ?_ (by first | (simp; done) | (simp; omega) | omega) _) | (with_reducible refine Below.trans ?_ (Below.mono (by assumption) (by first | (simp; done) | (simp; omega) | omega)))))⟩
theorem does8_c (pg : List Op3) (cl : List Int) (pc : Int) (fl : Bool) (bx : List Int) (now : Int) (xs : List Int) (a b : Int) (A1 A3 A4 : Option Addr) (n1 c1 n3 c3 n4 c4 : Nat) (gc oc c2 : Nat) (w : World) (h0 : 0 ≤ a) (h1 : a < 8) (hlen : cl.length = 8) (hc : SL kI w (.slice (some ⟨gc, oc, none⟩) cl.length c2) cl [gc]) (hz : ∀ o, w.frozen? ⟨gc, o, none⟩ = false) (hcv : ∀ x ∈ cl, 0 ≤ x ∧ x ≤ 9999) (hn0 : 0 ≤ now) (hn1 : now ≤ 99999) : Calls Try.prog 80 #[.agg #[.slice A1 n1 c1, .slice (some ⟨gc, oc, none⟩) 8 c2, .int .i64 pc, .bool fl, .slice A3 n3 c3], .agg #[.int .i64 8, .int .i64 a, .int .i64 b], .int .i64 now, .slice A4 n4 c4] w (fun e w' => e = .returned (.agg #[.slice A1 n1 c1, .slice (some ⟨gc, oc, none⟩) 8 c2, .int .i64 pc, .bool fl, .slice A3 n3 c3]) ∧ Below w.heap.size (w.setCell ⟨gc, oc + a.toNat, none⟩ (.int .i64 (now % 10000))) w') := by
  obtain ⟨_, _, e1, e2, k1⟩ := cell_of hc h0 (by omega)
  injection e1 with e1
  injection e1 with e1 e3
  subst e1 e3
  have z1 := hz (oc + a.toNat)
  have h2 : a < ((8 : Nat) : Int) := by omega
  obtain ⟨x, hx⟩ : ∃ x, cl.getD a.toNat 0 = x := ⟨_, rfl⟩
  have hgl := World.block_lt_of_cell? w _ k1
  simp only at hgl
  have hg1 : gc < w.heap.size + 1 := by omega
  have hg2 : gc < w.heap.size + 1 + 1 := by omega
  have hg3 : gc < w.heap.size + 1 + 1 + 1 := by omega
  have hq1 : w.heap.size < w.heap.size + 1 + 1 := by omega
  have hq2 : w.heap.size < w.heap.size + 1 + 1 + 1 := by omega
  have hq3 : w.heap.size + 1 < w.heap.size + 1 + 1 + 1 := by omega
  have hxv : 0 ≤ x ∧ x ≤ 9999 := by
    rw [← hx, List.getD_eq_getElem?_getD, List.getElem?_eq_getElem (by omega)]
    exact hcv _ (List.getElem_mem _)
  obtain ⟨hx0, hx1⟩ := hxv
  rw [hx] at k1
  clear hc hz hcv hlen hx
  go_enter Try.func80, Try.ntmps80
  go_wp2_with fail
  refine bodyPost_ret (v := .agg #[.slice A1 n1 c1, .slice (some ⟨gc, oc, none⟩) 8 c2, .int .i64 pc, .bool fl, .slice A3 n3 c3]) (by simp [results, Try.results80, go_sem, hq1, hq2, hq3]) rfl ⟨rfl, (by repeat (first | (with_reducible exact Below.refl _ _) | (with_reducible assumption) | (with_reducible refine Below.drew ?_) | (with_reducible refine below_drewN' ?_ _) | (with_reducible refine Below.setCell ?_ (by first | (simp; done) | (simp; omega) | omega) _) | (with_reducible refine Below.alloc ?_ (by first | (simp; done) | (simp; omega) | omega) _) | (with_reducible refine Below.trans ?_ (Below.mono (by assumption) (by first | (simp; done) | (simp; omega) | omega)))))⟩
theorem does10_c (pg : List Op3) (cl : List Int) (pc : Int) (fl : Bool) (bx : List Int) (now : Int) (xs : List Int) (a b : Int) (A1 A3 A4 : Option Addr) (n1 c1 n3 c3 n4 c4 : Nat) (gc oc c2 : Nat) (w : World) (h0 : 0 ≤ a) (h1 : a < 8) (hlen : cl.length = 8) (hc : SL kI w (.slice (some ⟨gc, oc, none⟩) cl.length c2) cl [gc]) (hz : ∀ o, w.frozen? ⟨gc, o, none⟩ = false) (hcv : ∀ x ∈ cl, 0 ≤ x ∧ x ≤ 9999) (fq : List Nat) (hp : SL kI w (.slice A4 n4 c4) xs fq) (hn4 : n4 = 4) (hb0 : 0 ≤ b) (hb1 : b < 4) : Calls Try.prog 80 #[.agg #[.slice A1 n1 c1, .slice (some ⟨gc, oc, none⟩) 8 c2, .int .i64 pc, .bool fl, .slice A3 n3 c3], .agg #[.int .i64 10, .int .i64 a, .int .i64 b], .int .i64 now, .slice A4 n4 c4] w (fun e w' => e = .returned (.agg #[.slice A1 n1 c1, .slice (some ⟨gc, oc, none⟩) 8 c2, .int .i64 pc, .bool fl, .slice A3 n3 c3]) ∧ Below w.heap.size (w.setCell ⟨gc, oc + a.toNat, none⟩ (.int .i64 (xs.getD b.toNat 0))) w') := by
  obtain ⟨_, _, e1, e2, k1⟩ := cell_of hc h0 (by omega)
  injection e1 with e1
  injection e1 with e1 e3
  subst e1 e3
  have z1 := hz (oc + a.toNat)
  have h2 : a < ((8 : Nat) : Int) := by omega
  obtain ⟨x, hx⟩ : ∃ x, cl.getD a.toNat 0 = x := ⟨_, rfl⟩
  have hgl := World.block_lt_of_cell? w _ k1
  simp only at hgl
  have hg1 : gc < w.heap.size + 1 := by omega
  have hg2 : gc < w.heap.size + 1 + 1 := by omega
  have hg3 : gc < w.heap.size + 1 + 1 + 1 := by omega
  have hq1 : w.heap.size < w.heap.size + 1 + 1 := by omega
  have hq2 : w.heap.size < w.heap.size + 1 + 1 + 1 := by omega
  have hq3 : w.heap.size + 1 < w.heap.size + 1 + 1 + 1 := by omega
  have hxv : 0 ≤ x ∧ x ≤ 9999 := by
    rw [← hx, List.getD_eq_getElem?_getD, List.getElem?_eq_getElem (by omega)]
    exact hcv _ (List.getElem_mem _)
  obtain ⟨hx0, hx1⟩ := hxv
  rw [hx] at k1
  obtain ⟨gq, oq, rfl, _, k2⟩ := cell_of hp hb0 (by omega)
  obtain ⟨y, hy⟩ : ∃ y, xs.getD b.toNat 0 = y := ⟨_, rfl⟩
  rw [hy] at k2 ⊢
  subst hn4
  have hgq := World.block_lt_of_cell? w _ k2
  simp only at hgq
  have hgq1 : gq < w.heap.size + 1 := by omega
  have hgq2 : gq < w.heap.size + 1 + 1 := by omega
  have hgq3 : gq < w.heap.size + 1 + 1 + 1 := by omega
  have h3 : b < ((4 : Nat) : Int) := by omega
  clear hp hy
  clear hc hz hcv hlen hx
  go_enter Try.func80, Try.ntmps80
  go_wp2_with fail
  refine bodyPost_ret (v := .agg #[.slice A1 n1 c1, .slice (some ⟨gc, oc, none⟩) 8 c2, .int .i64 pc, .bool fl, .slice A3 n3 c3]) (by simp [results, Try.results80, go_sem, hq1, hq2, hq3]) rfl ⟨rfl, (by repeat (first | (with_reducible exact Below.refl _ _) | (with_reducible assumption) | (with_reducible refine Below.drew ?_) | (with_reducible refine below_drewN' ?_ _) | (with_reducible refine Below.setCell ?_ (by first | (simp; done) | (simp; omega) | omega) _) | (with_reducible refine Below.alloc ?_ (by first | (simp; done) | (simp; omega) | omega) _) | (with_reducible refine Below.trans ?_ (Below.mono (by assumption) (by first | (simp; done) | (simp; omega) | omega)))))⟩
/-- What OpTake leaves: the box is cut. -/
def D12 (w : World) (A1 : Option Addr) (n1 c1 gc oc c2 : Nat) (pc : Int) (fl : Bool) (r : List Int) (n : Nat) (v : Int) (fb : List Nat) (a : Int) (e : Ending) (w' : World) : Prop := ∃ A3' c3' fb', e = .returned (.agg #[.slice A1 n1 c1, .slice (some ⟨gc, oc, none⟩) 8 c2, .int .i64 pc, .bool fl, .slice A3' n c3']) ∧ SL kI w (.slice A3' n c3') r fb' ∧ (∀ q ∈ fb', q ∈ fb) ∧ Below w.heap.size (w.setCell ⟨gc, oc + a.toNat, none⟩ (.int .i64 v)) w'
theorem still_all {P : Program} {id : Nat} {Q : Exit → Act → World → Prop} {a : Act} {w : World} {l : List Oper} (hm : P.follows .mixedOrders = true) (hB : Region.lexB .any l.toArray = true) (h : wpStill P l.toArray w.drew (fun a' => Q .normal a' w.drew) l a) : (Code.region id l.toArray true).wp P Q a w := wp_region_still_lit hm hB h
theorem does12_c (pg : List Op3) (cl : List Int) (pc : Int) (fl : Bool) (bx : List Int) (now : Int) (xs : List Int) (a b : Int) (A1 A3 A4 : Option Addr) (n1 c1 n3 c3 n4 c4 : Nat) (gc oc c2 : Nat) (w : World) (h0 : 0 ≤ a) (h1 : a < 8) (hlen : cl.length = 8) (hc : SL kI w (.slice (some ⟨gc, oc, none⟩) cl.length c2) cl [gc]) (hz : ∀ o, w.frozen? ⟨gc, o, none⟩ = false) (hcv : ∀ x ∈ cl, 0 ≤ x ∧ x ≤ 9999) (fb : List Nat) (hb : SL kI w (.slice A3 n3 c3) bx fb) : Calls Try.prog 80 #[.agg #[.slice A1 n1 c1, .slice (some ⟨gc, oc, none⟩) 8 c2, .int .i64 pc, .bool fl, .slice A3 n3 c3], .agg #[.int .i64 12, .int .i64 a, .int .i64 b], .int .i64 now, .slice A4 n4 c4] w (D12 w A1 n1 c1 gc oc c2 pc fl bx.tail bx.tail.length (bx.headD 0) fb a) := by
  obtain ⟨_, _, e1, e2, k1⟩ := cell_of hc h0 (by omega)
  injection e1 with e1
  injection e1 with e1 e3
  subst e1 e3
  have z1 := hz (oc + a.toNat)
  have h2 : a < ((8 : Nat) : Int) := by omega
  obtain ⟨x, hx⟩ : ∃ x, cl.getD a.toNat 0 = x := ⟨_, rfl⟩
  have hgl := World.block_lt_of_cell? w _ k1
  simp only at hgl
  have hg1 : gc < w.heap.size + 1 := by omega
  have hg2 : gc < w.heap.size + 1 + 1 := by omega
  have hg3 : gc < w.heap.size + 1 + 1 + 1 := by omega
  have hq1 : w.heap.size < w.heap.size + 1 + 1 := by omega
  have hq2 : w.heap.size < w.heap.size + 1 + 1 + 1 := by omega
  have hq3 : w.heap.size + 1 < w.heap.size + 1 + 1 + 1 := by omega
  have hxv : 0 ≤ x ∧ x ≤ 9999 := by
    rw [← hx, List.getD_eq_getElem?_getD, List.getElem?_eq_getElem (by omega)]
    exact hcv _ (List.getElem_mem _)
  obtain ⟨hx0, hx1⟩ := hxv
  rw [hx] at k1
  cases bx with
  | nil =>
    change Calls _ _ _ _ (D12 w A1 n1 c1 gc oc c2 pc fl [] 0 0 fb a)
    obtain ⟨A', c', e1, _, _⟩ := hb.form
    injection e1 with e1 e2 e3
    subst e1 e2 e3
    clear hc hz hcv hlen hx
    go_enter Try.func80, Try.ntmps80
    go_wp2_with fail
    exact bodyPost_ret (v := .agg #[.slice A1 n1 c1, .slice (some ⟨gc, oc, none⟩) 8 c2, .int .i64 pc, .bool fl, .slice A3 0 c3]) (by simp [results, Try.results80, go_sem, hq1, hq2, hq3]) rfl ⟨A3, c3, fb, rfl, hb, fun q hq => hq, (by repeat (first | (with_reducible exact Below.refl _ _) | (with_reducible assumption) | (with_reducible refine Below.drew ?_) | (with_reducible refine below_drewN' ?_ _) | (with_reducible refine Below.setCell ?_ (by first | (simp; done) | (simp; omega) | omega) _) | (with_reducible refine Below.alloc ?_ (by first | (simp; done) | (simp; omega) | omega) _) | (with_reducible refine Below.trans ?_ (Below.mono (by assumption) (by first | (simp; done) | (simp; omega) | omega)))))⟩
  | cons y r =>
    change Calls _ _ _ _ (D12 w A1 n1 c1 gc oc c2 pc fl r r.length y fb a)
    obtain ⟨A', c', e1, hc3, _⟩ := hb.form
    injection e1 with e1 e2 e3
    subst e1 e2 e3
    obtain ⟨y', gb, ob, cs, f, q1, rfl, _, q2, _, q3⟩ := hb.get (i := 0) (by simp)
    have q4 := q3 0 (by decide)
    rw [q2.1] at q4
    simp only [List.getElem?_cons_zero, Option.some.injEq] at q1
    subst q1
    simp only [Nat.zero_mul, Nat.add_zero, encI, List.getElem?_cons_zero] at q4
    have hgb : gb < w.heap.size := World.block_lt_of_cell? w _ q4
    have hgb1 : gb < w.heap.size + 1 := by omega
    have hgb2 : gb < w.heap.size + 1 + 1 := by omega
    have hgb3 : gb < w.heap.size + 1 + 1 + 1 := by omega
    obtain ⟨f6, hr, hrf⟩ := hb.tail
    simp only [List.length_cons] at hc3
    simp only [List.length_cons]
    obtain ⟨n, hn⟩ : ∃ n, n = r.length := ⟨_, rfl⟩
    have hr' := Lib.hid hr
    rw [← hn] at hr' hc3 ⊢
    clear hb q2 q3 hr hc hz hcv hlen hx
    by_cases hq : c3 = 1
    · have hz0 : SL kI w (.slice (some ⟨gb, ob, none⟩) n 0) r [] := by
        have hn0 : n = 0 := by omega
        have hr0 : r = [] := List.eq_nil_of_length_eq_zero (by rw [← hn]; exact hn0)
        rw [hn0, hr0]
        exact ⟨some ⟨gb, ob, none⟩, 0, rfl, Nat.le_refl _, by omega, .inl ⟨rfl, rfl⟩⟩
      replace hz0 := Lib.hid hz0
      replace hn := Lib.hid hn
      go_enter Try.func80, Try.ntmps80
      go_wp2_with fail
      exact bodyPost_ret (v := .agg #[.slice A1 n1 c1, .slice (some ⟨gc, oc, none⟩) 8 c2, .int .i64 pc, .bool fl, .slice (some ⟨gb, ob, none⟩) n 0]) (by simp [results, Try.results80, go_sem, hq1, hq2, hq3]) rfl ⟨some ⟨gb, ob, none⟩, 0, [], rfl, hz0.out, fun q hq => by (cases hq), (by repeat (first | (with_reducible exact Below.refl _ _) | (with_reducible assumption) | (with_reducible refine Below.drew ?_) | (with_reducible refine below_drewN' ?_ _) | (with_reducible refine Below.setCell ?_ (by first | (simp; done) | (simp; omega) | omega) _) | (with_reducible refine Below.alloc ?_ (by first | (simp; done) | (simp; omega) | omega) _) | (with_reducible refine Below.trans ?_ (Below.mono (by assumption) (by first | (simp; done) | (simp; omega) | omega)))))⟩
    · replace hn := Lib.hid hn
      go_enter Try.func80, Try.ntmps80
      go_wp2_with fail
      exact bodyPost_ret (v := .agg #[.slice A1 n1 c1, .slice (some ⟨gc, oc, none⟩) 8 c2, .int .i64 pc, .bool fl, .slice (some ⟨gb, ob + 1, none⟩) n (c3 - 1)]) (by simp [results, Try.results80, go_sem, hq1, hq2, hq3]) rfl ⟨some ⟨gb, ob + 1, none⟩, c3 - 1, f6, rfl, hr'.out, hrf, (by repeat (first | (with_reducible exact Below.refl _ _) | (with_reducible assumption) | (with_reducible refine Below.drew ?_) | (with_reducible refine below_drewN' ?_ _) | (with_reducible refine Below.setCell ?_ (by first | (simp; done) | (simp; omega) | omega) _) | (with_reducible refine Below.alloc ?_ (by first | (simp; done) | (simp; omega) | omega) _) | (with_reducible refine Below.trans ?_ (Below.mono (by assumption) (by first | (simp; done) | (simp; omega) | omega)))))⟩
theorem does13_c (pg : List Op3) (cl : List Int) (pc : Int) (fl : Bool) (bx : List Int) (now : Int) (xs : List Int) (a b : Int) (A1 A3 A4 : Option Addr) (n1 c1 n3 c3 n4 c4 : Nat) (gc oc c2 : Nat) (w : World) (h0 : 0 ≤ a) (h1 : a < 8) (hlen : cl.length = 8) (hc : SL kI w (.slice (some ⟨gc, oc, none⟩) cl.length c2) cl [gc]) (hz : ∀ o, w.frozen? ⟨gc, o, none⟩ = false) (hcv : ∀ x ∈ cl, 0 ≤ x ∧ x ≤ 9999) (hb0 : 0 ≤ b) (hb1 : b < 8) (hf : cl.getD b.toNat 0 < 8) : Calls Try.prog 80 #[.agg #[.slice A1 n1 c1, .slice (some ⟨gc, oc, none⟩) 8 c2, .int .i64 pc, .bool fl, .slice A3 n3 c3], .agg #[.int .i64 13, .int .i64 a, .int .i64 b], .int .i64 now, .slice A4 n4 c4] w (fun e w' => e = .returned (.agg #[.slice A1 n1 c1, .slice (some ⟨gc, oc, none⟩) 8 c2, .int .i64 pc, .bool fl, .slice A3 n3 c3]) ∧ Below w.heap.size (w.setCell ⟨gc, oc + a.toNat, none⟩ (.int .i64 (cl.getD (cl.getD b.toNat 0).toNat 0))) w') := by
  obtain ⟨_, _, e1, e2, k1⟩ := cell_of hc h0 (by omega)
  injection e1 with e1
  injection e1 with e1 e3
  subst e1 e3
  have z1 := hz (oc + a.toNat)
  have h2 : a < ((8 : Nat) : Int) := by omega
  obtain ⟨x, hx⟩ : ∃ x, cl.getD a.toNat 0 = x := ⟨_, rfl⟩
  have hgl := World.block_lt_of_cell? w _ k1
  simp only at hgl
  have hg1 : gc < w.heap.size + 1 := by omega
  have hg2 : gc < w.heap.size + 1 + 1 := by omega
  have hg3 : gc < w.heap.size + 1 + 1 + 1 := by omega
  have hq1 : w.heap.size < w.heap.size + 1 + 1 := by omega
  have hq2 : w.heap.size < w.heap.size + 1 + 1 + 1 := by omega
  have hq3 : w.heap.size + 1 < w.heap.size + 1 + 1 + 1 := by omega
  have hxv : 0 ≤ x ∧ x ≤ 9999 := by
    rw [← hx, List.getD_eq_getElem?_getD, List.getElem?_eq_getElem (by omega)]
    exact hcv _ (List.getElem_mem _)
  obtain ⟨hx0, hx1⟩ := hxv
  rw [hx] at k1
  have hfy := hf
  obtain ⟨_, _, e1, e2, k2⟩ := cell_of hc (hb0) (by omega)
  injection e1 with e1
  injection e1 with e1 e3
  subst e1 e3
  obtain ⟨y, hy⟩ : ∃ y, cl.getD (b).toNat 0 = y := ⟨_, rfl⟩
  have hyv : 0 ≤ y ∧ y ≤ 9999 := by
    rw [← hy, List.getD_eq_getElem?_getD, List.getElem?_eq_getElem (by omega)]
    exact hcv _ (List.getElem_mem _)
  obtain ⟨hy0, hy1⟩ := hyv
  rw [hy] at k2 ⊢
  rw [hy] at hfy
  obtain ⟨_, _, e1, e2, k3⟩ := cell_of hc hy0 (by omega)
  injection e1 with e1
  injection e1 with e1 e3
  subst e1 e3
  obtain ⟨v, hv⟩ : ∃ v, cl.getD y.toNat 0 = v := ⟨_, rfl⟩
  rw [hv] at k3 ⊢
  have h3 : b < ((8 : Nat) : Int) := by omega
  have h4 : y < ((8 : Nat) : Int) := by omega
  have h5 : ¬ y ≥ 8 := by omega
  clear hy hv hf hc hz hcv hlen hx
  go_enter Try.func80, Try.ntmps80
  go_wp2_with fail
  refine still_all (by kernel_rfl) (by kernel_rfl) ?_
  repeat still_step
  refine wpStill_nil ?_
  go_wp2_with fail
  refine bodyPost_ret (v := .agg #[.slice A1 n1 c1, .slice (some ⟨gc, oc, none⟩) 8 c2, .int .i64 pc, .bool fl, .slice A3 n3 c3]) (by simp [results, Try.results80, go_sem, hq1, hq2, hq3]) rfl ⟨rfl, (by repeat (first | (with_reducible exact Below.refl _ _) | (with_reducible assumption) | (with_reducible refine Below.drew ?_) | (with_reducible refine below_drewN' ?_ _) | (with_reducible refine Below.setCell ?_ (by first | (simp; done) | (simp; omega) | omega) _) | (with_reducible refine Below.alloc ?_ (by first | (simp; done) | (simp; omega) | omega) _) | (with_reducible refine Below.trans ?_ (Below.mono (by assumption) (by first | (simp; done) | (simp; omega) | omega)))))⟩
theorem does13f_c (pg : List Op3) (cl : List Int) (pc : Int) (fl : Bool) (bx : List Int) (now : Int) (xs : List Int) (a b : Int) (A1 A3 A4 : Option Addr) (n1 c1 n3 c3 n4 c4 : Nat) (gc oc c2 : Nat) (w : World) (h0 : 0 ≤ a) (h1 : a < 8) (hlen : cl.length = 8) (hc : SL kI w (.slice (some ⟨gc, oc, none⟩) cl.length c2) cl [gc]) (hz : ∀ o, w.frozen? ⟨gc, o, none⟩ = false) (hcv : ∀ x ∈ cl, 0 ≤ x ∧ x ≤ 9999) (hb0 : 0 ≤ b) (hb1 : b < 8) (hf : 8 ≤ cl.getD b.toNat 0) : Calls Try.prog 80 #[.agg #[.slice A1 n1 c1, .slice (some ⟨gc, oc, none⟩) 8 c2, .int .i64 pc, .bool fl, .slice A3 n3 c3], .agg #[.int .i64 13, .int .i64 a, .int .i64 b], .int .i64 now, .slice A4 n4 c4] w fun e w' => e = .returned (.agg #[.slice A1 n1 c1, .slice (some ⟨gc, oc, none⟩) 8 c2, .int .i64 pc, .bool true, .slice A3 n3 c3]) ∧ Below w.heap.size w w' := by
  obtain ⟨_, _, e1, e2, k1⟩ := cell_of hc h0 (by omega)
  injection e1 with e1
  injection e1 with e1 e3
  subst e1 e3
  have z1 := hz (oc + a.toNat)
  have h2 : a < ((8 : Nat) : Int) := by omega
  obtain ⟨x, hx⟩ : ∃ x, cl.getD a.toNat 0 = x := ⟨_, rfl⟩
  have hgl := World.block_lt_of_cell? w _ k1
  simp only at hgl
  have hg1 : gc < w.heap.size + 1 := by omega
  have hg2 : gc < w.heap.size + 1 + 1 := by omega
  have hg3 : gc < w.heap.size + 1 + 1 + 1 := by omega
  have hq1 : w.heap.size < w.heap.size + 1 + 1 := by omega
  have hq2 : w.heap.size < w.heap.size + 1 + 1 + 1 := by omega
  have hq3 : w.heap.size + 1 < w.heap.size + 1 + 1 + 1 := by omega
  have hxv : 0 ≤ x ∧ x ≤ 9999 := by
    rw [← hx, List.getD_eq_getElem?_getD, List.getElem?_eq_getElem (by omega)]
    exact hcv _ (List.getElem_mem _)
  obtain ⟨hx0, hx1⟩ := hxv
  rw [hx] at k1
  obtain ⟨_, _, e1, e2, k2⟩ := cell_of hc hb0 (by omega)
  injection e1 with e1
  injection e1 with e1 e3
  subst e1 e3
  obtain ⟨y, hy⟩ : ∃ y, cl.getD b.toNat 0 = y := ⟨_, rfl⟩
  rw [hy] at k2 hf
  have h3 : b < ((8 : Nat) : Int) := by omega
  clear hy hc hz hcv hlen hx
  go_enter Try.func80, Try.ntmps80
  go_wp2_with fail
  exact bodyPost_ret (v := .agg #[.slice A1 n1 c1, .slice (some ⟨gc, oc, none⟩) 8 c2, .int .i64 pc, .bool true, .slice A3 n3 c3]) (by simp [results, Try.results80, go_sem, hq1, hq2, hq3]) rfl ⟨rfl, (by repeat (first | (with_reducible exact Below.refl _ _) | (with_reducible assumption) | (with_reducible refine Below.drew ?_) | (with_reducible refine below_drewN' ?_ _) | (with_reducible refine Below.setCell ?_ (by first | (simp; done) | (simp; omega) | omega) _) | (with_reducible refine Below.alloc ?_ (by first | (simp; done) | (simp; omega) | omega) _) | (with_reducible refine Below.trans ?_ (Below.mono (by assumption) (by first | (simp; done) | (simp; omega) | omega)))))⟩
end Go.Proofs.Ytkphkkfgphhjcaa
