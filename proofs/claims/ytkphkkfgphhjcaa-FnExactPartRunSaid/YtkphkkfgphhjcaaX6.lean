/- The exact law of PartRun, walked. -/
import Derived.Test.YtkphkkfgphhjcaaXH
import Derived.Test.YtkphkkfgphhjcaaT3
namespace Go.Proofs.Ytkphkkfgphhjcaa
open Go.RowKit
set_option linter.unusedSimpArgs false
set_option linter.unusedVariables false
set_option maxHeartbeats 4000000
set_option maxRecDepth 100000
theorem list_len5_X6 : ∀ (l : List Value), l.length = 5 → ∃ x0 x1 x2 x3 x4, l = x0 :: x1 :: x2 :: x3 :: x4 :: []
  | x0 :: x1 :: x2 :: x3 :: x4 :: [], _ => ⟨x0, x1, x2, x3, x4, rfl⟩

theorem exactRun_c (p : Pt) (now : Int) (xs : List Int) (most : Int) (v1 v2 v3 v4 : Value) (f1 f2 f3 f4 : List Nat) (w : World) (h : PtF w p v1 v2 v3 f1 f2 f3) (hx : SL kI w v4 xs f4) : Calls Try.prog 8 #[.agg #[v1, v2, .int .i64 p.pc, .bool p.fails, v3], .int .i64 now, v4, .int .i64 most] w (Ret w (.bool true)) := by
  obtain ⟨A1, c1, rfl, m1, n1⟩ := h.prog.form
  obtain ⟨A2, c2, rfl, m2, n2⟩ := h.cells.form
  obtain ⟨A3, c3, rfl, m3, n3⟩ := h.box.form
  obtain ⟨A4, c4, rfl, m4, n4⟩ := hx.form
  have hO := Lib.hid ((OwnL.nil w).put (.cells #[.slice A1 p.prog.length c1, .slice A2 p.cells.length c2, .int .i64 p.pc, .bool p.fails, .slice A3 p.box.length c3] 48))
  have hP := Lib.hid h
  have hX := Lib.hid hx
  clear h hx
  by_cases hlong : xs.length > 1048576
  · have hl : (1048576 : Int) < xs.length := by omega
    go_enter Try.func8, Try.ntmps8
    go_wp2_with fail
    go_ret
    exact ⟨rfl, (by repeat (first | (with_reducible exact Below.refl _ _) | (with_reducible assumption) | (with_reducible refine Below.drew ?_) | (with_reducible refine below_drewN' ?_ _) | (with_reducible refine Below.setCell ?_ (by first | (simp; done) | (simp; omega) | omega) _) | (with_reducible refine Below.alloc ?_ (by first | (simp; done) | (simp; omega) | omega) _) | (with_reducible refine Below.trans ?_ (Below.mono (by assumption) (by first | (simp; done) | (simp; omega) | omega)))))⟩
  have hl : ¬ (1048576 : Int) < xs.length := by omega
  have hsz := Lib.hid (fun W => szPart_c (.bool true) (.bool true) (.bool true) A1 A2 A3 p.prog.length p.cells.length p.box.length c1 c2 c3 p.pc p.fails 1048576 W (by omega) (by omega) (by omega) (by omega) (by omega))
  have hnn := @leftP_nn 1048576 p.prog.length p.cells.length p.box.length
  obtain ⟨l, hlv⟩ : ∃ l, l = leftP 1048576 p.prog.length p.cells.length p.box.length := ⟨_, rfl⟩
  rw [← hlv] at hsz hnn
  by_cases hneg : l < 0
  · have k0 := fun o => blk_cell hO.g0 o
    have hl0 := (Array.getElem?_eq_some_iff.1 hO.g0).1
    go_enter Try.func8, Try.ntmps8
    go_wp2_with fail
    refine (hsz.out _).mono ?_
    rintro e w1 ⟨rfl, hB1⟩
    have hO := Lib.hid (hO.out.below hB1)
    clear k0 hl0
    have k0 := fun o => blk_cell hO.g0 o
    have hl0 := (Array.getElem?_eq_some_iff.1 hO.g0).1
    go_wp2_with fail
    go_ret
    exact ⟨rfl, hO.out.1⟩
  replace hnn := hnn hneg (by omega) (by omega) (by omega)
  clear hlv
  have k0 := fun o => blk_cell hO.g0 o
  have hl0 := (Array.getElem?_eq_some_iff.1 hO.g0).1
  go_enter Try.func8, Try.ntmps8
  go_wp2_with fail
  refine (hsz.out _).mono ?_
  rintro e w1 ⟨rfl, hB1⟩
  have hO := Lib.hid (hO.out.below hB1)
  clear k0 hl0
  have k0 := fun o => blk_cell hO.g0 o
  have hl0 := (Array.getElem?_eq_some_iff.1 hO.g0).1
  go_wp2_with fail
  refine (toPart_c p _ _ _ f1 f2 f3 _ (hP.out.below hO.out.1) (by omega) (by omega) (by omega)).mono ?_
  rintro e w2 ⟨U1, U2, U3, u1, u2, u3, rfl, hN1, hB2⟩
  have hO := Lib.hid (hO.out.below hB2)
  clear k0 hl0
  have k0 := fun o => blk_cell hO.g0 o
  have hl0 := (Array.getElem?_eq_some_iff.1 hO.g0).1
  have hN1 := Lib.hid hN1.get.1
  go_wp2_with fail
  refine (toIntS_c xs _ f4 _ (hX.out.below hO.out.1) (by omega)).mono ?_
  rintro e w3 ⟨U4, d4, u4, rfl, hN2, hB3⟩
  have hO := Lib.hid (hO.out.below hB3)
  clear k0 hl0
  have k0 := fun o => blk_cell hO.g0 o
  have hl0 := (Array.getElem?_eq_some_iff.1 hO.g0).1
  have hN2 := Lib.hid hN2.get.1
  replace hN1 := Lib.hid (hN1.out.below hB3)
  clear hB1 hB2 hB3
  go_wp2_with fail
  refine (lpartRun_c p now xs most _ _ _ _ u1 u2 u3 u4 _ hN1.out hN2.out (by omega)).mono ?_
  intro e w4 hq
  have hst := partRun_c p now xs most
  obtain ⟨r, hr⟩ : ∃ r, r = PRun p now xs most := ⟨_, rfl⟩
  rw [← hr] at hst hq
  replace hr := Lib.hid hr
  replace hst := Lib.hid hst
  obtain ⟨B1, b1, B2, b2, B3, b3, B4, b4, B5, b5, g1, g2, g3, g4, g5, rfl, hP2, hX2, hS2, _, hB2⟩ := hq.get5
  have hRF : Hid (∀ b ∈ (g1 ++ (g2 ++ g3)) ++ (g4 ++ g5), b < w4.heap.size) := Lib.hid (((fix_ptf _ _ _ _ g1 g2 g3).and ((fix_sl kI _ r.2.1 g4).and (fix_sl kSd _ r.2.2 g5))).lt _ ⟨hP2, hX2, hS2⟩)
  clear hq hN1 hN2
  have hO := Lib.hid (hO.out.below hB2)
  clear k0 hl0
  have k0 := fun o => blk_cell hO.g0 o
  have hl0 := (Array.getElem?_eq_some_iff.1 hO.g0).1
  have hz4 : Hid (w.heap.size < w4.heap.size) := Lib.hid hl0
  have hO := Lib.hid (hO.out.put (.cells #[.slice B1 r.1.prog.length b1, .slice B2 r.1.cells.length b2, .int .i64 r.1.pc, .bool r.1.fails, .slice B3 r.1.box.length b3] 26))
  clear k0 hl0
  have k0 := fun o => blk_cell hO.g0 o
  have hl0 := (Array.getElem?_eq_some_iff.1 hO.g0).1
  have k1 := fun o => blk_cell hO.g1 o
  have hl1 := (Array.getElem?_eq_some_iff.1 hO.g1).1
  have hF := Lib.hid ((hP2.stays.and (hX2.stays.and hS2.stays)).alloc (.cells #[.slice B1 r.1.prog.length b1, .slice B2 r.1.cells.length b2, .int .i64 r.1.pc, .bool r.1.fails, .slice B3 r.1.box.length b3] 26))
  clear hB2 hP2 hX2 hS2
  go_wp2_with fail
  refine (toPart_c p _ _ _ f1 f2 f3 _ (hP.out.below hO.out.1) (by omega) (by omega) (by omega)).mono ?_
  rintro e w5 ⟨U1, U2, U3, u1, u2, u3, rfl, hN1, hB2⟩
  obtain ⟨hN1, hW1⟩ := hN1.get
  have hR1 : Hid (∀ b ∈ u1 ++ (u2 ++ u3), w4.heap.size + 1 ≤ b ∧ b < w5.heap.size) := Lib.hid (fun b hb => by simpa using (hW1.2 b hb).1)
  have hz5 : Hid (w4.heap.size + 1 ≤ w5.heap.size) := Lib.hid (by simpa using hB2.size)
  obtain ⟨E1, e1, rfl, _⟩ := hN1.prog.form
  obtain ⟨E2, e2, rfl, _⟩ := hN1.cells.form
  obtain ⟨E3, e3, rfl, _⟩ := hN1.box.form
  have hO := Lib.hid (hO.out.below hB2)
  clear k0 k1 hl0 hl1
  have k0 := fun o => blk_cell hO.g0 o
  have hl0 := (Array.getElem?_eq_some_iff.1 hO.g0).1
  have k1 := fun o => blk_cell hO.g1 o
  have hl1 := (Array.getElem?_eq_some_iff.1 hO.g1).1
  have hO := Lib.hid (hO.out.put (.cells #[.slice E1 p.prog.length e1, .slice E2 p.cells.length e2, .int .i64 p.pc, .bool p.fails, .slice E3 p.box.length e3] 26))
  clear k0 k1 hl0 hl1
  have k0 := fun o => blk_cell hO.g0 o
  have hl0 := (Array.getElem?_eq_some_iff.1 hO.g0).1
  have k1 := fun o => blk_cell hO.g1 o
  have hl1 := (Array.getElem?_eq_some_iff.1 hO.g1).1
  have k2 := fun o => blk_cell hO.g2 o
  have hl2 := (Array.getElem?_eq_some_iff.1 hO.g2).1
  replace hF := Lib.hid ((hF.out.below hB2).alloc (.cells #[.slice E1 p.prog.length e1, .slice E2 p.cells.length e2, .int .i64 p.pc, .bool p.fails, .slice E3 p.box.length e3] 26))
  have hL := Lib.hid ((hN1.stays.and hW1.stays).alloc (.cells #[.slice E1 p.prog.length e1, .slice E2 p.cells.length e2, .int .i64 p.pc, .bool p.fails, .slice E3 p.box.length e3] 26))
  clear hB2 hN1 hW1
  go_wp2_with fail
  refine (toIntS_c xs _ f4 _ (hX.out.below hO.out.1) (by omega)).mono ?_
  rintro e w6 ⟨E4, e4, u4, rfl, hN2, hB3⟩
  obtain ⟨hN2, hW2⟩ := hN2.get
  have hR2 : Hid (∀ b ∈ u4, w5.heap.size + 1 ≤ b ∧ b < w6.heap.size) := Lib.hid (fun b hb => by simpa using (hW2.2 b hb).1)
  have hz6 : Hid (w5.heap.size + 1 ≤ w6.heap.size) := Lib.hid (by simpa using hB3.size)
  have hO := Lib.hid (hO.out.below hB3)
  clear k0 k1 k2 hl0 hl1 hl2
  have k0 := fun o => blk_cell hO.g0 o
  have hl0 := (Array.getElem?_eq_some_iff.1 hO.g0).1
  have k1 := fun o => blk_cell hO.g1 o
  have hl1 := (Array.getElem?_eq_some_iff.1 hO.g1).1
  have k2 := fun o => blk_cell hO.g2 o
  have hl2 := (Array.getElem?_eq_some_iff.1 hO.g2).1
  replace hF := Lib.hid (hF.out.below hB3)
  replace hL := Lib.hid ((hL.out.below hB3).and (hN2.stays.and hW2.stays))
  clear hB3 hN2 hW2
  go_wp2_with fail
  refine (hst.out _ _ _ _ u1 u2 u3 u4 _ hL.out.get.1.1 hL.out.get.2.1 (by omega)).mono ?_
  intro e w7 hq
  obtain ⟨D1, d1, D2, d2, D3, d3, D4, d4, D5, d5, h1, h2, h3, h4, h5, rfl, hP3, hX3, hS3, hW3, hB3⟩ := hq.get5
  clear hq
  have hR3 : Hid (∀ b ∈ h1 ++ (h2 ++ (h3 ++ (h4 ++ h5))), w6.heap.size ≤ b ∧ b < w7.heap.size) := Lib.hid (fun b hb => (hW3.2 b hb).1)
  have hz7 : Hid (w6.heap.size ≤ w7.heap.size) := Lib.hid hB3.size
  have hO := Lib.hid (hO.out.below hB3)
  clear k0 k1 k2 hl0 hl1 hl2
  have k0 := fun o => blk_cell hO.g0 o
  have hl0 := (Array.getElem?_eq_some_iff.1 hO.g0).1
  have k1 := fun o => blk_cell hO.g1 o
  have hl1 := (Array.getElem?_eq_some_iff.1 hO.g1).1
  have k2 := fun o => blk_cell hO.g2 o
  have hl2 := (Array.getElem?_eq_some_iff.1 hO.g2).1
  have hO := Lib.hid (hO.out.put (.cells #[.slice D1 r.1.prog.length d1, .slice D2 r.1.cells.length d2, .int .i64 r.1.pc, .bool r.1.fails, .slice D3 r.1.box.length d3] 26))
  clear k0 k1 k2 hl0 hl1 hl2
  have k0 := fun o => blk_cell hO.g0 o
  have hl0 := (Array.getElem?_eq_some_iff.1 hO.g0).1
  have k1 := fun o => blk_cell hO.g1 o
  have hl1 := (Array.getElem?_eq_some_iff.1 hO.g1).1
  have k2 := fun o => blk_cell hO.g2 o
  have hl2 := (Array.getElem?_eq_some_iff.1 hO.g2).1
  have k3 := fun o => blk_cell hO.g3 o
  have hl3 := (Array.getElem?_eq_some_iff.1 hO.g3).1
  replace hF := Lib.hid ((hF.out.below hB3).alloc (.cells #[.slice D1 r.1.prog.length d1, .slice D2 r.1.cells.length d2, .int .i64 r.1.pc, .bool r.1.fails, .slice D3 r.1.box.length d3] 26))
  replace hL := Lib.hid ((hL.out.below hB3).alloc (.cells #[.slice D1 r.1.prog.length d1, .slice D2 r.1.cells.length d2, .int .i64 r.1.pc, .bool r.1.fails, .slice D3 r.1.box.length d3] 26))
  have hG := Lib.hid ((hP3.stays.and (hX3.stays.and (hS3.stays.and hW3.stays))).alloc (.cells #[.slice D1 r.1.prog.length d1, .slice D2 r.1.cells.length d2, .int .i64 r.1.pc, .bool r.1.fails, .slice D3 r.1.box.length d3] 26))
  clear hB3 hP3 hX3 hS3 hW3
  go_wp2_with fail
  refine (eqPart_c r.1 _ _ _ _ _ _ h1 h2 h3 g1 g2 g3 _ hG.out.get.1 hF.out.get.1).mono ?_
  rintro e w8 ⟨rfl, hB4⟩
  have hO := Lib.hid (hO.out.below hB4)
  clear k0 k1 k2 k3 hl0 hl1 hl2 hl3
  have k0 := fun o => blk_cell hO.g0 o
  have hl0 := (Array.getElem?_eq_some_iff.1 hO.g0).1
  have k1 := fun o => blk_cell hO.g1 o
  have hl1 := (Array.getElem?_eq_some_iff.1 hO.g1).1
  have k2 := fun o => blk_cell hO.g2 o
  have hl2 := (Array.getElem?_eq_some_iff.1 hO.g2).1
  have k3 := fun o => blk_cell hO.g3 o
  have hl3 := (Array.getElem?_eq_some_iff.1 hO.g3).1
  replace hF := Lib.hid (hF.out.below hB4)
  replace hL := Lib.hid (hL.out.below hB4)
  replace hG := Lib.hid (hG.out.below hB4)
  clear hB4
  go_wp2_with fail
  refine (eqIntS_c r.2.1 _ _ h4 g4 _ hG.out.get.2.1 hF.out.get.2.1).mono ?_
  rintro e w8 ⟨rfl, hB4⟩
  have hO := Lib.hid (hO.out.below hB4)
  clear k0 k1 k2 k3 hl0 hl1 hl2 hl3
  have k0 := fun o => blk_cell hO.g0 o
  have hl0 := (Array.getElem?_eq_some_iff.1 hO.g0).1
  have k1 := fun o => blk_cell hO.g1 o
  have hl1 := (Array.getElem?_eq_some_iff.1 hO.g1).1
  have k2 := fun o => blk_cell hO.g2 o
  have hl2 := (Array.getElem?_eq_some_iff.1 hO.g2).1
  have k3 := fun o => blk_cell hO.g3 o
  have hl3 := (Array.getElem?_eq_some_iff.1 hO.g3).1
  replace hF := Lib.hid (hF.out.below hB4)
  replace hL := Lib.hid (hL.out.below hB4)
  replace hG := Lib.hid (hG.out.below hB4)
  clear hB4
  go_wp2_with fail
  refine (eqSaidS_c r.2.2 _ _ h5 g5 _ hG.out.get.2.2.1 hF.out.get.2.2).mono ?_
  rintro e w8 ⟨rfl, hB4⟩
  have hO := Lib.hid (hO.out.below hB4)
  clear k0 k1 k2 k3 hl0 hl1 hl2 hl3
  have k0 := fun o => blk_cell hO.g0 o
  have hl0 := (Array.getElem?_eq_some_iff.1 hO.g0).1
  have k1 := fun o => blk_cell hO.g1 o
  have hl1 := (Array.getElem?_eq_some_iff.1 hO.g1).1
  have k2 := fun o => blk_cell hO.g2 o
  have hl2 := (Array.getElem?_eq_some_iff.1 hO.g2).1
  have k3 := fun o => blk_cell hO.g3 o
  have hl3 := (Array.getElem?_eq_some_iff.1 hO.g3).1
  replace hF := Lib.hid (hF.out.below hB4)
  replace hL := Lib.hid (hL.out.below hB4)
  replace hG := Lib.hid (hG.out.below hB4)
  clear hB4
  go_wp2_with fail
  obtain ⟨J, hJ, hJb, hJ0⟩ := opaqueJ hO.out (hF.out.and (hL.out.and hG.out))
  clear hO hF hL hG k0 k1 k2 k3 hl0 hl1 hl2 hl3
  have hTp := Lib.hid (fun W hW => toPart_c p _ _ _ f1 f2 f3 W (hP.out.below hW) (by omega) (by omega) (by omega))
  apply region_inv (VV [IsV _, IsV _, (fun v W => VP p v W), IsV _, IsV _]) (fun _ W => J W) (fun W1 W2 => Below W1.heap.size W1 W2) (by kernel_rfl) 180 rfl (by kernel_rfl)
  case h0 =>
    exact hJb.out _ _ hJ0 ((Below.refl _ _).drew)
  case hsteps =>
    refine ⟨?_, ?_, ?_, ?_, ?_, trivial⟩
    · refine stepOK_of _ [13] rfl (by kernel_rfl) ?_ rfl
      intro t ρ W ht hc hf hn ho hI
      clear hn
      have s13 := ho.1
      simp only [Array.getD_eq_getD_getElem?] at s13
      clear ho
      have hI' := Lib.hid hI
      have k := fun o => blk_cell (hJ.out W hI).1.g1 o
      clear hI
      go_simp
      exact post_mk hI'.out (Below.refl _ _) rfl
    · refine stepOK_of _ [4] rfl (by kernel_rfl) ?_ rfl
      intro t ρ W ht hc hf hn ho hI
      clear hn
      have s4 := ho.1
      simp only [Array.getD_eq_getD_getElem?] at s4
      clear ho
      have hI' := Lib.hid hI
      have k := fun o => blk_cell (hJ.out W hI).1.g3 o
      clear hI
      go_simp
      exact post_mk hI'.out (Below.refl _ _) rfl
    · refine stepOK_of _ [] rfl (by kernel_rfl) ?_ rfl
      intro t ρ W ht hc hf hn ho hI
      obtain ⟨u1, q1, s73⟩ := hn.1
      clear hn
      have q1 : u1 = _ := q1
      subst q1
      have s73 : ρ (.tmp 73) = _ := s73
      clear ho
      have hI' := Lib.hid hI
      go_simp
      refine (hTp.out W (hJ.out W hI).1.1).mono ?_
      rintro e W2 ⟨U1, U2, U3, a1, a2, a3, rfl, hN, hb⟩
      exact endp_mk (post_mk (hJb.out _ _ hI'.out hb) hb ⟨U1, U2, U3, a1, a2, a3, rfl, hN.get.1⟩)
    · refine stepOK_of _ [] rfl (by kernel_rfl) ?_ rfl
      intro t ρ W ht hc hf hn ho hI
      obtain ⟨u0, q0, s72⟩ := hn.1
      obtain ⟨u2, q2, s74⟩ := hn.2.1
      clear hn
      have q0 : u0 = _ := q0
      subst q0
      have s72 : ρ (.tmp 72) = _ := s72
      obtain ⟨U1, U2, U3, a1, a2, a3, rfl, hU⟩ := q2
      have s74 : ρ (.tmp 74) = _ := s74
      clear ho
      have hI' := Lib.hid hI
      go_simp
      refine (eqPart_c p _ _ _ _ _ _ u1 u2 u3 a1 a2 a3 W (hJ.out W hI).2.2.1.1.1 hU).mono ?_
      rintro e W2 ⟨rfl, hb⟩
      exact endp_mk (post_mk (hJb.out _ _ hI'.out hb) hb rfl)
    · refine stepOK_of _ [] rfl (by kernel_rfl) ?_ rfl
      intro t ρ W ht hc hf hn ho hI
      obtain ⟨u3, q3, s75⟩ := hn.1
      clear hn
      have q3 : u3 = _ := q3
      subst q3
      have s75 : ρ (.tmp 75) = _ := s75
      clear ho
      have hI' := Lib.hid hI
      clear hI
      go_simp
      exact post_mk (hI'.out) (Below.refl _ _) rfl
  case hst => exact vv_stable ⟨isV_st, isV_st, fun v W1 W2 hR h => by obtain ⟨U1, U2, U3, a1, a2, a3, h1, h2⟩ := h; exact ⟨U1, U2, U3, a1, a2, a3, h1, h2.below hR⟩, isV_st, isV_st, trivial⟩
  intro vs W hlen hI hV
  obtain ⟨x0, x1, x2, x3, x4, rfl⟩ := list_len5_X6 vs hlen
  have y0 : x0 = _ := hV 0 _ rfl
  subst y0
  have y1 : x1 = _ := hV 1 _ rfl
  subst y1
  have y2 := hV 2 _ rfl
  obtain ⟨U1, U2, U3, a1, a2, a3, rfl, hU⟩ := y2
  have y3 : x3 = _ := hV 3 _ rfl
  subst y3
  have y4 : x4 = _ := hV 4 _ rfl
  subst y4
  clear hV hlen
  simp only [Exit.then, putAll, Act.put, List.setIfInBounds_toArray, List.set_cons_zero, List.set_cons_succ]
  skip
  go_wp2_with fail
  refine (toIntS_c xs _ f4 _ (hX.out.below (hJ.out _ hI).1.1) (by omega)).mono ?_
  rintro e w8 ⟨U4, d4', k4', rfl, hN2, hB4⟩
  have hN2 := Lib.hid hN2.get.1
  replace hI := hJb.out _ _ hI hB4
  clear hB4
  go_wp2_with fail
  refine (eqIntS_c xs _ _ u4 _ _ (hJ.out _ hI).2.2.1.2.1 hN2.out).mono ?_
  clear hN2
  rintro e w9 ⟨rfl, hB4⟩
  replace hI := hJb.out _ _ hI hB4
  clear hB4
  obtain ⟨hO, hF, ⟨⟨hxP, hxO⟩, hxS, hxQ⟩, hG⟩ := hJ.out _ hI
  clear hJ hJb hI hTp
  have hzz : Hid ((w.heap.size < w4.heap.size ∧ w4.heap.size + 1 ≤ w5.heap.size) ∧ w5.heap.size + 1 ≤ w6.heap.size ∧ w6.heap.size ≤ w7.heap.size) := Lib.hid ⟨⟨hz4.out, hz5.out⟩, hz6.out, hz7.out⟩
  have hR0 : Hid (∀ b ∈ (u1 ++ (u2 ++ u3)) ++ u4, (w4.heap.size + 1 ≤ b ∧ b < w5.heap.size) ∨ (w5.heap.size + 1 ≤ b ∧ b < w6.heap.size)) := Lib.hid (fun b hb => by
    rcases List.mem_append.1 hb with hb | hb
    · exact .inl (hR1.out b hb)
    · exact .inr (hR2.out b hb))
  clear hz4 hz5 hz6 hz7
  obtain ⟨K, hK, hKb, hKm, hK0⟩ := opaqueK ((u1 ++ (u2 ++ u3)) ++ u4) (((fix_ptf r.1 _ _ _ g1 g2 g3).and ((fix_sl kI _ r.2.1 g4).and (fix_sl kSd _ r.2.2 g5))).and ((fix_ptf r.1 _ _ _ h1 h2 h3).and ((fix_sl kI _ r.2.1 h4).and ((fix_sl kSd _ r.2.2 h5).and (fix_own _ _ (h1 ++ (h2 ++ (h3 ++ (h4 ++ h5))))))))) hO ⟨hF, hG⟩ (fun b hb => by have := hR0.out b hb; have := hzz.out; omega) (mem4 (fun hb => by have := hR0.out _ hb; have := hzz.out; omega) (fun hb => by have := hR0.out _ hb; have := hzz.out; omega) (fun hb => by have := hR0.out _ hb; have := hzz.out; omega) (fun hb => by have := hR0.out _ hb; have := hzz.out; omega)) (fun b hb hs => by
    have := hR0.out b hs
    have := hzz.out
    rcases List.mem_append.1 hb with hb | hb
    · have := hRF.out b hb
      omega
    · have := hR3.out b (mem_g5 hb)
      omega)
  have hd4 : Hid (∀ b ∈ u4, b ∉ u1 ++ (u2 ++ u3)) := Lib.hid (fun b hb hs => by have := hR1.out b hs; have := hR2.out b hb; omega)
  replace hxP := Lib.hid hxP
  replace hxO := Lib.hid hxO
  replace hxS := Lib.hid hxS
  replace hxQ := Lib.hid hxQ
  clear hO hF hG hR0 hR1 hR2
  have hO := Lib.hid (hK.out _ hK0).1
  have k0 := fun o => blk_cell hO.g0 o
  have hl0 := (Array.getElem?_eq_some_iff.1 hO.g0).1
  have k1 := fun o => blk_cell hO.g1 o
  have hl1 := (Array.getElem?_eq_some_iff.1 hO.g1).1
  have k2 := fun o => blk_cell hO.g2 o
  have hl2 := (Array.getElem?_eq_some_iff.1 hO.g2).1
  have k3 := fun o => blk_cell hO.g3 o
  have hl3 := (Array.getElem?_eq_some_iff.1 hO.g3).1
  clear hO
  go_wp2_with fail
  refine (markPart_c p _ _ _ u1 u2 u3 _ _ 1 _ hxP.out hxO.out (by decide) (by decide) (by omega) (by omega) (by omega)).mono ?_
  rintro e w8 ⟨he, hKe, _⟩
  obtain ⟨m1, hm1⟩ : ∃ m1 : Int, m1 = 1 + 3 * p.prog.length + p.cells.length + p.box.length := ⟨_, rfl⟩
  rw [← hm1] at he
  subst he
  have hm1a : 0 ≤ m1 ∧ m1 ≤ 6000000 := by omega
  clear hm1
  replace hK0 := hKm.out _ _ _ hK0 hKe (fun b hb => List.mem_append_left _ hb)
  replace hxS := Lib.hid (hxS.out.kept hKe hd4.out)
  replace hxQ := Lib.hid (hxQ.out.kept hKe hd4.out)
  clear k0 k1 k2 k3 hl0 hl1 hl2 hl3
  have hO := Lib.hid (hK.out _ hK0).1
  have k0 := fun o => blk_cell hO.g0 o
  have hl0 := (Array.getElem?_eq_some_iff.1 hO.g0).1
  have k1 := fun o => blk_cell hO.g1 o
  have hl1 := (Array.getElem?_eq_some_iff.1 hO.g1).1
  have k2 := fun o => blk_cell hO.g2 o
  have hl2 := (Array.getElem?_eq_some_iff.1 hO.g2).1
  have k3 := fun o => blk_cell hO.g3 o
  have hl3 := (Array.getElem?_eq_some_iff.1 hO.g3).1
  clear hO
  clear hKe hxP hxO hd4
  go_wp2_with fail
  refine (markIntS_c xs _ u4 _ _ m1 _ hxS.out hxQ.out (by omega) (by omega) (by omega)).mono ?_
  rintro e w9 ⟨he, hKe, _⟩
  obtain ⟨m2, hm2⟩ : ∃ m2 : Int, m2 = m1 + xs.length := ⟨_, rfl⟩
  rw [← hm2] at he
  subst he
  have hm2a : ¬ m2 < 0 := by omega
  clear hm2 hm1a
  replace hK0 := hKm.out _ _ _ hK0 hKe (fun b hb => List.mem_append_right _ hb)
  clear k0 k1 k2 k3 hl0 hl1 hl2 hl3
  have hO := Lib.hid (hK.out _ hK0).1
  have k0 := fun o => blk_cell hO.g0 o
  have hl0 := (Array.getElem?_eq_some_iff.1 hO.g0).1
  have k1 := fun o => blk_cell hO.g1 o
  have hl1 := (Array.getElem?_eq_some_iff.1 hO.g1).1
  have k2 := fun o => blk_cell hO.g2 o
  have hl2 := (Array.getElem?_eq_some_iff.1 hO.g2).1
  have k3 := fun o => blk_cell hO.g3 o
  have hl3 := (Array.getElem?_eq_some_iff.1 hO.g3).1
  clear hO
  clear hKe hxS hxQ
  go_wp2_with fail
  refine (eqPart_c r.1 _ _ _ _ _ _ h1 h2 h3 g1 g2 g3 _ (hK.out _ hK0).2.2.1 (hK.out _ hK0).2.1.1).mono ?_
  rintro e w8 ⟨rfl, hB4⟩
  replace hK0 := hKb.out _ _ hK0 hB4
  clear k0 k1 k2 k3 hl0 hl1 hl2 hl3
  have hO := Lib.hid (hK.out _ hK0).1
  have k0 := fun o => blk_cell hO.g0 o
  have hl0 := (Array.getElem?_eq_some_iff.1 hO.g0).1
  have k1 := fun o => blk_cell hO.g1 o
  have hl1 := (Array.getElem?_eq_some_iff.1 hO.g1).1
  have k2 := fun o => blk_cell hO.g2 o
  have hl2 := (Array.getElem?_eq_some_iff.1 hO.g2).1
  have k3 := fun o => blk_cell hO.g3 o
  have hl3 := (Array.getElem?_eq_some_iff.1 hO.g3).1
  clear hO
  clear hB4
  go_wp2_with fail
  refine (eqIntS_c r.2.1 _ _ h4 g4 _ (hK.out _ hK0).2.2.2.1 (hK.out _ hK0).2.1.2.1).mono ?_
  rintro e w8 ⟨rfl, hB4⟩
  replace hK0 := hKb.out _ _ hK0 hB4
  clear k0 k1 k2 k3 hl0 hl1 hl2 hl3
  have hO := Lib.hid (hK.out _ hK0).1
  have k0 := fun o => blk_cell hO.g0 o
  have hl0 := (Array.getElem?_eq_some_iff.1 hO.g0).1
  have k1 := fun o => blk_cell hO.g1 o
  have hl1 := (Array.getElem?_eq_some_iff.1 hO.g1).1
  have k2 := fun o => blk_cell hO.g2 o
  have hl2 := (Array.getElem?_eq_some_iff.1 hO.g2).1
  have k3 := fun o => blk_cell hO.g3 o
  have hl3 := (Array.getElem?_eq_some_iff.1 hO.g3).1
  clear hO
  clear hB4
  go_wp2_with fail
  refine (eqSaidS_c r.2.2 _ _ h5 g5 _ (hK.out _ hK0).2.2.2.2.1 (hK.out _ hK0).2.1.2.2).mono ?_
  rintro e w8 ⟨rfl, hB4⟩
  replace hK0 := hKb.out _ _ hK0 hB4
  clear k0 k1 k2 k3 hl0 hl1 hl2 hl3
  have hO := Lib.hid (hK.out _ hK0).1
  have k0 := fun o => blk_cell hO.g0 o
  have hl0 := (Array.getElem?_eq_some_iff.1 hO.g0).1
  have k1 := fun o => blk_cell hO.g1 o
  have hl1 := (Array.getElem?_eq_some_iff.1 hO.g1).1
  have k2 := fun o => blk_cell hO.g2 o
  have hl2 := (Array.getElem?_eq_some_iff.1 hO.g2).1
  have k3 := fun o => blk_cell hO.g3 o
  have hl3 := (Array.getElem?_eq_some_iff.1 hO.g3).1
  clear hO
  clear hB4
  go_wp2_with fail
  obtain ⟨hO, hF, hgP, hgI, hgS, hgO⟩ := hK.out _ hK0
  clear hK hKb hKm hK0 hm2a
  obtain ⟨⟨o123, o4, o5⟩, d4, d5, d54⟩ := hgO.five
  obtain ⟨K, hK, hKb, hKm, hK0⟩ := opaqueK (h1 ++ (h2 ++ (h3 ++ (h4 ++ h5)))) ((fix_ptf r.1 _ _ _ g1 g2 g3).and ((fix_sl kI _ r.2.1 g4).and (fix_sl kSd _ r.2.2 g5))) hO hF (fun b hb => by have := hR3.out b hb; have := hzz.out; omega) (mem4 (fun hb => by have := hR3.out _ hb; have := hzz.out; omega) (fun hb => by have := hR3.out _ hb; have := hzz.out; omega) (fun hb => by have := hR3.out _ hb; have := hzz.out; omega) (fun hb => by have := hR3.out _ hb; have := hzz.out; omega)) (fun b hb hs => by
    have := hR3.out b hs
    have := hzz.out
    have := hRF.out b hb
    omega)
  replace hgP := Lib.hid hgP
  replace hgI := Lib.hid hgI
  replace hgS := Lib.hid hgS
  replace o123 := Lib.hid o123
  replace o4 := Lib.hid o4
  replace o5 := Lib.hid o5
  replace d4 := Lib.hid d4
  replace d5 := Lib.hid d5
  replace d54 := Lib.hid d54
  have hsm : (r.1.prog.length ≤ 1000 ∧ r.1.cells.length ≤ 1000 ∧ r.1.box.length ≤ 1000 ∧ r.2.1.length ≤ 1000) ∧ r.2.2.length ≤ 10000 := by rw [hr.out]; exact prun_small p now xs most
  clear hO hF hgO hR3 hRF hzz
  refine (markPart_c r.1 _ _ _ h1 h2 h3 _ _ 1 _ hgP.out o123.out (by decide) (by decide) (by omega) (by omega) (by omega)).mono ?_
  rintro e w8 ⟨he, hKe, hM1⟩
  obtain ⟨m1, hm1⟩ : ∃ m1 : Int, m1 = 1 + 3 * r.1.prog.length + r.1.cells.length + r.1.box.length := ⟨_, rfl⟩
  rw [← hm1] at he
  subst he
  have hm1a : 0 ≤ m1 ∧ m1 ≤ 6000 := by omega
  replace hm1 := Lib.hid hm1
  replace hM1 := Lib.hid hM1
  replace hK0 := hKm.out _ _ _ hK0 hKe (fun b hb => mem_g3 hb)
  have hgI2 := Lib.hid (hgI.out.kept hKe d4.out)
  replace o4 := Lib.hid (o4.out.kept hKe d4.out)
  replace hgS := Lib.hid (hgS.out.kept hKe d5.out)
  replace o5 := Lib.hid (o5.out.kept hKe d5.out)
  clear k0 k1 k2 k3 hl0 hl1 hl2 hl3
  have hO := Lib.hid (hK.out _ hK0).1
  have k0 := fun o => blk_cell hO.g0 o
  have hl0 := (Array.getElem?_eq_some_iff.1 hO.g0).1
  have k1 := fun o => blk_cell hO.g1 o
  have hl1 := (Array.getElem?_eq_some_iff.1 hO.g1).1
  have k2 := fun o => blk_cell hO.g2 o
  have hl2 := (Array.getElem?_eq_some_iff.1 hO.g2).1
  have k3 := fun o => blk_cell hO.g3 o
  have hl3 := (Array.getElem?_eq_some_iff.1 hO.g3).1
  clear hO
  clear hKe o123
  go_wp2_with fail
  refine (markIntS_c r.2.1 _ h4 _ _ m1 _ hgI2.out o4.out (by omega) (by omega) (by omega)).mono ?_
  rintro e w9 ⟨he, hKe, hM2⟩
  obtain ⟨m2, hm2⟩ : ∃ m2 : Int, m2 = m1 + r.2.1.length := ⟨_, rfl⟩
  rw [← hm2] at he
  subst he
  have hm2a : 0 ≤ m2 ∧ m2 ≤ 7000 := by omega
  replace hm2 := Lib.hid hm2
  replace hM2 := Lib.hid hM2
  replace hM1 := Lib.hid (hM1.out.kept hgP.out hKe (fun b hb hm => d4.out b hm hb))
  replace hK0 := hKm.out _ _ _ hK0 hKe (fun b hb => mem_g4 hb)
  replace hgS := Lib.hid (hgS.out.kept hKe d54.out)
  replace o5 := Lib.hid (o5.out.kept hKe d54.out)
  clear k0 k1 k2 k3 hl0 hl1 hl2 hl3
  have hO := Lib.hid (hK.out _ hK0).1
  have k0 := fun o => blk_cell hO.g0 o
  have hl0 := (Array.getElem?_eq_some_iff.1 hO.g0).1
  have k1 := fun o => blk_cell hO.g1 o
  have hl1 := (Array.getElem?_eq_some_iff.1 hO.g1).1
  have k2 := fun o => blk_cell hO.g2 o
  have hl2 := (Array.getElem?_eq_some_iff.1 hO.g2).1
  have k3 := fun o => blk_cell hO.g3 o
  have hl3 := (Array.getElem?_eq_some_iff.1 hO.g3).1
  clear hO
  clear hKe hgI2 o4 d4
  go_wp2_with fail
  refine (markSaidS_c r.2.2 _ h5 _ _ m2 _ hgS.out o5.out (by omega) (by omega) (by omega)).mono ?_
  rintro e w10 ⟨he, hKe, hM3⟩
  obtain ⟨m3, hm3⟩ : ∃ m3 : Int, m3 = m2 + 2 * r.2.2.length := ⟨_, rfl⟩
  rw [← hm3] at he
  subst he
  have hm3a : 0 ≤ m3 ∧ m3 ≤ 27000 := by omega
  replace hm3 := Lib.hid hm3
  replace hM1 := hM1.out.kept hgP.out hKe (fun b hb hm => d5.out b hm hb)
  replace hM2 := hM2.out.kept (fp := h4) (fun hN => hgI.out.in_fp (fun e => hN (by rw [e]; rfl))) hKe (fun b hb hm => d54.out b hm hb)
  replace hK0 := hKm.out _ _ _ hK0 hKe (fun b hb => mem_h5 hb)
  obtain ⟨hO, hF⟩ := hK.out _ hK0
  clear hK hKb hKm hK0 hKe hgP hgI hgS o5 d5 d54
  obtain ⟨K, hK, hKb, hK0⟩ := opaqueJ hO ((((fix_ptf r.1 _ _ _ g1 g2 g3).and ((fix_sl kI _ r.2.1 g4).and (fix_sl kSd _ r.2.2 g5))).stays hF).and (hM1.stays.and (hM2.stays.and hM3.stays)))
  clear hO hF hM1 hM2 hM3
  have s1 : ¬ m1 < 0 := by omega
  have s2 : ¬ m2 < 0 := by omega
  have s3 : ¬ m3 < 0 := by omega
  clear k0 k1 k2 k3 hl0 hl1 hl2 hl3
  have hO := Lib.hid (hK.out _ hK0).1
  have k0 := fun o => blk_cell hO.g0 o
  have hl0 := (Array.getElem?_eq_some_iff.1 hO.g0).1
  have k1 := fun o => blk_cell hO.g1 o
  have hl1 := (Array.getElem?_eq_some_iff.1 hO.g1).1
  have k2 := fun o => blk_cell hO.g2 o
  have hl2 := (Array.getElem?_eq_some_iff.1 hO.g2).1
  have k3 := fun o => blk_cell hO.g3 o
  have hl3 := (Array.getElem?_eq_some_iff.1 hO.g3).1
  clear hO
  go_wp2_with fail
  refine (heldPart_c _ _ _ _ _ _ _ _ _ _ _ 1 _ (hK.out _ hK0).2.2.1 (by decide) (by decide) (by omega) (by omega) (by omega)).mono ?_
  rintro e w8 ⟨he, hB4⟩
  rw [← hm1.out] at he
  subst he
  replace hK0 := hKb.out _ _ hK0 hB4
  clear k0 k1 k2 k3 hl0 hl1 hl2 hl3
  have hO := Lib.hid (hK.out _ hK0).1
  have k0 := fun o => blk_cell hO.g0 o
  have hl0 := (Array.getElem?_eq_some_iff.1 hO.g0).1
  have k1 := fun o => blk_cell hO.g1 o
  have hl1 := (Array.getElem?_eq_some_iff.1 hO.g1).1
  have k2 := fun o => blk_cell hO.g2 o
  have hl2 := (Array.getElem?_eq_some_iff.1 hO.g2).1
  have k3 := fun o => blk_cell hO.g3 o
  have hl3 := (Array.getElem?_eq_some_iff.1 hO.g3).1
  clear hO
  clear hB4
  go_wp2_with fail
  refine (heldIntS_c _ _ _ m1 _ (hK.out _ hK0).2.2.2.1 (by omega) (by omega) (by omega)).mono ?_
  rintro e w9 ⟨he, rfl⟩
  rw [← hm2.out] at he
  subst he
  go_wp2_with fail
  refine (heldSaidS_c _ _ _ m2 _ (hK.out _ hK0).2.2.2.2 (by omega) (by omega) (by omega)).mono ?_
  rintro e w9 ⟨he, rfl⟩
  rw [← hm3.out] at he
  subst he
  go_wp2_with fail
  refine (toPart_c p _ _ _ f1 f2 f3 _ (hP.out.below (hK.out _ hK0).1.1) (by omega) (by omega) (by omega)).mono ?_
  rintro e w10 ⟨U1, U2, U3, a1, a2, a3, rfl, hN1, hB4⟩
  have hN1 := Lib.hid hN1.get.1
  replace hK0 := hKb.out _ _ hK0 hB4
  clear k0 k1 k2 k3 hl0 hl1 hl2 hl3
  have hO := Lib.hid (hK.out _ hK0).1
  have k0 := fun o => blk_cell hO.g0 o
  have hl0 := (Array.getElem?_eq_some_iff.1 hO.g0).1
  have k1 := fun o => blk_cell hO.g1 o
  have hl1 := (Array.getElem?_eq_some_iff.1 hO.g1).1
  have k2 := fun o => blk_cell hO.g2 o
  have hl2 := (Array.getElem?_eq_some_iff.1 hO.g2).1
  have k3 := fun o => blk_cell hO.g3 o
  have hl3 := (Array.getElem?_eq_some_iff.1 hO.g3).1
  clear hO
  clear hB4
  go_wp2_with fail
  refine (toIntS_c xs _ f4 _ (hX.out.below (hK.out _ hK0).1.1) (by omega)).mono ?_
  rintro e w11 ⟨U4, y0, a4, rfl, hN2, hB4⟩
  have hN2 := Lib.hid hN2.get.1
  replace hN1 := Lib.hid (hN1.out.below hB4)
  replace hK0 := hKb.out _ _ hK0 hB4
  clear k0 k1 k2 k3 hl0 hl1 hl2 hl3
  have hO := Lib.hid (hK.out _ hK0).1
  have k0 := fun o => blk_cell hO.g0 o
  have hl0 := (Array.getElem?_eq_some_iff.1 hO.g0).1
  have k1 := fun o => blk_cell hO.g1 o
  have hl1 := (Array.getElem?_eq_some_iff.1 hO.g1).1
  have k2 := fun o => blk_cell hO.g2 o
  have hl2 := (Array.getElem?_eq_some_iff.1 hO.g2).1
  have k3 := fun o => blk_cell hO.g3 o
  have hl3 := (Array.getElem?_eq_some_iff.1 hO.g3).1
  clear hO
  clear hB4
  go_wp2_with fail
  refine (hst.out _ _ _ _ a1 a2 a3 a4 _ hN1.out hN2.out (by omega)).mono ?_
  intro e w12 hq
  obtain ⟨G1, y1, G2, y2, G3, y3, G4, y4, G5, y5, i1, i2, i3, i4, i5, rfl, hP4, hX4, hS4, _, hB4⟩ := hq.get5
  clear hq hN1 hN2 hst
  replace hK0 := hKb.out _ _ hK0 hB4
  obtain ⟨hO, hF, hM1, hM2, hM3⟩ := hK.out _ hK0
  clear hK hKb hK0 hB4 k0 k1 k2 k3 hl0 hl1 hl2 hl3
  obtain ⟨K, hK, hKb, hK0⟩ := opaqueJ (hO.put (.cells #[.slice G1 r.1.prog.length y1, .slice G2 r.1.cells.length y2, .int .i64 r.1.pc, .bool r.1.fails, .slice G3 r.1.box.length y3] 26)) (((((fix_ptf r.1 _ _ _ g1 g2 g3).and ((fix_sl kI _ r.2.1 g4).and (fix_sl kSd _ r.2.2 g5))).stays hF).and ((hM1.stays.and (hM2.stays.and hM3.stays)).and (hP4.stays.and (hX4.stays.and hS4.stays)))).alloc (.cells #[.slice G1 r.1.prog.length y1, .slice G2 r.1.cells.length y2, .int .i64 r.1.pc, .bool r.1.fails, .slice G3 r.1.box.length y3] 26))
  clear hO hF hM1 hM2 hM3 hP4 hX4 hS4
  have hO := Lib.hid (hK.out _ hK0).1
  have k0 := fun o => blk_cell hO.g0 o
  have hl0 := (Array.getElem?_eq_some_iff.1 hO.g0).1
  have k1 := fun o => blk_cell hO.g1 o
  have hl1 := (Array.getElem?_eq_some_iff.1 hO.g1).1
  have k2 := fun o => blk_cell hO.g2 o
  have hl2 := (Array.getElem?_eq_some_iff.1 hO.g2).1
  have k3 := fun o => blk_cell hO.g3 o
  have hl3 := (Array.getElem?_eq_some_iff.1 hO.g3).1
  have k4 := fun o => blk_cell hO.g4 o
  have hl4 := (Array.getElem?_eq_some_iff.1 hO.g4).1
  clear hO
  go_wp2_with fail
  refine (eqPart_c r.1 _ _ _ _ _ _ i1 i2 i3 g1 g2 g3 _ (hK.out _ hK0).2.2.2.1 (hK.out _ hK0).2.1.1).mono ?_
  rintro e w8 ⟨rfl, hB4⟩
  replace hK0 := hKb.out _ _ hK0 hB4
  clear k0 k1 k2 k3 k4 hl0 hl1 hl2 hl3 hl4
  have hO := Lib.hid (hK.out _ hK0).1
  have k0 := fun o => blk_cell hO.g0 o
  have hl0 := (Array.getElem?_eq_some_iff.1 hO.g0).1
  have k1 := fun o => blk_cell hO.g1 o
  have hl1 := (Array.getElem?_eq_some_iff.1 hO.g1).1
  have k2 := fun o => blk_cell hO.g2 o
  have hl2 := (Array.getElem?_eq_some_iff.1 hO.g2).1
  have k3 := fun o => blk_cell hO.g3 o
  have hl3 := (Array.getElem?_eq_some_iff.1 hO.g3).1
  have k4 := fun o => blk_cell hO.g4 o
  have hl4 := (Array.getElem?_eq_some_iff.1 hO.g4).1
  clear hO
  clear hB4
  go_wp2_with fail
  refine (eqIntS_c r.2.1 _ _ i4 g4 _ (hK.out _ hK0).2.2.2.2.1 (hK.out _ hK0).2.1.2.1).mono ?_
  rintro e w8 ⟨rfl, hB4⟩
  replace hK0 := hKb.out _ _ hK0 hB4
  clear k0 k1 k2 k3 k4 hl0 hl1 hl2 hl3 hl4
  have hO := Lib.hid (hK.out _ hK0).1
  have k0 := fun o => blk_cell hO.g0 o
  have hl0 := (Array.getElem?_eq_some_iff.1 hO.g0).1
  have k1 := fun o => blk_cell hO.g1 o
  have hl1 := (Array.getElem?_eq_some_iff.1 hO.g1).1
  have k2 := fun o => blk_cell hO.g2 o
  have hl2 := (Array.getElem?_eq_some_iff.1 hO.g2).1
  have k3 := fun o => blk_cell hO.g3 o
  have hl3 := (Array.getElem?_eq_some_iff.1 hO.g3).1
  have k4 := fun o => blk_cell hO.g4 o
  have hl4 := (Array.getElem?_eq_some_iff.1 hO.g4).1
  clear hO
  clear hB4
  go_wp2_with fail
  refine (eqSaidS_c r.2.2 _ _ i5 g5 _ (hK.out _ hK0).2.2.2.2.2 (hK.out _ hK0).2.1.2.2).mono ?_
  rintro e w8 ⟨rfl, hB4⟩
  replace hK0 := hKb.out _ _ hK0 hB4
  clear k0 k1 k2 k3 k4 hl0 hl1 hl2 hl3 hl4
  have hO := Lib.hid (hK.out _ hK0).1
  have k0 := fun o => blk_cell hO.g0 o
  have hl0 := (Array.getElem?_eq_some_iff.1 hO.g0).1
  have k1 := fun o => blk_cell hO.g1 o
  have hl1 := (Array.getElem?_eq_some_iff.1 hO.g1).1
  have k2 := fun o => blk_cell hO.g2 o
  have hl2 := (Array.getElem?_eq_some_iff.1 hO.g2).1
  have k3 := fun o => blk_cell hO.g3 o
  have hl3 := (Array.getElem?_eq_some_iff.1 hO.g3).1
  have k4 := fun o => blk_cell hO.g4 o
  have hl4 := (Array.getElem?_eq_some_iff.1 hO.g4).1
  clear hO
  clear hB4
  go_wp2_with fail
  refine (heldPart_c _ _ _ _ _ _ _ _ _ _ _ 1 _ (hK.out _ hK0).2.2.1.1 (by decide) (by decide) (by omega) (by omega) (by omega)).mono ?_
  rintro e w8 ⟨he, hB4⟩
  rw [← hm1.out] at he
  subst he
  replace hK0 := hKb.out _ _ hK0 hB4
  clear hB4
  go_wp2_with fail
  refine (heldIntS_c _ _ _ m1 _ (hK.out _ hK0).2.2.1.2.1 (by omega) (by omega) (by omega)).mono ?_
  rintro e w9 ⟨he, rfl⟩
  rw [← hm2.out] at he
  subst he
  go_wp2_with fail
  refine (heldSaidS_c _ _ _ m2 _ (hK.out _ hK0).2.2.1.2.2 (by omega) (by omega) (by omega)).mono ?_
  rintro e w9 ⟨he, rfl⟩
  rw [← hm3.out] at he
  subst he
  go_wp2_with fail
  go_ret
  exact ⟨rfl, (hK.out _ hK0).1.1⟩
end Go.Proofs.Ytkphkkfgphhjcaa
