/- The law FnFarmSet, walked. -/
import Derived.Test.YtcbbebhjddphfaaA7
import Derived.Test.YtcbbebhjddphfaaD10
import Derived.Test.YtcbbebhjddphfaaL5
namespace Go.Proofs.Ytcbbebhjddphfaa
open Go.RowKit
set_option linter.unusedSimpArgs false
set_option linter.unusedVariables false

theorem list_len7_L6 : ∀ (l : List Value), l.length = 7 → ∃ x0 x1 x2 x3 x4 x5 x6, l = x0 :: x1 :: x2 :: x3 :: x4 :: x5 :: x6 :: []
  | x0 :: x1 :: x2 :: x3 :: x4 :: x5 :: x6 :: [], _ => ⟨x0, x1, x2, x3, x4, x5, x6, rfl⟩
theorem list_len16_L6 : ∀ (l : List Value), l.length = 16 → ∃ x0 x1 x2 x3 x4 x5 x6 x7 x8 x9 x10 x11 x12 x13 x14 x15, l = x0 :: x1 :: x2 :: x3 :: x4 :: x5 :: x6 :: x7 :: x8 :: x9 :: x10 :: x11 :: x12 :: x13 :: x14 :: x15 :: []
  | x0 :: x1 :: x2 :: x3 :: x4 :: x5 :: x6 :: x7 :: x8 :: x9 :: x10 :: x11 :: x12 :: x13 :: x14 :: x15 :: [], _ => ⟨x0, x1, x2, x3, x4, x5, x6, x7, x8, x9, x10, x11, x12, x13, x14, x15, rfl⟩

theorem dset_open (n : Int) (h0 : 0 ≤ n) (h1 : n ≤ 255) : isOpen (DSet n) = false ∧ isSet (DSet n) = true ∧ b2 (DSet n) = n := by
  obtain ⟨m, rfl⟩ := Int.eq_ofNat_of_zero_le h0
  have hm : m < 256 := by omega
  revert hm
  have : ∀ k : Fin 256, isOpen (DSet ((k : Nat) : Int)) = false ∧ isSet (DSet ((k : Nat) : Int)) = true ∧ b2 (DSet ((k : Nat) : Int)) = ((k : Nat) : Int) := by decide +kernel
  intro hm
  exact this ⟨m, hm⟩
theorem pure_set (cr vi nn : Int) (X : Fr) (hX : FSet cr vi nn = X) (hx : X.ok = true) (s wt ag : Bool) (ct nx : Int) (hf : Fm.ok ⟨s, wt, ag, ct, nx⟩ = true) :
    FH ⟨s, wt, ag, ct, nx⟩ X true = (if s then ⟨true, wt, ag, (ct + 1) % 4, nx⟩ else ⟨false, false, false, (ct + 1) % 4, nn⟩, 7) ∧
    FH ⟨false, false, false, (ct + 1) % 4, nn⟩ ⟨false, false, cr, vi, nn, ⟨#[100]⟩⟩ true = (⟨false, false, false, (ct + 1) % 4, (nn + 1) % 256⟩, 0) := by
  unfold FSet at hX
  split at hX
  · rename_i h1
    have hn := inR_iff.1 h1
    unfold FGov at hX
    split at hX
    · subst hX
      obtain ⟨d1, d2, d3⟩ := dset_open nn hn.1 hn.2
      have hb := Fm.ok_iff.1 hf
      simp only at hb
      obtain ⟨⟨c0, c1⟩, ⟨n0, n1⟩, hw⟩ := hb
      have hq : (0 ≤ cr ∧ cr ≤ 1023) ∧ 0 ≤ vi ∧ vi ≤ 63 := by
        simp [Fr.ok, inR_iff] at hx
        omega
      obtain ⟨⟨q0, q1⟩, q2, q3⟩ := hq
      have e2 := frame_d_ok nn hn.1 hn.2 cr vi q0 q1 q2 q3
      have f3 : Fm.ok ⟨false, false, false, (ct + 1) % 4, nn⟩ = true := Fm.ok_iff.2 ⟨by simp only; omega, hn, .inr rfl⟩
      constructor
      · cases s <;> simp [FH, hf, hx, Fm.gov, d1, d2, d3, Fm.counted]
      · simp [FH, f3, e2, Fm.ord]
    · subst hX
      exact absurd hx (by decide)
  · subst hX
    exact absurd hx (by decide)
set_option maxHeartbeats 4000000 in
set_option maxRecDepth 100000 in
theorem law_set (w : World) (A : Option Addr) (n c : Nat) (A2 : Option Addr) (n2 c2 : Nat) (h : Code_ w A n c) (h2 : Code_ w A2 n2 c2) : Calls Try.prog 7 #[.slice A n c, .slice A2 n2 c2] w (Ret w (.bool true)) := by
  by_cases hn : 1048576 < n
  · go_enter Try.func7, Try.ntmps7
    go_wp2_with fail
    go_ret
    exact ⟨rfl, (by repeat (first | (with_reducible exact Below.refl _ _) | (with_reducible assumption) | (with_reducible refine Below.drew ?_) | (with_reducible refine below_drewN' ?_ _) | (with_reducible refine Below.setCell ?_ (by first | (simp; done) | (simp; omega) | omega) _) | (with_reducible refine Below.alloc ?_ (by first | (simp; done) | (simp; omega) | omega) _) | (with_reducible refine Below.trans ?_ (Below.mono (by assumption) (by first | (simp; done) | (simp; omega) | omega)))))⟩
  · by_cases hn2 : 1048576 < n2
    · go_enter Try.func7, Try.ntmps7
      go_wp2_with fail
      go_ret
      exact ⟨rfl, (by repeat (first | (with_reducible exact Below.refl _ _) | (with_reducible assumption) | (with_reducible refine Below.drew ?_) | (with_reducible refine below_drewN' ?_ _) | (with_reducible refine Below.setCell ?_ (by first | (simp; done) | (simp; omega) | omega) _) | (with_reducible refine Below.alloc ?_ (by first | (simp; done) | (simp; omega) | omega) _) | (with_reducible refine Below.trans ?_ (Below.mono (by assumption) (by first | (simp; done) | (simp; omega) | omega)))))⟩
    · have hC := Lib.hid h
      have hC2 := Lib.hid h2
      clear h h2
      go_enter Try.func7, Try.ntmps7
      go_wp2_with fail
      refine (DrawFarmHear_d _ A n c hC.out).mono ?_
      rintro e w1 ⟨v1, rfl, ⟨⟨s, wt, ag, ct, nx⟩, ⟨px, gx, cx0, vx0, sx0, dx0⟩, b, rfl⟩, hB1⟩
      have hO := ((OwnL.nil w).below hB1).put (.cells #[.bool s, .bool wt, .bool ag, .int .i64 ct, .int .i64 nx] 24) |>.put' (w1.heap.size + 1) (.cells #[.bool px, .bool gx, .int .i64 cx0, .int .i64 vx0, .int .i64 sx0, .string dx0] 31) (by simp)
      clear hB1
      replace hO := Lib.hid hO
      simp only [Fm.v, Fr.v]
      go_wp2_with fail
      refine (DrawFarmSet_d _ A2 n2 c2 (hC2.out.below hO.out.1)).mono ?_
      rintro e w2 ⟨v2, rfl, ⟨cr, vi, nn, rfl⟩, hB2⟩
      replace hO := Lib.hid (hO.out.below hB2)
      clear hB2
      have hst := farmSet_c cr vi nn
      have hsr := sFarmSet_c cr vi nn
      have hpu := pure_set cr vi nn
      obtain ⟨⟨p, g, cx, vx, sx, dx⟩, hX⟩ : ∃ x, FSet cr vi nn = x := ⟨_, rfl⟩
      rw [hX] at hst hsr
      have hpu := hpu _ hX
      clear hX
      replace hst := Lib.hid hst
      replace hsr := Lib.hid hsr
      replace hpu := Lib.hid hpu
      go_wp2_with fail
      refine (hst.out _).mono ?_
      rintro e w3 ⟨rfl, hB3⟩
      replace hO := Lib.hid ((hO.out.below hB3).put (.cells #[.bool p, .bool g, .int .i64 cx, .int .i64 vx, .int .i64 sx, .string dx] 31))
      clear hB3
      have hfo := Lib.hid (sFarmOk_c ⟨s, wt, ag, ct, nx⟩)
      have hxo := Lib.hid (sFrameOk_c ⟨p, g, cx, vx, sx, dx⟩)
      simp only [Fr.v]
      go_wp2_with fail
      cases hk1 : Fr.ok ⟨p, g, cx, vx, sx, dx⟩
      · rw [hk1] at hxo
        clear hk1 hpu
        apply region_inv (VV [IsV _, IsV _, IsV _, IsV _, (IsV (.agg #[.bool p, .bool g, .int .i64 cx, .int .i64 vx, .int .i64 sx, .string dx])), IsV _, IsV _, IsV _, (IsV (.bool false)), IsV _, IsV _, IsV _, IsV _, IsV _, IsV _, IsV _]) (fun _ W => OwnL w [(w3.heap.size, .cells #[.bool p, .bool g, .int .i64 cx, .int .i64 vx, .int .i64 sx, .string dx] 31), (w1.heap.size + 1, .cells #[.bool px, .bool gx, .int .i64 cx0, .int .i64 vx0, .int .i64 sx0, .string dx0] 31), (w1.heap.size, .cells #[.bool s, .bool wt, .bool ag, .int .i64 ct, .int .i64 nx] 24)] W) (fun _ _ => True) (by kernel_rfl) 109 rfl (by kernel_rfl)
        case h0 =>
          exact hO.out.drew
        case hsteps =>
          refine ⟨?_, ?_, ?_, ?_, ?_, ?_, ?_, ?_, ?_, ?_, ?_, ?_, ?_, ?_, ?_, ?_, trivial⟩
          · refine stepOK_of _ [11] rfl (by kernel_rfl) ?_ rfl
            intro t ρ W ht hc hf hn ho hI
            clear hn
            have s11 := ho.1
            simp only [Array.getD_eq_getD_getElem?] at s11
            clear ho
            have hI' := Lib.hid hI
            have j0 := blk_cell hI.g0 0
            have j1 := blk_cell hI.g0 1
            have j2 := blk_cell hI.g0 2
            have j3 := blk_cell hI.g0 3
            have j4 := blk_cell hI.g0 4
            have j5 := blk_cell hI.g0 5
            clear hI
            go_simp
            exact post_mk (hI'.out) (trivial) rfl
          · refine stepOK_of _ [8] rfl (by kernel_rfl) ?_ rfl
            intro t ρ W ht hc hf hn ho hI
            clear hn
            have s8 := ho.1
            simp only [Array.getD_eq_getD_getElem?] at s8
            clear ho
            have hI' := Lib.hid hI
            clear hI
            go_simp
            exact post_mk (hI'.out) (trivial) rfl
          · refine stepOK_of _ [9] rfl (by kernel_rfl) ?_ rfl
            intro t ρ W ht hc hf hn ho hI
            clear hn
            have s9 := ho.1
            simp only [Array.getD_eq_getD_getElem?] at s9
            clear ho
            have hI' := Lib.hid hI
            clear hI
            go_simp
            exact post_mk (hI'.out) (trivial) rfl
          · refine stepOK_of _ [10] rfl (by kernel_rfl) ?_ rfl
            intro t ρ W ht hc hf hn ho hI
            clear hn
            have s10 := ho.1
            simp only [Array.getD_eq_getD_getElem?] at s10
            clear ho
            have hI' := Lib.hid hI
            clear hI
            go_simp
            exact post_mk (hI'.out) (trivial) rfl
          · refine stepOK_of _ [] rfl (by kernel_rfl) ?_ rfl
            intro t ρ W ht hc hf hn ho hI
            obtain ⟨u1, q1, s41⟩ := hn.1
            obtain ⟨u2, q2, s42⟩ := hn.2.1
            obtain ⟨u3, q3, s43⟩ := hn.2.2.1
            clear hn
            have q1 : u1 = _ := q1
            subst q1
            have s41 : ρ (.tmp 41) = _ := s41
            have q2 : u2 = _ := q2
            subst q2
            have s42 : ρ (.tmp 42) = _ := s42
            have q3 : u3 = _ := q3
            subst q3
            have s43 : ρ (.tmp 43) = _ := s43
            clear ho
            have hI' := Lib.hid hI
            clear hI
            go_simp
            refine (hsr.out W).mono ?_
            rintro e W2 ⟨rfl, hb⟩
            exact endp_mk (post_mk (hI'.out.below hb) trivial rfl)
          · refine stepOK_of _ [] rfl (by kernel_rfl) ?_ rfl
            intro t ρ W ht hc hf hn ho hI
            obtain ⟨u0, q0, s40⟩ := hn.1
            obtain ⟨u4, q4, s44⟩ := hn.2.1
            clear hn
            have q0 : u0 = _ := q0
            subst q0
            have s40 : ρ (.tmp 40) = _ := s40
            have q4 : u4 = _ := q4
            subst q4
            have s44 : ρ (.tmp 44) = _ := s44
            clear ho
            have hI' := Lib.hid hI
            clear hI
            go_simp
            exact post_mk (hI'.out) (trivial) rfl
          · refine stepOK_of _ [] rfl (by kernel_rfl) ?_ rfl
            intro t ρ W ht hc hf hn ho hI
            obtain ⟨u5, q5, s45⟩ := hn.1
            clear hn
            have q5 : u5 = _ := q5
            subst q5
            have s45 : ρ (.tmp 45) = _ := s45
            clear ho
            have hI' := Lib.hid hI
            clear hI
            go_simp
            exact post_mk (hI'.out) (trivial) rfl
          · refine stepOK_g _ [11] rfl (by kernel_rfl) ?_ rfl (fun v W h => h)
            intro t ρ W ht hc hf hn ho hI
            clear hn
            have s11 := ho.1
            simp only [Array.getD_eq_getD_getElem?] at s11
            clear ho
            have hI' := Lib.hid hI
            have j0 := blk_cell hI.g0 0
            have j1 := blk_cell hI.g0 1
            have j2 := blk_cell hI.g0 2
            have j3 := blk_cell hI.g0 3
            have j4 := blk_cell hI.g0 4
            have j5 := blk_cell hI.g0 5
            clear hI
            go_simp
            exact post_mk (hI'.out) (trivial) rfl
          · refine stepOK_g _ [] rfl (by kernel_rfl) ?_ rfl (fun v W h => h)
            intro t ρ W ht hc hf hn ho hI
            obtain ⟨u7, q7, s47⟩ := hn.1
            clear hn
            have q7 : u7 = _ := q7
            subst q7
            have s47 : ρ (.tmp 47) = _ := s47
            clear ho
            have hI' := Lib.hid hI
            clear hI
            go_simp
            refine (hxo.out W).mono ?_
            rintro e W2 ⟨rfl, hb⟩
            exact endp_mk (post_mk (hI'.out.below hb) trivial rfl)
          · refine stepOK_g _ [] rfl (by kernel_rfl) ?_ rfl (fun v W h => h)
            intro t ρ W ht hc hf hn ho hI
            obtain ⟨u8, q8, s48⟩ := hn.1
            clear hn
            have q8 : u8 = _ := q8
            subst q8
            have s48 : ρ (.tmp 48) = _ := s48
            clear ho
            have hI' := Lib.hid hI
            clear hI
            go_simp
            exact post_mk (hI'.out) (trivial) rfl
          · refine stepOK_of _ [] rfl (by kernel_rfl) ?_ rfl
            intro t ρ W ht hc hf hn ho hI
            obtain ⟨u6, q6, s46⟩ := hn.1
            obtain ⟨u9, q9, s49⟩ := hn.2.1
            clear hn
            have q6 : u6 = _ := q6
            subst q6
            have s46 : ρ (.tmp 46) = _ := s46
            have q9 : u9 = _ := q9
            subst q9
            have s49 : ρ (.tmp 49) = _ := s49
            clear ho
            have hI' := Lib.hid hI
            clear hI
            go_simp
            exact post_mk (hI'.out) (trivial) rfl
          · refine stepOK_of _ [] rfl (by kernel_rfl) ?_ rfl
            intro t ρ W ht hc hf hn ho hI
            obtain ⟨u10, q10, s50⟩ := hn.1
            clear hn
            have q10 : u10 = _ := q10
            subst q10
            have s50 : ρ (.tmp 50) = _ := s50
            clear ho
            have hI' := Lib.hid hI
            clear hI
            go_simp
            exact post_mk (hI'.out) (trivial) rfl
          · exact stepOK_skip rfl (fun v W h => h) (fun t W hI => ⟨hI, trivial, rfl⟩)
          · exact stepOK_skip rfl (fun v W h => h) (fun t W hI => ⟨hI, trivial, rfl⟩)
          · exact stepOK_skip rfl (fun v W h => h) (fun t W hI => ⟨hI, trivial, rfl⟩)
          · refine stepOK_of _ [] rfl (by kernel_rfl) ?_ rfl
            intro t ρ W ht hc hf hn ho hI
            obtain ⟨u11, q11, s51⟩ := hn.1
            obtain ⟨u14, q14, s54⟩ := hn.2.1
            clear hn
            have q11 : u11 = _ := q11
            subst q11
            have s51 : ρ (.tmp 51) = _ := s51
            have q14 : u14 = _ := q14
            subst q14
            have s54 : ρ (.tmp 54) = _ := s54
            clear ho
            have hI' := Lib.hid hI
            clear hI
            go_simp
            exact post_mk (hI'.out) (trivial) rfl
        case hst => exact vv_stable ⟨isV_st, isV_st, isV_st, isV_st, fun _ _ _ _ h => h, isV_st, isV_st, isV_st, fun _ _ _ _ h => h, isV_st, isV_st, isV_st, isV_st, isV_st, isV_st, isV_st, trivial⟩
        intro vs W hlen hI hV
        obtain ⟨x0, x1, x2, x3, x4, x5, x6, x7, x8, x9, x10, x11, x12, x13, x14, x15, rfl⟩ := list_len16_L6 vs hlen
        have y0 : x0 = _ := hV 0 _ rfl
        subst y0
        have y1 : x1 = _ := hV 1 _ rfl
        subst y1
        have y2 : x2 = _ := hV 2 _ rfl
        subst y2
        have y3 : x3 = _ := hV 3 _ rfl
        subst y3
        have y4 : x4 = _ := hV 4 _ rfl
        subst y4
        have y5 : x5 = _ := hV 5 _ rfl
        subst y5
        have y6 : x6 = _ := hV 6 _ rfl
        subst y6
        have y7 : x7 = _ := hV 7 _ rfl
        subst y7
        have y8 : x8 = _ := hV 8 _ rfl
        subst y8
        have y9 : x9 = _ := hV 9 _ rfl
        subst y9
        have y10 : x10 = _ := hV 10 _ rfl
        subst y10
        have y11 : x11 = _ := hV 11 _ rfl
        subst y11
        have y12 : x12 = _ := hV 12 _ rfl
        subst y12
        have y13 : x13 = _ := hV 13 _ rfl
        subst y13
        have y14 : x14 = _ := hV 14 _ rfl
        subst y14
        have y15 : x15 = _ := hV 15 _ rfl
        subst y15
        clear hV hlen
        simp only [Exit.then, putAll, Act.put, List.setIfInBounds_toArray, List.set_cons_zero, List.set_cons_succ]
        have hI := Lib.hid hI
        go_wp2_with fail
        apply region_inv (VV [IsV _, IsV _, IsV _, IsV _, (IsV (.agg #[.bool p, .bool g, .int .i64 cx, .int .i64 vx, .int .i64 sx, .string dx])), IsV _, IsV _]) (fun _ W => OwnL w [(w3.heap.size, .cells #[.bool p, .bool g, .int .i64 cx, .int .i64 vx, .int .i64 sx, .string dx] 31), (w1.heap.size + 1, .cells #[.bool px, .bool gx, .int .i64 cx0, .int .i64 vx0, .int .i64 sx0, .string dx0] 31), (w1.heap.size, .cells #[.bool s, .bool wt, .bool ag, .int .i64 ct, .int .i64 nx] 24)] W) (fun _ _ => True) (by kernel_rfl) 109 rfl (by kernel_rfl)
        case h0 =>
          exact hI.out.drew
        case hsteps =>
          refine ⟨?_, ?_, ?_, ?_, ?_, ?_, ?_, trivial⟩
          · refine stepOK_of _ [11] rfl (by kernel_rfl) ?_ rfl
            intro t ρ W ht hc hf hn ho hI
            clear hn
            have s11 := ho.1
            simp only [Array.getD_eq_getD_getElem?] at s11
            clear ho
            have hI' := Lib.hid hI
            have j0 := blk_cell hI.g0 0
            have j1 := blk_cell hI.g0 1
            have j2 := blk_cell hI.g0 2
            have j3 := blk_cell hI.g0 3
            have j4 := blk_cell hI.g0 4
            have j5 := blk_cell hI.g0 5
            clear hI
            go_simp
            exact post_mk (hI'.out) (trivial) rfl
          · refine stepOK_of _ [8] rfl (by kernel_rfl) ?_ rfl
            intro t ρ W ht hc hf hn ho hI
            clear hn
            have s8 := ho.1
            simp only [Array.getD_eq_getD_getElem?] at s8
            clear ho
            have hI' := Lib.hid hI
            clear hI
            go_simp
            exact post_mk (hI'.out) (trivial) rfl
          · refine stepOK_of _ [9] rfl (by kernel_rfl) ?_ rfl
            intro t ρ W ht hc hf hn ho hI
            clear hn
            have s9 := ho.1
            simp only [Array.getD_eq_getD_getElem?] at s9
            clear ho
            have hI' := Lib.hid hI
            clear hI
            go_simp
            exact post_mk (hI'.out) (trivial) rfl
          · refine stepOK_of _ [10] rfl (by kernel_rfl) ?_ rfl
            intro t ρ W ht hc hf hn ho hI
            clear hn
            have s10 := ho.1
            simp only [Array.getD_eq_getD_getElem?] at s10
            clear ho
            have hI' := Lib.hid hI
            clear hI
            go_simp
            exact post_mk (hI'.out) (trivial) rfl
          · refine stepOK_of _ [] rfl (by kernel_rfl) ?_ rfl
            intro t ρ W ht hc hf hn ho hI
            obtain ⟨u1, q1, s57⟩ := hn.1
            obtain ⟨u2, q2, s58⟩ := hn.2.1
            obtain ⟨u3, q3, s59⟩ := hn.2.2.1
            clear hn
            have q1 : u1 = _ := q1
            subst q1
            have s57 : ρ (.tmp 57) = _ := s57
            have q2 : u2 = _ := q2
            subst q2
            have s58 : ρ (.tmp 58) = _ := s58
            have q3 : u3 = _ := q3
            subst q3
            have s59 : ρ (.tmp 59) = _ := s59
            clear ho
            have hI' := Lib.hid hI
            clear hI
            go_simp
            refine (hsr.out W).mono ?_
            rintro e W2 ⟨rfl, hb⟩
            exact endp_mk (post_mk (hI'.out.below hb) trivial rfl)
          · refine stepOK_of _ [] rfl (by kernel_rfl) ?_ rfl
            intro t ρ W ht hc hf hn ho hI
            obtain ⟨u0, q0, s56⟩ := hn.1
            obtain ⟨u4, q4, s60⟩ := hn.2.1
            clear hn
            have q0 : u0 = _ := q0
            subst q0
            have s56 : ρ (.tmp 56) = _ := s56
            have q4 : u4 = _ := q4
            subst q4
            have s60 : ρ (.tmp 60) = _ := s60
            clear ho
            have hI' := Lib.hid hI
            clear hI
            go_simp
            exact post_mk (hI'.out) (trivial) rfl
          · refine stepOK_of _ [] rfl (by kernel_rfl) ?_ rfl
            intro t ρ W ht hc hf hn ho hI
            obtain ⟨u5, q5, s61⟩ := hn.1
            clear hn
            have q5 : u5 = _ := q5
            subst q5
            have s61 : ρ (.tmp 61) = _ := s61
            clear ho
            have hI' := Lib.hid hI
            clear hI
            go_simp
            exact post_mk (hI'.out) (trivial) rfl
        case hst => exact vv_stable ⟨isV_st, isV_st, isV_st, isV_st, fun _ _ _ _ h => h, isV_st, isV_st, trivial⟩
        intro vs W hlen hI hV
        obtain ⟨x0, x1, x2, x3, x4, x5, x6, rfl⟩ := list_len7_L6 vs hlen
        have y0 : x0 = _ := hV 0 _ rfl
        subst y0
        have y1 : x1 = _ := hV 1 _ rfl
        subst y1
        have y2 : x2 = _ := hV 2 _ rfl
        subst y2
        have y3 : x3 = _ := hV 3 _ rfl
        subst y3
        have y4 : x4 = _ := hV 4 _ rfl
        subst y4
        have y5 : x5 = _ := hV 5 _ rfl
        subst y5
        have y6 : x6 = _ := hV 6 _ rfl
        subst y6
        clear hV hlen
        simp only [Exit.then, putAll, Act.put, List.setIfInBounds_toArray, List.set_cons_zero, List.set_cons_succ]
        have hI := Lib.hid hI
        go_wp2_with fail
        go_ret
        exact ⟨rfl, hI.out.1⟩
      · rw [hk1] at hxo
        cases hk2 : Fm.ok ⟨s, wt, ag, ct, nx⟩
        · rw [hk2] at hfo
          clear hk1 hk2 hpu
          apply region_inv (VV [IsV _, IsV _, IsV _, IsV _, (IsV (.agg #[.bool p, .bool g, .int .i64 cx, .int .i64 vx, .int .i64 sx, .string dx])), IsV _, IsV _, IsV _, (IsV (.bool true)), IsV _, IsV _, IsV _, IsV _, (IsV (.bool false)), IsV _, IsV _]) (fun _ W => OwnL w [(w3.heap.size, .cells #[.bool p, .bool g, .int .i64 cx, .int .i64 vx, .int .i64 sx, .string dx] 31), (w1.heap.size + 1, .cells #[.bool px, .bool gx, .int .i64 cx0, .int .i64 vx0, .int .i64 sx0, .string dx0] 31), (w1.heap.size, .cells #[.bool s, .bool wt, .bool ag, .int .i64 ct, .int .i64 nx] 24)] W) (fun _ _ => True) (by kernel_rfl) 109 rfl (by kernel_rfl)
          case h0 =>
            exact hO.out.drew
          case hsteps =>
            refine ⟨?_, ?_, ?_, ?_, ?_, ?_, ?_, ?_, ?_, ?_, ?_, ?_, ?_, ?_, ?_, ?_, trivial⟩
            · refine stepOK_of _ [11] rfl (by kernel_rfl) ?_ rfl
              intro t ρ W ht hc hf hn ho hI
              clear hn
              have s11 := ho.1
              simp only [Array.getD_eq_getD_getElem?] at s11
              clear ho
              have hI' := Lib.hid hI
              have j0 := blk_cell hI.g0 0
              have j1 := blk_cell hI.g0 1
              have j2 := blk_cell hI.g0 2
              have j3 := blk_cell hI.g0 3
              have j4 := blk_cell hI.g0 4
              have j5 := blk_cell hI.g0 5
              clear hI
              go_simp
              exact post_mk (hI'.out) (trivial) rfl
            · refine stepOK_of _ [8] rfl (by kernel_rfl) ?_ rfl
              intro t ρ W ht hc hf hn ho hI
              clear hn
              have s8 := ho.1
              simp only [Array.getD_eq_getD_getElem?] at s8
              clear ho
              have hI' := Lib.hid hI
              clear hI
              go_simp
              exact post_mk (hI'.out) (trivial) rfl
            · refine stepOK_of _ [9] rfl (by kernel_rfl) ?_ rfl
              intro t ρ W ht hc hf hn ho hI
              clear hn
              have s9 := ho.1
              simp only [Array.getD_eq_getD_getElem?] at s9
              clear ho
              have hI' := Lib.hid hI
              clear hI
              go_simp
              exact post_mk (hI'.out) (trivial) rfl
            · refine stepOK_of _ [10] rfl (by kernel_rfl) ?_ rfl
              intro t ρ W ht hc hf hn ho hI
              clear hn
              have s10 := ho.1
              simp only [Array.getD_eq_getD_getElem?] at s10
              clear ho
              have hI' := Lib.hid hI
              clear hI
              go_simp
              exact post_mk (hI'.out) (trivial) rfl
            · refine stepOK_of _ [] rfl (by kernel_rfl) ?_ rfl
              intro t ρ W ht hc hf hn ho hI
              obtain ⟨u1, q1, s41⟩ := hn.1
              obtain ⟨u2, q2, s42⟩ := hn.2.1
              obtain ⟨u3, q3, s43⟩ := hn.2.2.1
              clear hn
              have q1 : u1 = _ := q1
              subst q1
              have s41 : ρ (.tmp 41) = _ := s41
              have q2 : u2 = _ := q2
              subst q2
              have s42 : ρ (.tmp 42) = _ := s42
              have q3 : u3 = _ := q3
              subst q3
              have s43 : ρ (.tmp 43) = _ := s43
              clear ho
              have hI' := Lib.hid hI
              clear hI
              go_simp
              refine (hsr.out W).mono ?_
              rintro e W2 ⟨rfl, hb⟩
              exact endp_mk (post_mk (hI'.out.below hb) trivial rfl)
            · refine stepOK_of _ [] rfl (by kernel_rfl) ?_ rfl
              intro t ρ W ht hc hf hn ho hI
              obtain ⟨u0, q0, s40⟩ := hn.1
              obtain ⟨u4, q4, s44⟩ := hn.2.1
              clear hn
              have q0 : u0 = _ := q0
              subst q0
              have s40 : ρ (.tmp 40) = _ := s40
              have q4 : u4 = _ := q4
              subst q4
              have s44 : ρ (.tmp 44) = _ := s44
              clear ho
              have hI' := Lib.hid hI
              clear hI
              go_simp
              exact post_mk (hI'.out) (trivial) rfl
            · refine stepOK_of _ [] rfl (by kernel_rfl) ?_ rfl
              intro t ρ W ht hc hf hn ho hI
              obtain ⟨u5, q5, s45⟩ := hn.1
              clear hn
              have q5 : u5 = _ := q5
              subst q5
              have s45 : ρ (.tmp 45) = _ := s45
              clear ho
              have hI' := Lib.hid hI
              clear hI
              go_simp
              exact post_mk (hI'.out) (trivial) rfl
            · refine stepOK_g _ [11] rfl (by kernel_rfl) ?_ rfl (fun v W h => h)
              intro t ρ W ht hc hf hn ho hI
              clear hn
              have s11 := ho.1
              simp only [Array.getD_eq_getD_getElem?] at s11
              clear ho
              have hI' := Lib.hid hI
              have j0 := blk_cell hI.g0 0
              have j1 := blk_cell hI.g0 1
              have j2 := blk_cell hI.g0 2
              have j3 := blk_cell hI.g0 3
              have j4 := blk_cell hI.g0 4
              have j5 := blk_cell hI.g0 5
              clear hI
              go_simp
              exact post_mk (hI'.out) (trivial) rfl
            · refine stepOK_g _ [] rfl (by kernel_rfl) ?_ rfl (fun v W h => h)
              intro t ρ W ht hc hf hn ho hI
              obtain ⟨u7, q7, s47⟩ := hn.1
              clear hn
              have q7 : u7 = _ := q7
              subst q7
              have s47 : ρ (.tmp 47) = _ := s47
              clear ho
              have hI' := Lib.hid hI
              clear hI
              go_simp
              refine (hxo.out W).mono ?_
              rintro e W2 ⟨rfl, hb⟩
              exact endp_mk (post_mk (hI'.out.below hb) trivial rfl)
            · refine stepOK_g _ [] rfl (by kernel_rfl) ?_ rfl (fun v W h => h)
              intro t ρ W ht hc hf hn ho hI
              obtain ⟨u8, q8, s48⟩ := hn.1
              clear hn
              have q8 : u8 = _ := q8
              subst q8
              have s48 : ρ (.tmp 48) = _ := s48
              clear ho
              have hI' := Lib.hid hI
              clear hI
              go_simp
              exact post_mk (hI'.out) (trivial) rfl
            · refine stepOK_of _ [] rfl (by kernel_rfl) ?_ rfl
              intro t ρ W ht hc hf hn ho hI
              obtain ⟨u6, q6, s46⟩ := hn.1
              obtain ⟨u9, q9, s49⟩ := hn.2.1
              clear hn
              have q6 : u6 = _ := q6
              subst q6
              have s46 : ρ (.tmp 46) = _ := s46
              have q9 : u9 = _ := q9
              subst q9
              have s49 : ρ (.tmp 49) = _ := s49
              clear ho
              have hI' := Lib.hid hI
              clear hI
              go_simp
              exact post_mk (hI'.out) (trivial) rfl
            · refine stepOK_of _ [] rfl (by kernel_rfl) ?_ rfl
              intro t ρ W ht hc hf hn ho hI
              obtain ⟨u10, q10, s50⟩ := hn.1
              clear hn
              have q10 : u10 = _ := q10
              subst q10
              have s50 : ρ (.tmp 50) = _ := s50
              clear ho
              have hI' := Lib.hid hI
              clear hI
              go_simp
              exact post_mk (hI'.out) (trivial) rfl
            · refine stepOK_g _ [5] rfl (by kernel_rfl) ?_ rfl (fun v W h => h)
              intro t ρ W ht hc hf hn ho hI
              clear hn
              have s5 := ho.1
              simp only [Array.getD_eq_getD_getElem?] at s5
              clear ho
              have hI' := Lib.hid hI
              have j0 := blk_cell hI.g2 0
              have j1 := blk_cell hI.g2 1
              have j2 := blk_cell hI.g2 2
              have j3 := blk_cell hI.g2 3
              have j4 := blk_cell hI.g2 4
              clear hI
              go_simp
              exact post_mk (hI'.out) (trivial) rfl
            · refine stepOK_g _ [] rfl (by kernel_rfl) ?_ rfl (fun v W h => h)
              intro t ρ W ht hc hf hn ho hI
              obtain ⟨u12, q12, s52⟩ := hn.1
              clear hn
              have q12 : u12 = _ := q12
              subst q12
              have s52 : ρ (.tmp 52) = _ := s52
              clear ho
              have hI' := Lib.hid hI
              clear hI
              go_simp
              refine (hfo.out W).mono ?_
              rintro e W2 ⟨rfl, hb⟩
              exact endp_mk (post_mk (hI'.out.below hb) trivial rfl)
            · refine stepOK_g _ [] rfl (by kernel_rfl) ?_ rfl (fun v W h => h)
              intro t ρ W ht hc hf hn ho hI
              obtain ⟨u13, q13, s53⟩ := hn.1
              clear hn
              have q13 : u13 = _ := q13
              subst q13
              have s53 : ρ (.tmp 53) = _ := s53
              clear ho
              have hI' := Lib.hid hI
              clear hI
              go_simp
              exact post_mk (hI'.out) (trivial) rfl
            · refine stepOK_of _ [] rfl (by kernel_rfl) ?_ rfl
              intro t ρ W ht hc hf hn ho hI
              obtain ⟨u11, q11, s51⟩ := hn.1
              obtain ⟨u14, q14, s54⟩ := hn.2.1
              clear hn
              have q11 : u11 = _ := q11
              subst q11
              have s51 : ρ (.tmp 51) = _ := s51
              have q14 : u14 = _ := q14
              subst q14
              have s54 : ρ (.tmp 54) = _ := s54
              clear ho
              have hI' := Lib.hid hI
              clear hI
              go_simp
              exact post_mk (hI'.out) (trivial) rfl
          case hst => exact vv_stable ⟨isV_st, isV_st, isV_st, isV_st, fun _ _ _ _ h => h, isV_st, isV_st, isV_st, fun _ _ _ _ h => h, isV_st, isV_st, isV_st, isV_st, fun _ _ _ _ h => h, isV_st, isV_st, trivial⟩
          intro vs W hlen hI hV
          obtain ⟨x0, x1, x2, x3, x4, x5, x6, x7, x8, x9, x10, x11, x12, x13, x14, x15, rfl⟩ := list_len16_L6 vs hlen
          have y0 : x0 = _ := hV 0 _ rfl
          subst y0
          have y1 : x1 = _ := hV 1 _ rfl
          subst y1
          have y2 : x2 = _ := hV 2 _ rfl
          subst y2
          have y3 : x3 = _ := hV 3 _ rfl
          subst y3
          have y4 : x4 = _ := hV 4 _ rfl
          subst y4
          have y5 : x5 = _ := hV 5 _ rfl
          subst y5
          have y6 : x6 = _ := hV 6 _ rfl
          subst y6
          have y7 : x7 = _ := hV 7 _ rfl
          subst y7
          have y8 : x8 = _ := hV 8 _ rfl
          subst y8
          have y9 : x9 = _ := hV 9 _ rfl
          subst y9
          have y10 : x10 = _ := hV 10 _ rfl
          subst y10
          have y11 : x11 = _ := hV 11 _ rfl
          subst y11
          have y12 : x12 = _ := hV 12 _ rfl
          subst y12
          have y13 : x13 = _ := hV 13 _ rfl
          subst y13
          have y14 : x14 = _ := hV 14 _ rfl
          subst y14
          have y15 : x15 = _ := hV 15 _ rfl
          subst y15
          clear hV hlen
          simp only [Exit.then, putAll, Act.put, List.setIfInBounds_toArray, List.set_cons_zero, List.set_cons_succ]
          have hI := Lib.hid hI
          go_wp2_with fail
          apply region_inv (VV [IsV _, IsV _, IsV _, IsV _, (IsV (.agg #[.bool p, .bool g, .int .i64 cx, .int .i64 vx, .int .i64 sx, .string dx])), IsV _, IsV _]) (fun _ W => OwnL w [(w3.heap.size, .cells #[.bool p, .bool g, .int .i64 cx, .int .i64 vx, .int .i64 sx, .string dx] 31), (w1.heap.size + 1, .cells #[.bool px, .bool gx, .int .i64 cx0, .int .i64 vx0, .int .i64 sx0, .string dx0] 31), (w1.heap.size, .cells #[.bool s, .bool wt, .bool ag, .int .i64 ct, .int .i64 nx] 24)] W) (fun _ _ => True) (by kernel_rfl) 109 rfl (by kernel_rfl)
          case h0 =>
            exact hI.out.drew
          case hsteps =>
            refine ⟨?_, ?_, ?_, ?_, ?_, ?_, ?_, trivial⟩
            · refine stepOK_of _ [11] rfl (by kernel_rfl) ?_ rfl
              intro t ρ W ht hc hf hn ho hI
              clear hn
              have s11 := ho.1
              simp only [Array.getD_eq_getD_getElem?] at s11
              clear ho
              have hI' := Lib.hid hI
              have j0 := blk_cell hI.g0 0
              have j1 := blk_cell hI.g0 1
              have j2 := blk_cell hI.g0 2
              have j3 := blk_cell hI.g0 3
              have j4 := blk_cell hI.g0 4
              have j5 := blk_cell hI.g0 5
              clear hI
              go_simp
              exact post_mk (hI'.out) (trivial) rfl
            · refine stepOK_of _ [8] rfl (by kernel_rfl) ?_ rfl
              intro t ρ W ht hc hf hn ho hI
              clear hn
              have s8 := ho.1
              simp only [Array.getD_eq_getD_getElem?] at s8
              clear ho
              have hI' := Lib.hid hI
              clear hI
              go_simp
              exact post_mk (hI'.out) (trivial) rfl
            · refine stepOK_of _ [9] rfl (by kernel_rfl) ?_ rfl
              intro t ρ W ht hc hf hn ho hI
              clear hn
              have s9 := ho.1
              simp only [Array.getD_eq_getD_getElem?] at s9
              clear ho
              have hI' := Lib.hid hI
              clear hI
              go_simp
              exact post_mk (hI'.out) (trivial) rfl
            · refine stepOK_of _ [10] rfl (by kernel_rfl) ?_ rfl
              intro t ρ W ht hc hf hn ho hI
              clear hn
              have s10 := ho.1
              simp only [Array.getD_eq_getD_getElem?] at s10
              clear ho
              have hI' := Lib.hid hI
              clear hI
              go_simp
              exact post_mk (hI'.out) (trivial) rfl
            · refine stepOK_of _ [] rfl (by kernel_rfl) ?_ rfl
              intro t ρ W ht hc hf hn ho hI
              obtain ⟨u1, q1, s57⟩ := hn.1
              obtain ⟨u2, q2, s58⟩ := hn.2.1
              obtain ⟨u3, q3, s59⟩ := hn.2.2.1
              clear hn
              have q1 : u1 = _ := q1
              subst q1
              have s57 : ρ (.tmp 57) = _ := s57
              have q2 : u2 = _ := q2
              subst q2
              have s58 : ρ (.tmp 58) = _ := s58
              have q3 : u3 = _ := q3
              subst q3
              have s59 : ρ (.tmp 59) = _ := s59
              clear ho
              have hI' := Lib.hid hI
              clear hI
              go_simp
              refine (hsr.out W).mono ?_
              rintro e W2 ⟨rfl, hb⟩
              exact endp_mk (post_mk (hI'.out.below hb) trivial rfl)
            · refine stepOK_of _ [] rfl (by kernel_rfl) ?_ rfl
              intro t ρ W ht hc hf hn ho hI
              obtain ⟨u0, q0, s56⟩ := hn.1
              obtain ⟨u4, q4, s60⟩ := hn.2.1
              clear hn
              have q0 : u0 = _ := q0
              subst q0
              have s56 : ρ (.tmp 56) = _ := s56
              have q4 : u4 = _ := q4
              subst q4
              have s60 : ρ (.tmp 60) = _ := s60
              clear ho
              have hI' := Lib.hid hI
              clear hI
              go_simp
              exact post_mk (hI'.out) (trivial) rfl
            · refine stepOK_of _ [] rfl (by kernel_rfl) ?_ rfl
              intro t ρ W ht hc hf hn ho hI
              obtain ⟨u5, q5, s61⟩ := hn.1
              clear hn
              have q5 : u5 = _ := q5
              subst q5
              have s61 : ρ (.tmp 61) = _ := s61
              clear ho
              have hI' := Lib.hid hI
              clear hI
              go_simp
              exact post_mk (hI'.out) (trivial) rfl
          case hst => exact vv_stable ⟨isV_st, isV_st, isV_st, isV_st, fun _ _ _ _ h => h, isV_st, isV_st, trivial⟩
          intro vs W hlen hI hV
          obtain ⟨x0, x1, x2, x3, x4, x5, x6, rfl⟩ := list_len7_L6 vs hlen
          have y0 : x0 = _ := hV 0 _ rfl
          subst y0
          have y1 : x1 = _ := hV 1 _ rfl
          subst y1
          have y2 : x2 = _ := hV 2 _ rfl
          subst y2
          have y3 : x3 = _ := hV 3 _ rfl
          subst y3
          have y4 : x4 = _ := hV 4 _ rfl
          subst y4
          have y5 : x5 = _ := hV 5 _ rfl
          subst y5
          have y6 : x6 = _ := hV 6 _ rfl
          subst y6
          clear hV hlen
          simp only [Exit.then, putAll, Act.put, List.setIfInBounds_toArray, List.set_cons_zero, List.set_cons_succ]
          have hI := Lib.hid hI
          go_wp2_with fail
          go_ret
          exact ⟨rfl, hI.out.1⟩
        · rw [hk2] at hfo
          obtain ⟨p1, p2⟩ := hpu.out hk1 s wt ag ct nx hk2
          have hh1 := hear_c ⟨s, wt, ag, ct, nx⟩ ⟨p, g, cx, vx, sx, dx⟩ true
          have hh2 := hear_c ⟨false, false, false, (ct + 1) % 4, nn⟩ ⟨false, false, cr, vi, nn, ⟨#[100]⟩⟩ true
          rw [p1] at hh1
          rw [p2] at hh2
          replace hh1 := Lib.hid hh1
          replace hh2 := Lib.hid hh2
          clear p1 p2 hk1 hk2 hpu
          apply region_inv (VV [IsV _, IsV _, IsV _, IsV _, (IsV (.agg #[.bool p, .bool g, .int .i64 cx, .int .i64 vx, .int .i64 sx, .string dx])), IsV _, IsV _, IsV _, (IsV (.bool true)), IsV _, IsV _, IsV _, IsV _, (IsV (.bool true)), IsV _, IsV _]) (fun _ W => OwnL w [(w3.heap.size, .cells #[.bool p, .bool g, .int .i64 cx, .int .i64 vx, .int .i64 sx, .string dx] 31), (w1.heap.size + 1, .cells #[.bool px, .bool gx, .int .i64 cx0, .int .i64 vx0, .int .i64 sx0, .string dx0] 31), (w1.heap.size, .cells #[.bool s, .bool wt, .bool ag, .int .i64 ct, .int .i64 nx] 24)] W) (fun _ _ => True) (by kernel_rfl) 109 rfl (by kernel_rfl)
          case h0 =>
            exact hO.out.drew
          case hsteps =>
            refine ⟨?_, ?_, ?_, ?_, ?_, ?_, ?_, ?_, ?_, ?_, ?_, ?_, ?_, ?_, ?_, ?_, trivial⟩
            · refine stepOK_of _ [11] rfl (by kernel_rfl) ?_ rfl
              intro t ρ W ht hc hf hn ho hI
              clear hn
              have s11 := ho.1
              simp only [Array.getD_eq_getD_getElem?] at s11
              clear ho
              have hI' := Lib.hid hI
              have j0 := blk_cell hI.g0 0
              have j1 := blk_cell hI.g0 1
              have j2 := blk_cell hI.g0 2
              have j3 := blk_cell hI.g0 3
              have j4 := blk_cell hI.g0 4
              have j5 := blk_cell hI.g0 5
              clear hI
              go_simp
              exact post_mk (hI'.out) (trivial) rfl
            · refine stepOK_of _ [8] rfl (by kernel_rfl) ?_ rfl
              intro t ρ W ht hc hf hn ho hI
              clear hn
              have s8 := ho.1
              simp only [Array.getD_eq_getD_getElem?] at s8
              clear ho
              have hI' := Lib.hid hI
              clear hI
              go_simp
              exact post_mk (hI'.out) (trivial) rfl
            · refine stepOK_of _ [9] rfl (by kernel_rfl) ?_ rfl
              intro t ρ W ht hc hf hn ho hI
              clear hn
              have s9 := ho.1
              simp only [Array.getD_eq_getD_getElem?] at s9
              clear ho
              have hI' := Lib.hid hI
              clear hI
              go_simp
              exact post_mk (hI'.out) (trivial) rfl
            · refine stepOK_of _ [10] rfl (by kernel_rfl) ?_ rfl
              intro t ρ W ht hc hf hn ho hI
              clear hn
              have s10 := ho.1
              simp only [Array.getD_eq_getD_getElem?] at s10
              clear ho
              have hI' := Lib.hid hI
              clear hI
              go_simp
              exact post_mk (hI'.out) (trivial) rfl
            · refine stepOK_of _ [] rfl (by kernel_rfl) ?_ rfl
              intro t ρ W ht hc hf hn ho hI
              obtain ⟨u1, q1, s41⟩ := hn.1
              obtain ⟨u2, q2, s42⟩ := hn.2.1
              obtain ⟨u3, q3, s43⟩ := hn.2.2.1
              clear hn
              have q1 : u1 = _ := q1
              subst q1
              have s41 : ρ (.tmp 41) = _ := s41
              have q2 : u2 = _ := q2
              subst q2
              have s42 : ρ (.tmp 42) = _ := s42
              have q3 : u3 = _ := q3
              subst q3
              have s43 : ρ (.tmp 43) = _ := s43
              clear ho
              have hI' := Lib.hid hI
              clear hI
              go_simp
              refine (hsr.out W).mono ?_
              rintro e W2 ⟨rfl, hb⟩
              exact endp_mk (post_mk (hI'.out.below hb) trivial rfl)
            · refine stepOK_of _ [] rfl (by kernel_rfl) ?_ rfl
              intro t ρ W ht hc hf hn ho hI
              obtain ⟨u0, q0, s40⟩ := hn.1
              obtain ⟨u4, q4, s44⟩ := hn.2.1
              clear hn
              have q0 : u0 = _ := q0
              subst q0
              have s40 : ρ (.tmp 40) = _ := s40
              have q4 : u4 = _ := q4
              subst q4
              have s44 : ρ (.tmp 44) = _ := s44
              clear ho
              have hI' := Lib.hid hI
              clear hI
              go_simp
              exact post_mk (hI'.out) (trivial) rfl
            · refine stepOK_of _ [] rfl (by kernel_rfl) ?_ rfl
              intro t ρ W ht hc hf hn ho hI
              obtain ⟨u5, q5, s45⟩ := hn.1
              clear hn
              have q5 : u5 = _ := q5
              subst q5
              have s45 : ρ (.tmp 45) = _ := s45
              clear ho
              have hI' := Lib.hid hI
              clear hI
              go_simp
              exact post_mk (hI'.out) (trivial) rfl
            · refine stepOK_g _ [11] rfl (by kernel_rfl) ?_ rfl (fun v W h => h)
              intro t ρ W ht hc hf hn ho hI
              clear hn
              have s11 := ho.1
              simp only [Array.getD_eq_getD_getElem?] at s11
              clear ho
              have hI' := Lib.hid hI
              have j0 := blk_cell hI.g0 0
              have j1 := blk_cell hI.g0 1
              have j2 := blk_cell hI.g0 2
              have j3 := blk_cell hI.g0 3
              have j4 := blk_cell hI.g0 4
              have j5 := blk_cell hI.g0 5
              clear hI
              go_simp
              exact post_mk (hI'.out) (trivial) rfl
            · refine stepOK_g _ [] rfl (by kernel_rfl) ?_ rfl (fun v W h => h)
              intro t ρ W ht hc hf hn ho hI
              obtain ⟨u7, q7, s47⟩ := hn.1
              clear hn
              have q7 : u7 = _ := q7
              subst q7
              have s47 : ρ (.tmp 47) = _ := s47
              clear ho
              have hI' := Lib.hid hI
              clear hI
              go_simp
              refine (hxo.out W).mono ?_
              rintro e W2 ⟨rfl, hb⟩
              exact endp_mk (post_mk (hI'.out.below hb) trivial rfl)
            · refine stepOK_g _ [] rfl (by kernel_rfl) ?_ rfl (fun v W h => h)
              intro t ρ W ht hc hf hn ho hI
              obtain ⟨u8, q8, s48⟩ := hn.1
              clear hn
              have q8 : u8 = _ := q8
              subst q8
              have s48 : ρ (.tmp 48) = _ := s48
              clear ho
              have hI' := Lib.hid hI
              clear hI
              go_simp
              exact post_mk (hI'.out) (trivial) rfl
            · refine stepOK_of _ [] rfl (by kernel_rfl) ?_ rfl
              intro t ρ W ht hc hf hn ho hI
              obtain ⟨u6, q6, s46⟩ := hn.1
              obtain ⟨u9, q9, s49⟩ := hn.2.1
              clear hn
              have q6 : u6 = _ := q6
              subst q6
              have s46 : ρ (.tmp 46) = _ := s46
              have q9 : u9 = _ := q9
              subst q9
              have s49 : ρ (.tmp 49) = _ := s49
              clear ho
              have hI' := Lib.hid hI
              clear hI
              go_simp
              exact post_mk (hI'.out) (trivial) rfl
            · refine stepOK_of _ [] rfl (by kernel_rfl) ?_ rfl
              intro t ρ W ht hc hf hn ho hI
              obtain ⟨u10, q10, s50⟩ := hn.1
              clear hn
              have q10 : u10 = _ := q10
              subst q10
              have s50 : ρ (.tmp 50) = _ := s50
              clear ho
              have hI' := Lib.hid hI
              clear hI
              go_simp
              exact post_mk (hI'.out) (trivial) rfl
            · refine stepOK_g _ [5] rfl (by kernel_rfl) ?_ rfl (fun v W h => h)
              intro t ρ W ht hc hf hn ho hI
              clear hn
              have s5 := ho.1
              simp only [Array.getD_eq_getD_getElem?] at s5
              clear ho
              have hI' := Lib.hid hI
              have j0 := blk_cell hI.g2 0
              have j1 := blk_cell hI.g2 1
              have j2 := blk_cell hI.g2 2
              have j3 := blk_cell hI.g2 3
              have j4 := blk_cell hI.g2 4
              clear hI
              go_simp
              exact post_mk (hI'.out) (trivial) rfl
            · refine stepOK_g _ [] rfl (by kernel_rfl) ?_ rfl (fun v W h => h)
              intro t ρ W ht hc hf hn ho hI
              obtain ⟨u12, q12, s52⟩ := hn.1
              clear hn
              have q12 : u12 = _ := q12
              subst q12
              have s52 : ρ (.tmp 52) = _ := s52
              clear ho
              have hI' := Lib.hid hI
              clear hI
              go_simp
              refine (hfo.out W).mono ?_
              rintro e W2 ⟨rfl, hb⟩
              exact endp_mk (post_mk (hI'.out.below hb) trivial rfl)
            · refine stepOK_g _ [] rfl (by kernel_rfl) ?_ rfl (fun v W h => h)
              intro t ρ W ht hc hf hn ho hI
              obtain ⟨u13, q13, s53⟩ := hn.1
              clear hn
              have q13 : u13 = _ := q13
              subst q13
              have s53 : ρ (.tmp 53) = _ := s53
              clear ho
              have hI' := Lib.hid hI
              clear hI
              go_simp
              exact post_mk (hI'.out) (trivial) rfl
            · refine stepOK_of _ [] rfl (by kernel_rfl) ?_ rfl
              intro t ρ W ht hc hf hn ho hI
              obtain ⟨u11, q11, s51⟩ := hn.1
              obtain ⟨u14, q14, s54⟩ := hn.2.1
              clear hn
              have q11 : u11 = _ := q11
              subst q11
              have s51 : ρ (.tmp 51) = _ := s51
              have q14 : u14 = _ := q14
              subst q14
              have s54 : ρ (.tmp 54) = _ := s54
              clear ho
              have hI' := Lib.hid hI
              clear hI
              go_simp
              exact post_mk (hI'.out) (trivial) rfl
          case hst => exact vv_stable ⟨isV_st, isV_st, isV_st, isV_st, fun _ _ _ _ h => h, isV_st, isV_st, isV_st, fun _ _ _ _ h => h, isV_st, isV_st, isV_st, isV_st, fun _ _ _ _ h => h, isV_st, isV_st, trivial⟩
          intro vs W hlen hI hV
          obtain ⟨x0, x1, x2, x3, x4, x5, x6, x7, x8, x9, x10, x11, x12, x13, x14, x15, rfl⟩ := list_len16_L6 vs hlen
          have y0 : x0 = _ := hV 0 _ rfl
          subst y0
          have y1 : x1 = _ := hV 1 _ rfl
          subst y1
          have y2 : x2 = _ := hV 2 _ rfl
          subst y2
          have y3 : x3 = _ := hV 3 _ rfl
          subst y3
          have y4 : x4 = _ := hV 4 _ rfl
          subst y4
          have y5 : x5 = _ := hV 5 _ rfl
          subst y5
          have y6 : x6 = _ := hV 6 _ rfl
          subst y6
          have y7 : x7 = _ := hV 7 _ rfl
          subst y7
          have y8 : x8 = _ := hV 8 _ rfl
          subst y8
          have y9 : x9 = _ := hV 9 _ rfl
          subst y9
          have y10 : x10 = _ := hV 10 _ rfl
          subst y10
          have y11 : x11 = _ := hV 11 _ rfl
          subst y11
          have y12 : x12 = _ := hV 12 _ rfl
          subst y12
          have y13 : x13 = _ := hV 13 _ rfl
          subst y13
          have y14 : x14 = _ := hV 14 _ rfl
          subst y14
          have y15 : x15 = _ := hV 15 _ rfl
          subst y15
          clear hV hlen
          simp only [Exit.then, putAll, Act.put, List.setIfInBounds_toArray, List.set_cons_zero, List.set_cons_succ]
          clear hO
          have hO := hI
          clear hI
          have k0 := fun o => blk_cell hO.g0 o
          have hl0 := (Array.getElem?_eq_some_iff.1 hO.g0).1
          have k2 := fun o => blk_cell hO.g2 o
          have hl2 := (Array.getElem?_eq_some_iff.1 hO.g2).1
          replace hO := Lib.hid hO
          go_wp2_with fail
          refine (hh1.out _).mono ?_
          rintro e w4 ⟨rfl, hB4⟩
          replace hO := hO.out.below hB4
          clear k0 k2 hl0 hl2 hB4
          have k2 := fun o => blk_cell hO.g2 o
          have hl2 := (Array.getElem?_eq_some_iff.1 hO.g2).1
          cases s
          · replace hO := Lib.hid (hO.put (.cells #[.bool false, .bool false, .bool false, .int .i64 ((ct + 1) % 4), .int .i64 nn] 24))
            simp only [Fm.v, if_true, Bool.false_eq_true, if_false]
            go_wp2_with fail
            refine (hh2.out _).mono ?_
            rintro e w5 ⟨rfl, hB5⟩
            replace hO := hO.out.below hB5
            clear k2 hl2 hB5
            have k0 := fun o => blk_cell hO.g0 o
            have hl0 := (Array.getElem?_eq_some_iff.1 hO.g0).1
            replace hO := Lib.hid (hO.put (.cells #[.bool false, .bool false, .bool false, .int .i64 ((ct + 1) % 4), .int .i64 ((nn + 1) % 256)] 24))
            simp only [Fm.v]
            go_wp2_with fail
            go_ret
            first
              | exact ⟨rfl, hO.out.1⟩
              | exact ⟨rfl, (hO.out.alloc _).1⟩
          · replace hO := Lib.hid (hO.put (.cells #[.bool true, .bool wt, .bool ag, .int .i64 ((ct + 1) % 4), .int .i64 nx] 24))
            simp only [Fm.v, if_true]
            go_wp2_with fail
            go_ret
            first
              | exact ⟨rfl, hO.out.1⟩
              | exact ⟨rfl, (hO.out.alloc _).1⟩

end Go.Proofs.Ytcbbebhjddphfaa
