/- The law FnFarmOpen, walked. -/
import Derived.Test.YtcbbebhjddphfaaA6
import Derived.Test.YtcbbebhjddphfaaD4
import Derived.Test.YtcbbebhjddphfaaL0
namespace Go.Proofs.Ytcbbebhjddphfaa
open Go.RowKit
set_option linter.unusedSimpArgs false
set_option linter.unusedVariables false

theorem list_len6 : ∀ (l : List Value), l.length = 6 → ∃ x0 x1 x2 x3 x4 x5, l = x0 :: x1 :: x2 :: x3 :: x4 :: x5 :: []
  | x0 :: x1 :: x2 :: x3 :: x4 :: x5 :: [], _ => ⟨x0, x1, x2, x3, x4, x5, rfl⟩
theorem list_len15 : ∀ (l : List Value), l.length = 15 → ∃ x0 x1 x2 x3 x4 x5 x6 x7 x8 x9 x10 x11 x12 x13 x14, l = x0 :: x1 :: x2 :: x3 :: x4 :: x5 :: x6 :: x7 :: x8 :: x9 :: x10 :: x11 :: x12 :: x13 :: x14 :: []
  | x0 :: x1 :: x2 :: x3 :: x4 :: x5 :: x6 :: x7 :: x8 :: x9 :: x10 :: x11 :: x12 :: x13 :: x14 :: [], _ => ⟨x0, x1, x2, x3, x4, x5, x6, x7, x8, x9, x10, x11, x12, x13, x14, rfl⟩

theorem pure_open (cr vi : Int) (f : Fm) (h : (FGov cr vi ⟨#[0]⟩).ok = true) (hf : f.ok = true) : FH f (FGov cr vi ⟨#[0]⟩) false = ({ f with sh := false, wt := false, ag := false, ct := (f.ct + 1) % 4 }, 7) := by
  unfold FGov at h ⊢
  split at h
  · rename_i h1
    rw [if_pos h1]
    have e : isOpen ⟨#[0]⟩ = true := by decide +kernel
    simp [FH, hf, h, Fm.gov, e, Fm.counted]
  · rename_i h1
    exact absurd h (by decide)
set_option maxHeartbeats 4000000 in
set_option maxRecDepth 100000 in
theorem law_open (w : World) (A : Option Addr) (n c : Nat) (A2 : Option Addr) (n2 c2 : Nat) (h : Code_ w A n c) (h2 : Code_ w A2 n2 c2) : Calls Try.prog 4 #[.slice A n c, .slice A2 n2 c2] w (Ret w (.bool true)) := by
  by_cases hn : 1048576 < n
  · go_enter Try.func4, Try.ntmps4
    go_wp2_with fail
    go_ret
    exact ⟨rfl, (by repeat (first | (with_reducible exact Below.refl _ _) | (with_reducible assumption) | (with_reducible refine Below.drew ?_) | (with_reducible refine below_drewN' ?_ _) | (with_reducible refine Below.setCell ?_ (by first | (simp; done) | (simp; omega) | omega) _) | (with_reducible refine Below.alloc ?_ (by first | (simp; done) | (simp; omega) | omega) _) | (with_reducible refine Below.trans ?_ (Below.mono (by assumption) (by first | (simp; done) | (simp; omega) | omega)))))⟩
  · by_cases hn2 : 1048576 < n2
    · go_enter Try.func4, Try.ntmps4
      go_wp2_with fail
      go_ret
      exact ⟨rfl, (by repeat (first | (with_reducible exact Below.refl _ _) | (with_reducible assumption) | (with_reducible refine Below.drew ?_) | (with_reducible refine below_drewN' ?_ _) | (with_reducible refine Below.setCell ?_ (by first | (simp; done) | (simp; omega) | omega) _) | (with_reducible refine Below.alloc ?_ (by first | (simp; done) | (simp; omega) | omega) _) | (with_reducible refine Below.trans ?_ (Below.mono (by assumption) (by first | (simp; done) | (simp; omega) | omega)))))⟩
    · have hC := Lib.hid h
      have hC2 := Lib.hid h2
      clear h h2
      go_enter Try.func4, Try.ntmps4
      go_wp2_with fail
      refine (DrawFarmOpen_d _ A n c hC.out).mono ?_
      rintro e w1 ⟨v1, rfl, ⟨cr, vi, rfl⟩, hB1⟩
      go_wp2_with fail
      refine (DrawFarmOk_d _ A2 n2 c2 (hC2.out.below hB1)).mono ?_
      rintro e w2 ⟨v2, rfl, ⟨⟨s, wt, ag, ct, nx⟩, rfl⟩, hB2⟩
      simp only [Fm.v]
      go_wp2_with fail
      refine (farmOpen_c cr vi _).mono ?_
      rintro e w3 ⟨rfl, hB3⟩
      have hsr := sFarmOpen_c cr vi
      have hpu := Lib.hid (pure_open cr vi ⟨s, wt, ag, ct, nx⟩)
      obtain ⟨⟨px, gx, cx, vx, sx, dx⟩, hx⟩ : ∃ x, FGov cr vi ⟨#[0]⟩ = x := ⟨_, rfl⟩
      rw [hx] at hsr hpu ⊢
      clear hx
      have hsr := Lib.hid hsr
      simp only [Fr.v]
      have hxo := Lib.hid (sFrameOk_c ⟨px, gx, cx, vx, sx, dx⟩)
      have hfo := Lib.hid (sFarmOk_c ⟨s, wt, ag, ct, nx⟩)
      go_wp2_with fail
      have hO : OwnL w [(w3.heap.size, .cells #[.bool px, .bool gx, .int .i64 cx, .int .i64 vx, .int .i64 sx, .string dx] 31), (w2.heap.size, .cells #[.bool s, .bool wt, .bool ag, .int .i64 ct, .int .i64 nx] 24)] _ := ((((OwnL.nil w).below hB1).below hB2).put _ |>.below hB3).put _
      clear hB1 hB2 hB3
      have hO := Lib.hid hO
      cases hk1 : Fr.ok ⟨px, gx, cx, vx, sx, dx⟩
      · rw [hk1] at hxo
        clear hk1
        apply region_inv (VV [IsV _, IsV _, IsV _, (IsV (.agg #[.bool px, .bool gx, .int .i64 cx, .int .i64 vx, .int .i64 sx, .string dx])), IsV _, IsV _, IsV _, (IsV (.bool false)), IsV _, IsV _, IsV _, IsV _, IsV _, IsV _, IsV _]) (fun _ W => OwnL w [(w3.heap.size, .cells #[.bool px, .bool gx, .int .i64 cx, .int .i64 vx, .int .i64 sx, .string dx] 31), (w2.heap.size, .cells #[.bool s, .bool wt, .bool ag, .int .i64 ct, .int .i64 nx] 24)] W) (fun _ _ => True) (by kernel_rfl) 88 rfl (by kernel_rfl)
        case h0 =>
          exact hO.out.drew
        case hsteps =>
          refine ⟨?_, ?_, ?_, ?_, ?_, ?_, ?_, ?_, ?_, ?_, ?_, ?_, ?_, ?_, ?_, trivial⟩
          · refine stepOK_of _ [8] rfl (by kernel_rfl) ?_ rfl
            intro t ρ W ht hc hf hn ho hI
            clear hn
            have s8 := ho.1
            simp only [Array.getD_eq_getD_getElem?] at s8
            clear ho
            have hI' := Lib.hid hI
            have j0 := blk_cell hI.g0 0
            have j1 := blk_cell hI.g0 1
            have j2 := blk_cell hI.g0 2
            have j3 := blk_cell hI.g0 3
            have j4 := blk_cell hI.g0 4
            have j5 := blk_cell hI.g0 5
            clear hI
            go_simp
            exact post_mk (hI'.out) (trivial) rfl
          · refine stepOK_of _ [5] rfl (by kernel_rfl) ?_ rfl
            intro t ρ W ht hc hf hn ho hI
            clear hn
            have s5 := ho.1
            simp only [Array.getD_eq_getD_getElem?] at s5
            clear ho
            have hI' := Lib.hid hI
            clear hI
            go_simp
            exact post_mk (hI'.out) (trivial) rfl
          · refine stepOK_of _ [6] rfl (by kernel_rfl) ?_ rfl
            intro t ρ W ht hc hf hn ho hI
            clear hn
            have s6 := ho.1
            simp only [Array.getD_eq_getD_getElem?] at s6
            clear ho
            have hI' := Lib.hid hI
            clear hI
            go_simp
            exact post_mk (hI'.out) (trivial) rfl
          · refine stepOK_of _ [] rfl (by kernel_rfl) ?_ rfl
            intro t ρ W ht hc hf hn ho hI
            obtain ⟨u1, q1, s30⟩ := hn.1
            obtain ⟨u2, q2, s31⟩ := hn.2.1
            clear hn
            have q1 : u1 = _ := q1
            subst q1
            have s30 : ρ (.tmp 30) = _ := s30
            have q2 : u2 = _ := q2
            subst q2
            have s31 : ρ (.tmp 31) = _ := s31
            clear ho
            have hI' := Lib.hid hI
            clear hI
            go_simp
            refine (hsr.out W).mono ?_
            rintro e W2 ⟨rfl, hb⟩
            exact endp_mk (post_mk (hI'.out.below hb) trivial rfl)
          · refine stepOK_of _ [] rfl (by kernel_rfl) ?_ rfl
            intro t ρ W ht hc hf hn ho hI
            obtain ⟨u0, q0, s29⟩ := hn.1
            obtain ⟨u3, q3, s32⟩ := hn.2.1
            clear hn
            have q0 : u0 = _ := q0
            subst q0
            have s29 : ρ (.tmp 29) = _ := s29
            have q3 : u3 = _ := q3
            subst q3
            have s32 : ρ (.tmp 32) = _ := s32
            clear ho
            have hI' := Lib.hid hI
            clear hI
            go_simp
            exact post_mk (hI'.out) (trivial) rfl
          · refine stepOK_of _ [] rfl (by kernel_rfl) ?_ rfl
            intro t ρ W ht hc hf hn ho hI
            obtain ⟨u4, q4, s33⟩ := hn.1
            clear hn
            have q4 : u4 = _ := q4
            subst q4
            have s33 : ρ (.tmp 33) = _ := s33
            clear ho
            have hI' := Lib.hid hI
            clear hI
            go_simp
            exact post_mk (hI'.out) (trivial) rfl
          · refine stepOK_g _ [8] rfl (by kernel_rfl) ?_ rfl (fun v W h => h)
            intro t ρ W ht hc hf hn ho hI
            clear hn
            have s8 := ho.1
            simp only [Array.getD_eq_getD_getElem?] at s8
            clear ho
            have hI' := Lib.hid hI
            have j0 := blk_cell hI.g0 0
            have j1 := blk_cell hI.g0 1
            have j2 := blk_cell hI.g0 2
            have j3 := blk_cell hI.g0 3
            have j4 := blk_cell hI.g0 4
            have j5 := blk_cell hI.g0 5
            clear hI
            go_simp
            exact post_mk (hI'.out) (trivial) rfl
          · refine stepOK_g _ [] rfl (by kernel_rfl) ?_ rfl (fun v W h => h)
            intro t ρ W ht hc hf hn ho hI
            obtain ⟨u6, q6, s35⟩ := hn.1
            clear hn
            have q6 : u6 = _ := q6
            subst q6
            have s35 : ρ (.tmp 35) = _ := s35
            clear ho
            have hI' := Lib.hid hI
            clear hI
            go_simp
            refine (hxo.out W).mono ?_
            rintro e W2 ⟨rfl, hb⟩
            exact endp_mk (post_mk (hI'.out.below hb) trivial rfl)
          · refine stepOK_g _ [] rfl (by kernel_rfl) ?_ rfl (fun v W h => h)
            intro t ρ W ht hc hf hn ho hI
            obtain ⟨u7, q7, s36⟩ := hn.1
            clear hn
            have q7 : u7 = _ := q7
            subst q7
            have s36 : ρ (.tmp 36) = _ := s36
            clear ho
            have hI' := Lib.hid hI
            clear hI
            go_simp
            exact post_mk (hI'.out) (trivial) rfl
          · refine stepOK_of _ [] rfl (by kernel_rfl) ?_ rfl
            intro t ρ W ht hc hf hn ho hI
            obtain ⟨u5, q5, s34⟩ := hn.1
            obtain ⟨u8, q8, s37⟩ := hn.2.1
            clear hn
            have q5 : u5 = _ := q5
            subst q5
            have s34 : ρ (.tmp 34) = _ := s34
            have q8 : u8 = _ := q8
            subst q8
            have s37 : ρ (.tmp 37) = _ := s37
            clear ho
            have hI' := Lib.hid hI
            clear hI
            go_simp
            exact post_mk (hI'.out) (trivial) rfl
          · refine stepOK_of _ [] rfl (by kernel_rfl) ?_ rfl
            intro t ρ W ht hc hf hn ho hI
            obtain ⟨u9, q9, s38⟩ := hn.1
            clear hn
            have q9 : u9 = _ := q9
            subst q9
            have s38 : ρ (.tmp 38) = _ := s38
            clear ho
            have hI' := Lib.hid hI
            clear hI
            go_simp
            exact post_mk (hI'.out) (trivial) rfl
          · exact stepOK_skip rfl (fun v W h => h) (fun t W hI => ⟨hI, trivial, rfl⟩)
          · exact stepOK_skip rfl (fun v W h => h) (fun t W hI => ⟨hI, trivial, rfl⟩)
          · exact stepOK_skip rfl (fun v W h => h) (fun t W hI => ⟨hI, trivial, rfl⟩)
          · refine stepOK_of _ [] rfl (by kernel_rfl) ?_ rfl
            intro t ρ W ht hc hf hn ho hI
            obtain ⟨u10, q10, s39⟩ := hn.1
            obtain ⟨u13, q13, s42⟩ := hn.2.1
            clear hn
            have q10 : u10 = _ := q10
            subst q10
            have s39 : ρ (.tmp 39) = _ := s39
            have q13 : u13 = _ := q13
            subst q13
            have s42 : ρ (.tmp 42) = _ := s42
            clear ho
            have hI' := Lib.hid hI
            clear hI
            go_simp
            exact post_mk (hI'.out) (trivial) rfl
        case hst => exact vv_stable ⟨isV_st, isV_st, isV_st, fun _ _ _ _ h => h, isV_st, isV_st, isV_st, fun _ _ _ _ h => h, isV_st, isV_st, isV_st, isV_st, isV_st, isV_st, isV_st, trivial⟩
        intro vs W hlen hI hV
        obtain ⟨x0, x1, x2, x3, x4, x5, x6, x7, x8, x9, x10, x11, x12, x13, x14, rfl⟩ := list_len15 vs hlen
        have y0 : x0 = _ := hV 0 _ rfl
        subst y0
        have y1 : x1 = _ := hV 1 _ rfl
        subst y1
        have y2 : x2 = _ := hV 2 _ rfl
        subst y2
        have y3 : x3 = _ := hV 3 _ rfl
        subst y3
        have y4 : x4 = _ := hV 4 _ rfl
        subst y4
        have y5 : x5 = _ := hV 5 _ rfl
        subst y5
        have y6 : x6 = _ := hV 6 _ rfl
        subst y6
        have y7 : x7 = _ := hV 7 _ rfl
        subst y7
        have y8 : x8 = _ := hV 8 _ rfl
        subst y8
        have y9 : x9 = _ := hV 9 _ rfl
        subst y9
        have y10 : x10 = _ := hV 10 _ rfl
        subst y10
        have y11 : x11 = _ := hV 11 _ rfl
        subst y11
        have y12 : x12 = _ := hV 12 _ rfl
        subst y12
        have y13 : x13 = _ := hV 13 _ rfl
        subst y13
        have y14 : x14 = _ := hV 14 _ rfl
        subst y14
        clear hV hlen
        simp only [Exit.then, putAll, Act.put, List.setIfInBounds_toArray, List.set_cons_zero, List.set_cons_succ]
        have hI := Lib.hid hI
        go_wp2_with fail
        apply region_inv (VV [IsV _, IsV _, IsV _, (IsV (.agg #[.bool px, .bool gx, .int .i64 cx, .int .i64 vx, .int .i64 sx, .string dx])), IsV _, IsV _]) (fun _ W => OwnL w [(w3.heap.size, .cells #[.bool px, .bool gx, .int .i64 cx, .int .i64 vx, .int .i64 sx, .string dx] 31), (w2.heap.size, .cells #[.bool s, .bool wt, .bool ag, .int .i64 ct, .int .i64 nx] 24)] W) (fun _ _ => True) (by kernel_rfl) 88 rfl (by kernel_rfl)
        case h0 =>
          exact hI.out.drew
        case hsteps =>
          refine ⟨?_, ?_, ?_, ?_, ?_, ?_, trivial⟩
          · refine stepOK_of _ [8] rfl (by kernel_rfl) ?_ rfl
            intro t ρ W ht hc hf hn ho hI
            clear hn
            have s8 := ho.1
            simp only [Array.getD_eq_getD_getElem?] at s8
            clear ho
            have hI' := Lib.hid hI
            have j0 := blk_cell hI.g0 0
            have j1 := blk_cell hI.g0 1
            have j2 := blk_cell hI.g0 2
            have j3 := blk_cell hI.g0 3
            have j4 := blk_cell hI.g0 4
            have j5 := blk_cell hI.g0 5
            clear hI
            go_simp
            exact post_mk (hI'.out) (trivial) rfl
          · refine stepOK_of _ [5] rfl (by kernel_rfl) ?_ rfl
            intro t ρ W ht hc hf hn ho hI
            clear hn
            have s5 := ho.1
            simp only [Array.getD_eq_getD_getElem?] at s5
            clear ho
            have hI' := Lib.hid hI
            clear hI
            go_simp
            exact post_mk (hI'.out) (trivial) rfl
          · refine stepOK_of _ [6] rfl (by kernel_rfl) ?_ rfl
            intro t ρ W ht hc hf hn ho hI
            clear hn
            have s6 := ho.1
            simp only [Array.getD_eq_getD_getElem?] at s6
            clear ho
            have hI' := Lib.hid hI
            clear hI
            go_simp
            exact post_mk (hI'.out) (trivial) rfl
          · refine stepOK_of _ [] rfl (by kernel_rfl) ?_ rfl
            intro t ρ W ht hc hf hn ho hI
            obtain ⟨u1, q1, s45⟩ := hn.1
            obtain ⟨u2, q2, s46⟩ := hn.2.1
            clear hn
            have q1 : u1 = _ := q1
            subst q1
            have s45 : ρ (.tmp 45) = _ := s45
            have q2 : u2 = _ := q2
            subst q2
            have s46 : ρ (.tmp 46) = _ := s46
            clear ho
            have hI' := Lib.hid hI
            clear hI
            go_simp
            refine (hsr.out W).mono ?_
            rintro e W2 ⟨rfl, hb⟩
            exact endp_mk (post_mk (hI'.out.below hb) trivial rfl)
          · refine stepOK_of _ [] rfl (by kernel_rfl) ?_ rfl
            intro t ρ W ht hc hf hn ho hI
            obtain ⟨u0, q0, s44⟩ := hn.1
            obtain ⟨u3, q3, s47⟩ := hn.2.1
            clear hn
            have q0 : u0 = _ := q0
            subst q0
            have s44 : ρ (.tmp 44) = _ := s44
            have q3 : u3 = _ := q3
            subst q3
            have s47 : ρ (.tmp 47) = _ := s47
            clear ho
            have hI' := Lib.hid hI
            clear hI
            go_simp
            exact post_mk (hI'.out) (trivial) rfl
          · refine stepOK_of _ [] rfl (by kernel_rfl) ?_ rfl
            intro t ρ W ht hc hf hn ho hI
            obtain ⟨u4, q4, s48⟩ := hn.1
            clear hn
            have q4 : u4 = _ := q4
            subst q4
            have s48 : ρ (.tmp 48) = _ := s48
            clear ho
            have hI' := Lib.hid hI
            clear hI
            go_simp
            exact post_mk (hI'.out) (trivial) rfl
        case hst => exact vv_stable ⟨isV_st, isV_st, isV_st, fun _ _ _ _ h => h, isV_st, isV_st, trivial⟩
        intro vs W hlen hI hV
        obtain ⟨x0, x1, x2, x3, x4, x5, rfl⟩ := list_len6 vs hlen
        have y0 : x0 = _ := hV 0 _ rfl
        subst y0
        have y1 : x1 = _ := hV 1 _ rfl
        subst y1
        have y2 : x2 = _ := hV 2 _ rfl
        subst y2
        have y3 : x3 = _ := hV 3 _ rfl
        subst y3
        have y4 : x4 = _ := hV 4 _ rfl
        subst y4
        have y5 : x5 = _ := hV 5 _ rfl
        subst y5
        clear hV hlen
        simp only [Exit.then, putAll, Act.put, List.setIfInBounds_toArray, List.set_cons_zero, List.set_cons_succ]
        have hI := Lib.hid hI
        go_wp2_with fail
        go_ret
        exact ⟨rfl, hI.out.1⟩
      · rw [hk1] at hxo
        have hk1 := Lib.hid hk1
        cases hk2 : Fm.ok ⟨s, wt, ag, ct, nx⟩
        · rw [hk2] at hfo
          clear hk2
          apply region_inv (VV [IsV _, IsV _, IsV _, (IsV (.agg #[.bool px, .bool gx, .int .i64 cx, .int .i64 vx, .int .i64 sx, .string dx])), IsV _, IsV _, IsV _, (IsV (.bool true)), IsV _, IsV _, IsV _, IsV _, (IsV (.bool false)), IsV _, IsV _]) (fun _ W => OwnL w [(w3.heap.size, .cells #[.bool px, .bool gx, .int .i64 cx, .int .i64 vx, .int .i64 sx, .string dx] 31), (w2.heap.size, .cells #[.bool s, .bool wt, .bool ag, .int .i64 ct, .int .i64 nx] 24)] W) (fun _ _ => True) (by kernel_rfl) 88 rfl (by kernel_rfl)
          case h0 =>
            exact hO.out.drew
          case hsteps =>
            refine ⟨?_, ?_, ?_, ?_, ?_, ?_, ?_, ?_, ?_, ?_, ?_, ?_, ?_, ?_, ?_, trivial⟩
            · refine stepOK_of _ [8] rfl (by kernel_rfl) ?_ rfl
              intro t ρ W ht hc hf hn ho hI
              clear hn
              have s8 := ho.1
              simp only [Array.getD_eq_getD_getElem?] at s8
              clear ho
              have hI' := Lib.hid hI
              have j0 := blk_cell hI.g0 0
              have j1 := blk_cell hI.g0 1
              have j2 := blk_cell hI.g0 2
              have j3 := blk_cell hI.g0 3
              have j4 := blk_cell hI.g0 4
              have j5 := blk_cell hI.g0 5
              clear hI
              go_simp
              exact post_mk (hI'.out) (trivial) rfl
            · refine stepOK_of _ [5] rfl (by kernel_rfl) ?_ rfl
              intro t ρ W ht hc hf hn ho hI
              clear hn
              have s5 := ho.1
              simp only [Array.getD_eq_getD_getElem?] at s5
              clear ho
              have hI' := Lib.hid hI
              clear hI
              go_simp
              exact post_mk (hI'.out) (trivial) rfl
            · refine stepOK_of _ [6] rfl (by kernel_rfl) ?_ rfl
              intro t ρ W ht hc hf hn ho hI
              clear hn
              have s6 := ho.1
              simp only [Array.getD_eq_getD_getElem?] at s6
              clear ho
              have hI' := Lib.hid hI
              clear hI
              go_simp
              exact post_mk (hI'.out) (trivial) rfl
            · refine stepOK_of _ [] rfl (by kernel_rfl) ?_ rfl
              intro t ρ W ht hc hf hn ho hI
              obtain ⟨u1, q1, s30⟩ := hn.1
              obtain ⟨u2, q2, s31⟩ := hn.2.1
              clear hn
              have q1 : u1 = _ := q1
              subst q1
              have s30 : ρ (.tmp 30) = _ := s30
              have q2 : u2 = _ := q2
              subst q2
              have s31 : ρ (.tmp 31) = _ := s31
              clear ho
              have hI' := Lib.hid hI
              clear hI
              go_simp
              refine (hsr.out W).mono ?_
              rintro e W2 ⟨rfl, hb⟩
              exact endp_mk (post_mk (hI'.out.below hb) trivial rfl)
            · refine stepOK_of _ [] rfl (by kernel_rfl) ?_ rfl
              intro t ρ W ht hc hf hn ho hI
              obtain ⟨u0, q0, s29⟩ := hn.1
              obtain ⟨u3, q3, s32⟩ := hn.2.1
              clear hn
              have q0 : u0 = _ := q0
              subst q0
              have s29 : ρ (.tmp 29) = _ := s29
              have q3 : u3 = _ := q3
              subst q3
              have s32 : ρ (.tmp 32) = _ := s32
              clear ho
              have hI' := Lib.hid hI
              clear hI
              go_simp
              exact post_mk (hI'.out) (trivial) rfl
            · refine stepOK_of _ [] rfl (by kernel_rfl) ?_ rfl
              intro t ρ W ht hc hf hn ho hI
              obtain ⟨u4, q4, s33⟩ := hn.1
              clear hn
              have q4 : u4 = _ := q4
              subst q4
              have s33 : ρ (.tmp 33) = _ := s33
              clear ho
              have hI' := Lib.hid hI
              clear hI
              go_simp
              exact post_mk (hI'.out) (trivial) rfl
            · refine stepOK_g _ [8] rfl (by kernel_rfl) ?_ rfl (fun v W h => h)
              intro t ρ W ht hc hf hn ho hI
              clear hn
              have s8 := ho.1
              simp only [Array.getD_eq_getD_getElem?] at s8
              clear ho
              have hI' := Lib.hid hI
              have j0 := blk_cell hI.g0 0
              have j1 := blk_cell hI.g0 1
              have j2 := blk_cell hI.g0 2
              have j3 := blk_cell hI.g0 3
              have j4 := blk_cell hI.g0 4
              have j5 := blk_cell hI.g0 5
              clear hI
              go_simp
              exact post_mk (hI'.out) (trivial) rfl
            · refine stepOK_g _ [] rfl (by kernel_rfl) ?_ rfl (fun v W h => h)
              intro t ρ W ht hc hf hn ho hI
              obtain ⟨u6, q6, s35⟩ := hn.1
              clear hn
              have q6 : u6 = _ := q6
              subst q6
              have s35 : ρ (.tmp 35) = _ := s35
              clear ho
              have hI' := Lib.hid hI
              clear hI
              go_simp
              refine (hxo.out W).mono ?_
              rintro e W2 ⟨rfl, hb⟩
              exact endp_mk (post_mk (hI'.out.below hb) trivial rfl)
            · refine stepOK_g _ [] rfl (by kernel_rfl) ?_ rfl (fun v W h => h)
              intro t ρ W ht hc hf hn ho hI
              obtain ⟨u7, q7, s36⟩ := hn.1
              clear hn
              have q7 : u7 = _ := q7
              subst q7
              have s36 : ρ (.tmp 36) = _ := s36
              clear ho
              have hI' := Lib.hid hI
              clear hI
              go_simp
              exact post_mk (hI'.out) (trivial) rfl
            · refine stepOK_of _ [] rfl (by kernel_rfl) ?_ rfl
              intro t ρ W ht hc hf hn ho hI
              obtain ⟨u5, q5, s34⟩ := hn.1
              obtain ⟨u8, q8, s37⟩ := hn.2.1
              clear hn
              have q5 : u5 = _ := q5
              subst q5
              have s34 : ρ (.tmp 34) = _ := s34
              have q8 : u8 = _ := q8
              subst q8
              have s37 : ρ (.tmp 37) = _ := s37
              clear ho
              have hI' := Lib.hid hI
              clear hI
              go_simp
              exact post_mk (hI'.out) (trivial) rfl
            · refine stepOK_of _ [] rfl (by kernel_rfl) ?_ rfl
              intro t ρ W ht hc hf hn ho hI
              obtain ⟨u9, q9, s38⟩ := hn.1
              clear hn
              have q9 : u9 = _ := q9
              subst q9
              have s38 : ρ (.tmp 38) = _ := s38
              clear ho
              have hI' := Lib.hid hI
              clear hI
              go_simp
              exact post_mk (hI'.out) (trivial) rfl
            · refine stepOK_g _ [7] rfl (by kernel_rfl) ?_ rfl (fun v W h => h)
              intro t ρ W ht hc hf hn ho hI
              clear hn
              have s7 := ho.1
              simp only [Array.getD_eq_getD_getElem?] at s7
              clear ho
              have hI' := Lib.hid hI
              have j0 := blk_cell hI.g1 0
              have j1 := blk_cell hI.g1 1
              have j2 := blk_cell hI.g1 2
              have j3 := blk_cell hI.g1 3
              have j4 := blk_cell hI.g1 4
              clear hI
              go_simp
              exact post_mk (hI'.out) (trivial) rfl
            · refine stepOK_g _ [] rfl (by kernel_rfl) ?_ rfl (fun v W h => h)
              intro t ρ W ht hc hf hn ho hI
              obtain ⟨u11, q11, s40⟩ := hn.1
              clear hn
              have q11 : u11 = _ := q11
              subst q11
              have s40 : ρ (.tmp 40) = _ := s40
              clear ho
              have hI' := Lib.hid hI
              clear hI
              go_simp
              refine (hfo.out W).mono ?_
              rintro e W2 ⟨rfl, hb⟩
              exact endp_mk (post_mk (hI'.out.below hb) trivial rfl)
            · refine stepOK_g _ [] rfl (by kernel_rfl) ?_ rfl (fun v W h => h)
              intro t ρ W ht hc hf hn ho hI
              obtain ⟨u12, q12, s41⟩ := hn.1
              clear hn
              have q12 : u12 = _ := q12
              subst q12
              have s41 : ρ (.tmp 41) = _ := s41
              clear ho
              have hI' := Lib.hid hI
              clear hI
              go_simp
              exact post_mk (hI'.out) (trivial) rfl
            · refine stepOK_of _ [] rfl (by kernel_rfl) ?_ rfl
              intro t ρ W ht hc hf hn ho hI
              obtain ⟨u10, q10, s39⟩ := hn.1
              obtain ⟨u13, q13, s42⟩ := hn.2.1
              clear hn
              have q10 : u10 = _ := q10
              subst q10
              have s39 : ρ (.tmp 39) = _ := s39
              have q13 : u13 = _ := q13
              subst q13
              have s42 : ρ (.tmp 42) = _ := s42
              clear ho
              have hI' := Lib.hid hI
              clear hI
              go_simp
              exact post_mk (hI'.out) (trivial) rfl
          case hst => exact vv_stable ⟨isV_st, isV_st, isV_st, fun _ _ _ _ h => h, isV_st, isV_st, isV_st, fun _ _ _ _ h => h, isV_st, isV_st, isV_st, isV_st, fun _ _ _ _ h => h, isV_st, isV_st, trivial⟩
          intro vs W hlen hI hV
          obtain ⟨x0, x1, x2, x3, x4, x5, x6, x7, x8, x9, x10, x11, x12, x13, x14, rfl⟩ := list_len15 vs hlen
          have y0 : x0 = _ := hV 0 _ rfl
          subst y0
          have y1 : x1 = _ := hV 1 _ rfl
          subst y1
          have y2 : x2 = _ := hV 2 _ rfl
          subst y2
          have y3 : x3 = _ := hV 3 _ rfl
          subst y3
          have y4 : x4 = _ := hV 4 _ rfl
          subst y4
          have y5 : x5 = _ := hV 5 _ rfl
          subst y5
          have y6 : x6 = _ := hV 6 _ rfl
          subst y6
          have y7 : x7 = _ := hV 7 _ rfl
          subst y7
          have y8 : x8 = _ := hV 8 _ rfl
          subst y8
          have y9 : x9 = _ := hV 9 _ rfl
          subst y9
          have y10 : x10 = _ := hV 10 _ rfl
          subst y10
          have y11 : x11 = _ := hV 11 _ rfl
          subst y11
          have y12 : x12 = _ := hV 12 _ rfl
          subst y12
          have y13 : x13 = _ := hV 13 _ rfl
          subst y13
          have y14 : x14 = _ := hV 14 _ rfl
          subst y14
          clear hV hlen
          simp only [Exit.then, putAll, Act.put, List.setIfInBounds_toArray, List.set_cons_zero, List.set_cons_succ]
          have hI := Lib.hid hI
          go_wp2_with fail
          apply region_inv (VV [IsV _, IsV _, IsV _, (IsV (.agg #[.bool px, .bool gx, .int .i64 cx, .int .i64 vx, .int .i64 sx, .string dx])), IsV _, IsV _]) (fun _ W => OwnL w [(w3.heap.size, .cells #[.bool px, .bool gx, .int .i64 cx, .int .i64 vx, .int .i64 sx, .string dx] 31), (w2.heap.size, .cells #[.bool s, .bool wt, .bool ag, .int .i64 ct, .int .i64 nx] 24)] W) (fun _ _ => True) (by kernel_rfl) 88 rfl (by kernel_rfl)
          case h0 =>
            exact hI.out.drew
          case hsteps =>
            refine ⟨?_, ?_, ?_, ?_, ?_, ?_, trivial⟩
            · refine stepOK_of _ [8] rfl (by kernel_rfl) ?_ rfl
              intro t ρ W ht hc hf hn ho hI
              clear hn
              have s8 := ho.1
              simp only [Array.getD_eq_getD_getElem?] at s8
              clear ho
              have hI' := Lib.hid hI
              have j0 := blk_cell hI.g0 0
              have j1 := blk_cell hI.g0 1
              have j2 := blk_cell hI.g0 2
              have j3 := blk_cell hI.g0 3
              have j4 := blk_cell hI.g0 4
              have j5 := blk_cell hI.g0 5
              clear hI
              go_simp
              exact post_mk (hI'.out) (trivial) rfl
            · refine stepOK_of _ [5] rfl (by kernel_rfl) ?_ rfl
              intro t ρ W ht hc hf hn ho hI
              clear hn
              have s5 := ho.1
              simp only [Array.getD_eq_getD_getElem?] at s5
              clear ho
              have hI' := Lib.hid hI
              clear hI
              go_simp
              exact post_mk (hI'.out) (trivial) rfl
            · refine stepOK_of _ [6] rfl (by kernel_rfl) ?_ rfl
              intro t ρ W ht hc hf hn ho hI
              clear hn
              have s6 := ho.1
              simp only [Array.getD_eq_getD_getElem?] at s6
              clear ho
              have hI' := Lib.hid hI
              clear hI
              go_simp
              exact post_mk (hI'.out) (trivial) rfl
            · refine stepOK_of _ [] rfl (by kernel_rfl) ?_ rfl
              intro t ρ W ht hc hf hn ho hI
              obtain ⟨u1, q1, s45⟩ := hn.1
              obtain ⟨u2, q2, s46⟩ := hn.2.1
              clear hn
              have q1 : u1 = _ := q1
              subst q1
              have s45 : ρ (.tmp 45) = _ := s45
              have q2 : u2 = _ := q2
              subst q2
              have s46 : ρ (.tmp 46) = _ := s46
              clear ho
              have hI' := Lib.hid hI
              clear hI
              go_simp
              refine (hsr.out W).mono ?_
              rintro e W2 ⟨rfl, hb⟩
              exact endp_mk (post_mk (hI'.out.below hb) trivial rfl)
            · refine stepOK_of _ [] rfl (by kernel_rfl) ?_ rfl
              intro t ρ W ht hc hf hn ho hI
              obtain ⟨u0, q0, s44⟩ := hn.1
              obtain ⟨u3, q3, s47⟩ := hn.2.1
              clear hn
              have q0 : u0 = _ := q0
              subst q0
              have s44 : ρ (.tmp 44) = _ := s44
              have q3 : u3 = _ := q3
              subst q3
              have s47 : ρ (.tmp 47) = _ := s47
              clear ho
              have hI' := Lib.hid hI
              clear hI
              go_simp
              exact post_mk (hI'.out) (trivial) rfl
            · refine stepOK_of _ [] rfl (by kernel_rfl) ?_ rfl
              intro t ρ W ht hc hf hn ho hI
              obtain ⟨u4, q4, s48⟩ := hn.1
              clear hn
              have q4 : u4 = _ := q4
              subst q4
              have s48 : ρ (.tmp 48) = _ := s48
              clear ho
              have hI' := Lib.hid hI
              clear hI
              go_simp
              exact post_mk (hI'.out) (trivial) rfl
          case hst => exact vv_stable ⟨isV_st, isV_st, isV_st, fun _ _ _ _ h => h, isV_st, isV_st, trivial⟩
          intro vs W hlen hI hV
          obtain ⟨x0, x1, x2, x3, x4, x5, rfl⟩ := list_len6 vs hlen
          have y0 : x0 = _ := hV 0 _ rfl
          subst y0
          have y1 : x1 = _ := hV 1 _ rfl
          subst y1
          have y2 : x2 = _ := hV 2 _ rfl
          subst y2
          have y3 : x3 = _ := hV 3 _ rfl
          subst y3
          have y4 : x4 = _ := hV 4 _ rfl
          subst y4
          have y5 : x5 = _ := hV 5 _ rfl
          subst y5
          clear hV hlen
          simp only [Exit.then, putAll, Act.put, List.setIfInBounds_toArray, List.set_cons_zero, List.set_cons_succ]
          have hI := Lib.hid hI
          go_wp2_with fail
          go_ret
          exact ⟨rfl, hI.out.1⟩
        · rw [hk2] at hfo
          have hhe := hear_c ⟨s, wt, ag, ct, nx⟩ ⟨px, gx, cx, vx, sx, dx⟩ false
          rw [hpu.out hk1.out hk2] at hhe
          have hb := Fm.ok_iff.1 hk2
          obtain ⟨⟨hc0, hc1⟩, _⟩ := hb
          simp only at hc0 hc1
          clear hk1 hk2 hpu
          have hhe := Lib.hid hhe
          apply region_inv (VV [IsV _, IsV _, IsV _, (IsV (.agg #[.bool px, .bool gx, .int .i64 cx, .int .i64 vx, .int .i64 sx, .string dx])), IsV _, IsV _, IsV _, (IsV (.bool true)), IsV _, IsV _, IsV _, IsV _, (IsV (.bool true)), IsV _, IsV _]) (fun _ W => OwnL w [(w3.heap.size, .cells #[.bool px, .bool gx, .int .i64 cx, .int .i64 vx, .int .i64 sx, .string dx] 31), (w2.heap.size, .cells #[.bool s, .bool wt, .bool ag, .int .i64 ct, .int .i64 nx] 24)] W) (fun _ _ => True) (by kernel_rfl) 88 rfl (by kernel_rfl)
          case h0 =>
            exact hO.out.drew
          case hsteps =>
            refine ⟨?_, ?_, ?_, ?_, ?_, ?_, ?_, ?_, ?_, ?_, ?_, ?_, ?_, ?_, ?_, trivial⟩
            · refine stepOK_of _ [8] rfl (by kernel_rfl) ?_ rfl
              intro t ρ W ht hc hf hn ho hI
              clear hn
              have s8 := ho.1
              simp only [Array.getD_eq_getD_getElem?] at s8
              clear ho
              have hI' := Lib.hid hI
              have j0 := blk_cell hI.g0 0
              have j1 := blk_cell hI.g0 1
              have j2 := blk_cell hI.g0 2
              have j3 := blk_cell hI.g0 3
              have j4 := blk_cell hI.g0 4
              have j5 := blk_cell hI.g0 5
              clear hI
              go_simp
              exact post_mk (hI'.out) (trivial) rfl
            · refine stepOK_of _ [5] rfl (by kernel_rfl) ?_ rfl
              intro t ρ W ht hc hf hn ho hI
              clear hn
              have s5 := ho.1
              simp only [Array.getD_eq_getD_getElem?] at s5
              clear ho
              have hI' := Lib.hid hI
              clear hI
              go_simp
              exact post_mk (hI'.out) (trivial) rfl
            · refine stepOK_of _ [6] rfl (by kernel_rfl) ?_ rfl
              intro t ρ W ht hc hf hn ho hI
              clear hn
              have s6 := ho.1
              simp only [Array.getD_eq_getD_getElem?] at s6
              clear ho
              have hI' := Lib.hid hI
              clear hI
              go_simp
              exact post_mk (hI'.out) (trivial) rfl
            · refine stepOK_of _ [] rfl (by kernel_rfl) ?_ rfl
              intro t ρ W ht hc hf hn ho hI
              obtain ⟨u1, q1, s30⟩ := hn.1
              obtain ⟨u2, q2, s31⟩ := hn.2.1
              clear hn
              have q1 : u1 = _ := q1
              subst q1
              have s30 : ρ (.tmp 30) = _ := s30
              have q2 : u2 = _ := q2
              subst q2
              have s31 : ρ (.tmp 31) = _ := s31
              clear ho
              have hI' := Lib.hid hI
              clear hI
              go_simp
              refine (hsr.out W).mono ?_
              rintro e W2 ⟨rfl, hb⟩
              exact endp_mk (post_mk (hI'.out.below hb) trivial rfl)
            · refine stepOK_of _ [] rfl (by kernel_rfl) ?_ rfl
              intro t ρ W ht hc hf hn ho hI
              obtain ⟨u0, q0, s29⟩ := hn.1
              obtain ⟨u3, q3, s32⟩ := hn.2.1
              clear hn
              have q0 : u0 = _ := q0
              subst q0
              have s29 : ρ (.tmp 29) = _ := s29
              have q3 : u3 = _ := q3
              subst q3
              have s32 : ρ (.tmp 32) = _ := s32
              clear ho
              have hI' := Lib.hid hI
              clear hI
              go_simp
              exact post_mk (hI'.out) (trivial) rfl
            · refine stepOK_of _ [] rfl (by kernel_rfl) ?_ rfl
              intro t ρ W ht hc hf hn ho hI
              obtain ⟨u4, q4, s33⟩ := hn.1
              clear hn
              have q4 : u4 = _ := q4
              subst q4
              have s33 : ρ (.tmp 33) = _ := s33
              clear ho
              have hI' := Lib.hid hI
              clear hI
              go_simp
              exact post_mk (hI'.out) (trivial) rfl
            · refine stepOK_g _ [8] rfl (by kernel_rfl) ?_ rfl (fun v W h => h)
              intro t ρ W ht hc hf hn ho hI
              clear hn
              have s8 := ho.1
              simp only [Array.getD_eq_getD_getElem?] at s8
              clear ho
              have hI' := Lib.hid hI
              have j0 := blk_cell hI.g0 0
              have j1 := blk_cell hI.g0 1
              have j2 := blk_cell hI.g0 2
              have j3 := blk_cell hI.g0 3
              have j4 := blk_cell hI.g0 4
              have j5 := blk_cell hI.g0 5
              clear hI
              go_simp
              exact post_mk (hI'.out) (trivial) rfl
            · refine stepOK_g _ [] rfl (by kernel_rfl) ?_ rfl (fun v W h => h)
              intro t ρ W ht hc hf hn ho hI
              obtain ⟨u6, q6, s35⟩ := hn.1
              clear hn
              have q6 : u6 = _ := q6
              subst q6
              have s35 : ρ (.tmp 35) = _ := s35
              clear ho
              have hI' := Lib.hid hI
              clear hI
              go_simp
              refine (hxo.out W).mono ?_
              rintro e W2 ⟨rfl, hb⟩
              exact endp_mk (post_mk (hI'.out.below hb) trivial rfl)
            · refine stepOK_g _ [] rfl (by kernel_rfl) ?_ rfl (fun v W h => h)
              intro t ρ W ht hc hf hn ho hI
              obtain ⟨u7, q7, s36⟩ := hn.1
              clear hn
              have q7 : u7 = _ := q7
              subst q7
              have s36 : ρ (.tmp 36) = _ := s36
              clear ho
              have hI' := Lib.hid hI
              clear hI
              go_simp
              exact post_mk (hI'.out) (trivial) rfl
            · refine stepOK_of _ [] rfl (by kernel_rfl) ?_ rfl
              intro t ρ W ht hc hf hn ho hI
              obtain ⟨u5, q5, s34⟩ := hn.1
              obtain ⟨u8, q8, s37⟩ := hn.2.1
              clear hn
              have q5 : u5 = _ := q5
              subst q5
              have s34 : ρ (.tmp 34) = _ := s34
              have q8 : u8 = _ := q8
              subst q8
              have s37 : ρ (.tmp 37) = _ := s37
              clear ho
              have hI' := Lib.hid hI
              clear hI
              go_simp
              exact post_mk (hI'.out) (trivial) rfl
            · refine stepOK_of _ [] rfl (by kernel_rfl) ?_ rfl
              intro t ρ W ht hc hf hn ho hI
              obtain ⟨u9, q9, s38⟩ := hn.1
              clear hn
              have q9 : u9 = _ := q9
              subst q9
              have s38 : ρ (.tmp 38) = _ := s38
              clear ho
              have hI' := Lib.hid hI
              clear hI
              go_simp
              exact post_mk (hI'.out) (trivial) rfl
            · refine stepOK_g _ [7] rfl (by kernel_rfl) ?_ rfl (fun v W h => h)
              intro t ρ W ht hc hf hn ho hI
              clear hn
              have s7 := ho.1
              simp only [Array.getD_eq_getD_getElem?] at s7
              clear ho
              have hI' := Lib.hid hI
              have j0 := blk_cell hI.g1 0
              have j1 := blk_cell hI.g1 1
              have j2 := blk_cell hI.g1 2
              have j3 := blk_cell hI.g1 3
              have j4 := blk_cell hI.g1 4
              clear hI
              go_simp
              exact post_mk (hI'.out) (trivial) rfl
            · refine stepOK_g _ [] rfl (by kernel_rfl) ?_ rfl (fun v W h => h)
              intro t ρ W ht hc hf hn ho hI
              obtain ⟨u11, q11, s40⟩ := hn.1
              clear hn
              have q11 : u11 = _ := q11
              subst q11
              have s40 : ρ (.tmp 40) = _ := s40
              clear ho
              have hI' := Lib.hid hI
              clear hI
              go_simp
              refine (hfo.out W).mono ?_
              rintro e W2 ⟨rfl, hb⟩
              exact endp_mk (post_mk (hI'.out.below hb) trivial rfl)
            · refine stepOK_g _ [] rfl (by kernel_rfl) ?_ rfl (fun v W h => h)
              intro t ρ W ht hc hf hn ho hI
              obtain ⟨u12, q12, s41⟩ := hn.1
              clear hn
              have q12 : u12 = _ := q12
              subst q12
              have s41 : ρ (.tmp 41) = _ := s41
              clear ho
              have hI' := Lib.hid hI
              clear hI
              go_simp
              exact post_mk (hI'.out) (trivial) rfl
            · refine stepOK_of _ [] rfl (by kernel_rfl) ?_ rfl
              intro t ρ W ht hc hf hn ho hI
              obtain ⟨u10, q10, s39⟩ := hn.1
              obtain ⟨u13, q13, s42⟩ := hn.2.1
              clear hn
              have q10 : u10 = _ := q10
              subst q10
              have s39 : ρ (.tmp 39) = _ := s39
              have q13 : u13 = _ := q13
              subst q13
              have s42 : ρ (.tmp 42) = _ := s42
              clear ho
              have hI' := Lib.hid hI
              clear hI
              go_simp
              exact post_mk (hI'.out) (trivial) rfl
          case hst => exact vv_stable ⟨isV_st, isV_st, isV_st, fun _ _ _ _ h => h, isV_st, isV_st, isV_st, fun _ _ _ _ h => h, isV_st, isV_st, isV_st, isV_st, fun _ _ _ _ h => h, isV_st, isV_st, trivial⟩
          intro vs W hlen hI hV
          obtain ⟨x0, x1, x2, x3, x4, x5, x6, x7, x8, x9, x10, x11, x12, x13, x14, rfl⟩ := list_len15 vs hlen
          have y0 : x0 = _ := hV 0 _ rfl
          subst y0
          have y1 : x1 = _ := hV 1 _ rfl
          subst y1
          have y2 : x2 = _ := hV 2 _ rfl
          subst y2
          have y3 : x3 = _ := hV 3 _ rfl
          subst y3
          have y4 : x4 = _ := hV 4 _ rfl
          subst y4
          have y5 : x5 = _ := hV 5 _ rfl
          subst y5
          have y6 : x6 = _ := hV 6 _ rfl
          subst y6
          have y7 : x7 = _ := hV 7 _ rfl
          subst y7
          have y8 : x8 = _ := hV 8 _ rfl
          subst y8
          have y9 : x9 = _ := hV 9 _ rfl
          subst y9
          have y10 : x10 = _ := hV 10 _ rfl
          subst y10
          have y11 : x11 = _ := hV 11 _ rfl
          subst y11
          have y12 : x12 = _ := hV 12 _ rfl
          subst y12
          have y13 : x13 = _ := hV 13 _ rfl
          subst y13
          have y14 : x14 = _ := hV 14 _ rfl
          subst y14
          clear hV hlen
          simp only [Exit.then, putAll, Act.put, List.setIfInBounds_toArray, List.set_cons_zero, List.set_cons_succ]
          have k0 := fun o => blk_cell hI.g0 o
          have k1 := fun o => blk_cell hI.g1 o
          have hI := Lib.hid hI
          go_wp2_with fail
          refine (hhe.out _).mono ?_
          rintro e w4 ⟨rfl, hB4⟩
          have hI := hI.out.below hB4
          have k2 := fun o => blk_cell hI.g0 o
          have k3 := fun o => blk_cell hI.g1 o
          have hl0 := (Array.getElem?_eq_some_iff.1 hI.g0).1
          have hl1 := (Array.getElem?_eq_some_iff.1 hI.g1).1
          have hI := Lib.hid hI
          simp only [Fm.v]
          go_wp2_with fail
          go_ret
          exact ⟨rfl, (hI.out.alloc _).1⟩

end Go.Proofs.Ytcbbebhjddphfaa
