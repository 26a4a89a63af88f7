/- The law FnFarmRoom, walked. -/
import Derived.Test.YtcbbebhjddphfaaA5
import Derived.Test.YtcbbebhjddphfaaD3
namespace Go.Proofs.Ytcbbebhjddphfaa
open Go.RowKit
set_option linter.unusedSimpArgs false
set_option linter.unusedVariables false

theorem list_len5 : ∀ (l : List Value), l.length = 5 → ∃ x0 x1 x2 x3 x4, l = x0 :: x1 :: x2 :: x3 :: x4 :: []
  | x0 :: x1 :: x2 :: x3 :: x4 :: [], _ => ⟨x0, x1, x2, x3, x4, rfl⟩
theorem list_len9 : ∀ (l : List Value), l.length = 9 → ∃ x0 x1 x2 x3 x4 x5 x6 x7 x8, l = x0 :: x1 :: x2 :: x3 :: x4 :: x5 :: x6 :: x7 :: x8 :: []
  | x0 :: x1 :: x2 :: x3 :: x4 :: x5 :: x6 :: x7 :: x8 :: [], _ => ⟨x0, x1, x2, x3, x4, x5, x6, x7, x8, rfl⟩

theorem frame_d_ok (nx : Int) (h0 : 0 ≤ nx) (h1 : nx ≤ 255) (c v : Int) (hc : 0 ≤ c) (hc' : c ≤ 1023) (hv : 0 ≤ v) (hv' : v ≤ 63) : Fr.ok ⟨false, false, c, v, nx, ⟨#[100]⟩⟩ = true := by
  have e1 : inR c 1023 = true := inR_iff.2 ⟨hc, hc'⟩
  have e2 : inR v 63 = true := inR_iff.2 ⟨hv, hv'⟩
  have e3 : inR nx 255 = true := inR_iff.2 ⟨h0, h1⟩
  have e4 : dOk ⟨#[100]⟩ = true := by decide
  simp [Fr.ok, e1, e2, e3, e4]
theorem pure_room (s wt ag : Bool) (ct nx : Int) (h : Fm.ok ⟨s, wt, ag, ct, nx⟩ = true) : FRoom ⟨s, wt, ag, ct, nx⟩ = ⟨s, false, ag, ct, nx⟩ ∧ Fm.ok ⟨s, false, ag, ct, nx⟩ = true ∧
    ∃ y, FH ⟨s, false, ag, ct, nx⟩ ⟨false, false, 0, 0, nx, ⟨#[100]⟩⟩ true = (y, if s then 5 else 0) := by
  have h1 := Fm.ok_iff.1 h
  have h2 : Fm.ok ⟨s, false, ag, ct, nx⟩ = true := Fm.ok_iff.2 ⟨h1.1, h1.2.1, .inr rfl⟩
  refine ⟨by simp [FRoom, h], h2, ?_⟩
  have h3 := frame_d_ok nx h1.2.1.1 h1.2.1.2 0 0 (by omega) (by omega) (by omega) (by omega)
  cases s <;> simp [FH, h2, h3, Fm.ord]
set_option maxHeartbeats 4000000 in
set_option maxRecDepth 100000 in
theorem law_room (w : World) (A : Option Addr) (n c : Nat) (h : Code_ w A n c) : Calls Try.prog 3 #[.slice A n c] w (Ret w (.bool true)) := by
  by_cases hn : 1048576 < n
  · go_enter Try.func3, Try.ntmps3
    go_wp2_with fail
    go_ret
    exact ⟨rfl, (by repeat (first | (with_reducible exact Below.refl _ _) | (with_reducible assumption) | (with_reducible refine Below.drew ?_) | (with_reducible refine below_drewN' ?_ _) | (with_reducible refine Below.setCell ?_ (by first | (simp; done) | (simp; omega) | omega) _) | (with_reducible refine Below.alloc ?_ (by first | (simp; done) | (simp; omega) | omega) _) | (with_reducible refine Below.trans ?_ (Below.mono (by assumption) (by first | (simp; done) | (simp; omega) | omega)))))⟩
  · have hC := Lib.hid h
    clear h
    go_enter Try.func3, Try.ntmps3
    go_wp2_with fail
    refine (DrawFarmRoom_d _ A n c hC.out).mono ?_
    rintro e w1 ⟨v1, rfl, ⟨⟨s, wt, ag, ct, nx⟩, rfl⟩, hB1⟩
    simp only [Fm.v]
    have hro := Lib.hid (room_c ⟨s, wt, ag, ct, nx⟩)
    have hsr := Lib.hid (sRoom_c ⟨s, wt, ag, ct, nx⟩)
    have hso := Lib.hid (sFarmOk_c ⟨s, wt, ag, ct, nx⟩)
    go_wp2_with fail
    cases hk : Fm.ok ⟨s, wt, ag, ct, nx⟩
    · rw [hk] at hso
      simp only [FRoom, hk, Bool.false_eq_true, if_false] at hro hsr
      clear hk
      refine (hro.out _).mono ?_
      rintro e w2 ⟨rfl, hB2⟩
      simp only [Fm.v]
      go_wp2_with fail
      have hO : OwnL w [(w2.heap.size, .cells #[.bool false, .bool false, .bool false, .int .i64 0, .int .i64 0] 24), (w1.heap.size, .cells #[.bool s, .bool wt, .bool ag, .int .i64 ct, .int .i64 nx] 24)] _ := (((OwnL.nil w).below hB1).put _ |>.below hB2).put _
      clear hB1 hB2
      have hO := Lib.hid hO
      apply region_inv (VV [IsV _, IsV _, (IsV (.agg #[.bool false, .bool false, .bool false, .int .i64 0, .int .i64 0])), IsV _, IsV _, IsV _, (IsV (.bool false)), IsV _, IsV _]) (fun _ W => OwnL w [(w2.heap.size, .cells #[.bool false, .bool false, .bool false, .int .i64 0, .int .i64 0] 24), (w1.heap.size, .cells #[.bool s, .bool wt, .bool ag, .int .i64 ct, .int .i64 nx] 24)] W) (fun _ _ => True) (by kernel_rfl) 64 rfl (by kernel_rfl)
      case h0 =>
        exact hO.out.drew
      case hsteps =>
        refine ⟨?_, ?_, ?_, ?_, ?_, ?_, ?_, ?_, ?_, trivial⟩
        · refine stepOK_of _ [4] rfl (by kernel_rfl) ?_ rfl
          intro t ρ W ht hc hf hn ho hI
          clear hn
          have s4 := ho.1
          simp only [Array.getD_eq_getD_getElem?] at s4
          clear ho
          have hI' := Lib.hid hI
          have j0 := blk_cell hI.g0 0
          have j1 := blk_cell hI.g0 1
          have j2 := blk_cell hI.g0 2
          have j3 := blk_cell hI.g0 3
          have j4 := blk_cell hI.g0 4
          clear hI
          go_simp
          exact post_mk (hI'.out) (trivial) rfl
        · refine stepOK_of _ [3] rfl (by kernel_rfl) ?_ rfl
          intro t ρ W ht hc hf hn ho hI
          clear hn
          have s3 := ho.1
          simp only [Array.getD_eq_getD_getElem?] at s3
          clear ho
          have hI' := Lib.hid hI
          have j0 := blk_cell hI.g1 0
          have j1 := blk_cell hI.g1 1
          have j2 := blk_cell hI.g1 2
          have j3 := blk_cell hI.g1 3
          have j4 := blk_cell hI.g1 4
          clear hI
          go_simp
          exact post_mk (hI'.out) (trivial) rfl
        · refine stepOK_of _ [] rfl (by kernel_rfl) ?_ rfl
          intro t ρ W ht hc hf hn ho hI
          obtain ⟨u1, q1, s15⟩ := hn.1
          clear hn
          have q1 : u1 = _ := q1
          subst q1
          have s15 : ρ (.tmp 15) = _ := s15
          clear ho
          have hI' := Lib.hid hI
          clear hI
          go_simp
          refine (hsr.out W).mono ?_
          rintro e W2 ⟨rfl, hb⟩
          exact endp_mk (post_mk (hI'.out.below hb) trivial rfl)
        · refine stepOK_of _ [] rfl (by kernel_rfl) ?_ rfl
          intro t ρ W ht hc hf hn ho hI
          obtain ⟨u0, q0, s14⟩ := hn.1
          obtain ⟨u2, q2, s16⟩ := hn.2.1
          clear hn
          have q0 : u0 = _ := q0
          subst q0
          have s14 : ρ (.tmp 14) = _ := s14
          have q2 : u2 = _ := q2
          subst q2
          have s16 : ρ (.tmp 16) = _ := s16
          clear ho
          have hI' := Lib.hid hI
          clear hI
          go_simp
          exact post_mk (hI'.out) (trivial) rfl
        · refine stepOK_of _ [] rfl (by kernel_rfl) ?_ rfl
          intro t ρ W ht hc hf hn ho hI
          obtain ⟨u3, q3, s17⟩ := hn.1
          clear hn
          have q3 : u3 = _ := q3
          subst q3
          have s17 : ρ (.tmp 17) = _ := s17
          clear ho
          have hI' := Lib.hid hI
          clear hI
          go_simp
          exact post_mk (hI'.out) (trivial) rfl
        · refine stepOK_g _ [3] rfl (by kernel_rfl) ?_ rfl (fun v W h => h)
          intro t ρ W ht hc hf hn ho hI
          clear hn
          have s3 := ho.1
          simp only [Array.getD_eq_getD_getElem?] at s3
          clear ho
          have hI' := Lib.hid hI
          have j0 := blk_cell hI.g1 0
          have j1 := blk_cell hI.g1 1
          have j2 := blk_cell hI.g1 2
          have j3 := blk_cell hI.g1 3
          have j4 := blk_cell hI.g1 4
          clear hI
          go_simp
          exact post_mk (hI'.out) (trivial) rfl
        · refine stepOK_g _ [] rfl (by kernel_rfl) ?_ rfl (fun v W h => h)
          intro t ρ W ht hc hf hn ho hI
          obtain ⟨u5, q5, s19⟩ := hn.1
          clear hn
          have q5 : u5 = _ := q5
          subst q5
          have s19 : ρ (.tmp 19) = _ := s19
          clear ho
          have hI' := Lib.hid hI
          clear hI
          go_simp
          refine (hso.out W).mono ?_
          rintro e W2 ⟨rfl, hb⟩
          exact endp_mk (post_mk (hI'.out.below hb) trivial rfl)
        · refine stepOK_g _ [] rfl (by kernel_rfl) ?_ rfl (fun v W h => h)
          intro t ρ W ht hc hf hn ho hI
          obtain ⟨u6, q6, s20⟩ := hn.1
          clear hn
          have q6 : u6 = _ := q6
          subst q6
          have s20 : ρ (.tmp 20) = _ := s20
          clear ho
          have hI' := Lib.hid hI
          clear hI
          go_simp
          exact post_mk (hI'.out) (trivial) rfl
        · refine stepOK_of _ [] rfl (by kernel_rfl) ?_ rfl
          intro t ρ W ht hc hf hn ho hI
          obtain ⟨u4, q4, s18⟩ := hn.1
          obtain ⟨u7, q7, s21⟩ := hn.2.1
          clear hn
          have q4 : u4 = _ := q4
          subst q4
          have s18 : ρ (.tmp 18) = _ := s18
          have q7 : u7 = _ := q7
          subst q7
          have s21 : ρ (.tmp 21) = _ := s21
          clear ho
          have hI' := Lib.hid hI
          clear hI
          go_simp
          exact post_mk (hI'.out) (trivial) rfl
      case hst => exact vv_stable ⟨isV_st, isV_st, fun _ _ _ _ h => h, isV_st, isV_st, isV_st, fun _ _ _ _ h => h, isV_st, isV_st, trivial⟩
      intro vs W hlen hI hV
      obtain ⟨x0, x1, x2, x3, x4, x5, x6, x7, x8, rfl⟩ := list_len9 vs hlen
      have y0 : x0 = _ := hV 0 _ rfl
      subst y0
      have y1 : x1 = _ := hV 1 _ rfl
      subst y1
      have y2 : x2 = _ := hV 2 _ rfl
      subst y2
      have y3 : x3 = _ := hV 3 _ rfl
      subst y3
      have y4 : x4 = _ := hV 4 _ rfl
      subst y4
      have y5 : x5 = _ := hV 5 _ rfl
      subst y5
      have y6 : x6 = _ := hV 6 _ rfl
      subst y6
      have y7 : x7 = _ := hV 7 _ rfl
      subst y7
      have y8 : x8 = _ := hV 8 _ rfl
      subst y8
      clear hV hlen
      simp only [Exit.then, putAll, Act.put, List.setIfInBounds_toArray, List.set_cons_zero, List.set_cons_succ]
      have k0 := fun o => blk_cell hI.g0 o
      have k1 := fun o => blk_cell hI.g1 o
      have hI := Lib.hid hI
      go_wp2_with fail
      clear k0 k1
      apply region_inv (VV [IsV _, IsV _, (IsV (.agg #[.bool false, .bool false, .bool false, .int .i64 0, .int .i64 0])), IsV _, IsV _]) (fun _ W => OwnL w [(w2.heap.size, .cells #[.bool false, .bool false, .bool false, .int .i64 0, .int .i64 0] 24), (w1.heap.size, .cells #[.bool s, .bool wt, .bool ag, .int .i64 ct, .int .i64 nx] 24)] W) (fun _ _ => True) (by kernel_rfl) 64 rfl (by kernel_rfl)
      case h0 =>
        exact hI.out.drew
      case hsteps =>
        refine ⟨?_, ?_, ?_, ?_, ?_, trivial⟩
        · refine stepOK_of _ [4] rfl (by kernel_rfl) ?_ rfl
          intro t ρ W ht hc hf hn ho hI
          clear hn
          have s4 := ho.1
          simp only [Array.getD_eq_getD_getElem?] at s4
          clear ho
          have hI' := Lib.hid hI
          have j0 := blk_cell hI.g0 0
          have j1 := blk_cell hI.g0 1
          have j2 := blk_cell hI.g0 2
          have j3 := blk_cell hI.g0 3
          have j4 := blk_cell hI.g0 4
          clear hI
          go_simp
          exact post_mk (hI'.out) (trivial) rfl
        · refine stepOK_of _ [3] rfl (by kernel_rfl) ?_ rfl
          intro t ρ W ht hc hf hn ho hI
          clear hn
          have s3 := ho.1
          simp only [Array.getD_eq_getD_getElem?] at s3
          clear ho
          have hI' := Lib.hid hI
          have j0 := blk_cell hI.g1 0
          have j1 := blk_cell hI.g1 1
          have j2 := blk_cell hI.g1 2
          have j3 := blk_cell hI.g1 3
          have j4 := blk_cell hI.g1 4
          clear hI
          go_simp
          exact post_mk (hI'.out) (trivial) rfl
        · refine stepOK_of _ [] rfl (by kernel_rfl) ?_ rfl
          intro t ρ W ht hc hf hn ho hI
          obtain ⟨u1, q1, s24⟩ := hn.1
          clear hn
          have q1 : u1 = _ := q1
          subst q1
          have s24 : ρ (.tmp 24) = _ := s24
          clear ho
          have hI' := Lib.hid hI
          clear hI
          go_simp
          refine (hsr.out W).mono ?_
          rintro e W2 ⟨rfl, hb⟩
          exact endp_mk (post_mk (hI'.out.below hb) trivial rfl)
        · refine stepOK_of _ [] rfl (by kernel_rfl) ?_ rfl
          intro t ρ W ht hc hf hn ho hI
          obtain ⟨u0, q0, s23⟩ := hn.1
          obtain ⟨u2, q2, s25⟩ := hn.2.1
          clear hn
          have q0 : u0 = _ := q0
          subst q0
          have s23 : ρ (.tmp 23) = _ := s23
          have q2 : u2 = _ := q2
          subst q2
          have s25 : ρ (.tmp 25) = _ := s25
          clear ho
          have hI' := Lib.hid hI
          clear hI
          go_simp
          exact post_mk (hI'.out) (trivial) rfl
        · refine stepOK_of _ [] rfl (by kernel_rfl) ?_ rfl
          intro t ρ W ht hc hf hn ho hI
          obtain ⟨u3, q3, s26⟩ := hn.1
          clear hn
          have q3 : u3 = _ := q3
          subst q3
          have s26 : ρ (.tmp 26) = _ := s26
          clear ho
          have hI' := Lib.hid hI
          clear hI
          go_simp
          exact post_mk (hI'.out) (trivial) rfl
      case hst => exact vv_stable ⟨isV_st, isV_st, fun _ _ _ _ h => h, isV_st, isV_st, trivial⟩
      intro vs W hlen hI hV
      obtain ⟨x0, x1, x2, x3, x4, rfl⟩ := list_len5 vs hlen
      have y0 : x0 = _ := hV 0 _ rfl
      subst y0
      have y1 : x1 = _ := hV 1 _ rfl
      subst y1
      have y2 : x2 = _ := hV 2 _ rfl
      subst y2
      have y3 : x3 = _ := hV 3 _ rfl
      subst y3
      have y4 : x4 = _ := hV 4 _ rfl
      subst y4
      clear hV hlen
      simp only [Exit.then, putAll, Act.put, List.setIfInBounds_toArray, List.set_cons_zero, List.set_cons_succ]
      have hI := Lib.hid hI
      go_wp2_with fail
      go_ret
      exact ⟨rfl, hI.out.1⟩
    · rw [hk] at hso
      obtain ⟨p1, p2, y, p3⟩ := pure_room s wt ag ct nx hk
      rw [p1] at hro hsr
      have hfo := Lib.hid (farmOk_c ⟨s, false, ag, ct, nx⟩)
      rw [p2] at hfo
      have hhe := Lib.hid (hear_c ⟨s, false, ag, ct, nx⟩ ⟨false, false, 0, 0, nx, ⟨#[100]⟩⟩ true)
      rw [p3] at hhe
      obtain ⟨y1, y2, y3, y4, y5⟩ := y
      clear p1 p2 p3 hk
      refine (hro.out _).mono ?_
      rintro e w2 ⟨rfl, hB2⟩
      simp only [Fm.v]
      go_wp2_with fail
      have hO : OwnL w [(w2.heap.size, .cells #[.bool s, .bool false, .bool ag, .int .i64 ct, .int .i64 nx] 24), (w1.heap.size, .cells #[.bool s, .bool wt, .bool ag, .int .i64 ct, .int .i64 nx] 24)] _ := (((OwnL.nil w).below hB1).put _ |>.below hB2).put _
      clear hB1 hB2
      have hO := Lib.hid hO
      apply region_inv (VV [IsV _, IsV _, (IsV (.agg #[.bool s, .bool false, .bool ag, .int .i64 ct, .int .i64 nx])), IsV _, IsV _, IsV _, (IsV (.bool true)), IsV _, IsV _]) (fun _ W => OwnL w [(w2.heap.size, .cells #[.bool s, .bool false, .bool ag, .int .i64 ct, .int .i64 nx] 24), (w1.heap.size, .cells #[.bool s, .bool wt, .bool ag, .int .i64 ct, .int .i64 nx] 24)] W) (fun _ _ => True) (by kernel_rfl) 64 rfl (by kernel_rfl)
      case h0 =>
        exact hO.out.drew
      case hsteps =>
        refine ⟨?_, ?_, ?_, ?_, ?_, ?_, ?_, ?_, ?_, trivial⟩
        · refine stepOK_of _ [4] rfl (by kernel_rfl) ?_ rfl
          intro t ρ W ht hc hf hn ho hI
          clear hn
          have s4 := ho.1
          simp only [Array.getD_eq_getD_getElem?] at s4
          clear ho
          have hI' := Lib.hid hI
          have j0 := blk_cell hI.g0 0
          have j1 := blk_cell hI.g0 1
          have j2 := blk_cell hI.g0 2
          have j3 := blk_cell hI.g0 3
          have j4 := blk_cell hI.g0 4
          clear hI
          go_simp
          exact post_mk (hI'.out) (trivial) rfl
        · refine stepOK_of _ [3] rfl (by kernel_rfl) ?_ rfl
          intro t ρ W ht hc hf hn ho hI
          clear hn
          have s3 := ho.1
          simp only [Array.getD_eq_getD_getElem?] at s3
          clear ho
          have hI' := Lib.hid hI
          have j0 := blk_cell hI.g1 0
          have j1 := blk_cell hI.g1 1
          have j2 := blk_cell hI.g1 2
          have j3 := blk_cell hI.g1 3
          have j4 := blk_cell hI.g1 4
          clear hI
          go_simp
          exact post_mk (hI'.out) (trivial) rfl
        · refine stepOK_of _ [] rfl (by kernel_rfl) ?_ rfl
          intro t ρ W ht hc hf hn ho hI
          obtain ⟨u1, q1, s15⟩ := hn.1
          clear hn
          have q1 : u1 = _ := q1
          subst q1
          have s15 : ρ (.tmp 15) = _ := s15
          clear ho
          have hI' := Lib.hid hI
          clear hI
          go_simp
          refine (hsr.out W).mono ?_
          rintro e W2 ⟨rfl, hb⟩
          exact endp_mk (post_mk (hI'.out.below hb) trivial rfl)
        · refine stepOK_of _ [] rfl (by kernel_rfl) ?_ rfl
          intro t ρ W ht hc hf hn ho hI
          obtain ⟨u0, q0, s14⟩ := hn.1
          obtain ⟨u2, q2, s16⟩ := hn.2.1
          clear hn
          have q0 : u0 = _ := q0
          subst q0
          have s14 : ρ (.tmp 14) = _ := s14
          have q2 : u2 = _ := q2
          subst q2
          have s16 : ρ (.tmp 16) = _ := s16
          clear ho
          have hI' := Lib.hid hI
          clear hI
          go_simp
          exact post_mk (hI'.out) (trivial) rfl
        · refine stepOK_of _ [] rfl (by kernel_rfl) ?_ rfl
          intro t ρ W ht hc hf hn ho hI
          obtain ⟨u3, q3, s17⟩ := hn.1
          clear hn
          have q3 : u3 = _ := q3
          subst q3
          have s17 : ρ (.tmp 17) = _ := s17
          clear ho
          have hI' := Lib.hid hI
          clear hI
          go_simp
          exact post_mk (hI'.out) (trivial) rfl
        · refine stepOK_g _ [3] rfl (by kernel_rfl) ?_ rfl (fun v W h => h)
          intro t ρ W ht hc hf hn ho hI
          clear hn
          have s3 := ho.1
          simp only [Array.getD_eq_getD_getElem?] at s3
          clear ho
          have hI' := Lib.hid hI
          have j0 := blk_cell hI.g1 0
          have j1 := blk_cell hI.g1 1
          have j2 := blk_cell hI.g1 2
          have j3 := blk_cell hI.g1 3
          have j4 := blk_cell hI.g1 4
          clear hI
          go_simp
          exact post_mk (hI'.out) (trivial) rfl
        · refine stepOK_g _ [] rfl (by kernel_rfl) ?_ rfl (fun v W h => h)
          intro t ρ W ht hc hf hn ho hI
          obtain ⟨u5, q5, s19⟩ := hn.1
          clear hn
          have q5 : u5 = _ := q5
          subst q5
          have s19 : ρ (.tmp 19) = _ := s19
          clear ho
          have hI' := Lib.hid hI
          clear hI
          go_simp
          refine (hso.out W).mono ?_
          rintro e W2 ⟨rfl, hb⟩
          exact endp_mk (post_mk (hI'.out.below hb) trivial rfl)
        · refine stepOK_g _ [] rfl (by kernel_rfl) ?_ rfl (fun v W h => h)
          intro t ρ W ht hc hf hn ho hI
          obtain ⟨u6, q6, s20⟩ := hn.1
          clear hn
          have q6 : u6 = _ := q6
          subst q6
          have s20 : ρ (.tmp 20) = _ := s20
          clear ho
          have hI' := Lib.hid hI
          clear hI
          go_simp
          exact post_mk (hI'.out) (trivial) rfl
        · refine stepOK_of _ [] rfl (by kernel_rfl) ?_ rfl
          intro t ρ W ht hc hf hn ho hI
          obtain ⟨u4, q4, s18⟩ := hn.1
          obtain ⟨u7, q7, s21⟩ := hn.2.1
          clear hn
          have q4 : u4 = _ := q4
          subst q4
          have s18 : ρ (.tmp 18) = _ := s18
          have q7 : u7 = _ := q7
          subst q7
          have s21 : ρ (.tmp 21) = _ := s21
          clear ho
          have hI' := Lib.hid hI
          clear hI
          go_simp
          exact post_mk (hI'.out) (trivial) rfl
      case hst => exact vv_stable ⟨isV_st, isV_st, fun _ _ _ _ h => h, isV_st, isV_st, isV_st, fun _ _ _ _ h => h, isV_st, isV_st, trivial⟩
      intro vs W hlen hI hV
      obtain ⟨x0, x1, x2, x3, x4, x5, x6, x7, x8, rfl⟩ := list_len9 vs hlen
      have y0 : x0 = _ := hV 0 _ rfl
      subst y0
      have y1 : x1 = _ := hV 1 _ rfl
      subst y1
      have y2 : x2 = _ := hV 2 _ rfl
      subst y2
      have y3 : x3 = _ := hV 3 _ rfl
      subst y3
      have y4 : x4 = _ := hV 4 _ rfl
      subst y4
      have y5 : x5 = _ := hV 5 _ rfl
      subst y5
      have y6 : x6 = _ := hV 6 _ rfl
      subst y6
      have y7 : x7 = _ := hV 7 _ rfl
      subst y7
      have y8 : x8 = _ := hV 8 _ rfl
      subst y8
      clear hV hlen
      simp only [Exit.then, putAll, Act.put, List.setIfInBounds_toArray, List.set_cons_zero, List.set_cons_succ]
      have k0 := fun o => blk_cell hI.g0 o
      have k1 := fun o => blk_cell hI.g1 o
      have hI := Lib.hid hI
      go_wp2_with fail
      refine (hhe.out _).mono ?_
      rintro e w3 ⟨rfl, hB3⟩
      have hI := hI.out.below hB3
      have k0 := fun o => blk_cell hI.g0 o
      have k1 := fun o => blk_cell hI.g1 o
      have hl0 := (Array.getElem?_eq_some_iff.1 hI.g0).1
      have hl1 := (Array.getElem?_eq_some_iff.1 hI.g1).1
      have hI := Lib.hid hI
      simp only [Fm.v]
      cases s
      all_goals
        go_wp2_with fail
        refine (hfo.out _).mono ?_
        rintro e w4 ⟨rfl, hB4⟩
        have hI := (hI.out.alloc _).below hB4
        have k2 := fun o => blk_cell hI.g0 o
        have k3 := fun o => blk_cell hI.g1 o
        have hI := Lib.hid hI
        go_wp2_with fail
        go_ret
        exact ⟨rfl, hI.out.1⟩

end Go.Proofs.Ytcbbebhjddphfaa
