/- The law FnExactFarmHear, walked. -/
import Derived.Test.YtcbbebhjddphfaaL5
namespace Go.Proofs.Ytcbbebhjddphfaa
open Go.RowKit
set_option linter.unusedSimpArgs false
set_option linter.unusedVariables false

theorem list_len12_L7 : ∀ (l : List Value), l.length = 12 → ∃ x0 x1 x2 x3 x4 x5 x6 x7 x8 x9 x10 x11, l = x0 :: x1 :: x2 :: x3 :: x4 :: x5 :: x6 :: x7 :: x8 :: x9 :: x10 :: x11 :: []
  | x0 :: x1 :: x2 :: x3 :: x4 :: x5 :: x6 :: x7 :: x8 :: x9 :: x10 :: x11 :: [], _ => ⟨x0, x1, x2, x3, x4, x5, x6, x7, x8, x9, x10, x11, rfl⟩

theorem toFarm_c (s wt ag : Bool) (ct nx : Int) (w : World) : Calls Try.prog 25 #[.agg #[.bool s, .bool wt, .bool ag, .int .i64 ct, .int .i64 nx]] w (Ret w (.agg #[.bool s, .bool wt, .bool ag, .int .i64 ct, .int .i64 nx])) := by
  go_enter Try.func25, Try.ntmps25
  go_wp2_with fail
  exact bodyPost_ret (v := .agg #[.bool s, .bool wt, .bool ag, .int .i64 ct, .int .i64 nx]) (by simp [results, Try.results25, go_sem]) rfl ⟨rfl, (by repeat (first | (with_reducible exact Below.refl _ _) | (with_reducible assumption) | (with_reducible refine Below.drew ?_) | (with_reducible refine below_drewN' ?_ _) | (with_reducible refine Below.setCell ?_ (by first | (simp; done) | (simp; omega) | omega) _) | (with_reducible refine Below.alloc ?_ (by first | (simp; done) | (simp; omega) | omega) _) | (with_reducible refine Below.trans ?_ (Below.mono (by assumption) (by first | (simp; done) | (simp; omega) | omega)))))⟩
theorem toFrame_c (px gx : Bool) (cx vx sx : Int) (dx : ByteArray) (w : World) : Calls Try.prog 26 #[.agg #[.bool px, .bool gx, .int .i64 cx, .int .i64 vx, .int .i64 sx, .string dx]] w (Ret w (.agg #[.bool px, .bool gx, .int .i64 cx, .int .i64 vx, .int .i64 sx, .string dx])) := by
  go_enter Try.func26, Try.ntmps26
  go_wp2_with fail
  exact bodyPost_ret (v := .agg #[.bool px, .bool gx, .int .i64 cx, .int .i64 vx, .int .i64 sx, .string dx]) (by simp [results, Try.results26, go_sem]) rfl ⟨rfl, (by repeat (first | (with_reducible exact Below.refl _ _) | (with_reducible assumption) | (with_reducible refine Below.drew ?_) | (with_reducible refine below_drewN' ?_ _) | (with_reducible refine Below.setCell ?_ (by first | (simp; done) | (simp; omega) | omega) _) | (with_reducible refine Below.alloc ?_ (by first | (simp; done) | (simp; omega) | omega) _) | (with_reducible refine Below.trans ?_ (Below.mono (by assumption) (by first | (simp; done) | (simp; omega) | omega)))))⟩
theorem szFrame_c (px gx : Bool) (cx vx sx : Int) (dx : ByteArray) (w : World) (hd : dx.size ≤ 9223372036854775807) : Calls Try.prog 23 #[.agg #[.bool px, .bool gx, .int .i64 cx, .int .i64 vx, .int .i64 sx, .string dx], .int .i64 1048576] w (Ret w (.int .i64 (if 1048576 < dx.size then -1 else 1048576 - dx.size))) := by
  have e1 : IntKind.i64.wrap (1048576 - (dx.size : Int)) = 1048576 - dx.size := wr (by omega) (by omega)
  by_cases h : 1048576 < dx.size
  · rw [if_pos h]
    have h' : (1048576 : Int) - dx.size < 0 := by omega
    go_enter Try.func23, Try.ntmps23
    go_wp2_with fail
    go_ret
    exact ⟨rfl, (by repeat (first | (with_reducible exact Below.refl _ _) | (with_reducible assumption) | (with_reducible refine Below.drew ?_) | (with_reducible refine below_drewN' ?_ _) | (with_reducible refine Below.setCell ?_ (by first | (simp; done) | (simp; omega) | omega) _) | (with_reducible refine Below.alloc ?_ (by first | (simp; done) | (simp; omega) | omega) _) | (with_reducible refine Below.trans ?_ (Below.mono (by assumption) (by first | (simp; done) | (simp; omega) | omega)))))⟩
  · rw [if_neg h]
    have h' : ¬ (1048576 : Int) - dx.size < 0 := by omega
    go_enter Try.func23, Try.ntmps23
    go_wp2_with fail
    go_ret
    exact ⟨rfl, (by repeat (first | (with_reducible exact Below.refl _ _) | (with_reducible assumption) | (with_reducible refine Below.drew ?_) | (with_reducible refine below_drewN' ?_ _) | (with_reducible refine Below.setCell ?_ (by first | (simp; done) | (simp; omega) | omega) _) | (with_reducible refine Below.alloc ?_ (by first | (simp; done) | (simp; omega) | omega) _) | (with_reducible refine Below.trans ?_ (Below.mono (by assumption) (by first | (simp; done) | (simp; omega) | omega)))))⟩
theorem eqFarm_c (s wt ag : Bool) (ct nx : Int) (w : World) : Calls Try.prog 27 #[.agg #[.bool s, .bool wt, .bool ag, .int .i64 ct, .int .i64 nx], .agg #[.bool s, .bool wt, .bool ag, .int .i64 ct, .int .i64 nx]] w (Ret w (.bool true)) := by
  go_enter Try.func27, Try.ntmps27
  go_wp2_with fail
  go_ret
  exact ⟨rfl, (by repeat (first | (with_reducible exact Below.refl _ _) | (with_reducible assumption) | (with_reducible refine Below.drew ?_) | (with_reducible refine below_drewN' ?_ _) | (with_reducible refine Below.setCell ?_ (by first | (simp; done) | (simp; omega) | omega) _) | (with_reducible refine Below.alloc ?_ (by first | (simp; done) | (simp; omega) | omega) _) | (with_reducible refine Below.trans ?_ (Below.mono (by assumption) (by first | (simp; done) | (simp; omega) | omega)))))⟩

set_option maxHeartbeats 4000000 in
set_option maxRecDepth 100000 in
theorem law_hear (w : World) (s wt ag : Bool) (ct nx : Int) (px gx : Bool) (cx vx sx : Int) (dx : ByteArray) (b : Bool) (hd : dx.size ≤ 9223372036854775807) : Calls Try.prog 5 #[.agg #[.bool s, .bool wt, .bool ag, .int .i64 ct, .int .i64 nx], .agg #[.bool px, .bool gx, .int .i64 cx, .int .i64 vx, .int .i64 sx, .string dx], .bool b] w (Ret w (.bool true)) := by
  have hsz := Lib.hid (fun W => szFrame_c px gx cx vx sx dx W hd)
  have hO := ((OwnL.nil w).put (.cells #[.bool s, .bool wt, .bool ag, .int .i64 ct, .int .i64 nx] 38)) |>.put' (w.heap.size + 1) (.cells #[.bool px, .bool gx, .int .i64 cx, .int .i64 vx, .int .i64 sx, .string dx] 39) (by simp)
  replace hO := Lib.hid hO
  by_cases hlong : 1048576 < dx.size
  · simp only [if_pos hlong] at hsz
    go_enter Try.func5, Try.ntmps5
    go_wp2_with fail
    refine (hsz.out _).mono ?_
    rintro e w1 ⟨rfl, hB1⟩
    replace hO := Lib.hid (hO.out.below hB1)
    go_wp2_with fail
    go_ret
    exact ⟨rfl, hO.out.1⟩
  · simp only [if_neg hlong] at hsz
    have hlen : ¬ (1048576 : Int) - dx.size < 0 := by omega
    have hh := hear_c ⟨s, wt, ag, ct, nx⟩ ⟨px, gx, cx, vx, sx, dx⟩ b
    have hs := sHear_c ⟨s, wt, ag, ct, nx⟩ ⟨px, gx, cx, vx, sx, dx⟩ b
    obtain ⟨⟨s1, wt1, ag1, ct1, nx1⟩, kk, hx⟩ : ∃ (y : Fm) (k : Int), FH ⟨s, wt, ag, ct, nx⟩ ⟨px, gx, cx, vx, sx, dx⟩ b = (y, k) := ⟨_, _, rfl⟩
    rw [hx] at hh hs
    clear hx
    replace hh := Lib.hid hh
    replace hs := Lib.hid hs
    go_enter Try.func5, Try.ntmps5
    go_wp2_with fail
    refine (hsz.out _).mono ?_
    rintro e w1 ⟨rfl, hB1⟩
    replace hO := Lib.hid (hO.out.below hB1)
    clear hB1 hsz
    go_wp2_with fail
    have hLt : ∀ p ∈ ([(w.heap.size + 1, .cells #[.bool px, .bool gx, .int .i64 cx, .int .i64 vx, .int .i64 sx, .string dx] 39), (w.heap.size, .cells #[.bool s, .bool wt, .bool ag, .int .i64 ct, .int .i64 nx] 38)] : List (Nat × Obj)), p.1 < w.heap.size + 2 := by
      intro p hp
      simp only [List.mem_cons, List.not_mem_nil, or_false] at hp
      rcases hp with rfl | rfl
      all_goals
        simp only
        omega
    replace hLt := Lib.hid hLt
    apply region_inv2 (VV2 [fun _ => IsV _, fun _ => (IsV (.agg #[.bool s, .bool wt, .bool ag, .int .i64 ct, .int .i64 nx])), fun _ => IsV _, fun _ => (IsV (.agg #[.bool px, .bool gx, .int .i64 cx, .int .i64 vx, .int .i64 sx, .string dx])), fun _ => IsV _, fun _ => (IsV (.tuple #[.agg #[.bool s1, .bool wt1, .bool ag1, .int .i64 ct1, .int .i64 nx1], .int .i64 kk])), fun _ => IsV _, fun _ => IsV _, fun _ => IsV _, fun _ => (BxV (w.heap.size + 2) (.cells #[.bool false, .bool false, .bool false, .int .i64 0, .int .i64 0] 24) (.cells #[.bool s1, .bool wt1, .bool ag1, .int .i64 ct1, .int .i64 nx1] 24)), (FillV 8 (w.heap.size + 2) (.cells #[.bool s1, .bool wt1, .bool ag1, .int .i64 ct1, .int .i64 nx1] 24)), fun _ => IsV _]) (fun _ Wx => OwnL w [(w.heap.size + 1, .cells #[.bool px, .bool gx, .int .i64 cx, .int .i64 vx, .int .i64 sx, .string dx] 39), (w.heap.size, .cells #[.bool s, .bool wt, .bool ag, .int .i64 ct, .int .i64 nx] 38)] Wx) (RB (.cells #[.bool false, .bool false, .bool false, .int .i64 0, .int .i64 0] 24) (.cells #[.bool s1, .bool wt1, .bool ag1, .int .i64 ct1, .int .i64 nx1] 24)) (by kernel_rfl) 44 rfl (by kernel_rfl)
    case h0 =>
      exact hO.out.drew
    case hsteps =>
      refine ⟨?_, ?_, ?_, ?_, ?_, ?_, ?_, ?_, ?_, ?_, ?_, ?_, trivial⟩
      · refine stepOK2_of _ [3] rfl (by kernel_rfl) ?_ rfl
        intro t ρ W ht hc hf hn ho hI
        clear hn
        have s3 := ho.1
        simp only [Array.getD_eq_getD_getElem?] at s3
        clear ho
        have hI' := Lib.hid hI
        have j0 := blk_cell hI.g1 0
        have j1 := blk_cell hI.g1 1
        have j2 := blk_cell hI.g1 2
        have j3 := blk_cell hI.g1 3
        have j4 := blk_cell hI.g1 4
        clear hI
        go_simp
        exact post_mk (hI'.out) (RB.refl) rfl
      · refine stepOK2_of _ [] rfl (by kernel_rfl) ?_ rfl
        intro t ρ W ht hc hf hn ho hI
        obtain ⟨u0, q0, s18⟩ := hn.1
        clear hn
        have q0 : u0 = _ := q0
        subst q0
        have s18 : ρ (.tmp 18) = _ := s18
        clear ho
        have hI' := Lib.hid hI
        clear hI
        go_simp
        refine (toFarm_c s wt ag ct nx W).mono ?_
        rintro e W2 ⟨rfl, hb⟩
        exact endp_mk (post_mk (hI'.out.below hb) (RB.below hb) rfl)
      · refine stepOK2_of _ [4] rfl (by kernel_rfl) ?_ rfl
        intro t ρ W ht hc hf hn ho hI
        clear hn
        have s4 := ho.1
        simp only [Array.getD_eq_getD_getElem?] at s4
        clear ho
        have hI' := Lib.hid hI
        have j0 := blk_cell hI.g0 0
        have j1 := blk_cell hI.g0 1
        have j2 := blk_cell hI.g0 2
        have j3 := blk_cell hI.g0 3
        have j4 := blk_cell hI.g0 4
        have j5 := blk_cell hI.g0 5
        clear hI
        go_simp
        exact post_mk (hI'.out) (RB.refl) rfl
      · refine stepOK2_of _ [] rfl (by kernel_rfl) ?_ rfl
        intro t ρ W ht hc hf hn ho hI
        obtain ⟨u2, q2, s20⟩ := hn.1
        clear hn
        have q2 : u2 = _ := q2
        subst q2
        have s20 : ρ (.tmp 20) = _ := s20
        clear ho
        have hI' := Lib.hid hI
        clear hI
        go_simp
        refine (toFrame_c px gx cx vx sx dx W).mono ?_
        rintro e W2 ⟨rfl, hb⟩
        exact endp_mk (post_mk (hI'.out.below hb) (RB.below hb) rfl)
      · refine stepOK2_of _ [2] rfl (by kernel_rfl) ?_ rfl
        intro t ρ W ht hc hf hn ho hI
        clear hn
        have s2 := ho.1
        simp only [Array.getD_eq_getD_getElem?] at s2
        clear ho
        have hI' := Lib.hid hI
        clear hI
        go_simp
        exact post_mk (hI'.out) (RB.refl) rfl
      · refine stepOK2_of _ [] rfl (by kernel_rfl) ?_ rfl
        intro t ρ W ht hc hf hn ho hI
        obtain ⟨u1, q1, s19⟩ := hn.1
        obtain ⟨u3, q3, s21⟩ := hn.2.1
        obtain ⟨u4, q4, s22⟩ := hn.2.2.1
        clear hn
        have q1 : u1 = _ := q1
        subst q1
        have s19 : ρ (.tmp 19) = _ := s19
        have q3 : u3 = _ := q3
        subst q3
        have s21 : ρ (.tmp 21) = _ := s21
        have q4 : u4 = _ := q4
        subst q4
        have s22 : ρ (.tmp 22) = _ := s22
        clear ho
        have hI' := Lib.hid hI
        clear hI
        go_simp
        refine (hs.out W).mono ?_
        rintro e W2 ⟨rfl, hb⟩
        exact endp_mk (post_mk (hI'.out.below hb) (RB.below hb) rfl)
      · refine stepOK2_of _ [] rfl (by kernel_rfl) ?_ rfl
        intro t ρ W ht hc hf hn ho hI
        obtain ⟨u5, q5, s23⟩ := hn.1
        clear hn
        have q5 : u5 = _ := q5
        subst q5
        have s23 : ρ (.tmp 23) = _ := s23
        clear ho
        have hI' := Lib.hid hI
        clear hI
        go_simp
        exact post_mk (hI'.out) (RB.refl) rfl
      · refine stepOK2_of _ [] rfl (by kernel_rfl) ?_ rfl
        intro t ρ W ht hc hf hn ho hI
        obtain ⟨u6, q6, s17⟩ := hn.1
        clear hn
        have q6 : u6 = _ := q6
        subst q6
        have s17 : ρ (.tmp 17) = _ := s17
        clear ho
        have hI' := Lib.hid hI
        clear hI
        go_simp
        exact post_mk (hI'.out) (RB.refl) rfl
      · refine stepOK2_of _ [] rfl (by kernel_rfl) ?_ rfl
        intro t ρ W ht hc hf hn ho hI
        obtain ⟨u6, q6, s17⟩ := hn.1
        clear hn
        have q6 : u6 = _ := q6
        subst q6
        have s17 : ρ (.tmp 17) = _ := s17
        clear ho
        have hI' := Lib.hid hI
        clear hI
        go_simp
        exact post_mk (hI'.out) (RB.refl) rfl
      · refine stepOK2_of _ [] rfl (by kernel_rfl) ?_ rfl
        intro t ρ W ht hc hf hn ho hI
        clear hn
        clear ho
        have hI' := Lib.hid hI
        clear hI
        go_simp
        exact post_mk (hI'.out.alloc _) (RB.below ((Below.refl _ _).alloc (Nat.le_refl _) _)) ⟨_, rfl, (Array.getElem?_eq_some_iff.1 hI'.out.g0).1, .inl (heap_top _ _ rfl)⟩
      · refine stepOK2_of _ [] rfl (by kernel_rfl) ?_ rfl
        intro t ρ W ht hc hf hn ho hI
        obtain ⟨u9, q9, s8⟩ := hn.1
        obtain ⟨u7, q7, s24⟩ := hn.2.1
        clear hn
        obtain ⟨B1, rfl, hNBB1, hZC⟩ := q9
        have s8 : ρ (.tmp 8) = _ := s8
        have q7 : u7 = _ := q7
        subst q7
        have s24 : ρ (.tmp 24) = _ := s24
        clear ho
        have hI' := Lib.hid hI
        obtain ⟨cs, hb, hcs⟩ : ∃ cs, W.heap[B1]? = some (.cells cs 24 (0, 0)) ∧ cs.size = 5 := by rcases hZC with h | h <;> exact ⟨_, h, rfl⟩
        obtain ⟨z0, z1, z2, z3, z4, rfl⟩ := arr_len5 cs hcs
        clear hI hZC
        have j0 := blk_cell hb
        have j1 := blk_frozen hb
        go_simp
        have hb9 := blk_put (blk_put (blk_put (blk_put (blk_put hb 0 (.bool s1)) 1 (.bool wt1)) 2 (.bool ag1)) 3 (.int .i64 ct1)) 4 (.int .i64 nx1)
        have hne : ∀ {A : Nat} {o : Obj}, A ≠ B1 → W.heap[A]? = some o → (((((W.setCell ⟨B1, 0, none⟩ (.bool s1)).setCell ⟨B1, 1, none⟩ (.bool wt1)).setCell ⟨B1, 2, none⟩ (.bool ag1)).setCell ⟨B1, 3, none⟩ (.int .i64 ct1)).setCell ⟨B1, 4, none⟩ (.int .i64 nx1)).heap[A]? = some o := fun hA ho => blk_set (blk_set (blk_set (blk_set (blk_set ho _ _ hA) _ _ hA) _ _ hA) _ _ hA) _ _ hA
        have hNB9 := hNBB1
        refine post_mk ⟨((((hI'.out.1.setCell (by show _ ≤ B1; omega) _).setCell (by show _ ≤ B1; omega) _).setCell (by show _ ≤ B1; omega) _).setCell (by show _ ≤ B1; omega) _).setCell (by show _ ≤ B1; omega) _, fun p hp => hne (by have := hLt.out p hp; omega) (hI'.out.2 p hp)⟩ ⟨fun B9 h2 => ?_, fun B9 h2 => ?_⟩ ⟨B1, s8, hNBB1, hb9⟩
        · by_cases e : B9 = B1
          · subst e
            exact hb9
          · exact hne e h2
        · by_cases e : B9 = B1
          · subst e
            exact .inr hb9
          · exact .inl (hne e h2)
      · refine stepOK2_of _ [] rfl (by kernel_rfl) ?_ rfl
        intro t ρ W ht hc hf hn ho hI
        obtain ⟨u8, q8, s25⟩ := hn.1
        clear hn
        have q8 : u8 = _ := q8
        subst q8
        have s25 : ρ (.tmp 25) = _ := s25
        clear ho
        have hI' := Lib.hid hI
        clear hI
        go_simp
        exact post_mk (hI'.out) (RB.refl) rfl
    case hst => exact vv_stable2 ⟨fun _ => isV_st, fun _ => fun _ _ _ _ h => h, fun _ => isV_st, fun _ => fun _ _ _ _ h => h, fun _ => isV_st, fun _ => fun _ _ _ _ h => h, fun _ => isV_st, fun _ => isV_st, fun _ => isV_st, fun _ => bxV_st, fillV_st, fun _ => isV_st, trivial⟩
    case hloc => exact locAll_of ⟨locE_c, locE_c, locE_c, locE_c, locE_c, locE_c, locE_c, locE_c, locE_c, locE_c, fillV_loc 9 (by kernel_rfl) (by kernel_rfl), locE_c, trivial⟩
    intro vs W hlen hI hV
    obtain ⟨x0, x1, x2, x3, x4, x5, x6, x7, x8, x9, x10, x11, rfl⟩ := list_len12_L7 vs hlen
    have y0 : x0 = _ := hV 0 _ rfl
    subst y0
    have y1 : x1 = _ := hV 1 _ rfl
    subst y1
    have y2 : x2 = _ := hV 2 _ rfl
    subst y2
    have y3 : x3 = _ := hV 3 _ rfl
    subst y3
    have y4 : x4 = _ := hV 4 _ rfl
    subst y4
    have y5 : x5 = _ := hV 5 _ rfl
    subst y5
    have y6 : x6 = _ := hV 6 _ rfl
    subst y6
    have y7 : x7 = _ := hV 7 _ rfl
    subst y7
    have y8 : x8 = _ := hV 8 _ rfl
    subst y8
    have y9 := hV 9 _ rfl
    obtain ⟨B1, rfl, hNBB1, hZC⟩ := y9
    have y10 := hV 10 _ rfl
    have y11 : x11 = _ := hV 11 _ rfl
    subst y11
    clear hV hlen
    simp only [Exit.then, putAll, Act.put, List.setIfInBounds_toArray, List.set_cons_zero, List.set_cons_succ]
    clear hO hZC
    obtain ⟨B', hB', hN', hc'⟩ := y10
    obtain rfl : B1 = B' := by simpa [putAll, Act.put, Oper.dst] using hB'
    clear hB' hN'
    have hO := hI.add B1 _ hc'
    clear hI
    have k0 := fun o => blk_cell hO.g0 o
    have hl0 := (Array.getElem?_eq_some_iff.1 hO.g0).1
    replace hO := Lib.hid hO
    clear hLt
    replace hNBB1 := Lib.hid hNBB1
    go_wp2_with fail
    have hLt : ∀ p ∈ ([(B1, .cells #[.bool s1, .bool wt1, .bool ag1, .int .i64 ct1, .int .i64 nx1] 24), (w.heap.size + 1, .cells #[.bool px, .bool gx, .int .i64 cx, .int .i64 vx, .int .i64 sx, .string dx] 39), (w.heap.size, .cells #[.bool s, .bool wt, .bool ag, .int .i64 ct, .int .i64 nx] 38)] : List (Nat × Obj)), p.1 < B1 + 1 := by
      intro p hp
      have := hNBB1.out
      simp only [List.mem_cons, List.not_mem_nil, or_false] at hp
      rcases hp with rfl | rfl | rfl
      all_goals
        simp only
        omega
    have hwB : w.heap.size ≤ B1 := by have := hNBB1.out; omega
    clear k0 hl0
    replace hLt := Lib.hid hLt
    apply region_inv2 (VV2 [fun _ => IsV _, fun _ => (IsV (.agg #[.bool s, .bool wt, .bool ag, .int .i64 ct, .int .i64 nx])), fun _ => IsV _, fun _ => (IsV (.agg #[.bool px, .bool gx, .int .i64 cx, .int .i64 vx, .int .i64 sx, .string dx])), fun _ => IsV _, fun _ => (IsV (.tuple #[.agg #[.bool s1, .bool wt1, .bool ag1, .int .i64 ct1, .int .i64 nx1], .int .i64 kk])), fun _ => IsV _, fun _ => IsV _, fun _ => IsV _, fun _ => (BxV (B1 + 1) (.cells #[.bool false, .bool false, .bool false, .int .i64 0, .int .i64 0] 24) (.cells #[.bool s1, .bool wt1, .bool ag1, .int .i64 ct1, .int .i64 nx1] 24)), (FillV 10 (B1 + 1) (.cells #[.bool s1, .bool wt1, .bool ag1, .int .i64 ct1, .int .i64 nx1] 24)), fun _ => IsV _]) (fun _ Wx => OwnL w [(B1, .cells #[.bool s1, .bool wt1, .bool ag1, .int .i64 ct1, .int .i64 nx1] 24), (w.heap.size + 1, .cells #[.bool px, .bool gx, .int .i64 cx, .int .i64 vx, .int .i64 sx, .string dx] 39), (w.heap.size, .cells #[.bool s, .bool wt, .bool ag, .int .i64 ct, .int .i64 nx] 38)] Wx) (RB (.cells #[.bool false, .bool false, .bool false, .int .i64 0, .int .i64 0] 24) (.cells #[.bool s1, .bool wt1, .bool ag1, .int .i64 ct1, .int .i64 nx1] 24)) (by kernel_rfl) 44 rfl (by kernel_rfl)
    case h0 =>
      exact hO.out.drew
    case hsteps =>
      refine ⟨?_, ?_, ?_, ?_, ?_, ?_, ?_, ?_, ?_, ?_, ?_, ?_, trivial⟩
      · refine stepOK2_of _ [3] rfl (by kernel_rfl) ?_ rfl
        intro t ρ W ht hc hf hn ho hI
        clear hn
        have s3 := ho.1
        simp only [Array.getD_eq_getD_getElem?] at s3
        clear ho
        have hI' := Lib.hid hI
        have j0 := blk_cell hI.g2 0
        have j1 := blk_cell hI.g2 1
        have j2 := blk_cell hI.g2 2
        have j3 := blk_cell hI.g2 3
        have j4 := blk_cell hI.g2 4
        clear hI
        go_simp
        exact post_mk (hI'.out) (RB.refl) rfl
      · refine stepOK2_of _ [] rfl (by kernel_rfl) ?_ rfl
        intro t ρ W ht hc hf hn ho hI
        obtain ⟨u0, q0, s27⟩ := hn.1
        clear hn
        have q0 : u0 = _ := q0
        subst q0
        have s27 : ρ (.tmp 27) = _ := s27
        clear ho
        have hI' := Lib.hid hI
        clear hI
        go_simp
        refine (toFarm_c s wt ag ct nx W).mono ?_
        rintro e W2 ⟨rfl, hb⟩
        exact endp_mk (post_mk (hI'.out.below hb) (RB.below hb) rfl)
      · refine stepOK2_of _ [4] rfl (by kernel_rfl) ?_ rfl
        intro t ρ W ht hc hf hn ho hI
        clear hn
        have s4 := ho.1
        simp only [Array.getD_eq_getD_getElem?] at s4
        clear ho
        have hI' := Lib.hid hI
        have j0 := blk_cell hI.g1 0
        have j1 := blk_cell hI.g1 1
        have j2 := blk_cell hI.g1 2
        have j3 := blk_cell hI.g1 3
        have j4 := blk_cell hI.g1 4
        have j5 := blk_cell hI.g1 5
        clear hI
        go_simp
        exact post_mk (hI'.out) (RB.refl) rfl
      · refine stepOK2_of _ [] rfl (by kernel_rfl) ?_ rfl
        intro t ρ W ht hc hf hn ho hI
        obtain ⟨u2, q2, s29⟩ := hn.1
        clear hn
        have q2 : u2 = _ := q2
        subst q2
        have s29 : ρ (.tmp 29) = _ := s29
        clear ho
        have hI' := Lib.hid hI
        clear hI
        go_simp
        refine (toFrame_c px gx cx vx sx dx W).mono ?_
        rintro e W2 ⟨rfl, hb⟩
        exact endp_mk (post_mk (hI'.out.below hb) (RB.below hb) rfl)
      · refine stepOK2_of _ [2] rfl (by kernel_rfl) ?_ rfl
        intro t ρ W ht hc hf hn ho hI
        clear hn
        have s2 := ho.1
        simp only [Array.getD_eq_getD_getElem?] at s2
        clear ho
        have hI' := Lib.hid hI
        clear hI
        go_simp
        exact post_mk (hI'.out) (RB.refl) rfl
      · refine stepOK2_of _ [] rfl (by kernel_rfl) ?_ rfl
        intro t ρ W ht hc hf hn ho hI
        obtain ⟨u1, q1, s28⟩ := hn.1
        obtain ⟨u3, q3, s30⟩ := hn.2.1
        obtain ⟨u4, q4, s31⟩ := hn.2.2.1
        clear hn
        have q1 : u1 = _ := q1
        subst q1
        have s28 : ρ (.tmp 28) = _ := s28
        have q3 : u3 = _ := q3
        subst q3
        have s30 : ρ (.tmp 30) = _ := s30
        have q4 : u4 = _ := q4
        subst q4
        have s31 : ρ (.tmp 31) = _ := s31
        clear ho
        have hI' := Lib.hid hI
        clear hI
        go_simp
        refine (hh.out W).mono ?_
        rintro e W2 ⟨rfl, hb⟩
        exact endp_mk (post_mk (hI'.out.below hb) (RB.below hb) rfl)
      · refine stepOK2_of _ [] rfl (by kernel_rfl) ?_ rfl
        intro t ρ W ht hc hf hn ho hI
        obtain ⟨u5, q5, s32⟩ := hn.1
        clear hn
        have q5 : u5 = _ := q5
        subst q5
        have s32 : ρ (.tmp 32) = _ := s32
        clear ho
        have hI' := Lib.hid hI
        clear hI
        go_simp
        exact post_mk (hI'.out) (RB.refl) rfl
      · refine stepOK2_of _ [] rfl (by kernel_rfl) ?_ rfl
        intro t ρ W ht hc hf hn ho hI
        obtain ⟨u6, q6, s26⟩ := hn.1
        clear hn
        have q6 : u6 = _ := q6
        subst q6
        have s26 : ρ (.tmp 26) = _ := s26
        clear ho
        have hI' := Lib.hid hI
        clear hI
        go_simp
        exact post_mk (hI'.out) (RB.refl) rfl
      · refine stepOK2_of _ [] rfl (by kernel_rfl) ?_ rfl
        intro t ρ W ht hc hf hn ho hI
        obtain ⟨u6, q6, s26⟩ := hn.1
        clear hn
        have q6 : u6 = _ := q6
        subst q6
        have s26 : ρ (.tmp 26) = _ := s26
        clear ho
        have hI' := Lib.hid hI
        clear hI
        go_simp
        exact post_mk (hI'.out) (RB.refl) rfl
      · refine stepOK2_of _ [] rfl (by kernel_rfl) ?_ rfl
        intro t ρ W ht hc hf hn ho hI
        clear hn
        clear ho
        have hI' := Lib.hid hI
        clear hI
        go_simp
        exact post_mk (hI'.out.alloc _) (RB.below ((Below.refl _ _).alloc (Nat.le_refl _) _)) ⟨_, rfl, (Array.getElem?_eq_some_iff.1 hI'.out.g0).1, .inl (heap_top _ _ rfl)⟩
      · refine stepOK2_of _ [] rfl (by kernel_rfl) ?_ rfl
        intro t ρ W ht hc hf hn ho hI
        obtain ⟨u9, q9, s10⟩ := hn.1
        obtain ⟨u7, q7, s33⟩ := hn.2.1
        clear hn
        obtain ⟨B2, rfl, hNBB2, hZC⟩ := q9
        have s10 : ρ (.tmp 10) = _ := s10
        have q7 : u7 = _ := q7
        subst q7
        have s33 : ρ (.tmp 33) = _ := s33
        clear ho
        have hI' := Lib.hid hI
        obtain ⟨cs, hb, hcs⟩ : ∃ cs, W.heap[B2]? = some (.cells cs 24 (0, 0)) ∧ cs.size = 5 := by rcases hZC with h | h <;> exact ⟨_, h, rfl⟩
        obtain ⟨z0, z1, z2, z3, z4, rfl⟩ := arr_len5 cs hcs
        clear hI hZC
        have j0 := blk_cell hb
        have j1 := blk_frozen hb
        go_simp
        have hb9 := blk_put (blk_put (blk_put (blk_put (blk_put hb 0 (.bool s1)) 1 (.bool wt1)) 2 (.bool ag1)) 3 (.int .i64 ct1)) 4 (.int .i64 nx1)
        have hne : ∀ {A : Nat} {o : Obj}, A ≠ B2 → W.heap[A]? = some o → (((((W.setCell ⟨B2, 0, none⟩ (.bool s1)).setCell ⟨B2, 1, none⟩ (.bool wt1)).setCell ⟨B2, 2, none⟩ (.bool ag1)).setCell ⟨B2, 3, none⟩ (.int .i64 ct1)).setCell ⟨B2, 4, none⟩ (.int .i64 nx1)).heap[A]? = some o := fun hA ho => blk_set (blk_set (blk_set (blk_set (blk_set ho _ _ hA) _ _ hA) _ _ hA) _ _ hA) _ _ hA
        have hNB9 := hNBB2
        refine post_mk ⟨((((hI'.out.1.setCell (by show _ ≤ B2; omega) _).setCell (by show _ ≤ B2; omega) _).setCell (by show _ ≤ B2; omega) _).setCell (by show _ ≤ B2; omega) _).setCell (by show _ ≤ B2; omega) _, fun p hp => hne (by have := hLt.out p hp; omega) (hI'.out.2 p hp)⟩ ⟨fun B9 h2 => ?_, fun B9 h2 => ?_⟩ ⟨B2, s10, hNBB2, hb9⟩
        · by_cases e : B9 = B2
          · subst e
            exact hb9
          · exact hne e h2
        · by_cases e : B9 = B2
          · subst e
            exact .inr hb9
          · exact .inl (hne e h2)
      · refine stepOK2_of _ [] rfl (by kernel_rfl) ?_ rfl
        intro t ρ W ht hc hf hn ho hI
        obtain ⟨u8, q8, s34⟩ := hn.1
        clear hn
        have q8 : u8 = _ := q8
        subst q8
        have s34 : ρ (.tmp 34) = _ := s34
        clear ho
        have hI' := Lib.hid hI
        clear hI
        go_simp
        exact post_mk (hI'.out) (RB.refl) rfl
    case hst => exact vv_stable2 ⟨fun _ => isV_st, fun _ => fun _ _ _ _ h => h, fun _ => isV_st, fun _ => fun _ _ _ _ h => h, fun _ => isV_st, fun _ => fun _ _ _ _ h => h, fun _ => isV_st, fun _ => isV_st, fun _ => isV_st, fun _ => bxV_st, fillV_st, fun _ => isV_st, trivial⟩
    case hloc => exact locAll_of ⟨locE_c, locE_c, locE_c, locE_c, locE_c, locE_c, locE_c, locE_c, locE_c, locE_c, fillV_loc 9 (by kernel_rfl) (by kernel_rfl), locE_c, trivial⟩
    intro vs W hlen hI hV
    obtain ⟨x0, x1, x2, x3, x4, x5, x6, x7, x8, x9, x10, x11, rfl⟩ := list_len12_L7 vs hlen
    have y0 : x0 = _ := hV 0 _ rfl
    subst y0
    have y1 : x1 = _ := hV 1 _ rfl
    subst y1
    have y2 : x2 = _ := hV 2 _ rfl
    subst y2
    have y3 : x3 = _ := hV 3 _ rfl
    subst y3
    have y4 : x4 = _ := hV 4 _ rfl
    subst y4
    have y5 : x5 = _ := hV 5 _ rfl
    subst y5
    have y6 : x6 = _ := hV 6 _ rfl
    subst y6
    have y7 : x7 = _ := hV 7 _ rfl
    subst y7
    have y8 : x8 = _ := hV 8 _ rfl
    subst y8
    have y9 := hV 9 _ rfl
    obtain ⟨B2, rfl, hNBB2, hZC⟩ := y9
    have y10 := hV 10 _ rfl
    have y11 : x11 = _ := hV 11 _ rfl
    subst y11
    clear hV hlen
    simp only [Exit.then, putAll, Act.put, List.setIfInBounds_toArray, List.set_cons_zero, List.set_cons_succ]
    clear hO hZC
    obtain ⟨B', hB', hN', hc'⟩ := y10
    obtain rfl : B2 = B' := by simpa [putAll, Act.put, Oper.dst] using hB'
    clear hB' hN'
    have hO := hI.add B2 _ hc'
    clear hI
    have k0 := fun o => blk_cell hO.g0 o
    have hl0 := (Array.getElem?_eq_some_iff.1 hO.g0).1
    replace hO := Lib.hid hO
    have k1 := fun o => blk_cell hO.out.g1 o
    go_wp2_with fail
    refine (eqFarm_c s1 wt1 ag1 ct1 nx1 _).mono ?_
    rintro e w5 ⟨rfl, hB5⟩
    replace hO := Lib.hid (hO.out.below hB5)
    clear k0 k1 hl0 hB5
    go_wp2_with fail
    go_ret
    exact ⟨rfl, hO.out.1⟩

end Go.Proofs.Ytcbbebhjddphfaa
