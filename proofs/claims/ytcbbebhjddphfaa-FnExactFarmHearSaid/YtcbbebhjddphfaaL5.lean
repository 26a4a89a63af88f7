/- The law FnFarmFar, walked. -/
import Derived.Test.YtcbbebhjddphfaaA6
import Derived.Test.YtcbbebhjddphfaaR1
import Derived.Test.YtcbbebhjddphfaaL3
namespace Go.Proofs.Ytcbbebhjddphfaa
open Go.RowKit
set_option linter.unusedSimpArgs false
set_option linter.unusedVariables false

theorem list_len6_L5 : ∀ (l : List Value), l.length = 6 → ∃ x0 x1 x2 x3 x4 x5, l = x0 :: x1 :: x2 :: x3 :: x4 :: x5 :: []
  | x0 :: x1 :: x2 :: x3 :: x4 :: x5 :: [], _ => ⟨x0, x1, x2, x3, x4, x5, rfl⟩
theorem list_len13_L5 : ∀ (l : List Value), l.length = 13 → ∃ x0 x1 x2 x3 x4 x5 x6 x7 x8 x9 x10 x11 x12, l = x0 :: x1 :: x2 :: x3 :: x4 :: x5 :: x6 :: x7 :: x8 :: x9 :: x10 :: x11 :: x12 :: []
  | x0 :: x1 :: x2 :: x3 :: x4 :: x5 :: x6 :: x7 :: x8 :: x9 :: x10 :: x11 :: x12 :: [], _ => ⟨x0, x1, x2, x3, x4, x5, x6, x7, x8, x9, x10, x11, x12, rfl⟩
theorem list_len15_L5 : ∀ (l : List Value), l.length = 15 → ∃ x0 x1 x2 x3 x4 x5 x6 x7 x8 x9 x10 x11 x12 x13 x14, l = x0 :: x1 :: x2 :: x3 :: x4 :: x5 :: x6 :: x7 :: x8 :: x9 :: x10 :: x11 :: x12 :: x13 :: x14 :: []
  | x0 :: x1 :: x2 :: x3 :: x4 :: x5 :: x6 :: x7 :: x8 :: x9 :: x10 :: x11 :: x12 :: x13 :: x14 :: [], _ => ⟨x0, x1, x2, x3, x4, x5, x6, x7, x8, x9, x10, x11, x12, x13, x14, rfl⟩

theorem OwnL.add {w W : World} {L : List (Nat × Obj)} (h : OwnL w L W) (k : Nat) (o : Obj) (hk : W.heap[k]? = some o) : OwnL w ((k, o) :: L) W :=
  ⟨h.1, fun p hp => by
    rcases List.mem_cons.1 hp with rfl | hp
    · exact hk
    · exact h.2 p hp⟩
theorem OwnL.g5 {w W : World} {x y z u v : Nat × Obj} {b : Nat} {o : Obj} {r : List (Nat × Obj)} (h : OwnL w (x :: y :: z :: u :: v :: (b, o) :: r) W) : W.heap[b]? = some o := h.tl.tl.tl.tl.tl.at0
theorem OwnL.g6 {w W : World} {x y z u v t : Nat × Obj} {b : Nat} {o : Obj} {r : List (Nat × Obj)} (h : OwnL w (x :: y :: z :: u :: v :: t :: (b, o) :: r) W) : W.heap[b]? = some o := h.tl.tl.tl.tl.tl.tl.at0
/-- A box is filled, once. -/
def RB (Z C : Obj) (W1 W2 : World) : Prop := (∀ B : Nat, W1.heap[B]? = some C → W2.heap[B]? = some C) ∧ ∀ B : Nat, W1.heap[B]? = some Z → W2.heap[B]? = some Z ∨ W2.heap[B]? = some C
theorem RB.refl {Z C : Obj} {W : World} : RB Z C W W := ⟨fun _ h => h, fun _ h => .inl h⟩
theorem RB.below {Z C : Obj} {W W2 : World} (h : Below W.heap.size W W2) : RB Z C W W2 := ⟨fun _ hb => blk_below hb h, fun _ hb => .inl (blk_below hb h)⟩
def BxV (N : Nat) (Z C : Obj) (v : Value) (W : World) : Prop := ∃ B : Nat, v = .pointer (some ⟨B, 0, none⟩) ∧ N ≤ B ∧ (W.heap[B]? = some Z ∨ W.heap[B]? = some C)
theorem bxV_st {N : Nat} {Z C : Obj} : StableV (RB Z C) (BxV N Z C) := fun v W1 W2 hR h => by
  obtain ⟨B, e, hn, hb | hb⟩ := h
  · exact ⟨B, e, hn, hR.2 B hb⟩
  · exact ⟨B, e, hn, .inr (hR.1 B hb)⟩
def FillV (d : Tmp) (N : Nat) (C : Obj) (σ : Tmp → Value) (_ : Value) (W : World) : Prop := ∃ B : Nat, σ d = .pointer (some ⟨B, 0, none⟩) ∧ N ≤ B ∧ W.heap[B]? = some C
theorem fillV_st {d : Tmp} {N : Nat} {Z C : Obj} (σ : Tmp → Value) : StableV (RB Z C) (FillV d N C σ) := fun v W1 W2 hR h => by
  obtain ⟨B, e, hn, hb⟩ := h
  exact ⟨B, e, hn, hR.1 B hb⟩
theorem fillV_loc {ops : Array Oper} {i : Nat} {d : Tmp} {N : Nat} {C : Obj} (k : Nat) (hk : (match ops[i]? with | some o => (needs o).contains k | none => true) = true) (hd : dstOf ops k = some d) : LocE ops i (FillV d N C) := fun o ho σ σ' hs v w h => by
  obtain ⟨B, e, hn, hb⟩ := h
  rw [ho] at hk
  exact ⟨B, by rw [← hs k (by simpa using hk) d hd]; exact e, hn, hb⟩

theorem pure_far (s wt ag : Bool) (ct nx : Int) (px gx : Bool) (cx vx sx : Int) (dx : ByteArray) (hf : Fm.ok ⟨s, wt, ag, ct, nx⟩ = true) (hx : Fr.ok ⟨px, gx, cx, vx, sx, dx⟩ = true) :
    FH ⟨s, wt, ag, ct, nx⟩ ⟨false, false, cx, vx, (nx + 128) % 256, ⟨#[100]⟩⟩ true = (⟨true, wt, ag, ct, nx⟩, if s then 5 else 3) ∧
    FH ⟨true, wt, ag, ct, nx⟩ ⟨false, false, cx, vx, nx, ⟨#[100]⟩⟩ true = (⟨true, wt, ag, ct, nx⟩, 5) ∧
    FGov cx vx ⟨#[0]⟩ = ⟨true, true, cx, vx, 0, ⟨#[0]⟩⟩ ∧
    FH ⟨true, wt, ag, ct, nx⟩ ⟨true, true, cx, vx, 0, ⟨#[0]⟩⟩ true = (⟨false, false, false, (ct + 1) % 4, nx⟩, 7) ∧
    FH ⟨false, false, false, (ct + 1) % 4, nx⟩ ⟨false, false, cx, vx, nx, ⟨#[100]⟩⟩ true = (⟨false, false, false, (ct + 1) % 4, (nx + 1) % 256⟩, 0) := by
  have hb := Fm.ok_iff.1 hf
  simp only at hb
  obtain ⟨⟨c0, c1⟩, ⟨n0, n1⟩, hw⟩ := hb
  have hq : (0 ≤ cx ∧ cx ≤ 1023) ∧ 0 ≤ vx ∧ vx ≤ 63 := by
    simp [Fr.ok, inR_iff] at hx
    omega
  obtain ⟨⟨q0, q1⟩, q2, q3⟩ := hq
  have e1 := frame_d_ok ((nx + 128) % 256) (by omega) (by omega) cx vx q0 q1 q2 q3
  have e2 := frame_d_ok nx n0 n1 cx vx q0 q1 q2 q3
  have e3 : Fr.ok ⟨true, true, cx, vx, 0, ⟨#[0]⟩⟩ = true := by
    have a1 : inR cx 1023 = true := inR_iff.2 ⟨q0, q1⟩
    have a2 : inR vx 63 = true := inR_iff.2 ⟨q2, q3⟩
    have a4 : dOk ⟨#[0]⟩ = true := by decide
    have a3 : inR 0 255 = true := by decide
    simp [Fr.ok, a1, a2, a3, a4]
  have f2 : Fm.ok ⟨true, wt, ag, ct, nx⟩ = true := Fm.ok_iff.2 ⟨⟨c0, c1⟩, ⟨n0, n1⟩, hw⟩
  have f3 : Fm.ok ⟨false, false, false, (ct + 1) % 4, nx⟩ = true := Fm.ok_iff.2 ⟨by simp only; omega, ⟨n0, n1⟩, .inr rfl⟩
  have g1 : ((nx + 128) % 256 - nx) % 256 = 128 := by omega
  have e : isOpen ⟨#[0]⟩ = true := by decide +kernel
  refine ⟨?_, ?_, ?_, ?_, ?_⟩
  · cases s <;> simp [FH, hf, e1, Fm.ord, g1]
  · simp [FH, f2, e2, Fm.ord]
  · simp [FGov, e3]
  · simp [FH, f2, e3, Fm.gov, e, Fm.counted]
  · simp [FH, f3, e2, Fm.ord]
set_option maxHeartbeats 4000000 in
set_option maxRecDepth 100000 in
theorem law_far (w : World) (A : Option Addr) (n c : Nat) (h : Code_ w A n c) : Calls Try.prog 6 #[.slice A n c] w (Ret w (.bool true)) := by
  by_cases hn : 1048576 < n
  · go_enter Try.func6, Try.ntmps6
    go_wp2_with fail
    go_ret
    exact ⟨rfl, (by repeat (first | (with_reducible exact Below.refl _ _) | (with_reducible assumption) | (with_reducible refine Below.drew ?_) | (with_reducible refine below_drewN' ?_ _) | (with_reducible refine Below.setCell ?_ (by first | (simp; done) | (simp; omega) | omega) _) | (with_reducible refine Below.alloc ?_ (by first | (simp; done) | (simp; omega) | omega) _) | (with_reducible refine Below.trans ?_ (Below.mono (by assumption) (by first | (simp; done) | (simp; omega) | omega)))))⟩
  · have hC := Lib.hid h
    clear h
    go_enter Try.func6, Try.ntmps6
    go_wp2_with fail
    refine (DrawFarmHear_d _ A n c hC.out).mono ?_
    rintro e w1 ⟨v1, rfl, ⟨⟨s, wt, ag, ct, nx⟩, ⟨px, gx, cx, vx, sx, dx⟩, b, rfl⟩, hB1⟩
    have hfo := Lib.hid (sFarmOk_c ⟨s, wt, ag, ct, nx⟩)
    have hfi := Lib.hid (farmOk_c ⟨s, wt, ag, ct, nx⟩)
    have hxo := Lib.hid (sFrameOk_c ⟨px, gx, cx, vx, sx, dx⟩)
    have hO := ((OwnL.nil w).below hB1).put (.cells #[.bool s, .bool wt, .bool ag, .int .i64 ct, .int .i64 nx] 24) |>.put' (w1.heap.size + 1) (.cells #[.bool px, .bool gx, .int .i64 cx, .int .i64 vx, .int .i64 sx, .string dx] 31) (by simp)
    clear hB1
    have hO := Lib.hid hO
    simp only [Fm.v, Fr.v]
    go_wp2_with fail
    cases hk1 : Fm.ok ⟨s, wt, ag, ct, nx⟩
    · rw [hk1] at hfo hfi
      clear hk1
      apply region_inv (VV [IsV _, (IsV (.bool false)), IsV _, (IsV (.bool false)), IsV _, IsV _, IsV _, (IsV (.bool false)), IsV _, IsV _, IsV _, IsV _, IsV _, IsV _, IsV _]) (fun _ W => OwnL w [(w1.heap.size + 1, .cells #[.bool px, .bool gx, .int .i64 cx, .int .i64 vx, .int .i64 sx, .string dx] 31), (w1.heap.size, .cells #[.bool s, .bool wt, .bool ag, .int .i64 ct, .int .i64 nx] 24)] W) (fun _ _ => True) (by kernel_rfl) 131 rfl (by kernel_rfl)
      case h0 =>
        exact hO.out.drew
      case hsteps =>
        refine ⟨?_, ?_, ?_, ?_, ?_, ?_, ?_, ?_, ?_, ?_, ?_, ?_, ?_, ?_, ?_, trivial⟩
        · refine stepOK_of _ [3] rfl (by kernel_rfl) ?_ rfl
          intro t ρ W ht hc hf hn ho hI
          clear hn
          have s3 := ho.1
          simp only [Array.getD_eq_getD_getElem?] at s3
          clear ho
          have hI' := Lib.hid hI
          have j0 := blk_cell hI.g1 0
          have j1 := blk_cell hI.g1 1
          have j2 := blk_cell hI.g1 2
          have j3 := blk_cell hI.g1 3
          have j4 := blk_cell hI.g1 4
          clear hI
          go_simp
          exact post_mk (hI'.out) (trivial) rfl
        · refine stepOK_of _ [] rfl (by kernel_rfl) ?_ rfl
          intro t ρ W ht hc hf hn ho hI
          obtain ⟨u0, q0, s25⟩ := hn.1
          clear hn
          have q0 : u0 = _ := q0
          subst q0
          have s25 : ρ (.tmp 25) = _ := s25
          clear ho
          have hI' := Lib.hid hI
          clear hI
          go_simp
          refine (hfi.out W).mono ?_
          rintro e W2 ⟨rfl, hb⟩
          exact endp_mk (post_mk (hI'.out.below hb) trivial rfl)
        · refine stepOK_of _ [3] rfl (by kernel_rfl) ?_ rfl
          intro t ρ W ht hc hf hn ho hI
          clear hn
          have s3 := ho.1
          simp only [Array.getD_eq_getD_getElem?] at s3
          clear ho
          have hI' := Lib.hid hI
          have j0 := blk_cell hI.g1 0
          have j1 := blk_cell hI.g1 1
          have j2 := blk_cell hI.g1 2
          have j3 := blk_cell hI.g1 3
          have j4 := blk_cell hI.g1 4
          clear hI
          go_simp
          exact post_mk (hI'.out) (trivial) rfl
        · refine stepOK_of _ [] rfl (by kernel_rfl) ?_ rfl
          intro t ρ W ht hc hf hn ho hI
          obtain ⟨u2, q2, s27⟩ := hn.1
          clear hn
          have q2 : u2 = _ := q2
          subst q2
          have s27 : ρ (.tmp 27) = _ := s27
          clear ho
          have hI' := Lib.hid hI
          clear hI
          go_simp
          refine (hfo.out W).mono ?_
          rintro e W2 ⟨rfl, hb⟩
          exact endp_mk (post_mk (hI'.out.below hb) trivial rfl)
        · refine stepOK_of _ [] rfl (by kernel_rfl) ?_ rfl
          intro t ρ W ht hc hf hn ho hI
          obtain ⟨u1, q1, s26⟩ := hn.1
          obtain ⟨u3, q3, s28⟩ := hn.2.1
          clear hn
          have q1 : u1 = _ := q1
          subst q1
          have s26 : ρ (.tmp 26) = _ := s26
          have q3 : u3 = _ := q3
          subst q3
          have s28 : ρ (.tmp 28) = _ := s28
          clear ho
          have hI' := Lib.hid hI
          clear hI
          go_simp
          exact post_mk (hI'.out) (trivial) rfl
        · refine stepOK_of _ [] rfl (by kernel_rfl) ?_ rfl
          intro t ρ W ht hc hf hn ho hI
          obtain ⟨u4, q4, s29⟩ := hn.1
          clear hn
          have q4 : u4 = _ := q4
          subst q4
          have s29 : ρ (.tmp 29) = _ := s29
          clear ho
          have hI' := Lib.hid hI
          clear hI
          go_simp
          exact post_mk (hI'.out) (trivial) rfl
        · refine stepOK_g _ [3] rfl (by kernel_rfl) ?_ rfl (fun v W h => h)
          intro t ρ W ht hc hf hn ho hI
          clear hn
          have s3 := ho.1
          simp only [Array.getD_eq_getD_getElem?] at s3
          clear ho
          have hI' := Lib.hid hI
          have j0 := blk_cell hI.g1 0
          have j1 := blk_cell hI.g1 1
          have j2 := blk_cell hI.g1 2
          have j3 := blk_cell hI.g1 3
          have j4 := blk_cell hI.g1 4
          clear hI
          go_simp
          exact post_mk (hI'.out) (trivial) rfl
        · refine stepOK_g _ [] rfl (by kernel_rfl) ?_ rfl (fun v W h => h)
          intro t ρ W ht hc hf hn ho hI
          obtain ⟨u6, q6, s31⟩ := hn.1
          clear hn
          have q6 : u6 = _ := q6
          subst q6
          have s31 : ρ (.tmp 31) = _ := s31
          clear ho
          have hI' := Lib.hid hI
          clear hI
          go_simp
          refine (hfo.out W).mono ?_
          rintro e W2 ⟨rfl, hb⟩
          exact endp_mk (post_mk (hI'.out.below hb) trivial rfl)
        · refine stepOK_g _ [] rfl (by kernel_rfl) ?_ rfl (fun v W h => h)
          intro t ρ W ht hc hf hn ho hI
          obtain ⟨u7, q7, s32⟩ := hn.1
          clear hn
          have q7 : u7 = _ := q7
          subst q7
          have s32 : ρ (.tmp 32) = _ := s32
          clear ho
          have hI' := Lib.hid hI
          clear hI
          go_simp
          exact post_mk (hI'.out) (trivial) rfl
        · refine stepOK_of _ [] rfl (by kernel_rfl) ?_ rfl
          intro t ρ W ht hc hf hn ho hI
          obtain ⟨u5, q5, s30⟩ := hn.1
          obtain ⟨u8, q8, s33⟩ := hn.2.1
          clear hn
          have q5 : u5 = _ := q5
          subst q5
          have s30 : ρ (.tmp 30) = _ := s30
          have q8 : u8 = _ := q8
          subst q8
          have s33 : ρ (.tmp 33) = _ := s33
          clear ho
          have hI' := Lib.hid hI
          clear hI
          go_simp
          exact post_mk (hI'.out) (trivial) rfl
        · refine stepOK_of _ [] rfl (by kernel_rfl) ?_ rfl
          intro t ρ W ht hc hf hn ho hI
          obtain ⟨u9, q9, s34⟩ := hn.1
          clear hn
          have q9 : u9 = _ := q9
          subst q9
          have s34 : ρ (.tmp 34) = _ := s34
          clear ho
          have hI' := Lib.hid hI
          clear hI
          go_simp
          exact post_mk (hI'.out) (trivial) rfl
        · exact stepOK_skip rfl (fun v W h => h) (fun t W hI => ⟨hI, trivial, rfl⟩)
        · exact stepOK_skip rfl (fun v W h => h) (fun t W hI => ⟨hI, trivial, rfl⟩)
        · exact stepOK_skip rfl (fun v W h => h) (fun t W hI => ⟨hI, trivial, rfl⟩)
        · refine stepOK_of _ [] rfl (by kernel_rfl) ?_ rfl
          intro t ρ W ht hc hf hn ho hI
          obtain ⟨u10, q10, s35⟩ := hn.1
          obtain ⟨u13, q13, s38⟩ := hn.2.1
          clear hn
          have q10 : u10 = _ := q10
          subst q10
          have s35 : ρ (.tmp 35) = _ := s35
          have q13 : u13 = _ := q13
          subst q13
          have s38 : ρ (.tmp 38) = _ := s38
          clear ho
          have hI' := Lib.hid hI
          clear hI
          go_simp
          exact post_mk (hI'.out) (trivial) rfl
      case hst => exact vv_stable ⟨isV_st, fun _ _ _ _ h => h, isV_st, fun _ _ _ _ h => h, isV_st, isV_st, isV_st, fun _ _ _ _ h => h, isV_st, isV_st, isV_st, isV_st, isV_st, isV_st, isV_st, trivial⟩
      intro vs W hlen hI hV
      obtain ⟨x0, x1, x2, x3, x4, x5, x6, x7, x8, x9, x10, x11, x12, x13, x14, rfl⟩ := list_len15_L5 vs hlen
      have y0 : x0 = _ := hV 0 _ rfl
      subst y0
      have y1 : x1 = _ := hV 1 _ rfl
      subst y1
      have y2 : x2 = _ := hV 2 _ rfl
      subst y2
      have y3 : x3 = _ := hV 3 _ rfl
      subst y3
      have y4 : x4 = _ := hV 4 _ rfl
      subst y4
      have y5 : x5 = _ := hV 5 _ rfl
      subst y5
      have y6 : x6 = _ := hV 6 _ rfl
      subst y6
      have y7 : x7 = _ := hV 7 _ rfl
      subst y7
      have y8 : x8 = _ := hV 8 _ rfl
      subst y8
      have y9 : x9 = _ := hV 9 _ rfl
      subst y9
      have y10 : x10 = _ := hV 10 _ rfl
      subst y10
      have y11 : x11 = _ := hV 11 _ rfl
      subst y11
      have y12 : x12 = _ := hV 12 _ rfl
      subst y12
      have y13 : x13 = _ := hV 13 _ rfl
      subst y13
      have y14 : x14 = _ := hV 14 _ rfl
      subst y14
      clear hV hlen
      simp only [Exit.then, putAll, Act.put, List.setIfInBounds_toArray, List.set_cons_zero, List.set_cons_succ]
      have hI := Lib.hid hI
      go_wp2_with fail
      apply region_inv (VV [IsV _, (IsV (.bool false)), IsV _, (IsV (.bool false)), IsV _, IsV _]) (fun _ W => OwnL w [(w1.heap.size + 1, .cells #[.bool px, .bool gx, .int .i64 cx, .int .i64 vx, .int .i64 sx, .string dx] 31), (w1.heap.size, .cells #[.bool s, .bool wt, .bool ag, .int .i64 ct, .int .i64 nx] 24)] W) (fun _ _ => True) (by kernel_rfl) 131 rfl (by kernel_rfl)
      case h0 =>
        exact hI.out.drew
      case hsteps =>
        refine ⟨?_, ?_, ?_, ?_, ?_, ?_, trivial⟩
        · refine stepOK_of _ [3] rfl (by kernel_rfl) ?_ rfl
          intro t ρ W ht hc hf hn ho hI
          clear hn
          have s3 := ho.1
          simp only [Array.getD_eq_getD_getElem?] at s3
          clear ho
          have hI' := Lib.hid hI
          have j0 := blk_cell hI.g1 0
          have j1 := blk_cell hI.g1 1
          have j2 := blk_cell hI.g1 2
          have j3 := blk_cell hI.g1 3
          have j4 := blk_cell hI.g1 4
          clear hI
          go_simp
          exact post_mk (hI'.out) (trivial) rfl
        · refine stepOK_of _ [] rfl (by kernel_rfl) ?_ rfl
          intro t ρ W ht hc hf hn ho hI
          obtain ⟨u0, q0, s40⟩ := hn.1
          clear hn
          have q0 : u0 = _ := q0
          subst q0
          have s40 : ρ (.tmp 40) = _ := s40
          clear ho
          have hI' := Lib.hid hI
          clear hI
          go_simp
          refine (hfi.out W).mono ?_
          rintro e W2 ⟨rfl, hb⟩
          exact endp_mk (post_mk (hI'.out.below hb) trivial rfl)
        · refine stepOK_of _ [3] rfl (by kernel_rfl) ?_ rfl
          intro t ρ W ht hc hf hn ho hI
          clear hn
          have s3 := ho.1
          simp only [Array.getD_eq_getD_getElem?] at s3
          clear ho
          have hI' := Lib.hid hI
          have j0 := blk_cell hI.g1 0
          have j1 := blk_cell hI.g1 1
          have j2 := blk_cell hI.g1 2
          have j3 := blk_cell hI.g1 3
          have j4 := blk_cell hI.g1 4
          clear hI
          go_simp
          exact post_mk (hI'.out) (trivial) rfl
        · refine stepOK_of _ [] rfl (by kernel_rfl) ?_ rfl
          intro t ρ W ht hc hf hn ho hI
          obtain ⟨u2, q2, s42⟩ := hn.1
          clear hn
          have q2 : u2 = _ := q2
          subst q2
          have s42 : ρ (.tmp 42) = _ := s42
          clear ho
          have hI' := Lib.hid hI
          clear hI
          go_simp
          refine (hfo.out W).mono ?_
          rintro e W2 ⟨rfl, hb⟩
          exact endp_mk (post_mk (hI'.out.below hb) trivial rfl)
        · refine stepOK_of _ [] rfl (by kernel_rfl) ?_ rfl
          intro t ρ W ht hc hf hn ho hI
          obtain ⟨u1, q1, s41⟩ := hn.1
          obtain ⟨u3, q3, s43⟩ := hn.2.1
          clear hn
          have q1 : u1 = _ := q1
          subst q1
          have s41 : ρ (.tmp 41) = _ := s41
          have q3 : u3 = _ := q3
          subst q3
          have s43 : ρ (.tmp 43) = _ := s43
          clear ho
          have hI' := Lib.hid hI
          clear hI
          go_simp
          exact post_mk (hI'.out) (trivial) rfl
        · refine stepOK_of _ [] rfl (by kernel_rfl) ?_ rfl
          intro t ρ W ht hc hf hn ho hI
          obtain ⟨u4, q4, s44⟩ := hn.1
          clear hn
          have q4 : u4 = _ := q4
          subst q4
          have s44 : ρ (.tmp 44) = _ := s44
          clear ho
          have hI' := Lib.hid hI
          clear hI
          go_simp
          exact post_mk (hI'.out) (trivial) rfl
      case hst => exact vv_stable ⟨isV_st, fun _ _ _ _ h => h, isV_st, fun _ _ _ _ h => h, isV_st, isV_st, trivial⟩
      intro vs W hlen hI hV
      obtain ⟨x0, x1, x2, x3, x4, x5, rfl⟩ := list_len6_L5 vs hlen
      have y0 : x0 = _ := hV 0 _ rfl
      subst y0
      have y1 : x1 = _ := hV 1 _ rfl
      subst y1
      have y2 : x2 = _ := hV 2 _ rfl
      subst y2
      have y3 : x3 = _ := hV 3 _ rfl
      subst y3
      have y4 : x4 = _ := hV 4 _ rfl
      subst y4
      have y5 : x5 = _ := hV 5 _ rfl
      subst y5
      clear hV hlen
      simp only [Exit.then, putAll, Act.put, List.setIfInBounds_toArray, List.set_cons_zero, List.set_cons_succ]
      have hI := Lib.hid hI
      go_wp2_with fail
      go_ret
      exact ⟨rfl, hI.out.1⟩
    · rw [hk1] at hfo hfi
      cases hk2 : Fr.ok ⟨px, gx, cx, vx, sx, dx⟩
      · rw [hk2] at hxo
        clear hk1 hk2
        apply region_inv (VV [IsV _, (IsV (.bool true)), IsV _, (IsV (.bool true)), IsV _, IsV _, IsV _, (IsV (.bool true)), IsV _, IsV _, IsV _, IsV _, (IsV (.bool false)), IsV _, IsV _]) (fun _ W => OwnL w [(w1.heap.size + 1, .cells #[.bool px, .bool gx, .int .i64 cx, .int .i64 vx, .int .i64 sx, .string dx] 31), (w1.heap.size, .cells #[.bool s, .bool wt, .bool ag, .int .i64 ct, .int .i64 nx] 24)] W) (fun _ _ => True) (by kernel_rfl) 131 rfl (by kernel_rfl)
        case h0 =>
          exact hO.out.drew
        case hsteps =>
          refine ⟨?_, ?_, ?_, ?_, ?_, ?_, ?_, ?_, ?_, ?_, ?_, ?_, ?_, ?_, ?_, trivial⟩
          · refine stepOK_of _ [3] rfl (by kernel_rfl) ?_ rfl
            intro t ρ W ht hc hf hn ho hI
            clear hn
            have s3 := ho.1
            simp only [Array.getD_eq_getD_getElem?] at s3
            clear ho
            have hI' := Lib.hid hI
            have j0 := blk_cell hI.g1 0
            have j1 := blk_cell hI.g1 1
            have j2 := blk_cell hI.g1 2
            have j3 := blk_cell hI.g1 3
            have j4 := blk_cell hI.g1 4
            clear hI
            go_simp
            exact post_mk (hI'.out) (trivial) rfl
          · refine stepOK_of _ [] rfl (by kernel_rfl) ?_ rfl
            intro t ρ W ht hc hf hn ho hI
            obtain ⟨u0, q0, s25⟩ := hn.1
            clear hn
            have q0 : u0 = _ := q0
            subst q0
            have s25 : ρ (.tmp 25) = _ := s25
            clear ho
            have hI' := Lib.hid hI
            clear hI
            go_simp
            refine (hfi.out W).mono ?_
            rintro e W2 ⟨rfl, hb⟩
            exact endp_mk (post_mk (hI'.out.below hb) trivial rfl)
          · refine stepOK_of _ [3] rfl (by kernel_rfl) ?_ rfl
            intro t ρ W ht hc hf hn ho hI
            clear hn
            have s3 := ho.1
            simp only [Array.getD_eq_getD_getElem?] at s3
            clear ho
            have hI' := Lib.hid hI
            have j0 := blk_cell hI.g1 0
            have j1 := blk_cell hI.g1 1
            have j2 := blk_cell hI.g1 2
            have j3 := blk_cell hI.g1 3
            have j4 := blk_cell hI.g1 4
            clear hI
            go_simp
            exact post_mk (hI'.out) (trivial) rfl
          · refine stepOK_of _ [] rfl (by kernel_rfl) ?_ rfl
            intro t ρ W ht hc hf hn ho hI
            obtain ⟨u2, q2, s27⟩ := hn.1
            clear hn
            have q2 : u2 = _ := q2
            subst q2
            have s27 : ρ (.tmp 27) = _ := s27
            clear ho
            have hI' := Lib.hid hI
            clear hI
            go_simp
            refine (hfo.out W).mono ?_
            rintro e W2 ⟨rfl, hb⟩
            exact endp_mk (post_mk (hI'.out.below hb) trivial rfl)
          · refine stepOK_of _ [] rfl (by kernel_rfl) ?_ rfl
            intro t ρ W ht hc hf hn ho hI
            obtain ⟨u1, q1, s26⟩ := hn.1
            obtain ⟨u3, q3, s28⟩ := hn.2.1
            clear hn
            have q1 : u1 = _ := q1
            subst q1
            have s26 : ρ (.tmp 26) = _ := s26
            have q3 : u3 = _ := q3
            subst q3
            have s28 : ρ (.tmp 28) = _ := s28
            clear ho
            have hI' := Lib.hid hI
            clear hI
            go_simp
            exact post_mk (hI'.out) (trivial) rfl
          · refine stepOK_of _ [] rfl (by kernel_rfl) ?_ rfl
            intro t ρ W ht hc hf hn ho hI
            obtain ⟨u4, q4, s29⟩ := hn.1
            clear hn
            have q4 : u4 = _ := q4
            subst q4
            have s29 : ρ (.tmp 29) = _ := s29
            clear ho
            have hI' := Lib.hid hI
            clear hI
            go_simp
            exact post_mk (hI'.out) (trivial) rfl
          · refine stepOK_g _ [3] rfl (by kernel_rfl) ?_ rfl (fun v W h => h)
            intro t ρ W ht hc hf hn ho hI
            clear hn
            have s3 := ho.1
            simp only [Array.getD_eq_getD_getElem?] at s3
            clear ho
            have hI' := Lib.hid hI
            have j0 := blk_cell hI.g1 0
            have j1 := blk_cell hI.g1 1
            have j2 := blk_cell hI.g1 2
            have j3 := blk_cell hI.g1 3
            have j4 := blk_cell hI.g1 4
            clear hI
            go_simp
            exact post_mk (hI'.out) (trivial) rfl
          · refine stepOK_g _ [] rfl (by kernel_rfl) ?_ rfl (fun v W h => h)
            intro t ρ W ht hc hf hn ho hI
            obtain ⟨u6, q6, s31⟩ := hn.1
            clear hn
            have q6 : u6 = _ := q6
            subst q6
            have s31 : ρ (.tmp 31) = _ := s31
            clear ho
            have hI' := Lib.hid hI
            clear hI
            go_simp
            refine (hfo.out W).mono ?_
            rintro e W2 ⟨rfl, hb⟩
            exact endp_mk (post_mk (hI'.out.below hb) trivial rfl)
          · refine stepOK_g _ [] rfl (by kernel_rfl) ?_ rfl (fun v W h => h)
            intro t ρ W ht hc hf hn ho hI
            obtain ⟨u7, q7, s32⟩ := hn.1
            clear hn
            have q7 : u7 = _ := q7
            subst q7
            have s32 : ρ (.tmp 32) = _ := s32
            clear ho
            have hI' := Lib.hid hI
            clear hI
            go_simp
            exact post_mk (hI'.out) (trivial) rfl
          · refine stepOK_of _ [] rfl (by kernel_rfl) ?_ rfl
            intro t ρ W ht hc hf hn ho hI
            obtain ⟨u5, q5, s30⟩ := hn.1
            obtain ⟨u8, q8, s33⟩ := hn.2.1
            clear hn
            have q5 : u5 = _ := q5
            subst q5
            have s30 : ρ (.tmp 30) = _ := s30
            have q8 : u8 = _ := q8
            subst q8
            have s33 : ρ (.tmp 33) = _ := s33
            clear ho
            have hI' := Lib.hid hI
            clear hI
            go_simp
            exact post_mk (hI'.out) (trivial) rfl
          · refine stepOK_of _ [] rfl (by kernel_rfl) ?_ rfl
            intro t ρ W ht hc hf hn ho hI
            obtain ⟨u9, q9, s34⟩ := hn.1
            clear hn
            have q9 : u9 = _ := q9
            subst q9
            have s34 : ρ (.tmp 34) = _ := s34
            clear ho
            have hI' := Lib.hid hI
            clear hI
            go_simp
            exact post_mk (hI'.out) (trivial) rfl
          · refine stepOK_g _ [4] rfl (by kernel_rfl) ?_ rfl (fun v W h => h)
            intro t ρ W ht hc hf hn ho hI
            clear hn
            have s4 := ho.1
            simp only [Array.getD_eq_getD_getElem?] at s4
            clear ho
            have hI' := Lib.hid hI
            have j0 := blk_cell hI.g0 0
            have j1 := blk_cell hI.g0 1
            have j2 := blk_cell hI.g0 2
            have j3 := blk_cell hI.g0 3
            have j4 := blk_cell hI.g0 4
            have j5 := blk_cell hI.g0 5
            clear hI
            go_simp
            exact post_mk (hI'.out) (trivial) rfl
          · refine stepOK_g _ [] rfl (by kernel_rfl) ?_ rfl (fun v W h => h)
            intro t ρ W ht hc hf hn ho hI
            obtain ⟨u11, q11, s36⟩ := hn.1
            clear hn
            have q11 : u11 = _ := q11
            subst q11
            have s36 : ρ (.tmp 36) = _ := s36
            clear ho
            have hI' := Lib.hid hI
            clear hI
            go_simp
            refine (hxo.out W).mono ?_
            rintro e W2 ⟨rfl, hb⟩
            exact endp_mk (post_mk (hI'.out.below hb) trivial rfl)
          · refine stepOK_g _ [] rfl (by kernel_rfl) ?_ rfl (fun v W h => h)
            intro t ρ W ht hc hf hn ho hI
            obtain ⟨u12, q12, s37⟩ := hn.1
            clear hn
            have q12 : u12 = _ := q12
            subst q12
            have s37 : ρ (.tmp 37) = _ := s37
            clear ho
            have hI' := Lib.hid hI
            clear hI
            go_simp
            exact post_mk (hI'.out) (trivial) rfl
          · refine stepOK_of _ [] rfl (by kernel_rfl) ?_ rfl
            intro t ρ W ht hc hf hn ho hI
            obtain ⟨u10, q10, s35⟩ := hn.1
            obtain ⟨u13, q13, s38⟩ := hn.2.1
            clear hn
            have q10 : u10 = _ := q10
            subst q10
            have s35 : ρ (.tmp 35) = _ := s35
            have q13 : u13 = _ := q13
            subst q13
            have s38 : ρ (.tmp 38) = _ := s38
            clear ho
            have hI' := Lib.hid hI
            clear hI
            go_simp
            exact post_mk (hI'.out) (trivial) rfl
        case hst => exact vv_stable ⟨isV_st, fun _ _ _ _ h => h, isV_st, fun _ _ _ _ h => h, isV_st, isV_st, isV_st, fun _ _ _ _ h => h, isV_st, isV_st, isV_st, isV_st, fun _ _ _ _ h => h, isV_st, isV_st, trivial⟩
        intro vs W hlen hI hV
        obtain ⟨x0, x1, x2, x3, x4, x5, x6, x7, x8, x9, x10, x11, x12, x13, x14, rfl⟩ := list_len15_L5 vs hlen
        have y0 : x0 = _ := hV 0 _ rfl
        subst y0
        have y1 : x1 = _ := hV 1 _ rfl
        subst y1
        have y2 : x2 = _ := hV 2 _ rfl
        subst y2
        have y3 : x3 = _ := hV 3 _ rfl
        subst y3
        have y4 : x4 = _ := hV 4 _ rfl
        subst y4
        have y5 : x5 = _ := hV 5 _ rfl
        subst y5
        have y6 : x6 = _ := hV 6 _ rfl
        subst y6
        have y7 : x7 = _ := hV 7 _ rfl
        subst y7
        have y8 : x8 = _ := hV 8 _ rfl
        subst y8
        have y9 : x9 = _ := hV 9 _ rfl
        subst y9
        have y10 : x10 = _ := hV 10 _ rfl
        subst y10
        have y11 : x11 = _ := hV 11 _ rfl
        subst y11
        have y12 : x12 = _ := hV 12 _ rfl
        subst y12
        have y13 : x13 = _ := hV 13 _ rfl
        subst y13
        have y14 : x14 = _ := hV 14 _ rfl
        subst y14
        clear hV hlen
        simp only [Exit.then, putAll, Act.put, List.setIfInBounds_toArray, List.set_cons_zero, List.set_cons_succ]
        have hI := Lib.hid hI
        go_wp2_with fail
        apply region_inv (VV [IsV _, (IsV (.bool true)), IsV _, (IsV (.bool true)), IsV _, IsV _]) (fun _ W => OwnL w [(w1.heap.size + 1, .cells #[.bool px, .bool gx, .int .i64 cx, .int .i64 vx, .int .i64 sx, .string dx] 31), (w1.heap.size, .cells #[.bool s, .bool wt, .bool ag, .int .i64 ct, .int .i64 nx] 24)] W) (fun _ _ => True) (by kernel_rfl) 131 rfl (by kernel_rfl)
        case h0 =>
          exact hI.out.drew
        case hsteps =>
          refine ⟨?_, ?_, ?_, ?_, ?_, ?_, trivial⟩
          · refine stepOK_of _ [3] rfl (by kernel_rfl) ?_ rfl
            intro t ρ W ht hc hf hn ho hI
            clear hn
            have s3 := ho.1
            simp only [Array.getD_eq_getD_getElem?] at s3
            clear ho
            have hI' := Lib.hid hI
            have j0 := blk_cell hI.g1 0
            have j1 := blk_cell hI.g1 1
            have j2 := blk_cell hI.g1 2
            have j3 := blk_cell hI.g1 3
            have j4 := blk_cell hI.g1 4
            clear hI
            go_simp
            exact post_mk (hI'.out) (trivial) rfl
          · refine stepOK_of _ [] rfl (by kernel_rfl) ?_ rfl
            intro t ρ W ht hc hf hn ho hI
            obtain ⟨u0, q0, s40⟩ := hn.1
            clear hn
            have q0 : u0 = _ := q0
            subst q0
            have s40 : ρ (.tmp 40) = _ := s40
            clear ho
            have hI' := Lib.hid hI
            clear hI
            go_simp
            refine (hfi.out W).mono ?_
            rintro e W2 ⟨rfl, hb⟩
            exact endp_mk (post_mk (hI'.out.below hb) trivial rfl)
          · refine stepOK_of _ [3] rfl (by kernel_rfl) ?_ rfl
            intro t ρ W ht hc hf hn ho hI
            clear hn
            have s3 := ho.1
            simp only [Array.getD_eq_getD_getElem?] at s3
            clear ho
            have hI' := Lib.hid hI
            have j0 := blk_cell hI.g1 0
            have j1 := blk_cell hI.g1 1
            have j2 := blk_cell hI.g1 2
            have j3 := blk_cell hI.g1 3
            have j4 := blk_cell hI.g1 4
            clear hI
            go_simp
            exact post_mk (hI'.out) (trivial) rfl
          · refine stepOK_of _ [] rfl (by kernel_rfl) ?_ rfl
            intro t ρ W ht hc hf hn ho hI
            obtain ⟨u2, q2, s42⟩ := hn.1
            clear hn
            have q2 : u2 = _ := q2
            subst q2
            have s42 : ρ (.tmp 42) = _ := s42
            clear ho
            have hI' := Lib.hid hI
            clear hI
            go_simp
            refine (hfo.out W).mono ?_
            rintro e W2 ⟨rfl, hb⟩
            exact endp_mk (post_mk (hI'.out.below hb) trivial rfl)
          · refine stepOK_of _ [] rfl (by kernel_rfl) ?_ rfl
            intro t ρ W ht hc hf hn ho hI
            obtain ⟨u1, q1, s41⟩ := hn.1
            obtain ⟨u3, q3, s43⟩ := hn.2.1
            clear hn
            have q1 : u1 = _ := q1
            subst q1
            have s41 : ρ (.tmp 41) = _ := s41
            have q3 : u3 = _ := q3
            subst q3
            have s43 : ρ (.tmp 43) = _ := s43
            clear ho
            have hI' := Lib.hid hI
            clear hI
            go_simp
            exact post_mk (hI'.out) (trivial) rfl
          · refine stepOK_of _ [] rfl (by kernel_rfl) ?_ rfl
            intro t ρ W ht hc hf hn ho hI
            obtain ⟨u4, q4, s44⟩ := hn.1
            clear hn
            have q4 : u4 = _ := q4
            subst q4
            have s44 : ρ (.tmp 44) = _ := s44
            clear ho
            have hI' := Lib.hid hI
            clear hI
            go_simp
            exact post_mk (hI'.out) (trivial) rfl
        case hst => exact vv_stable ⟨isV_st, fun _ _ _ _ h => h, isV_st, fun _ _ _ _ h => h, isV_st, isV_st, trivial⟩
        intro vs W hlen hI hV
        obtain ⟨x0, x1, x2, x3, x4, x5, rfl⟩ := list_len6_L5 vs hlen
        have y0 : x0 = _ := hV 0 _ rfl
        subst y0
        have y1 : x1 = _ := hV 1 _ rfl
        subst y1
        have y2 : x2 = _ := hV 2 _ rfl
        subst y2
        have y3 : x3 = _ := hV 3 _ rfl
        subst y3
        have y4 : x4 = _ := hV 4 _ rfl
        subst y4
        have y5 : x5 = _ := hV 5 _ rfl
        subst y5
        clear hV hlen
        simp only [Exit.then, putAll, Act.put, List.setIfInBounds_toArray, List.set_cons_zero, List.set_cons_succ]
        have hI := Lib.hid hI
        go_wp2_with fail
        go_ret
        exact ⟨rfl, hI.out.1⟩
      · rw [hk2] at hxo
        obtain ⟨p1, p2, p3, p4, p5⟩ := pure_far s wt ag ct nx px gx cx vx sx dx hk1 hk2
        have hh1 := hear_c ⟨s, wt, ag, ct, nx⟩ ⟨false, false, cx, vx, (nx + 128) % 256, ⟨#[100]⟩⟩ true
        have hh2 := hear_c ⟨true, wt, ag, ct, nx⟩ ⟨false, false, cx, vx, nx, ⟨#[100]⟩⟩ true
        have hop := farmOpen_c cx vx
        have hh3 := hear_c ⟨true, wt, ag, ct, nx⟩ ⟨true, true, cx, vx, 0, ⟨#[0]⟩⟩ true
        have hh4 := hear_c ⟨false, false, false, (ct + 1) % 4, nx⟩ ⟨false, false, cx, vx, nx, ⟨#[100]⟩⟩ true
        obtain ⟨kf, hkf⟩ : ∃ k : Int, (if s = true then 5 else 3) = k := ⟨_, rfl⟩
        rw [hkf] at p1
        rw [p1] at hh1
        replace hkf := Lib.hid hkf
        rw [p2] at hh2
        rw [p3] at hop
        rw [p4] at hh3
        rw [p5] at hh4
        replace hh1 := Lib.hid hh1
        replace hh2 := Lib.hid hh2
        replace hh3 := Lib.hid hh3
        replace hh4 := Lib.hid hh4
        replace hop := Lib.hid hop
        have hb := Fm.ok_iff.1 hk1
        obtain ⟨_, ⟨hc0, hc1⟩, _⟩ := hb
        simp only at hc0 hc1
        clear p1 p2 p3 p4 p5 hk1 hk2
        apply region_inv (VV [IsV _, (IsV (.bool true)), IsV _, (IsV (.bool true)), IsV _, IsV _, IsV _, (IsV (.bool true)), IsV _, IsV _, IsV _, IsV _, (IsV (.bool true)), IsV _, IsV _]) (fun _ W => OwnL w [(w1.heap.size + 1, .cells #[.bool px, .bool gx, .int .i64 cx, .int .i64 vx, .int .i64 sx, .string dx] 31), (w1.heap.size, .cells #[.bool s, .bool wt, .bool ag, .int .i64 ct, .int .i64 nx] 24)] W) (fun _ _ => True) (by kernel_rfl) 131 rfl (by kernel_rfl)
        case h0 =>
          exact hO.out.drew
        case hsteps =>
          refine ⟨?_, ?_, ?_, ?_, ?_, ?_, ?_, ?_, ?_, ?_, ?_, ?_, ?_, ?_, ?_, trivial⟩
          · refine stepOK_of _ [3] rfl (by kernel_rfl) ?_ rfl
            intro t ρ W ht hc hf hn ho hI
            clear hn
            have s3 := ho.1
            simp only [Array.getD_eq_getD_getElem?] at s3
            clear ho
            have hI' := Lib.hid hI
            have j0 := blk_cell hI.g1 0
            have j1 := blk_cell hI.g1 1
            have j2 := blk_cell hI.g1 2
            have j3 := blk_cell hI.g1 3
            have j4 := blk_cell hI.g1 4
            clear hI
            go_simp
            exact post_mk (hI'.out) (trivial) rfl
          · refine stepOK_of _ [] rfl (by kernel_rfl) ?_ rfl
            intro t ρ W ht hc hf hn ho hI
            obtain ⟨u0, q0, s25⟩ := hn.1
            clear hn
            have q0 : u0 = _ := q0
            subst q0
            have s25 : ρ (.tmp 25) = _ := s25
            clear ho
            have hI' := Lib.hid hI
            clear hI
            go_simp
            refine (hfi.out W).mono ?_
            rintro e W2 ⟨rfl, hb⟩
            exact endp_mk (post_mk (hI'.out.below hb) trivial rfl)
          · refine stepOK_of _ [3] rfl (by kernel_rfl) ?_ rfl
            intro t ρ W ht hc hf hn ho hI
            clear hn
            have s3 := ho.1
            simp only [Array.getD_eq_getD_getElem?] at s3
            clear ho
            have hI' := Lib.hid hI
            have j0 := blk_cell hI.g1 0
            have j1 := blk_cell hI.g1 1
            have j2 := blk_cell hI.g1 2
            have j3 := blk_cell hI.g1 3
            have j4 := blk_cell hI.g1 4
            clear hI
            go_simp
            exact post_mk (hI'.out) (trivial) rfl
          · refine stepOK_of _ [] rfl (by kernel_rfl) ?_ rfl
            intro t ρ W ht hc hf hn ho hI
            obtain ⟨u2, q2, s27⟩ := hn.1
            clear hn
            have q2 : u2 = _ := q2
            subst q2
            have s27 : ρ (.tmp 27) = _ := s27
            clear ho
            have hI' := Lib.hid hI
            clear hI
            go_simp
            refine (hfo.out W).mono ?_
            rintro e W2 ⟨rfl, hb⟩
            exact endp_mk (post_mk (hI'.out.below hb) trivial rfl)
          · refine stepOK_of _ [] rfl (by kernel_rfl) ?_ rfl
            intro t ρ W ht hc hf hn ho hI
            obtain ⟨u1, q1, s26⟩ := hn.1
            obtain ⟨u3, q3, s28⟩ := hn.2.1
            clear hn
            have q1 : u1 = _ := q1
            subst q1
            have s26 : ρ (.tmp 26) = _ := s26
            have q3 : u3 = _ := q3
            subst q3
            have s28 : ρ (.tmp 28) = _ := s28
            clear ho
            have hI' := Lib.hid hI
            clear hI
            go_simp
            exact post_mk (hI'.out) (trivial) rfl
          · refine stepOK_of _ [] rfl (by kernel_rfl) ?_ rfl
            intro t ρ W ht hc hf hn ho hI
            obtain ⟨u4, q4, s29⟩ := hn.1
            clear hn
            have q4 : u4 = _ := q4
            subst q4
            have s29 : ρ (.tmp 29) = _ := s29
            clear ho
            have hI' := Lib.hid hI
            clear hI
            go_simp
            exact post_mk (hI'.out) (trivial) rfl
          · refine stepOK_g _ [3] rfl (by kernel_rfl) ?_ rfl (fun v W h => h)
            intro t ρ W ht hc hf hn ho hI
            clear hn
            have s3 := ho.1
            simp only [Array.getD_eq_getD_getElem?] at s3
            clear ho
            have hI' := Lib.hid hI
            have j0 := blk_cell hI.g1 0
            have j1 := blk_cell hI.g1 1
            have j2 := blk_cell hI.g1 2
            have j3 := blk_cell hI.g1 3
            have j4 := blk_cell hI.g1 4
            clear hI
            go_simp
            exact post_mk (hI'.out) (trivial) rfl
          · refine stepOK_g _ [] rfl (by kernel_rfl) ?_ rfl (fun v W h => h)
            intro t ρ W ht hc hf hn ho hI
            obtain ⟨u6, q6, s31⟩ := hn.1
            clear hn
            have q6 : u6 = _ := q6
            subst q6
            have s31 : ρ (.tmp 31) = _ := s31
            clear ho
            have hI' := Lib.hid hI
            clear hI
            go_simp
            refine (hfo.out W).mono ?_
            rintro e W2 ⟨rfl, hb⟩
            exact endp_mk (post_mk (hI'.out.below hb) trivial rfl)
          · refine stepOK_g _ [] rfl (by kernel_rfl) ?_ rfl (fun v W h => h)
            intro t ρ W ht hc hf hn ho hI
            obtain ⟨u7, q7, s32⟩ := hn.1
            clear hn
            have q7 : u7 = _ := q7
            subst q7
            have s32 : ρ (.tmp 32) = _ := s32
            clear ho
            have hI' := Lib.hid hI
            clear hI
            go_simp
            exact post_mk (hI'.out) (trivial) rfl
          · refine stepOK_of _ [] rfl (by kernel_rfl) ?_ rfl
            intro t ρ W ht hc hf hn ho hI
            obtain ⟨u5, q5, s30⟩ := hn.1
            obtain ⟨u8, q8, s33⟩ := hn.2.1
            clear hn
            have q5 : u5 = _ := q5
            subst q5
            have s30 : ρ (.tmp 30) = _ := s30
            have q8 : u8 = _ := q8
            subst q8
            have s33 : ρ (.tmp 33) = _ := s33
            clear ho
            have hI' := Lib.hid hI
            clear hI
            go_simp
            exact post_mk (hI'.out) (trivial) rfl
          · refine stepOK_of _ [] rfl (by kernel_rfl) ?_ rfl
            intro t ρ W ht hc hf hn ho hI
            obtain ⟨u9, q9, s34⟩ := hn.1
            clear hn
            have q9 : u9 = _ := q9
            subst q9
            have s34 : ρ (.tmp 34) = _ := s34
            clear ho
            have hI' := Lib.hid hI
            clear hI
            go_simp
            exact post_mk (hI'.out) (trivial) rfl
          · refine stepOK_g _ [4] rfl (by kernel_rfl) ?_ rfl (fun v W h => h)
            intro t ρ W ht hc hf hn ho hI
            clear hn
            have s4 := ho.1
            simp only [Array.getD_eq_getD_getElem?] at s4
            clear ho
            have hI' := Lib.hid hI
            have j0 := blk_cell hI.g0 0
            have j1 := blk_cell hI.g0 1
            have j2 := blk_cell hI.g0 2
            have j3 := blk_cell hI.g0 3
            have j4 := blk_cell hI.g0 4
            have j5 := blk_cell hI.g0 5
            clear hI
            go_simp
            exact post_mk (hI'.out) (trivial) rfl
          · refine stepOK_g _ [] rfl (by kernel_rfl) ?_ rfl (fun v W h => h)
            intro t ρ W ht hc hf hn ho hI
            obtain ⟨u11, q11, s36⟩ := hn.1
            clear hn
            have q11 : u11 = _ := q11
            subst q11
            have s36 : ρ (.tmp 36) = _ := s36
            clear ho
            have hI' := Lib.hid hI
            clear hI
            go_simp
            refine (hxo.out W).mono ?_
            rintro e W2 ⟨rfl, hb⟩
            exact endp_mk (post_mk (hI'.out.below hb) trivial rfl)
          · refine stepOK_g _ [] rfl (by kernel_rfl) ?_ rfl (fun v W h => h)
            intro t ρ W ht hc hf hn ho hI
            obtain ⟨u12, q12, s37⟩ := hn.1
            clear hn
            have q12 : u12 = _ := q12
            subst q12
            have s37 : ρ (.tmp 37) = _ := s37
            clear ho
            have hI' := Lib.hid hI
            clear hI
            go_simp
            exact post_mk (hI'.out) (trivial) rfl
          · refine stepOK_of _ [] rfl (by kernel_rfl) ?_ rfl
            intro t ρ W ht hc hf hn ho hI
            obtain ⟨u10, q10, s35⟩ := hn.1
            obtain ⟨u13, q13, s38⟩ := hn.2.1
            clear hn
            have q10 : u10 = _ := q10
            subst q10
            have s35 : ρ (.tmp 35) = _ := s35
            have q13 : u13 = _ := q13
            subst q13
            have s38 : ρ (.tmp 38) = _ := s38
            clear ho
            have hI' := Lib.hid hI
            clear hI
            go_simp
            exact post_mk (hI'.out) (trivial) rfl
        case hst => exact vv_stable ⟨isV_st, fun _ _ _ _ h => h, isV_st, fun _ _ _ _ h => h, isV_st, isV_st, isV_st, fun _ _ _ _ h => h, isV_st, isV_st, isV_st, isV_st, fun _ _ _ _ h => h, isV_st, isV_st, trivial⟩
        intro vs W hlen hI hV
        obtain ⟨x0, x1, x2, x3, x4, x5, x6, x7, x8, x9, x10, x11, x12, x13, x14, rfl⟩ := list_len15_L5 vs hlen
        have y0 : x0 = _ := hV 0 _ rfl
        subst y0
        have y1 : x1 = _ := hV 1 _ rfl
        subst y1
        have y2 : x2 = _ := hV 2 _ rfl
        subst y2
        have y3 : x3 = _ := hV 3 _ rfl
        subst y3
        have y4 : x4 = _ := hV 4 _ rfl
        subst y4
        have y5 : x5 = _ := hV 5 _ rfl
        subst y5
        have y6 : x6 = _ := hV 6 _ rfl
        subst y6
        have y7 : x7 = _ := hV 7 _ rfl
        subst y7
        have y8 : x8 = _ := hV 8 _ rfl
        subst y8
        have y9 : x9 = _ := hV 9 _ rfl
        subst y9
        have y10 : x10 = _ := hV 10 _ rfl
        subst y10
        have y11 : x11 = _ := hV 11 _ rfl
        subst y11
        have y12 : x12 = _ := hV 12 _ rfl
        subst y12
        have y13 : x13 = _ := hV 13 _ rfl
        subst y13
        have y14 : x14 = _ := hV 14 _ rfl
        subst y14
        clear hV hlen
        simp only [Exit.then, putAll, Act.put, List.setIfInBounds_toArray, List.set_cons_zero, List.set_cons_succ]
        clear hO
        have hO := hI
        clear hI
        have k0 := fun o => blk_cell hO.g0 o
        have hl0 := (Array.getElem?_eq_some_iff.1 hO.g0).1
        have k1 := fun o => blk_cell hO.g1 o
        have hl1 := (Array.getElem?_eq_some_iff.1 hO.g1).1
        have hO := Lib.hid ((hO.put (.cells #[.bool false, .bool false, .int .i64 cx, .int .i64 vx, .int .i64 ((nx + 128) % 256), .string ⟨#[100]⟩] 31)).put' (W.heap.size + 1) (.cells #[.bool false, .bool false, .int .i64 cx, .int .i64 vx, .int .i64 nx, .string ⟨#[100]⟩] 31) (by simp))
        go_wp2_with fail
        refine (hh1.out _).mono ?_
        rintro e w2 ⟨rfl, hB2⟩
        replace hO := hO.out.below hB2
        clear k0 k1 hl0 hl1 hB2
        have k0 := fun o => blk_cell hO.g0 o
        have hl0 := (Array.getElem?_eq_some_iff.1 hO.g0).1
        have k1 := fun o => blk_cell hO.g1 o
        have hl1 := (Array.getElem?_eq_some_iff.1 hO.g1).1
        have k2 := fun o => blk_cell hO.g2 o
        have hl2 := (Array.getElem?_eq_some_iff.1 hO.g2).1
        have k3 := fun o => blk_cell hO.g3 o
        have hl3 := (Array.getElem?_eq_some_iff.1 hO.g3).1
        replace hO := Lib.hid (hO.put (.cells #[.bool true, .bool wt, .bool ag, .int .i64 ct, .int .i64 nx] 24))
        simp only [Fm.v]
        go_wp2_with fail
        refine (hh2.out _).mono ?_
        rintro e w3 ⟨rfl, hB3⟩
        replace hO := hO.out.below hB3
        clear k0 k1 k2 k3 hl0 hl1 hl2 hl3 hB3
        have k0 := fun o => blk_cell hO.g0 o
        have hl0 := (Array.getElem?_eq_some_iff.1 hO.g0).1
        have k1 := fun o => blk_cell hO.g1 o
        have hl1 := (Array.getElem?_eq_some_iff.1 hO.g1).1
        have k2 := fun o => blk_cell hO.g2 o
        have hl2 := (Array.getElem?_eq_some_iff.1 hO.g2).1
        have k3 := fun o => blk_cell hO.g3 o
        have hl3 := (Array.getElem?_eq_some_iff.1 hO.g3).1
        have k4 := fun o => blk_cell hO.g4 o
        have hl4 := (Array.getElem?_eq_some_iff.1 hO.g4).1
        replace hO := Lib.hid (hO.put (.cells #[.bool true, .bool wt, .bool ag, .int .i64 ct, .int .i64 nx] 24))
        simp only [Fm.v]
        go_wp2_with fail
        have hLt : ∀ p ∈ ([(w3.heap.size, .cells #[.bool true, .bool wt, .bool ag, .int .i64 ct, .int .i64 nx] 24), (w2.heap.size, .cells #[.bool true, .bool wt, .bool ag, .int .i64 ct, .int .i64 nx] 24), (W.heap.size + 1, .cells #[.bool false, .bool false, .int .i64 cx, .int .i64 vx, .int .i64 nx, .string ⟨#[100]⟩] 31), (W.heap.size, .cells #[.bool false, .bool false, .int .i64 cx, .int .i64 vx, .int .i64 ((nx + 128) % 256), .string ⟨#[100]⟩] 31), (w1.heap.size + 1, .cells #[.bool px, .bool gx, .int .i64 cx, .int .i64 vx, .int .i64 sx, .string dx] 31), (w1.heap.size, .cells #[.bool s, .bool wt, .bool ag, .int .i64 ct, .int .i64 nx] 24)] : List (Nat × Obj)), p.1 < w3.heap.size + 1 := by
          intro p hp
          simp only [List.mem_cons, List.not_mem_nil, or_false] at hp
          rcases hp with rfl | rfl | rfl | rfl | rfl | rfl
          all_goals
            simp only
            omega
        have hwN : w.heap.size ≤ w3.heap.size + 1 := by
          have := hO.out.1.size
          simpa using this
        clear k0 k1 k2 k3 k4
        replace hLt := Lib.hid hLt
        apply region_inv2 (VV2 [fun _ => IsV _, fun _ => IsV _, fun _ => IsV _, fun _ => IsV _, fun _ => IsV _, fun _ => (IsV (.agg #[.bool true, .bool true, .int .i64 cx, .int .i64 vx, .int .i64 0, .string ⟨#[0]⟩])), fun _ => (IsV (.tuple #[.agg #[.bool false, .bool false, .bool false, .int .i64 ((ct + 1) % 4), .int .i64 nx], .int .i64 7])), fun _ => IsV _, fun _ => IsV _, fun _ => IsV _, fun _ => (BxV (w3.heap.size + 1) (.cells #[.bool false, .bool false, .bool false, .int .i64 0, .int .i64 0] 24) (.cells #[.bool false, .bool false, .bool false, .int .i64 ((ct + 1) % 4), .int .i64 nx] 24)), (FillV 12 (w3.heap.size + 1) (.cells #[.bool false, .bool false, .bool false, .int .i64 ((ct + 1) % 4), .int .i64 nx] 24)), fun _ => IsV _]) (fun _ Wx => OwnL w [(w3.heap.size, .cells #[.bool true, .bool wt, .bool ag, .int .i64 ct, .int .i64 nx] 24), (w2.heap.size, .cells #[.bool true, .bool wt, .bool ag, .int .i64 ct, .int .i64 nx] 24), (W.heap.size + 1, .cells #[.bool false, .bool false, .int .i64 cx, .int .i64 vx, .int .i64 nx, .string ⟨#[100]⟩] 31), (W.heap.size, .cells #[.bool false, .bool false, .int .i64 cx, .int .i64 vx, .int .i64 ((nx + 128) % 256), .string ⟨#[100]⟩] 31), (w1.heap.size + 1, .cells #[.bool px, .bool gx, .int .i64 cx, .int .i64 vx, .int .i64 sx, .string dx] 31), (w1.heap.size, .cells #[.bool s, .bool wt, .bool ag, .int .i64 ct, .int .i64 nx] 24)] Wx) (RB (.cells #[.bool false, .bool false, .bool false, .int .i64 0, .int .i64 0] 24) (.cells #[.bool false, .bool false, .bool false, .int .i64 ((ct + 1) % 4), .int .i64 nx] 24)) (by kernel_rfl) 131 rfl (by kernel_rfl)
        case h0 =>
          exact hO.out.drew
        case hsteps =>
          refine ⟨?_, ?_, ?_, ?_, ?_, ?_, ?_, ?_, ?_, ?_, ?_, ?_, ?_, trivial⟩
          · refine stepOK2_of _ [10] rfl (by kernel_rfl) ?_ rfl
            intro t ρ W ht hc hf hn ho hI
            clear hn
            have s10 := ho.1
            simp only [Array.getD_eq_getD_getElem?] at s10
            clear ho
            have hI' := Lib.hid hI
            have j0 := blk_cell hI.g0 0
            have j1 := blk_cell hI.g0 1
            have j2 := blk_cell hI.g0 2
            have j3 := blk_cell hI.g0 3
            have j4 := blk_cell hI.g0 4
            clear hI
            go_simp
            exact post_mk (hI'.out) (RB.refl) rfl
          · refine stepOK2_of _ [4] rfl (by kernel_rfl) ?_ rfl
            intro t ρ W ht hc hf hn ho hI
            clear hn
            have s4 := ho.1
            simp only [Array.getD_eq_getD_getElem?] at s4
            clear ho
            have hI' := Lib.hid hI
            clear hI
            go_simp
            exact post_mk (hI'.out) (RB.refl) rfl
          · refine stepOK2_of _ [] rfl (by kernel_rfl) ?_ rfl
            intro t ρ W ht hc hf hn ho hI
            obtain ⟨u1, q1, s72⟩ := hn.1
            clear hn
            have q1 : u1 = _ := q1
            subst q1
            have s72 : ρ (.tmp 72) = _ := s72
            clear ho
            have hI' := Lib.hid hI
            have j0 := blk_cell hI.g4 0
            have j1 := blk_cell hI.g4 1
            have j2 := blk_cell hI.g4 2
            have j3 := blk_cell hI.g4 3
            have j4 := blk_cell hI.g4 4
            have j5 := blk_cell hI.g4 5
            clear hI
            go_simp
            exact post_mk (hI'.out) (RB.refl) rfl
          · refine stepOK2_of _ [4] rfl (by kernel_rfl) ?_ rfl
            intro t ρ W ht hc hf hn ho hI
            clear hn
            have s4 := ho.1
            simp only [Array.getD_eq_getD_getElem?] at s4
            clear ho
            have hI' := Lib.hid hI
            clear hI
            go_simp
            exact post_mk (hI'.out) (RB.refl) rfl
          · refine stepOK2_of _ [] rfl (by kernel_rfl) ?_ rfl
            intro t ρ W ht hc hf hn ho hI
            obtain ⟨u3, q3, s74⟩ := hn.1
            clear hn
            have q3 : u3 = _ := q3
            subst q3
            have s74 : ρ (.tmp 74) = _ := s74
            clear ho
            have hI' := Lib.hid hI
            have j0 := blk_cell hI.g4 0
            have j1 := blk_cell hI.g4 1
            have j2 := blk_cell hI.g4 2
            have j3 := blk_cell hI.g4 3
            have j4 := blk_cell hI.g4 4
            have j5 := blk_cell hI.g4 5
            clear hI
            go_simp
            exact post_mk (hI'.out) (RB.refl) rfl
          · refine stepOK2_of _ [] rfl (by kernel_rfl) ?_ rfl
            intro t ρ W ht hc hf hn ho hI
            obtain ⟨u2, q2, s73⟩ := hn.1
            obtain ⟨u4, q4, s75⟩ := hn.2.1
            clear hn
            have q2 : u2 = _ := q2
            subst q2
            have s73 : ρ (.tmp 73) = _ := s73
            have q4 : u4 = _ := q4
            subst q4
            have s75 : ρ (.tmp 75) = _ := s75
            clear ho
            have hI' := Lib.hid hI
            clear hI
            go_simp
            refine (hop.out W).mono ?_
            rintro e W2 ⟨rfl, hb⟩
            exact endp_mk (post_mk (hI'.out.below hb) (RB.below hb) rfl)
          · refine stepOK2_of _ [] rfl (by kernel_rfl) ?_ rfl
            intro t ρ W ht hc hf hn ho hI
            obtain ⟨u0, q0, s71⟩ := hn.1
            obtain ⟨u5, q5, s76⟩ := hn.2.1
            clear hn
            have q0 : u0 = _ := q0
            subst q0
            have s71 : ρ (.tmp 71) = _ := s71
            have q5 : u5 = _ := q5
            subst q5
            have s76 : ρ (.tmp 76) = _ := s76
            clear ho
            have hI' := Lib.hid hI
            clear hI
            go_simp
            refine (hh3.out W).mono ?_
            rintro e W2 ⟨rfl, hb⟩
            exact endp_mk (post_mk (hI'.out.below hb) (RB.below hb) rfl)
          · refine stepOK2_of _ [] rfl (by kernel_rfl) ?_ rfl
            intro t ρ W ht hc hf hn ho hI
            obtain ⟨u6, q6, s77⟩ := hn.1
            clear hn
            have q6 : u6 = _ := q6
            subst q6
            have s77 : ρ (.tmp 77) = _ := s77
            clear ho
            have hI' := Lib.hid hI
            clear hI
            go_simp
            exact post_mk (hI'.out) (RB.refl) rfl
          · refine stepOK2_of _ [] rfl (by kernel_rfl) ?_ rfl
            intro t ρ W ht hc hf hn ho hI
            obtain ⟨u7, q7, s70⟩ := hn.1
            clear hn
            have q7 : u7 = _ := q7
            subst q7
            have s70 : ρ (.tmp 70) = _ := s70
            clear ho
            have hI' := Lib.hid hI
            clear hI
            go_simp
            exact post_mk (hI'.out) (RB.refl) rfl
          · refine stepOK2_of _ [] rfl (by kernel_rfl) ?_ rfl
            intro t ρ W ht hc hf hn ho hI
            obtain ⟨u7, q7, s70⟩ := hn.1
            clear hn
            have q7 : u7 = _ := q7
            subst q7
            have s70 : ρ (.tmp 70) = _ := s70
            clear ho
            have hI' := Lib.hid hI
            clear hI
            go_simp
            exact post_mk (hI'.out) (RB.refl) rfl
          · refine stepOK2_of _ [] rfl (by kernel_rfl) ?_ rfl
            intro t ρ W ht hc hf hn ho hI
            clear hn
            clear ho
            have hI' := Lib.hid hI
            clear hI
            go_simp
            exact post_mk (hI'.out.alloc _) (RB.below ((Below.refl _ _).alloc (Nat.le_refl _) _)) ⟨_, rfl, (Array.getElem?_eq_some_iff.1 hI'.out.g0).1, .inl (heap_top _ _ rfl)⟩
          · refine stepOK2_of _ [] rfl (by kernel_rfl) ?_ rfl
            intro t ρ W ht hc hf hn ho hI
            obtain ⟨u10, q10, s12⟩ := hn.1
            obtain ⟨u8, q8, s78⟩ := hn.2.1
            clear hn
            obtain ⟨B, rfl, hNB, hZC⟩ := q10
            have s12 : ρ (.tmp 12) = _ := s12
            have q8 : u8 = _ := q8
            subst q8
            have s78 : ρ (.tmp 78) = _ := s78
            clear ho
            have hI' := Lib.hid hI
            obtain ⟨cs, hb, hcs⟩ : ∃ cs, W.heap[B]? = some (.cells cs 24 (0, 0)) ∧ cs.size = 5 := by rcases hZC with h | h <;> exact ⟨_, h, rfl⟩
            obtain ⟨z0, z1, z2, z3, z4, rfl⟩ := arr_len5 cs hcs
            clear hI hZC
            have j0 := blk_cell hb
            have j1 := blk_frozen hb
            go_simp
            have hb9 := blk_put (blk_put (blk_put (blk_put (blk_put hb 0 (.bool false)) 1 (.bool false)) 2 (.bool false)) 3 (.int .i64 ((ct + 1) % 4))) 4 (.int .i64 nx)
            have hne : ∀ {A : Nat} {o : Obj}, A ≠ B → W.heap[A]? = some o → (((((W.setCell ⟨B, 0, none⟩ (.bool false)).setCell ⟨B, 1, none⟩ (.bool false)).setCell ⟨B, 2, none⟩ (.bool false)).setCell ⟨B, 3, none⟩ (.int .i64 ((ct + 1) % 4))).setCell ⟨B, 4, none⟩ (.int .i64 nx)).heap[A]? = some o := fun hA ho => blk_set (blk_set (blk_set (blk_set (blk_set ho _ _ hA) _ _ hA) _ _ hA) _ _ hA) _ _ hA
            refine post_mk ⟨((((hI'.out.1.setCell (by show _ ≤ B; omega) _).setCell (by show _ ≤ B; omega) _).setCell (by show _ ≤ B; omega) _).setCell (by show _ ≤ B; omega) _).setCell (by show _ ≤ B; omega) _, fun p hp => hne (by have := hLt.out p hp; omega) (hI'.out.2 p hp)⟩ ⟨fun B2 h2 => ?_, fun B2 h2 => ?_⟩ ⟨B, s12, hNB, hb9⟩
            · by_cases e : B2 = B
              · subst e
                exact hb9
              · exact hne e h2
            · by_cases e : B2 = B
              · subst e
                exact .inr hb9
              · exact .inl (hne e h2)
          · refine stepOK2_of _ [] rfl (by kernel_rfl) ?_ rfl
            intro t ρ W ht hc hf hn ho hI
            obtain ⟨u9, q9, s79⟩ := hn.1
            clear hn
            have q9 : u9 = _ := q9
            subst q9
            have s79 : ρ (.tmp 79) = _ := s79
            clear ho
            have hI' := Lib.hid hI
            clear hI
            go_simp
            exact post_mk (hI'.out) (RB.refl) rfl
        case hst => exact vv_stable2 ⟨fun _ => isV_st, fun _ => isV_st, fun _ => isV_st, fun _ => isV_st, fun _ => isV_st, fun _ => fun _ _ _ _ h => h, fun _ => fun _ _ _ _ h => h, fun _ => isV_st, fun _ => isV_st, fun _ => isV_st, fun _ => bxV_st, fillV_st, fun _ => isV_st, trivial⟩
        case hloc => exact locAll_of ⟨locE_c, locE_c, locE_c, locE_c, locE_c, locE_c, locE_c, locE_c, locE_c, locE_c, locE_c, fillV_loc 10 (by kernel_rfl) (by kernel_rfl), locE_c, trivial⟩
        intro vs W hlen hI hV
        obtain ⟨x0, x1, x2, x3, x4, x5, x6, x7, x8, x9, x10, x11, x12, rfl⟩ := list_len13_L5 vs hlen
        have y0 : x0 = _ := hV 0 _ rfl
        subst y0
        have y1 : x1 = _ := hV 1 _ rfl
        subst y1
        have y2 : x2 = _ := hV 2 _ rfl
        subst y2
        have y3 : x3 = _ := hV 3 _ rfl
        subst y3
        have y4 : x4 = _ := hV 4 _ rfl
        subst y4
        have y5 : x5 = _ := hV 5 _ rfl
        subst y5
        have y6 : x6 = _ := hV 6 _ rfl
        subst y6
        have y7 : x7 = _ := hV 7 _ rfl
        subst y7
        have y8 : x8 = _ := hV 8 _ rfl
        subst y8
        have y9 : x9 = _ := hV 9 _ rfl
        subst y9
        have y10 := hV 10 _ rfl
        obtain ⟨B, rfl, hNB, hZC⟩ := y10
        have y11 := hV 11 _ rfl
        have y12 : x12 = _ := hV 12 _ rfl
        subst y12
        clear hV hlen
        simp only [Exit.then, putAll, Act.put, List.setIfInBounds_toArray, List.set_cons_zero, List.set_cons_succ]
        clear hO hZC
        obtain ⟨B', hB', hN', hc'⟩ := y11
        obtain rfl : B = B' := by simpa [putAll, Act.put, Oper.dst] using hB'
        clear hB' hN'
        have hO := hI.add B _ hc'
        clear hI
        have k0 := fun o => blk_cell hO.g0 o
        have hl0 := (Array.getElem?_eq_some_iff.1 hO.g0).1
        have k3 := fun o => blk_cell hO.g3 o
        have hl3 := (Array.getElem?_eq_some_iff.1 hO.g3).1
        replace hO := Lib.hid hO
        go_wp2_with fail
        refine (hh4.out _).mono ?_
        rintro e w6 ⟨rfl, hB6⟩
        replace hO := hO.out.below hB6
        clear k0 k3 hl0 hl3 hB6
        have k0 := fun o => blk_cell hO.g0 o
        have hl0 := (Array.getElem?_eq_some_iff.1 hO.g0).1
        have k1 := fun o => blk_cell hO.g1 o
        have hl1 := (Array.getElem?_eq_some_iff.1 hO.g1).1
        have k2 := fun o => blk_cell hO.g2 o
        have hl2 := (Array.getElem?_eq_some_iff.1 hO.g2).1
        have k6 := fun o => blk_cell hO.g6 o
        have hl6 := (Array.getElem?_eq_some_iff.1 hO.g6).1
        replace hO := Lib.hid (hO.put (.cells #[.bool false, .bool false, .bool false, .int .i64 ((ct + 1) % 4), .int .i64 ((nx + 1) % 256)] 24))
        simp only [Fm.v]
        cases s
        · have hkf : kf = 3 := by rw [← hkf.out]; rfl
          subst hkf
          go_wp2_with fail
          go_ret
          first
            | exact ⟨rfl, hO.out.1⟩
            | exact ⟨rfl, (hO.out.alloc _).1⟩
        · have hkf : kf = 5 := by rw [← hkf.out]; rfl
          subst hkf
          go_wp2_with fail
          go_ret
          first
            | exact ⟨rfl, hO.out.1⟩
            | exact ⟨rfl, (hO.out.alloc _).1⟩

end Go.Proofs.Ytcbbebhjddphfaa
