/- What draws: how it stands, a frame, and whether there is room. -/
import Derived.Test.YtcbbebhjddphfaaD8
namespace Go.Proofs.Ytcbbebhjddphfaa
open Go.RowKit
set_option linter.unusedSimpArgs false
set_option linter.unusedVariables false

theorem list_len8_D9 : ∀ (l : List Value), l.length = 8 → ∃ x0 x1 x2 x3 x4 x5 x6 x7, l = x0 :: x1 :: x2 :: x3 :: x4 :: x5 :: x6 :: x7 :: []
  | x0 :: x1 :: x2 :: x3 :: x4 :: x5 :: x6 :: x7 :: [], _ => ⟨x0, x1, x2, x3, x4, x5, x6, x7, rfl⟩
theorem list_len9_D9 : ∀ (l : List Value), l.length = 9 → ∃ x0 x1 x2 x3 x4 x5 x6 x7 x8, l = x0 :: x1 :: x2 :: x3 :: x4 :: x5 :: x6 :: x7 :: x8 :: []
  | x0 :: x1 :: x2 :: x3 :: x4 :: x5 :: x6 :: x7 :: x8 :: [], _ => ⟨x0, x1, x2, x3, x4, x5, x6, x7, x8, rfl⟩

theorem open_b (wb w : World) (A : Option Addr) (n c : Nat) (hA : ∀ j, j < n → ∃ ad x, A = some ad ∧ wb.cell? (ad.add j) = some (.int .u8 x) ∧ 0 ≤ x ∧ x ≤ 255) (hw : Below wb.heap.size wb w) (hc : n ≤ c) (hm : c ≤ 9223372036854775807) : Calls Try.prog 39 #[.slice A n c] w fun e w' => ∃ g, g = w.heap.size ∧ e = .returned (.pointer (some ⟨g, 0, none⟩)) ∧ Rd wb w' g 0 ∧ Below w.heap.size w w' := by
  have hA := Lib.hid hA
  have hs := hw.size
  by_cases h : 2000 < n
  · go_enter Try.func39, Try.ntmps39
    go_wp2_with fail
    go_ret
    exact ⟨_, rfl, rfl, ⟨hs, hw.alloc hs _, A, 2000, c, heap_top _ _ rfl, by omega, fun j hj => hA.out j (by omega)⟩, (Below.refl _ _).alloc (Nat.le_refl _) _⟩
  · go_enter Try.func39, Try.ntmps39
    go_wp2_with fail
    go_ret
    exact ⟨_, rfl, rfl, ⟨hs, hw.alloc hs _, A, n, c, heap_top _ _ rfl, by omega, fun j hj => hA.out j (by omega)⟩, (Below.refl _ _).alloc (Nat.le_refl _) _⟩

/-- Lists stay. -/
def FL (g : Nat) (W1 W2 : World) : Prop := ∀ A cs, A ≠ g → W1.heap[A]? = some (.cells cs 3 (0, 0)) → W2.heap[A]? = some (.cells cs 3 (0, 0))
theorem FL.of {g : Nat} {W1 W2 : World} (h : Kp g W1 W2) : FL g W1 W2 := fun A cs hne hA => h.blk hA hne
def LN (g n : Nat) (v : Value) (W : World) : Prop := ∃ (A : Nat) (cs : Array Value), v = .slice (some ⟨A, 0, none⟩) n n ∧ A ≠ g ∧ cs.size = n ∧ (∀ (j : Nat) (v : Value), cs[j]? = some v → IsI v) ∧ W.heap[A]? = some (.cells cs 3 (0, 0))
theorem ln_st {g n : Nat} : StableV (FL g) (LN g n) := fun v W1 W2 hR h => by
  obtain ⟨A, cs, e, hne, hc, hQ, hA⟩ := h
  exact ⟨A, cs, e, hne, hc, hQ, hR A _ hne hA⟩
def FmA (W : World) (B : Nat) : Prop := ∃ (s wt ag : Bool) (ct nx : Int), W.heap[B]? = some (.cells #[.bool s, .bool wt, .bool ag, .int .i64 ct, .int .i64 nx] 24 (0, 0))
def FrA (W : World) (B : Nat) : Prop := ∃ (p q : Bool) (c v s : Int) (d : ByteArray), W.heap[B]? = some (.cells #[.bool p, .bool q, .int .i64 c, .int .i64 v, .int .i64 s, .string d] 31 (0, 0))
theorem FmA.kp {W W2 : World} {B g : Nat} (h : FmA W B) (k : Kp g W W2) (hne : B ≠ g) : FmA W2 B := by
  obtain ⟨s, wt, ag, ct, nx, e⟩ := h
  exact ⟨s, wt, ag, ct, nx, k.blk e hne⟩
theorem FrA.kp {W W2 : World} {B g : Nat} (h : FrA W B) (k : Kp g W W2) (hne : B ≠ g) : FrA W2 B := by
  obtain ⟨p, q, c, v, s, d, e⟩ := h
  exact ⟨p, q, c, v, s, d, k.blk e hne⟩
def FrV (v : Value) (_ : World) : Prop := ∃ (p q : Bool) (c v' s : Int) (d : ByteArray), v = .agg #[.bool p, .bool q, .int .i64 c, .int .i64 v', .int .i64 s, .string d]
def BoV (v : Value) (_ : World) : Prop := ∃ b : Bool, v = .bool b
def HO (w : World) (g R2 R3 FB XB : Nat) : Prop := w.heap.size ≤ R2 ∧ R2 < R3 ∧ R3 < g ∧ g < FB ∧ FB < XB
def HI (w : World) (g R2 R3 FB XB : Nat) (o : Obj) (t : Nat) (W : World) : Prop := ∃ q, Rd w W g q ∧ 0 ≤ q ∧ q ≤ 20000 + 100 * t ∧ FmA W R2 ∧ FrA W R3 ∧ W.heap[FB]? = some o ∧ FrA W XB
section
variable {w : World} {g R2 R3 FB XB : Nat} {o : Obj} {t : Nat} {W : World}
theorem HI.next (h : HI w g R2 R3 FB XB o t W) : HI w g R2 R3 FB XB o (t + 1) W := by
  obtain ⟨q, h1, h2, h3, h4⟩ := h
  exact ⟨q, h1, h2, by omega, h4⟩
theorem HI.call (h : HI w g R2 R3 FB XB o t W) (hO : HO w g R2 R3 FB XB) {W2 : World} {q2 : Int} (h1 : Rd w W2 g q2) (h2 : Kp g W W2) (h3 : 0 ≤ q2) (h4 : q2 ≤ 20000 + 100 * (t + 1)) : HI w g R2 R3 FB XB o (t + 1) W2 := by
  obtain ⟨q, e1, e2, e3, e4, e5, e6, e7⟩ := h
  unfold HO at hO
  exact ⟨q2, h1, h3, by omega, e4.kp h2 (by omega), e5.kp h2 (by omega), h2.blk e6 (by omega), e7.kp h2 (by omega)⟩
theorem HI.gt (h : HI w g R2 R3 FB XB o t W) : g < W.heap.size := by
  obtain ⟨q, e1, e2⟩ := h
  exact e1.lt
theorem HI.alloc (h : HI w g R2 R3 FB XB o t W) (hO : HO w g R2 R3 FB XB) (ob : Obj) : HI w g R2 R3 FB XB o (t + 1) (W.alloc ob) := by
  obtain ⟨q, e1, e2, e3, e4⟩ := id h
  exact h.call hO (e1.alloc _) ((Kp.refl _ _).alloc _) e2 (by omega)
theorem HI.drew (h : HI w g R2 R3 FB XB o t W) (hO : HO w g R2 R3 FB XB) : HI w g R2 R3 FB XB o t W.drew := by
  obtain ⟨q, e1, e2, e3, e4⟩ := id h
  exact ⟨q, e1.drew, e2, e3, e4⟩
end
def IsHear (v : Value) : Prop := ∃ (f : Fm) (x : Fr) (b : Bool), v = .tuple #[f.v, x.v, .bool b]
set_option maxHeartbeats 2000000 in
set_option maxRecDepth 100000 in
theorem DrawFarmHear_d (w : World) (A : Option Addr) (n c : Nat) (h : Code_ w A n c) : Calls Try.prog 28 #[.slice A n c] w (Dc w IsHear) := by
  have hC := Lib.hid h
  clear h
  go_enter Try.func28, Try.ntmps28
  go_wp2_with fail
  refine (open_b w _ A n c hC.out.2.2 (by repeat (first | (with_reducible exact Below.refl _ _) | (with_reducible assumption) | (with_reducible refine Below.drew ?_) | (with_reducible refine below_drewN' ?_ _) | (with_reducible refine Below.setCell ?_ (by first | (simp; done) | (simp; omega) | omega) _) | (with_reducible refine Below.alloc ?_ (by first | (simp; done) | (simp; omega) | omega) _) | (with_reducible refine Below.trans ?_ (Below.mono (by assumption) (by first | (simp; done) | (simp; omega) | omega))))) hC.out.1 hC.out.2.1.1).mono ?_
  rintro e w1 ⟨g, hg, rfl, hR1, hB1⟩
  have ob0 : ((w.alloc (.cells #[.bool false, .bool false, .bool false, .int .i64 0, .int .i64 0] 24)).alloc (.cells #[.bool false, .bool false, .int .i64 0, .int .i64 0, .int .i64 0, .string ⟨#[]⟩] 31)).heap[w.heap.size]? = some (.cells #[.bool false, .bool false, .bool false, .int .i64 0, .int .i64 0] 24 (0, 0)) := heap_up (heap_top _ _ rfl) _
  have oc0 : ((w.alloc (.cells #[.bool false, .bool false, .bool false, .int .i64 0, .int .i64 0] 24)).alloc (.cells #[.bool false, .bool false, .int .i64 0, .int .i64 0, .int .i64 0, .string ⟨#[]⟩] 31)).heap[w.heap.size + 1]? = some (.cells #[.bool false, .bool false, .int .i64 0, .int .i64 0, .int .i64 0, .string ⟨#[]⟩] 31 (0, 0)) := heap_top _ _ (by simp)
  have ob1 := Lib.hid (blk_below ob0 hB1)
  have oc1 := Lib.hid (blk_below oc0 hB1)
  have hg2 : w.heap.size + 1 < g := by rw [hg]; simp
  clear hB1 ob0 oc0 hg
  go_wp2_with fail
  refine (anyFarm_d w _ g 0 hR1 (by omega) (by omega)).mono ?_
  rintro e w2 ⟨v2, q2, rfl, ⟨⟨s, wt, ag, ct, nx⟩, rfl⟩, hq2, hq2', hR2, hK2⟩
  have ob2 := Lib.hid (hK2.blk ob1.out (by omega))
  have oc2 := Lib.hid (hK2.blk oc1.out (by omega))
  have hg3 := hR2.lt
  clear hK2 hR1 ob1 oc1
  simp only [Fm.v]
  go_wp2_with fail
  refine (anyFrame_d w _ g q2 (by repeat (first | (with_reducible assumption) | (with_reducible refine Rd.alloc ?_ _) | (with_reducible refine Rd.drew ?_) | (with_reducible refine Rd.drewN ?_ _) | (with_reducible refine Rd.own ?_ (by first | (simp; done) | (simp; omega) | omega) (by first | (simp; done) | (simp; omega) | omega) _))) (by omega) (by omega)).mono ?_
  rintro e w3 ⟨v3, q3, rfl, ⟨⟨px, gx, cx, vx, sx, dx⟩, rfl⟩, hq3, hq3', hR3, hK3⟩
  have ob3 := Lib.hid (hK3.blk (heap_up ob2.out _) (by omega))
  have oc3 := Lib.hid (hK3.blk (heap_up oc2.out _) (by omega))
  have od3 := Lib.hid (hK3.blk (heap_top w2 (.cells #[.bool s, .bool wt, .bool ag, .int .i64 ct, .int .i64 nx] 24) rfl) (by omega))
  have hg4 := (Array.getElem?_eq_some_iff.1 od3.out).1
  clear hK3 hR2 ob2 oc2
  simp only [Fr.v]
  go_wp2_with fail
  refine (pick_c w _ g q3 4 (by repeat (first | (with_reducible assumption) | (with_reducible refine Rd.alloc ?_ _) | (with_reducible refine Rd.drew ?_) | (with_reducible refine Rd.drewN ?_ _) | (with_reducible refine Rd.own ?_ (by first | (simp; done) | (simp; omega) | omega) (by first | (simp; done) | (simp; omega) | omega) _))) (by omega) (by omega) (by omega) (by omega)).mono ?_
  rintro e w4 ⟨r4, rfl, ra4, rb4, hR4, hK4⟩
  have hI4 : HI w g w.heap.size (w.heap.size + 1) w2.heap.size w3.heap.size (.cells #[.bool s, .bool wt, .bool ag, .int .i64 ct, .int .i64 nx] 24 (0, 0)) 0 w4 :=
    ⟨_, hR4, by omega, by omega, ⟨_, _, _, _, _, hK4.blk (heap_up ob3.out _) (by omega)⟩, ⟨_, _, _, _, _, _, hK4.blk (heap_up oc3.out _) (by omega)⟩, hK4.blk (heap_up od3.out _) (by omega), ⟨_, _, _, _, _, _, hK4.blk (heap_top w3 (.cells #[.bool px, .bool gx, .int .i64 cx, .int .i64 vx, .int .i64 sx, .string dx] 31) rfl) (by omega)⟩⟩
  have hI4 := Lib.hid hI4
  have hOO : HO w g w.heap.size (w.heap.size + 1) w2.heap.size w3.heap.size := by unfold HO; omega
  clear hK4 hR4 hR3 ob3 oc3 od3 hg4 hg3
  have hOO := Lib.hid hOO
  by_cases hr : 0 < r4
  · go_wp2_with fail
    apply region_inv (VV [IsV _, IsV _, IsV _, (LN g 12), (fun v _ => IsI v), (fun v _ => IsI v), (fun v _ => IsI v), IsV _, (AnyV)]) (HI w g w.heap.size (w.heap.size + 1) w2.heap.size w3.heap.size (.cells #[.bool s, .bool wt, .bool ag, .int .i64 ct, .int .i64 nx] 24 (0, 0))) (FL g) (by kernel_rfl) 30 rfl (by kernel_rfl)
    case h0 =>
      exact hI4.out.drew hOO.out
    case hsteps =>
      refine ⟨?_, ?_, ?_, ?_, ?_, ?_, ?_, ?_, ?_, trivial⟩
      · refine stepOK_of _ [6] rfl (by kernel_rfl) ?_ rfl
        intro t ρ W ht hc hf hn ho hI
        clear hn
        have s6 := ho.1
        simp only [Array.getD_eq_getD_getElem?] at s6
        clear ho
        have hI' := Lib.hid hI
        clear hI
        go_simp
        exact post_mk (hI'.out.next) (FL.of (Kp.refl _ _)) rfl
      · refine stepOK_of _ [] rfl (by kernel_rfl) ?_ rfl
        intro t ρ W ht hc hf hn ho hI
        obtain ⟨u0, q0, s17⟩ := hn.1
        clear hn
        have q0 : u0 = _ := q0
        subst q0
        have s17 : ρ (.tmp 17) = _ := s17
        clear ho
        have hI' := Lib.hid hI
        obtain ⟨q, i1, i2, i3, i4, i5, i6, i7⟩ := hI
        have j0 := blk_cell i6 0
        have j1 := blk_cell i6 1
        have j2 := blk_cell i6 2
        have j3 := blk_cell i6 3
        have j4 := blk_cell i6 4
        clear i1 i2 i3 i4 i5 i6 i7
        go_simp
        exact post_mk (hI'.out.next) (FL.of (Kp.refl _ _)) rfl
      · refine stepOK_of _ [5] rfl (by kernel_rfl) ?_ rfl
        intro t ρ W ht hc hf hn ho hI
        clear hn
        have s5 := ho.1
        simp only [Array.getD_eq_getD_getElem?] at s5
        clear ho
        have hI' := Lib.hid hI
        clear hI
        go_simp
        exact post_mk (hI'.out.next) (FL.of (Kp.refl _ _)) rfl
      · refine stepOK_of _ [] rfl (by kernel_rfl) ?_ rfl
        intro t ρ W ht hc hf hn ho hI
        clear hn
        clear ho
        have hI' := Lib.hid hI
        clear hI
        go_simp
        exact post_mk (hI'.out.alloc hOO.out _) (FL.of ((Kp.refl _ _).alloc _)) ⟨_, _, rfl, by have := hI'.out.gt; omega, rfl, isI_list [0, 0, 0, 1, 3, 7, 8, -1, -8, -7, -9, 128] _ rfl, heap_top _ _ rfl⟩
      · refine stepOK_of _ [] rfl (by kernel_rfl) ?_ rfl
        intro t ρ W ht hc hf hn ho hI
        obtain ⟨u2, q2, s19⟩ := hn.1
        obtain ⟨u3, q3, s20⟩ := hn.2.1
        clear hn
        have q2 : u2 = _ := q2
        subst q2
        have s19 : ρ (.tmp 19) = _ := s19
        obtain ⟨A3, cs3, rfl, hn3, hc3, hQ3, hA3⟩ := q3
        have s20 : ρ (.tmp 20) = _ := s20
        clear ho
        have hI' := Lib.hid hI
        clear hI
        go_simp
        obtain ⟨q, e1, e2, e3, e4⟩ := hI'.out
        refine (one_c w W g q A3 cs3 12 e1 (by omega) (by simp at ht; omega) hA3 hn3 hc3 (by omega) (by omega) IsI hQ3).mono ?_
        rintro e W2 ⟨v, rfl, ⟨r, rfl⟩, hR, hK⟩
        exact endp_mk (post_mk (hI'.out.call (q2 := q + 1) hOO.out hR hK (by omega) (by omega)) (FL.of hK) ⟨r, rfl⟩)
      · refine stepOK_of _ [] rfl (by kernel_rfl) ?_ rfl
        intro t ρ W ht hc hf hn ho hI
        obtain ⟨u1, q1, s18⟩ := hn.1
        obtain ⟨u4, q4, s21⟩ := hn.2.1
        clear hn
        have q1 : u1 = _ := q1
        subst q1
        have s18 : ρ (.tmp 18) = _ := s18
        obtain ⟨r4, rfl⟩ := q4
        have s21 : ρ (.tmp 21) = _ := s21
        clear ho
        have hI' := Lib.hid hI
        clear hI
        go_simp
        exact post_mk hI'.out.next (FL.of (Kp.refl _ _)) ⟨_, rfl⟩
      · refine stepOK_of _ [] rfl (by kernel_rfl) ?_ rfl
        intro t ρ W ht hc hf hn ho hI
        obtain ⟨u5, q5, s22⟩ := hn.1
        clear hn
        obtain ⟨r5, rfl⟩ := q5
        have s22 : ρ (.tmp 22) = _ := s22
        clear ho
        have hI' := Lib.hid hI
        clear hI
        go_simp
        refine (l4Mod_any _ W).mono ?_
        rintro e W2 ⟨r, rfl, rfl⟩
        exact endp_mk (post_mk hI'.out.next (FL.of (Kp.refl _ _)) ⟨r, rfl⟩)
      · refine stepOK_of _ [7] rfl (by kernel_rfl) ?_ rfl
        intro t ρ W ht hc hf hn ho hI
        clear hn
        have s7 := ho.1
        simp only [Array.getD_eq_getD_getElem?] at s7
        clear ho
        have hI' := Lib.hid hI
        clear hI
        go_simp
        exact post_mk (hI'.out.next) (FL.of (Kp.refl _ _)) rfl
      · refine stepOK_of _ [] rfl (by kernel_rfl) ?_ rfl
        intro t ρ W ht hc hf hn ho hI
        obtain ⟨u7, q7, s24⟩ := hn.1
        obtain ⟨u6, q6, s23⟩ := hn.2.1
        clear hn
        have q7 : u7 = _ := q7
        subst q7
        have s24 : ρ (.tmp 24) = _ := s24
        obtain ⟨r6, rfl⟩ := q6
        have s23 : ρ (.tmp 23) = _ := s23
        clear ho
        have hI' := Lib.hid hI
        obtain ⟨q, e1, e2, e3, e4, e5, e6, ⟨p1, g1, c1, v1, s1, d1, hb⟩⟩ := hI
        have j0 := blk_cell hb
        have j1 := blk_frozen hb
        go_simp
        have hO9 := hOO.out
        unfold HO at hO9
        have hb9 := blk_put hb 4 (.int .i64 r6)
        have hne : ∀ {A : Nat} {o : Obj}, A ≠ w3.heap.size → W.heap[A]? = some o → (W.setCell ⟨w3.heap.size, 4, none⟩ (.int .i64 r6)).heap[A]? = some o := fun hA ho => blk_set ho _ _ hA
        have hR9 : Rd w (W.setCell ⟨w3.heap.size, 4, none⟩ (.int .i64 r6)) g q := (by repeat (first | (with_reducible assumption) | (with_reducible refine Rd.alloc ?_ _) | (with_reducible refine Rd.drew ?_) | (with_reducible refine Rd.drewN ?_ _) | (with_reducible refine Rd.own ?_ (by first | (simp; done) | (simp; omega) | omega) (by first | (simp; done) | (simp; omega) | omega) _)))
        have hL : FL g W (W.setCell ⟨w3.heap.size, 4, none⟩ (.int .i64 r6)) := fun A cs hA hAc => by
          refine hne (fun e => ?_) hAc
          subst e
          rw [hb] at hAc
          cases hAc
        obtain ⟨a1, a2, a3, a4, a5, a6⟩ := e4
        obtain ⟨b1, b2, b3, b4, b5, b6, b7⟩ := e5
        exact post_mk ⟨q, hR9, e2, by omega, ⟨a1, a2, a3, a4, a5, hne (by omega) a6⟩, ⟨b1, b2, b3, b4, b5, b6, hne (by omega) b7⟩, hne (by omega) e6, ⟨_, _, _, _, _, _, hb9⟩⟩ hL trivial
    case hst => exact vv_stable ⟨isV_st, isV_st, isV_st, ln_st, fun _ _ _ _ h => h, fun _ _ _ _ h => h, fun _ _ _ _ h => h, isV_st, fun _ _ _ _ h => h, trivial⟩
    intro vs W hlen hI hV
    obtain ⟨x0, x1, x2, x3, x4, x5, x6, x7, x8, rfl⟩ := list_len9_D9 vs hlen
    have y0 : x0 = _ := hV 0 _ rfl
    subst y0
    have y1 : x1 = _ := hV 1 _ rfl
    subst y1
    have y2 : x2 = _ := hV 2 _ rfl
    subst y2
    have y3 := hV 3 _ rfl
    obtain ⟨A3, cs3, rfl, hn3, hc3, hQ3, hA3⟩ := y3
    have y4 := hV 4 _ rfl
    obtain ⟨r4, rfl⟩ := y4
    have y5 := hV 5 _ rfl
    obtain ⟨r5, rfl⟩ := y5
    have y6 := hV 6 _ rfl
    obtain ⟨r6, rfl⟩ := y6
    have y7 : x7 = _ := hV 7 _ rfl
    subst y7
    have y8 := hV 8 _ rfl
    clear hV hlen
    simp only [Exit.then, putAll, Act.put, List.setIfInBounds_toArray, List.set_cons_zero, List.set_cons_succ]
    clear hI4
    have hI4 := Lib.hid hI
    clear hI
    go_wp2_with fail
    apply region_inv (VV [IsV _, (FrV), IsV _, (fun v _ => IsI v), (BoV), (AnyV), (AnyV), (BoV)]) (fun t W => HI w g w.heap.size (w.heap.size + 1) w2.heap.size w3.heap.size (.cells #[.bool s, .bool wt, .bool ag, .int .i64 ct, .int .i64 nx] 24 (0, 0)) (t + 20) W) (FL g) (by kernel_rfl) 30 rfl (by kernel_rfl)
    case h0 =>
      obtain ⟨q, e1, e2, e3, e4⟩ := hI4.out
      exact ⟨q, e1.drew, e2, by simp at e3 ⊢; omega, e4⟩
    case hsteps =>
      refine ⟨?_, ?_, ?_, ?_, ?_, ?_, ?_, ?_, trivial⟩
      · refine stepOK_of _ [6] rfl (by kernel_rfl) ?_ rfl
        intro t ρ W ht hc hf hn ho hI
        clear hn
        have s6 := ho.1
        simp only [Array.getD_eq_getD_getElem?] at s6
        clear ho
        have hI' := Lib.hid hI
        obtain ⟨q, i1, i2, i3, i4, i5, i6, i7⟩ := hI
        have j0 := blk_cell i6 0
        have j1 := blk_cell i6 1
        have j2 := blk_cell i6 2
        have j3 := blk_cell i6 3
        have j4 := blk_cell i6 4
        clear i1 i2 i3 i4 i5 i6 i7
        go_simp
        exact post_mk (hI'.out.next) (FL.of (Kp.refl _ _)) rfl
      · refine stepOK_of _ [7] rfl (by kernel_rfl) ?_ rfl
        intro t ρ W ht hc hf hn ho hI
        clear hn
        have s7 := ho.1
        simp only [Array.getD_eq_getD_getElem?] at s7
        clear ho
        have hI' := Lib.hid hI
        obtain ⟨q, e1, e2, e3, e4, e5, e6, ⟨p1, g1, c1, v1, s1, d1, hb⟩⟩ := hI
        have j0 := blk_cell hb 0
        have j1 := blk_cell hb 1
        have j2 := blk_cell hb 2
        have j3 := blk_cell hb 3
        have j4 := blk_cell hb 4
        have j5 := blk_cell hb 5
        clear e1 e2 e3 e4 e5 e6 hb
        go_simp
        exact post_mk hI'.out.next (FL.of (Kp.refl _ _)) ⟨_, _, _, _, _, _, rfl⟩
      · refine stepOK_of _ [5] rfl (by kernel_rfl) ?_ rfl
        intro t ρ W ht hc hf hn ho hI
        clear hn
        have s5 := ho.1
        simp only [Array.getD_eq_getD_getElem?] at s5
        clear ho
        have hI' := Lib.hid hI
        clear hI
        go_simp
        exact post_mk (hI'.out.next) (FL.of (Kp.refl _ _)) rfl
      · refine stepOK_of _ [] rfl (by kernel_rfl) ?_ rfl
        intro t ρ W ht hc hf hn ho hI
        obtain ⟨u2, q2, s27⟩ := hn.1
        clear hn
        have q2 : u2 = _ := q2
        subst q2
        have s27 : ρ (.tmp 27) = _ := s27
        clear ho
        have hI' := Lib.hid hI
        clear hI
        go_simp
        obtain ⟨q, e1, e2, e3, e4⟩ := hI'.out
        refine (pick_c w W g q 4 e1 (by omega) (by simp at ht; omega) (by omega) (by omega)).mono ?_
        rintro e W2 ⟨r, rfl, ra, rb, hR, hK⟩
        exact endp_mk (post_mk (hI'.out.call (q2 := q + 1) hOO.out hR hK (by omega) (by omega)) (FL.of hK) ⟨r, rfl⟩)
      · refine stepOK_of _ [] rfl (by kernel_rfl) ?_ rfl
        intro t ρ W ht hc hf hn ho hI
        obtain ⟨u3, q3, s28⟩ := hn.1
        clear hn
        obtain ⟨r3, rfl⟩ := q3
        have s28 : ρ (.tmp 28) = _ := s28
        clear ho
        have hI' := Lib.hid hI
        clear hI
        go_simp
        exact post_mk hI'.out.next (FL.of (Kp.refl _ _)) ⟨_, rfl⟩
      · refine stepOK_of _ [2] rfl (by kernel_rfl) ?_ rfl
        intro t ρ W ht hc hf hn ho hI
        obtain ⟨u0, q0, s25⟩ := hn.1
        clear hn
        have q0 : u0 = _ := q0
        subst q0
        have s25 : ρ (.tmp 25) = _ := s25
        have s2 := ho.1
        simp only [Array.getD_eq_getD_getElem?] at s2
        clear ho
        have hI' := Lib.hid hI
        obtain ⟨q, e1, e2, e3, ⟨a1, a2, a3, a4, a5, hb⟩, e5, e6, e7⟩ := hI
        have j0 := blk_cell hb
        have j1 := blk_frozen hb
        go_simp
        have hO9 := hOO.out
        unfold HO at hO9
        have hb9 := blk_put (blk_put (blk_put (blk_put (blk_put hb 0 (.bool s)) 1 (.bool wt)) 2 (.bool ag)) 3 (.int .i64 ct)) 4 (.int .i64 nx)
        have hne : ∀ {A : Nat} {o : Obj}, A ≠ w.heap.size → W.heap[A]? = some o → (((((W.setCell ⟨w.heap.size, 0, none⟩ (.bool s)).setCell ⟨w.heap.size, 1, none⟩ (.bool wt)).setCell ⟨w.heap.size, 2, none⟩ (.bool ag)).setCell ⟨w.heap.size, 3, none⟩ (.int .i64 ct)).setCell ⟨w.heap.size, 4, none⟩ (.int .i64 nx)).heap[A]? = some o := fun hA ho => blk_set (blk_set (blk_set (blk_set (blk_set ho _ _ hA) _ _ hA) _ _ hA) _ _ hA) _ _ hA
        have hR9 : Rd w (((((W.setCell ⟨w.heap.size, 0, none⟩ (.bool s)).setCell ⟨w.heap.size, 1, none⟩ (.bool wt)).setCell ⟨w.heap.size, 2, none⟩ (.bool ag)).setCell ⟨w.heap.size, 3, none⟩ (.int .i64 ct)).setCell ⟨w.heap.size, 4, none⟩ (.int .i64 nx)) g q := (by repeat (first | (with_reducible assumption) | (with_reducible refine Rd.alloc ?_ _) | (with_reducible refine Rd.drew ?_) | (with_reducible refine Rd.drewN ?_ _) | (with_reducible refine Rd.own ?_ (by first | (simp; done) | (simp; omega) | omega) (by first | (simp; done) | (simp; omega) | omega) _)))
        have hL : FL g W (((((W.setCell ⟨w.heap.size, 0, none⟩ (.bool s)).setCell ⟨w.heap.size, 1, none⟩ (.bool wt)).setCell ⟨w.heap.size, 2, none⟩ (.bool ag)).setCell ⟨w.heap.size, 3, none⟩ (.int .i64 ct)).setCell ⟨w.heap.size, 4, none⟩ (.int .i64 nx)) := fun A cs hA hAc => by
          refine hne (fun e => ?_) hAc
          subst e
          rw [hb] at hAc
          cases hAc
        obtain ⟨b1, b2, b3, b4, b5, b6, b7⟩ := e5
        obtain ⟨d1, d2, d3, d4, d5, d6, d7⟩ := e7
        exact post_mk ⟨q, hR9, e2, by omega, ⟨_, _, _, _, _, hb9⟩, ⟨b1, b2, b3, b4, b5, b6, hne (by omega) b7⟩, hne (by omega) e6, ⟨d1, d2, d3, d4, d5, d6, hne (by omega) d7⟩⟩ hL trivial
      · refine stepOK_of _ [3] rfl (by kernel_rfl) ?_ rfl
        intro t ρ W ht hc hf hn ho hI
        obtain ⟨u1, q1, s26⟩ := hn.1
        clear hn
        obtain ⟨p9, g9, c9, v9, s9, d9, rfl⟩ := q1
        have s26 : ρ (.tmp 26) = _ := s26
        have s3 := ho.1
        simp only [Array.getD_eq_getD_getElem?] at s3
        clear ho
        have hI' := Lib.hid hI
        obtain ⟨q, e1, e2, e3, e4, ⟨p1, g1, c1, v1, s1, d1, hb⟩, e6, e7⟩ := hI
        have j0 := blk_cell hb
        have j1 := blk_frozen hb
        go_simp
        have hO9 := hOO.out
        unfold HO at hO9
        have hb9 := blk_put (blk_put (blk_put (blk_put (blk_put (blk_put hb 0 (.bool p9)) 1 (.bool g9)) 2 (.int .i64 c9)) 3 (.int .i64 v9)) 4 (.int .i64 s9)) 5 (.string d9)
        have hne : ∀ {A : Nat} {o : Obj}, A ≠ (w.heap.size + 1) → W.heap[A]? = some o → ((((((W.setCell ⟨w.heap.size + 1, 0, none⟩ (.bool p9)).setCell ⟨w.heap.size + 1, 1, none⟩ (.bool g9)).setCell ⟨w.heap.size + 1, 2, none⟩ (.int .i64 c9)).setCell ⟨w.heap.size + 1, 3, none⟩ (.int .i64 v9)).setCell ⟨w.heap.size + 1, 4, none⟩ (.int .i64 s9)).setCell ⟨w.heap.size + 1, 5, none⟩ (.string d9)).heap[A]? = some o := fun hA ho => blk_set (blk_set (blk_set (blk_set (blk_set (blk_set ho _ _ hA) _ _ hA) _ _ hA) _ _ hA) _ _ hA) _ _ hA
        have hR9 : Rd w ((((((W.setCell ⟨w.heap.size + 1, 0, none⟩ (.bool p9)).setCell ⟨w.heap.size + 1, 1, none⟩ (.bool g9)).setCell ⟨w.heap.size + 1, 2, none⟩ (.int .i64 c9)).setCell ⟨w.heap.size + 1, 3, none⟩ (.int .i64 v9)).setCell ⟨w.heap.size + 1, 4, none⟩ (.int .i64 s9)).setCell ⟨w.heap.size + 1, 5, none⟩ (.string d9)) g q := (by repeat (first | (with_reducible assumption) | (with_reducible refine Rd.alloc ?_ _) | (with_reducible refine Rd.drew ?_) | (with_reducible refine Rd.drewN ?_ _) | (with_reducible refine Rd.own ?_ (by first | (simp; done) | (simp; omega) | omega) (by first | (simp; done) | (simp; omega) | omega) _)))
        have hL : FL g W ((((((W.setCell ⟨w.heap.size + 1, 0, none⟩ (.bool p9)).setCell ⟨w.heap.size + 1, 1, none⟩ (.bool g9)).setCell ⟨w.heap.size + 1, 2, none⟩ (.int .i64 c9)).setCell ⟨w.heap.size + 1, 3, none⟩ (.int .i64 v9)).setCell ⟨w.heap.size + 1, 4, none⟩ (.int .i64 s9)).setCell ⟨w.heap.size + 1, 5, none⟩ (.string d9)) := fun A cs hA hAc => by
          refine hne (fun e => ?_) hAc
          subst e
          rw [hb] at hAc
          cases hAc
        obtain ⟨b1, b2, b3, b4, b5, b6⟩ := e4
        obtain ⟨f1, f2, f3, f4, f5, f6, f7⟩ := e7
        exact post_mk ⟨q, hR9, e2, by omega, ⟨b1, b2, b3, b4, b5, hne (by omega) b6⟩, ⟨_, _, _, _, _, _, hb9⟩, hne (by omega) e6, ⟨f1, f2, f3, f4, f5, f6, hne (by omega) f7⟩⟩ hL trivial
      · refine stepOK_of _ [] rfl (by kernel_rfl) ?_ rfl
        intro t ρ W ht hc hf hn ho hI
        obtain ⟨u4, q4, s29⟩ := hn.1
        clear hn
        obtain ⟨b4, rfl⟩ := q4
        have s29 : ρ (.tmp 29) = _ := s29
        clear ho
        have hI' := Lib.hid hI
        clear hI
        go_simp
        exact post_mk hI'.out.next (FL.of (Kp.refl _ _)) ⟨_, rfl⟩
    case hst => exact vv_stable ⟨isV_st, fun _ _ _ _ h => h, isV_st, fun _ _ _ _ h => h, fun _ _ _ _ h => h, fun _ _ _ _ h => h, fun _ _ _ _ h => h, fun _ _ _ _ h => h, trivial⟩
    intro vs W hlen hI hV
    obtain ⟨x0, x1, x2, x3, x4, x5, x6, x7, rfl⟩ := list_len8_D9 vs hlen
    have y0 : x0 = _ := hV 0 _ rfl
    subst y0
    have y1 := hV 1 _ rfl
    obtain ⟨p9, g9, c9, v9, s9, d9, rfl⟩ := y1
    have y2 : x2 = _ := hV 2 _ rfl
    subst y2
    have y3 := hV 3 _ rfl
    obtain ⟨r3, rfl⟩ := y3
    have y4 := hV 4 _ rfl
    obtain ⟨b4, rfl⟩ := y4
    have y5 := hV 5 _ rfl
    have y6 := hV 6 _ rfl
    have y7 := hV 7 _ rfl
    obtain ⟨b7, rfl⟩ := y7
    clear hV hlen
    simp only [Exit.then, putAll, Act.put, List.setIfInBounds_toArray, List.set_cons_zero, List.set_cons_succ]
    clear hI4
    obtain ⟨q, e1, e2, e3, ⟨a1, a2, a3, a4, a5, hb⟩, ⟨b1, b2, b3, b4, b5, b6, hc⟩, e6, e7⟩ := hI
    have hlt1 : w.heap.size < W.heap.size := (Array.getElem?_eq_some_iff.1 hb).1
    have hlt2 : w.heap.size + 1 < W.heap.size := (Array.getElem?_eq_some_iff.1 hc).1
    have kb := fun o => blk_cell hb o
    have kf := fun o => blk_frozen hb o
    clear hb
    have kc := fun o => blk_cell hc o
    have kg := fun o => blk_frozen hc o
    clear hc
    go_wp2_with fail
    exact bodyPost_ret (v := .tuple #[.agg #[.bool a1, .bool a2, .bool a3, .int .i64 a4, .int .i64 a5], .agg #[.bool b1, .bool b2, .int .i64 b3, .int .i64 b4, .int .i64 b5, .string b6], .bool b7]) (by simp [results, Try.results28, go_sem, kb, kc, hlt1, hlt2]) rfl ⟨_, rfl, ⟨⟨_, _, _, _, _⟩, ⟨_, _, _, _, _, _⟩, _, rfl⟩, e1.bel⟩
  · go_wp2_with fail
    apply region_inv (VV [IsV _, (FrV), IsV _, (fun v _ => IsI v), (BoV), (AnyV), (AnyV), (BoV)]) (fun t W => HI w g w.heap.size (w.heap.size + 1) w2.heap.size w3.heap.size (.cells #[.bool s, .bool wt, .bool ag, .int .i64 ct, .int .i64 nx] 24 (0, 0)) (t + 20) W) (FL g) (by kernel_rfl) 30 rfl (by kernel_rfl)
    case h0 =>
      obtain ⟨q, e1, e2, e3, e4⟩ := hI4.out
      exact ⟨q, e1.drew, e2, by simp at e3 ⊢; omega, e4⟩
    case hsteps =>
      refine ⟨?_, ?_, ?_, ?_, ?_, ?_, ?_, ?_, trivial⟩
      · refine stepOK_of _ [6] rfl (by kernel_rfl) ?_ rfl
        intro t ρ W ht hc hf hn ho hI
        clear hn
        have s6 := ho.1
        simp only [Array.getD_eq_getD_getElem?] at s6
        clear ho
        have hI' := Lib.hid hI
        obtain ⟨q, i1, i2, i3, i4, i5, i6, i7⟩ := hI
        have j0 := blk_cell i6 0
        have j1 := blk_cell i6 1
        have j2 := blk_cell i6 2
        have j3 := blk_cell i6 3
        have j4 := blk_cell i6 4
        clear i1 i2 i3 i4 i5 i6 i7
        go_simp
        exact post_mk (hI'.out.next) (FL.of (Kp.refl _ _)) rfl
      · refine stepOK_of _ [7] rfl (by kernel_rfl) ?_ rfl
        intro t ρ W ht hc hf hn ho hI
        clear hn
        have s7 := ho.1
        simp only [Array.getD_eq_getD_getElem?] at s7
        clear ho
        have hI' := Lib.hid hI
        obtain ⟨q, e1, e2, e3, e4, e5, e6, ⟨p1, g1, c1, v1, s1, d1, hb⟩⟩ := hI
        have j0 := blk_cell hb 0
        have j1 := blk_cell hb 1
        have j2 := blk_cell hb 2
        have j3 := blk_cell hb 3
        have j4 := blk_cell hb 4
        have j5 := blk_cell hb 5
        clear e1 e2 e3 e4 e5 e6 hb
        go_simp
        exact post_mk hI'.out.next (FL.of (Kp.refl _ _)) ⟨_, _, _, _, _, _, rfl⟩
      · refine stepOK_of _ [5] rfl (by kernel_rfl) ?_ rfl
        intro t ρ W ht hc hf hn ho hI
        clear hn
        have s5 := ho.1
        simp only [Array.getD_eq_getD_getElem?] at s5
        clear ho
        have hI' := Lib.hid hI
        clear hI
        go_simp
        exact post_mk (hI'.out.next) (FL.of (Kp.refl _ _)) rfl
      · refine stepOK_of _ [] rfl (by kernel_rfl) ?_ rfl
        intro t ρ W ht hc hf hn ho hI
        obtain ⟨u2, q2, s27⟩ := hn.1
        clear hn
        have q2 : u2 = _ := q2
        subst q2
        have s27 : ρ (.tmp 27) = _ := s27
        clear ho
        have hI' := Lib.hid hI
        clear hI
        go_simp
        obtain ⟨q, e1, e2, e3, e4⟩ := hI'.out
        refine (pick_c w W g q 4 e1 (by omega) (by simp at ht; omega) (by omega) (by omega)).mono ?_
        rintro e W2 ⟨r, rfl, ra, rb, hR, hK⟩
        exact endp_mk (post_mk (hI'.out.call (q2 := q + 1) hOO.out hR hK (by omega) (by omega)) (FL.of hK) ⟨r, rfl⟩)
      · refine stepOK_of _ [] rfl (by kernel_rfl) ?_ rfl
        intro t ρ W ht hc hf hn ho hI
        obtain ⟨u3, q3, s28⟩ := hn.1
        clear hn
        obtain ⟨r3, rfl⟩ := q3
        have s28 : ρ (.tmp 28) = _ := s28
        clear ho
        have hI' := Lib.hid hI
        clear hI
        go_simp
        exact post_mk hI'.out.next (FL.of (Kp.refl _ _)) ⟨_, rfl⟩
      · refine stepOK_of _ [2] rfl (by kernel_rfl) ?_ rfl
        intro t ρ W ht hc hf hn ho hI
        obtain ⟨u0, q0, s25⟩ := hn.1
        clear hn
        have q0 : u0 = _ := q0
        subst q0
        have s25 : ρ (.tmp 25) = _ := s25
        have s2 := ho.1
        simp only [Array.getD_eq_getD_getElem?] at s2
        clear ho
        have hI' := Lib.hid hI
        obtain ⟨q, e1, e2, e3, ⟨a1, a2, a3, a4, a5, hb⟩, e5, e6, e7⟩ := hI
        have j0 := blk_cell hb
        have j1 := blk_frozen hb
        go_simp
        have hO9 := hOO.out
        unfold HO at hO9
        have hb9 := blk_put (blk_put (blk_put (blk_put (blk_put hb 0 (.bool s)) 1 (.bool wt)) 2 (.bool ag)) 3 (.int .i64 ct)) 4 (.int .i64 nx)
        have hne : ∀ {A : Nat} {o : Obj}, A ≠ w.heap.size → W.heap[A]? = some o → (((((W.setCell ⟨w.heap.size, 0, none⟩ (.bool s)).setCell ⟨w.heap.size, 1, none⟩ (.bool wt)).setCell ⟨w.heap.size, 2, none⟩ (.bool ag)).setCell ⟨w.heap.size, 3, none⟩ (.int .i64 ct)).setCell ⟨w.heap.size, 4, none⟩ (.int .i64 nx)).heap[A]? = some o := fun hA ho => blk_set (blk_set (blk_set (blk_set (blk_set ho _ _ hA) _ _ hA) _ _ hA) _ _ hA) _ _ hA
        have hR9 : Rd w (((((W.setCell ⟨w.heap.size, 0, none⟩ (.bool s)).setCell ⟨w.heap.size, 1, none⟩ (.bool wt)).setCell ⟨w.heap.size, 2, none⟩ (.bool ag)).setCell ⟨w.heap.size, 3, none⟩ (.int .i64 ct)).setCell ⟨w.heap.size, 4, none⟩ (.int .i64 nx)) g q := (by repeat (first | (with_reducible assumption) | (with_reducible refine Rd.alloc ?_ _) | (with_reducible refine Rd.drew ?_) | (with_reducible refine Rd.drewN ?_ _) | (with_reducible refine Rd.own ?_ (by first | (simp; done) | (simp; omega) | omega) (by first | (simp; done) | (simp; omega) | omega) _)))
        have hL : FL g W (((((W.setCell ⟨w.heap.size, 0, none⟩ (.bool s)).setCell ⟨w.heap.size, 1, none⟩ (.bool wt)).setCell ⟨w.heap.size, 2, none⟩ (.bool ag)).setCell ⟨w.heap.size, 3, none⟩ (.int .i64 ct)).setCell ⟨w.heap.size, 4, none⟩ (.int .i64 nx)) := fun A cs hA hAc => by
          refine hne (fun e => ?_) hAc
          subst e
          rw [hb] at hAc
          cases hAc
        obtain ⟨b1, b2, b3, b4, b5, b6, b7⟩ := e5
        obtain ⟨d1, d2, d3, d4, d5, d6, d7⟩ := e7
        exact post_mk ⟨q, hR9, e2, by omega, ⟨_, _, _, _, _, hb9⟩, ⟨b1, b2, b3, b4, b5, b6, hne (by omega) b7⟩, hne (by omega) e6, ⟨d1, d2, d3, d4, d5, d6, hne (by omega) d7⟩⟩ hL trivial
      · refine stepOK_of _ [3] rfl (by kernel_rfl) ?_ rfl
        intro t ρ W ht hc hf hn ho hI
        obtain ⟨u1, q1, s26⟩ := hn.1
        clear hn
        obtain ⟨p9, g9, c9, v9, s9, d9, rfl⟩ := q1
        have s26 : ρ (.tmp 26) = _ := s26
        have s3 := ho.1
        simp only [Array.getD_eq_getD_getElem?] at s3
        clear ho
        have hI' := Lib.hid hI
        obtain ⟨q, e1, e2, e3, e4, ⟨p1, g1, c1, v1, s1, d1, hb⟩, e6, e7⟩ := hI
        have j0 := blk_cell hb
        have j1 := blk_frozen hb
        go_simp
        have hO9 := hOO.out
        unfold HO at hO9
        have hb9 := blk_put (blk_put (blk_put (blk_put (blk_put (blk_put hb 0 (.bool p9)) 1 (.bool g9)) 2 (.int .i64 c9)) 3 (.int .i64 v9)) 4 (.int .i64 s9)) 5 (.string d9)
        have hne : ∀ {A : Nat} {o : Obj}, A ≠ (w.heap.size + 1) → W.heap[A]? = some o → ((((((W.setCell ⟨w.heap.size + 1, 0, none⟩ (.bool p9)).setCell ⟨w.heap.size + 1, 1, none⟩ (.bool g9)).setCell ⟨w.heap.size + 1, 2, none⟩ (.int .i64 c9)).setCell ⟨w.heap.size + 1, 3, none⟩ (.int .i64 v9)).setCell ⟨w.heap.size + 1, 4, none⟩ (.int .i64 s9)).setCell ⟨w.heap.size + 1, 5, none⟩ (.string d9)).heap[A]? = some o := fun hA ho => blk_set (blk_set (blk_set (blk_set (blk_set (blk_set ho _ _ hA) _ _ hA) _ _ hA) _ _ hA) _ _ hA) _ _ hA
        have hR9 : Rd w ((((((W.setCell ⟨w.heap.size + 1, 0, none⟩ (.bool p9)).setCell ⟨w.heap.size + 1, 1, none⟩ (.bool g9)).setCell ⟨w.heap.size + 1, 2, none⟩ (.int .i64 c9)).setCell ⟨w.heap.size + 1, 3, none⟩ (.int .i64 v9)).setCell ⟨w.heap.size + 1, 4, none⟩ (.int .i64 s9)).setCell ⟨w.heap.size + 1, 5, none⟩ (.string d9)) g q := (by repeat (first | (with_reducible assumption) | (with_reducible refine Rd.alloc ?_ _) | (with_reducible refine Rd.drew ?_) | (with_reducible refine Rd.drewN ?_ _) | (with_reducible refine Rd.own ?_ (by first | (simp; done) | (simp; omega) | omega) (by first | (simp; done) | (simp; omega) | omega) _)))
        have hL : FL g W ((((((W.setCell ⟨w.heap.size + 1, 0, none⟩ (.bool p9)).setCell ⟨w.heap.size + 1, 1, none⟩ (.bool g9)).setCell ⟨w.heap.size + 1, 2, none⟩ (.int .i64 c9)).setCell ⟨w.heap.size + 1, 3, none⟩ (.int .i64 v9)).setCell ⟨w.heap.size + 1, 4, none⟩ (.int .i64 s9)).setCell ⟨w.heap.size + 1, 5, none⟩ (.string d9)) := fun A cs hA hAc => by
          refine hne (fun e => ?_) hAc
          subst e
          rw [hb] at hAc
          cases hAc
        obtain ⟨b1, b2, b3, b4, b5, b6⟩ := e4
        obtain ⟨f1, f2, f3, f4, f5, f6, f7⟩ := e7
        exact post_mk ⟨q, hR9, e2, by omega, ⟨b1, b2, b3, b4, b5, hne (by omega) b6⟩, ⟨_, _, _, _, _, _, hb9⟩, hne (by omega) e6, ⟨f1, f2, f3, f4, f5, f6, hne (by omega) f7⟩⟩ hL trivial
      · refine stepOK_of _ [] rfl (by kernel_rfl) ?_ rfl
        intro t ρ W ht hc hf hn ho hI
        obtain ⟨u4, q4, s29⟩ := hn.1
        clear hn
        obtain ⟨b4, rfl⟩ := q4
        have s29 : ρ (.tmp 29) = _ := s29
        clear ho
        have hI' := Lib.hid hI
        clear hI
        go_simp
        exact post_mk hI'.out.next (FL.of (Kp.refl _ _)) ⟨_, rfl⟩
    case hst => exact vv_stable ⟨isV_st, fun _ _ _ _ h => h, isV_st, fun _ _ _ _ h => h, fun _ _ _ _ h => h, fun _ _ _ _ h => h, fun _ _ _ _ h => h, fun _ _ _ _ h => h, trivial⟩
    intro vs W hlen hI hV
    obtain ⟨x0, x1, x2, x3, x4, x5, x6, x7, rfl⟩ := list_len8_D9 vs hlen
    have y0 : x0 = _ := hV 0 _ rfl
    subst y0
    have y1 := hV 1 _ rfl
    obtain ⟨p9, g9, c9, v9, s9, d9, rfl⟩ := y1
    have y2 : x2 = _ := hV 2 _ rfl
    subst y2
    have y3 := hV 3 _ rfl
    obtain ⟨r3, rfl⟩ := y3
    have y4 := hV 4 _ rfl
    obtain ⟨b4, rfl⟩ := y4
    have y5 := hV 5 _ rfl
    have y6 := hV 6 _ rfl
    have y7 := hV 7 _ rfl
    obtain ⟨b7, rfl⟩ := y7
    clear hV hlen
    simp only [Exit.then, putAll, Act.put, List.setIfInBounds_toArray, List.set_cons_zero, List.set_cons_succ]
    clear hI4
    obtain ⟨q, e1, e2, e3, ⟨a1, a2, a3, a4, a5, hb⟩, ⟨b1, b2, b3, b4, b5, b6, hc⟩, e6, e7⟩ := hI
    have hlt1 : w.heap.size < W.heap.size := (Array.getElem?_eq_some_iff.1 hb).1
    have hlt2 : w.heap.size + 1 < W.heap.size := (Array.getElem?_eq_some_iff.1 hc).1
    have kb := fun o => blk_cell hb o
    have kf := fun o => blk_frozen hb o
    clear hb
    have kc := fun o => blk_cell hc o
    have kg := fun o => blk_frozen hc o
    clear hc
    go_wp2_with fail
    exact bodyPost_ret (v := .tuple #[.agg #[.bool a1, .bool a2, .bool a3, .int .i64 a4, .int .i64 a5], .agg #[.bool b1, .bool b2, .int .i64 b3, .int .i64 b4, .int .i64 b5, .string b6], .bool b7]) (by simp [results, Try.results28, go_sem, kb, kc, hlt1, hlt2]) rfl ⟨_, rfl, ⟨⟨_, _, _, _, _⟩, ⟨_, _, _, _, _, _⟩, _, rfl⟩, e1.bel⟩

end Go.Proofs.Ytcbbebhjddphfaa
