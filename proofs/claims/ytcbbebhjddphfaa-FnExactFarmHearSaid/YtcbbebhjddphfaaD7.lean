/- What draws: a frame. -/
import Derived.Test.YtcbbebhjddphfaaD6
namespace Go.Proofs.Ytcbbebhjddphfaa
open Go.RowKit
set_option linter.unusedSimpArgs false
set_option linter.unusedVariables false

theorem list_len29 : ∀ (l : List Value), l.length = 29 → ∃ x0 x1 x2 x3 x4 x5 x6 x7 x8 x9 x10 x11 x12 x13 x14 x15 x16 x17 x18 x19 x20 x21 x22 x23 x24 x25 x26 x27 x28, l = x0 :: x1 :: x2 :: x3 :: x4 :: x5 :: x6 :: x7 :: x8 :: x9 :: x10 :: x11 :: x12 :: x13 :: x14 :: x15 :: x16 :: x17 :: x18 :: x19 :: x20 :: x21 :: x22 :: x23 :: x24 :: x25 :: x26 :: x27 :: x28 :: []
  | x0 :: x1 :: x2 :: x3 :: x4 :: x5 :: x6 :: x7 :: x8 :: x9 :: x10 :: x11 :: x12 :: x13 :: x14 :: x15 :: x16 :: x17 :: x18 :: x19 :: x20 :: x21 :: x22 :: x23 :: x24 :: x25 :: x26 :: x27 :: x28 :: [], _ => ⟨x0, x1, x2, x3, x4, x5, x6, x7, x8, x9, x10, x11, x12, x13, x14, x15, x16, x17, x18, x19, x20, x21, x22, x23, x24, x25, x26, x27, x28, rfl⟩

def IV (lo hi : Int) (v : Value) (_ : World) : Prop := ∃ r : Int, v = .int .i64 r ∧ lo ≤ r ∧ r ≤ hi
def StrV (v : Value) (_ : World) : Prop := ∃ s : ByteArray, v = .string s ∧ s.size ≤ 1500
def StrV2 (v : Value) (_ : World) : Prop := ∃ s : ByteArray, v = .string s ∧ s.size ≤ 2000
/-- A list of three numbers, of the call's own. -/
def L3 (g : Nat) (v : Value) (W : World) : Prop := ∃ (A : Nat) (a b c : Int), v = .slice (some ⟨A, 0, none⟩) 3 3 ∧ A ≠ g ∧ W.heap[A]? = some (.cells #[.int .i64 a, .int .i64 b, .int .i64 c] 3 (0, 0))
def P3 (g : Nat) (v : Value) (W : World) : Prop := ∃ (A k : Nat) (a b c : Int), v = .pointer (some ⟨A, k, none⟩) ∧ k < 3 ∧ A ≠ g ∧ W.heap[A]? = some (.cells #[.int .i64 a, .int .i64 b, .int .i64 c] 3 (0, 0))
def FrB (W : World) (B : Nat) : Prop := ∃ (p q : Bool) (c v s : Int) (d : ByteArray), d.size ≤ 4000 ∧ W.heap[B]? = some (.cells #[.bool p, .bool q, .int .i64 c, .int .i64 v, .int .i64 s, .string d] 31 (0, 0))
def BoxV (w : World) (g : Nat) (v : Value) (W : World) : Prop := ∃ B : Nat, v = .pointer (some ⟨B, 0, none⟩) ∧ B ≠ g ∧ w.heap.size < B ∧ FrB W B
/-- Lists stay; what is a frame stays one. -/
def FR (g : Nat) (W1 W2 : World) : Prop := (∀ A cs, A ≠ g → W1.heap[A]? = some (.cells cs 3 (0, 0)) → W2.heap[A]? = some (.cells cs 3 (0, 0))) ∧ ∀ B, B ≠ g → FrB W1 B → FrB W2 B
theorem FR.of {g : Nat} {W1 W2 : World} (h : Kp g W1 W2) : FR g W1 W2 :=
  ⟨fun A cs hne hA => h.blk hA hne, fun B hne hB => by
    obtain ⟨p, q, c, v, s, d, hd, hb⟩ := hB
    exact ⟨p, q, c, v, s, d, hd, h.blk hb hne⟩⟩
theorem l3_st {g : Nat} : StableV (FR g) (L3 g) := fun v W1 W2 hR h => by
  obtain ⟨A, a, b, c, e, hne, hA⟩ := h
  exact ⟨A, a, b, c, e, hne, hR.1 A _ hne hA⟩
theorem p3_st {g : Nat} : StableV (FR g) (P3 g) := fun v W1 W2 hR h => by
  obtain ⟨A, k, a, b, c, e, hk, hne, hA⟩ := h
  exact ⟨A, k, a, b, c, e, hk, hne, hR.1 A _ hne hA⟩
theorem box_st {w : World} {g : Nat} : StableV (FR g) (BoxV w g) := fun v W1 W2 hR h => by
  obtain ⟨B, e, hne, hlt, hB⟩ := h
  exact ⟨B, e, hne, hlt, hR.2 B hne hB⟩
def zfr : Array Value := #[.bool false, .bool false, .int .i64 0, .int .i64 0, .int .i64 0, .string ⟨#[]⟩]
def FI (w0 w : World) (g : Nat) (p : Int) (t : Nat) (W : World) : Prop := ∃ q, Rd w0 W g q ∧ p ≤ q ∧ q ≤ p + 100 * t ∧ Kp g w W ∧ W.heap[w.heap.size]? = some (.cells zfr 31 (0, 0)) ∧ g < w.heap.size
theorem FI.next {w0 w W : World} {g t : Nat} {p : Int} (h : FI w0 w g p t W) : FI w0 w g p (t + 1) W := by
  obtain ⟨q, h1, h2, h3, h4⟩ := h
  exact ⟨q, h1, h2, by omega, h4⟩
theorem FI.alloc {w0 w W : World} {g t : Nat} {p : Int} (h : FI w0 w g p t W) (o : Obj) : FI w0 w g p (t + 1) (W.alloc o) := by
  obtain ⟨q, h1, h2, h3, h4, h5, h6⟩ := h
  exact ⟨q, h1.alloc _, h2, by omega, h4.alloc _, heap_up h5 _, h6⟩
theorem FI.call {w0 w W W2 : World} {g t : Nat} {p q q2 : Int} (h : FI w0 w g p t W) (h1 : Rd w0 W2 g q2) (h2 : Kp g W W2) (h3 : p ≤ q2) (h4 : q2 ≤ p + 100 * (t + 1)) : FI w0 w g p (t + 1) W2 := by
  obtain ⟨q, e1, e2, e3, e4, e5, e6⟩ := h
  exact ⟨q2, h1, h3, by omega, e4.trans h2, h2.blk e5 (by omega), e6⟩
theorem FI.gt {w0 w W : World} {g t : Nat} {p : Int} (h : FI w0 w g p t W) : g < W.heap.size ∧ w.heap.size < W.heap.size := by
  obtain ⟨q, e1, e2, e3, e4, e5, e6⟩ := h
  exact ⟨e1.lt, (Array.getElem?_eq_some_iff.1 e5).1⟩
def IsFr (v : Value) : Prop := ∃ f : Fr, v = f.v
set_option maxHeartbeats 8000000 in
set_option maxRecDepth 100000 in
theorem frame_d (w0 w : World) (g : Nat) (p : Int) (h : Rd w0 w g p) (h0 : 0 ≤ p) (h1 : p ≤ 600000000000) : Calls Try.prog 69 #[.pointer (some ⟨g, 0, none⟩)] w (Dr w0 w g p 10000 IsFr) := by
  have hg := h.lt
  have hw0 := h.bel.size
  have hI0 : FI w0 w g p 0 (w.alloc (.cells zfr 31)) := ⟨p, h.alloc _, by omega, by omega, (Kp.refl _ _).alloc _, heap_top _ _ rfl, hg⟩
  have hI0 := Lib.hid hI0
  go_enter Try.func69, Try.ntmps69
  go_wp2_with fail
  apply region_inv (VV [(L3 g), IsV _, (IV 0 7), (IV 0 21), (IV 0 2), (P3 g), (fun v _ => IsI v), (L3 g), IsV _, (IV 0 7), (IV 0 21), (IV 0 2), (P3 g), (fun v _ => IsI v), IsV _, (IV 0 11), IsV _, (IV 0 255), (L3 g), IsV _, (IV 0 2), (P3 g), (fun v _ => IsI v), IsV _, (StrV), (StrV2), (fun v _ => ∃ (c v' s : Int) (d : ByteArray), v = .agg #[.bool false, .bool false, .int .i64 c, .int .i64 v', .int .i64 s, .string d] ∧ d.size ≤ 4000), (BoxV w g), (AnyV)]) (FI w0 w g p) (FR g) (by kernel_rfl) 52 rfl (by kernel_rfl)
  case h0 =>
    obtain ⟨q, e1, e2, e3, e4, e5, e6⟩ := hI0.out
    exact ⟨q, e1.drew, e2, e3, e4.drew, e5, e6⟩
  case hsteps =>
    refine ⟨?_, ?_, ?_, ?_, ?_, ?_, ?_, ?_, ?_, ?_, ?_, ?_, ?_, ?_, ?_, ?_, ?_, ?_, ?_, ?_, ?_, ?_, ?_, ?_, ?_, ?_, ?_, ?_, ?_, trivial⟩
    · refine stepOK_of _ [] rfl (by kernel_rfl) ?_ rfl
      intro t ρ W ht hc hf hn ho hI
      clear hn
      clear ho
      have hI' := Lib.hid hI
      clear hI
      go_simp
      exact post_mk (hI'.out.alloc _) (FR.of ((Kp.refl _ _).alloc _)) ⟨_, _, _, _, rfl, by have := hI'.out.gt; omega, heap_top _ _ rfl⟩
    · refine stepOK_of _ [0] rfl (by kernel_rfl) ?_ rfl
      intro t ρ W ht hc hf hn ho hI
      clear hn
      have s0 := ho.1
      simp only [Array.getD_eq_getD_getElem?] at s0
      clear ho
      have hI' := Lib.hid hI
      clear hI
      go_simp
      exact post_mk (hI'.out.next) (FR.of (Kp.refl _ _)) rfl
    · refine stepOK_of _ [] rfl (by kernel_rfl) ?_ rfl
      intro t ρ W ht hc hf hn ho hI
      obtain ⟨u1, q1, s5⟩ := hn.1
      clear hn
      have q1 : u1 = _ := q1
      subst q1
      have s5 : ρ (.tmp 5) = _ := s5
      clear ho
      have hI' := Lib.hid hI
      clear hI
      go_simp
      obtain ⟨q, e1, e2, e3, e4, e5, e6⟩ := hI'.out
      refine (pick_c w0 W g q 8 e1 (by omega) (by simp at ht; omega) (by omega) (by omega)).mono ?_
      rintro e W2 ⟨r, rfl, ra, rb, hR, hK⟩
      exact endp_mk (post_mk (hI'.out.call (q := q) hR hK (by omega) (by omega)) (FR.of hK) ⟨r, rfl, by omega, by omega⟩)
    · refine stepOK_of _ [] rfl (by kernel_rfl) ?_ rfl
      intro t ρ W ht hc hf hn ho hI
      obtain ⟨u2, q2, s6⟩ := hn.1
      clear hn
      obtain ⟨r2, rfl, ra2, rb2⟩ := q2
      have s6 : ρ (.tmp 6) = _ := s6
      clear ho
      have hI' := Lib.hid hI
      clear hI
      have e1 : IntKind.i64.wrap (r2 * 3) = r2 * 3 := wr (by omega) (by omega)
      go_simp
      exact post_mk hI'.out.next (FR.of (Kp.refl _ _)) ⟨_, rfl, by omega, by omega⟩
    · refine stepOK_of _ [] rfl (by kernel_rfl) ?_ rfl
      intro t ρ W ht hc hf hn ho hI
      obtain ⟨u3, q3, s7⟩ := hn.1
      clear hn
      obtain ⟨r3, rfl, ra3, rb3⟩ := q3
      have s7 : ρ (.tmp 7) = _ := s7
      clear ho
      have hI' := Lib.hid hI
      clear hI
      have e1 : r3.tdiv 8 = r3 / 8 := Int.tdiv_eq_ediv_of_nonneg (by omega)
      have e2 : IntKind.i64.wrap (r3 / 8) = r3 / 8 := wr (by omega) (by omega)
      go_simp
      exact post_mk hI'.out.next (FR.of (Kp.refl _ _)) ⟨_, rfl, by omega, by omega⟩
    · refine stepOK_of _ [] rfl (by kernel_rfl) ?_ rfl
      intro t ρ W ht hc hf hn ho hI
      obtain ⟨u0, q0, s4⟩ := hn.1
      obtain ⟨u4, q4, s8⟩ := hn.2.1
      clear hn
      obtain ⟨A0, a0, b0, c0, rfl, hn0, hA0⟩ := q0
      have s4 : ρ (.tmp 4) = _ := s4
      obtain ⟨r4, rfl, ra4, rb4⟩ := q4
      have s8 : ρ (.tmp 8) = _ := s8
      clear ho
      have hI' := Lib.hid hI
      clear hI
      have hr0 : r4.toNat < 3 := by omega
      have hr1 : r4 < 3 := by omega
      go_simp
      exact post_mk hI'.out.next (FR.of (Kp.refl _ _)) ⟨_, _, _, _, _, rfl, hr0, hn0, hA0⟩
    · refine stepOK_of _ [] rfl (by kernel_rfl) ?_ rfl
      intro t ρ W ht hc hf hn ho hI
      obtain ⟨u5, q5, s9⟩ := hn.1
      clear hn
      obtain ⟨A5, k5, a5, b5, c5, rfl, hk5, hn5, hA5⟩ := q5
      have s9 : ρ (.tmp 9) = _ := s9
      clear ho
      have hI' := Lib.hid hI
      clear hI
      have j0 := blk_cell hA5
      obtain ⟨x, hx⟩ : ∃ x : Int, W.cell? ⟨A5, k5, none⟩ = some (.int .i64 x) := by
        rw [j0]
        rcases (by omega : k5 = 0 ∨ k5 = 1 ∨ k5 = 2) with rfl | rfl | rfl <;> exact ⟨_, rfl⟩
      clear j0
      go_simp
      exact post_mk hI'.out.next (FR.of (Kp.refl _ _)) ⟨x, rfl⟩
    · refine stepOK_of _ [] rfl (by kernel_rfl) ?_ rfl
      intro t ρ W ht hc hf hn ho hI
      clear hn
      clear ho
      have hI' := Lib.hid hI
      clear hI
      go_simp
      exact post_mk (hI'.out.alloc _) (FR.of ((Kp.refl _ _).alloc _)) ⟨_, _, _, _, rfl, by have := hI'.out.gt; omega, heap_top _ _ rfl⟩
    · refine stepOK_of _ [0] rfl (by kernel_rfl) ?_ rfl
      intro t ρ W ht hc hf hn ho hI
      clear hn
      have s0 := ho.1
      simp only [Array.getD_eq_getD_getElem?] at s0
      clear ho
      have hI' := Lib.hid hI
      clear hI
      go_simp
      exact post_mk (hI'.out.next) (FR.of (Kp.refl _ _)) rfl
    · refine stepOK_of _ [] rfl (by kernel_rfl) ?_ rfl
      intro t ρ W ht hc hf hn ho hI
      obtain ⟨u8, q8, s12⟩ := hn.1
      clear hn
      have q8 : u8 = _ := q8
      subst q8
      have s12 : ρ (.tmp 12) = _ := s12
      clear ho
      have hI' := Lib.hid hI
      clear hI
      go_simp
      obtain ⟨q, e1, e2, e3, e4, e5, e6⟩ := hI'.out
      refine (pick_c w0 W g q 8 e1 (by omega) (by simp at ht; omega) (by omega) (by omega)).mono ?_
      rintro e W2 ⟨r, rfl, ra, rb, hR, hK⟩
      exact endp_mk (post_mk (hI'.out.call (q := q) hR hK (by omega) (by omega)) (FR.of hK) ⟨r, rfl, by omega, by omega⟩)
    · refine stepOK_of _ [] rfl (by kernel_rfl) ?_ rfl
      intro t ρ W ht hc hf hn ho hI
      obtain ⟨u9, q9, s13⟩ := hn.1
      clear hn
      obtain ⟨r9, rfl, ra9, rb9⟩ := q9
      have s13 : ρ (.tmp 13) = _ := s13
      clear ho
      have hI' := Lib.hid hI
      clear hI
      have e1 : IntKind.i64.wrap (r9 * 3) = r9 * 3 := wr (by omega) (by omega)
      go_simp
      exact post_mk hI'.out.next (FR.of (Kp.refl _ _)) ⟨_, rfl, by omega, by omega⟩
    · refine stepOK_of _ [] rfl (by kernel_rfl) ?_ rfl
      intro t ρ W ht hc hf hn ho hI
      obtain ⟨u10, q10, s14⟩ := hn.1
      clear hn
      obtain ⟨r10, rfl, ra10, rb10⟩ := q10
      have s14 : ρ (.tmp 14) = _ := s14
      clear ho
      have hI' := Lib.hid hI
      clear hI
      have e1 : r10.tdiv 8 = r10 / 8 := Int.tdiv_eq_ediv_of_nonneg (by omega)
      have e2 : IntKind.i64.wrap (r10 / 8) = r10 / 8 := wr (by omega) (by omega)
      go_simp
      exact post_mk hI'.out.next (FR.of (Kp.refl _ _)) ⟨_, rfl, by omega, by omega⟩
    · refine stepOK_of _ [] rfl (by kernel_rfl) ?_ rfl
      intro t ρ W ht hc hf hn ho hI
      obtain ⟨u7, q7, s11⟩ := hn.1
      obtain ⟨u11, q11, s15⟩ := hn.2.1
      clear hn
      obtain ⟨A7, a7, b7, c7, rfl, hn7, hA7⟩ := q7
      have s11 : ρ (.tmp 11) = _ := s11
      obtain ⟨r11, rfl, ra11, rb11⟩ := q11
      have s15 : ρ (.tmp 15) = _ := s15
      clear ho
      have hI' := Lib.hid hI
      clear hI
      have hr0 : r11.toNat < 3 := by omega
      have hr1 : r11 < 3 := by omega
      go_simp
      exact post_mk hI'.out.next (FR.of (Kp.refl _ _)) ⟨_, _, _, _, _, rfl, hr0, hn7, hA7⟩
    · refine stepOK_of _ [] rfl (by kernel_rfl) ?_ rfl
      intro t ρ W ht hc hf hn ho hI
      obtain ⟨u12, q12, s16⟩ := hn.1
      clear hn
      obtain ⟨A12, k12, a12, b12, c12, rfl, hk12, hn12, hA12⟩ := q12
      have s16 : ρ (.tmp 16) = _ := s16
      clear ho
      have hI' := Lib.hid hI
      clear hI
      have j0 := blk_cell hA12
      obtain ⟨x, hx⟩ : ∃ x : Int, W.cell? ⟨A12, k12, none⟩ = some (.int .i64 x) := by
        rw [j0]
        rcases (by omega : k12 = 0 ∨ k12 = 1 ∨ k12 = 2) with rfl | rfl | rfl <;> exact ⟨_, rfl⟩
      clear j0
      go_simp
      exact post_mk hI'.out.next (FR.of (Kp.refl _ _)) ⟨x, rfl⟩
    · refine stepOK_of _ [0] rfl (by kernel_rfl) ?_ rfl
      intro t ρ W ht hc hf hn ho hI
      clear hn
      have s0 := ho.1
      simp only [Array.getD_eq_getD_getElem?] at s0
      clear ho
      have hI' := Lib.hid hI
      clear hI
      go_simp
      exact post_mk (hI'.out.next) (FR.of (Kp.refl _ _)) rfl
    · refine stepOK_of _ [] rfl (by kernel_rfl) ?_ rfl
      intro t ρ W ht hc hf hn ho hI
      obtain ⟨u14, q14, s18⟩ := hn.1
      clear hn
      have q14 : u14 = _ := q14
      subst q14
      have s18 : ρ (.tmp 18) = _ := s18
      clear ho
      have hI' := Lib.hid hI
      clear hI
      go_simp
      obtain ⟨q, e1, e2, e3, e4, e5, e6⟩ := hI'.out
      refine (pick_c w0 W g q 12 e1 (by omega) (by simp at ht; omega) (by omega) (by omega)).mono ?_
      rintro e W2 ⟨r, rfl, ra, rb, hR, hK⟩
      exact endp_mk (post_mk (hI'.out.call (q := q) hR hK (by omega) (by omega)) (FR.of hK) ⟨r, rfl, by omega, by omega⟩)
    · refine stepOK_of _ [0] rfl (by kernel_rfl) ?_ rfl
      intro t ρ W ht hc hf hn ho hI
      clear hn
      have s0 := ho.1
      simp only [Array.getD_eq_getD_getElem?] at s0
      clear ho
      have hI' := Lib.hid hI
      clear hI
      go_simp
      exact post_mk (hI'.out.next) (FR.of (Kp.refl _ _)) rfl
    · refine stepOK_of _ [] rfl (by kernel_rfl) ?_ rfl
      intro t ρ W ht hc hf hn ho hI
      obtain ⟨u16, q16, s20⟩ := hn.1
      clear hn
      have q16 : u16 = _ := q16
      subst q16
      have s20 : ρ (.tmp 20) = _ := s20
      clear ho
      have hI' := Lib.hid hI
      clear hI
      go_simp
      obtain ⟨q, e1, e2, e3, e4, e5, e6⟩ := hI'.out
      refine (pick_c w0 W g q 256 e1 (by omega) (by simp at ht; omega) (by omega) (by omega)).mono ?_
      rintro e W2 ⟨r, rfl, ra, rb, hR, hK⟩
      exact endp_mk (post_mk (hI'.out.call (q := q) hR hK (by omega) (by omega)) (FR.of hK) ⟨r, rfl, by omega, by omega⟩)
    · refine stepOK_of _ [] rfl (by kernel_rfl) ?_ rfl
      intro t ρ W ht hc hf hn ho hI
      obtain ⟨u15, q15, s19⟩ := hn.1
      obtain ⟨u17, q17, s21⟩ := hn.2.1
      clear hn
      obtain ⟨r15, rfl, ra15, rb15⟩ := q15
      have s19 : ρ (.tmp 19) = _ := s19
      obtain ⟨r17, rfl, ra17, rb17⟩ := q17
      have s21 : ρ (.tmp 21) = _ := s21
      clear ho
      have hI' := Lib.hid hI
      clear hI
      go_simp
      exact post_mk (hI'.out.alloc _) (FR.of ((Kp.refl _ _).alloc _)) ⟨_, _, _, _, rfl, by have := hI'.out.gt; omega, heap_top _ _ rfl⟩
    · refine stepOK_of _ [0] rfl (by kernel_rfl) ?_ rfl
      intro t ρ W ht hc hf hn ho hI
      clear hn
      have s0 := ho.1
      simp only [Array.getD_eq_getD_getElem?] at s0
      clear ho
      have hI' := Lib.hid hI
      clear hI
      go_simp
      exact post_mk (hI'.out.next) (FR.of (Kp.refl _ _)) rfl
    · refine stepOK_of _ [] rfl (by kernel_rfl) ?_ rfl
      intro t ρ W ht hc hf hn ho hI
      obtain ⟨u19, q19, s23⟩ := hn.1
      clear hn
      have q19 : u19 = _ := q19
      subst q19
      have s23 : ρ (.tmp 23) = _ := s23
      clear ho
      have hI' := Lib.hid hI
      clear hI
      go_simp
      obtain ⟨q, e1, e2, e3, e4, e5, e6⟩ := hI'.out
      refine (pick_c w0 W g q 3 e1 (by omega) (by simp at ht; omega) (by omega) (by omega)).mono ?_
      rintro e W2 ⟨r, rfl, ra, rb, hR, hK⟩
      exact endp_mk (post_mk (hI'.out.call (q := q) hR hK (by omega) (by omega)) (FR.of hK) ⟨r, rfl, by omega, by omega⟩)
    · refine stepOK_of _ [] rfl (by kernel_rfl) ?_ rfl
      intro t ρ W ht hc hf hn ho hI
      obtain ⟨u18, q18, s22⟩ := hn.1
      obtain ⟨u20, q20, s24⟩ := hn.2.1
      clear hn
      obtain ⟨A18, a18, b18, c18, rfl, hn18, hA18⟩ := q18
      have s22 : ρ (.tmp 22) = _ := s22
      obtain ⟨r20, rfl, ra20, rb20⟩ := q20
      have s24 : ρ (.tmp 24) = _ := s24
      clear ho
      have hI' := Lib.hid hI
      clear hI
      have hr0 : r20.toNat < 3 := by omega
      have hr1 : r20 < 3 := by omega
      go_simp
      exact post_mk hI'.out.next (FR.of (Kp.refl _ _)) ⟨_, _, _, _, _, rfl, hr0, hn18, hA18⟩
    · refine stepOK_of _ [] rfl (by kernel_rfl) ?_ rfl
      intro t ρ W ht hc hf hn ho hI
      obtain ⟨u21, q21, s25⟩ := hn.1
      clear hn
      obtain ⟨A21, k21, a21, b21, c21, rfl, hk21, hn21, hA21⟩ := q21
      have s25 : ρ (.tmp 25) = _ := s25
      clear ho
      have hI' := Lib.hid hI
      clear hI
      have j0 := blk_cell hA21
      obtain ⟨x, hx⟩ : ∃ x : Int, W.cell? ⟨A21, k21, none⟩ = some (.int .i64 x) := by
        rw [j0]
        rcases (by omega : k21 = 0 ∨ k21 = 1 ∨ k21 = 2) with rfl | rfl | rfl <;> exact ⟨_, rfl⟩
      clear j0
      go_simp
      exact post_mk hI'.out.next (FR.of (Kp.refl _ _)) ⟨x, rfl⟩
    · refine stepOK_of _ [0] rfl (by kernel_rfl) ?_ rfl
      intro t ρ W ht hc hf hn ho hI
      clear hn
      have s0 := ho.1
      simp only [Array.getD_eq_getD_getElem?] at s0
      clear ho
      have hI' := Lib.hid hI
      clear hI
      go_simp
      exact post_mk (hI'.out.next) (FR.of (Kp.refl _ _)) rfl
    · refine stepOK_of _ [] rfl (by kernel_rfl) ?_ rfl
      intro t ρ W ht hc hf hn ho hI
      obtain ⟨u23, q23, s27⟩ := hn.1
      clear hn
      have q23 : u23 = _ := q23
      subst q23
      have s27 : ρ (.tmp 27) = _ := s27
      clear ho
      have hI' := Lib.hid hI
      clear hI
      go_simp
      obtain ⟨q, e1, e2, e3, e4, e5, e6⟩ := hI'.out
      refine (text_d w0 W g q 20 e1 (by omega) (by simp at ht; omega) (by omega) (by omega)).mono ?_
      rintro e W2 ⟨v, q2, rfl, ⟨s, rfl, hs⟩, hq1, hq2, hR, hK⟩
      exact endp_mk (post_mk (hI'.out.call (q := q) hR hK (by omega) (by omega)) (FR.of hK) ⟨s, rfl, by omega⟩)
    · refine stepOK_of _ [] rfl (by kernel_rfl) ?_ rfl
      intro t ρ W ht hc hf hn ho hI
      obtain ⟨u24, q24, s28⟩ := hn.1
      clear hn
      obtain ⟨s24, rfl, hs24⟩ := q24
      have s28 : ρ (.tmp 28) = _ := s28
      clear ho
      have hI' := Lib.hid hI
      clear hI
      have z1 : ¬ (9223372036854775807 < 1 + s24.size) := by omega
      go_simp
      exact post_mk hI'.out.next (FR.of (Kp.refl _ _)) ⟨_, rfl, by rw [ByteArray.size_append]; have : (⟨#[100]⟩ : ByteArray).size = 1 := rfl; omega⟩
    · refine stepOK_of _ [] rfl (by kernel_rfl) ?_ rfl
      intro t ρ W ht hc hf hn ho hI
      obtain ⟨u6, q6, s10⟩ := hn.1
      obtain ⟨u13, q13, s17⟩ := hn.2.1
      obtain ⟨u22, q22, s26⟩ := hn.2.2.1
      obtain ⟨u25, q25, s29⟩ := hn.2.2.2.1
      clear hn
      obtain ⟨r6, rfl⟩ := q6
      have s10 : ρ (.tmp 10) = _ := s10
      obtain ⟨r13, rfl⟩ := q13
      have s17 : ρ (.tmp 17) = _ := s17
      obtain ⟨r22, rfl⟩ := q22
      have s26 : ρ (.tmp 26) = _ := s26
      obtain ⟨s25, rfl, hs25⟩ := q25
      have s29 : ρ (.tmp 29) = _ := s29
      clear ho
      have hI' := Lib.hid hI
      clear hI
      go_simp
      exact post_mk hI'.out.next (FR.of (Kp.refl _ _)) ⟨_, _, _, _, rfl, by omega⟩
    · refine stepOK_of _ [] rfl (by kernel_rfl) ?_ rfl
      intro t ρ W ht hc hf hn ho hI
      clear hn
      clear ho
      have hI' := Lib.hid hI
      clear hI
      go_simp
      exact post_mk (hI'.out.alloc _) (FR.of ((Kp.refl _ _).alloc _)) ⟨_, rfl, by have := hI'.out.gt; omega, hI'.out.gt.2, _, _, _, _, _, _, by decide, heap_top _ _ rfl⟩
    · refine stepOK_of _ [] rfl (by kernel_rfl) ?_ rfl
      intro t ρ W ht hc hf hn ho hI
      obtain ⟨u27, q27, s3⟩ := hn.1
      obtain ⟨u26, q26, s30⟩ := hn.2.1
      clear hn
      obtain ⟨B, rfl, hnB, hltB, hB⟩ := q27
      have s3 : ρ (.tmp 3) = _ := s3
      obtain ⟨c26, v26, s26, d26, rfl, hd26⟩ := q26
      have s30 : ρ (.tmp 30) = _ := s30
      clear ho
      have hI' := Lib.hid hI
      clear hI
      obtain ⟨bp, bq, bc, bv, bs, bd, hbd, hb⟩ := hB
      have j0 := blk_cell hb
      have j1 := blk_frozen hb
      have hg1 := hI'.out.gt
      go_simp
      obtain ⟨q, e1, e2, e3, e4, e5, e6⟩ := hI'.out
      have h5 := blk_put (blk_put (blk_put (blk_put (blk_put (blk_put hb 0 (.bool false)) 1 (.bool false)) 2 (.int .i64 c26)) 3 (.int .i64 v26)) 4 (.int .i64 s26)) 5 (.string d26)
      have hK : Kp g w (((((((W.setCell ⟨B, 0, none⟩ (.bool false)).setCell ⟨B, 1, none⟩ (.bool false)).setCell ⟨B, 2, none⟩ (.int .i64 c26)).setCell ⟨B, 3, none⟩ (.int .i64 v26)).setCell ⟨B, 4, none⟩ (.int .i64 s26)).setCell ⟨B, 5, none⟩ (.string d26))) := (by repeat (first | (with_reducible assumption) | (with_reducible exact Kp.refl _ _) | (with_reducible refine Kp.alloc ?_ _) | (with_reducible refine Kp.drew ?_) | (with_reducible refine Kp.drewN ?_ _) | (with_reducible refine Kp.own ?_ (by first | (simp; done) | (simp; omega) | omega) _)))
      have hne : ∀ {A : Nat} {o : Obj}, A ≠ B → W.heap[A]? = some o → (((((((W.setCell ⟨B, 0, none⟩ (.bool false)).setCell ⟨B, 1, none⟩ (.bool false)).setCell ⟨B, 2, none⟩ (.int .i64 c26)).setCell ⟨B, 3, none⟩ (.int .i64 v26)).setCell ⟨B, 4, none⟩ (.int .i64 s26)).setCell ⟨B, 5, none⟩ (.string d26))).heap[A]? = some o :=
        fun hA ho => blk_set (blk_set (blk_set (blk_set (blk_set (blk_set ho _ _ hA) _ _ hA) _ _ hA) _ _ hA) _ _ hA) _ _ hA
      refine post_mk ⟨q, (by repeat (first | (with_reducible assumption) | (with_reducible refine Rd.alloc ?_ _) | (with_reducible refine Rd.drew ?_) | (with_reducible refine Rd.drewN ?_ _) | (with_reducible refine Rd.own ?_ (by first | (simp; done) | (simp; omega) | omega) (by first | (simp; done) | (simp; omega) | omega) _))), e2, by omega, hK, hne (by omega) e5, e6⟩ ⟨fun A cs hA hAc => ?_, fun B2 hB2 hFB => ?_⟩ trivial
      · refine hne (fun e => ?_) hAc
        subst e
        rw [hb] at hAc
        cases hAc
      · by_cases e : B2 = B
        · subst e
          exact ⟨_, _, _, _, _, _, hd26, h5⟩
        · obtain ⟨fp, fq, fc, fv, fs, fd, hfd, hfb⟩ := hFB
          exact ⟨fp, fq, fc, fv, fs, fd, hfd, hne e hfb⟩
  case hst => exact vv_stable ⟨l3_st, isV_st, fun _ _ _ _ h => h, fun _ _ _ _ h => h, fun _ _ _ _ h => h, p3_st, fun _ _ _ _ h => h, l3_st, isV_st, fun _ _ _ _ h => h, fun _ _ _ _ h => h, fun _ _ _ _ h => h, p3_st, fun _ _ _ _ h => h, isV_st, fun _ _ _ _ h => h, isV_st, fun _ _ _ _ h => h, l3_st, isV_st, fun _ _ _ _ h => h, p3_st, fun _ _ _ _ h => h, isV_st, fun _ _ _ _ h => h, fun _ _ _ _ h => h, fun _ _ _ _ h => h, box_st, fun _ _ _ _ h => h, trivial⟩
  intro vs W hlen hI hV
  obtain ⟨x0, x1, x2, x3, x4, x5, x6, x7, x8, x9, x10, x11, x12, x13, x14, x15, x16, x17, x18, x19, x20, x21, x22, x23, x24, x25, x26, x27, x28, rfl⟩ := list_len29 vs hlen
  have y0 := hV 0 _ rfl
  obtain ⟨A0, a0, b0, c0, rfl, hn0, hA0⟩ := y0
  have y1 : x1 = _ := hV 1 _ rfl
  subst y1
  have y2 := hV 2 _ rfl
  obtain ⟨r2, rfl, ra2, rb2⟩ := y2
  have y3 := hV 3 _ rfl
  obtain ⟨r3, rfl, ra3, rb3⟩ := y3
  have y4 := hV 4 _ rfl
  obtain ⟨r4, rfl, ra4, rb4⟩ := y4
  have y5 := hV 5 _ rfl
  obtain ⟨A5, k5, a5, b5, c5, rfl, hk5, hn5, hA5⟩ := y5
  have y6 := hV 6 _ rfl
  obtain ⟨r6, rfl⟩ := y6
  have y7 := hV 7 _ rfl
  obtain ⟨A7, a7, b7, c7, rfl, hn7, hA7⟩ := y7
  have y8 : x8 = _ := hV 8 _ rfl
  subst y8
  have y9 := hV 9 _ rfl
  obtain ⟨r9, rfl, ra9, rb9⟩ := y9
  have y10 := hV 10 _ rfl
  obtain ⟨r10, rfl, ra10, rb10⟩ := y10
  have y11 := hV 11 _ rfl
  obtain ⟨r11, rfl, ra11, rb11⟩ := y11
  have y12 := hV 12 _ rfl
  obtain ⟨A12, k12, a12, b12, c12, rfl, hk12, hn12, hA12⟩ := y12
  have y13 := hV 13 _ rfl
  obtain ⟨r13, rfl⟩ := y13
  have y14 : x14 = _ := hV 14 _ rfl
  subst y14
  have y15 := hV 15 _ rfl
  obtain ⟨r15, rfl, ra15, rb15⟩ := y15
  have y16 : x16 = _ := hV 16 _ rfl
  subst y16
  have y17 := hV 17 _ rfl
  obtain ⟨r17, rfl, ra17, rb17⟩ := y17
  have y18 := hV 18 _ rfl
  obtain ⟨A18, a18, b18, c18, rfl, hn18, hA18⟩ := y18
  have y19 : x19 = _ := hV 19 _ rfl
  subst y19
  have y20 := hV 20 _ rfl
  obtain ⟨r20, rfl, ra20, rb20⟩ := y20
  have y21 := hV 21 _ rfl
  obtain ⟨A21, k21, a21, b21, c21, rfl, hk21, hn21, hA21⟩ := y21
  have y22 := hV 22 _ rfl
  obtain ⟨r22, rfl⟩ := y22
  have y23 : x23 = _ := hV 23 _ rfl
  subst y23
  have y24 := hV 24 _ rfl
  obtain ⟨s24, rfl, hs24⟩ := y24
  have y25 := hV 25 _ rfl
  obtain ⟨s25, rfl, hs25⟩ := y25
  have y26 := hV 26 _ rfl
  obtain ⟨c26, v26, s26, d26, rfl, hd26⟩ := y26
  have y27 := hV 27 _ rfl
  obtain ⟨B, rfl, hnB, hltB, hB⟩ := y27
  have y28 := hV 28 _ rfl
  clear hV hlen
  simp only [Exit.then, putAll, Act.put, List.setIfInBounds_toArray, List.set_cons_zero, List.set_cons_succ]
  obtain ⟨q, e1, e2, e3, e4, e5, e6⟩ := hI
  obtain ⟨bp, bq, bc, bv, bs, bd, hbd, hb⟩ := hB
  clear y28
  have hq9 : q ≤ p + 9000 := by simp at e3; omega
  have hgB : w.heap.size < W.heap.size := (Array.getElem?_eq_some_iff.1 e5).1
  have hB0 : B < W.heap.size := (Array.getElem?_eq_some_iff.1 hb).1
  have hb := Lib.hid hb
  have e5 := Lib.hid e5
  have hneB : ¬ B = w.heap.size := by omega
  clear e3
  go_wp2_with fail
  refine (pick_c w0 _ g (q) (8) (by repeat (first | (with_reducible assumption) | (with_reducible refine Rd.alloc ?_ _) | (with_reducible refine Rd.drew ?_) | (with_reducible refine Rd.drewN ?_ _) | (with_reducible refine Rd.own ?_ (by first | (simp; done) | (simp; omega) | omega) (by first | (simp; done) | (simp; omega) | omega) _))) (by omega) (by omega) (by omega) (by omega)).mono ?_
  rintro e w50 ⟨r50, rfl, ra50, rb50, hR50, hK50⟩
  have hKK50 : Kp g w w50 := Kp.trans (by repeat (first | (with_reducible assumption) | (with_reducible exact Kp.refl _ _) | (with_reducible refine Kp.alloc ?_ _) | (with_reducible refine Kp.drew ?_) | (with_reducible refine Kp.drewN ?_ _) | (with_reducible refine Kp.own ?_ (by first | (simp; done) | (simp; omega) | omega) _))) hK50
  have hs50 := hKK50.size
  have e51 := Lib.hid (hK50.blk e5.out (by omega))
  have hb1 := Lib.hid (hK50.blk hb.out hnB)
  have hB1 : B < w50.heap.size := (Array.getElem?_eq_some_iff.1 hb1.out).1
  have hg1 : w.heap.size < w50.heap.size := (Array.getElem?_eq_some_iff.1 e51.out).1
  clear hK50
  by_cases d0 : r50 = 0
  · subst d0
    have hb2 := hb1.out
    have e52 := e51.out
    have kc := fun o => blk_cell hb2 o
    have kg := fun o => blk_frozen hb2 o
    clear hb2
    have kb := fun o => blk_cell e52 o
    have kf := fun o => blk_frozen e52 o
    clear e52
    simp only [zfr] at kb
    go_wp2_with fail
    exact bodyPost_ret (v := .agg #[.bool _, .bool _, .int .i64 _, .int .i64 _, .int .i64 _, .string _]) (by simp [results, Try.results69, go_sem, kb]; exact ⟨rfl, rfl, rfl, rfl, rfl, rfl⟩) rfl ⟨_, q + 1, rfl, ⟨⟨_, _, _, _, _, _⟩, rfl⟩, by omega, by omega, (by repeat (first | (with_reducible assumption) | (with_reducible refine Rd.alloc ?_ _) | (with_reducible refine Rd.drew ?_) | (with_reducible refine Rd.drewN ?_ _) | (with_reducible refine Rd.own ?_ (by first | (simp; done) | (simp; omega) | omega) (by first | (simp; done) | (simp; omega) | omega) _))), (by repeat (first | (with_reducible assumption) | (with_reducible exact Kp.refl _ _) | (with_reducible refine Kp.alloc ?_ _) | (with_reducible refine Kp.drew ?_) | (with_reducible refine Kp.drewN ?_ _) | (with_reducible refine Kp.own ?_ (by first | (simp; done) | (simp; omega) | omega) _)))⟩
  · have d0' : (r50 == 0) = false := beq_eq_false_iff_ne.2 d0
    by_cases d1 : r50 = 1
    · subst d1
      have hb2 := hb1.out
      have kc := fun o => blk_cell hb2 o
      have kg := fun o => blk_frozen hb2 o
      clear hb2
      go_wp2_with fail
      clear kc kg
      have hb3 := blk_put (blk_put hb1.out 0 (.bool true)) 1 (.bool true)
      have e53 := blk_set (blk_set e51.out 0 (.bool true) (show ¬ w.heap.size = B by omega)) 1 (.bool true) (show ¬ w.heap.size = B by omega)
      have hR50' : Rd w0 ((w50.setCell ⟨B, 0, none⟩ (.bool true)).setCell ⟨B, 1, none⟩ (.bool true)) g (q + 1) := (by repeat (first | (with_reducible assumption) | (with_reducible refine Rd.alloc ?_ _) | (with_reducible refine Rd.drew ?_) | (with_reducible refine Rd.drewN ?_ _) | (with_reducible refine Rd.own ?_ (by first | (simp; done) | (simp; omega) | omega) (by first | (simp; done) | (simp; omega) | omega) _)))
      refine (of_c w0 _ g (q + 1) _ _ 5 (hR50'.alloc _) (by omega) (by omega) (heap_top _ _ (by simp)) (by omega) (by rfl) (by omega) (by omega) IsStr (arr_all (fun v hv => ?_))).mono ?_
      · simp at hv
        rcases hv with rfl | rfl | rfl | rfl | rfl <;> exact ⟨_, rfl, by decide⟩
      rintro e w51 ⟨v51, rfl, ⟨s51, rfl, hs51⟩, hR51, hK51⟩
      have hKK51 : Kp g w w51 := Kp.trans (by repeat (first | (with_reducible assumption) | (with_reducible exact Kp.refl _ _) | (with_reducible refine Kp.alloc ?_ _) | (with_reducible refine Kp.drew ?_) | (with_reducible refine Kp.drewN ?_ _) | (with_reducible refine Kp.own ?_ (by first | (simp; done) | (simp; omega) | omega) _))) hK51
      have hb4 := hK51.blk (heap_up hb3 _) hnB
      have e54 := hK51.blk (heap_up e53 _) (by omega)
      have hB2 : B < w51.heap.size := (Array.getElem?_eq_some_iff.1 hb4).1
      have hg2 : w.heap.size < w51.heap.size := (Array.getElem?_eq_some_iff.1 e54).1
      have hs51' := hKK51.size
      clear hK51 hb3 e53 hR50'
      simp only [zfr, List.setIfInBounds_toArray, List.set_cons_zero, List.set_cons_succ] at hb4 e54
      have kc := fun o => blk_cell hb4 o
      have kg := fun o => blk_frozen hb4 o
      clear hb4
      have kb := fun o => blk_cell e54 o
      have kf := fun o => blk_frozen e54 o
      clear e54
      go_wp2_with fail
      exact bodyPost_ret (v := .agg #[.bool _, .bool _, .int .i64 _, .int .i64 _, .int .i64 _, .string _]) (by simp [results, Try.results69, go_sem, kb, hB2, hg2]; exact ⟨rfl, rfl, rfl, rfl, rfl, rfl⟩) rfl ⟨_, q + 1 + 1, rfl, ⟨⟨_, _, _, _, _, _⟩, rfl⟩, by omega, by omega, (by repeat (first | (with_reducible assumption) | (with_reducible refine Rd.alloc ?_ _) | (with_reducible refine Rd.drew ?_) | (with_reducible refine Rd.drewN ?_ _) | (with_reducible refine Rd.own ?_ (by first | (simp; done) | (simp; omega) | omega) (by first | (simp; done) | (simp; omega) | omega) _))), (by repeat (first | (with_reducible assumption) | (with_reducible exact Kp.refl _ _) | (with_reducible refine Kp.alloc ?_ _) | (with_reducible refine Kp.drew ?_) | (with_reducible refine Kp.drewN ?_ _) | (with_reducible refine Kp.own ?_ (by first | (simp; done) | (simp; omega) | omega) _)))⟩
    · have d1' : (r50 == 1) = false := beq_eq_false_iff_ne.2 d1
      by_cases d2 : r50 = 2
      · subst d2
        go_wp2_with fail
        refine (pick_c w0 _ g (q + 1) (2) (by repeat (first | (with_reducible assumption) | (with_reducible refine Rd.alloc ?_ _) | (with_reducible refine Rd.drew ?_) | (with_reducible refine Rd.drewN ?_ _) | (with_reducible refine Rd.own ?_ (by first | (simp; done) | (simp; omega) | omega) (by first | (simp; done) | (simp; omega) | omega) _))) (by omega) (by omega) (by omega) (by omega)).mono ?_
        rintro e w52 ⟨r52, rfl, ra52, rb52, hR52, hK52⟩
        have hKK52 : Kp g w w52 := Kp.trans (by repeat (first | (with_reducible assumption) | (with_reducible exact Kp.refl _ _) | (with_reducible refine Kp.alloc ?_ _) | (with_reducible refine Kp.drew ?_) | (with_reducible refine Kp.drewN ?_ _) | (with_reducible refine Kp.own ?_ (by first | (simp; done) | (simp; omega) | omega) _))) hK52
        have hs52 := hKK52.size
        have hb4 := hK52.blk hb1.out hnB
        have e54 := hK52.blk e51.out (by omega)
        have hB2 : B < w52.heap.size := (Array.getElem?_eq_some_iff.1 hb4).1
        have hg2 : w.heap.size < w52.heap.size := (Array.getElem?_eq_some_iff.1 e54).1
        clear hK52
        have hb4 := Lib.hid hb4
        have e54 := Lib.hid e54
        go_wp2_with fail
        refine (many_c ⟨#[122]⟩ (53 - r52) _ (by omega) (by omega) (by decide)).mono ?_
        rintro e w53 ⟨⟨o, rfl, ho⟩, rfl⟩
        have hb5 := hb4.out
        have e55 := e54.out
        have kc := fun o => blk_cell hb5 o
        have kg := fun o => blk_frozen hb5 o
        clear hb5
        have kb := fun o => blk_cell e55 o
        have kf := fun o => blk_frozen e55 o
        clear e55
        simp only [zfr] at kb
        go_wp2_with fail
        exact bodyPost_ret (v := .agg #[.bool _, .bool _, .int .i64 _, .int .i64 _, .int .i64 _, .string _]) (by simp [results, Try.results69, go_sem, kb, hB2, hg2]; exact ⟨rfl, rfl, rfl, rfl, rfl, rfl⟩) rfl ⟨_, q + 1 + 1, rfl, ⟨⟨_, _, _, _, _, _⟩, rfl⟩, by omega, by omega, (by repeat (first | (with_reducible assumption) | (with_reducible refine Rd.alloc ?_ _) | (with_reducible refine Rd.drew ?_) | (with_reducible refine Rd.drewN ?_ _) | (with_reducible refine Rd.own ?_ (by first | (simp; done) | (simp; omega) | omega) (by first | (simp; done) | (simp; omega) | omega) _))), (by repeat (first | (with_reducible assumption) | (with_reducible exact Kp.refl _ _) | (with_reducible refine Kp.alloc ?_ _) | (with_reducible refine Kp.drew ?_) | (with_reducible refine Kp.drewN ?_ _) | (with_reducible refine Kp.own ?_ (by first | (simp; done) | (simp; omega) | omega) _)))⟩
      · have d2' : (r50 == 2) = false := beq_eq_false_iff_ne.2 d2
        have hb2 := hb1.out
        have e52 := e51.out
        have kc := fun o => blk_cell hb2 o
        have kg := fun o => blk_frozen hb2 o
        clear hb2
        have kb := fun o => blk_cell e52 o
        have kf := fun o => blk_frozen e52 o
        clear e52
        simp only [zfr] at kb
        go_wp2_with fail
        exact bodyPost_ret (v := .agg #[.bool _, .bool _, .int .i64 _, .int .i64 _, .int .i64 _, .string _]) (by simp [results, Try.results69, go_sem, kb]; exact ⟨rfl, rfl, rfl, rfl, rfl, rfl⟩) rfl ⟨_, q + 1, rfl, ⟨⟨_, _, _, _, _, _⟩, rfl⟩, by omega, by omega, (by repeat (first | (with_reducible assumption) | (with_reducible refine Rd.alloc ?_ _) | (with_reducible refine Rd.drew ?_) | (with_reducible refine Rd.drewN ?_ _) | (with_reducible refine Rd.own ?_ (by first | (simp; done) | (simp; omega) | omega) (by first | (simp; done) | (simp; omega) | omega) _))), (by repeat (first | (with_reducible assumption) | (with_reducible exact Kp.refl _ _) | (with_reducible refine Kp.alloc ?_ _) | (with_reducible refine Kp.drew ?_) | (with_reducible refine Kp.drewN ?_ _) | (with_reducible refine Kp.own ?_ (by first | (simp; done) | (simp; omega) | omega) _)))⟩

end Go.Proofs.Ytcbbebhjddphfaa
