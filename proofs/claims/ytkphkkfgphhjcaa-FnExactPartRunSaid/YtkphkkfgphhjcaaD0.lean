/- What draws: the reader of a code, and what it picks. -/
import Derived.Test.YtkphkkfgphhjcaaA0
import Derived.Test.YtkphkkfgphhjcaaR0
import Derived.Laws.BitsLemmas
namespace Go.Proofs.Ytkphkkfgphhjcaa
open Go.RowKit
set_option linter.unusedSimpArgs false
set_option linter.unusedVariables false

theorem xor_bd (a b : Int) (h0 : 0 ≤ a) (h1 : a < 1000000000000000000) (h2 : 0 ≤ b) (h3 : b < 1000000000000000000) : 0 ≤ bits .xor .i64 a b := by
  obtain ⟨m, rfl⟩ := Int.eq_ofNat_of_zero_le h0
  obtain ⟨n, rfl⟩ := Int.eq_ofNat_of_zero_le h2
  have hm : m < 2 ^ 62 := by omega
  have hn : n < 2 ^ 62 := by omega
  have hx := Nat.xor_lt_two_pow hm hn
  have e1 : m % 2 ^ IntKind.i64.bits = m := Nat.mod_eq_of_lt (Nat.lt_trans hm (by decide))
  have e2 : n % 2 ^ IntKind.i64.bits = n := Nat.mod_eq_of_lt (Nat.lt_trans hn (by decide))
  simp only [bits, BitVec.ofInt_natCast, BitVec.toNat_xor, BitVec.toNat_ofNat, e1, e2]
  rw [IntKind.wrap_i64]
  omega

theorem wr {n : Int} (h0 : -9223372036854775808 ≤ n) (h1 : n ≤ 9223372036854775807) : IntKind.i64.wrap n = n := by
  rw [IntKind.wrap_i64]
  omega
theorem list_len46 : ∀ (l : List Value), l.length = 46 → ∃ x0 x1 x2 x3 x4 x5 x6 x7 x8 x9 x10 x11 x12 x13 x14 x15 x16 x17 x18 x19 x20 x21 x22 x23 x24 x25 x26 x27 x28 x29 x30 x31 x32 x33 x34 x35 x36 x37 x38 x39 x40 x41 x42 x43 x44 x45, l = x0 :: x1 :: x2 :: x3 :: x4 :: x5 :: x6 :: x7 :: x8 :: x9 :: x10 :: x11 :: x12 :: x13 :: x14 :: x15 :: x16 :: x17 :: x18 :: x19 :: x20 :: x21 :: x22 :: x23 :: x24 :: x25 :: x26 :: x27 :: x28 :: x29 :: x30 :: x31 :: x32 :: x33 :: x34 :: x35 :: x36 :: x37 :: x38 :: x39 :: x40 :: x41 :: x42 :: x43 :: x44 :: x45 :: []
  | x0 :: x1 :: x2 :: x3 :: x4 :: x5 :: x6 :: x7 :: x8 :: x9 :: x10 :: x11 :: x12 :: x13 :: x14 :: x15 :: x16 :: x17 :: x18 :: x19 :: x20 :: x21 :: x22 :: x23 :: x24 :: x25 :: x26 :: x27 :: x28 :: x29 :: x30 :: x31 :: x32 :: x33 :: x34 :: x35 :: x36 :: x37 :: x38 :: x39 :: x40 :: x41 :: x42 :: x43 :: x44 :: x45 :: [], _ => ⟨x0, x1, x2, x3, x4, x5, x6, x7, x8, x9, x10, x11, x12, x13, x14, x15, x16, x17, x18, x19, x20, x21, x22, x23, x24, x25, x26, x27, x28, x29, x30, x31, x32, x33, x34, x35, x36, x37, x38, x39, x40, x41, x42, x43, x44, x45, rfl⟩

/-- A slice of bytes that is read. -/
def Bytes (w : World) (A : Option Addr) (n : Nat) : Prop := n ≤ 2000 ∧ ∀ j, j < n → ∃ ad x, A = some ad ∧ w.cell? (ad.add j) = some (.int .u8 x) ∧ 0 ≤ x ∧ x ≤ 255
/-- The reader in block g, at place p; w0: the world ahead of it. -/
structure Rd (w0 W : World) (g : Nat) (p : Int) : Prop where
  ge : w0.heap.size ≤ g
  bel : Below w0.heap.size w0 W
  blk : ∃ A n c, W.heap[g]? = some (.cells #[.slice A n c, .int .i64 p] 84 (0, 0)) ∧ Bytes w0 A n
/-- Nothing has changed but block g. -/
structure Kp (g : Nat) (w w' : World) : Prop where
  os : w'.os = w.os
  tape : w'.tape = w.tape
  output : w'.output = w.output
  size : w.heap.size ≤ w'.heap.size
  block : ∀ b, b < w.heap.size → b ≠ g → w'.heap[b]? = w.heap[b]?
theorem Kp.refl (g : Nat) (w : World) : Kp g w w := ⟨rfl, rfl, rfl, Nat.le_refl _, fun _ _ _ => rfl⟩
theorem Kp.trans {g : Nat} {a b c : World} (h : Kp g a b) (k : Kp g b c) : Kp g a c :=
  ⟨k.os.trans h.os, k.tape.trans h.tape, k.output.trans h.output, Nat.le_trans h.size k.size, fun i hi hne => (k.block i (Nat.lt_of_lt_of_le hi h.size) hne).trans (h.block i hi hne)⟩
theorem Kp.drew {g : Nat} {a b : World} (h : Kp g a b) : Kp g a b.drew := ⟨h.os, h.tape, h.output, h.size, h.block⟩
theorem Kp.drewN {g : Nat} {a b : World} (h : Kp g a b) (n : Nat) : Kp g a (b.drewN n) := ⟨h.os, h.tape, h.output, h.size, h.block⟩
theorem Kp.of_below {g : Nat} {a b c : World} (h : Kp g a b) (k : Below b.heap.size b c) : Kp g a c :=
  h.trans ⟨k.os, k.tape, k.output, k.size, fun i hi _ => k.block i hi⟩
theorem Kp.alloc {g : Nat} {a b : World} (h : Kp g a b) (o : Obj) : Kp g a (b.alloc o) := h.of_below ((Below.refl _ _).alloc (Nat.le_refl _) o)
theorem Kp.set {g : Nat} {a b : World} (h : Kp g a b) (j : Nat) (u : Value) : Kp g a (b.setCell ⟨g, j, none⟩ u) :=
  ⟨by rw [← h.os]; rfl, by rw [← h.tape]; rfl, by rw [← h.output]; rfl, by have := h.size; simpa using this, fun i hi hne => by rw [Below.heap_setCell b ⟨g, j, none⟩ u i hne]; exact h.block i hi hne⟩
/-- A store into a block of one's own. -/
theorem Kp.own {g : Nat} {a b : World} (h : Kp g a b) {p : Addr} (hp : a.heap.size ≤ p.block) (u : Value) : Kp g a (b.setCell p u) :=
  ⟨by rw [← h.os]; rfl, by rw [← h.tape]; rfl, by rw [← h.output]; rfl, by have := h.size; simpa using this, fun i hi hne => by rw [Below.heap_setCell b p u i (by omega)]; exact h.block i hi hne⟩
theorem Kp.below {g : Nat} {w0 a b : World} (h : Kp g a b) (hg : w0.heap.size ≤ g) (hb : Below w0.heap.size w0 a) : Below w0.heap.size w0 b :=
  hb.trans ⟨h.os, h.tape, h.output, h.size, fun i hi => h.block i (Nat.lt_of_lt_of_le hi hb.size) (by omega)⟩
theorem Kp.blk {g : Nat} {a b : World} (h : Kp g a b) {i : Nat} {o : Obj} (hi : a.heap[i]? = some o) (hne : i ≠ g) : b.heap[i]? = some o := by
  rw [h.block i (Array.getElem?_eq_some_iff.1 hi).1 hne]
  exact hi
theorem Rd.of_below {w0 W W2 : World} {g : Nat} {p : Int} (h : Rd w0 W g p) (k : Below W.heap.size W W2) : Rd w0 W2 g p := by
  obtain ⟨A, n, c, hb, hr⟩ := h.blk
  exact ⟨h.ge, below_then h.bel h.bel.size k, A, n, c, blk_below hb k, hr⟩
theorem Rd.lt {w0 W : World} {g : Nat} {p : Int} (h : Rd w0 W g p) : g < W.heap.size := by
  obtain ⟨A, n, c, hb, hr⟩ := h.blk
  exact (Array.getElem?_eq_some_iff.1 hb).1
theorem Rd.drew {w0 W : World} {g : Nat} {p : Int} (h : Rd w0 W g p) : Rd w0 W.drew g p := ⟨h.ge, h.bel.drew, h.blk⟩
theorem Rd.drewN {w0 W : World} {g : Nat} {p : Int} (h : Rd w0 W g p) (n : Nat) : Rd w0 (W.drewN n) g p := ⟨h.ge, below_drewN' h.bel n, h.blk⟩
theorem Rd.own {w0 W : World} {g : Nat} {p : Int} (h : Rd w0 W g p) {q : Addr} (hq : w0.heap.size ≤ q.block) (hne : g ≠ q.block) (u : Value) : Rd w0 (W.setCell q u) g p := by
  obtain ⟨A, n, c, hb, hr⟩ := h.blk
  exact ⟨h.ge, h.bel.setCell hq u, A, n, c, by rw [Below.heap_setCell W q u g hne]; exact hb, hr⟩
theorem Rd.alloc {w0 W : World} {g : Nat} {p : Int} (h : Rd w0 W g p) (o : Obj) : Rd w0 (W.alloc o) g p := h.of_below ((Below.refl _ _).alloc (Nat.le_refl _) o)
theorem Rd.set {w0 W : World} {g : Nat} {p : Int} (h : Rd w0 W g p) (q : Int) : Rd w0 (W.setCell ⟨g, 1, none⟩ (.int .i64 q)) g q := by
  obtain ⟨A, n, c, hb, hr⟩ := h.blk
  exact ⟨h.ge, h.bel.setCell h.ge _, A, n, c, blk_put hb 1 _, hr⟩

/-- What a pick leaves. -/
def Pk (w0 w : World) (g : Nat) (p n : Int) (e : Ending) (w' : World) : Prop := ∃ r : Int, e = .returned (.int .i64 r) ∧ 0 ≤ r ∧ r < n ∧ Rd w0 w' g (p + 1) ∧ Kp g w w'
set_option maxHeartbeats 4000000 in
set_option maxRecDepth 100000 in
theorem pick_c (w0 w : World) (g : Nat) (p n : Int) (h : Rd w0 w g p) (h0 : 0 ≤ p) (h1 : p ≤ 1000000000000) (h2 : 1 ≤ n) (h3 : n ≤ 9000000000000000000) : Calls Try.prog 35 #[.pointer (some ⟨g, 0, none⟩), .int .i64 n] w (Pk w0 w g p n) := by
  obtain ⟨A, m, c, hb, hm, hr⟩ := h.blk
  have hR := Lib.hid h
  have k0 : w.cell? ⟨g, 0, none⟩ = some (.slice A m c) := blk_cell hb 0
  have k1 : w.cell? ⟨g, 1, none⟩ = some (.int .i64 p) := blk_cell hb 1
  have k2 := fun j => blk_frozen hb j
  have hge := h.ge
  have hbel := Lib.hid h.bel
  clear h
  by_cases hm0 : m = 0
  · subst hm0
    clear hr hb hm
    go_enter Try.func35, Try.ntmps35
    go_wp2_with fail
    go_ret
    exact ⟨0, rfl, by omega, by omega, hR.out.set _, (Kp.refl _ _).set _ _⟩
  · have hbyte : ∀ i : Int, 0 ≤ i → i < m → ∃ ad x, A = some ad ∧ (w.setCell ⟨g, 1, none⟩ (.int .i64 (p + 1))).cell? (ad.add i.toNat) = some (.int .u8 x) ∧ 0 ≤ x ∧ x ≤ 255 := by
      intro i hi0 hi1
      obtain ⟨ad, x, hA, hx, hx0, hx1⟩ := hr i.toNat (by omega)
      have hblk : (ad.add i.toNat).block < w0.heap.size := World.block_lt_of_cell? w0 _ hx
      refine ⟨ad, x, hA, ?_, hx0, hx1⟩
      rw [World.cell?_of_block (w := w) (Below.heap_setCell w ⟨g, 1, none⟩ _ _ (by show _ ≠ g; omega)), hbel.out.cell hblk]
      exact hx
    have b0 : ((m : Int) == 0) = false := beq_eq_false_iff_ne.2 (by omega)
    have hm1 : (0 : Int) < (m : Int) := by omega
    by_cases hp : p < (m : Int)
    · obtain ⟨ad, x, rfl, hx, hx0, hx1⟩ := hbyte p h0 hp
      have hm0' : 0 < m := by omega
      clear hr hb hm hm0 hbyte
      go_enter Try.func35, Try.ntmps35
      go_wp2_with fail
      go_ret
      exact ⟨x % n, by first | rfl | (congr 2; unfold wrap64; omega), Int.emod_nonneg _ (by omega), Int.emod_lt_of_pos _ (by omega), hR.out.set _, (Kp.refl _ _).set _ _⟩
    · have e1 : 0 ≤ p % (m : Int) ∧ p % (m : Int) < m := ⟨Int.emod_nonneg _ (by omega), Int.emod_lt_of_pos _ hm1⟩
      have e2 : 0 ≤ (p * 7 + 3) % (m : Int) ∧ (p * 7 + 3) % (m : Int) < m := ⟨Int.emod_nonneg _ (by omega), Int.emod_lt_of_pos _ hm1⟩
      have e3 : 0 ≤ p / (m : Int) ∧ p / (m : Int) ≤ p := ⟨Int.ediv_nonneg h0 (by omega), Int.ediv_le_self _ h0⟩
      rw [← Int.tmod_eq_emod_of_nonneg h0] at e1
      rw [← Int.tmod_eq_emod_of_nonneg (by omega)] at e2
      rw [← Int.tdiv_eq_ediv_of_nonneg h0] at e3
      obtain ⟨i1, f1⟩ : ∃ i, p.tmod (m : Int) = i := ⟨_, rfl⟩
      obtain ⟨i2, f2⟩ : ∃ i, (p * 7 + 3).tmod (m : Int) = i := ⟨_, rfl⟩
      obtain ⟨q, f3⟩ : ∃ i, p.tdiv (m : Int) = i := ⟨_, rfl⟩
      rw [f1] at e1
      rw [f2] at e2
      rw [f3] at e3
      obtain ⟨e10, e11⟩ := e1
      obtain ⟨e20, e21⟩ := e2
      obtain ⟨e30, e31⟩ := e3
      obtain ⟨ad, x, rfl, hx, hx0, hx1⟩ := hbyte _ e10 e11
      obtain ⟨ad2, y, hA2, hy, hy0, hy1⟩ := hbyte _ e20 e21
      injection hA2 with hA2
      subst hA2
      have hm0' : 0 < m := by omega
      have hp' : (m : Int) ≤ p := by omega
      have g1 : IntKind.i64.wrap x = x := wr (by omega) (by omega)
      have g2 : IntKind.i64.wrap y = y := wr (by omega) (by omega)
      have g3 : IntKind.i64.wrap (x * 131) = x * 131 := wr (by omega) (by omega)
      have g4 : IntKind.i64.wrap (y * 1117) = y * 1117 := wr (by omega) (by omega)
      have g5 : IntKind.i64.wrap (x * 131 + y * 1117) = x * 131 + y * 1117 := wr (by omega) (by omega)
      have g6 : IntKind.i64.wrap (p * 29) = p * 29 := wr (by omega) (by omega)
      have g7 : IntKind.i64.wrap (x * 131 + y * 1117 + p * 29) = x * 131 + y * 1117 + p * 29 := wr (by omega) (by omega)
      have g8 : IntKind.i64.wrap (q * 53) = q * 53 := wr (by omega) (by omega)
      have g9 : IntKind.i64.wrap (x * 131 + y * 1117 + p * 29 + q * 53) = x * 131 + y * 1117 + p * 29 + q * 53 := wr (by omega) (by omega)
      have ga : IntKind.i64.wrap (p * 7) = p * 7 := wr (by omega) (by omega)
      have gb : IntKind.i64.wrap (p * 7 + 3) = p * 7 + 3 := wr (by omega) (by omega)
      have gc : IntKind.i64.wrap q = q := wr (by omega) (by omega)
      clear hr hb hm hbyte hp
      go_enter Try.func35, Try.ntmps35
      go_wp2_with fail
      apply region_inv (VV [IsV _, IsV _, IsV _, IsV _, IsV _, IsV _, IsV _, IsV _, IsV _, IsV _, IsV _, IsV _, IsV _, IsV _, IsV _, IsV _, IsV _, IsV _, IsV _, IsV _, IsV _, IsV _, IsV _, IsV _, IsV _, IsV _, IsV _, IsV _, IsV _, IsV _, IsV _, IsV _, IsV _, IsV _, IsV _, IsV _, IsV _, IsV _, IsV _, IsV _, IsV _, IsV _, IsV _, IsV _, IsV _, IsV _]) (fun _ W => W = (w.setCell ⟨g, 1, none⟩ (.int .i64 (p + 1))).drew) (fun _ _ => True) (by kernel_rfl) 99 rfl (by kernel_rfl)
      case h0 =>
        rfl
      case hsteps =>
        refine ⟨?_, ?_, ?_, ?_, ?_, ?_, ?_, ?_, ?_, ?_, ?_, ?_, ?_, ?_, ?_, ?_, ?_, ?_, ?_, ?_, ?_, ?_, ?_, ?_, ?_, ?_, ?_, ?_, ?_, ?_, ?_, ?_, ?_, ?_, ?_, ?_, ?_, ?_, ?_, ?_, ?_, ?_, ?_, ?_, ?_, ?_, trivial⟩
        · refine stepOK_of _ [0] rfl (by kernel_rfl) ?_ rfl
          intro t ρ W ht hc hf hn ho hI
          clear hn
          have s0 := ho.1
          simp only [Array.getD_eq_getD_getElem?] at s0
          clear ho
          have hI' := Lib.hid hI
          clear hI'
          subst hI
          go_simp
          exact post_mk (rfl) (trivial) rfl
        · refine stepOK_of _ [] rfl (by kernel_rfl) ?_ rfl
          intro t ρ W ht hc hf hn ho hI
          obtain ⟨u0, q0, s47⟩ := hn.1
          clear hn
          have q0 : u0 = _ := q0
          subst q0
          have s47 : ρ (.tmp 47) = _ := s47
          clear ho
          have hI' := Lib.hid hI
          clear hI'
          subst hI
          go_simp
          exact post_mk (rfl) (trivial) rfl
        · refine stepOK_of _ [] rfl (by kernel_rfl) ?_ rfl
          intro t ρ W ht hc hf hn ho hI
          obtain ⟨u1, q1, s48⟩ := hn.1
          clear hn
          have q1 : u1 = _ := q1
          subst q1
          have s48 : ρ (.tmp 48) = _ := s48
          clear ho
          have hI' := Lib.hid hI
          clear hI'
          subst hI
          go_simp
          exact post_mk (rfl) (trivial) rfl
        · refine stepOK_of _ [] rfl (by kernel_rfl) ?_ rfl
          intro t ρ W ht hc hf hn ho hI
          obtain ⟨u2, q2, s49⟩ := hn.1
          clear hn
          have q2 : u2 = _ := q2
          subst q2
          have s49 : ρ (.tmp 49) = _ := s49
          clear ho
          have hI' := Lib.hid hI
          clear hI'
          subst hI
          go_simp
          exact post_mk (rfl) (trivial) rfl
        · refine stepOK_of _ [5] rfl (by kernel_rfl) ?_ rfl
          intro t ρ W ht hc hf hn ho hI
          clear hn
          have s5 := ho.1
          simp only [Array.getD_eq_getD_getElem?] at s5
          clear ho
          have hI' := Lib.hid hI
          clear hI'
          subst hI
          go_simp
          exact post_mk (rfl) (trivial) rfl
        · refine stepOK_of _ [0] rfl (by kernel_rfl) ?_ rfl
          intro t ρ W ht hc hf hn ho hI
          clear hn
          have s0 := ho.1
          simp only [Array.getD_eq_getD_getElem?] at s0
          clear ho
          have hI' := Lib.hid hI
          clear hI'
          subst hI
          go_simp
          exact post_mk (rfl) (trivial) rfl
        · refine stepOK_of _ [] rfl (by kernel_rfl) ?_ rfl
          intro t ρ W ht hc hf hn ho hI
          obtain ⟨u5, q5, s52⟩ := hn.1
          clear hn
          have q5 : u5 = _ := q5
          subst q5
          have s52 : ρ (.tmp 52) = _ := s52
          clear ho
          have hI' := Lib.hid hI
          clear hI'
          subst hI
          go_simp
          exact post_mk (rfl) (trivial) rfl
        · refine stepOK_of _ [] rfl (by kernel_rfl) ?_ rfl
          intro t ρ W ht hc hf hn ho hI
          obtain ⟨u6, q6, s53⟩ := hn.1
          clear hn
          have q6 : u6 = _ := q6
          subst q6
          have s53 : ρ (.tmp 53) = _ := s53
          clear ho
          have hI' := Lib.hid hI
          clear hI'
          subst hI
          go_simp
          exact post_mk (rfl) (trivial) rfl
        · refine stepOK_of _ [] rfl (by kernel_rfl) ?_ rfl
          intro t ρ W ht hc hf hn ho hI
          obtain ⟨u7, q7, s54⟩ := hn.1
          clear hn
          have q7 : u7 = _ := q7
          subst q7
          have s54 : ρ (.tmp 54) = _ := s54
          clear ho
          have hI' := Lib.hid hI
          clear hI'
          subst hI
          go_simp
          exact post_mk (rfl) (trivial) rfl
        · refine stepOK_of _ [] rfl (by kernel_rfl) ?_ rfl
          intro t ρ W ht hc hf hn ho hI
          obtain ⟨u8, q8, s55⟩ := hn.1
          clear hn
          have q8 : u8 = _ := q8
          subst q8
          have s55 : ρ (.tmp 55) = _ := s55
          clear ho
          have hI' := Lib.hid hI
          clear hI'
          subst hI
          go_simp
          exact post_mk (rfl) (trivial) rfl
        · refine stepOK_of _ [] rfl (by kernel_rfl) ?_ rfl
          intro t ρ W ht hc hf hn ho hI
          obtain ⟨u4, q4, s51⟩ := hn.1
          obtain ⟨u9, q9, s56⟩ := hn.2.1
          clear hn
          have q4 : u4 = _ := q4
          subst q4
          have s51 : ρ (.tmp 51) = _ := s51
          have q9 : u9 = _ := q9
          subst q9
          have s56 : ρ (.tmp 56) = _ := s56
          clear ho
          have hI' := Lib.hid hI
          clear hI'
          subst hI
          go_simp
          exact post_mk (rfl) (trivial) rfl
        · refine stepOK_of _ [] rfl (by kernel_rfl) ?_ rfl
          intro t ρ W ht hc hf hn ho hI
          obtain ⟨u3, q3, s50⟩ := hn.1
          obtain ⟨u10, q10, s57⟩ := hn.2.1
          clear hn
          have q3 : u3 = _ := q3
          subst q3
          have s50 : ρ (.tmp 50) = _ := s50
          have q10 : u10 = _ := q10
          subst q10
          have s57 : ρ (.tmp 57) = _ := s57
          clear ho
          have hI' := Lib.hid hI
          clear hI'
          subst hI
          go_simp
          exact post_mk (rfl) (trivial) rfl
        · refine stepOK_of _ [] rfl (by kernel_rfl) ?_ rfl
          intro t ρ W ht hc hf hn ho hI
          obtain ⟨u11, q11, s58⟩ := hn.1
          clear hn
          have q11 : u11 = _ := q11
          subst q11
          have s58 : ρ (.tmp 58) = _ := s58
          clear ho
          have hI' := Lib.hid hI
          clear hI'
          subst hI
          go_simp
          exact post_mk (rfl) (trivial) rfl
        · refine stepOK_of _ [] rfl (by kernel_rfl) ?_ rfl
          intro t ρ W ht hc hf hn ho hI
          obtain ⟨u12, q12, s59⟩ := hn.1
          clear hn
          have q12 : u12 = _ := q12
          subst q12
          have s59 : ρ (.tmp 59) = _ := s59
          clear ho
          have hI' := Lib.hid hI
          clear hI'
          subst hI
          go_simp
          exact post_mk (rfl) (trivial) rfl
        · refine stepOK_of _ [] rfl (by kernel_rfl) ?_ rfl
          intro t ρ W ht hc hf hn ho hI
          obtain ⟨u13, q13, s60⟩ := hn.1
          clear hn
          have q13 : u13 = _ := q13
          subst q13
          have s60 : ρ (.tmp 60) = _ := s60
          clear ho
          have hI' := Lib.hid hI
          clear hI'
          subst hI
          go_simp
          exact post_mk (rfl) (trivial) rfl
        · refine stepOK_of _ [0] rfl (by kernel_rfl) ?_ rfl
          intro t ρ W ht hc hf hn ho hI
          clear hn
          have s0 := ho.1
          simp only [Array.getD_eq_getD_getElem?] at s0
          clear ho
          have hI' := Lib.hid hI
          clear hI'
          subst hI
          go_simp
          exact post_mk (rfl) (trivial) rfl
        · refine stepOK_of _ [] rfl (by kernel_rfl) ?_ rfl
          intro t ρ W ht hc hf hn ho hI
          obtain ⟨u15, q15, s62⟩ := hn.1
          clear hn
          have q15 : u15 = _ := q15
          subst q15
          have s62 : ρ (.tmp 62) = _ := s62
          clear ho
          have hI' := Lib.hid hI
          clear hI'
          subst hI
          go_simp
          exact post_mk (rfl) (trivial) rfl
        · refine stepOK_of _ [] rfl (by kernel_rfl) ?_ rfl
          intro t ρ W ht hc hf hn ho hI
          obtain ⟨u16, q16, s63⟩ := hn.1
          clear hn
          have q16 : u16 = _ := q16
          subst q16
          have s63 : ρ (.tmp 63) = _ := s63
          clear ho
          have hI' := Lib.hid hI
          clear hI'
          subst hI
          go_simp
          exact post_mk (rfl) (trivial) rfl
        · refine stepOK_of _ [] rfl (by kernel_rfl) ?_ rfl
          intro t ρ W ht hc hf hn ho hI
          obtain ⟨u17, q17, s64⟩ := hn.1
          clear hn
          have q17 : u17 = _ := q17
          subst q17
          have s64 : ρ (.tmp 64) = _ := s64
          clear ho
          have hI' := Lib.hid hI
          clear hI'
          subst hI
          go_simp
          exact post_mk (rfl) (trivial) rfl
        · refine stepOK_of _ [5] rfl (by kernel_rfl) ?_ rfl
          intro t ρ W ht hc hf hn ho hI
          clear hn
          have s5 := ho.1
          simp only [Array.getD_eq_getD_getElem?] at s5
          clear ho
          have hI' := Lib.hid hI
          clear hI'
          subst hI
          go_simp
          exact post_mk (rfl) (trivial) rfl
        · refine stepOK_of _ [] rfl (by kernel_rfl) ?_ rfl
          intro t ρ W ht hc hf hn ho hI
          obtain ⟨u19, q19, s66⟩ := hn.1
          clear hn
          have q19 : u19 = _ := q19
          subst q19
          have s66 : ρ (.tmp 66) = _ := s66
          clear ho
          have hI' := Lib.hid hI
          clear hI'
          subst hI
          go_simp
          exact post_mk (rfl) (trivial) rfl
        · refine stepOK_of _ [] rfl (by kernel_rfl) ?_ rfl
          intro t ρ W ht hc hf hn ho hI
          obtain ⟨u20, q20, s67⟩ := hn.1
          clear hn
          have q20 : u20 = _ := q20
          subst q20
          have s67 : ρ (.tmp 67) = _ := s67
          clear ho
          have hI' := Lib.hid hI
          clear hI'
          subst hI
          go_simp
          exact post_mk (rfl) (trivial) rfl
        · refine stepOK_of _ [0] rfl (by kernel_rfl) ?_ rfl
          intro t ρ W ht hc hf hn ho hI
          clear hn
          have s0 := ho.1
          simp only [Array.getD_eq_getD_getElem?] at s0
          clear ho
          have hI' := Lib.hid hI
          clear hI'
          subst hI
          go_simp
          exact post_mk (rfl) (trivial) rfl
        · refine stepOK_of _ [] rfl (by kernel_rfl) ?_ rfl
          intro t ρ W ht hc hf hn ho hI
          obtain ⟨u22, q22, s69⟩ := hn.1
          clear hn
          have q22 : u22 = _ := q22
          subst q22
          have s69 : ρ (.tmp 69) = _ := s69
          clear ho
          have hI' := Lib.hid hI
          clear hI'
          subst hI
          go_simp
          exact post_mk (rfl) (trivial) rfl
        · refine stepOK_of _ [] rfl (by kernel_rfl) ?_ rfl
          intro t ρ W ht hc hf hn ho hI
          obtain ⟨u23, q23, s70⟩ := hn.1
          clear hn
          have q23 : u23 = _ := q23
          subst q23
          have s70 : ρ (.tmp 70) = _ := s70
          clear ho
          have hI' := Lib.hid hI
          clear hI'
          subst hI
          go_simp
          exact post_mk (rfl) (trivial) rfl
        · refine stepOK_of _ [] rfl (by kernel_rfl) ?_ rfl
          intro t ρ W ht hc hf hn ho hI
          obtain ⟨u24, q24, s71⟩ := hn.1
          clear hn
          have q24 : u24 = _ := q24
          subst q24
          have s71 : ρ (.tmp 71) = _ := s71
          clear ho
          have hI' := Lib.hid hI
          clear hI'
          subst hI
          go_simp
          exact post_mk (rfl) (trivial) rfl
        · refine stepOK_of _ [] rfl (by kernel_rfl) ?_ rfl
          intro t ρ W ht hc hf hn ho hI
          obtain ⟨u25, q25, s72⟩ := hn.1
          clear hn
          have q25 : u25 = _ := q25
          subst q25
          have s72 : ρ (.tmp 72) = _ := s72
          clear ho
          have hI' := Lib.hid hI
          clear hI'
          subst hI
          go_simp
          exact post_mk (rfl) (trivial) rfl
        · refine stepOK_of _ [] rfl (by kernel_rfl) ?_ rfl
          intro t ρ W ht hc hf hn ho hI
          obtain ⟨u21, q21, s68⟩ := hn.1
          obtain ⟨u26, q26, s73⟩ := hn.2.1
          clear hn
          have q21 : u21 = _ := q21
          subst q21
          have s68 : ρ (.tmp 68) = _ := s68
          have q26 : u26 = _ := q26
          subst q26
          have s73 : ρ (.tmp 73) = _ := s73
          clear ho
          have hI' := Lib.hid hI
          clear hI'
          subst hI
          go_simp
          exact post_mk (rfl) (trivial) rfl
        · refine stepOK_of _ [] rfl (by kernel_rfl) ?_ rfl
          intro t ρ W ht hc hf hn ho hI
          obtain ⟨u18, q18, s65⟩ := hn.1
          obtain ⟨u27, q27, s74⟩ := hn.2.1
          clear hn
          have q18 : u18 = _ := q18
          subst q18
          have s65 : ρ (.tmp 65) = _ := s65
          have q27 : u27 = _ := q27
          subst q27
          have s74 : ρ (.tmp 74) = _ := s74
          clear ho
          have hI' := Lib.hid hI
          clear hI'
          subst hI
          go_simp
          exact post_mk (rfl) (trivial) rfl
        · refine stepOK_of _ [] rfl (by kernel_rfl) ?_ rfl
          intro t ρ W ht hc hf hn ho hI
          obtain ⟨u28, q28, s75⟩ := hn.1
          clear hn
          have q28 : u28 = _ := q28
          subst q28
          have s75 : ρ (.tmp 75) = _ := s75
          clear ho
          have hI' := Lib.hid hI
          clear hI'
          subst hI
          go_simp
          exact post_mk (rfl) (trivial) rfl
        · refine stepOK_of _ [] rfl (by kernel_rfl) ?_ rfl
          intro t ρ W ht hc hf hn ho hI
          obtain ⟨u29, q29, s76⟩ := hn.1
          clear hn
          have q29 : u29 = _ := q29
          subst q29
          have s76 : ρ (.tmp 76) = _ := s76
          clear ho
          have hI' := Lib.hid hI
          clear hI'
          subst hI
          go_simp
          exact post_mk (rfl) (trivial) rfl
        · refine stepOK_of _ [] rfl (by kernel_rfl) ?_ rfl
          intro t ρ W ht hc hf hn ho hI
          obtain ⟨u30, q30, s77⟩ := hn.1
          clear hn
          have q30 : u30 = _ := q30
          subst q30
          have s77 : ρ (.tmp 77) = _ := s77
          clear ho
          have hI' := Lib.hid hI
          clear hI'
          subst hI
          go_simp
          exact post_mk (rfl) (trivial) rfl
        · refine stepOK_of _ [] rfl (by kernel_rfl) ?_ rfl
          intro t ρ W ht hc hf hn ho hI
          obtain ⟨u14, q14, s61⟩ := hn.1
          obtain ⟨u31, q31, s78⟩ := hn.2.1
          clear hn
          have q14 : u14 = _ := q14
          subst q14
          have s61 : ρ (.tmp 61) = _ := s61
          have q31 : u31 = _ := q31
          subst q31
          have s78 : ρ (.tmp 78) = _ := s78
          clear ho
          have hI' := Lib.hid hI
          clear hI'
          subst hI
          go_simp
          exact post_mk (rfl) (trivial) rfl
        · refine stepOK_of _ [5] rfl (by kernel_rfl) ?_ rfl
          intro t ρ W ht hc hf hn ho hI
          clear hn
          have s5 := ho.1
          simp only [Array.getD_eq_getD_getElem?] at s5
          clear ho
          have hI' := Lib.hid hI
          clear hI'
          subst hI
          go_simp
          exact post_mk (rfl) (trivial) rfl
        · refine stepOK_of _ [] rfl (by kernel_rfl) ?_ rfl
          intro t ρ W ht hc hf hn ho hI
          obtain ⟨u33, q33, s80⟩ := hn.1
          clear hn
          have q33 : u33 = _ := q33
          subst q33
          have s80 : ρ (.tmp 80) = _ := s80
          clear ho
          have hI' := Lib.hid hI
          clear hI'
          subst hI
          go_simp
          exact post_mk (rfl) (trivial) rfl
        · refine stepOK_of _ [] rfl (by kernel_rfl) ?_ rfl
          intro t ρ W ht hc hf hn ho hI
          obtain ⟨u32, q32, s79⟩ := hn.1
          obtain ⟨u34, q34, s81⟩ := hn.2.1
          clear hn
          have q32 : u32 = _ := q32
          subst q32
          have s79 : ρ (.tmp 79) = _ := s79
          have q34 : u34 = _ := q34
          subst q34
          have s81 : ρ (.tmp 81) = _ := s81
          clear ho
          have hI' := Lib.hid hI
          clear hI'
          subst hI
          go_simp
          exact post_mk (rfl) (trivial) rfl
        · refine stepOK_of _ [5] rfl (by kernel_rfl) ?_ rfl
          intro t ρ W ht hc hf hn ho hI
          clear hn
          have s5 := ho.1
          simp only [Array.getD_eq_getD_getElem?] at s5
          clear ho
          have hI' := Lib.hid hI
          clear hI'
          subst hI
          go_simp
          exact post_mk (rfl) (trivial) rfl
        · refine stepOK_of _ [0] rfl (by kernel_rfl) ?_ rfl
          intro t ρ W ht hc hf hn ho hI
          clear hn
          have s0 := ho.1
          simp only [Array.getD_eq_getD_getElem?] at s0
          clear ho
          have hI' := Lib.hid hI
          clear hI'
          subst hI
          go_simp
          exact post_mk (rfl) (trivial) rfl
        · refine stepOK_of _ [] rfl (by kernel_rfl) ?_ rfl
          intro t ρ W ht hc hf hn ho hI
          obtain ⟨u37, q37, s84⟩ := hn.1
          clear hn
          have q37 : u37 = _ := q37
          subst q37
          have s84 : ρ (.tmp 84) = _ := s84
          clear ho
          have hI' := Lib.hid hI
          clear hI'
          subst hI
          go_simp
          exact post_mk (rfl) (trivial) rfl
        · refine stepOK_of _ [] rfl (by kernel_rfl) ?_ rfl
          intro t ρ W ht hc hf hn ho hI
          obtain ⟨u38, q38, s85⟩ := hn.1
          clear hn
          have q38 : u38 = _ := q38
          subst q38
          have s85 : ρ (.tmp 85) = _ := s85
          clear ho
          have hI' := Lib.hid hI
          clear hI'
          subst hI
          go_simp
          exact post_mk (rfl) (trivial) rfl
        · refine stepOK_of _ [] rfl (by kernel_rfl) ?_ rfl
          intro t ρ W ht hc hf hn ho hI
          obtain ⟨u39, q39, s86⟩ := hn.1
          clear hn
          have q39 : u39 = _ := q39
          subst q39
          have s86 : ρ (.tmp 86) = _ := s86
          clear ho
          have hI' := Lib.hid hI
          clear hI'
          subst hI
          go_simp
          exact post_mk (rfl) (trivial) rfl
        · refine stepOK_of _ [] rfl (by kernel_rfl) ?_ rfl
          intro t ρ W ht hc hf hn ho hI
          obtain ⟨u40, q40, s87⟩ := hn.1
          clear hn
          have q40 : u40 = _ := q40
          subst q40
          have s87 : ρ (.tmp 87) = _ := s87
          clear ho
          have hI' := Lib.hid hI
          clear hI'
          subst hI
          go_simp
          exact post_mk (rfl) (trivial) rfl
        · refine stepOK_of _ [] rfl (by kernel_rfl) ?_ rfl
          intro t ρ W ht hc hf hn ho hI
          obtain ⟨u36, q36, s83⟩ := hn.1
          obtain ⟨u41, q41, s88⟩ := hn.2.1
          clear hn
          have q36 : u36 = _ := q36
          subst q36
          have s83 : ρ (.tmp 83) = _ := s83
          have q41 : u41 = _ := q41
          subst q41
          have s88 : ρ (.tmp 88) = _ := s88
          clear ho
          have hI' := Lib.hid hI
          clear hI'
          subst hI
          go_simp
          exact post_mk (rfl) (trivial) rfl
        · refine stepOK_of _ [] rfl (by kernel_rfl) ?_ rfl
          intro t ρ W ht hc hf hn ho hI
          obtain ⟨u42, q42, s89⟩ := hn.1
          clear hn
          have q42 : u42 = _ := q42
          subst q42
          have s89 : ρ (.tmp 89) = _ := s89
          clear ho
          have hI' := Lib.hid hI
          clear hI'
          subst hI
          go_simp
          exact post_mk (rfl) (trivial) rfl
        · refine stepOK_of _ [] rfl (by kernel_rfl) ?_ rfl
          intro t ρ W ht hc hf hn ho hI
          obtain ⟨u35, q35, s82⟩ := hn.1
          obtain ⟨u43, q43, s90⟩ := hn.2.1
          clear hn
          have q35 : u35 = _ := q35
          subst q35
          have s82 : ρ (.tmp 82) = _ := s82
          have q43 : u43 = _ := q43
          subst q43
          have s90 : ρ (.tmp 90) = _ := s90
          clear ho
          have hI' := Lib.hid hI
          clear hI'
          subst hI
          go_simp
          exact post_mk (rfl) (trivial) rfl
        · refine stepOK_of _ [] rfl (by kernel_rfl) ?_ rfl
          intro t ρ W ht hc hf hn ho hI
          obtain ⟨u44, q44, s91⟩ := hn.1
          clear hn
          have q44 : u44 = _ := q44
          subst q44
          have s91 : ρ (.tmp 91) = _ := s91
          clear ho
          have hI' := Lib.hid hI
          clear hI'
          subst hI
          go_simp
          exact post_mk (rfl) (trivial) rfl
      case hst => exact vv_stable ⟨isV_st, isV_st, isV_st, isV_st, isV_st, isV_st, isV_st, isV_st, isV_st, isV_st, isV_st, isV_st, isV_st, isV_st, isV_st, isV_st, isV_st, isV_st, isV_st, isV_st, isV_st, isV_st, isV_st, isV_st, isV_st, isV_st, isV_st, isV_st, isV_st, isV_st, isV_st, isV_st, isV_st, isV_st, isV_st, isV_st, isV_st, isV_st, isV_st, isV_st, isV_st, isV_st, isV_st, isV_st, isV_st, isV_st, trivial⟩
      intro vs W hlen hI hV
      obtain ⟨x0, x1, x2, x3, x4, x5, x6, x7, x8, x9, x10, x11, x12, x13, x14, x15, x16, x17, x18, x19, x20, x21, x22, x23, x24, x25, x26, x27, x28, x29, x30, x31, x32, x33, x34, x35, x36, x37, x38, x39, x40, x41, x42, x43, x44, x45, rfl⟩ := list_len46 vs hlen
      have y0 : x0 = _ := hV 0 _ rfl
      subst y0
      have y1 : x1 = _ := hV 1 _ rfl
      subst y1
      have y2 : x2 = _ := hV 2 _ rfl
      subst y2
      have y3 : x3 = _ := hV 3 _ rfl
      subst y3
      have y4 : x4 = _ := hV 4 _ rfl
      subst y4
      have y5 : x5 = _ := hV 5 _ rfl
      subst y5
      have y6 : x6 = _ := hV 6 _ rfl
      subst y6
      have y7 : x7 = _ := hV 7 _ rfl
      subst y7
      have y8 : x8 = _ := hV 8 _ rfl
      subst y8
      have y9 : x9 = _ := hV 9 _ rfl
      subst y9
      have y10 : x10 = _ := hV 10 _ rfl
      subst y10
      have y11 : x11 = _ := hV 11 _ rfl
      subst y11
      have y12 : x12 = _ := hV 12 _ rfl
      subst y12
      have y13 : x13 = _ := hV 13 _ rfl
      subst y13
      have y14 : x14 = _ := hV 14 _ rfl
      subst y14
      have y15 : x15 = _ := hV 15 _ rfl
      subst y15
      have y16 : x16 = _ := hV 16 _ rfl
      subst y16
      have y17 : x17 = _ := hV 17 _ rfl
      subst y17
      have y18 : x18 = _ := hV 18 _ rfl
      subst y18
      have y19 : x19 = _ := hV 19 _ rfl
      subst y19
      have y20 : x20 = _ := hV 20 _ rfl
      subst y20
      have y21 : x21 = _ := hV 21 _ rfl
      subst y21
      have y22 : x22 = _ := hV 22 _ rfl
      subst y22
      have y23 : x23 = _ := hV 23 _ rfl
      subst y23
      have y24 : x24 = _ := hV 24 _ rfl
      subst y24
      have y25 : x25 = _ := hV 25 _ rfl
      subst y25
      have y26 : x26 = _ := hV 26 _ rfl
      subst y26
      have y27 : x27 = _ := hV 27 _ rfl
      subst y27
      have y28 : x28 = _ := hV 28 _ rfl
      subst y28
      have y29 : x29 = _ := hV 29 _ rfl
      subst y29
      have y30 : x30 = _ := hV 30 _ rfl
      subst y30
      have y31 : x31 = _ := hV 31 _ rfl
      subst y31
      have y32 : x32 = _ := hV 32 _ rfl
      subst y32
      have y33 : x33 = _ := hV 33 _ rfl
      subst y33
      have y34 : x34 = _ := hV 34 _ rfl
      subst y34
      have y35 : x35 = _ := hV 35 _ rfl
      subst y35
      have y36 : x36 = _ := hV 36 _ rfl
      subst y36
      have y37 : x37 = _ := hV 37 _ rfl
      subst y37
      have y38 : x38 = _ := hV 38 _ rfl
      subst y38
      have y39 : x39 = _ := hV 39 _ rfl
      subst y39
      have y40 : x40 = _ := hV 40 _ rfl
      subst y40
      have y41 : x41 = _ := hV 41 _ rfl
      subst y41
      have y42 : x42 = _ := hV 42 _ rfl
      subst y42
      have y43 : x43 = _ := hV 43 _ rfl
      subst y43
      have y44 : x44 = _ := hV 44 _ rfl
      subst y44
      have y45 : x45 = _ := hV 45 _ rfl
      subst y45
      clear hV hlen
      simp only [Exit.then, putAll, Act.put, List.setIfInBounds_toArray, List.set_cons_zero, List.set_cons_succ]
      subst hI
      clear g1 g2 g3 g4 g5 g6 g7 g8 g9 ga gb gc
      go_wp2_with fail
      go_ret
      refine ⟨_, rfl, Int.tmod_nonneg _ (xor_bd _ _ (by omega) (by omega) ?_ ?_), Int.tmod_lt_of_pos _ (by omega), (hR.out.set _).drew, ((Kp.refl _ _).set _ _).drew⟩
      · first | omega | exact Int.ediv_nonneg (by omega) (by omega)
      · omega

end Go.Proofs.Ytkphkkfgphhjcaa
