/- What draws: a part, a time, ports (and how many ops). -/
import Derived.Test.YtkphkkfgphhjcaaQ7
namespace Go.Proofs.Ytkphkkfgphhjcaa
open Go.RowKit
set_option linter.unusedSimpArgs false
set_option linter.unusedVariables false
theorem list_len16_Q8 : ∀ (l : List Value), l.length = 16 → ∃ x0 x1 x2 x3 x4 x5 x6 x7 x8 x9 x10 x11 x12 x13 x14 x15, l = x0 :: x1 :: x2 :: x3 :: x4 :: x5 :: x6 :: x7 :: x8 :: x9 :: x10 :: x11 :: x12 :: x13 :: x14 :: x15 :: []
  | x0 :: x1 :: x2 :: x3 :: x4 :: x5 :: x6 :: x7 :: x8 :: x9 :: x10 :: x11 :: x12 :: x13 :: x14 :: x15 :: [], _ => ⟨x0, x1, x2, x3, x4, x5, x6, x7, x8, x9, x10, x11, x12, x13, x14, x15, rfl⟩
theorem list_len19_Q8 : ∀ (l : List Value), l.length = 19 → ∃ x0 x1 x2 x3 x4 x5 x6 x7 x8 x9 x10 x11 x12 x13 x14 x15 x16 x17 x18, l = x0 :: x1 :: x2 :: x3 :: x4 :: x5 :: x6 :: x7 :: x8 :: x9 :: x10 :: x11 :: x12 :: x13 :: x14 :: x15 :: x16 :: x17 :: x18 :: []
  | x0 :: x1 :: x2 :: x3 :: x4 :: x5 :: x6 :: x7 :: x8 :: x9 :: x10 :: x11 :: x12 :: x13 :: x14 :: x15 :: x16 :: x17 :: x18 :: [], _ => ⟨x0, x1, x2, x3, x4, x5, x6, x7, x8, x9, x10, x11, x12, x13, x14, x15, x16, x17, x18, rfl⟩

/-- A row of bytes that is read. -/
def Code_ (w : World) (A : Option Addr) (n c : Nat) : Prop := n ≤ c ∧ (c ≤ 9223372036854775807 ∧ n ≤ 140737488351232) ∧ ∀ j, j < n → ∃ ad x, A = some ad ∧ w.cell? (ad.add j) = some (.int .u8 x) ∧ 0 ≤ x ∧ x ≤ 255
theorem open_b (wb w : World) (A : Option Addr) (n c : Nat) (hA : ∀ j, j < n → ∃ ad x, A = some ad ∧ wb.cell? (ad.add j) = some (.int .u8 x) ∧ 0 ≤ x ∧ x ≤ 255) (hw : Below wb.heap.size wb w) (hc : n ≤ c) (hm : c ≤ 9223372036854775807) : Calls Try.prog 33 #[.slice A n c] w fun e w' => ∃ g, g = w.heap.size ∧ e = .returned (.pointer (some ⟨g, 0, none⟩)) ∧ Rd wb w' g 0 ∧ Below w.heap.size w w' := by
  have hA := Lib.hid hA
  have hs := hw.size
  by_cases h : 2000 < n
  · go_enter Try.func33, Try.ntmps33
    go_wp2_with fail
    go_ret
    exact ⟨_, rfl, rfl, ⟨hs, hw.alloc hs _, A, 2000, c, heap_top _ _ rfl, by omega, fun j hj => hA.out j (by omega)⟩, (Below.refl _ _).alloc (Nat.le_refl _) _⟩
  · go_enter Try.func33, Try.ntmps33
    go_wp2_with fail
    go_ret
    exact ⟨_, rfl, rfl, ⟨hs, hw.alloc hs _, A, n, c, heap_top _ _ rfl, by omega, fun j hj => hA.out j (by omega)⟩, (Below.refl _ _).alloc (Nat.le_refl _) _⟩
/-- A part's value. -/
def PartV (lo : Nat) (v : Value) (W : World) : Prop := ∃ (u1 u2 u3 : Value) (pc : Int) (fl : Bool) (n1 n2 n3 : Nat), v = .agg #[u1, u2, .int .i64 pc, .bool fl, u3] ∧ IR lo 3 u1 n1 W ∧ IR lo 1 u2 n2 W ∧ IR lo 1 u3 n3 W ∧ n1 ≤ 16
theorem PartV.st {lo : Nat} : StableV (IP lo) (PartV lo) := fun v W W' hp h => by
  obtain ⟨u1, u2, u3, pc, fl, n1, n2, n3, e, h1, h2, h3, h4⟩ := h
  exact ⟨u1, u2, u3, pc, fl, n1, n2, n3, e, h1.st hp, h2.st hp, h3.st hp, h4⟩
/-- Blocks from lo on stay. -/
structure FX (lo : Nat) (W1 W2 : World) : Prop where
  size : W1.heap.size ≤ W2.heap.size
  block : ∀ k, lo ≤ k → k < W1.heap.size → W2.heap[k]? = W1.heap[k]?
theorem FX.refl (lo : Nat) (W : World) : FX lo W W := ⟨Nat.le_refl _, fun _ _ _ => rfl⟩
theorem FX.of_kp {lo g : Nat} {a b : World} (h : Kp g a b) (hg : g < lo) : FX lo a b := ⟨h.size, fun k hk hl => h.block k hl (by omega)⟩
theorem FX.alloc {lo : Nat} (a : World) (o : Obj) : FX lo a (a.alloc o) := ⟨by simp, fun k hk hl => Below.heap_alloc a o k hl⟩
theorem FX.ip {lo : Nat} {a b : World} (h : FX lo a b) : IP lo a b := ⟨h.size, fun k cur e hk hc => ⟨cur, (h.block k hk (Array.getElem?_eq_some_iff.1 hc).1).trans hc, rfl, fun j x hx => ⟨x, hx⟩⟩⟩
theorem FX.sv {lo : Nat} {p : Value → World → Prop} (h : StableV (IP lo) p) : StableV (FX lo) p := fun v W1 W2 hx hp => h v W1 W2 hx.ip hp
theorem FX.low5 {lo : Nat} (W : World) (k : Nat) (hk : k < lo) (v0 v1 v2 v3 v4 : Value) : FX lo W (((((W.setCell ⟨k, 0, none⟩ v0).setCell ⟨k, 1, none⟩ v1).setCell ⟨k, 2, none⟩ v2).setCell ⟨k, 3, none⟩ v3).setCell ⟨k, 4, none⟩ v4) := ⟨by simp, fun x hx hl => by
  have hne : x ≠ k := by omega
  rw [Below.heap_setCell _ _ _ _ hne, Below.heap_setCell _ _ _ _ hne, Below.heap_setCell _ _ _ _ hne, Below.heap_setCell _ _ _ _ hne, Below.heap_setCell _ _ _ _ hne]⟩
def PortV (lo : Nat) (v : Value) (W : World) : Prop := ∃ xs f, SL kI W v xs f ∧ (∀ b ∈ f, lo ≤ b) ∧ xs.length ≤ 4 ∧ ∀ x ∈ xs, 0 ≤ x ∧ x ≤ 9999
theorem PortV.st {lo : Nat} : StableV (FX lo) (PortV lo) := fun v W W' hp h => by
  obtain ⟨xs, f, h1, h2, h3⟩ := h
  exact ⟨xs, f, h1.keep (fun b hb => hp.block b (h2 b hb) (h1.lt b hb)), h2, h3⟩
theorem Kp.below2 {g : Nat} {a b : World} (h : Kp g a b) (hg : a.heap.size ≤ g) : Below a.heap.size a b := ⟨h.os, h.tape, h.output, h.size, fun i hi => h.block i hi (by omega)⟩
/-- A part in the result's block. -/
def PB (lo lo2 : Nat) (W : World) : Prop := ∃ cs, W.heap[lo]? = some (.cells cs 26 (0, 0)) ∧ PartV lo2 (.agg cs) W
def RBlk (b : Bool) (lo lo2 : Nat) (W : World) : Prop := if b = true then PB lo lo2 W else ZB lo W
theorem RBlk.st {b : Bool} {lo lo2 : Nat} {W W' : World} (h : RBlk b lo lo2 W) (hp : IP lo2 W W') (hb : W'.heap[lo]? = W.heap[lo]?) : RBlk b lo lo2 W' := by
  cases b
  · exact ZB.st (show ZB lo W from h) hb
  · obtain ⟨cs, h1, h2⟩ := (show PB lo lo2 W from h)
    exact (show PB lo lo2 W' from ⟨cs, hb.trans h1, PartV.st _ _ _ hp h2⟩)
theorem RBlk.lt {b : Bool} {lo lo2 : Nat} {W : World} (h : RBlk b lo lo2 W) : lo < W.heap.size := by
  unfold RBlk at h
  split at h
  · obtain ⟨cs, h1, h2⟩ := h
    exact (Array.getElem?_eq_some_iff.1 h1).1
  · exact h.lt
theorem RBlk.kp {b : Bool} {lo g : Nat} {W W' : World} (h : RBlk b lo (g + 1) W) (hk : Kp g W W') (hne : lo ≠ g) : RBlk b lo (g + 1) W' := h.st (.of_kp hk (by omega)) (hk.block lo h.lt hne)
theorem RBlk.alloc {b : Bool} {lo lo2 : Nat} {W : World} (h : RBlk b lo lo2 W) (o : Obj) : RBlk b lo lo2 (W.alloc o) := h.st ((IP.refl _ _).alloc o) (Below.heap_alloc W o lo h.lt)
theorem bN_le (bs : Nat → Bool) : ∀ l : List Nat, 0 ≤ bN bs l ∧ bN bs l ≤ l.length
  | [] => by simp [bN]
  | i :: r => by
    have := bN_le bs r
    simp only [bN, List.length_cons]
    split <;> omega
section
variable {w0 w W : World} {g : Nat} {a b : Int} {F : World → Prop}
theorem DI.lt (h : DI w0 w g a b F W) : g < W.heap.size := by
  obtain ⟨q, h1, h2, h3, h4, h5⟩ := h
  exact h1.lt
theorem DI.nw {c : Int} {bs : Nat → Bool} {l : List Nat} {j : Nat} (h : DI w0 w g a c F W) (hc : c ≤ 3000 * bN bs l + 3000) (hj : l.count j = 1) (hb : bs j = false) : DI w0 w g a (3000 * bN (upB bs j) l) F W := h.mono (Int.le_refl _) (by rw [bN_up1 hb hj]; omega)
theorem DI.n0 {bs : Nat → Bool} {l : List Nat} {j : Nat} (h : DI w0 w g a (3000 * bN bs l) F W) (hj : l.contains j = false) : DI w0 w g a (3000 * bN (upB bs j) l) F W := by rw [bN_up hj]; exact h
theorem DI.own' (h : DI w0 w g a b F W) {k o : Nat} (hk : w.heap.size ≤ k) (hw : w0.heap.size ≤ w.heap.size) (hg : g ≠ k) (u : Value) {G : World → Prop} (hF : F W → G (W.setCell ⟨k, o, none⟩ u)) : DI w0 w g a b G (W.setCell ⟨k, o, none⟩ u) := by
  obtain ⟨q, h1, h2, h3, h4, h5⟩ := h
  exact ⟨q, h1.own (by show w0.heap.size ≤ k; omega) hg u, h2, h3, h4.own (by show _ ≤ k; omega) u, hF h5⟩
theorem DI.any (h : DI w0 w g a b F W) (hF : ∀ W W', Kp g W W' → F W → F W') (ha : 0 ≤ a) (hb : b ≤ 1000000000) : Calls Try.prog 34 #[.pointer (some ⟨g, 0, none⟩)] W fun e W' => ∃ v, e = .returned v ∧ PartV (g + 1) v W' ∧ DI w0 w g a (b + 2000) F W' ∧ Kp g W W' := by
  obtain ⟨q, h1, e2, e3, h4, h5⟩ := h
  have hl := h1.lt
  refine (anyPart_d w0 W g q h1 (by omega) (by omega)).mono ?_
  rintro e W' ⟨u1, u2, u3, pc, fl, n1, n2, n3, rfl, ⟨q2, r1, r2, r3, r4, i1, i2, i3⟩, hn1, hn2⟩
  exact ⟨_, rfl, ⟨u1, u2, u3, pc, fl, n1, n2, n3, rfl, i1.mono (by omega), i2.mono (by omega), i3.mono (by omega), hn2⟩, ⟨q2, r1, by omega, by omega, h4.trans r4, hF _ _ r4 h5⟩, r4⟩
theorem DI.ports (h : DI w0 w g a b F W) (hF : ∀ W W', Kp g W W' → F W → F W') (ha : 0 ≤ a) (hb : b ≤ 1000000000) : Calls Try.prog 36 #[.pointer (some ⟨g, 0, none⟩)] W fun e W' => ∃ v, e = .returned v ∧ PortV (g + 1) v W' ∧ DI w0 w g a (b + 100) F W' ∧ Kp g W W' := by
  obtain ⟨q, h1, e2, e3, h4, h5⟩ := h
  have hl := h1.lt
  refine (ports_d w0 W g q h1 (by omega) (by omega)).mono ?_
  rintro e W' ⟨xs, A, c, f, q2, rfl, hs, ho, hn, hv, r2, r3, r1, r4⟩
  exact ⟨_, rfl, ⟨xs, f, hs, fun b hb => by have := (ho.2 b hb).1.1; omega, hn, hv⟩, ⟨q2, r1, by omega, by omega, h4.trans r4, hF _ _ r4 h5⟩, r4⟩
end
theorem IP.low {lo : Nat} {a b : World} (h : IP lo a b) {k : Nat} (hk : k < lo) (o : Nat) (u : Value) : IP lo a (b.setCell ⟨k, o, none⟩ u) := h.trans ⟨by simp, fun x cur e hx hc => ⟨cur, blk_set hc _ _ (by omega), rfl, fun j y hy => ⟨y, hy⟩⟩⟩
theorem IP.low5 {lo : Nat} (W : World) (k : Nat) (hk : k < lo) (v0 v1 v2 v3 v4 : Value) : IP lo W (((((W.setCell ⟨k, 0, none⟩ v0).setCell ⟨k, 1, none⟩ v1).setCell ⟨k, 2, none⟩ v2).setCell ⟨k, 3, none⟩ v3).setCell ⟨k, 4, none⟩ v4) := (((((IP.refl _ _).low hk 0 v0).low hk 1 v1).low hk 2 v2).low hk 3 v3).low hk 4 v4
theorem DI.low5 {w0 w W : World} {g : Nat} {a b : Int} {F G : World → Prop} (h : DI w0 w g a b F W) {k : Nat} (hk : w.heap.size ≤ k) (hw : w0.heap.size ≤ w.heap.size) (hg : g ≠ k) (v0 v1 v2 v3 v4 : Value) (hG : G (((((W.setCell ⟨k, 0, none⟩ v0).setCell ⟨k, 1, none⟩ v1).setCell ⟨k, 2, none⟩ v2).setCell ⟨k, 3, none⟩ v3).setCell ⟨k, 4, none⟩ v4)) : DI w0 w g a b G (((((W.setCell ⟨k, 0, none⟩ v0).setCell ⟨k, 1, none⟩ v1).setCell ⟨k, 2, none⟩ v2).setCell ⟨k, 3, none⟩ v3).setCell ⟨k, 4, none⟩ v4) :=
  ((((h.own' (G := fun _ => True) hk hw hg v0 (fun _ => trivial)).own' (G := fun _ => True) hk hw hg v1 (fun _ => trivial)).own' (G := fun _ => True) hk hw hg v2 (fun _ => trivial)).own' (G := fun _ => True) hk hw hg v3 (fun _ => trivial)).own' hk hw hg v4 (fun _ => hG)
theorem PartV.pt {lo : Nat} {v : Value} {W : World} (h : PartV lo v W) : ∃ v1 v2 v3 pt f1 f2 f3, v = .agg #[v1, v2, .int .i64 pt.pc, .bool pt.fails, v3] ∧ PtF W pt v1 v2 v3 f1 f2 f3 ∧ pt.prog.length ≤ 16 := by
  obtain ⟨u1, u2, u3, pc, fl, n1, n2, n3, rfl, h1, h2, h3, h4⟩ := h
  obtain ⟨ps, f1, l1, s1⟩ := h1.ops
  obtain ⟨cs, f2, l2, s2⟩ := h2.ints
  obtain ⟨bs, f3, l3, s3⟩ := h3.ints
  exact ⟨u1, u2, u3, ⟨ps, cs, pc, fl, bs⟩, f1, f2, f3, rfl, ⟨s1, s2, s3⟩, by show ps.length ≤ 16; omega⟩
/-- What a draw of a part that runs hands back. -/
def DpQ (w : World) (v1 v2 v3 v4 : Value) (pt : Pt) (xs : List Int) (w' : World) : Prop := ∃ f1 f2 f3 f4, PtF w' pt v1 v2 v3 f1 f2 f3 ∧ SL kI w' v4 xs f4 ∧ pt.prog.length ≤ 16 ∧ xs.length ≤ 4 ∧ (∀ x ∈ xs, 0 ≤ x ∧ x ≤ 9999) ∧ Below w.heap.size w w'
def StepD (w : World) (e : Ending) (w' : World) : Prop := ∃ v1 v2 v3 v4 pt now xs, e = .returned (.tuple #[.agg #[v1, v2, .int .i64 pt.pc, .bool pt.fails, v3], .int .i64 now, v4]) ∧ DpQ w v1 v2 v3 v4 pt xs w'
def RunD (w : World) (e : Ending) (w' : World) : Prop := ∃ v1 v2 v3 v4 pt now xs most, e = .returned (.tuple #[.agg #[v1, v2, .int .i64 pt.pc, .bool pt.fails, v3], .int .i64 now, v4, .int .i64 most]) ∧ DpQ w v1 v2 v3 v4 pt xs w'
set_option maxHeartbeats 4000000
set_option maxRecDepth 100000
theorem drawStep_d (w : World) (A : Option Addr) (n c : Nat) (h : Code_ w A n c) : Calls Try.prog 9 #[.slice A n c] w (StepD w) := by
  have hC := Lib.hid h
  clear h
  go_enter Try.func9, Try.ntmps9
  go_wp2_with fail
  refine (open_b w _ A n c hC.out.2.2 (by repeat (first | (with_reducible exact Below.refl _ _) | (with_reducible assumption) | (with_reducible refine Below.drew ?_) | (with_reducible refine below_drewN' ?_ _) | (with_reducible refine Below.setCell ?_ (by first | (simp; done) | (simp; omega) | omega) _) | (with_reducible refine Below.alloc ?_ (by first | (simp; done) | (simp; omega) | omega) _) | (with_reducible refine Below.trans ?_ (Below.mono (by assumption) (by first | (simp; done) | (simp; omega) | omega))))) hC.out.1 hC.out.2.1.1).mono ?_
  rintro e w1 ⟨g, hg, rfl, hR1, hB1⟩
  have hlg : w.heap.size ≠ g := by rw [hg]; simp
  have hlg2 : w.heap.size ≤ g := by rw [hg]; simp
  have hI2 : DI w w g 0 0 (RBlk false w.heap.size (g + 1)) w1 := ⟨0, hR1, by omega, by omega, (Kp.refl _ _).of_below ((Below.refl _ _).alloc (Nat.le_refl _) _) |>.of_below hB1, ⟨0, blk_below (heap_top _ _ rfl) hB1⟩⟩
  clear hR1 hB1 hg
  replace hI2 := Lib.hid hI2
  go_wp2_with fail
  apply region_inv5 (VV2 [fun _ => IsV _, fun _ => (PartV (g + 1)), fun _ => IsV _, fun _ => (fun v _ => IsI v), fun _ => (LI (g + 1) 3), fun _ => IsV _, fun _ => (IdxV 12), fun _ => (IdxV 34), fun _ => (IdxV 3), fun _ => (PtrI (g + 1)), fun _ => (fun v _ => IsI v), fun _ => IsV _, fun _ => (PortV (g + 1)), fun _ => (AnyV), fun _ => (fun v _ => IsI v), fun _ => (PortV (g + 1))]) (fun bs W => DI w w g 0 (3000 * bN bs [1, 3, 6, 12]) (RBlk (bs 13) w.heap.size (g + 1)) W) (FX (g + 1)) (by kernel_rfl) 21 rfl (by kernel_rfl)
  case h0 =>
    exact (hI2.out.mono (by omega) (by simp [bN])).drew (fun h => h.st ((IP.refl _ _).drew) rfl)
  case hsteps =>
    refine ⟨?_, ?_, ?_, ?_, ?_, ?_, ?_, ?_, ?_, ?_, ?_, ?_, ?_, ?_, ?_, ?_, trivial⟩
    · refine stepOK5_of _ [5] rfl rfl (by kernel_rfl) ?_ rfl
      intro bs ρ W hbj hbn hc hf hn ho hcl hI
      clear hn
      have s5 := ho.1
      simp only [Array.getD_eq_getD_getElem?] at s5
      clear ho
      have hI' := Lib.hid hI
      clear hI
      go_simp
      exact postL_mk (hI'.out.n0 rfl) (FX.refl _ _) rfl
    · refine stepOK5_of _ [] rfl rfl (by kernel_rfl) ?_ rfl
      intro bs ρ W hbj hbn hc hf hn ho hcl hI
      obtain ⟨u0, q0, s8⟩ := hn.1
      clear hn
      have q0 : u0 = _ := q0
      subst q0
      have s8 : ρ (.tmp 8) = _ := s8
      clear ho
      have hI' := Lib.hid hI
      clear hI
      go_simp
      refine (hI'.out.any (fun _ _ hK hF => hF.kp hK hlg) (by omega) (by have := bN_le bs [1, 3, 6, 12]; simp at this; omega)).mono ?_
      rintro e W2 ⟨v, rfl, hv, hD, hK⟩
      exact endp_mk (postL_mk (hD.nw (by omega) rfl hbj) (FX.of_kp hK (by omega)) hv)
    · refine stepOK5_of _ [5] rfl rfl (by kernel_rfl) ?_ rfl
      intro bs ρ W hbj hbn hc hf hn ho hcl hI
      clear hn
      have s5 := ho.1
      simp only [Array.getD_eq_getD_getElem?] at s5
      clear ho
      have hI' := Lib.hid hI
      clear hI
      go_simp
      exact postL_mk (hI'.out.n0 rfl) (FX.refl _ _) rfl
    · refine stepOK5_of _ [] rfl rfl (by kernel_rfl) ?_ rfl
      intro bs ρ W hbj hbn hc hf hn ho hcl hI
      obtain ⟨u2, q2, s10⟩ := hn.1
      clear hn
      have q2 : u2 = _ := q2
      subst q2
      have s10 : ρ (.tmp 10) = _ := s10
      clear ho
      have hI' := Lib.hid hI
      clear hI
      go_simp
      refine (hI'.out.pick (fun _ _ hK hF => hF.kp hK hlg) 256 (by omega) (by have := bN_le bs [1, 3, 6, 12]; simp at this; omega) (by omega) (by omega)).mono ?_
      rintro e W2 ⟨r, rfl, _, _, hD, hK⟩
      exact endp_mk (postL_mk (hD.nw (by omega) rfl hbj) (FX.of_kp hK (by omega)) ⟨_, rfl⟩)
    · refine stepOK5_of _ [] rfl rfl (by kernel_rfl) ?_ rfl
      intro bs ρ W hbj hbn hc hf hn ho hcl hI
      obtain ⟨u3, q3, s11⟩ := hn.1
      clear hn
      obtain ⟨r3, rfl⟩ := q3
      have s11 : ρ (.tmp 11) = _ := s11
      clear ho
      have hI' := Lib.hid hI
      have hsz := hI.lt
      clear hI
      go_simp
      exact postL_mk ((hI'.out.n0 rfl).alloc _ (fun h => h.alloc _)) (FX.alloc _ _) ⟨_, _, rfl, hsz, rfl, isI_of (l := [r3, 99999, -1]), heap_top _ _ rfl⟩
    · refine stepOK5_of _ [5] rfl rfl (by kernel_rfl) ?_ rfl
      intro bs ρ W hbj hbn hc hf hn ho hcl hI
      clear hn
      have s5 := ho.1
      simp only [Array.getD_eq_getD_getElem?] at s5
      clear ho
      have hI' := Lib.hid hI
      clear hI
      go_simp
      exact postL_mk (hI'.out.n0 rfl) (FX.refl _ _) rfl
    · refine stepOK5_of _ [] rfl rfl (by kernel_rfl) ?_ rfl
      intro bs ρ W hbj hbn hc hf hn ho hcl hI
      obtain ⟨u5, q5, s13⟩ := hn.1
      clear hn
      have q5 : u5 = _ := q5
      subst q5
      have s13 : ρ (.tmp 13) = _ := s13
      clear ho
      have hI' := Lib.hid hI
      clear hI
      go_simp
      refine (hI'.out.pick (fun _ _ hK hF => hF.kp hK hlg) 12 (by omega) (by have := bN_le bs [1, 3, 6, 12]; simp at this; omega) (by omega) (by omega)).mono ?_
      rintro e W2 ⟨r, rfl, ra, rb, hD, hK⟩
      exact endp_mk (postL_mk (hD.nw (by omega) rfl hbj) (FX.of_kp hK (by omega)) ⟨r, rfl, ra, rb⟩)
    · refine stepOK5_of _ [] rfl rfl (by kernel_rfl) ?_ rfl
      intro bs ρ W hbj hbn hc hf hn ho hcl hI
      obtain ⟨u6, q6, s14⟩ := hn.1
      clear hn
      obtain ⟨r6, rfl, r60, r61⟩ := q6
      have s14 : ρ (.tmp 14) = _ := s14
      clear ho
      have hI' := Lib.hid hI
      clear hI
      go_simp
      exact postL_mk (hI'.out.n0 rfl) (FX.refl _ _) ⟨r6 * 3, by rw [wr (by omega) (by omega)], by omega, by omega⟩
    · refine stepOK5_of _ [] rfl rfl (by kernel_rfl) ?_ rfl
      intro bs ρ W hbj hbn hc hf hn ho hcl hI
      obtain ⟨u7, q7, s15⟩ := hn.1
      clear hn
      obtain ⟨r7, rfl, r70, r71⟩ := q7
      have s15 : ρ (.tmp 15) = _ := s15
      clear ho
      have hI' := Lib.hid hI
      clear hI
      go_simp
      have e1 : r7.tdiv 12 = r7 / 12 := Int.tdiv_eq_ediv_of_nonneg r70
      exact postL_mk (hI'.out.n0 rfl) (FX.refl _ _) ⟨r7 / 12, by rw [e1, wr (by omega) (by omega)], by omega, by omega⟩
    · refine stepOK5_of _ [] rfl rfl (by kernel_rfl) ?_ rfl
      intro bs ρ W hbj hbn hc hf hn ho hcl hI
      obtain ⟨u4, q4, s12⟩ := hn.1
      obtain ⟨u8, q8, s16⟩ := hn.2.1
      clear hn
      have hl4 : (LI (g + 1) 3) u4 W := q4
      have s12 : ρ (.tmp 12) = _ := s12
      obtain ⟨r8, rfl, r80, r81⟩ := q8
      have s16 : ρ (.tmp 16) = _ := s16
      clear ho
      have hI' := Lib.hid hI
      clear hI
      obtain ⟨A4, cs4, rfl, hA4, hs4, hi4, hb4⟩ := hl4
      go_simp
      obtain ⟨r, hr⟩ := hi4 r8.toNat _ (Array.getElem?_eq_getElem (by omega))
      exact postL_mk (hI'.out.n0 rfl) (FX.refl _ _) ⟨A4, _, cs4, _, rfl, hA4, hb4, r, by rw [← hr]; exact Array.getElem?_eq_getElem (by omega)⟩
    · refine stepOK5_of _ [] rfl rfl (by kernel_rfl) ?_ rfl
      intro bs ρ W hbj hbn hc hf hn ho hcl hI
      obtain ⟨u9, q9, s17⟩ := hn.1
      clear hn
      obtain ⟨k9, o9, cs9, t9, rfl, hl9, hb9, hc9⟩ := q9
      have s17 : ρ (.tmp 17) = _ := s17
      clear ho
      have hI' := Lib.hid hI
      clear hI
      obtain ⟨y9, hy9⟩ := hc9
      have j0 := blk_cell hb9 o9
      rw [hy9] at j0
      go_simp
      exact postL_mk (hI'.out.n0 rfl) (FX.refl _ _) ⟨_, rfl⟩
    · refine stepOK5_of _ [5] rfl rfl (by kernel_rfl) ?_ rfl
      intro bs ρ W hbj hbn hc hf hn ho hcl hI
      clear hn
      have s5 := ho.1
      simp only [Array.getD_eq_getD_getElem?] at s5
      clear ho
      have hI' := Lib.hid hI
      clear hI
      go_simp
      exact postL_mk (hI'.out.n0 rfl) (FX.refl _ _) rfl
    · refine stepOK5_of _ [] rfl rfl (by kernel_rfl) ?_ rfl
      intro bs ρ W hbj hbn hc hf hn ho hcl hI
      obtain ⟨u11, q11, s19⟩ := hn.1
      clear hn
      have q11 : u11 = _ := q11
      subst q11
      have s19 : ρ (.tmp 19) = _ := s19
      clear ho
      have hI' := Lib.hid hI
      clear hI
      go_simp
      refine (hI'.out.ports (fun _ _ hK hF => hF.kp hK hlg) (by omega) (by have := bN_le bs [1, 3, 6, 12]; simp at this; omega)).mono ?_
      rintro e W2 ⟨v, rfl, hv, hD, hK⟩
      exact endp_mk (postL_mk (hD.nw (by omega) rfl hbj) (FX.of_kp hK (by omega)) hv)
    · refine stepOK5_of _ [2] rfl rfl (by kernel_rfl) ?_ rfl
      intro bs ρ W hbj hbn hc hf hn ho hcl hI
      obtain ⟨u1, q1, s9⟩ := hn.1
      clear hn
      have hp1 : (PartV (g + 1)) u1 W := q1
      have s9 : ρ (.tmp 9) = _ := s9
      have s2 := ho.1
      simp only [Array.getD_eq_getD_getElem?] at s2
      clear ho
      have hI' := Lib.hid hI
      have hb13 : RBlk (bs 13) w.heap.size (g + 1) W := hI.f
      rw [hbj] at hb13
      obtain ⟨z, hz⟩ := (show ZB w.heap.size W from hb13)
      obtain ⟨u1, u2, u3, pc, fl, n1, n2, n3, rfl, i1, i2, i3, i4⟩ := hp1
      obtain ⟨B1, b1, rfl, _⟩ := i1.form
      obtain ⟨B2, b2, rfl, _⟩ := i2.form
      obtain ⟨B3, b3, rfl, _⟩ := i3.form
      have j0 := blk_cell hz
      have j1 := blk_frozen hz
      clear hI hb13
      go_simp
      have hp2 := IP.low5 (lo := g + 1) W w.heap.size (by omega) (.slice B1 n1 b1) (.slice B2 n2 b2) (.int .i64 pc) (.bool fl) (.slice B3 n3 b3)
      have hD2 := DI.low5 hI'.out (by omega : w.heap.size ≤ w.heap.size) (Nat.le_refl _) hlg.symm (.slice B1 n1 b1) (.slice B2 n2 b2) (.int .i64 pc) (.bool fl) (.slice B3 n3 b3) (G := RBlk true w.heap.size (g + 1)) (show PB _ _ _ from ⟨_, blk_put (blk_put (blk_put (blk_put (blk_put hz 0 _) 1 _) 2 _) 3 _) 4 _, _, _, _, pc, fl, n1, n2, n3, rfl, i1.st hp2, i2.st hp2, i3.st hp2, i4⟩)
      exact postL_mk (hD2.n0 rfl) (FX.low5 W w.heap.size (by omega) _ _ _ _ _) trivial
    · refine stepOK5_of _ [] rfl rfl (by kernel_rfl) ?_ rfl
      intro bs ρ W hbj hbn hc hf hn ho hcl hI
      obtain ⟨u10, q10, s18⟩ := hn.1
      clear hn
      obtain ⟨r10, rfl⟩ := q10
      have s18 : ρ (.tmp 18) = _ := s18
      clear ho
      have hI' := Lib.hid hI
      clear hI
      go_simp
      exact postL_mk (hI'.out.n0 rfl) (FX.refl _ _) ⟨_, rfl⟩
    · refine stepOK5_of _ [] rfl rfl (by kernel_rfl) ?_ rfl
      intro bs ρ W hbj hbn hc hf hn ho hcl hI
      obtain ⟨u12, q12, s20⟩ := hn.1
      clear hn
      have hp12 : (PortV (g + 1)) u12 W := q12
      have s20 : ρ (.tmp 20) = _ := s20
      clear ho
      have hI' := Lib.hid hI
      clear hI
      go_simp
      exact postL_mk (hI'.out.n0 rfl) (FX.refl _ _) hp12
  case hst => exact vv_stable2 ⟨fun _ => isV_st, fun _ => FX.sv PartV.st, fun _ => isV_st, fun _ => fun _ _ _ _ h => h, fun _ => FX.sv LI.st, fun _ => isV_st, fun _ => fun _ _ _ _ h => h, fun _ => fun _ _ _ _ h => h, fun _ => fun _ _ _ _ h => h, fun _ => FX.sv ptr_st, fun _ => fun _ _ _ _ h => h, fun _ => isV_st, fun _ => PortV.st, fun _ => fun _ _ _ _ h => h, fun _ => fun _ _ _ _ h => h, fun _ => PortV.st, trivial⟩
  case hloc => exact locAll_of ⟨locE_c, locE_c, locE_c, locE_c, locE_c, locE_c, locE_c, locE_c, locE_c, locE_c, locE_c, locE_c, locE_c, locE_c, locE_c, locE_c, trivial⟩
  intro vs bs W hlen hall hI hV
  obtain ⟨x0, x1, x2, x3, x4, x5, x6, x7, x8, x9, x10, x11, x12, x13, x14, x15, rfl⟩ := list_len16_Q8 vs hlen
  have y0 : x0 = _ := hV 0 _ rfl
  subst y0
  have y1 := hV 1 _ rfl
  have hp1 : (PartV (g + 1)) x1 W := y1
  have y2 : x2 = _ := hV 2 _ rfl
  subst y2
  have y3 := hV 3 _ rfl
  obtain ⟨r3, rfl⟩ := y3
  have y4 := hV 4 _ rfl
  have hl4 : (LI (g + 1) 3) x4 W := y4
  have y5 : x5 = _ := hV 5 _ rfl
  subst y5
  have y6 := hV 6 _ rfl
  obtain ⟨r6, rfl, r60, r61⟩ := y6
  have y7 := hV 7 _ rfl
  obtain ⟨r7, rfl, r70, r71⟩ := y7
  have y8 := hV 8 _ rfl
  obtain ⟨r8, rfl, r80, r81⟩ := y8
  have y9 := hV 9 _ rfl
  obtain ⟨k9, o9, cs9, t9, rfl, hl9, hb9, hc9⟩ := y9
  have y10 := hV 10 _ rfl
  obtain ⟨r10, rfl⟩ := y10
  have y11 : x11 = _ := hV 11 _ rfl
  subst y11
  have y12 := hV 12 _ rfl
  have hp12 : (PortV (g + 1)) x12 W := y12
  have y13 := hV 13 _ rfl
  have y14 := hV 14 _ rfl
  obtain ⟨r14, rfl⟩ := y14
  have y15 := hV 15 _ rfl
  have hp15 : (PortV (g + 1)) x15 W := y15
  clear hV hlen
  simp only [Exit.then, putAll, Act.put, List.setIfInBounds_toArray, List.set_cons_zero, List.set_cons_succ]
  have hb13 := hI.f
  rw [hall 13 (by decide)] at hb13
  obtain ⟨cs, hcs, hp⟩ := (show PB w.heap.size (g + 1) W from hb13)
  obtain ⟨v1, v2, v3, pt, f1, f2, f3, e, hP, hl⟩ := hp.pt
  injection e with e
  subst e
  obtain ⟨xs, f4, hxs, _, hxl, hxv⟩ := hp15
  replace hxv := Lib.hid hxv
  have kc := blk_cell hcs
  have hF := Lib.hid (And.intro hP (And.intro hxs (And.intro hl hI.kp)))
  clear hb13 hcs hp hP hxs hI
  go_wp2_with fail
  refine bodyPost_ret (v := .tuple #[.agg #[v1, v2, .int .i64 pt.pc, .bool pt.fails, v3], .int .i64 r14, x15]) (by simp [results, Try.results9, go_sem, kc]) rfl ?_
  exact ⟨v1, v2, v3, x15, pt, r14, xs, rfl, f1, f2, f3, f4, hF.out.1, hF.out.2.1, hF.out.2.2.1, hxl, hxv.out, hF.out.2.2.2.below2 (by omega)⟩
theorem drawRun_d (w : World) (A : Option Addr) (n c : Nat) (h : Code_ w A n c) : Calls Try.prog 18 #[.slice A n c] w (RunD w) := by
  have hC := Lib.hid h
  clear h
  go_enter Try.func18, Try.ntmps18
  go_wp2_with fail
  refine (open_b w _ A n c hC.out.2.2 (by repeat (first | (with_reducible exact Below.refl _ _) | (with_reducible assumption) | (with_reducible refine Below.drew ?_) | (with_reducible refine below_drewN' ?_ _) | (with_reducible refine Below.setCell ?_ (by first | (simp; done) | (simp; omega) | omega) _) | (with_reducible refine Below.alloc ?_ (by first | (simp; done) | (simp; omega) | omega) _) | (with_reducible refine Below.trans ?_ (Below.mono (by assumption) (by first | (simp; done) | (simp; omega) | omega))))) hC.out.1 hC.out.2.1.1).mono ?_
  rintro e w1 ⟨g, hg, rfl, hR1, hB1⟩
  have hlg : w.heap.size ≠ g := by rw [hg]; simp
  have hlg2 : w.heap.size ≤ g := by rw [hg]; simp
  have hI2 : DI w w g 0 0 (RBlk false w.heap.size (g + 1)) w1 := ⟨0, hR1, by omega, by omega, (Kp.refl _ _).of_below ((Below.refl _ _).alloc (Nat.le_refl _) _) |>.of_below hB1, ⟨0, blk_below (heap_top _ _ rfl) hB1⟩⟩
  clear hR1 hB1 hg
  replace hI2 := Lib.hid hI2
  go_wp2_with fail
  apply region_inv5 (VV2 [fun _ => IsV _, fun _ => (PartV (g + 1)), fun _ => IsV _, fun _ => (fun v _ => IsI v), fun _ => IsV _, fun _ => (PortV (g + 1)), fun _ => IsV _, fun _ => (fun v _ => IsI v), fun _ => (LI (g + 1) 4), fun _ => IsV _, fun _ => (IdxV 12), fun _ => (IdxV 45), fun _ => (IdxV 4), fun _ => (PtrI (g + 1)), fun _ => (fun v _ => IsI v), fun _ => (AnyV), fun _ => (fun v _ => IsI v), fun _ => (PortV (g + 1)), fun _ => (fun v _ => IsI v)]) (fun bs W => DI w w g 0 (3000 * bN bs [1, 3, 5, 7, 10]) (RBlk (bs 15) w.heap.size (g + 1)) W) (FX (g + 1)) (by kernel_rfl) 24 rfl (by kernel_rfl)
  case h0 =>
    exact (hI2.out.mono (by omega) (by simp [bN])).drew (fun h => h.st ((IP.refl _ _).drew) rfl)
  case hsteps =>
    refine ⟨?_, ?_, ?_, ?_, ?_, ?_, ?_, ?_, ?_, ?_, ?_, ?_, ?_, ?_, ?_, ?_, ?_, ?_, ?_, trivial⟩
    · refine stepOK5_of _ [6] rfl rfl (by kernel_rfl) ?_ rfl
      intro bs ρ W hbj hbn hc hf hn ho hcl hI
      clear hn
      have s6 := ho.1
      simp only [Array.getD_eq_getD_getElem?] at s6
      clear ho
      have hI' := Lib.hid hI
      clear hI
      go_simp
      exact postL_mk (hI'.out.n0 rfl) (FX.refl _ _) rfl
    · refine stepOK5_of _ [] rfl rfl (by kernel_rfl) ?_ rfl
      intro bs ρ W hbj hbn hc hf hn ho hcl hI
      obtain ⟨u0, q0, s9⟩ := hn.1
      clear hn
      have q0 : u0 = _ := q0
      subst q0
      have s9 : ρ (.tmp 9) = _ := s9
      clear ho
      have hI' := Lib.hid hI
      clear hI
      go_simp
      refine (hI'.out.any (fun _ _ hK hF => hF.kp hK hlg) (by omega) (by have := bN_le bs [1, 3, 5, 7, 10]; simp at this; omega)).mono ?_
      rintro e W2 ⟨v, rfl, hv, hD, hK⟩
      exact endp_mk (postL_mk (hD.nw (by omega) rfl hbj) (FX.of_kp hK (by omega)) hv)
    · refine stepOK5_of _ [6] rfl rfl (by kernel_rfl) ?_ rfl
      intro bs ρ W hbj hbn hc hf hn ho hcl hI
      clear hn
      have s6 := ho.1
      simp only [Array.getD_eq_getD_getElem?] at s6
      clear ho
      have hI' := Lib.hid hI
      clear hI
      go_simp
      exact postL_mk (hI'.out.n0 rfl) (FX.refl _ _) rfl
    · refine stepOK5_of _ [] rfl rfl (by kernel_rfl) ?_ rfl
      intro bs ρ W hbj hbn hc hf hn ho hcl hI
      obtain ⟨u2, q2, s11⟩ := hn.1
      clear hn
      have q2 : u2 = _ := q2
      subst q2
      have s11 : ρ (.tmp 11) = _ := s11
      clear ho
      have hI' := Lib.hid hI
      clear hI
      go_simp
      refine (hI'.out.pick (fun _ _ hK hF => hF.kp hK hlg) 256 (by omega) (by have := bN_le bs [1, 3, 5, 7, 10]; simp at this; omega) (by omega) (by omega)).mono ?_
      rintro e W2 ⟨r, rfl, ra, rb, hD, hK⟩
      exact endp_mk (postL_mk (hD.nw (by omega) rfl hbj) (FX.of_kp hK (by omega)) ⟨r, rfl⟩)
    · refine stepOK5_of _ [6] rfl rfl (by kernel_rfl) ?_ rfl
      intro bs ρ W hbj hbn hc hf hn ho hcl hI
      clear hn
      have s6 := ho.1
      simp only [Array.getD_eq_getD_getElem?] at s6
      clear ho
      have hI' := Lib.hid hI
      clear hI
      go_simp
      exact postL_mk (hI'.out.n0 rfl) (FX.refl _ _) rfl
    · refine stepOK5_of _ [] rfl rfl (by kernel_rfl) ?_ rfl
      intro bs ρ W hbj hbn hc hf hn ho hcl hI
      obtain ⟨u4, q4, s13⟩ := hn.1
      clear hn
      have q4 : u4 = _ := q4
      subst q4
      have s13 : ρ (.tmp 13) = _ := s13
      clear ho
      have hI' := Lib.hid hI
      clear hI
      go_simp
      refine (hI'.out.ports (fun _ _ hK hF => hF.kp hK hlg) (by omega) (by have := bN_le bs [1, 3, 5, 7, 10]; simp at this; omega)).mono ?_
      rintro e W2 ⟨v, rfl, hv, hD, hK⟩
      exact endp_mk (postL_mk (hD.nw (by omega) rfl hbj) (FX.of_kp hK (by omega)) hv)
    · refine stepOK5_of _ [6] rfl rfl (by kernel_rfl) ?_ rfl
      intro bs ρ W hbj hbn hc hf hn ho hcl hI
      clear hn
      have s6 := ho.1
      simp only [Array.getD_eq_getD_getElem?] at s6
      clear ho
      have hI' := Lib.hid hI
      clear hI
      go_simp
      exact postL_mk (hI'.out.n0 rfl) (FX.refl _ _) rfl
    · refine stepOK5_of _ [] rfl rfl (by kernel_rfl) ?_ rfl
      intro bs ρ W hbj hbn hc hf hn ho hcl hI
      obtain ⟨u6, q6, s15⟩ := hn.1
      clear hn
      have q6 : u6 = _ := q6
      subst q6
      have s15 : ρ (.tmp 15) = _ := s15
      clear ho
      have hI' := Lib.hid hI
      clear hI
      go_simp
      refine (hI'.out.pick (fun _ _ hK hF => hF.kp hK hlg) 20 (by omega) (by have := bN_le bs [1, 3, 5, 7, 10]; simp at this; omega) (by omega) (by omega)).mono ?_
      rintro e W2 ⟨r, rfl, ra, rb, hD, hK⟩
      exact endp_mk (postL_mk (hD.nw (by omega) rfl hbj) (FX.of_kp hK (by omega)) ⟨r, rfl⟩)
    · refine stepOK5_of _ [] rfl rfl (by kernel_rfl) ?_ rfl
      intro bs ρ W hbj hbn hc hf hn ho hcl hI
      obtain ⟨u7, q7, s16⟩ := hn.1
      clear hn
      obtain ⟨r7, rfl⟩ := q7
      have s16 : ρ (.tmp 16) = _ := s16
      clear ho
      have hI' := Lib.hid hI
      have hsz := hI.lt
      clear hI
      go_simp
      exact postL_mk ((hI'.out.n0 rfl).alloc _ (fun h => h.alloc _)) (FX.alloc _ _) ⟨_, _, rfl, hsz, rfl, isI_of (l := [r7, 0, 200, -1]), heap_top _ _ rfl⟩
    · refine stepOK5_of _ [6] rfl rfl (by kernel_rfl) ?_ rfl
      intro bs ρ W hbj hbn hc hf hn ho hcl hI
      clear hn
      have s6 := ho.1
      simp only [Array.getD_eq_getD_getElem?] at s6
      clear ho
      have hI' := Lib.hid hI
      clear hI
      go_simp
      exact postL_mk (hI'.out.n0 rfl) (FX.refl _ _) rfl
    · refine stepOK5_of _ [] rfl rfl (by kernel_rfl) ?_ rfl
      intro bs ρ W hbj hbn hc hf hn ho hcl hI
      obtain ⟨u9, q9, s18⟩ := hn.1
      clear hn
      have q9 : u9 = _ := q9
      subst q9
      have s18 : ρ (.tmp 18) = _ := s18
      clear ho
      have hI' := Lib.hid hI
      clear hI
      go_simp
      refine (hI'.out.pick (fun _ _ hK hF => hF.kp hK hlg) 12 (by omega) (by have := bN_le bs [1, 3, 5, 7, 10]; simp at this; omega) (by omega) (by omega)).mono ?_
      rintro e W2 ⟨r, rfl, ra, rb, hD, hK⟩
      exact endp_mk (postL_mk (hD.nw (by omega) rfl hbj) (FX.of_kp hK (by omega)) ⟨r, rfl, ra, rb⟩)
    · refine stepOK5_of _ [] rfl rfl (by kernel_rfl) ?_ rfl
      intro bs ρ W hbj hbn hc hf hn ho hcl hI
      obtain ⟨u10, q10, s19⟩ := hn.1
      clear hn
      obtain ⟨r10, rfl, r100, r101⟩ := q10
      have s19 : ρ (.tmp 19) = _ := s19
      clear ho
      have hI' := Lib.hid hI
      clear hI
      go_simp
      exact postL_mk (hI'.out.n0 rfl) (FX.refl _ _) ⟨r10 * 4, by rw [wr (by omega) (by omega)], by omega, by omega⟩
    · refine stepOK5_of _ [] rfl rfl (by kernel_rfl) ?_ rfl
      intro bs ρ W hbj hbn hc hf hn ho hcl hI
      obtain ⟨u11, q11, s20⟩ := hn.1
      clear hn
      obtain ⟨r11, rfl, r110, r111⟩ := q11
      have s20 : ρ (.tmp 20) = _ := s20
      clear ho
      have hI' := Lib.hid hI
      clear hI
      go_simp
      have e1 : r11.tdiv 12 = r11 / 12 := Int.tdiv_eq_ediv_of_nonneg r110
      exact postL_mk (hI'.out.n0 rfl) (FX.refl _ _) ⟨r11 / 12, by rw [e1, wr (by omega) (by omega)], by omega, by omega⟩
    · refine stepOK5_of _ [] rfl rfl (by kernel_rfl) ?_ rfl
      intro bs ρ W hbj hbn hc hf hn ho hcl hI
      obtain ⟨u8, q8, s17⟩ := hn.1
      obtain ⟨u12, q12, s21⟩ := hn.2.1
      clear hn
      have hl8 : (LI (g + 1) 4) u8 W := q8
      have s17 : ρ (.tmp 17) = _ := s17
      obtain ⟨r12, rfl, r120, r121⟩ := q12
      have s21 : ρ (.tmp 21) = _ := s21
      clear ho
      have hI' := Lib.hid hI
      clear hI
      obtain ⟨A4, cs4, rfl, hA4, hs4, hi4, hb4⟩ := hl8
      go_simp
      obtain ⟨r, hr⟩ := hi4 r12.toNat _ (Array.getElem?_eq_getElem (by omega))
      exact postL_mk (hI'.out.n0 rfl) (FX.refl _ _) ⟨A4, _, cs4, _, rfl, hA4, hb4, r, by rw [← hr]; exact Array.getElem?_eq_getElem (by omega)⟩
    · refine stepOK5_of _ [] rfl rfl (by kernel_rfl) ?_ rfl
      intro bs ρ W hbj hbn hc hf hn ho hcl hI
      obtain ⟨u13, q13, s22⟩ := hn.1
      clear hn
      obtain ⟨k13, o13, cs13, t13, rfl, hl13, hb13, hc13⟩ := q13
      have s22 : ρ (.tmp 22) = _ := s22
      clear ho
      have hI' := Lib.hid hI
      clear hI
      obtain ⟨y9, hy9⟩ := hc13
      have j0 := blk_cell hb13 o13
      rw [hy9] at j0
      go_simp
      exact postL_mk (hI'.out.n0 rfl) (FX.refl _ _) ⟨_, rfl⟩
    · refine stepOK5_of _ [2] rfl rfl (by kernel_rfl) ?_ rfl
      intro bs ρ W hbj hbn hc hf hn ho hcl hI
      obtain ⟨u1, q1, s10⟩ := hn.1
      clear hn
      have hp1 : (PartV (g + 1)) u1 W := q1
      have s10 : ρ (.tmp 10) = _ := s10
      have s2 := ho.1
      simp only [Array.getD_eq_getD_getElem?] at s2
      clear ho
      have hI' := Lib.hid hI
      have hb13 : RBlk (bs 15) w.heap.size (g + 1) W := hI.f
      rw [hbj] at hb13
      obtain ⟨z, hz⟩ := (show ZB w.heap.size W from hb13)
      obtain ⟨u1, u2, u3, pc, fl, n1, n2, n3, rfl, i1, i2, i3, i4⟩ := hp1
      obtain ⟨B1, b1, rfl, _⟩ := i1.form
      obtain ⟨B2, b2, rfl, _⟩ := i2.form
      obtain ⟨B3, b3, rfl, _⟩ := i3.form
      have j0 := blk_cell hz
      have j1 := blk_frozen hz
      clear hI hb13
      go_simp
      have hp2 := IP.low5 (lo := g + 1) W w.heap.size (by omega) (.slice B1 n1 b1) (.slice B2 n2 b2) (.int .i64 pc) (.bool fl) (.slice B3 n3 b3)
      have hD2 := DI.low5 hI'.out (by omega : w.heap.size ≤ w.heap.size) (Nat.le_refl _) hlg.symm (.slice B1 n1 b1) (.slice B2 n2 b2) (.int .i64 pc) (.bool fl) (.slice B3 n3 b3) (G := RBlk true w.heap.size (g + 1)) (show PB _ _ _ from ⟨_, blk_put (blk_put (blk_put (blk_put (blk_put hz 0 _) 1 _) 2 _) 3 _) 4 _, _, _, _, pc, fl, n1, n2, n3, rfl, i1.st hp2, i2.st hp2, i3.st hp2, i4⟩)
      exact postL_mk (hD2.n0 rfl) (FX.low5 W w.heap.size (by omega) _ _ _ _ _) trivial
    · refine stepOK5_of _ [] rfl rfl (by kernel_rfl) ?_ rfl
      intro bs ρ W hbj hbn hc hf hn ho hcl hI
      obtain ⟨u3, q3, s12⟩ := hn.1
      clear hn
      obtain ⟨r3, rfl⟩ := q3
      have s12 : ρ (.tmp 12) = _ := s12
      clear ho
      have hI' := Lib.hid hI
      clear hI
      go_simp
      exact postL_mk (hI'.out.n0 rfl) (FX.refl _ _) ⟨_, rfl⟩
    · refine stepOK5_of _ [] rfl rfl (by kernel_rfl) ?_ rfl
      intro bs ρ W hbj hbn hc hf hn ho hcl hI
      obtain ⟨u5, q5, s14⟩ := hn.1
      clear hn
      have hp5 : (PortV (g + 1)) u5 W := q5
      have s14 : ρ (.tmp 14) = _ := s14
      clear ho
      have hI' := Lib.hid hI
      clear hI
      go_simp
      exact postL_mk (hI'.out.n0 rfl) (FX.refl _ _) hp5
    · refine stepOK5_of _ [] rfl rfl (by kernel_rfl) ?_ rfl
      intro bs ρ W hbj hbn hc hf hn ho hcl hI
      obtain ⟨u14, q14, s23⟩ := hn.1
      clear hn
      obtain ⟨r14, rfl⟩ := q14
      have s23 : ρ (.tmp 23) = _ := s23
      clear ho
      have hI' := Lib.hid hI
      clear hI
      go_simp
      exact postL_mk (hI'.out.n0 rfl) (FX.refl _ _) ⟨_, rfl⟩
  case hst => exact vv_stable2 ⟨fun _ => isV_st, fun _ => FX.sv PartV.st, fun _ => isV_st, fun _ => fun _ _ _ _ h => h, fun _ => isV_st, fun _ => PortV.st, fun _ => isV_st, fun _ => fun _ _ _ _ h => h, fun _ => FX.sv LI.st, fun _ => isV_st, fun _ => fun _ _ _ _ h => h, fun _ => fun _ _ _ _ h => h, fun _ => fun _ _ _ _ h => h, fun _ => FX.sv ptr_st, fun _ => fun _ _ _ _ h => h, fun _ => fun _ _ _ _ h => h, fun _ => fun _ _ _ _ h => h, fun _ => PortV.st, fun _ => fun _ _ _ _ h => h, trivial⟩
  case hloc => exact locAll_of ⟨locE_c, locE_c, locE_c, locE_c, locE_c, locE_c, locE_c, locE_c, locE_c, locE_c, locE_c, locE_c, locE_c, locE_c, locE_c, locE_c, locE_c, locE_c, locE_c, trivial⟩
  intro vs bs W hlen hall hI hV
  obtain ⟨x0, x1, x2, x3, x4, x5, x6, x7, x8, x9, x10, x11, x12, x13, x14, x15, x16, x17, x18, rfl⟩ := list_len19_Q8 vs hlen
  have y0 : x0 = _ := hV 0 _ rfl
  subst y0
  have y1 := hV 1 _ rfl
  have hp1 : (PartV (g + 1)) x1 W := y1
  have y2 : x2 = _ := hV 2 _ rfl
  subst y2
  have y3 := hV 3 _ rfl
  obtain ⟨r3, rfl⟩ := y3
  have y4 : x4 = _ := hV 4 _ rfl
  subst y4
  have y5 := hV 5 _ rfl
  have hp5 : (PortV (g + 1)) x5 W := y5
  have y6 : x6 = _ := hV 6 _ rfl
  subst y6
  have y7 := hV 7 _ rfl
  obtain ⟨r7, rfl⟩ := y7
  have y8 := hV 8 _ rfl
  have hl8 : (LI (g + 1) 4) x8 W := y8
  have y9 : x9 = _ := hV 9 _ rfl
  subst y9
  have y10 := hV 10 _ rfl
  obtain ⟨r10, rfl, r100, r101⟩ := y10
  have y11 := hV 11 _ rfl
  obtain ⟨r11, rfl, r110, r111⟩ := y11
  have y12 := hV 12 _ rfl
  obtain ⟨r12, rfl, r120, r121⟩ := y12
  have y13 := hV 13 _ rfl
  obtain ⟨k13, o13, cs13, t13, rfl, hl13, hb13, hc13⟩ := y13
  have y14 := hV 14 _ rfl
  obtain ⟨r14, rfl⟩ := y14
  have y15 := hV 15 _ rfl
  have y16 := hV 16 _ rfl
  obtain ⟨r16, rfl⟩ := y16
  have y17 := hV 17 _ rfl
  have hp17 : (PortV (g + 1)) x17 W := y17
  have y18 := hV 18 _ rfl
  obtain ⟨r18, rfl⟩ := y18
  clear hV hlen
  simp only [Exit.then, putAll, Act.put, List.setIfInBounds_toArray, List.set_cons_zero, List.set_cons_succ]
  have hb13 := hI.f
  rw [hall 15 (by decide)] at hb13
  obtain ⟨cs, hcs, hp⟩ := (show PB w.heap.size (g + 1) W from hb13)
  obtain ⟨v1, v2, v3, pt, f1, f2, f3, e, hP, hl⟩ := hp.pt
  injection e with e
  subst e
  obtain ⟨xs, f4, hxs, _, hxl, hxv⟩ := hp17
  replace hxv := Lib.hid hxv
  have kc := blk_cell hcs
  have hF := Lib.hid (And.intro hP (And.intro hxs (And.intro hl hI.kp)))
  clear hb13 hcs hp hP hxs hI
  go_wp2_with fail
  refine bodyPost_ret (v := .tuple #[.agg #[v1, v2, .int .i64 pt.pc, .bool pt.fails, v3], .int .i64 r16, x17, .int .i64 r18]) (by simp [results, Try.results18, go_sem, kc]) rfl ?_
  exact ⟨v1, v2, v3, x17, pt, r16, xs, r18, rfl, f1, f2, f3, f4, hF.out.1, hF.out.2.1, hF.out.2.2.1, hxl, hxv.out, hF.out.2.2.2.below2 (by omega)⟩
end Go.Proofs.Ytkphkkfgphhjcaa
