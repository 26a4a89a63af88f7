/- What draws: a part. -/
import Derived.Test.YtkphkkfgphhjcaaQ5
namespace Go.Proofs.Ytkphkkfgphhjcaa
open Go.RowKit
set_option linter.unusedSimpArgs false
set_option linter.unusedVariables false
theorem list_len11_Q6 : ∀ (l : List Value), l.length = 11 → ∃ x0 x1 x2 x3 x4 x5 x6 x7 x8 x9 x10, l = x0 :: x1 :: x2 :: x3 :: x4 :: x5 :: x6 :: x7 :: x8 :: x9 :: x10 :: []
  | x0 :: x1 :: x2 :: x3 :: x4 :: x5 :: x6 :: x7 :: x8 :: x9 :: x10 :: [], _ => ⟨x0, x1, x2, x3, x4, x5, x6, x7, x8, x9, x10, rfl⟩
theorem list_len12_Q6 : ∀ (l : List Value), l.length = 12 → ∃ x0 x1 x2 x3 x4 x5 x6 x7 x8 x9 x10 x11, l = x0 :: x1 :: x2 :: x3 :: x4 :: x5 :: x6 :: x7 :: x8 :: x9 :: x10 :: x11 :: []
  | x0 :: x1 :: x2 :: x3 :: x4 :: x5 :: x6 :: x7 :: x8 :: x9 :: x10 :: x11 :: [], _ => ⟨x0, x1, x2, x3, x4, x5, x6, x7, x8, x9, x10, x11, rfl⟩

/-- A part that is drawn. -/
def PartQ (w0 w : World) (g : Nat) (p : Int) (e : Ending) (w' : World) : Prop := ∃ (u1 u2 u3 : Value) (pc : Int) (fl : Bool) (n1 n3 : Nat), e = .returned (.agg #[u1, u2, .int .i64 pc, .bool fl, u3]) ∧ DI w0 w g p (p + 1000) (fun W => IR w.heap.size 3 u1 n1 W ∧ IR w.heap.size 1 u2 8 W ∧ OR w.heap.size u3 n3 W) w' ∧ 1 ≤ n1 ∧ n1 ≤ 16 ∧ n3 ≤ 4
/-- A pointer to an int of one's own. -/
def PtrI (lo : Nat) (v : Value) (W : World) : Prop := ∃ (k o : Nat) (cs : Array Value) (t : TypeId), v = .pointer (some ⟨k, o, none⟩) ∧ lo ≤ k ∧ W.heap[k]? = some (.cells cs t (0, 0)) ∧ ∃ y : Int, cs[o]? = some (.int .i64 y)
theorem ptr_st {lo : Nat} : StableV (IP lo) (PtrI lo) := fun v W W' hp h => by
  obtain ⟨k, o, cs, t, e, hl, hb, y, hy⟩ := h
  obtain ⟨c2, k1, k2, k3⟩ := hp.keep k cs t hl hb
  exact ⟨k, o, c2, t, e, hl, k1, k3 _ _ hy⟩
section
variable {W : World} {lo B n1 n2 : Nat} {N3 : Nat → Value → Prop}
theorem PJ.pc (h : PJ lo B n1 n2 N3 W) (x : Int) : PJ lo B n1 n2 N3 (W.setCell ⟨B, 2, none⟩ (.int .i64 x)) := by
  obtain ⟨u1, u2, u3, pc, fl, n3, h0, h1, h2, h3, h4, hz, hne⟩ := id h
  exact h.int h0 ⟨pc, rfl⟩ x
theorem PJ.fl (h : PJ lo B n1 n2 N3 W) (x : Bool) : PJ lo B n1 n2 N3 (W.setCell ⟨B, 3, none⟩ (.bool x)) := by
  obtain ⟨u1, u2, u3, pc, fl, n3, h0, h1, h2, h3, h4, hz, hne⟩ := h
  have hp : IP lo W (W.setCell ⟨B, 3, none⟩ (.bool x)) := (IP.refl _ _).other h0 3 (fun x => by simp) _
  exact ⟨u1, u2, u3, pc, x, n3, blk_put h0 3 _, h1.st hp, h2.st hp, h3.st hp, h4, hz.st (Below.heap_setCell W _ _ _ hne), hne⟩
theorem PJ.ipb (h : PJ lo B n1 n2 N3 W) {v : Value} {m : Nat} (hv : OR lo v m W) : IP lo W (W.setCell ⟨B, 4, none⟩ v) := by
  obtain ⟨u1, u2, u3, pc, fl, n3, h0, h1, h2, h3, h4, hz, hne⟩ := h
  obtain ⟨_, _, rfl, _⟩ := h3.form
  exact (IP.refl _ _).other h0 4 (fun x => by simp) _
theorem PJ.box (h : PJ lo B n1 n2 N3 W) {v : Value} {m : Nat} (hv : OR lo v m W) {N : Nat → Value → Prop} (hN : N m v) : PJ lo B n1 n2 N (W.setCell ⟨B, 4, none⟩ v) := by
  have hp := h.ipb hv
  obtain ⟨u1, u2, u3, pc, fl, n3, h0, h1, h2, h3, h4, hz, hne⟩ := h
  exact ⟨u1, u2, v, pc, fl, m, blk_put h0 4 _, h1.st hp, h2.st hp, hv.st hp, hN, hz.st (Below.heap_setCell W _ _ _ hne), hne⟩
theorem own_tag {v : Value} {n B : Nat} {cs : Array Value} (hv : OR lo v n W) (h0 : W.heap[B]? = some (.cells cs 26 (0, 0))) : some B ≠ v.ownBlock := fun e => by
  obtain ⟨xs, ⟨_, ⟨rfl, _⟩ | ⟨k, c, cur, rfl, hk, hb, _⟩⟩, _⟩ := hv
  · simp [Value.ownBlock] at e
  · have e1 : B = k := by simpa [Value.ownBlock] using e
    subst e1
    rw [h0] at hb
    injection hb with hb
    injection hb with _ hb
    exact absurd hb (by decide)
theorem PJ.grown {W' : World} (h : PJ lo B n1 n2 N3 W) (hp : IP lo W W') {v : Value} {n : Nat} (hv : OR lo v n W) (hg : W.grownBy W' v.ownBlock) : PJ lo B n1 n2 N3 W' := by
  refine h.st hp (hg.block B h.lt ?_) (hg.block lo h.zlt ?_)
  · obtain ⟨u1, u2, u3, pc, fl, n3, h0, h1, h2, h3, h4, hz, hne⟩ := h
    exact own_tag hv h0
  · obtain ⟨u1, u2, u3, pc, fl, n3, h0, h1, h2, h3, h4, ⟨x, hz⟩, hne⟩ := h
    exact own_tag hv hz
theorem PJ.impN (h : PJ lo B n1 n2 N3 W) {N : Nat → Value → Prop} (hN : ∀ m v, N3 m v → N m v) : PJ lo B n1 n2 N W := by
  obtain ⟨u1, u2, u3, pc, fl, n3, h0, h1, h2, h3, h4, hz, hne⟩ := h
  exact ⟨u1, u2, u3, pc, fl, n3, h0, h1, h2, h3, hN _ _ h4, hz, hne⟩
end
theorem arr1 : ∀ (cs : Array Value), cs.size = 1 → ∃ x, cs = #[x]
  | ⟨[x]⟩, _ => ⟨x, rfl⟩
/-- How many of these operations have come up. -/
def bN (bs : Nat → Bool) : List Nat → Int
  | [] => 0
  | i :: r => (if bs i = true then 1 else 0) + bN bs r
theorem bN_up {bs : Nat → Bool} {j : Nat} : ∀ {l : List Nat}, l.contains j = false → bN (upB bs j) l = bN bs l
  | [], _ => rfl
  | i :: r, h => by
    simp only [List.contains_cons, Bool.or_eq_false_iff, beq_eq_false_iff_ne] at h
    simp only [bN, bN_up h.2, upB, if_neg (fun e : i = j => h.1 e.symm)]
theorem bN_up1 {bs : Nat → Bool} {j : Nat} (hj : bs j = false) : ∀ {l : List Nat}, l.count j = 1 → bN (upB bs j) l = bN bs l + 1
  | [], h => by simp at h
  | i :: r, h => by
    by_cases e : i = j
    · subst e
      simp only [List.count_cons_self] at h
      have : r.contains i = false := by
        rw [← Bool.not_eq_true, List.contains_iff_mem, ← List.count_eq_zero]
        omega
      simp [bN, bN_up this, upB, hj]
      omega
    · rw [List.count_cons_of_ne e] at h
      simp only [bN, bN_up1 hj h, upB, if_neg e]
      omega
section
variable {w0 w W : World} {g : Nat} {a b : Int} {F : World → Prop} {bs : Nat → Bool} {j : Nat} {l : List Nat}
theorem DI.nb (h : DI w0 w g a (b + bN bs l) F W) (hj : l.contains j = false) : DI w0 w g a (b + bN (upB bs j) l) F W := by rw [bN_up hj]; exact h
theorem DI.nb1 (h : DI w0 w g a (b + bN bs l + 1) F W) (hj : l.count j = 1) (hb : bs j = false) : DI w0 w g a (b + bN (upB bs j) l) F W := by rw [bN_up1 hb hj, ← Int.add_assoc]; exact h
end
set_option maxHeartbeats 4000000
set_option maxRecDepth 100000
theorem part_d (w0 w : World) (g : Nat) (p : Int) (h : Rd w0 w g p) (h0 : 0 ≤ p) (h1 : p ≤ 1000000000) : Calls Try.prog 56 #[.pointer (some ⟨g, 0, none⟩)] w (PartQ w0 w g p) := by
  have hg : g < w.heap.size := h.lt
  have hge := h.ge
  have hge' : w0.heap.size ≤ w.heap.size := by omega
  go_enter Try.func56, Try.ntmps56
  go_wp2_with fail
  refine (prog_d w0 _ g p (by repeat (first | (with_reducible assumption) | (with_reducible refine Rd.drew ?_) | (with_reducible refine Rd.own ?_ (by first | (simp; done) | (simp; omega) | omega) (by first | (simp; done) | (simp; omega) | omega) _) | (with_reducible refine Rd.alloc ?_ _))) h0 (by omega)).mono ?_
  rintro e w1 ⟨ops, A1, c1, f1, q1, rfl, hs1, ho1, hok, hq1, hq2, hR1, hK1⟩
  have hz1 := hK1.size
  (try simp only [World.size_alloc, World.size_setCell, World.size_drew] at hz1)
  have hs1' := Lib.hid hs1
  clear hs1
  have hlen : 1 ≤ ops.length ∧ ops.length ≤ 16 := by
    simp only [progOK, Bool.and_eq_true, decide_eq_true_eq] at hok
    exact ⟨hok.1.1, hok.1.2⟩
  go_wp2_with fail
  refine (partNew_c ops _ f1 _ hs1'.out hok).mono ?_
  rintro e w2 ⟨u1, u2, g1, g2, rfl, hP2, hB2⟩
  obtain ⟨V1, d1, rfl, _⟩ := hP2.get.1.prog.form
  obtain ⟨V2, d2, rfl, _⟩ := hP2.get.1.cells.form
  have hz2 := hB2.size
  have hB : w.heap.size < w2.heap.size := by omega
  have hI2 : DI w0 w g p (p + 100) (PJ w.heap.size w2.heap.size ops.length 8 (fun n _ => n = 0)) (w2.alloc (.cells #[.slice V1 ops.length d1, .slice V2 8 d2, .int .i64 0, .bool false, .slice none 0 0] 26)) := by
    have hp := hP2.get
    have ho1 := hp.2.1
    refine ⟨q1, (hR1.of_below hB2).alloc _, hq1, hq2, (Kp.trans (Kp.trans ((Kp.refl _ _).alloc _) hK1) ((Kp.refl _ _).of_below hB2)).alloc _, _, _, _, _, _, 0, heap_top _ _ rfl, ?_, ?_, or_nil _ _, rfl, ?_, by omega⟩
    · refine IR.st (IR.mono (IR.of_sl encO_int hp.1.prog (lo := w1.heap.size) (hi := w2.heap.size) ⟨?_, fun b hb => hp.2.2 b (by simp [hb])⟩) (by omega)) ((IP.refl _ _).alloc _)
      exact (List.nodup_append.1 hp.2.1).1
    · refine IR.st (IR.mono (IR.of_sl encI_int hp.1.cells (lo := w1.heap.size) (hi := w2.heap.size) ⟨?_, fun b hb => hp.2.2 b (by simp [hb])⟩) (by omega)) ((IP.refl _ _).alloc _)
      simpa using (List.nodup_append.1 hp.2.1).2.1
    · exact ⟨_, heap_up (blk_below (hK1.blk (heap_top _ _ rfl) (Nat.ne_of_gt hg)) hB2) _⟩
  replace hI2 := Lib.hid hI2
  clear hP2 hB2 hR1 hK1 ho1 hs1'
  go_wp2_with fail
  go_loopw [4] (fun v4 wr => ∃ i : Int, v4 = .int .i64 i ∧ 0 ≤ i ∧ i ≤ 8 ∧ Hid (DI w0 w g p (p + 100 + 12 * i) (PJ w.heap.size w2.heap.size ops.length 8 (fun n _ => n = 0)) wr)) (fun v4 _ => (8 - intOf v4).toNat)
  case atStart => exact ⟨0, rfl, by omega, by omega, Lib.hid (hI2.out.mono (by omega) (by omega))⟩
  case round =>
    obtain ⟨i, rfl, i0, i1, hI⟩ := hrel
    clear hI2
    by_cases hi : i < 8
    · obtain ⟨u1, u2, u3, pc, fl, n3, hb, j1, j2, j3, j4, hzb, hzn⟩ := hI.out.f
      obtain ⟨k, o, c, cur, e, rfl, _, _, hlk, hk, hcs⟩ := j2.at (by omega)
      have jb := blk_cell hb
      have hBr := (Array.getElem?_eq_some_iff.1 hb).1
      clear hzb hzn hb j1 j3 j4
      go_wp2_with fail
      have hI' := Lib.hid hI.out
      clear hcs hk jb hI
      apply region_inv (VV [IsV _, (fun v W => IR w.heap.size 1 v 8 W), IsV _, IsV _, IsV _, (fun v _ => IsI v), IsV _, (fun v _ => IsI v), (LI w.heap.size 4), (fun v _ => IsI v), (PtrI w.heap.size), (AnyV)]) (fun t W => DI w0 w g p (p + 100 + 12 * i + t) (PJ w.heap.size w2.heap.size ops.length 8 (fun n _ => n = 0)) W) (IP w.heap.size) (by kernel_rfl) 54 rfl (by kernel_rfl)
      case h0 =>
        exact (hI'.out.mono (by omega) (by omega)).drew PJ.drew
      case hsteps =>
        refine ⟨?_, ?_, ?_, ?_, ?_, ?_, ?_, ?_, ?_, ?_, ?_, ?_, trivial⟩
        · refine stepOK_of _ [3] rfl (by kernel_rfl) ?_ rfl
          intro t ρ W ht hc hf hn ho hI
          clear hn
          have s3 := ho.1
          simp only [Array.getD_eq_getD_getElem?] at s3
          clear ho
          have hI' := Lib.hid hI
          clear hI
          go_simp
          exact post_mk (hI'.out.up) (IP.refl _ _) rfl
        · refine stepOK_of _ [] rfl (by kernel_rfl) ?_ rfl
          intro t ρ W ht hc hf hn ho hI
          obtain ⟨u0, q0, s16⟩ := hn.1
          clear hn
          have q0 : u0 = _ := q0
          subst q0
          have s16 : ρ (.tmp 16) = _ := s16
          clear ho
          have hI' := Lib.hid hI
          obtain ⟨v1, v2, v3, vc, vl, m3, hb, e1, e2, e3, e4, e5, e6⟩ := hI.f
          have j1 := blk_cell hb 1
          clear hI hb e1 e3 e4 e5 e6
          go_simp
          exact post_mk hI'.out.up (IP.refl _ _) e2
        · refine stepOK_of _ [4] rfl (by kernel_rfl) ?_ rfl
          intro t ρ W ht hc hf hn ho hI
          clear hn
          have s4 := ho.1
          simp only [Array.getD_eq_getD_getElem?] at s4
          clear ho
          have hI' := Lib.hid hI
          clear hI
          go_simp
          exact post_mk (hI'.out.up) (IP.refl _ _) rfl
        · refine stepOK_of _ [0] rfl (by kernel_rfl) ?_ rfl
          intro t ρ W ht hc hf hn ho hI
          clear hn
          have s0 := ho.1
          simp only [Array.getD_eq_getD_getElem?] at s0
          clear ho
          have hI' := Lib.hid hI
          clear hI
          go_simp
          exact post_mk (hI'.out.up) (IP.refl _ _) rfl
        · refine stepOK_of _ [0] rfl (by kernel_rfl) ?_ rfl
          intro t ρ W ht hc hf hn ho hI
          clear hn
          have s0 := ho.1
          simp only [Array.getD_eq_getD_getElem?] at s0
          clear ho
          have hI' := Lib.hid hI
          clear hI
          go_simp
          exact post_mk (hI'.out.up) (IP.refl _ _) rfl
        · refine stepOK_of _ [] rfl (by kernel_rfl) ?_ rfl
          intro t ρ W ht hc hf hn ho hI
          obtain ⟨u4, q4, s20⟩ := hn.1
          clear hn
          have q4 : u4 = _ := q4
          subst q4
          have s20 : ρ (.tmp 20) = _ := s20
          clear ho
          have hI' := Lib.hid hI
          clear hI
          go_simp
          refine (hI'.out.pick (fun _ _ hK hF => hF.kp hK hg (by omega)) 9 (by omega) (by simp at ht; omega) (by omega) (by omega)).mono ?_
          rintro e W2 ⟨r, rfl, _, _, hD, hK⟩
          exact endp_mk (post_mk hD.up' (IP.of_kp hK hg) ⟨_, rfl⟩)
        · refine stepOK_of _ [0] rfl (by kernel_rfl) ?_ rfl
          intro t ρ W ht hc hf hn ho hI
          clear hn
          have s0 := ho.1
          simp only [Array.getD_eq_getD_getElem?] at s0
          clear ho
          have hI' := Lib.hid hI
          clear hI
          go_simp
          exact post_mk (hI'.out.up) (IP.refl _ _) rfl
        · refine stepOK_of _ [] rfl (by kernel_rfl) ?_ rfl
          intro t ρ W ht hc hf hn ho hI
          obtain ⟨u6, q6, s22⟩ := hn.1
          clear hn
          have q6 : u6 = _ := q6
          subst q6
          have s22 : ρ (.tmp 22) = _ := s22
          clear ho
          have hI' := Lib.hid hI
          clear hI
          go_simp
          refine (hI'.out.pick (fun _ _ hK hF => hF.kp hK hg (by omega)) 256 (by omega) (by simp at ht; omega) (by omega) (by omega)).mono ?_
          rintro e W2 ⟨r, rfl, _, _, hD, hK⟩
          exact endp_mk (post_mk hD.up' (IP.of_kp hK hg) ⟨_, rfl⟩)
        · refine stepOK_of _ [] rfl (by kernel_rfl) ?_ rfl
          intro t ρ W ht hc hf hn ho hI
          obtain ⟨u5, q5, s21⟩ := hn.1
          obtain ⟨u7, q7, s23⟩ := hn.2.1
          clear hn
          obtain ⟨r5, rfl⟩ := q5
          have s21 : ρ (.tmp 21) = _ := s21
          obtain ⟨r7, rfl⟩ := q7
          have s23 : ρ (.tmp 23) = _ := s23
          clear ho
          have hI' := Lib.hid hI
          clear hI
          go_simp
          exact post_mk (hI'.out.up.alloc _ (fun h => h.alloc _)) ((IP.refl _ _).alloc _) ⟨_, _, rfl, hI'.out.kp.size, rfl, isI_of (l := [0, r5, 9999, r7]), heap_top _ _ rfl⟩
        · refine stepOK_of _ [] rfl (by kernel_rfl) ?_ rfl
          intro t ρ W ht hc hf hn ho hI
          obtain ⟨u3, q3, s19⟩ := hn.1
          obtain ⟨u8, q8, s24⟩ := hn.2.1
          clear hn
          have q3 : u3 = _ := q3
          subst q3
          have s19 : ρ (.tmp 19) = _ := s19
          have hl8 : (LI w.heap.size 4) u8 W := q8
          have s24 : ρ (.tmp 24) = _ := s24
          clear ho
          have hI' := Lib.hid hI
          clear hI
          go_simp
          refine (hI'.out.one (fun _ _ hK hF => hF.kp hK hg (by omega)) hl8 hg (by omega) (by simp at ht; omega) (by omega) (by omega)).mono ?_
          rintro e W2 ⟨r, rfl, hD, hK⟩
          exact endp_mk (post_mk hD.up' (IP.of_kp hK hg) ⟨_, rfl⟩)
        · refine stepOK_of _ [] rfl (by kernel_rfl) ?_ rfl
          intro t ρ W ht hc hf hn ho hI
          obtain ⟨u1, q1, s17⟩ := hn.1
          obtain ⟨u2, q2, s18⟩ := hn.2.1
          clear hn
          have hl1 : (fun v W => IR w.heap.size 1 v 8 W) u1 W := q1
          have s17 : ρ (.tmp 17) = _ := s17
          have q2 : u2 = _ := q2
          subst q2
          have s18 : ρ (.tmp 18) = _ := s18
          clear ho
          have hI' := Lib.hid hI
          clear hI
          obtain ⟨k, o, c, cur, e, rfl, _, _, hlk, hk, hcs⟩ := IR.at hl1 (by omega)
          go_simp
          refine post_mk hI'.out.up (IP.refl _ _) ⟨k, _, cur, e, rfl, hlk, hk, ?_⟩
          obtain ⟨y, hy⟩ := hcs i.toNat (by omega)
          exact ⟨y, by first | exact hy | simpa using hy⟩
        · refine stepOK_of _ [] rfl (by kernel_rfl) ?_ rfl
          intro t ρ W ht hc hf hn ho hI
          obtain ⟨u10, q10, s26⟩ := hn.1
          obtain ⟨u9, q9, s25⟩ := hn.2.1
          obtain ⟨u1, q1, s17⟩ := hn.2.2.2.2.1
          clear hn
          obtain ⟨k10, o10, cs10, t10, rfl, hl10, hb10, hc10⟩ := q10
          have s26 : ρ (.tmp 26) = _ := s26
          obtain ⟨r9, rfl⟩ := q9
          have s25 : ρ (.tmp 25) = _ := s25
          have hl1 : (fun v W => IR w.heap.size 1 v 8 W) u1 W := q1
          have s17 : ρ (.tmp 17) = _ := s17
          clear ho
          have hI' := Lib.hid hI
          clear hI
          obtain ⟨y10, hy10⟩ := hc10
          have j0 := blk_cell hb10 o10
          have j1 := blk_frozen hb10 o10
          rw [hy10] at j0
          go_simp
          exact post_mk (hI'.out.up.own hl10 hge' hg _ (fun h => h.int hb10 ⟨_, hy10⟩ _)) ((IP.refl _ _).int _ _ _) trivial
      case hst => exact vv_stable ⟨isV_st, IR.stv, isV_st, isV_st, isV_st, fun _ _ _ _ h => h, isV_st, fun _ _ _ _ h => h, LI.st, fun _ _ _ _ h => h, ptr_st, fun _ _ _ _ h => h, trivial⟩
      intro vs W hlen hI hV
      obtain ⟨x0, x1, x2, x3, x4, x5, x6, x7, x8, x9, x10, x11, rfl⟩ := list_len12_Q6 vs hlen
      have y0 : x0 = _ := hV 0 _ rfl
      subst y0
      have y1 := hV 1 _ rfl
      have hl1 : (fun v W => IR w.heap.size 1 v 8 W) x1 W := y1
      have y2 : x2 = _ := hV 2 _ rfl
      subst y2
      have y3 : x3 = _ := hV 3 _ rfl
      subst y3
      have y4 : x4 = _ := hV 4 _ rfl
      subst y4
      have y5 := hV 5 _ rfl
      obtain ⟨r5, rfl⟩ := y5
      have y6 : x6 = _ := hV 6 _ rfl
      subst y6
      have y7 := hV 7 _ rfl
      obtain ⟨r7, rfl⟩ := y7
      have y8 := hV 8 _ rfl
      have hl8 : (LI w.heap.size 4) x8 W := y8
      have y9 := hV 9 _ rfl
      obtain ⟨r9, rfl⟩ := y9
      have y10 := hV 10 _ rfl
      obtain ⟨k10, o10, cs10, t10, rfl, hl10, hb10, hc10⟩ := y10
      have y11 := hV 11 _ rfl
      clear hV hlen
      simp only [Exit.then, putAll, Act.put, List.setIfInBounds_toArray, List.set_cons_zero, List.set_cons_succ]
      go_wp2_with fail
      exact ⟨⟨i + 1, rfl, by omega, by omega, Lib.hid (hI.mono (by omega) (by simp; omega))⟩, by simp [intOf]; omega⟩
    · have hi' : i = 8 := by omega
      subst hi'
      obtain ⟨u1, u2, u3, pc, fl, n3, hb, j1, j2, j3, j4, hzb, hzn⟩ := (hI.out).f
      obtain ⟨B1, b1, rfl, _⟩ := j1.form
      obtain ⟨B2, b2, rfl, _⟩ := j2.form
      obtain ⟨B3, b3, rfl, _⟩ := j3.form
      have jb := blk_cell hb
      have jf := blk_frozen hb
      have hBr := (Array.getElem?_eq_some_iff.1 hb).1
      clear hzb hzn hb j1 j2 j3 j4
      go_wp2_with fail
      refine (hI.out.pick (fun _ _ hK hF => hF.kp hK hg (by omega)) ops.length (by omega) (by omega) (by omega) (by omega)).mono ?_
      rintro e w3 ⟨r3, rfl, _, _, hD3, hK3⟩
      clear hI jb jf hBr
      obtain ⟨u1, u2, u3, pc, fl, n3, hb, j1, j2, j3, j4, hzb, hzn⟩ := (hD3).f
      obtain ⟨B1, b1, rfl, _⟩ := j1.form
      obtain ⟨B2, b2, rfl, _⟩ := j2.form
      obtain ⟨B3, b3, rfl, _⟩ := j3.form
      have jb := blk_cell hb
      have jf := blk_frozen hb
      have hBr := (Array.getElem?_eq_some_iff.1 hb).1
      clear hzb hzn hb j1 j2 j3 j4
      replace hD3 := Lib.hid (hD3.own (o := 2) (by omega : w.heap.size ≤ w2.heap.size) hge' hg (.int .i64 r3) (fun h => h.pc r3))
      clear hK3
      go_wp2_with fail
      refine (hD3.out.pick (fun _ _ hK hF => hF.kp hK hg (by omega)) 12 (by omega) (by omega) (by omega) (by omega)).mono ?_
      rintro e w4 ⟨r4, rfl, _, _, hD4, hK4⟩
      clear hK4 jb jf hBr
      obtain ⟨u1, u2, u3, pc, fl, n3, hb, j1, j2, j3, j4, hzb, hzn⟩ := (hD4).f
      obtain ⟨B1, b1, rfl, _⟩ := j1.form
      obtain ⟨B2, b2, rfl, _⟩ := j2.form
      obtain ⟨B3, b3, rfl, _⟩ := j3.form
      have jb := blk_cell hb
      have jf := blk_frozen hb
      have hBr := (Array.getElem?_eq_some_iff.1 hb).1
      clear hzb hzn hb j1 j2 j3 j4 hD3
      replace hD4 := Lib.hid (hD4.own (o := 3) (by omega : w.heap.size ≤ w2.heap.size) hge' hg (.bool (r4 == 0)) (fun h => h.fl (r4 == 0)))
      go_wp2_with fail
      refine (hD4.out.pick (fun _ _ hK hF => hF.kp hK hg (by omega)) 5 (by omega) (by omega) (by omega) (by omega)).mono ?_
      rintro e w5 ⟨r5, rfl, ra5, rb5, hD5, hK5⟩
      clear hK5 jb jf hBr hD4
      have hI5 := Lib.hid (hD5.imp (G := PJ w.heap.size w2.heap.size ops.length 8 (fun m _ => (m : Int) + r5 ≤ 4)) (fun h => h.impN (fun m v e => by omega)))
      clear hD5
      go_wp2_with fail
      go_loopw [5] (fun v5 wr => ∃ n : Int, v5 = .int .i64 n ∧ 0 ≤ n ∧ n ≤ 4 ∧ Hid (DI w0 w g p (p + 300 + 12 * (4 - n)) (PJ w.heap.size w2.heap.size ops.length 8 (fun m _ => (m : Int) + n ≤ 4)) wr)) (fun v5 _ => (intOf v5).toNat)
      case atStart => exact ⟨r5, rfl, by omega, by omega, Lib.hid (hI5.out.mono (by omega) (by omega))⟩
      case round =>
        obtain ⟨n, rfl, n0, n1, hI⟩ := hrel
        clear hI5
        by_cases hn : 0 < n
        · go_wp2_with fail
          obtain ⟨u1, u2, u3, pc, fl, n3, hb, j1, j2, j3, j4, hzb, hzn⟩ := hI.out.f
          have hI' : DI w0 w g p (p + 300 + 12 * (4 - n)) (PJ w.heap.size w2.heap.size ops.length 8 (fun m _ => m = n3)) wr := hI.out.imp (fun _ => ⟨u1, u2, u3, pc, fl, n3, hb, j1, j2, j3, rfl, hzb, hzn⟩)
          clear hzb hzn hb j1 j2 j3 hI
          replace hI' := Lib.hid hI'
          apply region_inv5 (VV2 [fun _ => IsV _, fun _ => (fun v W => OR w.heap.size v n3 W), fun _ => IsV _, fun _ => IsV _, fun _ => (fun v _ => IsI v), fun _ => (LI w.heap.size 2), fun _ => (fun v _ => IsI v), fun _ => (LI w.heap.size 1), fun _ => (fun v W => OR w.heap.size v (n3 + 1) W), fun _ => IsV _, fun _ => (AnyV)]) (fun bs W => DI w0 w g p (p + 300 + 12 * (4 - n) + bN bs [4, 6]) (PJ w.heap.size w2.heap.size ops.length 8 (fun m _ => m = n3 + (if bs 10 = true then 1 else 0))) W) (IP w.heap.size) (by kernel_rfl) 54 rfl (by kernel_rfl)
          case h0 =>
            exact (hI'.out.mono (by omega) (by simp [bN])).drew PJ.drew
          case hsteps =>
            refine ⟨?_, ?_, ?_, ?_, ?_, ?_, ?_, ?_, ?_, ?_, ?_, trivial⟩
            · refine stepOK5_of _ [3] rfl rfl (by kernel_rfl) ?_ rfl
              intro bs ρ W hbj hbn hc hf hn ho hcl hI
              clear hn
              have s3 := ho.1
              simp only [Array.getD_eq_getD_getElem?] at s3
              clear ho
              have hI' := Lib.hid hI
              clear hI
              go_simp
              exact postL_mk (hI'.out.nb rfl) (IP.refl _ _) rfl
            · refine stepOK5_of _ [] rfl rfl (by kernel_rfl) ?_ rfl
              intro bs ρ W hbj hbn hc hf hn ho hcl hI
              obtain ⟨u0, q0, s43⟩ := hn.1
              clear hn
              have q0 : u0 = _ := q0
              subst q0
              have s43 : ρ (.tmp 43) = _ := s43
              clear ho
              have hI' := Lib.hid hI
              obtain ⟨v1, v2, v3, vc, vl, m3, hb, e1, e2, e3, e4, e5, e6⟩ := hI.f
              have hb10 := not_yet hcl hbj 10 (by kernel_rfl)
              rw [hb10] at e4
              have e4' : m3 = n3 := by simpa using e4
              subst e4'
              have j4 := blk_cell hb 4
              clear hI hb e1 e2 e4 e5 e6
              go_simp
              exact postL_mk (hI'.out.nb rfl) (IP.refl _ _) e3
            · refine stepOK5_of _ [0] rfl rfl (by kernel_rfl) ?_ rfl
              intro bs ρ W hbj hbn hc hf hn ho hcl hI
              clear hn
              have s0 := ho.1
              simp only [Array.getD_eq_getD_getElem?] at s0
              clear ho
              have hI' := Lib.hid hI
              clear hI
              go_simp
              exact postL_mk (hI'.out.nb rfl) (IP.refl _ _) rfl
            · refine stepOK5_of _ [0] rfl rfl (by kernel_rfl) ?_ rfl
              intro bs ρ W hbj hbn hc hf hn ho hcl hI
              clear hn
              have s0 := ho.1
              simp only [Array.getD_eq_getD_getElem?] at s0
              clear ho
              have hI' := Lib.hid hI
              clear hI
              go_simp
              exact postL_mk (hI'.out.nb rfl) (IP.refl _ _) rfl
            · refine stepOK5_of _ [] rfl rfl (by kernel_rfl) ?_ rfl
              intro bs ρ W hbj hbn hc hf hn ho hcl hI
              obtain ⟨u3, q3, s46⟩ := hn.1
              clear hn
              have q3 : u3 = _ := q3
              subst q3
              have s46 : ρ (.tmp 46) = _ := s46
              clear ho
              have hI' := Lib.hid hI
              clear hI
              go_simp
              refine (hI'.out.pick (fun _ _ hK hF => hF.kp hK hg (by omega)) 256 (by omega) (by have : bN bs [4, 6] ≤ 2 := (by unfold bN bN bN; split <;> split <;> decide); omega) (by omega) (by omega)).mono ?_
              rintro e W2 ⟨r, rfl, _, _, hD, hK⟩
              exact endp_mk (postL_mk (hD.nb1 rfl hbj) (IP.of_kp hK hg) ⟨_, rfl⟩)
            · refine stepOK5_of _ [] rfl rfl (by kernel_rfl) ?_ rfl
              intro bs ρ W hbj hbn hc hf hn ho hcl hI
              obtain ⟨u4, q4, s47⟩ := hn.1
              clear hn
              obtain ⟨r4, rfl⟩ := q4
              have s47 : ρ (.tmp 47) = _ := s47
              clear ho
              have hI' := Lib.hid hI
              clear hI
              go_simp
              exact postL_mk ((hI'.out.nb rfl).alloc _ (fun h => h.alloc _)) ((IP.refl _ _).alloc _) ⟨_, _, rfl, hI'.out.kp.size, rfl, isI_of (l := [r4, 9999]), heap_top _ _ rfl⟩
            · refine stepOK5_of _ [] rfl rfl (by kernel_rfl) ?_ rfl
              intro bs ρ W hbj hbn hc hf hn ho hcl hI
              obtain ⟨u2, q2, s45⟩ := hn.1
              obtain ⟨u5, q5, s48⟩ := hn.2.1
              clear hn
              have q2 : u2 = _ := q2
              subst q2
              have s45 : ρ (.tmp 45) = _ := s45
              have hl5 : (LI w.heap.size 2) u5 W := q5
              have s48 : ρ (.tmp 48) = _ := s48
              clear ho
              have hI' := Lib.hid hI
              clear hI
              go_simp
              refine (hI'.out.one (fun _ _ hK hF => hF.kp hK hg (by omega)) hl5 hg (by omega) (by have : bN bs [4, 6] ≤ 2 := (by unfold bN bN bN; split <;> split <;> decide); omega) (by omega) (by omega)).mono ?_
              rintro e W2 ⟨r, rfl, hD, hK⟩
              exact endp_mk (postL_mk (hD.nb1 rfl hbj) (IP.of_kp hK hg) ⟨_, rfl⟩)
            · refine stepOK5_of _ [] rfl rfl (by kernel_rfl) ?_ rfl
              intro bs ρ W hbj hbn hc hf hn ho hcl hI
              obtain ⟨u6, q6, s49⟩ := hn.1
              clear hn
              obtain ⟨r6, rfl⟩ := q6
              have s49 : ρ (.tmp 49) = _ := s49
              clear ho
              have hI' := Lib.hid hI
              clear hI
              go_simp
              exact postL_mk ((hI'.out.nb rfl).alloc _ (fun h => h.alloc _)) ((IP.refl _ _).alloc _) ⟨_, _, rfl, hI'.out.kp.size, rfl, isI_of (l := [r6]), heap_top _ _ rfl⟩
            · refine stepOK5_of _ [] rfl rfl (by kernel_rfl) ?_ rfl
              intro bs ρ W hbj hbn hc hf hn ho hcl hI
              obtain ⟨u1, q1, s44⟩ := hn.1
              obtain ⟨u7, q7, s50⟩ := hn.2.1
              clear hn
              have hl1 : (fun v W => OR w.heap.size v n3 W) u1 W := q1
              have s44 : ρ (.tmp 44) = _ := s44
              have hl7 : (LI w.heap.size 1) u7 W := q7
              have s50 : ρ (.tmp 50) = _ := s50
              clear ho
              have hI' := Lib.hid hI
              clear hI
              obtain ⟨A7, cs7, rfl, hA7, hs7, hi7, hb7⟩ := hl7
              obtain ⟨x7, rfl⟩ : ∃ x : Int, cs7 = #[.int .i64 x] := by
                obtain ⟨x, rfl⟩ : ∃ x, cs7 = #[x] := arr1 cs7 hs7
                obtain ⟨r, hr⟩ := hi7 0 x rfl
                exact ⟨r, by rw [hr]⟩
              obtain ⟨v', W', hr, hO, hP, hgr, hrow⟩ := OR.app hl1 hI'.out.kp.size (by omega) 24 A7 x7 _ hb7
              unfold execOp
              simp only [resolve, invoke, builtin, Sem.run_bind, Sem.run_pure, Result.andThen_ok, List.map_toArray, List.map_cons, List.map_nil, s44, s50, hr]
              rw [opOK_value]
              exact postL_mk ((hI'.out.nb rfl).grown hgr hrow hge' hg (fun h => h.grown hP hl1 hgr)) hP hO
            · refine stepOK5_of _ [3] rfl rfl (by kernel_rfl) ?_ rfl
              intro bs ρ W hbj hbn hc hf hn ho hcl hI
              obtain ⟨u1, q1, s44⟩ := hn.2.1
              obtain ⟨u8, q8, s51⟩ := hn.2.2.2.2.2.2.2.2.1
              clear hn
              have hl1 : (fun v W => OR w.heap.size v n3 W) u1 W := q1
              have s44 : ρ (.tmp 44) = _ := s44
              have hl8 : (fun v W => OR w.heap.size v (n3 + 1) W) u8 W := q8
              have s51 : ρ (.tmp 51) = _ := s51
              have s3 := ho.1
              simp only [Array.getD_eq_getD_getElem?] at s3
              clear ho
              have hI' := Lib.hid hI
              clear hI
              go_simp
              exact postL_mk (hI'.out.nb rfl) (IP.refl _ _) rfl
            · refine stepOK5_of _ [] rfl rfl (by kernel_rfl) ?_ rfl
              intro bs ρ W hbj hbn hc hf hn ho hcl hI
              obtain ⟨u9, q9, s52⟩ := hn.1
              obtain ⟨u8, q8, s51⟩ := hn.2.1
              obtain ⟨u1, q1, s44⟩ := hn.2.2.2.2.1
              clear hn
              have q9 : u9 = _ := q9
              subst q9
              have s52 : ρ (.tmp 52) = _ := s52
              have hl8 : (fun v W => OR w.heap.size v (n3 + 1) W) u8 W := q8
              have s51 : ρ (.tmp 51) = _ := s51
              have hl1 : (fun v W => OR w.heap.size v n3 W) u1 W := q1
              have s44 : ρ (.tmp 44) = _ := s44
              clear ho
              have hI' := Lib.hid hI
              obtain ⟨v1, v2, v3, vc, vl, m3, hb, e1, e2, e3, e4, e5, e6⟩ := hI.f
              obtain ⟨_, _, rfl, _⟩ := hl8.form
              have j0 := blk_cell hb 4
              have j1 := blk_frozen hb 4
              have hpb := PJ.ipb hI.f hl8
              clear hI hb e1 e2 e3 e4 e5 e6
              go_simp
              exact postL_mk ((hI'.out.nb rfl).own (by omega) hge' hg _ (fun h => h.box hl8 (by simp [upB]))) hpb trivial
          case hst => exact vv_stable2 ⟨fun _ => isV_st, fun _ => OR.stv, fun _ => isV_st, fun _ => isV_st, fun _ => fun _ _ _ _ h => h, fun _ => LI.st, fun _ => fun _ _ _ _ h => h, fun _ => LI.st, fun _ => OR.stv, fun _ => isV_st, fun _ => fun _ _ _ _ h => h, trivial⟩
          case hloc => exact locAll_of ⟨locE_c, locE_c, locE_c, locE_c, locE_c, locE_c, locE_c, locE_c, locE_c, locE_c, locE_c, trivial⟩
          intro vs bs W hlen hall hI hV
          obtain ⟨x0, x1, x2, x3, x4, x5, x6, x7, x8, x9, x10, rfl⟩ := list_len11_Q6 vs hlen
          have y0 : x0 = _ := hV 0 _ rfl
          subst y0
          have y1 := hV 1 _ rfl
          have hl1 : (fun v W => OR w.heap.size v n3 W) x1 W := y1
          have y2 : x2 = _ := hV 2 _ rfl
          subst y2
          have y3 : x3 = _ := hV 3 _ rfl
          subst y3
          have y4 := hV 4 _ rfl
          obtain ⟨r4, rfl⟩ := y4
          have y5 := hV 5 _ rfl
          have hl5 : (LI w.heap.size 2) x5 W := y5
          have y6 := hV 6 _ rfl
          obtain ⟨r6, rfl⟩ := y6
          have y7 := hV 7 _ rfl
          have hl7 : (LI w.heap.size 1) x7 W := y7
          have y8 := hV 8 _ rfl
          have hl8 : (fun v W => OR w.heap.size v (n3 + 1) W) x8 W := y8
          have y9 : x9 = _ := hV 9 _ rfl
          subst y9
          have y10 := hV 10 _ rfl
          clear hV hlen
          simp only [Exit.then, putAll, Act.put, List.setIfInBounds_toArray, List.set_cons_zero, List.set_cons_succ]
          go_wp2_with fail
          have hb10 := hall 10 (by decide)
          have hbn2 : bN bs [4, 6] ≤ 2 := by unfold bN bN bN; split <;> split <;> decide
          refine ⟨⟨n - 1, rfl, by omega, by omega, Lib.hid ((hI.imp (fun h => h.impN (fun m v e => ?_))).mono (by omega) (by omega))⟩, by simp [intOf]; omega⟩
          rw [hb10, if_pos rfl] at e
          omega
        · have hn' : n = 0 := by omega
          subst hn'
          obtain ⟨u1, u2, u3, pc, fl, n3, hb, j1, j2, j3, j4, hzb, hzn⟩ := (hI.out).f
          obtain ⟨B1, b1, rfl, _⟩ := j1.form
          obtain ⟨B2, b2, rfl, _⟩ := j2.form
          obtain ⟨B3, b3, rfl, _⟩ := j3.form
          have jb := blk_cell hb
          have jf := blk_frozen hb
          have hBr := (Array.getElem?_eq_some_iff.1 hb).1
          obtain ⟨z2, hzl⟩ := hzb
          have jz := blk_cell hzl
          have jzf := blk_frozen hzl
          have hzr := (Array.getElem?_eq_some_iff.1 hzl).1
          have hT := Lib.hid (And.intro hb (And.intro j1 (And.intro j2 (And.intro j3 hzl))))
          clear hb j1 j2 j3 hzl
          go_wp2_with fail
          obtain ⟨_, t1, t2, t3, tz⟩ := hT.out
          have hbF := blk_put (blk_put (blk_put (blk_put (blk_put tz 0 (.slice B1 ops.length b1)) 1 (.slice B2 8 b2)) 2 (.int .i64 pc)) 3 (.bool fl)) 4 (.slice B3 n3 b3)
          have kF := blk_cell hbF
          have hIP : IP w.heap.size wr (((((wr.setCell ⟨w.heap.size, 0, none⟩ (.slice B1 ops.length b1)).setCell ⟨w.heap.size, 1, none⟩ (.slice B2 8 b2)).setCell ⟨w.heap.size, 2, none⟩ (.int .i64 pc)).setCell ⟨w.heap.size, 3, none⟩ (.bool fl)).setCell ⟨w.heap.size, 4, none⟩ (.slice B3 n3 b3)) := (((((IP.refl _ _).other tz 0 (fun x => by simp) _).other (blk_put tz 0 _) 1 (fun x => by simp) _).int _ 2 pc).other (blk_put (blk_put (blk_put tz 0 _) 1 _) 2 _) 3 (fun x => by simp) _).other (blk_put (blk_put (blk_put (blk_put tz 0 _) 1 _) 2 _) 3 _) 4 (fun x => by simp) _
          have hD := (((((hI.out.own (G := fun _ => True) (Nat.le_refl _) hge' hg (o := 0) (.slice B1 ops.length b1) (fun _ => trivial)).own (G := fun _ => True) (Nat.le_refl _) hge' hg (o := 1) (.slice B2 8 b2) (fun _ => trivial)).own (G := fun _ => True) (Nat.le_refl _) hge' hg (o := 2) (.int .i64 pc) (fun _ => trivial)).own (G := fun _ => True) (Nat.le_refl _) hge' hg (o := 3) (.bool fl) (fun _ => trivial)).own (G := fun _ => True) (Nat.le_refl _) hge' hg (o := 4) (.slice B3 n3 b3) (fun _ => trivial))
          have r1 := t1.st hIP
          have r2 := t2.st hIP
          have r3 := t3.st hIP
          generalize ((((wr.setCell ⟨w.heap.size, 0, none⟩ (.slice B1 ops.length b1)).setCell ⟨w.heap.size, 1, none⟩ (.slice B2 8 b2)).setCell ⟨w.heap.size, 2, none⟩ (.int .i64 pc)).setCell ⟨w.heap.size, 3, none⟩ (.bool fl)).setCell ⟨w.heap.size, 4, none⟩ (.slice B3 n3 b3) = W9 at *
          refine bodyPost_ret (v := .agg #[.slice B1 ops.length b1, .slice B2 8 b2, .int .i64 pc, .bool fl, .slice B3 n3 b3]) (by simp [results, Try.results56, go_sem, kF]) rfl ?_
          exact ⟨_, _, _, pc, fl, ops.length, n3, rfl, (hD.imp (fun _ => ⟨r1, r2, r3⟩)).mono (by omega) (by omega), by omega, by omega, by omega⟩
end Go.Proofs.Ytkphkkfgphhjcaa
