/- What draws: any part. -/
import Derived.Test.YtkphkkfgphhjcaaQ6
namespace Go.Proofs.Ytkphkkfgphhjcaa
open Go.RowKit
set_option linter.unusedSimpArgs false
set_option linter.unusedVariables false
theorem list_len12_Q7 : ∀ (l : List Value), l.length = 12 → ∃ x0 x1 x2 x3 x4 x5 x6 x7 x8 x9 x10 x11, l = x0 :: x1 :: x2 :: x3 :: x4 :: x5 :: x6 :: x7 :: x8 :: x9 :: x10 :: x11 :: []
  | x0 :: x1 :: x2 :: x3 :: x4 :: x5 :: x6 :: x7 :: x8 :: x9 :: x10 :: x11 :: [], _ => ⟨x0, x1, x2, x3, x4, x5, x6, x7, x8, x9, x10, x11, rfl⟩

/-- An int below n. -/
def IdxV (n : Int) (v : Value) (_ : World) : Prop := ∃ r : Int, v = .int .i64 r ∧ 0 ≤ r ∧ r < n
/-- Any part that is drawn. -/
def AnyQ (w0 w : World) (g : Nat) (p : Int) (e : Ending) (w' : World) : Prop := ∃ (u1 u2 u3 : Value) (pc : Int) (fl : Bool) (n1 n2 n3 : Nat), e = .returned (.agg #[u1, u2, .int .i64 pc, .bool fl, u3]) ∧ DI w0 w g p (p + 2000) (fun W => IR w.heap.size 3 u1 n1 W ∧ IR w.heap.size 1 u2 n2 W ∧ IR w.heap.size 1 u3 n3 W) w' ∧ 1 ≤ n1 ∧ n1 ≤ 16
theorem DI.base {w0 w1 w W : World} {g : Nat} {a b : Int} {F : World → Prop} (h : DI w0 w1 g a b F W) (hk : Kp g w w1) : DI w0 w g a b F W := by
  obtain ⟨q, h1, h2, h3, h4, h5⟩ := h
  exact ⟨q, h1, h2, h3, hk.trans h4, h5⟩
theorem OR.mono {lo lo' n : Nat} {v : Value} {W : World} (h : OR lo v n W) (hl : lo' ≤ lo) : OR lo' v n W := by
  obtain ⟨xs, h1, h2⟩ := h
  exact ⟨xs, own_base h1 hl, h2⟩
/-- The cells, less the first. -/
theorem IR.tail {lo n : Nat} {k o c : Nat} {W : World} (h : IR lo 1 (.slice (some ⟨k, o, none⟩) (n + 1) (c + 1)) (n + 1) W) : IR lo 1 (.slice (some ⟨k, o + 1, none⟩) n c) n W := by
  obtain ⟨A, c', e, h1, h2, h3 | ⟨k', o', cur, t, rfl, hk, hb, hc⟩⟩ := h
  · omega
  · injection e with e1 e2 e3
    injection e1 with e1
    injection e1 with e4 e5
    subst e3 e4 e5
    exact ⟨_, c, rfl, by omega, by omega, .inr ⟨k, o + 1, cur, t, rfl, hk, hb, fun j hj => by
      obtain ⟨x, hx⟩ := hc (j + 1) (by omega)
      exact ⟨x, by rw [← hx]; congr 1; omega⟩⟩⟩
theorem PJ.cut {W : World} {lo B n1 n2 m : Nat} {N3 : Nat → Value → Prop} (h : PJ lo B n1 n2 N3 W) {v : Value} (hv : IR lo 1 v m W) : PJ lo B n1 m N3 (W.setCell ⟨B, 1, none⟩ v) := by
  obtain ⟨u1, u2, u3, pc, fl, n3, h0, h1, h2, h3, h4, hz, hne⟩ := h
  obtain ⟨_, _, rfl, _⟩ := h2.form
  have hp : IP lo W (W.setCell ⟨B, 1, none⟩ v) := (IP.refl _ _).other h0 1 (fun x => by simp) _
  exact ⟨u1, v, u3, pc, fl, n3, blk_put h0 1 _, h1.st hp, hv.st hp, h3.st hp, h4, hz.st (Below.heap_setCell W _ _ _ hne), hne⟩
section
variable {ops : Array Oper} {rest : List Oper} {o : Oper} {a : Act} {Q : Exit → Act → World → Prop}
/-- Append of one int onto a row of one's own. -/
theorem append_or {W : World} (hgd : o.guard = none) (s x : Operand) (ho : o.op = .call { callee := .builtin .append, args := #[s, x], argTypes := #[24, 24] }) {lo n : Nat} {v : Value} (B : Nat) (y : Int) (t : TypeId) (hs : a.eval s = v) (hx : a.eval x = .slice (some ⟨B, 0, none⟩) 1 1) (h : OR lo v n W) (hlo : lo ≤ W.heap.size) (hn : n ≤ 1000000) (hB : W.heap[B]? = some (.cells #[.int .i64 y] t (0, 0)))
    (k : ∀ v' W', OR lo v' (n + 1) W' → IP lo W W' → W.grownBy W' v.ownBlock → (∀ k, v.ownBlock = some k → lo ≤ k) → wpList Try.prog ops Q rest (a.put o.dst v') W') : wpList Try.prog ops Q (o :: rest) a W := by
  obtain ⟨v', w', hr, h1, h2, h3, h4⟩ := OR.app h hlo hn o.type B y t hB
  refine wpList_plain hgd fun K hK => ?_
  unfold Oper.wp execOp
  simp only [ho, resolve, invoke, builtin, Sem.run_bind, Sem.run_pure, Result.andThen_ok, List.map_toArray, List.map_cons, List.map_nil, hs, hx, hr]
  exact hK _ _ (k v' w' h1 h2 h3 h4)
end
set_option maxHeartbeats 4000000
set_option maxRecDepth 100000
theorem anyPart_d (w0 w : World) (g : Nat) (p : Int) (h : Rd w0 w g p) (h0 : 0 ≤ p) (h1 : p ≤ 1000000000) : Calls Try.prog 34 #[.pointer (some ⟨g, 0, none⟩)] w (AnyQ w0 w g p) := by
  have hg : g < w.heap.size := h.lt
  have hge := h.ge
  have hge' : w0.heap.size ≤ w.heap.size := by omega
  go_enter Try.func34, Try.ntmps34
  go_wp2_with fail
  refine (part_d w0 _ g p (h.alloc _) h0 (by omega)).mono ?_
  rintro e w1 ⟨u1, u2, u3, pc, fl, n1, n3, rfl, hD1, hn1, hn1', hn3⟩
  obtain ⟨V1, d1, rfl, _⟩ := hD1.f.1.form
  obtain ⟨V2, d2, rfl, _⟩ := hD1.f.2.1.form
  obtain ⟨V3, d3, rfl, _⟩ := hD1.f.2.2.form
  have hz1 := hD1.kp.size
  simp only [World.size_alloc] at hz1
  have hB : w.heap.size < w1.heap.size := by omega
  have hI1 : DI w0 w g p (p + 1000) (PJ w.heap.size w1.heap.size n1 8 (fun n _ => n ≤ 4)) (w1.alloc (.cells #[.slice V1 n1 d1, .slice V2 8 d2, .int .i64 pc, .bool fl, .slice V3 n3 d3] 26)) := by
    obtain ⟨q, r1, r2, r3, r4, i1, i2, i3⟩ := hD1
    simp only [World.size_alloc] at i1 i2 i3
    have hl := (IP.refl w.heap.size w1).alloc (.cells #[.slice V1 n1 d1, .slice V2 8 d2, .int .i64 pc, .bool fl, .slice V3 n3 d3] 26)
    exact ⟨q, r1.alloc _, r2, r3, (((Kp.refl _ _).alloc _).trans r4).alloc _, _, _, _, pc, fl, n3, heap_top _ _ rfl, (i1.mono (by omega)).st hl, (i2.mono (by omega)).st hl, (i3.mono (by omega)).st hl, hn3, ⟨_, heap_up (r4.blk (heap_top _ _ rfl) (Nat.ne_of_gt hg)) _⟩, by omega⟩
  replace hI1 := Lib.hid hI1
  clear hD1
  go_wp2_with fail
  refine (hI1.out.pick (fun _ _ hK hF => hF.kp hK hg (by omega)) 24 (by omega) (by omega) (by omega) (by omega)).mono ?_
  rintro e w2 ⟨r, rfl, ra, rb, hI2, hK2⟩
  replace hI2 := Lib.hid hI2
  clear hI1 hK2
  rcases (by omega : r = 0 ∨ r = 1 ∨ r = 2 ∨ r = 3 ∨ 4 ≤ r) with rfl | rfl | rfl | rfl | hr
  · obtain ⟨u1, u2, u3, pc, fl, n3, hb, j1, j2, j3, j4, hzb, hzn⟩ := (hI2.out).f
    obtain ⟨B1, b1, rfl, _⟩ := j1.form
    obtain ⟨B2, b2, rfl, _⟩ := j2.form
    obtain ⟨B3, b3, rfl, _⟩ := j3.form
    have jb := blk_cell hb
    have jf := blk_frozen hb
    have hBr := (Array.getElem?_eq_some_iff.1 hb).1
    clear hzb hzn hb j1 j2 j3 j4
    go_wp2_with fail
    have hI3 := hI2.out.alloc (.cells #[.int .i64 (-1), .int .i64 n1] 3) (fun h => h.alloc _)
    refine (hI3.one (fun _ _ hK hF => hF.kp hK hg (by omega)) (lo := w.heap.size) (n := 2) ⟨_, _, rfl, hI2.out.kp.size, rfl, isI_of (l := [-1, (n1 : Int)]), heap_top _ _ rfl⟩ hg (by omega) (by omega) (by omega) (by omega)).mono ?_
    rintro e w3 ⟨r3, rfl, hI4, _⟩
    clear jb jf hBr hI3
    replace hI4 := Lib.hid hI4
    obtain ⟨u1, u2, u3, pc, fl, n3, hb, j1, j2, j3, j4, hzb, hzn⟩ := (hI4.out).f
    obtain ⟨B1, b1, rfl, _⟩ := j1.form
    obtain ⟨B2, b2, rfl, _⟩ := j2.form
    obtain ⟨B3, b3, rfl, _⟩ := j3.form
    have jb := blk_cell hb
    have jf := blk_frozen hb
    have hBr := (Array.getElem?_eq_some_iff.1 hb).1
    obtain ⟨z2, hzl⟩ := hzb
    have hzr := (Array.getElem?_eq_some_iff.1 hzl).1
    have jz := blk_cell hzl
    have jzf := blk_frozen hzl
    have hT := Lib.hid (And.intro hb (And.intro j1 (And.intro j2 (And.intro j3 hzl))))
    clear hb j1 j2 j3 hzl
    have hne' : ¬ w.heap.size = w1.heap.size := by omega
    have hne2 : ¬ w1.heap.size = w.heap.size := by omega
    go_wp2_with fail
    obtain ⟨W8, hW8⟩ : ∃ W, W = w3.setCell ⟨w1.heap.size, 2, none⟩ (.int .i64 r3) := ⟨_, rfl⟩
    rw [← hW8]
    have hI8 : DI w0 w g p (p + 1003) (PJ w.heap.size w1.heap.size n1 8 (fun n _ => n ≤ 4)) W8 := by
      rw [hW8]
      exact (hI4.out.own (by omega) hge' hg _ (fun h => h.pc _)).mono (by omega) (by omega)
    obtain ⟨_, t1, t2, t3, tz⟩ := hT.out
    have hp : IP w.heap.size w3 W8 := by rw [hW8]; exact (IP.refl _ _).int _ _ _
    replace t1 := t1.st hp
    replace t2 := t2.st hp
    replace t3 := t3.st hp
    replace tz : W8.heap[w.heap.size]? = some (.cells #[.slice none 0 0, .slice none 0 0, .int .i64 z2, .bool false, .slice none 0 0] 26 (0, 0)) := by rw [hW8]; exact blk_set tz _ _ hne'
    clear jb jf jz jzf hW8
    obtain ⟨pc, hpc⟩ : ∃ x, x = r3 := ⟨_, rfl⟩
    rw [← hpc]
    replace hI8 := Lib.hid hI8
    have hbF := blk_put (blk_put (blk_put (blk_put (blk_put tz 0 (.slice B1 n1 b1)) 1 (.slice B2 8 (b2))) 2 (.int .i64 pc)) 3 (.bool fl)) 4 (.slice B3 n3 b3)
    have kF := blk_cell hbF
    have hIP : IP w.heap.size W8 (((((W8.setCell ⟨w.heap.size, 0, none⟩ (.slice B1 n1 b1)).setCell ⟨w.heap.size, 1, none⟩ (.slice B2 8 (b2))).setCell ⟨w.heap.size, 2, none⟩ (.int .i64 pc)).setCell ⟨w.heap.size, 3, none⟩ (.bool fl)).setCell ⟨w.heap.size, 4, none⟩ (.slice B3 n3 b3)) := (((((IP.refl _ _).other tz 0 (fun x => by simp) _).other (blk_put tz 0 _) 1 (fun x => by simp) _).int _ 2 pc).other (blk_put (blk_put (blk_put tz 0 _) 1 _) 2 _) 3 (fun x => by simp) _).other (blk_put (blk_put (blk_put (blk_put tz 0 _) 1 _) 2 _) 3 _) 4 (fun x => by simp) _
    have hD := (((((hI8).out.own (G := fun _ => True) (Nat.le_refl _) hge' hg (o := 0) (.slice B1 n1 b1) (fun _ => trivial)).own (G := fun _ => True) (Nat.le_refl _) hge' hg (o := 1) (.slice B2 8 (b2)) (fun _ => trivial)).own (G := fun _ => True) (Nat.le_refl _) hge' hg (o := 2) (.int .i64 pc) (fun _ => trivial)).own (G := fun _ => True) (Nat.le_refl _) hge' hg (o := 3) (.bool fl) (fun _ => trivial)).own (G := fun _ => True) (Nat.le_refl _) hge' hg (o := 4) (.slice B3 n3 b3) (fun _ => trivial)
    have r1 := t1.st hIP
    have r2 := t2.st hIP
    have r3 := (t3.st hIP).ir
    generalize ((((W8.setCell ⟨w.heap.size, 0, none⟩ (.slice B1 n1 b1)).setCell ⟨w.heap.size, 1, none⟩ (.slice B2 8 (b2))).setCell ⟨w.heap.size, 2, none⟩ (.int .i64 pc)).setCell ⟨w.heap.size, 3, none⟩ (.bool fl)).setCell ⟨w.heap.size, 4, none⟩ (.slice B3 n3 b3) = W9 at *
    refine bodyPost_ret (v := .agg #[.slice B1 n1 b1, .slice B2 8 (b2), .int .i64 pc, .bool fl, .slice B3 n3 b3]) (by simp [results, Try.results34, go_sem, kF]) rfl ?_
    exact ⟨_, _, _, pc, fl, n1, 8, n3, rfl, (hD.imp (fun _ => ⟨r1, r2, r3⟩)).mono (by omega) (by omega), by omega, by omega⟩
  · obtain ⟨u1, u2, u3, pc, fl, n3, hb, j1, j2, j3, j4, hzb, hzn⟩ := (hI2.out).f
    obtain ⟨B1, b1, rfl, _⟩ := j1.form
    obtain ⟨B2, b2, rfl, _⟩ := j2.form
    obtain ⟨B3, b3, rfl, _⟩ := j3.form
    have jb := blk_cell hb
    have jf := blk_frozen hb
    have hBr := (Array.getElem?_eq_some_iff.1 hb).1
    clear hzb hzn hb j1 j2 j3 j4
    go_wp2_with fail
    have hI' := Lib.hid hI2.out
    clear jb jf hI2
    apply region_inv (VV [IsV _, (fun v W => IR w.heap.size 1 v 8 W), IsV _, IsV _, (fun v W => IR w.heap.size 1 v 8 W), (IsV (.int .i64 8)), (IdxV 8), IsV _, (LI w.heap.size 2), (fun v _ => IsI v), (PtrI w.heap.size), (AnyV)]) (fun t W => DI w0 w g p (p + 1001 + t) (PJ w.heap.size w1.heap.size n1 8 (fun n _ => n ≤ 4)) W) (IP w.heap.size) (by kernel_rfl) 48 rfl (by kernel_rfl)
    case h0 =>
      exact (hI'.out.mono (by omega) (by omega)).drew PJ.drew
    case hsteps =>
      refine ⟨?_, ?_, ?_, ?_, ?_, ?_, ?_, ?_, ?_, ?_, ?_, ?_, trivial⟩
      · refine stepOK_of _ [3] rfl (by kernel_rfl) ?_ rfl
        intro t ρ W ht hc hf hn ho hI
        clear hn
        have s3 := ho.1
        simp only [Array.getD_eq_getD_getElem?] at s3
        clear ho
        have hI' := Lib.hid hI
        clear hI
        go_simp
        exact post_mk (hI'.out.up) (IP.refl _ _) rfl
      · refine stepOK_of _ [] rfl (by kernel_rfl) ?_ rfl
        intro t ρ W ht hc hf hn ho hI
        obtain ⟨u0, q0, s19⟩ := hn.1
        clear hn
        have q0 : u0 = _ := q0
        subst q0
        have s19 : ρ (.tmp 19) = _ := s19
        clear ho
        have hI' := Lib.hid hI
        obtain ⟨v1, v2, v3, vc, vl, m3, hb, e1, e2, e3, e4, e5, e6⟩ := hI.f
        have j1 := blk_cell hb 1
        clear hI hb e1 e3 e4 e5 e6
        go_simp
        exact post_mk hI'.out.up (IP.refl _ _) e2
      · refine stepOK_of _ [0] rfl (by kernel_rfl) ?_ rfl
        intro t ρ W ht hc hf hn ho hI
        clear hn
        have s0 := ho.1
        simp only [Array.getD_eq_getD_getElem?] at s0
        clear ho
        have hI' := Lib.hid hI
        clear hI
        go_simp
        exact post_mk (hI'.out.up) (IP.refl _ _) rfl
      · refine stepOK_of _ [3] rfl (by kernel_rfl) ?_ rfl
        intro t ρ W ht hc hf hn ho hI
        clear hn
        have s3 := ho.1
        simp only [Array.getD_eq_getD_getElem?] at s3
        clear ho
        have hI' := Lib.hid hI
        clear hI
        go_simp
        exact post_mk (hI'.out.up) (IP.refl _ _) rfl
      · refine stepOK_of _ [] rfl (by kernel_rfl) ?_ rfl
        intro t ρ W ht hc hf hn ho hI
        obtain ⟨u3, q3, s22⟩ := hn.1
        clear hn
        have q3 : u3 = _ := q3
        subst q3
        have s22 : ρ (.tmp 22) = _ := s22
        clear ho
        have hI' := Lib.hid hI
        obtain ⟨v1, v2, v3, vc, vl, m3, hb, e1, e2, e3, e4, e5, e6⟩ := hI.f
        have j1 := blk_cell hb 1
        clear hI hb e1 e3 e4 e5 e6
        go_simp
        exact post_mk hI'.out.up (IP.refl _ _) e2
      · refine stepOK_of _ [] rfl (by kernel_rfl) ?_ rfl
        intro t ρ W ht hc hf hn ho hI
        obtain ⟨u4, q4, s23⟩ := hn.1
        clear hn
        have hl4 : (fun v W => IR w.heap.size 1 v 8 W) u4 W := q4
        have s23 : ρ (.tmp 23) = _ := s23
        clear ho
        have hI' := Lib.hid hI
        obtain ⟨A4, c4, rfl, _⟩ := IR.form hl4
        clear hI
        go_simp
        exact post_mk hI'.out.up (IP.refl _ _) rfl
      · refine stepOK_of _ [] rfl (by kernel_rfl) ?_ rfl
        intro t ρ W ht hc hf hn ho hI
        obtain ⟨u2, q2, s21⟩ := hn.1
        obtain ⟨u5, q5, s24⟩ := hn.2.1
        clear hn
        have q2 : u2 = _ := q2
        subst q2
        have s21 : ρ (.tmp 21) = _ := s21
        have q5 : u5 = _ := q5
        subst q5
        have s24 : ρ (.tmp 24) = _ := s24
        clear ho
        have hI' := Lib.hid hI
        clear hI
        go_simp
        refine (hI'.out.pick (fun _ _ hK hF => hF.kp hK hg (by omega)) 8 (by omega) (by simp at ht; omega) (by omega) (by omega)).mono ?_
        rintro e W2 ⟨r, rfl, ra, rb, hD, hK⟩
        exact endp_mk (post_mk hD.up' (IP.of_kp hK hg) ⟨r, rfl, ra, rb⟩)
      · refine stepOK_of _ [0] rfl (by kernel_rfl) ?_ rfl
        intro t ρ W ht hc hf hn ho hI
        clear hn
        have s0 := ho.1
        simp only [Array.getD_eq_getD_getElem?] at s0
        clear ho
        have hI' := Lib.hid hI
        clear hI
        go_simp
        exact post_mk (hI'.out.up) (IP.refl _ _) rfl
      · refine stepOK_of _ [] rfl (by kernel_rfl) ?_ rfl
        intro t ρ W ht hc hf hn ho hI
        clear hn
        clear ho
        have hI' := Lib.hid hI
        have hsz := hI.kp.size
        clear hI
        go_simp
        exact post_mk (hI'.out.up.alloc _ (fun h => h.alloc _)) ((IP.refl _ _).alloc _) ⟨_, _, rfl, hsz, rfl, isI_of (l := [-1, 10000]), heap_top _ _ rfl⟩
      · refine stepOK_of _ [] rfl (by kernel_rfl) ?_ rfl
        intro t ρ W ht hc hf hn ho hI
        obtain ⟨u7, q7, s26⟩ := hn.1
        obtain ⟨u8, q8, s27⟩ := hn.2.1
        clear hn
        have q7 : u7 = _ := q7
        subst q7
        have s26 : ρ (.tmp 26) = _ := s26
        have hl8 : (LI w.heap.size 2) u8 W := q8
        have s27 : ρ (.tmp 27) = _ := s27
        clear ho
        have hI' := Lib.hid hI
        clear hI
        go_simp
        refine (hI'.out.one (fun _ _ hK hF => hF.kp hK hg (by omega)) hl8 hg (by omega) (by simp at ht; omega) (by omega) (by omega)).mono ?_
        rintro e W2 ⟨r, rfl, hD, hK⟩
        exact endp_mk (post_mk hD.up' (IP.of_kp hK hg) ⟨_, rfl⟩)
      · refine stepOK_of _ [] rfl (by kernel_rfl) ?_ rfl
        intro t ρ W ht hc hf hn ho hI
        obtain ⟨u1, q1, s20⟩ := hn.1
        obtain ⟨u6, q6, s25⟩ := hn.2.1
        obtain ⟨u4, q4, s23⟩ := hn.2.2.2.2.2.2.1
        clear hn
        have hl1 : (fun v W => IR w.heap.size 1 v 8 W) u1 W := q1
        have s20 : ρ (.tmp 20) = _ := s20
        obtain ⟨r6, rfl, r60, r61⟩ := q6
        have s25 : ρ (.tmp 25) = _ := s25
        have hl4 : (fun v W => IR w.heap.size 1 v 8 W) u4 W := q4
        have s23 : ρ (.tmp 23) = _ := s23
        clear ho
        have hI' := Lib.hid hI
        clear hI
        obtain ⟨k, o, c, cur, e, rfl, _, _, hlk, hk, hcs⟩ := IR.at hl1 (by omega)
        go_simp
        refine post_mk hI'.out.up (IP.refl _ _) ⟨k, _, cur, e, rfl, hlk, hk, ?_⟩
        obtain ⟨y, hy⟩ := hcs r6.toNat (by omega)
        exact ⟨y, by first | exact hy | simpa using hy⟩
      · refine stepOK_of _ [] rfl (by kernel_rfl) ?_ rfl
        intro t ρ W ht hc hf hn ho hI
        obtain ⟨u10, q10, s29⟩ := hn.1
        obtain ⟨u9, q9, s28⟩ := hn.2.1
        obtain ⟨u1, q1, s20⟩ := hn.2.2.2.2.1
        obtain ⟨u4, q4, s23⟩ := hn.2.2.2.2.2.2.2.1
        clear hn
        obtain ⟨k10, o10, cs10, t10, rfl, hl10, hb10, hc10⟩ := q10
        have s29 : ρ (.tmp 29) = _ := s29
        obtain ⟨r9, rfl⟩ := q9
        have s28 : ρ (.tmp 28) = _ := s28
        have hl1 : (fun v W => IR w.heap.size 1 v 8 W) u1 W := q1
        have s20 : ρ (.tmp 20) = _ := s20
        have hl4 : (fun v W => IR w.heap.size 1 v 8 W) u4 W := q4
        have s23 : ρ (.tmp 23) = _ := s23
        clear ho
        have hI' := Lib.hid hI
        clear hI
        obtain ⟨y10, hy10⟩ := hc10
        have j0 := blk_cell hb10 o10
        have j1 := blk_frozen hb10 o10
        rw [hy10] at j0
        go_simp
        exact post_mk (hI'.out.up.own hl10 hge' hg _ (fun h => h.int hb10 ⟨_, hy10⟩ _)) ((IP.refl _ _).int _ _ _) trivial
    case hst => exact vv_stable ⟨isV_st, IR.stv, isV_st, isV_st, IR.stv, fun _ _ _ _ h => h, fun _ _ _ _ h => h, isV_st, LI.st, fun _ _ _ _ h => h, ptr_st, fun _ _ _ _ h => h, trivial⟩
    intro vs W hlen hI hV
    obtain ⟨x0, x1, x2, x3, x4, x5, x6, x7, x8, x9, x10, x11, rfl⟩ := list_len12_Q7 vs hlen
    have y0 : x0 = _ := hV 0 _ rfl
    subst y0
    have y1 := hV 1 _ rfl
    have hl1 : (fun v W => IR w.heap.size 1 v 8 W) x1 W := y1
    have y2 : x2 = _ := hV 2 _ rfl
    subst y2
    have y3 : x3 = _ := hV 3 _ rfl
    subst y3
    have y4 := hV 4 _ rfl
    have hl4 : (fun v W => IR w.heap.size 1 v 8 W) x4 W := y4
    have y5 : x5 = _ := hV 5 _ rfl
    subst y5
    have y6 := hV 6 _ rfl
    obtain ⟨r6, rfl, r60, r61⟩ := y6
    have y7 : x7 = _ := hV 7 _ rfl
    subst y7
    have y8 := hV 8 _ rfl
    have hl8 : (LI w.heap.size 2) x8 W := y8
    have y9 := hV 9 _ rfl
    obtain ⟨r9, rfl⟩ := y9
    have y10 := hV 10 _ rfl
    obtain ⟨k10, o10, cs10, t10, rfl, hl10, hb10, hc10⟩ := y10
    have y11 := hV 11 _ rfl
    clear hV hlen
    simp only [Exit.then, putAll, Act.put, List.setIfInBounds_toArray, List.set_cons_zero, List.set_cons_succ]
    replace hI := Lib.hid (hI.mono (Int.le_refl _) (by simp; omega : _ ≤ p + 1100))
    obtain ⟨W8, hW8⟩ : ∃ X9, X9 = W := ⟨_, rfl⟩
    rw [← hW8] at hI ⊢
    clear hW8
    obtain ⟨u1, u2, u3, pc, fl, n3, hb, j1, j2, j3, j4, hzb, hzn⟩ := ((hI).out).f
    obtain ⟨B1, b1, rfl, _⟩ := j1.form
    obtain ⟨B2, b2, rfl, _⟩ := j2.form
    obtain ⟨B3, b3, rfl, _⟩ := j3.form
    have jb := blk_cell hb
    have jf := blk_frozen hb
    have hBr := (Array.getElem?_eq_some_iff.1 hb).1
    obtain ⟨z2, hzl⟩ := hzb
    have jz := blk_cell hzl
    have jzf := blk_frozen hzl
    have hzr := (Array.getElem?_eq_some_iff.1 hzl).1
    have hT := Lib.hid (And.intro hb (And.intro j1 (And.intro j2 (And.intro j3 hzl))))
    clear hb j1 j2 j3 hzl
    go_wp2_with fail
    obtain ⟨_, t1, t2, t3, tz⟩ := hT.out
    have hbF := blk_put (blk_put (blk_put (blk_put (blk_put tz 0 (.slice B1 n1 b1)) 1 (.slice B2 8 (b2))) 2 (.int .i64 pc)) 3 (.bool fl)) 4 (.slice B3 n3 b3)
    have kF := blk_cell hbF
    have hIP : IP w.heap.size W8 (((((W8.setCell ⟨w.heap.size, 0, none⟩ (.slice B1 n1 b1)).setCell ⟨w.heap.size, 1, none⟩ (.slice B2 8 (b2))).setCell ⟨w.heap.size, 2, none⟩ (.int .i64 pc)).setCell ⟨w.heap.size, 3, none⟩ (.bool fl)).setCell ⟨w.heap.size, 4, none⟩ (.slice B3 n3 b3)) := (((((IP.refl _ _).other tz 0 (fun x => by simp) _).other (blk_put tz 0 _) 1 (fun x => by simp) _).int _ 2 pc).other (blk_put (blk_put (blk_put tz 0 _) 1 _) 2 _) 3 (fun x => by simp) _).other (blk_put (blk_put (blk_put (blk_put tz 0 _) 1 _) 2 _) 3 _) 4 (fun x => by simp) _
    have hD := (((((hI).out.own (G := fun _ => True) (Nat.le_refl _) hge' hg (o := 0) (.slice B1 n1 b1) (fun _ => trivial)).own (G := fun _ => True) (Nat.le_refl _) hge' hg (o := 1) (.slice B2 8 (b2)) (fun _ => trivial)).own (G := fun _ => True) (Nat.le_refl _) hge' hg (o := 2) (.int .i64 pc) (fun _ => trivial)).own (G := fun _ => True) (Nat.le_refl _) hge' hg (o := 3) (.bool fl) (fun _ => trivial)).own (G := fun _ => True) (Nat.le_refl _) hge' hg (o := 4) (.slice B3 n3 b3) (fun _ => trivial)
    have r1 := t1.st hIP
    have r2 := t2.st hIP
    have r3 := (t3.st hIP).ir
    generalize ((((W8.setCell ⟨w.heap.size, 0, none⟩ (.slice B1 n1 b1)).setCell ⟨w.heap.size, 1, none⟩ (.slice B2 8 (b2))).setCell ⟨w.heap.size, 2, none⟩ (.int .i64 pc)).setCell ⟨w.heap.size, 3, none⟩ (.bool fl)).setCell ⟨w.heap.size, 4, none⟩ (.slice B3 n3 b3) = W9 at *
    refine bodyPost_ret (v := .agg #[.slice B1 n1 b1, .slice B2 8 (b2), .int .i64 pc, .bool fl, .slice B3 n3 b3]) (by simp [results, Try.results34, go_sem, kF]) rfl ?_
    exact ⟨_, _, _, pc, fl, n1, 8, n3, rfl, (hD.imp (fun _ => ⟨r1, r2, r3⟩)).mono (by omega) (by omega), by omega, by omega⟩
  · obtain ⟨u1, u2, u3, pc, fl, n3, hb, j1, j2, j3, j4, hzb, hzn⟩ := (hI2.out).f
    obtain ⟨B1, b1, rfl, _⟩ := j1.form
    obtain ⟨B2, b2, rfl, _⟩ := j2.form
    obtain ⟨B3, b3, rfl, _⟩ := j3.form
    have jb := blk_cell hb
    have jf := blk_frozen hb
    have hBr := (Array.getElem?_eq_some_iff.1 hb).1
    obtain ⟨k, o, c, cur, e, e9, h7, h8, hlk, hk, hcs⟩ := j2.at (by omega)
    injection e9 with e9 e10 e11
    subst e9 e11
    obtain ⟨c1, rfl⟩ : ∃ c1, b2 = c1 + 1 := ⟨b2 - 1, by omega⟩
    obtain ⟨z2, hzl⟩ := hzb
    have hzr := (Array.getElem?_eq_some_iff.1 hzl).1
    have jz := blk_cell hzl
    have jzf := blk_frozen hzl
    have hT := Lib.hid (And.intro hb (And.intro j1 (And.intro j2 (And.intro j3 hzl))))
    clear hb j1 j2 j3 hzl hk hcs
    have hne' : ¬ w.heap.size = w1.heap.size := by omega
    have hne2 : ¬ w1.heap.size = w.heap.size := by omega
    have hc1 : ¬ (c1 + 1 - 1 = 0) := by omega
    go_wp2_with fail
    obtain ⟨W8, hW8⟩ : ∃ W, W = w2.setCell ⟨w1.heap.size, 1, none⟩ (.slice (some ⟨k, o + 1, none⟩) 7 c1) := ⟨_, rfl⟩
    rw [← hW8]
    obtain ⟨t0, t1, t2, t3, tz⟩ := hT.out
    have hcut := IR.tail (n := 7) t2
    have hI8 : DI w0 w g p (p + 1003) (PJ w.heap.size w1.heap.size n1 7 (fun n _ => n ≤ 4)) W8 := by
      rw [hW8]
      exact (hI2.out.own (by omega) hge' hg _ (fun h => h.cut hcut)).mono (by omega) (by omega)
    have hp : IP w.heap.size w2 W8 := by
      rw [hW8]
      exact (IP.refl _ _).other (by assumption) 1 (fun x => by simp) _
    replace t1 := t1.st hp
    replace t2 := hcut.st hp
    replace t3 := t3.st hp
    replace tz : W8.heap[w.heap.size]? = some (.cells #[.slice none 0 0, .slice none 0 0, .int .i64 z2, .bool false, .slice none 0 0] 26 (0, 0)) := by rw [hW8]; exact blk_set tz _ _ hne'
    clear jb jf jz jzf hW8
    replace hI8 := Lib.hid hI8
    have hbF := blk_put (blk_put (blk_put (blk_put (blk_put tz 0 (.slice B1 n1 b1)) 1 (.slice (some ⟨k, o + 1, none⟩) 7 (c1))) 2 (.int .i64 pc)) 3 (.bool fl)) 4 (.slice B3 n3 b3)
    have kF := blk_cell hbF
    have hIP : IP w.heap.size W8 (((((W8.setCell ⟨w.heap.size, 0, none⟩ (.slice B1 n1 b1)).setCell ⟨w.heap.size, 1, none⟩ (.slice (some ⟨k, o + 1, none⟩) 7 (c1))).setCell ⟨w.heap.size, 2, none⟩ (.int .i64 pc)).setCell ⟨w.heap.size, 3, none⟩ (.bool fl)).setCell ⟨w.heap.size, 4, none⟩ (.slice B3 n3 b3)) := (((((IP.refl _ _).other tz 0 (fun x => by simp) _).other (blk_put tz 0 _) 1 (fun x => by simp) _).int _ 2 pc).other (blk_put (blk_put (blk_put tz 0 _) 1 _) 2 _) 3 (fun x => by simp) _).other (blk_put (blk_put (blk_put (blk_put tz 0 _) 1 _) 2 _) 3 _) 4 (fun x => by simp) _
    have hD := (((((hI8).out.own (G := fun _ => True) (Nat.le_refl _) hge' hg (o := 0) (.slice B1 n1 b1) (fun _ => trivial)).own (G := fun _ => True) (Nat.le_refl _) hge' hg (o := 1) (.slice (some ⟨k, o + 1, none⟩) 7 (c1)) (fun _ => trivial)).own (G := fun _ => True) (Nat.le_refl _) hge' hg (o := 2) (.int .i64 pc) (fun _ => trivial)).own (G := fun _ => True) (Nat.le_refl _) hge' hg (o := 3) (.bool fl) (fun _ => trivial)).own (G := fun _ => True) (Nat.le_refl _) hge' hg (o := 4) (.slice B3 n3 b3) (fun _ => trivial)
    have r1 := t1.st hIP
    have r2 := t2.st hIP
    have r3 := (t3.st hIP).ir
    generalize ((((W8.setCell ⟨w.heap.size, 0, none⟩ (.slice B1 n1 b1)).setCell ⟨w.heap.size, 1, none⟩ (.slice (some ⟨k, o + 1, none⟩) 7 (c1))).setCell ⟨w.heap.size, 2, none⟩ (.int .i64 pc)).setCell ⟨w.heap.size, 3, none⟩ (.bool fl)).setCell ⟨w.heap.size, 4, none⟩ (.slice B3 n3 b3) = W9 at *
    refine bodyPost_ret (v := .agg #[.slice B1 n1 b1, .slice (some ⟨k, o + 1, none⟩) 7 (c1), .int .i64 pc, .bool fl, .slice B3 n3 b3]) (by simp [results, Try.results34, go_sem, kF]) rfl ?_
    exact ⟨_, _, _, pc, fl, n1, 7, n3, rfl, (hD.imp (fun _ => ⟨r1, r2, r3⟩)).mono (by omega) (by omega), by omega, by omega⟩
  · obtain ⟨u1, u2, u3, pc, fl, n3, hb, j1, j2, j3, j4, hzb, hzn⟩ := hI2.out.f
    have hI3 := DI.imp (G := PJ w.heap.size w1.heap.size n1 8 (fun m _ => m + (5 - n3) = 5)) hI2.out (fun _ => ⟨u1, u2, u3, pc, fl, n3, hb, j1, j2, j3, by omega, hzb, hzn⟩)
    clear hI2 hb j1 j2 j3 hzb hzn
    replace hI3 := Lib.hid hI3
    go_wp2_with fail
    go_loopg [] (5 - n3) (fun k wr => Hid (DI w0 w g p (p + 1001) (PJ w.heap.size w1.heap.size n1 8 (fun m _ => m + k = 5)) wr))
    case atStart => exact Lib.hid (hI3.out.mono (by omega) (by omega))
    case round =>
      obtain ⟨W8, hW8⟩ : ∃ X9, X9 = wr := ⟨_, rfl⟩
      rw [← hW8] at hrel ⊢
      have hI4 := hrel
      clear hI3 hrel hW8
      obtain ⟨u1, u2, u3, pc, fl, n3, hb, j1, j2, j3, j4, hzb, hzn⟩ := (hI4.out).f
      obtain ⟨B1, b1, rfl, _⟩ := j1.form
      obtain ⟨B2, b2, rfl, _⟩ := j2.form
      obtain ⟨B3, b3, rfl, _⟩ := j3.form
      have jb := blk_cell hb
      have jf := blk_frozen hb
      have hBr := (Array.getElem?_eq_some_iff.1 hb).1
      by_cases hm : n3 ≤ 4
      · have hm' : (n3 : Int) ≤ 4 := by omega
        have hO := Lib.hid (j3.st ((IP.refl _ _).alloc (.cells #[.int .i64 1] 3)))
        clear hzb hzn hb j1 j2 j3
        go_wp2_with (at_builtin; refine append_or rfl _ _ rfl W8.heap.size 1 _ rfl rfl hO.out (by simp; have := hI4.out.kp.size; omega) (by omega) (heap_top _ _ rfl) ?_; intro v5 w5 a1 a2 a3 a4; obtain ⟨A5, c5, rfl, _⟩ := a1.form; have hD5 := Lib.hid ((hI4.out.alloc _ (fun h => h.alloc _)).grown (G := PJ w.heap.size w1.heap.size n1 8 (fun m _ => m + gk = 5)) a3 a4 hge' hg (fun h => h.grown a2 hO.out a3)); obtain ⟨x1, x2, x3, xc, xl, xn, xb, _, _, x3o, _⟩ := hD5.out.f; obtain ⟨_, _, rfl, _⟩ := x3o.form; have kx := blk_cell xb; have kf := blk_frozen xb; have hxr := (Array.getElem?_eq_some_iff.1 xb).1; clear xb x3o; replace a1 := Lib.hid a1; clear a2 a3 a4)
        go_roundg (gk - 1)
        case measure => omega
        case rel => exact Lib.hid (hD5.out.own (by omega) hge' hg _ (fun h => h.box a1.out (by omega)))
      · have hm' : ¬ (n3 : Int) ≤ 4 := by omega
        obtain ⟨z2, hzl⟩ := hzb
        have jz := blk_cell hzl
        have jzf := blk_frozen hzl
        have hzr := (Array.getElem?_eq_some_iff.1 hzl).1
        have hT := Lib.hid (And.intro hb (And.intro j1 (And.intro j2 (And.intro j3 hzl))))
        clear hb j1 j2 j3 hzl
        go_wp2_with fail
        obtain ⟨_, t1, t2, t3, tz⟩ := hT.out
        have hbF := blk_put (blk_put (blk_put (blk_put (blk_put tz 0 (.slice B1 n1 b1)) 1 (.slice B2 8 (b2))) 2 (.int .i64 pc)) 3 (.bool fl)) 4 (.slice B3 n3 b3)
        have kF := blk_cell hbF
        have hIP : IP w.heap.size W8 (((((W8.setCell ⟨w.heap.size, 0, none⟩ (.slice B1 n1 b1)).setCell ⟨w.heap.size, 1, none⟩ (.slice B2 8 (b2))).setCell ⟨w.heap.size, 2, none⟩ (.int .i64 pc)).setCell ⟨w.heap.size, 3, none⟩ (.bool fl)).setCell ⟨w.heap.size, 4, none⟩ (.slice B3 n3 b3)) := (((((IP.refl _ _).other tz 0 (fun x => by simp) _).other (blk_put tz 0 _) 1 (fun x => by simp) _).int _ 2 pc).other (blk_put (blk_put (blk_put tz 0 _) 1 _) 2 _) 3 (fun x => by simp) _).other (blk_put (blk_put (blk_put (blk_put tz 0 _) 1 _) 2 _) 3 _) 4 (fun x => by simp) _
        have hD := (((((hI4).out.own (G := fun _ => True) (Nat.le_refl _) hge' hg (o := 0) (.slice B1 n1 b1) (fun _ => trivial)).own (G := fun _ => True) (Nat.le_refl _) hge' hg (o := 1) (.slice B2 8 (b2)) (fun _ => trivial)).own (G := fun _ => True) (Nat.le_refl _) hge' hg (o := 2) (.int .i64 pc) (fun _ => trivial)).own (G := fun _ => True) (Nat.le_refl _) hge' hg (o := 3) (.bool fl) (fun _ => trivial)).own (G := fun _ => True) (Nat.le_refl _) hge' hg (o := 4) (.slice B3 n3 b3) (fun _ => trivial)
        have r1 := t1.st hIP
        have r2 := t2.st hIP
        have r3 := (t3.st hIP).ir
        generalize ((((W8.setCell ⟨w.heap.size, 0, none⟩ (.slice B1 n1 b1)).setCell ⟨w.heap.size, 1, none⟩ (.slice B2 8 (b2))).setCell ⟨w.heap.size, 2, none⟩ (.int .i64 pc)).setCell ⟨w.heap.size, 3, none⟩ (.bool fl)).setCell ⟨w.heap.size, 4, none⟩ (.slice B3 n3 b3) = W9 at *
        refine bodyPost_ret (v := .agg #[.slice B1 n1 b1, .slice B2 8 (b2), .int .i64 pc, .bool fl, .slice B3 n3 b3]) (by simp [results, Try.results34, go_sem, kF]) rfl ?_
        exact ⟨_, _, _, pc, fl, n1, 8, n3, rfl, (hD.imp (fun _ => ⟨r1, r2, r3⟩)).mono (by omega) (by omega), by omega, by omega⟩
  · have e0 : (r == 0) = false := beq_eq_false_iff_ne.2 (by omega)
    have e1 : (r == 1) = false := beq_eq_false_iff_ne.2 (by omega)
    have e2 : (r == 2) = false := beq_eq_false_iff_ne.2 (by omega)
    have e3 : (r == 3) = false := beq_eq_false_iff_ne.2 (by omega)
    obtain ⟨W8, hW8⟩ : ∃ X9, X9 = w2 := ⟨_, rfl⟩
    rw [← hW8] at hI2 ⊢
    clear hW8
    obtain ⟨u1, u2, u3, pc, fl, n3, hb, j1, j2, j3, j4, hzb, hzn⟩ := ((hI2).out).f
    obtain ⟨B1, b1, rfl, _⟩ := j1.form
    obtain ⟨B2, b2, rfl, _⟩ := j2.form
    obtain ⟨B3, b3, rfl, _⟩ := j3.form
    have jb := blk_cell hb
    have jf := blk_frozen hb
    have hBr := (Array.getElem?_eq_some_iff.1 hb).1
    obtain ⟨z2, hzl⟩ := hzb
    have jz := blk_cell hzl
    have jzf := blk_frozen hzl
    have hzr := (Array.getElem?_eq_some_iff.1 hzl).1
    have hT := Lib.hid (And.intro hb (And.intro j1 (And.intro j2 (And.intro j3 hzl))))
    clear hb j1 j2 j3 hzl
    go_wp2_with fail
    obtain ⟨_, t1, t2, t3, tz⟩ := hT.out
    have hbF := blk_put (blk_put (blk_put (blk_put (blk_put tz 0 (.slice B1 n1 b1)) 1 (.slice B2 8 (b2))) 2 (.int .i64 pc)) 3 (.bool fl)) 4 (.slice B3 n3 b3)
    have kF := blk_cell hbF
    have hIP : IP w.heap.size W8 (((((W8.setCell ⟨w.heap.size, 0, none⟩ (.slice B1 n1 b1)).setCell ⟨w.heap.size, 1, none⟩ (.slice B2 8 (b2))).setCell ⟨w.heap.size, 2, none⟩ (.int .i64 pc)).setCell ⟨w.heap.size, 3, none⟩ (.bool fl)).setCell ⟨w.heap.size, 4, none⟩ (.slice B3 n3 b3)) := (((((IP.refl _ _).other tz 0 (fun x => by simp) _).other (blk_put tz 0 _) 1 (fun x => by simp) _).int _ 2 pc).other (blk_put (blk_put (blk_put tz 0 _) 1 _) 2 _) 3 (fun x => by simp) _).other (blk_put (blk_put (blk_put (blk_put tz 0 _) 1 _) 2 _) 3 _) 4 (fun x => by simp) _
    have hD := (((((hI2).out.own (G := fun _ => True) (Nat.le_refl _) hge' hg (o := 0) (.slice B1 n1 b1) (fun _ => trivial)).own (G := fun _ => True) (Nat.le_refl _) hge' hg (o := 1) (.slice B2 8 (b2)) (fun _ => trivial)).own (G := fun _ => True) (Nat.le_refl _) hge' hg (o := 2) (.int .i64 pc) (fun _ => trivial)).own (G := fun _ => True) (Nat.le_refl _) hge' hg (o := 3) (.bool fl) (fun _ => trivial)).own (G := fun _ => True) (Nat.le_refl _) hge' hg (o := 4) (.slice B3 n3 b3) (fun _ => trivial)
    have r1 := t1.st hIP
    have r2 := t2.st hIP
    have r3 := (t3.st hIP).ir
    generalize ((((W8.setCell ⟨w.heap.size, 0, none⟩ (.slice B1 n1 b1)).setCell ⟨w.heap.size, 1, none⟩ (.slice B2 8 (b2))).setCell ⟨w.heap.size, 2, none⟩ (.int .i64 pc)).setCell ⟨w.heap.size, 3, none⟩ (.bool fl)).setCell ⟨w.heap.size, 4, none⟩ (.slice B3 n3 b3) = W9 at *
    refine bodyPost_ret (v := .agg #[.slice B1 n1 b1, .slice B2 8 (b2), .int .i64 pc, .bool fl, .slice B3 n3 b3]) (by simp [results, Try.results34, go_sem, kF]) rfl ?_
    exact ⟨_, _, _, pc, fl, n1, 8, n3, rfl, (hD.imp (fun _ => ⟨r1, r2, r3⟩)).mono (by omega) (by omega), by omega, by omega⟩
end Go.Proofs.Ytkphkkfgphhjcaa
