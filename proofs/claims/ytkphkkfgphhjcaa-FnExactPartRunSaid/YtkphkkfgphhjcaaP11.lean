/- The machine's step, walked. -/
import Derived.Test.YtkphkkfgphhjcaaP10
import Derived.Test.YtkphkkfgphhjcaaR3
import Derived.Test.YtkphkkfgphhjcaaPC
import Derived.Conc.MuLone
namespace Go.Proofs.Ytkphkkfgphhjcaa
open Go.RowKit
set_option linter.unusedSimpArgs false
set_option linter.unusedVariables false

/-- What a step leaves. -/
def Mac.step (m : Mac) : Mac × Bool :=
  match m.p.prog[m.p.pc.toNat]? with
  | none => (m, false)
  | some (d, a, b) =>
    let m1 := { m with jumps := false, rests := false, next := (m.p.pc + 1) % m.p.prog.length }
    match m1.op d a b with
    | none => ({ m1 with p := { m1.p with fails := true } }, false)
    | some m2 => ({ m2 with p := { m2.p with pc := m2.next } }, !m2.rests && (m2.jumps || !(m1.next == 0)))
theorem list_len8_P11 : ∀ (l : List Value), l.length = 8 → ∃ x0 x1 x2 x3 x4 x5 x6 x7, l = x0 :: x1 :: x2 :: x3 :: x4 :: x5 :: x6 :: x7 :: []
  | x0 :: x1 :: x2 :: x3 :: x4 :: x5 :: x6 :: x7 :: [], _ => ⟨x0, x1, x2, x3, x4, x5, x6, x7, rfl⟩
theorem list_len14_P11 : ∀ (l : List Value), l.length = 14 → ∃ x0 x1 x2 x3 x4 x5 x6 x7 x8 x9 x10 x11 x12 x13, l = x0 :: x1 :: x2 :: x3 :: x4 :: x5 :: x6 :: x7 :: x8 :: x9 :: x10 :: x11 :: x12 :: x13 :: []
  | x0 :: x1 :: x2 :: x3 :: x4 :: x5 :: x6 :: x7 :: x8 :: x9 :: x10 :: x11 :: x12 :: x13 :: [], _ => ⟨x0, x1, x2, x3, x4, x5, x6, x7, x8, x9, x10, x11, x12, x13, rfl⟩

theorem tbl_at (d : Int) (h0 : 1 ≤ d) (h1 : d ≤ 13) : opTbl[d.toNat]? = some (.func (.func (opFn d)) #[] #[]) := by
  rcases (by omega : d = 1 ∨ d = 2 ∨ d = 3 ∨ d = 4 ∨ d = 5 ∨ d = 6 ∨ d = 7 ∨ d = 8 ∨ d = 9 ∨ d = 10 ∨ d = 11 ∨ d = 12 ∨ d = 13) with rfl | rfl | rfl | rfl | rfl | rfl | rfl | rfl | rfl | rfl | rfl | rfl | rfl <;> rfl
theorem enter_op (d : Int) (h0 : 1 ≤ d) (h1 : d ≤ 13) (args : Array Value) (w : World) : (callFunc (opFn d) args).run Try.prog w = .ok (.enter (opFn d) args) w := by
  rcases (by omega : d = 1 ∨ d = 2 ∨ d = 3 ∨ d = 4 ∨ d = 5 ∨ d = 6 ∨ d = 7 ∨ d = 8 ∨ d = 9 ∨ d = 10 ∨ d = 11 ∨ d = 12 ∨ d = 13) with rfl | rfl | rfl | rfl | rfl | rfl | rfl | rfl | rfl | rfl | rfl | rfl | rfl
  · exact Go.MuLone.run_callFunc_enter Try.func61 (by kernel_rfl) rfl args w
  · exact Go.MuLone.run_callFunc_enter Try.func63 (by kernel_rfl) rfl args w
  · exact Go.MuLone.run_callFunc_enter Try.func65 (by kernel_rfl) rfl args w
  · exact Go.MuLone.run_callFunc_enter Try.func66 (by kernel_rfl) rfl args w
  · exact Go.MuLone.run_callFunc_enter Try.func67 (by kernel_rfl) rfl args w
  · exact Go.MuLone.run_callFunc_enter Try.func68 (by kernel_rfl) rfl args w
  · exact Go.MuLone.run_callFunc_enter Try.func70 (by kernel_rfl) rfl args w
  · exact Go.MuLone.run_callFunc_enter Try.func71 (by kernel_rfl) rfl args w
  · exact Go.MuLone.run_callFunc_enter Try.func72 (by kernel_rfl) rfl args w
  · exact Go.MuLone.run_callFunc_enter Try.func73 (by kernel_rfl) rfl args w
  · exact Go.MuLone.run_callFunc_enter Try.func74 (by kernel_rfl) rfl args w
  · exact Go.MuLone.run_callFunc_enter Try.func75 (by kernel_rfl) rfl args w
  · exact Go.MuLone.run_callFunc_enter Try.func76 (by kernel_rfl) rfl args w
theorem prog_op {ps : List Op3} {i : Nat} {d a b : Int} (h : progOK ps = true) (hx : ps[i]? = some (d, a, b)) : opOKP d a b ps.length = true := by
  simp only [progOK, opsOK, Bool.and_eq_true, List.all_eq_true] at h
  exact h.2 (d, a, b) (List.mem_of_getElem? hx)
set_option maxHeartbeats 2000000
set_option maxRecDepth 100000
theorem step_c (m : Mac) (lo g T : Nat) (S : List Nat) (w : World) (h : MacR w lo m g S) (hm : m.Ok) (hs : m.said.length ≤ 1000000) (hT : w.heap[T]? = some (.cells opTbl 69 (0, 0))) (hTS : T ∉ S) : Calls Try.prog 39 #[.pointer (some ⟨g, 0, none⟩), .pointer (some ⟨T, 0, none⟩)] w fun e w' => e = .returned (.bool m.step.2) ∧ MacP w lo g S m.step.1 w' := by
  obtain ⟨Z, hZ⟩ : ∃ Z, Z = m.step := ⟨_, rfl⟩
  rw [← hZ]
  replace hZ := Lib.hid hZ
  have hmf : ∀ (fn : Fn) (first cap : Array Value) (w : World), (Instr.makeFunc fn first cap).run Try.prog w = .ok (.func fn first cap) w := fun _ _ _ _ => rfl
  obtain ⟨A1, c1, A2, c2, A3, c3, A4, c4, A5, c5, f1, f2, f3, f4, f5, h, rfl⟩ := h
  obtain ⟨p0, p1⟩ := hm.pc
  have hopS := h.prog.ops.at (i := m.p.pc.toNat) (by omega)
  obtain ⟨d, a, b, gp, op, hx, rfl, hp0, hp1, hp2⟩ := hopS
  have k0 := fun o => blk_cell h.blk o
  have hgl : g < w.heap.size := h.own.lt g (by simp)
  have hSw := h.own.lt
  have hgpl : gp < w.heap.size := World.block_lt_of_cell? w _ hp0
  have hg1 : g < w.heap.size + 1 := by omega
  have hg2 : g < w.heap.size + 1 + 1 := by omega
  have hg3 : g < w.heap.size + 1 + 1 + 1 := by omega
  have hp1' : gp < w.heap.size + 1 := by omega
  have hp2' : gp < w.heap.size + 1 + 1 := by omega
  have hq1 : w.heap.size < w.heap.size + 1 + 1 := by omega
  obtain ⟨np, hnp⟩ : ∃ n, n = m.p.prog.length := ⟨_, rfl⟩
  obtain ⟨pc, hpc⟩ : ∃ n : Int, n = m.p.pc := ⟨_, rfl⟩
  rw [← hnp] at k0 p1
  rw [← hpc] at p0 p1 hp0 hp1 hp2 hx k0
  have hS := Lib.hid h
  clear h
  replace hT := Lib.hid hT
  replace hnp := Lib.hid hnp
  replace hpc := Lib.hid hpc
  replace hx := Lib.hid hx
  replace hm := Lib.hid hm
  go_enter_defers Try.func39, Try.ntmps39
  go_wp2_with fail
  obtain ⟨w0, hw0⟩ : ∃ W, W = (w.alloc (.cells #[.pointer (some ⟨g, 0, none⟩)] 62)).alloc (.cells #[.bool false] 4) := ⟨_, rfl⟩
  rw [← hw0]
  have hF0 : Below w.heap.size w w0 := by rw [hw0]; exact (by repeat (first | (with_reducible exact Below.refl _ _) | (with_reducible assumption) | (with_reducible refine Below.drew ?_) | (with_reducible refine below_drewN' ?_ _) | (with_reducible refine Below.setCell ?_ (by first | (simp; done) | (simp; omega) | omega) _) | (with_reducible refine Below.alloc ?_ (by first | (simp; done) | (simp; omega) | omega) _) | (with_reducible refine Below.trans ?_ (Below.mono (by assumption) (by first | (simp; done) | (simp; omega) | omega)))))
  have hz0 : w0.heap.size = w.heap.size + 1 + 1 := by rw [hw0]; simp
  have hm0 : w0.heap[w.heap.size]? = some (.cells #[.pointer (some ⟨g, 0, none⟩)] 62) := by rw [hw0]; exact heap_up (heap_top _ _ rfl) _
  have hg0 : w0.heap[w.heap.size + 1]? = some (.cells #[.bool false] 4) := by rw [hw0]; exact heap_top _ _ (by simp)
  clear hw0
  have hX : ∀ W : World, Below w0.heap.size w0 W → W.cell? ⟨w.heap.size, 0, none⟩ = some (.pointer (some ⟨g, 0, none⟩)) ∧ W.cell? ⟨g, 0, none⟩ = some (.slice (some ⟨gp, op, none⟩) np c1) ∧ W.cell? ⟨g, 2, none⟩ = some (.int .i64 pc) ∧ W.cell? ⟨gp, op + pc.toNat * 3, none⟩ = some (.int .i64 d) ∧ W.cell? ⟨gp, op + pc.toNat * 3 + 1, none⟩ = some (.int .i64 a) ∧ W.cell? ⟨gp, op + pc.toNat * 3 + 2, none⟩ = some (.int .i64 b) := fun W hB => by
    have e : ∀ {x : Nat} {o : Nat}, x < w.heap.size → W.cell? ⟨x, o, none⟩ = w.cell? ⟨x, o, none⟩ := fun {x o} hx => (hB.cell (p := ⟨x, o, none⟩) (by show x < w0.heap.size; omega)).trans (hF0.cell (p := ⟨x, o, none⟩) hx)
    rw [e hgl, e hgl, e hgpl, e hgpl, e hgpl, blk_cell (blk_below hm0 hB)]
    exact ⟨rfl, k0 0, k0 2, hp0, hp1, hp2⟩
  have hR2 : ∀ W, (W = w0.drew ∨ W = w0.drew.alloc (.cells #[.int .i64 0, .int .i64 0, .int .i64 0] 44) ∨ W = w0.drew.alloc (.cells #[.int .i64 d, .int .i64 a, .int .i64 b] 44)) → _ := fun W hW => hX W (by rcases hW with rfl | rfl | rfl; exact (Below.refl _ _).drew; exact ((Below.refl _ _).drew).alloc (Nat.le_refl _) _; exact ((Below.refl _ _).drew).alloc (Nat.le_refl _) _)
  have hy0 : gp < w0.heap.size := by omega
  have hR2' := Lib.hid hR2
  have hX' := Lib.hid hX
  clear hX hR2 k0 hp0 hp1 hp2
  apply region_invL (PQ := fun _ _ => False) (VV [IsV _, IsV _, IsV _, IsV _, IsV _, IsV _, IsV _, IsV _, IsV _, IsV _, IsV _, IsV _, IsV _, IsV _]) (fun bs W => ((bs 13 = true → bs 12 = true)) ∧ W = (if bs 13 = true then (w0.drew.alloc (.cells #[.int .i64 d, .int .i64 a, .int .i64 b] 44)) else if bs 12 = true then (w0.drew.alloc (.cells #[.int .i64 0, .int .i64 0, .int .i64 0] 44)) else (w0.drew))) (fun _ _ => True) (by kernel_rfl) 79 rfl (by kernel_rfl)
  case hp =>
    exact fun _ _ _ _ h => h.elim
  case h0 =>
    exact ⟨(by intro h; cases h), by simp⟩
  case hsteps =>
    refine ⟨?_, ?_, ?_, ?_, ?_, ?_, ?_, ?_, ?_, ?_, ?_, ?_, ?_, ?_, trivial⟩
    · refine stepOKL_of _ [2] rfl (by kernel_rfl) ?_ rfl
      intro bs ρ W hbj hbn hc hf hn ho hI
      clear hn
      have s2 := ho.1
      simp only [Array.getD_eq_getD_getElem?] at s2
      clear ho
      obtain ⟨j0, j1, j2, j3, j4, j5⟩ := (hR2'.out) W (pickW3 hI.2)
      have hI' := Lib.hid hI
      clear hI
      go_simp
      exact postL_mk hI'.out trivial rfl
    · refine stepOKL_of _ [] rfl (by kernel_rfl) ?_ rfl
      intro bs ρ W hbj hbn hc hf hn ho hI
      obtain ⟨u0, q0, s8⟩ := hn.1
      clear hn
      have q0 : u0 = _ := q0
      subst q0
      have s8 : ρ (.tmp 8) = _ := s8
      clear ho
      obtain ⟨j0, j1, j2, j3, j4, j5⟩ := (hR2'.out) W (pickW3 hI.2)
      have hI' := Lib.hid hI
      clear hI
      go_simp
      exact postL_mk hI'.out trivial rfl
    · refine stepOKL_of _ [] rfl (by kernel_rfl) ?_ rfl
      intro bs ρ W hbj hbn hc hf hn ho hI
      obtain ⟨u1, q1, s9⟩ := hn.1
      clear hn
      have q1 : u1 = _ := q1
      subst q1
      have s9 : ρ (.tmp 9) = _ := s9
      clear ho
      obtain ⟨j0, j1, j2, j3, j4, j5⟩ := (hR2'.out) W (pickW3 hI.2)
      have hI' := Lib.hid hI
      clear hI
      go_simp
      exact postL_mk hI'.out trivial rfl
    · refine stepOKL_of _ [] rfl (by kernel_rfl) ?_ rfl
      intro bs ρ W hbj hbn hc hf hn ho hI
      obtain ⟨u2, q2, s10⟩ := hn.1
      clear hn
      have q2 : u2 = _ := q2
      subst q2
      have s10 : ρ (.tmp 10) = _ := s10
      clear ho
      obtain ⟨j0, j1, j2, j3, j4, j5⟩ := (hR2'.out) W (pickW3 hI.2)
      have hI' := Lib.hid hI
      clear hI
      go_simp
      exact postL_mk hI'.out trivial rfl
    · refine stepOKL_of _ [] rfl (by kernel_rfl) ?_ rfl
      intro bs ρ W hbj hbn hc hf hn ho hI
      obtain ⟨u3, q3, s11⟩ := hn.1
      clear hn
      have q3 : u3 = _ := q3
      subst q3
      have s11 : ρ (.tmp 11) = _ := s11
      clear ho
      obtain ⟨j0, j1, j2, j3, j4, j5⟩ := (hR2'.out) W (pickW3 hI.2)
      have hI' := Lib.hid hI
      clear hI
      go_simp
      exact postL_mk hI'.out trivial rfl
    · refine stepOKL_of _ [2] rfl (by kernel_rfl) ?_ rfl
      intro bs ρ W hbj hbn hc hf hn ho hI
      clear hn
      have s2 := ho.1
      simp only [Array.getD_eq_getD_getElem?] at s2
      clear ho
      obtain ⟨j0, j1, j2, j3, j4, j5⟩ := (hR2'.out) W (pickW3 hI.2)
      have hI' := Lib.hid hI
      clear hI
      go_simp
      exact postL_mk hI'.out trivial rfl
    · refine stepOKL_of _ [] rfl (by kernel_rfl) ?_ rfl
      intro bs ρ W hbj hbn hc hf hn ho hI
      obtain ⟨u5, q5, s13⟩ := hn.1
      clear hn
      have q5 : u5 = _ := q5
      subst q5
      have s13 : ρ (.tmp 13) = _ := s13
      clear ho
      obtain ⟨j0, j1, j2, j3, j4, j5⟩ := (hR2'.out) W (pickW3 hI.2)
      have hI' := Lib.hid hI
      clear hI
      go_simp
      exact postL_mk hI'.out trivial rfl
    · refine stepOKL_of _ [] rfl (by kernel_rfl) ?_ rfl
      intro bs ρ W hbj hbn hc hf hn ho hI
      obtain ⟨u6, q6, s14⟩ := hn.1
      clear hn
      have q6 : u6 = _ := q6
      subst q6
      have s14 : ρ (.tmp 14) = _ := s14
      clear ho
      obtain ⟨j0, j1, j2, j3, j4, j5⟩ := (hR2'.out) W (pickW3 hI.2)
      have hI' := Lib.hid hI
      clear hI
      go_simp
      exact postL_mk hI'.out trivial rfl
    · refine stepOKL_of _ [] rfl (by kernel_rfl) ?_ rfl
      intro bs ρ W hbj hbn hc hf hn ho hI
      obtain ⟨u7, q7, s15⟩ := hn.1
      clear hn
      have q7 : u7 = _ := q7
      subst q7
      have s15 : ρ (.tmp 15) = _ := s15
      clear ho
      obtain ⟨j0, j1, j2, j3, j4, j5⟩ := (hR2'.out) W (pickW3 hI.2)
      have hI' := Lib.hid hI
      clear hI
      go_simp
      exact postL_mk hI'.out trivial rfl
    · refine stepOKL_of _ [] rfl (by kernel_rfl) ?_ rfl
      intro bs ρ W hbj hbn hc hf hn ho hI
      obtain ⟨u8, q8, s16⟩ := hn.1
      clear hn
      have q8 : u8 = _ := q8
      subst q8
      have s16 : ρ (.tmp 16) = _ := s16
      clear ho
      obtain ⟨j0, j1, j2, j3, j4, j5⟩ := (hR2'.out) W (pickW3 hI.2)
      have hI' := Lib.hid hI
      clear hI
      go_simp
      exact postL_mk hI'.out trivial rfl
    · refine stepOKL_of _ [] rfl (by kernel_rfl) ?_ rfl
      intro bs ρ W hbj hbn hc hf hn ho hI
      obtain ⟨u4, q4, s12⟩ := hn.1
      obtain ⟨u9, q9, s17⟩ := hn.2.1
      clear hn
      have q4 : u4 = _ := q4
      subst q4
      have s12 : ρ (.tmp 12) = _ := s12
      have q9 : u9 = _ := q9
      subst q9
      have s17 : ρ (.tmp 17) = _ := s17
      clear ho
      obtain ⟨j0, j1, j2, j3, j4, j5⟩ := (hR2'.out) W (pickW3 hI.2)
      have hI' := Lib.hid hI
      clear hI
      go_simp
      exact postL_mk hI'.out trivial rfl
    · refine stepOKL_of _ [] rfl (by kernel_rfl) ?_ rfl
      intro bs ρ W hbj hbn hc hf hn ho hI
      obtain ⟨u10, q10, s18⟩ := hn.1
      clear hn
      have q10 : u10 = _ := q10
      subst q10
      have s18 : ρ (.tmp 18) = _ := s18
      clear ho
      obtain ⟨j0, j1, j2, j3, j4, j5⟩ := (hR2'.out) W (pickW3 hI.2)
      have hI' := Lib.hid hI
      clear hI
      go_simp
      exact postL_mk hI'.out trivial rfl
    · refine stepOKL_of _ [] rfl (by kernel_rfl) ?_ rfl
      intro bs ρ W hbj hbn hc hf hn ho hI
      clear hn
      clear ho
      have hW : W = (w0.drew) := by
        have e := hI.2
        have h13 : bs 13 = false := by cases h : bs 13 with | false => rfl | true => exact absurd (hI.1 h) (by rw [hbj]; exact Bool.false_ne_true)
        simpa [hbj, h13] using e
      have hch := Lib.hid hI.1
      clear hI
      subst hW
      obtain ⟨j0, j1, j2, j3, j4, j5⟩ := (hR2'.out) _ (.inl rfl)
      go_simp
      refine postL_mk ⟨by simp [upB], ?_⟩ trivial rfl
      have h13 : bs 13 = false := by cases h : bs 13 with | false => rfl | true => exact absurd (hch.out h) (by rw [hbj]; exact Bool.false_ne_true)
      simp [upB, h13]
    · refine stepOKL_of _ [] rfl (by kernel_rfl) ?_ rfl
      intro bs ρ W hbj hbn hc hf hn ho hI
      obtain ⟨u12, q12, s5⟩ := hn.1
      obtain ⟨u11, q11, s19⟩ := hn.2.1
      clear hn
      have q12 : u12 = _ := q12
      subst q12
      have s5 : ρ (.tmp 5) = _ := s5
      have q11 : u11 = _ := q11
      subst q11
      have s19 : ρ (.tmp 19) = _ := s19
      clear ho
      have hW : W = (w0.drew.alloc (.cells #[.int .i64 0, .int .i64 0, .int .i64 0] 44)) := by
        have e := hI.2
        have h12 : bs 12 = true := hbn 12 (List.contains_iff_mem.1 (by kernel_rfl))
        simpa [hbj, h12] using e
      have hch := Lib.hid hI.1
      clear hI
      subst hW
      obtain ⟨j0, j1, j2, j3, j4, j5⟩ := (hR2'.out) _ (.inr (.inl rfl))
      go_simp
      refine postL_mk ⟨(fun _ => by simpa [upB] using hbn 12 (List.contains_iff_mem.1 (by kernel_rfl))), ?_⟩ trivial rfl
      simp [upB]
  case hst => exact vv_stable ⟨isV_st, isV_st, isV_st, isV_st, isV_st, isV_st, isV_st, isV_st, isV_st, isV_st, isV_st, isV_st, isV_st, isV_st, trivial⟩
  intro vs bs W hlen hall hI hV
  obtain ⟨x0, x1, x2, x3, x4, x5, x6, x7, x8, x9, x10, x11, x12, x13, rfl⟩ := list_len14_P11 vs hlen
  have y0 : x0 = _ := hV 0 _ rfl
  subst y0
  have y1 : x1 = _ := hV 1 _ rfl
  subst y1
  have y2 : x2 = _ := hV 2 _ rfl
  subst y2
  have y3 : x3 = _ := hV 3 _ rfl
  subst y3
  have y4 : x4 = _ := hV 4 _ rfl
  subst y4
  have y5 : x5 = _ := hV 5 _ rfl
  subst y5
  have y6 : x6 = _ := hV 6 _ rfl
  subst y6
  have y7 : x7 = _ := hV 7 _ rfl
  subst y7
  have y8 : x8 = _ := hV 8 _ rfl
  subst y8
  have y9 : x9 = _ := hV 9 _ rfl
  subst y9
  have y10 : x10 = _ := hV 10 _ rfl
  subst y10
  have y11 : x11 = _ := hV 11 _ rfl
  subst y11
  have y12 : x12 = _ := hV 12 _ rfl
  subst y12
  have y13 : x13 = _ := hV 13 _ rfl
  subst y13
  have hWe : W = (w0.drew.alloc (.cells #[.int .i64 d, .int .i64 a, .int .i64 b] 44)) := by
    have e := hI.2
    simpa [hall 12 (by decide), hall 13 (by decide)] using e
  replace hWe := Lib.hid hWe
  clear hV hlen hall hI
  simp only [Exit.then, putAll, Act.put, List.setIfInBounds_toArray, List.set_cons_zero, List.set_cons_succ]
  skip
  obtain ⟨w2, hw2⟩ : ∃ W', W' = W := ⟨_, rfl⟩
  rw [← hw2] at hWe ⊢
  have hB2 : Below w0.heap.size w0 w2 := by rw [hWe.out]; exact ((Below.refl _ _).drew).alloc (Nat.le_refl _) _
  have ho2 : w2.heap[w.heap.size + 1 + 1]? = some (.cells #[.int .i64 d, .int .i64 a, .int .i64 b] 44) := by rw [hWe.out]; exact heap_top _ _ (by simp [hz0])
  have hz2 : w2.heap.size = w.heap.size + 1 + 1 + 1 := by rw [hWe.out]; simp [hz0]
  clear hWe hw2 hR2'
  have hg2b := blk_below hg0 hB2
  have hm2b := blk_below hm0 hB2
  have hF2 : Below w.heap.size w w2 := hF0.trans (hB2.mono (by omega))
  have h2 := hS.out.below hF2
  have k2 := fun o => blk_cell h2.blk o
  have z2 := fun o => blk_frozen h2.blk o
  rw [← hnp.out, ← hpc.out] at k2
  have hS2 := Lib.hid h2
  clear hX' hB2 hm0 hg0 hz0 hy0 hS h2 hF0
  have hne : g ≠ w.heap.size := by omega
  have hX3 : ∀ W, (W = w2.drew ∨ W = w2.drew.setCell ⟨g, 9, none⟩ (.bool false) ∨ W = (w2.drew.setCell ⟨g, 9, none⟩ (.bool false)).setCell ⟨g, 10, none⟩ (.bool false)) → W.cell? ⟨w.heap.size, 0, none⟩ = some (.pointer (some ⟨g, 0, none⟩)) := fun W hW => by
    have e : ∀ {W' : World}, W'.heap[w.heap.size]? = w2.heap[w.heap.size]? → W'.cell? ⟨w.heap.size, 0, none⟩ = some (.pointer (some ⟨g, 0, none⟩)) := fun h => by rw [blk_cell (h.trans hm2b)]; rfl
    rcases hW with rfl | rfl | rfl
    · exact e rfl
    · exact e (Below.heap_setCell _ _ _ _ hne.symm)
    · exact e ((Below.heap_setCell _ _ _ _ hne.symm).trans (Below.heap_setCell _ _ _ _ hne.symm))
  replace hX3 := Lib.hid hX3
  go_wp2_with fail
  apply region_invL (PQ := fun _ _ => False) (VV [IsV _, IsV _, IsV _, IsV _, IsV _, IsV _, IsV _, IsV _]) (fun bs W => ((bs 7 = true → bs 4 = true)) ∧ W = (if bs 7 = true then ((w2.drew.setCell ⟨g, 9, none⟩ (.bool false)).setCell ⟨g, 10, none⟩ (.bool false)) else if bs 4 = true then (w2.drew.setCell ⟨g, 9, none⟩ (.bool false)) else (w2.drew))) (fun _ _ => True) (by kernel_rfl) 79 rfl (by kernel_rfl)
  case hp =>
    exact fun _ _ _ _ h => h.elim
  case h0 =>
    exact ⟨(by intro h; cases h), by simp⟩
  case hsteps =>
    refine ⟨?_, ?_, ?_, ?_, ?_, ?_, ?_, ?_, trivial⟩
    · refine stepOKL_of _ [2] rfl (by kernel_rfl) ?_ rfl
      intro bs ρ W hbj hbn hc hf hn ho hI
      clear hn
      have s2 := ho.1
      simp only [Array.getD_eq_getD_getElem?] at s2
      clear ho
      obtain ⟨j0, _⟩ := (fun W hW => And.intro (hX3.out W hW) trivial) W (pickW3 hI.2)
      have hI' := Lib.hid hI
      clear hI
      go_simp
      exact postL_mk hI'.out trivial rfl
    · refine stepOKL_of _ [2] rfl (by kernel_rfl) ?_ rfl
      intro bs ρ W hbj hbn hc hf hn ho hI
      clear hn
      have s2 := ho.1
      simp only [Array.getD_eq_getD_getElem?] at s2
      clear ho
      obtain ⟨j0, _⟩ := (fun W hW => And.intro (hX3.out W hW) trivial) W (pickW3 hI.2)
      have hI' := Lib.hid hI
      clear hI
      go_simp
      exact postL_mk hI'.out trivial rfl
    · refine stepOKL_of _ [] rfl (by kernel_rfl) ?_ rfl
      intro bs ρ W hbj hbn hc hf hn ho hI
      obtain ⟨u0, q0, s20⟩ := hn.1
      clear hn
      have q0 : u0 = _ := q0
      subst q0
      have s20 : ρ (.tmp 20) = _ := s20
      clear ho
      obtain ⟨j0, _⟩ := (fun W hW => And.intro (hX3.out W hW) trivial) W (pickW3 hI.2)
      have hI' := Lib.hid hI
      clear hI
      go_simp
      exact postL_mk hI'.out trivial rfl
    · refine stepOKL_of _ [] rfl (by kernel_rfl) ?_ rfl
      intro bs ρ W hbj hbn hc hf hn ho hI
      obtain ⟨u2, q2, s22⟩ := hn.1
      clear hn
      have q2 : u2 = _ := q2
      subst q2
      have s22 : ρ (.tmp 22) = _ := s22
      clear ho
      obtain ⟨j0, _⟩ := (fun W hW => And.intro (hX3.out W hW) trivial) W (pickW3 hI.2)
      have hI' := Lib.hid hI
      clear hI
      go_simp
      exact postL_mk hI'.out trivial rfl
    · refine stepOKL_of _ [] rfl (by kernel_rfl) ?_ rfl
      intro bs ρ W hbj hbn hc hf hn ho hI
      obtain ⟨u3, q3, s23⟩ := hn.1
      clear hn
      have q3 : u3 = _ := q3
      subst q3
      have s23 : ρ (.tmp 23) = _ := s23
      clear ho
      have hW : W = (w2.drew) := by
        have e := hI.2
        have h7 : bs 7 = false := by cases h : bs 7 with | false => rfl | true => exact absurd (hI.1 h) (by rw [hbj]; exact Bool.false_ne_true)
        simpa [hbj, h7] using e
      have hch := Lib.hid hI.1
      clear hI
      subst hW
      obtain ⟨j0, _⟩ := (fun W hW => And.intro (hX3.out W hW) trivial) _ (.inl rfl)
      go_simp
      refine postL_mk ⟨by simp [upB], ?_⟩ trivial rfl
      have h7 : bs 7 = false := by cases h : bs 7 with | false => rfl | true => exact absurd (hch.out h) (by rw [hbj]; exact Bool.false_ne_true)
      simp [upB, h7]
    · refine stepOKL_of _ [] rfl (by kernel_rfl) ?_ rfl
      intro bs ρ W hbj hbn hc hf hn ho hI
      obtain ⟨u1, q1, s21⟩ := hn.1
      clear hn
      have q1 : u1 = _ := q1
      subst q1
      have s21 : ρ (.tmp 21) = _ := s21
      clear ho
      obtain ⟨j0, _⟩ := (fun W hW => And.intro (hX3.out W hW) trivial) W (pickW3 hI.2)
      have hI' := Lib.hid hI
      clear hI
      go_simp
      exact postL_mk hI'.out trivial rfl
    · refine stepOKL_of _ [] rfl (by kernel_rfl) ?_ rfl
      intro bs ρ W hbj hbn hc hf hn ho hI
      obtain ⟨u5, q5, s24⟩ := hn.1
      clear hn
      have q5 : u5 = _ := q5
      subst q5
      have s24 : ρ (.tmp 24) = _ := s24
      clear ho
      obtain ⟨j0, _⟩ := (fun W hW => And.intro (hX3.out W hW) trivial) W (pickW3 hI.2)
      have hI' := Lib.hid hI
      clear hI
      go_simp
      exact postL_mk hI'.out trivial rfl
    · refine stepOKL_of _ [] rfl (by kernel_rfl) ?_ rfl
      intro bs ρ W hbj hbn hc hf hn ho hI
      obtain ⟨u6, q6, s25⟩ := hn.1
      clear hn
      have q6 : u6 = _ := q6
      subst q6
      have s25 : ρ (.tmp 25) = _ := s25
      clear ho
      have hW : W = (w2.drew.setCell ⟨g, 9, none⟩ (.bool false)) := by
        have e := hI.2
        have h4 : bs 4 = true := hbn 4 (List.contains_iff_mem.1 (by kernel_rfl))
        simpa [hbj, h4] using e
      have hch := Lib.hid hI.1
      clear hI
      subst hW
      obtain ⟨j0, _⟩ := (fun W hW => And.intro (hX3.out W hW) trivial) _ (.inr (.inl rfl))
      go_simp
      refine postL_mk ⟨(fun _ => by simpa [upB] using hbn 4 (List.contains_iff_mem.1 (by kernel_rfl))), ?_⟩ trivial rfl
      simp [upB]
  case hst => exact vv_stable ⟨isV_st, isV_st, isV_st, isV_st, isV_st, isV_st, isV_st, isV_st, trivial⟩
  intro vs bs W hlen hall hI hV
  obtain ⟨x0, x1, x2, x3, x4, x5, x6, x7, rfl⟩ := list_len8_P11 vs hlen
  have y0 : x0 = _ := hV 0 _ rfl
  subst y0
  have y1 : x1 = _ := hV 1 _ rfl
  subst y1
  have y2 : x2 = _ := hV 2 _ rfl
  subst y2
  have y3 : x3 = _ := hV 3 _ rfl
  subst y3
  have y4 : x4 = _ := hV 4 _ rfl
  subst y4
  have y5 : x5 = _ := hV 5 _ rfl
  subst y5
  have y6 : x6 = _ := hV 6 _ rfl
  subst y6
  have y7 : x7 = _ := hV 7 _ rfl
  subst y7
  have hWe : W = ((w2.drew.setCell ⟨g, 9, none⟩ (.bool false)).setCell ⟨g, 10, none⟩ (.bool false)) := by
    have e := hI.2
    simpa [hall 4 (by decide), hall 7 (by decide)] using e
  replace hWe := Lib.hid hWe
  clear hV hlen hall hI
  simp only [Exit.then, putAll, Act.put, List.setIfInBounds_toArray, List.set_cons_zero, List.set_cons_succ]
  skip
  obtain ⟨w3, hw3⟩ : ∃ W', W' = W := ⟨_, rfl⟩
  rw [← hw3] at hWe ⊢
  have hK3 : Kept [g] w2 w3 := by rw [hWe.out]; exact ((Kept.refl _ _).drew.set (.inl (by simp)) _).set (.inl (by simp)) _
  have h3 : MacF w3 lo { m with jumps := false, rests := false } g (some ⟨gp, op, none⟩) c1 A2 c2 A3 c3 A4 c4 A5 c5 f1 f2 f3 f4 f5 := by
    rw [hWe.out]
    exact ((hS2.out.below ((Below.refl _ _).drew)).poke 9 (.bool false) { m with jumps := false } rfl rfl rfl rfl rfl (by rfl)).poke 10 (.bool false) { m with jumps := false, rests := false } rfl rfl rfl rfl rfl (by rfl)
  have hm3b := (hK3.block w.heap.size (by omega) (by simp [hne.symm])).trans hm2b
  have hg3b := (hK3.block (w.heap.size + 1) (by omega) (by simp; omega)).trans hg2b
  have ho3 := (hK3.block (w.heap.size + 1 + 1) (by omega) (by simp; omega)).trans ho2
  have hz3 := hK3.size
  clear hWe hw3 hX3 k2 z2 hS2 hm2b hg2b ho2
  have k3 := fun o => blk_cell h3.blk o
  have z3 := fun o => blk_frozen h3.blk o
  have km := fun o => blk_cell hm3b o
  simp only at k3
  rw [← hnp.out, ← hpc.out] at k3
  have hS3 := Lib.hid h3
  clear h3
  have e1 : IntKind.i64.wrap (pc + 1) = pc + 1 := wr (by omega) (by have := hS3.out.prog.ops.1; simp only at this; rw [← hnp.out] at this; omega)
  have e2 : ((np : Int) == 0) = false := beq_eq_false_iff_ne.2 (by omega)
  have e3 : ¬ ((np : Int) = 0) := by omega
  have e4 : ¬ (np = 0) := by omega
  go_wp2_with fail
  refine still_tail 16 (by kernel_rfl) (by kernel_rfl) ?_
  simp only [List.take_succ_cons, List.take_zero, List.drop_succ_cons, List.drop_zero]
  repeat still_step
  refine wpStill_nil ?_
  go_wp2_with fail
  obtain ⟨nx, hnx⟩ : ∃ n : Int, n = (pc + 1) % np := ⟨_, rfl⟩
  rw [← hnx]
  obtain ⟨w4, hw4⟩ : ∃ W', W' = (w3.setCell ⟨g, 8, none⟩ (.int .i64 nx)).drew := ⟨_, rfl⟩
  rw [← hw4]
  have hK4 : Kept [g] w3 w4 := by rw [hw4]; exact ((Kept.refl _ _).set (.inl (by simp)) _).drew
  have h4 : MacF w4 lo { m with jumps := false, rests := false, next := nx } g (some ⟨gp, op, none⟩) c1 A2 c2 A3 c3 A4 c4 A5 c5 f1 f2 f3 f4 f5 := by
    rw [hw4]
    exact ((hS3.out.poke 8 (.int .i64 nx) { m with jumps := false, rests := false, next := nx } rfl rfl rfl rfl rfl (by rfl))).below ((Below.refl _ _).drew)
  have hm4 := (hK4.block w.heap.size (by omega) (by simp [hne.symm])).trans hm3b
  have hg4 := (hK4.block (w.heap.size + 1) (by omega) (by simp; omega)).trans hg3b
  have ho4 := (hK4.block (w.heap.size + 1 + 1) (by omega) (by simp; omega)).trans ho3
  have hz4 := hK4.size
  have hTl : T < w.heap.size := (Array.getElem?_eq_some_iff.1 hT.out).1
  have hTg : T ≠ g := fun e => hTS (by simp [e])
  have hT4 : w4.heap[T]? = some (.cells opTbl 69 (0, 0)) := (hK4.block T (by omega) (by simp [hTg])).trans ((hK3.block T (by omega) (by simp [hTg])).trans ((hF2.block T hTl).trans hT.out))
  have hK04 : Kept [g] w w4 := ((Kept.of_below hF2 [g]).trans hK3 (fun x hx => .inl hx)).trans hK4 (fun x hx => .inl hx)
  have hz24 : w2.heap.size ≤ w4.heap.size := Nat.le_trans hz3 hz4
  clear hw4 hK4 hS3 hm3b hg3b ho3 hz3 k3 z3 km e1 e2 e3 e4 hK3
  have hSb := h4.own.lt
  have hpr : progOK m.p.prog = true := hm.out.prog
  have hopk := prog_op hpr hx.out
  obtain ⟨⟨d0, d1⟩, _⟩ := op_range hopk
  have hm1 : Mac.Ok { m with jumps := false, rests := false, next := nx } := ⟨hm.out.prog, hm.out.pc, hm.out.len, hm.out.cells, hm.out.box, hm.out.boxv, hm.out.plen, hm.out.ports, hm.out.now⟩
  have hq := op_c { m with jumps := false, rests := false, next := nx } lo g _ d a b _ w4.drew (h4.below ((Below.refl _ _).drew)).P hm1 hs hopk
  have t0 := tbl_at d d0 d1
  have hcf := enter_op d d0 d1
  have kT : w4.cell? ⟨T, d.toNat, none⟩ = some (.func (.func (opFn d)) #[] #[]) := by rw [blk_cell hT4]; exact t0
  have km := fun o => blk_cell hm4 o
  have ko := fun o => blk_cell ho4 o
  have d2 : d < ((14 : Nat) : Int) := by omega
  have d3 : d < 14 := by omega
  have d00 : 0 ≤ d := by omega
  have hstep : Z = (match Mac.op { m with jumps := false, rests := false, next := nx } d a b with
    | none => ({ m with jumps := false, rests := false, next := nx, p := { m.p with fails := true } }, false)
    | some m2 => ({ m2 with p := { m2.p with pc := m2.next } }, !m2.rests && (m2.jumps || !(nx == 0)))) := by
    rw [hZ.out]
    unfold Mac.step
    rw [← hpc.out, hx.out]
    simp only
    rw [← hnp.out, ← hnx]
  replace hq := Lib.hid hq
  replace hstep := Lib.hid hstep
  replace hnx := Lib.hid hnx
  have hS4 := Lib.hid h4
  clear hopk hm1 t0 hpr h4
  go_wp2_with fail
  refine still_tail 8 (by kernel_rfl) (by kernel_rfl) ?_
  simp only [List.take_succ_cons, List.take_zero, List.drop_succ_cons, List.drop_zero]
  repeat still_step
  refine wpStill_nil ?_
  go_wp2_with fail
  refine hq.out.mono ?_
  clear hcf kT ko km
  rintro e w5 hQ
  cases ho : Mac.op { m with jumps := false, rests := false, next := nx } d a b with
  | none =>
    have hst := hstep.out
    rw [ho] at hQ hst
    obtain ⟨⟨x, rfl⟩, hP⟩ := hQ
    clear hstep ho hq hZ
    obtain ⟨S5, h5, hK5, hS5⟩ := hP
    simp only at hst
    subst hst
    obtain ⟨A1', c1', A2', c2', A3', c3', A4', c4', A5', c5', f1', f2', f3', f4', f5', h5, rfl⟩ := h5
    have hz45 := hK5.size
    simp only [World.size_drew] at hz45
    have hK40 := hK04.size
    have hn0 : w.heap.size ∉ g :: (f1 ++ (f2 ++ (f3 ++ (f4 ++ f5)))) := fun hm => by have := hSw _ hm; omega
    have hn1' : w.heap.size + 1 ∉ g :: (f1 ++ (f2 ++ (f3 ++ (f4 ++ f5)))) := fun hm => by have := hSw _ hm; omega
    have hz2' : w.heap.size + 1 < w4.heap.size := by omega
    have hm5 := (hK5.block w.heap.size (by simp; omega) hn0).trans hm4
    have hg5 := (hK5.block (w.heap.size + 1) (by simp; omega) hn1').trans hg4
    have hn1 : w.heap.size + 1 ∉ g :: (f1' ++ (f2' ++ (f3' ++ (f4' ++ f5')))) := fun hm => by
      rcases hS5 _ hm with h | h
      · exact hn1' h
      · simp at h; omega
    have km5 := fun o => blk_cell hm5 o
    have kg5 := fun o => blk_cell hg5 o
    have k5 := fun o => blk_cell h5.blk o
    have z5 := fun o => blk_frozen h5.blk o
    have hS5' := Lib.hid h5
    go_wp2_with fail
    refine leaves_cons (f := 77) (args := #[.pointer (some ⟨w.heap.size, 0, none⟩), .pointer (some ⟨w.heap.size + 1, 0, none⟩)]) (by simp) (by simp [go_sem]) ?_
    refine (catch_far w.heap.size (w.heap.size + 1) g x [] _ (km5 0) ⟨_, kg5 0⟩ (blk_frozen hg5 _) ⟨_, k5 3⟩ (z5 3) (by omega) (by omega) (by omega)).mono ?_
    rintro e u' w'' ⟨rfl, rfl, rfl⟩
    have hE : MacP w lo g (g :: (f1 ++ (f2 ++ (f3 ++ (f4 ++ f5))))) { m with jumps := false, rests := false, next := nx, p := { m.p with fails := true } } (((w5.setCell ⟨g, 3, none⟩ (.bool true)).setCell ⟨w.heap.size + 1, 0, none⟩ (.bool false)).alloc (.cells #[.int .i64 x] 90)) := by
      refine ⟨_, ((h5.poke 3 (.bool true) { m with jumps := false, rests := false, next := nx, p := { m.p with fails := true } } rfl rfl rfl rfl rfl (by rfl)).P.setOther hn1 _).alloc _, ((((((hK04.mono (by simp)).drew).trans hK5 (fun b hb => .inl hb)).set (.inl (by simp)) _).set (.inr (by simp)) _).alloc _), fun b hb => ?_⟩
      rcases hS5 b hb with h | h
      · exact .inl h
      · exact .inr (by have := hK04.size; simp at h; omega)
    replace hE := Lib.hid hE
    have hlt1 : w.heap.size + 1 < w5.heap.size := by omega
    simp [Leaves, settle, results, Try.results39, go_sem, kg5, hlt1]
    exact hE.out
  | some m2 =>
    have hst := hstep.out
    rw [ho] at hQ hst
    obtain ⟨rfl, hP⟩ := hQ
    clear hstep ho hq hZ
    obtain ⟨S5, h5, hK5, hS5⟩ := hP
    simp only at hst
    obtain ⟨A1', c1', A2', c2', A3', c3', A4', c4', A5', c5', f1', f2', f3', f4', f5', h5, rfl⟩ := h5
    have hz45 := hK5.size
    simp only [World.size_drew] at hz45
    have hK40 := hK04.size
    have hn0 : w.heap.size ∉ g :: (f1 ++ (f2 ++ (f3 ++ (f4 ++ f5)))) := fun hm => by have := hSw _ hm; omega
    have hn1' : w.heap.size + 1 ∉ g :: (f1 ++ (f2 ++ (f3 ++ (f4 ++ f5)))) := fun hm => by have := hSw _ hm; omega
    have hz2' : w.heap.size + 1 < w4.heap.size := by omega
    have hm5 := (hK5.block w.heap.size (by simp; omega) hn0).trans hm4
    have hg5 := (hK5.block (w.heap.size + 1) (by simp; omega) hn1').trans hg4
    have hn1 : w.heap.size + 1 ∉ g :: (f1' ++ (f2' ++ (f3' ++ (f4' ++ f5')))) := fun hm => by
      rcases hS5 _ hm with h | h
      · exact hn1' h
      · simp at h; omega
    have km5 := fun o => blk_cell hm5 o
    have kg5 := fun o => blk_cell hg5 o
    have k5 := fun o => blk_cell h5.blk o
    have z5 := fun o => blk_frozen h5.blk o
    have hS5' := Lib.hid h5
    obtain ⟨jb, hjb⟩ : ∃ x, m2.jumps = x := ⟨_, rfl⟩
    obtain ⟨rb, hrb⟩ : ∃ x, m2.rests = x := ⟨_, rfl⟩
    obtain ⟨zb, hzb⟩ : ∃ x, (nx == 0) = x := ⟨_, rfl⟩
    have hst1 : Z.1 = { m2 with p := { m2.p with pc := m2.next } } := by rw [hst]
    have hst2 : Z.2 = (!rb && (jb || !zb)) := by rw [hst, ← hjb, ← hrb, ← hzb]
    rw [hjb, hrb] at k5
    rw [hzb]
    clear hjb hrb hzb hst
    replace hst1 := Lib.hid hst1
    replace hst2 := Lib.hid hst2
    have hE : ∀ v, MacP w lo g (g :: (f1 ++ (f2 ++ (f3 ++ (f4 ++ f5))))) { m2 with p := { m2.p with pc := m2.next } } (((w5.setCell ⟨g, 2, none⟩ (.int .i64 m2.next)).setCell ⟨w.heap.size + 1, 0, none⟩ v).drew.alloc (.cells #[.int .i64 0] 90)) := fun v => by
      refine ⟨_, (((h5.poke 2 (.int .i64 m2.next) { m2 with p := { m2.p with pc := m2.next } } rfl rfl rfl rfl rfl (by rfl)).P.setOther hn1 _).drew.alloc _), ((((((hK04.mono (by simp)).drew).trans hK5 (fun b hb => .inl hb)).set (.inl (by simp)) _).set (.inr (by simp)) _).drew.alloc _), fun b hb => ?_⟩
      rcases hS5 b hb with h | h
      · exact .inl h
      · exact .inr (by have := hK04.size; simp at h; omega)
    replace hE := Lib.hid hE
    have hlt1 : w.heap.size + 1 < w5.heap.size := by omega
    have hg1' : g ≠ w.heap.size + 1 := by omega
    have hg2' : ¬ (w.heap.size + 1 = g) := by omega
    have hg3' : ¬ (w.heap.size = g) := by omega
    have zg5 := fun o => blk_frozen hg5 o
    clear hS5' h5 hS4 hK5 hS5 hT4 hm4 hg4 ho4 hm5 hg5
    cases rb <;> cases jb <;> cases zb
    all_goals
      go_wp2_with fail
      refine still_tail 8 (by kernel_rfl) (by kernel_rfl) ?_
      simp only [List.take_succ_cons, List.take_zero, List.drop_succ_cons, List.drop_zero]
      repeat still_step
      refine wpStill_nil ?_
      go_wp2_with fail
      refine leaves_cons (f := 77) (args := #[.pointer (some ⟨w.heap.size, 0, none⟩), .pointer (some ⟨w.heap.size + 1, 0, none⟩)]) (by simp) (by simp [go_sem]) ?_
      refine (catch_idle w.heap.size (w.heap.size + 1) _).mono ?_
      rintro e u' w'' ⟨rfl, rfl, rfl⟩
      have z1 := hst1.out
      have z2 := hst2.out
      obtain ⟨Z1, Z2⟩ := Z
      simp only at z1 z2
      subst z1 z2
      simp [Leaves, settle, results, Try.results39, go_sem, kg5, hlt1, hg1', hg2']
      exact hE.out _
end Go.Proofs.Ytkphkkfgphhjcaa
