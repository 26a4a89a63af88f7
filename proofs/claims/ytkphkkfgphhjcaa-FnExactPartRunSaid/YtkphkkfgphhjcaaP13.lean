/- PartStep. -/
import Derived.Test.YtkphkkfgphhjcaaP12
namespace Go.Proofs.Ytkphkkfgphhjcaa
open Go.RowKit
set_option linter.unusedSimpArgs false
set_option linter.unusedVariables false
theorem list_len12_P13 : ∀ (l : List Value), l.length = 12 → ∃ x0 x1 x2 x3 x4 x5 x6 x7 x8 x9 x10 x11, l = x0 :: x1 :: x2 :: x3 :: x4 :: x5 :: x6 :: x7 :: x8 :: x9 :: x10 :: x11 :: []
  | x0 :: x1 :: x2 :: x3 :: x4 :: x5 :: x6 :: x7 :: x8 :: x9 :: x10 :: x11 :: [], _ => ⟨x0, x1, x2, x3, x4, x5, x6, x7, x8, x9, x10, x11, rfl⟩
theorem list_len17_P13 : ∀ (l : List Value), l.length = 17 → ∃ x0 x1 x2 x3 x4 x5 x6 x7 x8 x9 x10 x11 x12 x13 x14 x15 x16, l = x0 :: x1 :: x2 :: x3 :: x4 :: x5 :: x6 :: x7 :: x8 :: x9 :: x10 :: x11 :: x12 :: x13 :: x14 :: x15 :: x16 :: []
  | x0 :: x1 :: x2 :: x3 :: x4 :: x5 :: x6 :: x7 :: x8 :: x9 :: x10 :: x11 :: x12 :: x13 :: x14 :: x15 :: x16 :: [], _ => ⟨x0, x1, x2, x3, x4, x5, x6, x7, x8, x9, x10, x11, x12, x13, x14, x15, x16, rfl⟩

/-- What a run hands back, in blocks of one's own. -/
def RunN (lo hi : Nat) (p : Pt) (xs : List Int) (sd : List Sd) (v1 v2 v3 v4 v5 : Value) (W : World) : Prop := ∃ f1 f2 f3 f4 f5, PtF W p v1 v2 v3 f1 f2 f3 ∧ SL kI W v4 xs f4 ∧ SL kSd W v5 sd f5 ∧ Own W lo hi (f1 ++ (f2 ++ (f3 ++ (f4 ++ f5))))
theorem RunN.has {W : World} {lo hi : Nat} {p : Pt} {xs : List Int} {sd : List Sd} {v1 v2 v3 v4 v5 : Value} (h : RunN lo hi p xs sd v1 v2 v3 v4 v5 W) : Has lo hi W (RunN lo hi p xs sd v1 v2 v3 v4 v5) := fun W2 h2 => by
  obtain ⟨f1, f2, f3, f4, f5, h1, h3, h4, ho⟩ := h
  have hk : ∀ b ∈ f1 ++ (f2 ++ (f3 ++ (f4 ++ f5))), W2.heap[b]? = W.heap[b]? := fun b hb => h2 b (ho.2 b hb).1.1 (ho.2 b hb).1.2
  simp only [List.mem_append] at hk
  exact ⟨f1, f2, f3, f4, f5, h1.keep (fun b hb => hk b (by simp only [List.mem_append] at hb; rcases hb with h | h | h <;> simp [h])), h3.keep (fun b hb => hk b (by simp [hb])), h4.keep (fun b hb => hk b (by simp [hb])), ho.keep (fun b hb => hk b (by simpa using hb))⟩
theorem RunN.mono {lo lo' hi hi' : Nat} {p : Pt} {xs : List Int} {sd : List Sd} {v1 v2 v3 v4 v5 : Value} {W : World} (h : RunN lo hi p xs sd v1 v2 v3 v4 v5 W) (hl : lo' ≤ lo) (hh : hi ≤ hi') : RunN lo' hi' p xs sd v1 v2 v3 v4 v5 W := by
  obtain ⟨f1, f2, f3, f4, f5, h1, h3, h4, ho⟩ := h
  exact ⟨f1, f2, f3, f4, f5, h1, h3, h4, ho.mono hl hh⟩
theorem Own.drop5 {W : World} {lo hi : Nat} {f1 f2 f3 f4 f5 : List Nat} (h : Own W lo hi (f1 ++ (f2 ++ (f3 ++ (f4 ++ f5))))) : Own W lo hi (f1 ++ (f2 ++ (f3 ++ (f4 ++ [])))) := by
  have e : f1 ++ (f2 ++ (f3 ++ (f4 ++ f5))) = (f1 ++ (f2 ++ (f3 ++ (f4 ++ [])))) ++ f5 := by simp
  rw [e] at h
  exact ⟨(List.nodup_append.1 h.1).1, fun b hb => h.2 b (List.mem_append_left _ hb)⟩
theorem MacF.run {W : World} {lo : Nat} {m : Mac} {g : Nat} {A1 A2 A3 A4 A5 : Option Addr} {c1 c2 c3 c4 c5 : Nat} {f1 f2 f3 f4 f5 : List Nat} (h : MacF W lo m g A1 c1 A2 c2 A3 c3 A4 c4 A5 c5 f1 f2 f3 f4 f5) : RunN lo W.heap.size m.p m.ports m.said (.slice A1 m.p.prog.length c1) (.slice A2 m.p.cells.length c2) (.slice A3 m.p.box.length c3) (.slice A4 m.ports.length c4) (.slice A5 m.said.length c5) W := by
  obtain ⟨f6, h6, h7, h8⟩ := sl_of_row (enc := encS) (sz := 2) (hl := fun _ => rfl) h.said (by decide)
  have hsub : ∀ b ∈ f6, b ∈ f5 := fun b hb => by rw [h.sblk, h8 b hb]; simp
  refine ⟨f1, f2, f3, f4, f6, ⟨h.prog, h.cells, h.box⟩, h.ports, h6, ?_, fun b hb => h.own.2 b ?_⟩
  · have hn := h.own.1
    simp only [List.nodup_cons, List.nodup_append, List.mem_append] at hn ⊢
    obtain ⟨_, n1, ⟨n2, ⟨n3, ⟨n4, _, x4⟩, x3⟩, x2⟩, x1⟩ := hn
    exact ⟨n1, ⟨n2, ⟨n3, ⟨n4, h7.1, fun a ha b hb => x4 a ha b (hsub b hb)⟩, fun a ha b hb => x3 a ha b (hb.imp id (hsub b))⟩, fun a ha b hb => x2 a ha b (hb.imp id (Or.imp id (hsub b)))⟩, fun a ha b hb => x1 a ha b (hb.imp id (Or.imp id (Or.imp id (hsub b))))⟩
  · simp only [List.mem_append, List.mem_cons] at hb ⊢
    rcases hb with hb | hb | hb | hb | hb
    · simp [hb]
    · simp [hb]
    · simp [hb]
    · simp [hb]
    · simp [hsub b hb]
def pt0 : Pt := ⟨[], [], 0, false, []⟩
/-- What a step of a part comes to. -/
def PStep (p : Pt) (now : Int) (xs : List Int) : Pt × List Int × List Sd × Bool :=
  if runOk p now xs = true then (if p.fails = true then (p, xs, [], false) else ((mac0 p now xs).step.1.p, (mac0 p now xs).step.1.ports, (mac0 p now xs).step.1.said, (mac0 p now xs).step.2)) else (pt0, [], [], false)
def StepR (w : World) (p : Pt) (xs : List Int) (sd : List Sd) (b : Bool) (e : Ending) (w' : World) : Prop := ∃ A1 c1 A2 c2 A3 c3 A4 c4 A5 c5, e = .returned (.tuple #[.agg #[.slice A1 p.prog.length c1, .slice A2 p.cells.length c2, .int .i64 p.pc, .bool p.fails, .slice A3 p.box.length c3], .slice A4 xs.length c4, .slice A5 sd.length c5, .bool b]) ∧ Has w.heap.size w'.heap.size w' (RunN w.heap.size w'.heap.size p xs sd (.slice A1 p.prog.length c1) (.slice A2 p.cells.length c2) (.slice A3 p.box.length c3) (.slice A4 xs.length c4) (.slice A5 sd.length c5)) ∧ Below w.heap.size w w'
theorem runN_0 (lo hi : Nat) (W : World) : RunN lo hi pt0 [] [] (.slice none 0 0) (.slice none 0 0) (.slice none 0 0) (.slice none 0 0) (.slice none 0 0) W := ⟨[], [], [], [], [], ⟨sl_nil _ _, sl_nil _ _, sl_nil _ _⟩, sl_nil _ _, sl_nil _ _, own_nil _ _ _⟩
set_option maxHeartbeats 2000000
set_option maxRecDepth 100000
theorem partStep_c (p : Pt) (now : Int) (xs : List Int) (v1 v2 v3 v4 : Value) (f1 f2 f3 f4 : List Nat) (w : World) (h : PtF w p v1 v2 v3 f1 f2 f3) (hx : SL kI w v4 xs f4) (hn : p.prog.length ≤ 10000000) : Calls Try.prog 10 #[.agg #[v1, v2, .int .i64 p.pc, .bool p.fails, v3], .int .i64 now, v4] w (StepR w (PStep p now xs).1 (PStep p now xs).2.1 (PStep p now xs).2.2.1 (PStep p now xs).2.2.2) := by
  obtain ⟨A1, c1, rfl, _⟩ := h.prog.form
  obtain ⟨A2, c2, rfl, _⟩ := h.cells.form
  obtain ⟨A3, c3, rfl, _⟩ := h.box.form
  obtain ⟨A4, c4, rfl, _⟩ := hx.form
  have hq1 : w.heap.size < w.heap.size + 1 + 1 := by omega
  have hS := Lib.hid h.has
  have hX := Lib.hid hx.has
  cases hr : runOk p now xs
  · have hP : PStep p now xs = (pt0, [], [], false) := by unfold PStep; rw [hr]; rfl
    rw [hP]
    have hm := Lib.hid (fun W (hW : Btw 0 w.heap.size w W) => machineOf_not p now xs _ _ _ _ _ _ _ _ W (hS.out.at hW) (hX.out.at hW) hn hr)
    clear h hx hr hP
    obtain ⟨pg, cl, pc, fl, bx⟩ := p
    simp only at *
    go_enter Try.func10, Try.ntmps10
    go_wp2_with fail
    refine (hm.out _ (by repeat (first | (with_reducible exact Btw.refl _ _ _) | (with_reducible assumption) | (with_reducible refine Btw.drew ?_) | (with_reducible refine Btw.drewN ?_ _) | (with_reducible refine Btw.setCell ?_ (by first | (simp; done) | (simp; omega) | omega) _) | (with_reducible refine Btw.alloc ?_ (by first | (simp; done) | (simp; omega) | omega) _) | (with_reducible refine Btw.trans ?_ (Btw.of_below (by assumption) (by first | (simp; done) | (simp; omega) | omega)))))).mono ?_
    rintro e w1 ⟨rfl, hB1⟩
    obtain ⟨hc1, hf1⟩ := bcell hB1
    have hz1 := hB1.size
    (try simp only [World.size_alloc, World.size_setCell, World.size_drew] at hz1)
    go_wp2_with fail
    refine bodyPost_ret (v := .tuple #[.agg #[.slice none 0 0, .slice none 0 0, .int .i64 0, .bool false, .slice none 0 0], .slice none 0 0, .slice none 0 0, .bool false]) (by simp [results, Try.results10, go_sem, hc1, hf1, hq1]) rfl ?_
    exact ⟨none, 0, none, 0, none, 0, none, 0, none, 0, rfl, (runN_0 _ _ _).has, (by repeat (first | (with_reducible exact Below.refl _ _) | (with_reducible assumption) | (with_reducible refine Below.drew ?_) | (with_reducible refine below_drewN' ?_ _) | (with_reducible refine Below.setCell ?_ (by first | (simp; done) | (simp; omega) | omega) _) | (with_reducible refine Below.alloc ?_ (by first | (simp; done) | (simp; omega) | omega) _) | (with_reducible refine Below.trans ?_ (Below.mono (by assumption) (by first | (simp; done) | (simp; omega) | omega)))))⟩
  · have hm := Lib.hid (fun W (hW : Btw 0 w.heap.size w W) => machineOf_c p now xs _ _ _ _ _ _ _ _ W (hS.out.at hW) (hX.out.at hW) hr)
    cases hfl : p.fails
    · have hP : PStep p now xs = ((mac0 p now xs).step.1.p, (mac0 p now xs).step.1.ports, (mac0 p now xs).step.1.said, (mac0 p now xs).step.2) := by unfold PStep; rw [if_pos hr, if_neg (by rw [hfl]; exact Bool.false_ne_true)]
      rw [hP]
      have hOk := runOk_ok hr
      have hst := Lib.hid (fun lo g T S W h1 h3 h4 => step_c (mac0 p now xs) lo g T S W h1 hOk (by simp [mac0]) h3 h4)
      obtain ⟨⟨⟨pg', cl', pc', fl', bx'⟩, xs', now', sd', nx', jb', rb'⟩, hm'⟩ : ∃ m', m' = (mac0 p now xs).step.1 := ⟨_, rfl⟩
      obtain ⟨bb, hbb⟩ : ∃ b, b = (mac0 p now xs).step.2 := ⟨_, rfl⟩
      rw [← hm', ← hbb] at hst ⊢
      clear h hx hP hOk hm' hbb
      obtain ⟨pg, cl, pc, fl, bx⟩ := p
      simp only at hfl
      subst hfl
      simp only at *
      go_enter Try.func10, Try.ntmps10
      go_wp2_with fail
      refine (hm.out _ (by repeat (first | (with_reducible exact Btw.refl _ _ _) | (with_reducible assumption) | (with_reducible refine Btw.drew ?_) | (with_reducible refine Btw.drewN ?_ _) | (with_reducible refine Btw.setCell ?_ (by first | (simp; done) | (simp; omega) | omega) _) | (with_reducible refine Btw.alloc ?_ (by first | (simp; done) | (simp; omega) | omega) _) | (with_reducible refine Btw.trans ?_ (Btw.of_below (by assumption) (by first | (simp; done) | (simp; omega) | omega)))))).mono ?_
      rintro e w1 ⟨g, S, rfl, hM, hB1⟩
      obtain ⟨hc1, hf1⟩ := bcell hB1
      have hz1 := hB1.size
      (try simp only [World.size_alloc, World.size_setCell, World.size_drew] at hz1)
      have hy1 : w.heap.size + 1 < w1.heap.size := by omega
      have hy2 : w.heap.size < w1.heap.size := by omega
      have hR1 : w1.heap[w.heap.size + 1]? = some (.cells #[.slice none 0 0, .slice none 0 0, .int .i64 0, .bool false, .slice none 0 0] 26 (0, 0)) := blk_below (heap_top _ _ (by simp)) hB1
      have hB1w : Below w.heap.size w w1 := (by repeat (first | (with_reducible exact Below.refl _ _) | (with_reducible assumption) | (with_reducible refine Below.drew ?_) | (with_reducible refine below_drewN' ?_ _) | (with_reducible refine Below.setCell ?_ (by first | (simp; done) | (simp; omega) | omega) _) | (with_reducible refine Below.alloc ?_ (by first | (simp; done) | (simp; omega) | omega) _) | (with_reducible refine Below.trans ?_ (Below.mono (by assumption) (by first | (simp; done) | (simp; omega) | omega)))))
      replace hM := Lib.hid hM
      go_wp2_with fail
      refine (opTable_c _).mono ?_
      rintro e w2 ⟨rfl, hB2⟩
      have hz2 := hB2.size
      unfold opTbl
      go_wp2_with fail
      have hM3 := (hM.out.keep (fun b hb => hB2.block b (hM.out.own.lt b hb)) hB2.size).alloc (.cells opTbl 69)
      have hS3 := hM.out.own
      have hTS : w2.heap.size ∉ S := fun hm => by have := hS3.lt _ hm; omega
      have hSlo : ∀ b ∈ S, w.heap.size + 1 + 1 ≤ b := fun b hb => by have := (hS3.2 b hb).1.1; simpa using this
      refine (hst.out _ g w2.heap.size S _ hM3 (heap_top _ _ rfl) hTS).mono ?_
      rintro e w4 ⟨rfl, S4, hM4, hK4, hS4⟩
      obtain ⟨U1, d1, U2, d2, U3, d3, U4, d4, U5, d5, g1, g2, g3, g4, g5, hF, rfl⟩ := hM4
      have hz4 := hK4.size
      simp only [World.size_alloc] at hz4
      have hR4 : w4.heap[w.heap.size + 1]? = some (.cells #[.slice none 0 0, .slice none 0 0, .int .i64 0, .bool false, .slice none 0 0] 26 (0, 0)) := (hK4.block (w.heap.size + 1) (by simp; omega) (fun hm => by have := hSlo _ hm; omega)).trans (heap_up (blk_below hR1 hB2) _)
      have hB2w : Below w.heap.size w (w2.alloc (.cells opTbl 69)) := (hB1w.trans (hB2.mono (by omega))).alloc (by omega) _
      have hB4w : Below w.heap.size w w4 := hB2w.trans (hK4.below (fun b hb => by have := hSlo b hb; omega) (by simp; omega))
      have hmg := (hF.own.2 g (by simp)).1
      simp only [World.size_alloc] at hmg
      have hgw : w.heap.size + 1 < g := by omega
      have k1 := fun o => blk_cell hF.blk o
      simp only at k1
      have hy4 : w.heap.size + 1 < w4.heap.size := by omega
      have hy5 : w.heap.size < w4.heap.size := by omega
      clear hc1 hf1 hM hM3 hS3 hTS hSlo hK4 hS4 hB2w hB1 hB2 hB1w hR1
      have hR1 := hR4
      go_wp2_with fail
      have hX2 : ∀ W, (W = w4.drew ∨ W = ((((((w4).setCell ⟨w.heap.size + 1, 0, none⟩ (.slice U1 pg'.length d1)).setCell ⟨w.heap.size + 1, 1, none⟩ (.slice U2 cl'.length d2)).setCell ⟨w.heap.size + 1, 2, none⟩ (.int .i64 pc')).setCell ⟨w.heap.size + 1, 3, none⟩ (.bool fl')).setCell ⟨w.heap.size + 1, 4, none⟩ (.slice U3 bx'.length d3)).drew) → W.heap[g]? = w4.heap[g]? := fun W hW => by
        rcases hW with rfl | rfl
        · rfl
        · show ((((((w4).setCell ⟨w.heap.size + 1, 0, none⟩ (.slice U1 pg'.length d1)).setCell ⟨w.heap.size + 1, 1, none⟩ (.slice U2 cl'.length d2)).setCell ⟨w.heap.size + 1, 2, none⟩ (.int .i64 pc')).setCell ⟨w.heap.size + 1, 3, none⟩ (.bool fl')).setCell ⟨w.heap.size + 1, 4, none⟩ (.slice U3 bx'.length d3)).heap[g]? = _
          rw [Below.heap_setCell _ _ _ _ (by simp; omega), Below.heap_setCell _ _ _ _ (by simp; omega), Below.heap_setCell _ _ _ _ (by simp; omega), Below.heap_setCell _ _ _ _ (by simp; omega), Below.heap_setCell _ _ _ _ (by simp; omega)]
      replace hX2 := Lib.hid hX2
      have hF' := Lib.hid hF
      have kr := fun o => blk_cell hR1 o
      have zr := fun o => blk_frozen hR1 o
      have hk : ∀ W : World, W.heap[g]? = w4.heap[g]? → ∀ o, W.cell? ⟨g, o, none⟩ = w4.cell? ⟨g, o, none⟩ := fun W e o => by rw [blk_cell (e.trans hF'.out.blk), blk_cell hF'.out.blk]
      replace hk := Lib.hid hk
      clear hF hR4
      apply region_invL (PQ := fun _ _ => False) (VV [IsV _, IsV _, IsV _, IsV _, IsV _, IsV _, IsV _, IsV _, IsV _, IsV _, IsV _, IsV _, IsV _, IsV _, IsV _, IsV _, IsV _]) (fun bs W => (Hid True) ∧ W = (if bs 13 = true then (((((((w4).setCell ⟨w.heap.size + 1, 0, none⟩ (.slice U1 pg'.length d1)).setCell ⟨w.heap.size + 1, 1, none⟩ (.slice U2 cl'.length d2)).setCell ⟨w.heap.size + 1, 2, none⟩ (.int .i64 pc')).setCell ⟨w.heap.size + 1, 3, none⟩ (.bool fl')).setCell ⟨w.heap.size + 1, 4, none⟩ (.slice U3 bx'.length d3)).drew) else (w4.drew))) (fun _ _ => True) (by kernel_rfl) 50 rfl (by kernel_rfl)
      case hp =>
        exact fun _ _ _ _ h => h.elim
      case h0 =>
        exact ⟨Lib.hid trivial, by simp⟩
      case hsteps =>
        refine ⟨?_, ?_, ?_, ?_, ?_, ?_, ?_, ?_, ?_, ?_, ?_, ?_, ?_, ?_, ?_, ?_, ?_, trivial⟩
        · refine stepOKL_of _ [10] rfl (by kernel_rfl) ?_ rfl
          intro bs ρ W hbj hbn hc hf hn ho hI
          clear hn
          have s10 := ho.1
          simp only [Array.getD_eq_getD_getElem?] at s10
          clear ho
          obtain ⟨j0, _⟩ := (fun W hW => And.intro (hk.out W (hX2.out W hW)) trivial) W (pickW2 hI.2)
          have hI' := Lib.hid hI
          clear hI
          go_simp
          exact postL_mk hI'.out trivial rfl
        · refine stepOKL_of _ [] rfl (by kernel_rfl) ?_ rfl
          intro bs ρ W hbj hbn hc hf hn ho hI
          obtain ⟨u0, q0, s37⟩ := hn.1
          clear hn
          have q0 : u0 = _ := q0
          subst q0
          have s37 : ρ (.tmp 37) = _ := s37
          clear ho
          obtain ⟨j0, _⟩ := (fun W hW => And.intro (hk.out W (hX2.out W hW)) trivial) W (pickW2 hI.2)
          have hI' := Lib.hid hI
          clear hI
          go_simp
          exact postL_mk hI'.out trivial rfl
        · refine stepOKL_of _ [] rfl (by kernel_rfl) ?_ rfl
          intro bs ρ W hbj hbn hc hf hn ho hI
          obtain ⟨u1, q1, s38⟩ := hn.1
          clear hn
          have q1 : u1 = _ := q1
          subst q1
          have s38 : ρ (.tmp 38) = _ := s38
          clear ho
          obtain ⟨j0, _⟩ := (fun W hW => And.intro (hk.out W (hX2.out W hW)) trivial) W (pickW2 hI.2)
          have hI' := Lib.hid hI
          clear hI
          go_simp
          exact postL_mk hI'.out trivial rfl
        · refine stepOKL_of _ [] rfl (by kernel_rfl) ?_ rfl
          intro bs ρ W hbj hbn hc hf hn ho hI
          obtain ⟨u2, q2, s39⟩ := hn.1
          clear hn
          have q2 : u2 = _ := q2
          subst q2
          have s39 : ρ (.tmp 39) = _ := s39
          clear ho
          obtain ⟨j0, _⟩ := (fun W hW => And.intro (hk.out W (hX2.out W hW)) trivial) W (pickW2 hI.2)
          have hI' := Lib.hid hI
          clear hI
          go_simp
          exact postL_mk hI'.out trivial rfl
        · refine stepOKL_of _ [10] rfl (by kernel_rfl) ?_ rfl
          intro bs ρ W hbj hbn hc hf hn ho hI
          clear hn
          have s10 := ho.1
          simp only [Array.getD_eq_getD_getElem?] at s10
          clear ho
          obtain ⟨j0, _⟩ := (fun W hW => And.intro (hk.out W (hX2.out W hW)) trivial) W (pickW2 hI.2)
          have hI' := Lib.hid hI
          clear hI
          go_simp
          exact postL_mk hI'.out trivial rfl
        · refine stepOKL_of _ [] rfl (by kernel_rfl) ?_ rfl
          intro bs ρ W hbj hbn hc hf hn ho hI
          obtain ⟨u4, q4, s41⟩ := hn.1
          clear hn
          have q4 : u4 = _ := q4
          subst q4
          have s41 : ρ (.tmp 41) = _ := s41
          clear ho
          obtain ⟨j0, _⟩ := (fun W hW => And.intro (hk.out W (hX2.out W hW)) trivial) W (pickW2 hI.2)
          have hI' := Lib.hid hI
          clear hI
          go_simp
          exact postL_mk hI'.out trivial rfl
        · refine stepOKL_of _ [] rfl (by kernel_rfl) ?_ rfl
          intro bs ρ W hbj hbn hc hf hn ho hI
          obtain ⟨u5, q5, s42⟩ := hn.1
          clear hn
          have q5 : u5 = _ := q5
          subst q5
          have s42 : ρ (.tmp 42) = _ := s42
          clear ho
          obtain ⟨j0, _⟩ := (fun W hW => And.intro (hk.out W (hX2.out W hW)) trivial) W (pickW2 hI.2)
          have hI' := Lib.hid hI
          clear hI
          go_simp
          exact postL_mk hI'.out trivial rfl
        · refine stepOKL_of _ [] rfl (by kernel_rfl) ?_ rfl
          intro bs ρ W hbj hbn hc hf hn ho hI
          obtain ⟨u6, q6, s43⟩ := hn.1
          clear hn
          have q6 : u6 = _ := q6
          subst q6
          have s43 : ρ (.tmp 43) = _ := s43
          clear ho
          obtain ⟨j0, _⟩ := (fun W hW => And.intro (hk.out W (hX2.out W hW)) trivial) W (pickW2 hI.2)
          have hI' := Lib.hid hI
          clear hI
          go_simp
          exact postL_mk hI'.out trivial rfl
        · refine stepOKL_of _ [10] rfl (by kernel_rfl) ?_ rfl
          intro bs ρ W hbj hbn hc hf hn ho hI
          clear hn
          have s10 := ho.1
          simp only [Array.getD_eq_getD_getElem?] at s10
          clear ho
          obtain ⟨j0, _⟩ := (fun W hW => And.intro (hk.out W (hX2.out W hW)) trivial) W (pickW2 hI.2)
          have hI' := Lib.hid hI
          clear hI
          go_simp
          exact postL_mk hI'.out trivial rfl
        · refine stepOKL_of _ [] rfl (by kernel_rfl) ?_ rfl
          intro bs ρ W hbj hbn hc hf hn ho hI
          obtain ⟨u8, q8, s45⟩ := hn.1
          clear hn
          have q8 : u8 = _ := q8
          subst q8
          have s45 : ρ (.tmp 45) = _ := s45
          clear ho
          obtain ⟨j0, _⟩ := (fun W hW => And.intro (hk.out W (hX2.out W hW)) trivial) W (pickW2 hI.2)
          have hI' := Lib.hid hI
          clear hI
          go_simp
          exact postL_mk hI'.out trivial rfl
        · refine stepOKL_of _ [] rfl (by kernel_rfl) ?_ rfl
          intro bs ρ W hbj hbn hc hf hn ho hI
          obtain ⟨u9, q9, s46⟩ := hn.1
          clear hn
          have q9 : u9 = _ := q9
          subst q9
          have s46 : ρ (.tmp 46) = _ := s46
          clear ho
          obtain ⟨j0, _⟩ := (fun W hW => And.intro (hk.out W (hX2.out W hW)) trivial) W (pickW2 hI.2)
          have hI' := Lib.hid hI
          clear hI
          go_simp
          exact postL_mk hI'.out trivial rfl
        · refine stepOKL_of _ [] rfl (by kernel_rfl) ?_ rfl
          intro bs ρ W hbj hbn hc hf hn ho hI
          obtain ⟨u10, q10, s47⟩ := hn.1
          clear hn
          have q10 : u10 = _ := q10
          subst q10
          have s47 : ρ (.tmp 47) = _ := s47
          clear ho
          obtain ⟨j0, _⟩ := (fun W hW => And.intro (hk.out W (hX2.out W hW)) trivial) W (pickW2 hI.2)
          have hI' := Lib.hid hI
          clear hI
          go_simp
          exact postL_mk hI'.out trivial rfl
        · refine stepOKL_of _ [13] rfl (by kernel_rfl) ?_ rfl
          intro bs ρ W hbj hbn hc hf hn ho hI
          clear hn
          have s13 := ho.1
          simp only [Array.getD_eq_getD_getElem?] at s13
          clear ho
          obtain ⟨j0, _⟩ := (fun W hW => And.intro (hk.out W (hX2.out W hW)) trivial) W (pickW2 hI.2)
          have hI' := Lib.hid hI
          clear hI
          go_simp
          exact postL_mk hI'.out trivial rfl
        · refine stepOKL_of _ [6] rfl (by kernel_rfl) ?_ rfl
          intro bs ρ W hbj hbn hc hf hn ho hI
          obtain ⟨u3, q3, s40⟩ := hn.1
          clear hn
          have q3 : u3 = _ := q3
          subst q3
          have s40 : ρ (.tmp 40) = _ := s40
          have s6 := ho.1
          simp only [Array.getD_eq_getD_getElem?] at s6
          clear ho
          have hW : W = (w4.drew) := by
            have e := hI.2
            simpa [hbj] using e
          have hch := Lib.hid hI.1
          clear hI
          subst hW
          obtain ⟨j0, _⟩ := (fun W hW => And.intro (hk.out W (hX2.out W hW)) trivial) _ (.inl rfl)
          go_simp
          refine postL_mk ⟨Lib.hid trivial, ?_⟩ trivial rfl
          simp [upB]
        · refine stepOKL_of _ [] rfl (by kernel_rfl) ?_ rfl
          intro bs ρ W hbj hbn hc hf hn ho hI
          obtain ⟨u7, q7, s44⟩ := hn.1
          clear hn
          have q7 : u7 = _ := q7
          subst q7
          have s44 : ρ (.tmp 44) = _ := s44
          clear ho
          obtain ⟨j0, _⟩ := (fun W hW => And.intro (hk.out W (hX2.out W hW)) trivial) W (pickW2 hI.2)
          have hI' := Lib.hid hI
          clear hI
          go_simp
          exact postL_mk hI'.out trivial rfl
        · refine stepOKL_of _ [] rfl (by kernel_rfl) ?_ rfl
          intro bs ρ W hbj hbn hc hf hn ho hI
          obtain ⟨u11, q11, s48⟩ := hn.1
          clear hn
          have q11 : u11 = _ := q11
          subst q11
          have s48 : ρ (.tmp 48) = _ := s48
          clear ho
          obtain ⟨j0, _⟩ := (fun W hW => And.intro (hk.out W (hX2.out W hW)) trivial) W (pickW2 hI.2)
          have hI' := Lib.hid hI
          clear hI
          go_simp
          exact postL_mk hI'.out trivial rfl
        · refine stepOKL_of _ [] rfl (by kernel_rfl) ?_ rfl
          intro bs ρ W hbj hbn hc hf hn ho hI
          obtain ⟨u12, q12, s49⟩ := hn.1
          clear hn
          have q12 : u12 = _ := q12
          subst q12
          have s49 : ρ (.tmp 49) = _ := s49
          clear ho
          obtain ⟨j0, _⟩ := (fun W hW => And.intro (hk.out W (hX2.out W hW)) trivial) W (pickW2 hI.2)
          have hI' := Lib.hid hI
          clear hI
          go_simp
          exact postL_mk hI'.out trivial rfl
      case hst => exact vv_stable ⟨isV_st, isV_st, isV_st, isV_st, isV_st, isV_st, isV_st, isV_st, isV_st, isV_st, isV_st, isV_st, isV_st, isV_st, isV_st, isV_st, isV_st, trivial⟩
      intro vs bs W hlen hall hI hV
      obtain ⟨x0, x1, x2, x3, x4, x5, x6, x7, x8, x9, x10, x11, x12, x13, x14, x15, x16, rfl⟩ := list_len17_P13 vs hlen
      have y0 : x0 = _ := hV 0 _ rfl
      subst y0
      have y1 : x1 = _ := hV 1 _ rfl
      subst y1
      have y2 : x2 = _ := hV 2 _ rfl
      subst y2
      have y3 : x3 = _ := hV 3 _ rfl
      subst y3
      have y4 : x4 = _ := hV 4 _ rfl
      subst y4
      have y5 : x5 = _ := hV 5 _ rfl
      subst y5
      have y6 : x6 = _ := hV 6 _ rfl
      subst y6
      have y7 : x7 = _ := hV 7 _ rfl
      subst y7
      have y8 : x8 = _ := hV 8 _ rfl
      subst y8
      have y9 : x9 = _ := hV 9 _ rfl
      subst y9
      have y10 : x10 = _ := hV 10 _ rfl
      subst y10
      have y11 : x11 = _ := hV 11 _ rfl
      subst y11
      have y12 : x12 = _ := hV 12 _ rfl
      subst y12
      have y13 : x13 = _ := hV 13 _ rfl
      subst y13
      have y14 : x14 = _ := hV 14 _ rfl
      subst y14
      have y15 : x15 = _ := hV 15 _ rfl
      subst y15
      have y16 : x16 = _ := hV 16 _ rfl
      subst y16
      have hWe : W = (((((((w4).setCell ⟨w.heap.size + 1, 0, none⟩ (.slice U1 pg'.length d1)).setCell ⟨w.heap.size + 1, 1, none⟩ (.slice U2 cl'.length d2)).setCell ⟨w.heap.size + 1, 2, none⟩ (.int .i64 pc')).setCell ⟨w.heap.size + 1, 3, none⟩ (.bool fl')).setCell ⟨w.heap.size + 1, 4, none⟩ (.slice U3 bx'.length d3)).drew) := by
        have e := hI.2
        simpa [hall 13 (by decide)] using e
      replace hWe := Lib.hid hWe
      clear hV hlen hall hI
      simp only [Exit.then, putAll, Act.put, List.setIfInBounds_toArray, List.set_cons_zero, List.set_cons_succ]
      skip
      have hb5 : W.heap[w.heap.size + 1]? = some (.cells #[.slice U1 pg'.length d1, .slice U2 cl'.length d2, .int .i64 pc', .bool fl', .slice U3 bx'.length d3] 26 (0, 0)) := by
        rw [hWe.out]
        exact blk_put (blk_put (blk_put (blk_put (blk_put hR1 0 (.slice U1 pg'.length d1)) 1 (.slice U2 cl'.length d2)) 2 (.int .i64 pc')) 3 (.bool fl')) 4 (.slice U3 bx'.length d3)
      have hBel : Below w.heap.size w W := by rw [hWe.out]; exact (by repeat (first | (with_reducible exact Below.refl _ _) | (with_reducible assumption) | (with_reducible refine Below.drew ?_) | (with_reducible refine below_drewN' ?_ _) | (with_reducible refine Below.setCell ?_ (by first | (simp; done) | (simp; omega) | omega) _) | (with_reducible refine Below.alloc ?_ (by first | (simp; done) | (simp; omega) | omega) _) | (with_reducible refine Below.trans ?_ (Below.mono (by assumption) (by first | (simp; done) | (simp; omega) | omega)))))
      have hsW : w4.heap.size = W.heap.size := by rw [hWe.out]; simp
      have hRun : Has w.heap.size W.heap.size W (RunN w.heap.size W.heap.size ⟨pg', cl', pc', fl', bx'⟩ xs' sd' (.slice U1 pg'.length d1) (.slice U2 cl'.length d2) (.slice U3 bx'.length d3) (.slice U4 xs'.length d4) (.slice U5 sd'.length d5)) := by
        have h1 : RunN w.heap.size W.heap.size ⟨pg', cl', pc', fl', bx'⟩ xs' sd' (.slice U1 pg'.length d1) (.slice U2 cl'.length d2) (.slice U3 bx'.length d3) (.slice U4 xs'.length d4) (.slice U5 sd'.length d5) W := by
          have h3 := hF'.out.run.has.at (W' := W) (by rw [hWe.out]; exact (by repeat (first | (with_reducible exact Btw.refl _ _ _) | (with_reducible assumption) | (with_reducible refine Btw.drew ?_) | (with_reducible refine Btw.drewN ?_ _) | (with_reducible refine Btw.setCell ?_ (by first | (simp; done) | (simp; omega) | omega) _) | (with_reducible refine Btw.alloc ?_ (by first | (simp; done) | (simp; omega) | omega) _) | (with_reducible refine Btw.trans ?_ (Btw.of_below (by assumption) (by first | (simp; done) | (simp; omega) | omega))))))
          have h2 := h3.mono (lo' := w.heap.size) (hi' := W.heap.size) (by first | (simp; done) | (simp; omega) | omega) (by omega)
          exact h2
        exact h1.has
      have kW := fun o => blk_cell hb5 o
      clear hWe hk hX2 hF' k1 kr zr hR1 hb5
      go_wp2_with fail
      refine bodyPost_ret (v := .tuple #[.agg #[.slice U1 pg'.length d1, .slice U2 cl'.length d2, .int .i64 pc', .bool fl', .slice U3 bx'.length d3], .slice U4 xs'.length d4, .slice U5 sd'.length d5, .bool bb]) (by simp [results, Try.results10, go_sem, kW]) rfl ?_
      exact ⟨U1, d1, U2, d2, U3, d3, U4, d4, U5, d5, rfl, hRun, hBel⟩
    · have hP : PStep p now xs = (p, xs, [], false) := by unfold PStep; rw [if_pos hr, if_pos hfl]
      rw [hP]
      clear h hx hP
      obtain ⟨pg, cl, pc, fl, bx⟩ := p
      simp only at hfl
      subst hfl
      simp only at *
      go_enter Try.func10, Try.ntmps10
      go_wp2_with fail
      refine (hm.out _ (by repeat (first | (with_reducible exact Btw.refl _ _ _) | (with_reducible assumption) | (with_reducible refine Btw.drew ?_) | (with_reducible refine Btw.drewN ?_ _) | (with_reducible refine Btw.setCell ?_ (by first | (simp; done) | (simp; omega) | omega) _) | (with_reducible refine Btw.alloc ?_ (by first | (simp; done) | (simp; omega) | omega) _) | (with_reducible refine Btw.trans ?_ (Btw.of_below (by assumption) (by first | (simp; done) | (simp; omega) | omega)))))).mono ?_
      rintro e w1 ⟨g, S, rfl, hM, hB1⟩
      obtain ⟨hc1, hf1⟩ := bcell hB1
      have hz1 := hB1.size
      (try simp only [World.size_alloc, World.size_setCell, World.size_drew] at hz1)
      obtain ⟨U1, d1, U2, d2, U3, d3, U4, d4, U5, d5, g1, g2, g3, g4, g5, hF, rfl⟩ := hM
      have hy1 : w.heap.size + 1 < w1.heap.size := by omega
      have hy2 : w.heap.size < w1.heap.size := by omega
      have hmg := (hF.own.2 g (by simp)).1
      simp only [World.size_alloc] at hmg
      have hgw : w.heap.size + 1 < g := by omega
      have k1 := fun o => blk_cell hF.blk o
      simp only [mac0] at k1
      go_wp2_with fail
      have hR1 : w1.heap[w.heap.size + 1]? = some (.cells #[.slice none 0 0, .slice none 0 0, .int .i64 0, .bool false, .slice none 0 0] 26 (0, 0)) := blk_below (heap_top _ _ (by simp)) hB1
      have hX2 : ∀ W, (W = w1.drew ∨ W = ((((((w1).setCell ⟨w.heap.size + 1, 0, none⟩ (.slice U1 pg.length d1)).setCell ⟨w.heap.size + 1, 1, none⟩ (.slice U2 cl.length d2)).setCell ⟨w.heap.size + 1, 2, none⟩ (.int .i64 pc)).setCell ⟨w.heap.size + 1, 3, none⟩ (.bool true)).setCell ⟨w.heap.size + 1, 4, none⟩ (.slice U3 bx.length d3)).drew) → W.heap[g]? = w1.heap[g]? := fun W hW => by
        rcases hW with rfl | rfl
        · rfl
        · show ((((((w1).setCell ⟨w.heap.size + 1, 0, none⟩ (.slice U1 pg.length d1)).setCell ⟨w.heap.size + 1, 1, none⟩ (.slice U2 cl.length d2)).setCell ⟨w.heap.size + 1, 2, none⟩ (.int .i64 pc)).setCell ⟨w.heap.size + 1, 3, none⟩ (.bool true)).setCell ⟨w.heap.size + 1, 4, none⟩ (.slice U3 bx.length d3)).heap[g]? = _
          rw [Below.heap_setCell _ _ _ _ (by simp; omega), Below.heap_setCell _ _ _ _ (by simp; omega), Below.heap_setCell _ _ _ _ (by simp; omega), Below.heap_setCell _ _ _ _ (by simp; omega), Below.heap_setCell _ _ _ _ (by simp; omega)]
      replace hX2 := Lib.hid hX2
      have hF' := Lib.hid hF
      have kr := fun o => blk_cell hR1 o
      have zr := fun o => blk_frozen hR1 o
      have hk : ∀ W : World, W.heap[g]? = w1.heap[g]? → ∀ o, W.cell? ⟨g, o, none⟩ = w1.cell? ⟨g, o, none⟩ := fun W e o => by rw [blk_cell (e.trans hF'.out.blk), blk_cell hF'.out.blk]
      replace hk := Lib.hid hk
      clear hF hc1 hf1
      apply region_invL (PQ := fun _ _ => False) (VV [IsV _, IsV _, IsV _, IsV _, IsV _, IsV _, IsV _, IsV _, IsV _, IsV _, IsV _, IsV _]) (fun bs W => (Hid True) ∧ W = (if bs 8 = true then (((((((w1).setCell ⟨w.heap.size + 1, 0, none⟩ (.slice U1 pg.length d1)).setCell ⟨w.heap.size + 1, 1, none⟩ (.slice U2 cl.length d2)).setCell ⟨w.heap.size + 1, 2, none⟩ (.int .i64 pc)).setCell ⟨w.heap.size + 1, 3, none⟩ (.bool true)).setCell ⟨w.heap.size + 1, 4, none⟩ (.slice U3 bx.length d3)).drew) else (w1.drew))) (fun _ _ => True) (by kernel_rfl) 50 rfl (by kernel_rfl)
      case hp =>
        exact fun _ _ _ _ h => h.elim
      case h0 =>
        exact ⟨Lib.hid trivial, by simp⟩
      case hsteps =>
        refine ⟨?_, ?_, ?_, ?_, ?_, ?_, ?_, ?_, ?_, ?_, ?_, ?_, trivial⟩
        · refine stepOKL_of _ [10] rfl (by kernel_rfl) ?_ rfl
          intro bs ρ W hbj hbn hc hf hn ho hI
          clear hn
          have s10 := ho.1
          simp only [Array.getD_eq_getD_getElem?] at s10
          clear ho
          obtain ⟨j0, _⟩ := (fun W hW => And.intro (hk.out W (hX2.out W hW)) trivial) W (pickW2 hI.2)
          have hI' := Lib.hid hI
          clear hI
          go_simp
          exact postL_mk hI'.out trivial rfl
        · refine stepOKL_of _ [] rfl (by kernel_rfl) ?_ rfl
          intro bs ρ W hbj hbn hc hf hn ho hI
          obtain ⟨u0, q0, s26⟩ := hn.1
          clear hn
          have q0 : u0 = _ := q0
          subst q0
          have s26 : ρ (.tmp 26) = _ := s26
          clear ho
          obtain ⟨j0, _⟩ := (fun W hW => And.intro (hk.out W (hX2.out W hW)) trivial) W (pickW2 hI.2)
          have hI' := Lib.hid hI
          clear hI
          go_simp
          exact postL_mk hI'.out trivial rfl
        · refine stepOKL_of _ [] rfl (by kernel_rfl) ?_ rfl
          intro bs ρ W hbj hbn hc hf hn ho hI
          obtain ⟨u1, q1, s27⟩ := hn.1
          clear hn
          have q1 : u1 = _ := q1
          subst q1
          have s27 : ρ (.tmp 27) = _ := s27
          clear ho
          obtain ⟨j0, _⟩ := (fun W hW => And.intro (hk.out W (hX2.out W hW)) trivial) W (pickW2 hI.2)
          have hI' := Lib.hid hI
          clear hI
          go_simp
          exact postL_mk hI'.out trivial rfl
        · refine stepOKL_of _ [] rfl (by kernel_rfl) ?_ rfl
          intro bs ρ W hbj hbn hc hf hn ho hI
          obtain ⟨u2, q2, s28⟩ := hn.1
          clear hn
          have q2 : u2 = _ := q2
          subst q2
          have s28 : ρ (.tmp 28) = _ := s28
          clear ho
          obtain ⟨j0, _⟩ := (fun W hW => And.intro (hk.out W (hX2.out W hW)) trivial) W (pickW2 hI.2)
          have hI' := Lib.hid hI
          clear hI
          go_simp
          exact postL_mk hI'.out trivial rfl
        · refine stepOKL_of _ [10] rfl (by kernel_rfl) ?_ rfl
          intro bs ρ W hbj hbn hc hf hn ho hI
          clear hn
          have s10 := ho.1
          simp only [Array.getD_eq_getD_getElem?] at s10
          clear ho
          obtain ⟨j0, _⟩ := (fun W hW => And.intro (hk.out W (hX2.out W hW)) trivial) W (pickW2 hI.2)
          have hI' := Lib.hid hI
          clear hI
          go_simp
          exact postL_mk hI'.out trivial rfl
        · refine stepOKL_of _ [] rfl (by kernel_rfl) ?_ rfl
          intro bs ρ W hbj hbn hc hf hn ho hI
          obtain ⟨u4, q4, s30⟩ := hn.1
          clear hn
          have q4 : u4 = _ := q4
          subst q4
          have s30 : ρ (.tmp 30) = _ := s30
          clear ho
          obtain ⟨j0, _⟩ := (fun W hW => And.intro (hk.out W (hX2.out W hW)) trivial) W (pickW2 hI.2)
          have hI' := Lib.hid hI
          clear hI
          go_simp
          exact postL_mk hI'.out trivial rfl
        · refine stepOKL_of _ [] rfl (by kernel_rfl) ?_ rfl
          intro bs ρ W hbj hbn hc hf hn ho hI
          obtain ⟨u5, q5, s31⟩ := hn.1
          clear hn
          have q5 : u5 = _ := q5
          subst q5
          have s31 : ρ (.tmp 31) = _ := s31
          clear ho
          obtain ⟨j0, _⟩ := (fun W hW => And.intro (hk.out W (hX2.out W hW)) trivial) W (pickW2 hI.2)
          have hI' := Lib.hid hI
          clear hI
          go_simp
          exact postL_mk hI'.out trivial rfl
        · refine stepOKL_of _ [] rfl (by kernel_rfl) ?_ rfl
          intro bs ρ W hbj hbn hc hf hn ho hI
          obtain ⟨u6, q6, s32⟩ := hn.1
          clear hn
          have q6 : u6 = _ := q6
          subst q6
          have s32 : ρ (.tmp 32) = _ := s32
          clear ho
          obtain ⟨j0, _⟩ := (fun W hW => And.intro (hk.out W (hX2.out W hW)) trivial) W (pickW2 hI.2)
          have hI' := Lib.hid hI
          clear hI
          go_simp
          exact postL_mk hI'.out trivial rfl
        · refine stepOKL_of _ [6] rfl (by kernel_rfl) ?_ rfl
          intro bs ρ W hbj hbn hc hf hn ho hI
          obtain ⟨u3, q3, s29⟩ := hn.1
          clear hn
          have q3 : u3 = _ := q3
          subst q3
          have s29 : ρ (.tmp 29) = _ := s29
          have s6 := ho.1
          simp only [Array.getD_eq_getD_getElem?] at s6
          clear ho
          have hW : W = (w1.drew) := by
            have e := hI.2
            simpa [hbj] using e
          have hch := Lib.hid hI.1
          clear hI
          subst hW
          obtain ⟨j0, _⟩ := (fun W hW => And.intro (hk.out W (hX2.out W hW)) trivial) _ (.inl rfl)
          go_simp
          refine postL_mk ⟨Lib.hid trivial, ?_⟩ trivial rfl
          simp [upB]
        · refine stepOKL_of _ [] rfl (by kernel_rfl) ?_ rfl
          intro bs ρ W hbj hbn hc hf hn ho hI
          obtain ⟨u7, q7, s33⟩ := hn.1
          clear hn
          have q7 : u7 = _ := q7
          subst q7
          have s33 : ρ (.tmp 33) = _ := s33
          clear ho
          obtain ⟨j0, _⟩ := (fun W hW => And.intro (hk.out W (hX2.out W hW)) trivial) W (pickW2 hI.2)
          have hI' := Lib.hid hI
          clear hI
          go_simp
          exact postL_mk hI'.out trivial rfl
        · refine stepOKL_of _ [] rfl (by kernel_rfl) ?_ rfl
          intro bs ρ W hbj hbn hc hf hn ho hI
          clear hn
          clear ho
          obtain ⟨j0, _⟩ := (fun W hW => And.intro (hk.out W (hX2.out W hW)) trivial) W (pickW2 hI.2)
          have hI' := Lib.hid hI
          clear hI
          go_simp
          exact postL_mk hI'.out trivial rfl
        · refine stepOKL_of _ [] rfl (by kernel_rfl) ?_ rfl
          intro bs ρ W hbj hbn hc hf hn ho hI
          clear hn
          clear ho
          obtain ⟨j0, _⟩ := (fun W hW => And.intro (hk.out W (hX2.out W hW)) trivial) W (pickW2 hI.2)
          have hI' := Lib.hid hI
          clear hI
          go_simp
          exact postL_mk hI'.out trivial rfl
      case hst => exact vv_stable ⟨isV_st, isV_st, isV_st, isV_st, isV_st, isV_st, isV_st, isV_st, isV_st, isV_st, isV_st, isV_st, trivial⟩
      intro vs bs W hlen hall hI hV
      obtain ⟨x0, x1, x2, x3, x4, x5, x6, x7, x8, x9, x10, x11, rfl⟩ := list_len12_P13 vs hlen
      have y0 : x0 = _ := hV 0 _ rfl
      subst y0
      have y1 : x1 = _ := hV 1 _ rfl
      subst y1
      have y2 : x2 = _ := hV 2 _ rfl
      subst y2
      have y3 : x3 = _ := hV 3 _ rfl
      subst y3
      have y4 : x4 = _ := hV 4 _ rfl
      subst y4
      have y5 : x5 = _ := hV 5 _ rfl
      subst y5
      have y6 : x6 = _ := hV 6 _ rfl
      subst y6
      have y7 : x7 = _ := hV 7 _ rfl
      subst y7
      have y8 : x8 = _ := hV 8 _ rfl
      subst y8
      have y9 : x9 = _ := hV 9 _ rfl
      subst y9
      have y10 : x10 = _ := hV 10 _ rfl
      subst y10
      have y11 : x11 = _ := hV 11 _ rfl
      subst y11
      have hWe : W = (((((((w1).setCell ⟨w.heap.size + 1, 0, none⟩ (.slice U1 pg.length d1)).setCell ⟨w.heap.size + 1, 1, none⟩ (.slice U2 cl.length d2)).setCell ⟨w.heap.size + 1, 2, none⟩ (.int .i64 pc)).setCell ⟨w.heap.size + 1, 3, none⟩ (.bool true)).setCell ⟨w.heap.size + 1, 4, none⟩ (.slice U3 bx.length d3)).drew) := by
        have e := hI.2
        simpa [hall 8 (by decide)] using e
      replace hWe := Lib.hid hWe
      clear hV hlen hall hI
      simp only [Exit.then, putAll, Act.put, List.setIfInBounds_toArray, List.set_cons_zero, List.set_cons_succ]
      skip
      have hb5 : W.heap[w.heap.size + 1]? = some (.cells #[.slice U1 pg.length d1, .slice U2 cl.length d2, .int .i64 pc, .bool true, .slice U3 bx.length d3] 26 (0, 0)) := by
        rw [hWe.out]
        exact blk_put (blk_put (blk_put (blk_put (blk_put hR1 0 (.slice U1 pg.length d1)) 1 (.slice U2 cl.length d2)) 2 (.int .i64 pc)) 3 (.bool true)) 4 (.slice U3 bx.length d3)
      have hBel : Below w.heap.size w W := by rw [hWe.out]; exact (by repeat (first | (with_reducible exact Below.refl _ _) | (with_reducible assumption) | (with_reducible refine Below.drew ?_) | (with_reducible refine below_drewN' ?_ _) | (with_reducible refine Below.setCell ?_ (by first | (simp; done) | (simp; omega) | omega) _) | (with_reducible refine Below.alloc ?_ (by first | (simp; done) | (simp; omega) | omega) _) | (with_reducible refine Below.trans ?_ (Below.mono (by assumption) (by first | (simp; done) | (simp; omega) | omega)))))
      have hsW : w1.heap.size = W.heap.size := by rw [hWe.out]; simp
      have hRun : Has w.heap.size W.heap.size W (RunN w.heap.size W.heap.size ⟨pg, cl, pc, true, bx⟩ xs [] (.slice U1 pg.length d1) (.slice U2 cl.length d2) (.slice U3 bx.length d3) (.slice U4 xs.length d4) (.slice none 0 0)) := by
        have h1 : RunN w.heap.size W.heap.size ⟨pg, cl, pc, true, bx⟩ xs [] (.slice U1 pg.length d1) (.slice U2 cl.length d2) (.slice U3 bx.length d3) (.slice U4 xs.length d4) (.slice none 0 0) W := by
          have h3 := hF'.out.run.has.at (W' := W) (by rw [hWe.out]; exact (by repeat (first | (with_reducible exact Btw.refl _ _ _) | (with_reducible assumption) | (with_reducible refine Btw.drew ?_) | (with_reducible refine Btw.drewN ?_ _) | (with_reducible refine Btw.setCell ?_ (by first | (simp; done) | (simp; omega) | omega) _) | (with_reducible refine Btw.alloc ?_ (by first | (simp; done) | (simp; omega) | omega) _) | (with_reducible refine Btw.trans ?_ (Btw.of_below (by assumption) (by first | (simp; done) | (simp; omega) | omega))))))
          have h2 := h3.mono (lo' := w.heap.size) (hi' := W.heap.size) (by first | (simp; done) | (simp; omega) | omega) (by omega)
          obtain ⟨e1, e2, e3, e4, e5, q1, q2, q3, q4⟩ := h2; exact ⟨e1, e2, e3, e4, [], q1, q2, sl_nil _ _, q4.drop5⟩
        exact h1.has
      have kW := fun o => blk_cell hb5 o
      clear hWe hk hX2 hF' k1 kr zr hR1 hb5
      go_wp2_with fail
      refine bodyPost_ret (v := .tuple #[.agg #[.slice U1 pg.length d1, .slice U2 cl.length d2, .int .i64 pc, .bool true, .slice U3 bx.length d3], .slice U4 xs.length d4, .slice none 0 0, .bool false]) (by simp [results, Try.results10, go_sem, kW]) rfl ?_
      exact ⟨U1, d1, U2, d2, U3, d3, U4, d4, none, 0, rfl, hRun, hBel⟩
end Go.Proofs.Ytkphkkfgphhjcaa
