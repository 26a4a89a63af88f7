/- What each op does: ports, jumps, what was sent. -/
import Derived.Test.YtkphkkfgphhjcaaP8
namespace Go.Proofs.Ytkphkkfgphhjcaa
open Go.RowKit
set_option linter.unusedSimpArgs false
set_option linter.unusedVariables false
theorem own_swap {W W' : World} {lo hi l2 hi' : Nat} {a b b' c : List Nat} (h : Own W lo hi (a ++ (b ++ c))) (h' : Own W' l2 hi' b') (hl : hi ≤ l2) (hk : ∀ x ∈ a ++ c, ∃ cur e, W'.heap[x]? = some (.cells cur e (0, 0))) (hh : hi ≤ hi') (hlo : lo ≤ l2) : Own W' lo hi' (a ++ (b' ++ c)) := by
  have h1 := h.1
  rw [List.nodup_append, List.nodup_append] at h1
  obtain ⟨n1, ⟨_, n2, _⟩, d1⟩ := h1
  have up : ∀ x ∈ a ++ (b ++ c), x < hi := fun x hx => (h.2 x hx).1.2
  refine ⟨?_, fun x hx => ?_⟩
  · rw [List.nodup_append, List.nodup_append]
    refine ⟨n1, ⟨h'.1, n2, fun x hx y hy e => ?_⟩, fun x hx y hy e => ?_⟩
    · subst e
      have := (h'.2 x hx).1
      have := up x (by simp [hy])
      omega
    · subst e
      rcases List.mem_append.1 hy with hy | hy
      · have := (h'.2 x hy).1
        have := up x (by simp [hx])
        omega
      · exact d1 x hx x (List.mem_append_right _ hy) rfl
  · rcases List.mem_append.1 hx with hx | hx
    · exact ⟨⟨(h.2 x (by simp [hx])).1.1, Nat.lt_of_lt_of_le (up x (by simp [hx])) hh⟩, hk x (by simp [hx])⟩
    · rcases List.mem_append.1 hx with hx | hx
      · exact ⟨⟨Nat.le_trans hlo (h'.2 x hx).1.1, (h'.2 x hx).1.2⟩, (h'.2 x hx).2⟩
      · exact ⟨⟨(h.2 x (by simp [hx])).1.1, Nat.lt_of_lt_of_le (up x (by simp [hx])) hh⟩, hk x (by simp [hx])⟩
theorem SL.tail {α : Type} {d : Kd α} {W : World} {g o n c : Nat} {x : α} {r : List α} {fp : List Nat} (h : SL d W (.slice (some ⟨g, o, none⟩) n c) (x :: r) fp) : ∃ f, SL d W (.slice (some ⟨g, o + d.sz, none⟩) r.length (c - 1)) r f ∧ ∀ b ∈ f, b ∈ fp := by
  obtain ⟨A', c', h0, h1, h2, h3⟩ := h
  injection h0 with e1 e2 e3
  subst e1 e2 e3
  simp only [List.length_cons] at h1
  rcases h3 with ⟨h3, _⟩ | ⟨g', o', cur, e, fr, f, hA, hg, rfl, cs, f1, f2, _, _, rfl, h4⟩
  · cases h3
  · injection hA with hA
    injection hA with a1 a2
    subst a1 a2
    exact ⟨g :: f2, ⟨_, _, rfl, by omega, by omega, .inr ⟨g, o + d.sz, cur, e, fr, f2, rfl, hg, rfl, h4⟩⟩, fun b hb => by
      rcases List.mem_cons.1 hb with rfl | hb
      · exact List.mem_cons_self
      · exact List.mem_cons_of_mem _ (List.mem_append_right _ hb)⟩
theorem MacP.alloc {w w' : World} {lo g : Nat} {S : List Nat} {m' : Mac} (h : MacP w lo g S m' w') (o : Obj) : MacP w lo g S m' (w'.alloc o) := by
  obtain ⟨S', h1, h2, h3⟩ := h
  exact ⟨S', h1.alloc o, h2.alloc o, h3⟩
theorem MacP.drew {w w' : World} {lo g : Nat} {S : List Nat} {m' : Mac} (h : MacP w lo g S m' w') : MacP w lo g S m' w'.drew := by
  obtain ⟨S', h1, h2, h3⟩ := h
  exact ⟨S', h1.drew, h2.drew, h3⟩
section
variable {W W1 : World} {lo : Nat} {m : Mac} {g : Nat} {A1 A2 A3 A4 A5 A6 : Option Addr} {c1 c2 c3 c4 c5 c6 : Nat} {f1 f2 f3 f4 f5 : List Nat}
theorem MacF.out {gq oq : Nat} (h : MacF W lo m g A1 c1 A2 c2 A3 c3 (some ⟨gq, oq, none⟩) c4 A5 c5 f1 f2 f3 [gq] f5) (b v : Int) (h0 : 0 ≤ b) (h1 : b < m.ports.length) : MacP W lo g (g :: (f1 ++ (f2 ++ (f3 ++ ([gq] ++ f5))))) { m with ports := m.ports.set b.toNat v } (W.setCell ⟨gq, oq + b.toNat, none⟩ (.int .i64 v)) := by
  obtain ⟨hg, _, h4, _⟩ := mac_ne h.own
  have hc := h4 gq (by simp)
  refine ⟨_, ⟨A1, c1, A2, c2, A3, c3, some ⟨gq, oq, none⟩, c4, A5, c5, f1, f2, f3, [gq], f5, ⟨?_, h.prog.setOther (by exact hc.1) _, h.cells.setOther (by exact hc.2.1) _, h.box.setOther (by exact hc.2.2.1) _, ?_, ownsRow_keep h.said (fun b hb => Below.heap_setCell _ _ _ _ (fun e => hc.2.2.2.1 (by rw [h.sblk]; exact (show gq = b from e.symm) ▸ hb))), h.sblk, ?_⟩, rfl⟩, (Kept.refl _ _).set (.inl (by simp)) _, fun b hb => .inl hb⟩
  · have := blk_set h.blk (oq + b.toNat) (.int .i64 v) (b' := gq) (fun e => hc.2.2.2.2 e.symm)
    simpa using this
  · have := (h.ports.setI b.toNat v (by omega)).1
    simpa using this
  · have := h.own.set gq (oq + b.toNat) (.int .i64 v)
    simpa using this
theorem MacF.rebox (h : MacF W lo m g A1 c1 A2 c2 A3 c3 A4 c4 A5 c5 f1 f2 f3 f4 f5) {r : List Int} {f6 : List Nat} (hb1 : Below W.heap.size W W1) (hn : SLn kI W.heap.size W1.heap.size (.slice A6 r.length c6) r f6 W1) : MacP W lo g (g :: (f1 ++ (f2 ++ (f3 ++ (f4 ++ f5))))) { m with p := { m.p with box := r } } (W1.setCell ⟨g, 4, none⟩ (.slice A6 r.length c6)) := by
  obtain ⟨hg, q2, q4, q5⟩ := mac_ne h.own
  have hlt := h.own.lt
  have hgl := hlt g (by simp)
  have keepB : ∀ b ∈ g :: (f1 ++ (f2 ++ (f3 ++ (f4 ++ f5)))), b ≠ g → (W1.setCell ⟨g, 4, none⟩ (.slice A6 r.length c6)).heap[b]? = W.heap[b]? := fun b hb hne => by
    rw [Below.heap_setCell W1 _ _ b hne]
    exact hb1.block b (hlt b hb)
  have d1 : ∀ b ∈ f1, b ≠ g := fun b hb e => hg.1 (e ▸ hb)
  have d2 : ∀ b ∈ f2, b ≠ g := fun b hb e => hg.2.1 (e ▸ hb)
  have d4 : ∀ b ∈ f4, b ≠ g := fun b hb e => hg.2.2.2.1 (e ▸ hb)
  have d5 : ∀ b ∈ f5, b ≠ g := fun b hb e => hg.2.2.2.2 (e ▸ hb)
  have hg1 := (hb1.block g hgl).trans h.blk
  have hn6 : g ∉ f6 := fun hm => by have := (hn.2.2 g hm).1.1; omega
  refine ⟨_, ⟨A1, c1, A2, c2, A6, c6, A4, c4, A5, c5, f1, f2, f6, f4, f5, ⟨?_, h.prog.keep (fun b hb => keepB b (by simp [hb]) (d1 b hb)), h.cells.keep (fun b hb => keepB b (by simp [hb]) (d2 b hb)), hn.1.setOther (by exact hn6) _, h.ports.keep (fun b hb => keepB b (by simp [hb]) (d4 b hb)), ownsRow_keep h.said (fun b hb => keepB b (by rw [h.sblk]; simp only [List.mem_cons, List.mem_append]; exact .inr (.inr (.inr (.inr (.inr hb))))) (d5 b (by rw [h.sblk]; exact hb))), h.sblk, ?_⟩, rfl⟩, ((Kept.of_below hb1 _).set (.inl (by simp)) _), ?_⟩
  · have := blk_put hg1 4 (.slice A6 r.length c6)
    simpa using this
  · have h3 : Own W lo W.heap.size ((g :: (f1 ++ f2)) ++ (f3 ++ (f4 ++ f5))) := by have := h.own; simpa using this
    have h4 := own_swap (W' := W1.setCell ⟨g, 4, none⟩ (.slice A6 r.length c6)) h3 (hn.2.set g 4 (.slice A6 r.length c6)) (Nat.le_refl _) (fun x hx => by
      by_cases e : x = g
      · subst e
        exact ⟨_, _, blk_put hg1 4 _⟩
      · have hx' : x ∈ g :: (f1 ++ (f2 ++ (f3 ++ (f4 ++ f5)))) := by simp only [List.mem_cons, List.mem_append] at hx ⊢; rcases hx with (hx | hx | hx) | hx | hx <;> simp [hx]
        obtain ⟨_, cur, e', h5⟩ := h.own.2 x hx'
        exact ⟨cur, e', by rw [keepB x hx' e]; exact h5⟩) hb1.size (by have := (h.own.2 g (by simp)).1; omega)
    simpa using h4
  · intro b hb
    simp only [List.mem_cons, List.mem_append] at hb ⊢
    rcases hb with hb | hb | hb | hb | hb | hb
    · exact .inl (.inl hb)
    · exact .inl (.inr (.inl hb))
    · exact .inl (.inr (.inr (.inl hb)))
    · exact .inr (hn.2.2 b hb).1.1
    · exact .inl (.inr (.inr (.inr (.inr (.inl hb)))))
    · exact .inl (.inr (.inr (.inr (.inr (.inr hb)))))
end
set_option maxHeartbeats 1000000
set_option maxRecDepth 100000
theorem op8_c (m : Mac) (lo g : Nat) (S : List Nat) (d a b : Int) (w : World) (h : MacR w lo m g S) (hl : m.p.cells.length = 8) (h0 : 0 ≤ a) (h1 : a < 8) (hp : m.ports.length = 4) (hb0 : 0 ≤ b) (hb1 : b < 4) : Calls Try.prog 72 #[.pointer (some ⟨g, 0, none⟩), .agg #[.int .i64 d, .int .i64 a, .int .i64 b]] w (OpP w lo g S { m with ports := m.ports.set b.toNat (m.cell a) }) := by
  have h' := Lib.hid (h.alloc (.cells #[.int .i64 d, .int .i64 a, .int .i64 b] 44)).drew
  have c1 := Lib.hid (fun w h => cell_c m lo g S a w h hl h0 h1)
  obtain ⟨x, hx⟩ : ∃ x, m.cell a = x := ⟨_, rfl⟩
  rw [hx] at c1 ⊢
  clear hx
  obtain ⟨A1, c1', A2, c2, A3, c3, A4, c4, A5, c5, f1, f2, f3, f4, f5, h2, rfl⟩ := h
  obtain ⟨gq, oq, rfl, rfl, k1⟩ := cell_of h2.ports hb0 (by omega)
  have hgl : g < w.heap.size := h2.own.lt g (by simp)
  have hql : gq < w.heap.size := h2.own.lt gq (by simp)
  have k0 : w.cell? ⟨g, 5, none⟩ = some (.slice (some ⟨gq, oq, none⟩) 4 c4) := by
    rw [← hp, blk_cell h2.blk]
    rfl
  obtain ⟨cur, e', hq⟩ := (h2.own.2 gq (by simp)).2
  have z1 : w.frozen? ⟨gq, oq + b.toNat, none⟩ = false := blk_frozen hq _
  have he := Lib.hid ((h2.out b x hb0 (by omega)).alloc (.cells #[.int .i64 d, .int .i64 a, .int .i64 b] 44)).drew
  have hb2 : b < ((4 : Nat) : Int) := by omega
  clear h2 hq
  replace hp := Lib.hid hp
  replace hl := Lib.hid hl
  go_enter Try.func72, Try.ntmps72
  go_wp2_with fail
  refine wp_region_still_tail 11 (by kernel_rfl) (by kernel_rfl) ?_
  simp only [List.take_succ_cons, List.take_zero, List.drop_succ_cons, List.drop_zero]
  change wpStill _ _ (World.drew (w.alloc (.cells #[.int .i64 d, .int .i64 a, .int .i64 b] 44))) _ _ _
  repeat still_step
  still_call (still_of (c1.out _ h'.out))
  repeat still_step
  refine wpStill_nil ?_
  change wpList _ _ _ _ _ (w.alloc (.cells #[.int .i64 d, .int .i64 a, .int .i64 b] 44)).drew
  go_wp2_with fail
  go_end0
  exact ⟨rfl, he.out⟩
theorem op9_c (m : Mac) (lo g : Nat) (S : List Nat) (d a b : Int) (w : World) (h : MacR w lo m g S) (hl : m.p.cells.length = 8) (h0 : 0 ≤ a) (h1 : a < 8) (hp : m.ports.length = 4) (hb0 : 0 ≤ b) (hb1 : b < 4) (hv : ∀ x ∈ m.ports, 0 ≤ x ∧ x ≤ 9999) : Calls Try.prog 73 #[.pointer (some ⟨g, 0, none⟩), .agg #[.int .i64 d, .int .i64 a, .int .i64 b]] w (OpP w lo g S (m.put a (m.ports.getD b.toNat 0))) := by
  have h' := Lib.hid (h.alloc (.cells #[.int .i64 d, .int .i64 a, .int .i64 b] 44)).drew
  obtain ⟨A1, c1', A2, c2, A3, c3, A4, c4, A5, c5, f1, f2, f3, f4, f5, h2, rfl⟩ := h
  obtain ⟨gq, oq, rfl, rfl, k1⟩ := cell_of h2.ports hb0 (by omega)
  have hx : m.ports.getD b.toNat 0 ∈ m.ports := by
    rw [List.getD_eq_getElem?_getD, List.getElem?_eq_getElem (by omega)]
    exact List.getElem_mem _
  have hgl : g < w.heap.size := h2.own.lt g (by simp)
  have hql : gq < w.heap.size := h2.own.lt gq (by simp)
  obtain ⟨x, hx'⟩ : ∃ x, m.ports.getD b.toNat 0 = x := ⟨_, rfl⟩
  rw [hx'] at hx k1 ⊢
  obtain ⟨x0, x1⟩ := hv x hx
  have k0 : w.cell? ⟨g, 5, none⟩ = some (.slice (some ⟨gq, oq, none⟩) 4 c4) := by
    rw [← hp, blk_cell h2.blk]
    rfl
  have hb2 : b < ((4 : Nat) : Int) := by omega
  clear h2 hx hx' hv
  replace hp := Lib.hid hp
  replace hl := Lib.hid hl
  go_enter Try.func73, Try.ntmps73
  go_wp2_with fail
  refine wp_region_still_tail 11 (by kernel_rfl) (by kernel_rfl) ?_
  simp only [List.take_succ_cons, List.take_zero, List.drop_succ_cons, List.drop_zero]
  change wpStill _ _ (World.drew (w.alloc (.cells #[.int .i64 d, .int .i64 a, .int .i64 b] 44))) _ _ _
  repeat still_step
  refine wpStill_nil ?_
  change wpList _ _ _ _ _ (w.alloc (.cells #[.int .i64 d, .int .i64 a, .int .i64 b] 44)).drew
  go_wp2_with fail
  refine (put_c m lo g _ a x _ h'.out hl.out h0 h1 x0 (by omega)).mono ?_
  rintro e w1 ⟨rfl, h9⟩
  have he := h9.boxd
  clear h9
  go_wp2_with fail
  go_end0
  exact ⟨rfl, he⟩
theorem op5j_c (m : Mac) (lo g : Nat) (S : List Nat) (d a b : Int) (w : World) (h : MacR w lo m g S) (hl : m.p.cells.length = 8) (h0 : 0 ≤ a) (h1 : a < 8) : Calls Try.prog 67 #[.pointer (some ⟨g, 0, none⟩), .agg #[.int .i64 d, .int .i64 a, .int .i64 b]] w (OpP w lo g S (if m.cell a > 0 then { m with next := b, jumps := true } else m)) := by
  have h' := Lib.hid (h.alloc (.cells #[.int .i64 d, .int .i64 a, .int .i64 b] 44))
  have c1 := Lib.hid (fun w h => cell_c m lo g S a w h hl h0 h1)
  obtain ⟨x, hx⟩ : ∃ x, m.cell a = x := ⟨_, rfl⟩
  rw [hx] at c1 ⊢
  clear hx
  obtain ⟨A1, c1', A2, c2, A3, c3, A4, c4, A5, c5, f1, f2, f3, f4, f5, h2, rfl⟩ := h
  have hgl : g < w.heap.size := h2.own.lt g (by simp)
  have k0 := fun o => blk_cell h2.blk o
  have z0 := fun o => blk_frozen h2.blk o
  by_cases hx : x > 0
  · rw [if_pos hx]
    have he1 := h2.poke 8 (.int .i64 b) { m with next := b } rfl rfl rfl rfl rfl (by rfl)
    have he2 := he1.poke 9 (.bool true) { m with next := b, jumps := true } rfl rfl rfl rfl rfl (by rfl)
    have he : MacP w lo g (g :: (f1 ++ (f2 ++ (f3 ++ (f4 ++ f5))))) { m with next := b, jumps := true } (((w.setCell ⟨g, 8, none⟩ (.int .i64 b)).setCell ⟨g, 9, none⟩ (.bool true)).alloc (.cells #[.int .i64 d, .int .i64 a, .int .i64 b] 44)) := MacP.alloc ⟨_, he2.P, ((Kept.refl _ _).set (.inl (by simp)) _).set (.inl (by simp)) _, fun b hb => .inl hb⟩ _
    replace he := Lib.hid he
    clear he1 he2 h2 hl
    go_enter Try.func67, Try.ntmps67
    go_wp2_with fail
    refine (c1.out _ h'.out).mono ?_
    rintro e w1 ⟨rfl, rfl⟩
    go_wp2_with fail
    go_end0
    exact ⟨rfl, he.out⟩
  · rw [if_neg hx]
    have he := Lib.hid ((MacP.refl h2.P).alloc (.cells #[.int .i64 d, .int .i64 a, .int .i64 b] 44))
    clear h2 hl
    go_enter Try.func67, Try.ntmps67
    go_wp2_with fail
    refine (c1.out _ h'.out).mono ?_
    rintro e w1 ⟨rfl, rfl⟩
    go_wp2_with fail
    go_end0
    exact ⟨rfl, he.out⟩
theorem op12_c (m : Mac) (lo g : Nat) (S : List Nat) (d a b : Int) (w : World) (h : MacR w lo m g S) (hl : m.p.cells.length = 8) (h0 : 0 ≤ a) (h1 : a < 8) (hx : m.p.box.length ≤ 100) (hv : ∀ x ∈ m.p.box, 0 ≤ x ∧ x ≤ 9999) : Calls Try.prog 75 #[.pointer (some ⟨g, 0, none⟩), .agg #[.int .i64 d, .int .i64 a, .int .i64 b]] w (OpP w lo g S (match m.p.box with | [] => m.put a 0 | x :: r => { m with p := { m.p with box := r } }.put a x)) := by
  have h' := Lib.hid (h.alloc (.cells #[.int .i64 d, .int .i64 a, .int .i64 b] 44))
  obtain ⟨A1, c1', A2, c2, A3, c3, A4, c4, A5, c5, f1, f2, f3, f4, f5, h2, rfl⟩ := h
  have hgl : g < w.heap.size := h2.own.lt g (by simp)
  have k0 := fun o => blk_cell h2.blk o
  have z0 := fun o => blk_frozen h2.blk o
  have hS := Lib.hid h2
  cases hbx : m.p.box with
  | nil =>
    rw [hbx] at k0
    clear h2 hv hx
    replace hbx := Lib.hid hbx
    replace hl := Lib.hid hl
    go_enter Try.func75, Try.ntmps75
    go_wp2_with fail
    refine (put_c m lo g _ a 0 _ h'.out hl.out h0 h1 (by omega) (by omega)).mono ?_
    rintro e w1 ⟨rfl, h9⟩
    have he := h9.box
    clear h9
    go_wp2_with fail
    go_end0
    exact ⟨rfl, he⟩
  | cons x r =>
    have hbox := h2.box
    rw [hbx] at k0 hbox hv
    obtain ⟨x0, x1⟩ := hv x (by simp)
    obtain ⟨y, gb, ob, cs, f, q1, rfl, _, q2, _, q3⟩ := hbox.get (i := 0) (by simp)
    have q4 := q3 0 (by decide)
    rw [q2.1] at q4
    simp only [List.getElem?_cons_zero, Option.some.injEq] at q1
    subst q1
    simp only [Nat.zero_mul, Nat.add_zero, encI, List.getElem?_cons_zero] at q4
    have hgb : gb < w.heap.size := World.block_lt_of_cell? w _ q4
    obtain ⟨f6, hr, hrf⟩ := hbox.tail
    have hr' := Lib.hid hr.has
    have hc3 : r.length + 1 ≤ c3 := by
      obtain ⟨_, _, e1, e2, _⟩ := hbox.form
      injection e1 with _ _ e3
      subst e3
      simpa using e2
    have hrl : r.length ≤ 10000000 := by rw [hbx] at hx; simp at hx; omega
    obtain ⟨n, hn⟩ : ∃ n, n = r.length := ⟨_, rfl⟩
    simp only [List.length_cons] at k0
    rw [← hn] at k0 hr' hc3
    clear h2 hv hx hbox q2 q3 hr hrf
    replace hbx := Lib.hid hbx
    replace hl := Lib.hid hl
    replace hn := Lib.hid hn
    have hy := Nat.lt_succ_self w.heap.size
    by_cases hq1 : c3 = 1
    · have hz : ∀ W, SL kI W (.slice (some ⟨gb, ob, none⟩) n 0) r [] := fun W => by
        have hn0 : n = 0 := by omega
        have hr0 : r = [] := List.eq_nil_of_length_eq_zero (by rw [← hn.out]; exact hn0)
        rw [hn0, hr0]
        exact ⟨some ⟨gb, ob, none⟩, 0, rfl, Nat.le_refl _, by omega, .inl ⟨rfl, rfl⟩⟩
      replace hz := Lib.hid hz
      go_enter Try.func75, Try.ntmps75
      go_wp2_with fail
      refine (cloneI_c _ _ _ _ (hz.out _) hrl).mono ?_
      rintro e w1 ⟨U1, d1, g1, rfl, hs1, hB1⟩
      obtain ⟨hc1, hf1⟩ := bcell hB1
      have hz1 := hB1.size
      (try simp only [World.size_alloc, World.size_setCell, World.size_drew] at hz1)
      have hn1 := hs1.get
      have hBw : Below w.heap.size w w1 := (by repeat (first | (with_reducible exact Below.refl _ _) | (with_reducible assumption) | (with_reducible refine Below.drew ?_) | (with_reducible refine below_drewN' ?_ _) | (with_reducible refine Below.setCell ?_ (by first | (simp; done) | (simp; omega) | omega) _) | (with_reducible refine Below.alloc ?_ (by first | (simp; done) | (simp; omega) | omega) _) | (with_reducible refine Below.trans ?_ (Below.mono (by assumption) (by first | (simp; done) | (simp; omega) | omega)))))
      have k1 := (hBw.cell (p := ⟨g, 4, none⟩) hgl).trans (k0 4)
      have z1 := (hBw.frozen (p := ⟨g, 4, none⟩) hgl).trans (z0 4)
      have hF := hS.out.rebox (r := r) (A6 := U1) (c6 := d1) (f6 := g1) hBw ⟨hn1.1, hn1.2.mono (by first | (simp; done) | (simp; omega) | omega) (Nat.le_refl _)⟩
      obtain ⟨S1, hM, hK, hS1⟩ := hF
      have hM' := Lib.hid hM
      have hK' := Lib.hid hK
      have hS1' := Lib.hid hS1
      have hw1 : w.heap.size < w1.heap.size := by omega
      clear hM hK hS1 hs1 hn1
      go_wp2_with fail
      refine (put_c _ lo g S1 a x _ hM'.out (by exact hl.out) h0 h1 x0 (by omega)).mono ?_
      rintro e w3 ⟨rfl, h9⟩
      have he := MacP.trans hK'.out hS1'.out h9
      clear h9
      go_wp2_with fail
      go_end0
      exact ⟨rfl, he⟩
    · go_enter Try.func75, Try.ntmps75
      go_wp2_with fail
      refine (cloneI_c _ _ _ _ (hr'.out.at (by repeat (first | (with_reducible exact Btw.refl _ _ _) | (with_reducible assumption) | (with_reducible refine Btw.drew ?_) | (with_reducible refine Btw.drewN ?_ _) | (with_reducible refine Btw.setCell ?_ (by first | (simp; done) | (simp; omega) | omega) _) | (with_reducible refine Btw.alloc ?_ (by first | (simp; done) | (simp; omega) | omega) _) | (with_reducible refine Btw.trans ?_ (Btw.of_below (by assumption) (by first | (simp; done) | (simp; omega) | omega)))))) hrl).mono ?_
      rintro e w1 ⟨U1, d1, g1, rfl, hs1, hB1⟩
      obtain ⟨hc1, hf1⟩ := bcell hB1
      have hz1 := hB1.size
      (try simp only [World.size_alloc, World.size_setCell, World.size_drew] at hz1)
      have hn1 := hs1.get
      have hBw : Below w.heap.size w w1 := (by repeat (first | (with_reducible exact Below.refl _ _) | (with_reducible assumption) | (with_reducible refine Below.drew ?_) | (with_reducible refine below_drewN' ?_ _) | (with_reducible refine Below.setCell ?_ (by first | (simp; done) | (simp; omega) | omega) _) | (with_reducible refine Below.alloc ?_ (by first | (simp; done) | (simp; omega) | omega) _) | (with_reducible refine Below.trans ?_ (Below.mono (by assumption) (by first | (simp; done) | (simp; omega) | omega)))))
      have k1 := (hBw.cell (p := ⟨g, 4, none⟩) hgl).trans (k0 4)
      have z1 := (hBw.frozen (p := ⟨g, 4, none⟩) hgl).trans (z0 4)
      have hF := hS.out.rebox (r := r) (A6 := U1) (c6 := d1) (f6 := g1) hBw ⟨hn1.1, hn1.2.mono (by first | (simp; done) | (simp; omega) | omega) (Nat.le_refl _)⟩
      obtain ⟨S1, hM, hK, hS1⟩ := hF
      have hM' := Lib.hid hM
      have hK' := Lib.hid hK
      have hS1' := Lib.hid hS1
      have hw1 : w.heap.size < w1.heap.size := by omega
      clear hM hK hS1 hs1 hn1
      go_wp2_with fail
      refine (put_c _ lo g S1 a x _ hM'.out (by exact hl.out) h0 h1 x0 (by omega)).mono ?_
      rintro e w3 ⟨rfl, h9⟩
      have he := MacP.trans hK'.out hS1'.out h9
      clear h9
      go_wp2_with fail
      go_end0
      exact ⟨rfl, he⟩
theorem op13_c (m : Mac) (lo g : Nat) (S : List Nat) (d a b : Int) (w : World) (h : MacR w lo m g S) (hl : m.p.cells.length = 8) (h0 : 0 ≤ a) (h1 : a < 8) (hb0 : 0 ≤ b) (hb1 : b < 8) (hc : ∀ i, 0 ≤ m.cell i ∧ m.cell i ≤ 9999) (hf : m.cell b < 8) : Calls Try.prog 76 #[.pointer (some ⟨g, 0, none⟩), .agg #[.int .i64 d, .int .i64 a, .int .i64 b]] w (OpP w lo g S (m.put a (m.cell (m.cell b)))) := by
  have h' := Lib.hid (h.alloc (.cells #[.int .i64 d, .int .i64 a, .int .i64 b] 44)).drew
  replace hl := Lib.hid hl
  have cb := hc b
  have cc := hc (m.cell b)
  obtain ⟨x, hx⟩ : ∃ x, m.cell b = x := ⟨_, rfl⟩
  rw [hx] at cb cc hf ⊢
  obtain ⟨cb0, cb1⟩ := cb
  have c1 := Lib.hid (fun w h => cell_c m lo g S b w h hl.out hb0 hb1)
  have c2 := Lib.hid (fun w h => cell_c m lo g S x w h hl.out cb0 hf)
  rw [hx] at c1
  obtain ⟨y, hy⟩ : ∃ y, m.cell x = y := ⟨_, rfl⟩
  rw [hy] at c2 cc ⊢
  obtain ⟨cc0, cc1⟩ := cc
  clear h hc hx hy
  go_enter Try.func76, Try.ntmps76
  go_wp2_with fail
  refine wp_region_still_tail 9 (by kernel_rfl) (by kernel_rfl) ?_
  simp only [List.take_succ_cons, List.take_zero, List.drop_succ_cons, List.drop_zero]
  change wpStill _ _ (World.drew (w.alloc (.cells #[.int .i64 d, .int .i64 a, .int .i64 b] 44))) _ _ _
  repeat still_step
  still_call (still_of (c1.out _ h'.out))
  repeat still_step
  still_call (still_of (c2.out _ h'.out))
  repeat still_step
  refine wpStill_nil ?_
  change wpList _ _ _ _ _ (w.alloc (.cells #[.int .i64 d, .int .i64 a, .int .i64 b] 44)).drew
  go_wp2_with fail
  refine (put_c m lo g S a y _ h'.out hl.out h0 h1 cc0 (by omega)).mono ?_
  rintro e w1 ⟨rfl, h9⟩
  have he := h9.boxd
  clear h9
  go_wp2_with fail
  go_end0
  exact ⟨rfl, he⟩
theorem list_len10_P9 : ∀ (l : List Value), l.length = 10 → ∃ x0 x1 x2 x3 x4 x5 x6 x7 x8 x9, l = x0 :: x1 :: x2 :: x3 :: x4 :: x5 :: x6 :: x7 :: x8 :: x9 :: []
  | x0 :: x1 :: x2 :: x3 :: x4 :: x5 :: x6 :: x7 :: x8 :: x9 :: [], _ => ⟨x0, x1, x2, x3, x4, x5, x6, x7, x8, x9, rfl⟩

theorem op13f_c (m : Mac) (lo g : Nat) (S : List Nat) (d a b : Int) (w : World) (h : MacR w lo m g S) (hl : m.p.cells.length = 8) (h0 : 0 ≤ a) (h1 : a < 8) (hb0 : 0 ≤ b) (hb1 : b < 8) (hfar : 8 ≤ m.cell b) : Calls Try.prog 76 #[.pointer (some ⟨g, 0, none⟩), .agg #[.int .i64 d, .int .i64 a, .int .i64 b]] w fun e w' => ∃ x, e = .panicked [{ v := .iface 90 (.agg #[.int .i64 x]), recovered := false }] ∧ w' = (w.alloc (.cells #[.int .i64 d, .int .i64 a, .int .i64 b] 44)).drew := by
  have h' := Lib.hid (h.alloc (.cells #[.int .i64 d, .int .i64 a, .int .i64 b] 44)).drew
  have c1 := Lib.hid (fun w h => cell_c m lo g S b w h hl hb0 hb1)
  obtain ⟨x, hx⟩ : ∃ x, m.cell b = x := ⟨_, rfl⟩
  rw [hx] at hfar c1
  clear h hl hx
  go_enter Try.func76, Try.ntmps76
  go_wp2_with fail
  apply region_invP (PQ := fun c W => c = [{ v := .iface 90 (.agg #[.int .i64 x]), recovered := false }] ∧ W = (w.alloc (.cells #[.int .i64 d, .int .i64 a, .int .i64 b] 44)).drew) (VV [IsV _, IsV _, IsV _, IsV _, IsV _, IsV _, IsV _, IsV _, (fun _ _ => False), (AnyV)]) (fun _ W => W = (w.alloc (.cells #[.int .i64 d, .int .i64 a, .int .i64 b] 44)).drew) (fun _ _ => True) (by kernel_rfl) 14 rfl (by kernel_rfl)
  case hp =>
    rintro c a' W hd ⟨rfl, rfl⟩
    exact ⟨hd.trans rfl, _, rfl, rfl⟩
  case h0 =>
    rfl
  case hsteps =>
    refine ⟨?_, ?_, ?_, ?_, ?_, ?_, ?_, ?_, ?_, ?_, trivial⟩
    · refine stepOKP_of _ [0] rfl (by kernel_rfl) ?_ rfl
      intro t ρ W ht hc hf hn ho hI
      clear hn
      have s0 := ho.1
      simp only [Array.getD_eq_getD_getElem?] at s0
      clear ho
      have hI' := Lib.hid hI
      clear hI'
      subst hI
      go_simp
      exact post_mk (rfl) (trivial) rfl
    · refine stepOKP_of _ [3] rfl (by kernel_rfl) ?_ rfl
      intro t ρ W ht hc hf hn ho hI
      clear hn
      have s3 := ho.1
      simp only [Array.getD_eq_getD_getElem?] at s3
      clear ho
      have hI' := Lib.hid hI
      clear hI'
      subst hI
      go_simp
      exact post_mk (rfl) (trivial) rfl
    · refine stepOKP_of _ [] rfl (by kernel_rfl) ?_ rfl
      intro t ρ W ht hc hf hn ho hI
      obtain ⟨u1, q1, s5⟩ := hn.1
      clear hn
      have q1 : u1 = _ := q1
      subst q1
      have s5 : ρ (.tmp 5) = _ := s5
      clear ho
      have hI' := Lib.hid hI
      clear hI'
      subst hI
      go_simp
      exact post_mk (rfl) (trivial) rfl
    · refine stepOKP_of _ [0] rfl (by kernel_rfl) ?_ rfl
      intro t ρ W ht hc hf hn ho hI
      clear hn
      have s0 := ho.1
      simp only [Array.getD_eq_getD_getElem?] at s0
      clear ho
      have hI' := Lib.hid hI
      clear hI'
      subst hI
      go_simp
      exact post_mk (rfl) (trivial) rfl
    · refine stepOKP_of _ [0] rfl (by kernel_rfl) ?_ rfl
      intro t ρ W ht hc hf hn ho hI
      clear hn
      have s0 := ho.1
      simp only [Array.getD_eq_getD_getElem?] at s0
      clear ho
      have hI' := Lib.hid hI
      clear hI'
      subst hI
      go_simp
      exact post_mk (rfl) (trivial) rfl
    · refine stepOKP_of _ [3] rfl (by kernel_rfl) ?_ rfl
      intro t ρ W ht hc hf hn ho hI
      clear hn
      have s3 := ho.1
      simp only [Array.getD_eq_getD_getElem?] at s3
      clear ho
      have hI' := Lib.hid hI
      clear hI'
      subst hI
      go_simp
      exact post_mk (rfl) (trivial) rfl
    · refine stepOKP_of _ [] rfl (by kernel_rfl) ?_ rfl
      intro t ρ W ht hc hf hn ho hI
      obtain ⟨u5, q5, s9⟩ := hn.1
      clear hn
      have q5 : u5 = _ := q5
      subst q5
      have s9 : ρ (.tmp 9) = _ := s9
      clear ho
      have hI' := Lib.hid hI
      clear hI'
      subst hI
      go_simp
      exact post_mk (rfl) (trivial) rfl
    · refine stepOKP_of _ [] rfl (by kernel_rfl) ?_ rfl
      intro t ρ W ht hc hf hn ho hI
      obtain ⟨u4, q4, s8⟩ := hn.1
      obtain ⟨u6, q6, s10⟩ := hn.2.1
      clear hn
      have q4 : u4 = _ := q4
      subst q4
      have s8 : ρ (.tmp 8) = _ := s8
      have q6 : u6 = _ := q6
      subst q6
      have s10 : ρ (.tmp 10) = _ := s10
      clear ho
      have hI' := Lib.hid hI
      clear hI'
      subst hI
      go_simp
      refine (c1.out _ h'.out).mono ?_
      rintro e W2 ⟨rfl, rfl⟩
      exact .inl (endp_mk (post_mk rfl trivial rfl))
    · refine stepOKP_of _ [] rfl (by kernel_rfl) ?_ rfl
      intro t ρ W ht hc hf hn ho hI
      obtain ⟨u3, q3, s7⟩ := hn.1
      obtain ⟨u7, q7, s11⟩ := hn.2.1
      clear hn
      have q3 : u3 = _ := q3
      subst q3
      have s7 : ρ (.tmp 7) = _ := s7
      have q7 : u7 = _ := q7
      subst q7
      have s11 : ρ (.tmp 11) = _ := s11
      clear ho
      have hI' := Lib.hid hI
      clear hI'
      subst hI
      go_simp
      refine (far_c g x _ hfar).mono ?_
      rintro e W2 ⟨rfl, rfl⟩
      exact .inr ⟨_, rfl, rfl, rfl⟩
    · refine stepOKP_of _ [] rfl (by kernel_rfl) ?_ rfl
      intro t ρ W ht hc hf hn ho hI
      obtain ⟨_, h, _⟩ := hn.2.2.1
      exact h.elim
  case hst => exact vv_stable ⟨isV_st, isV_st, isV_st, isV_st, isV_st, isV_st, isV_st, isV_st, fun _ _ _ _ h => h, fun _ _ _ _ h => h, trivial⟩
  intro vs W hlen hI hV
  obtain ⟨x0, x1, x2, x3, x4, x5, x6, x7, x8, x9, rfl⟩ := list_len10_P9 vs hlen
  have y0 : x0 = _ := hV 0 _ rfl
  subst y0
  have y1 : x1 = _ := hV 1 _ rfl
  subst y1
  have y2 : x2 = _ := hV 2 _ rfl
  subst y2
  have y3 : x3 = _ := hV 3 _ rfl
  subst y3
  have y4 : x4 = _ := hV 4 _ rfl
  subst y4
  have y5 : x5 = _ := hV 5 _ rfl
  subst y5
  have y6 : x6 = _ := hV 6 _ rfl
  subst y6
  have y7 : x7 = _ := hV 7 _ rfl
  subst y7
  have y8 := hV 8 _ rfl
  have y9 := hV 9 _ rfl
  clear hV hlen
  simp only [Exit.then, putAll, Act.put, List.setIfInBounds_toArray, List.set_cons_zero, List.set_cons_succ]
  exact y8.elim
end Go.Proofs.Ytkphkkfgphhjcaa
