/- What each op does. -/
import Derived.Test.YtkphkkfgphhjcaaP7
import Derived.Test.YtkphkkfgphhjcaaR2
import Derived.StillTailTactics
namespace Go.Proofs.Ytkphkkfgphhjcaa
open Go.RowKit
set_option linter.unusedSimpArgs false
set_option linter.unusedVariables false

theorem MacR.alloc {W : World} {lo g : Nat} {m : Mac} {S : List Nat} (h : MacR W lo m g S) (o : Obj) : MacR (W.alloc o) lo m g S := h.keep (fun b hb => Below.heap_alloc W o b (h.own.lt b hb)) (by simp)
theorem MacR.drew {W : World} {lo g : Nat} {m : Mac} {S : List Nat} (h : MacR W lo m g S) : MacR W.drew lo m g S := h.keep (fun b hb => rfl) (Nat.le_refl _)
theorem still_of {P : Program} {f : FuncId} {args : Array Value} {w : World} {v : Value} (h : Calls P f args w fun e w' => e = .returned v ∧ w = w') : Calls P f args w fun e w' => e = .returned v ∧ w' = w := h.mono fun _ _ hh => ⟨hh.1, hh.2.symm⟩
/-- Kit's law, the draw in the walk's own words. -/
theorem still_tail {P : Program} {id : Nat} {Q : Exit → Act → World → Prop} {a : Act} {w : World} {l : List Oper} (n : Nat) (hm : P.follows .mixedOrders = true) (hB : Region.lexTailB .any l.toArray n = true) (h : wpStill P l.toArray w.drew (fun a' => wpList P l.toArray Q (l.drop n) a' w.drew) (l.take n) a) : (Code.region id l.toArray true).wp P Q a w := wp_region_still_tail n hm hB h
def OpP (w : World) (lo g : Nat) (S : List Nat) (m' : Mac) (e : Ending) (w' : World) : Prop := e = .returned (.tuple #[]) ∧ MacP w lo g S m' w'
theorem MacP.box {w w' : World} {lo g : Nat} {S : List Nat} {m' : Mac} {o : Obj} (h : MacP (w.alloc o) lo g S m' w') : MacP w lo g S m' w' := MacP.trans ((Kept.refl _ _).alloc o) (fun b hb => .inl hb) h
theorem MacP.boxd {w w' : World} {lo g : Nat} {S : List Nat} {m' : Mac} {o : Obj} (h : MacP (w.alloc o).drew lo g S m' w') : MacP w lo g S m' w' := MacP.trans ((Kept.refl _ _).alloc o).drew (fun b hb => .inl hb) h
set_option maxHeartbeats 1000000
set_option maxRecDepth 100000
theorem op1_c (m : Mac) (lo g : Nat) (S : List Nat) (d a b : Int) (w : World) (h : MacR w lo m g S) (hl : m.p.cells.length = 8) (h0 : 0 ≤ a) (h1 : a < 8) (hb0 : 0 ≤ b) (hb1 : b ≤ 9999) : Calls Try.prog 61 #[.pointer (some ⟨g, 0, none⟩), .agg #[.int .i64 d, .int .i64 a, .int .i64 b]] w (OpP w lo g S (m.put a b)) := by
  have h' := Lib.hid (h.alloc (.cells #[.int .i64 d, .int .i64 a, .int .i64 b] 44))
  replace hl := Lib.hid hl
  clear h
  go_enter Try.func61, Try.ntmps61
  go_wp2_with fail
  refine (put_c m lo g S a b _ h'.out hl.out h0 h1 hb0 (by omega)).mono ?_
  rintro e w1 ⟨rfl, h9⟩
  have he := h9.box
  clear h9
  go_wp2_with fail
  go_end0
  exact ⟨rfl, he⟩
theorem op2_c (m : Mac) (lo g : Nat) (S : List Nat) (d a b : Int) (w : World) (h : MacR w lo m g S) (hl : m.p.cells.length = 8) (h0 : 0 ≤ a) (h1 : a < 8) (hb0 : 0 ≤ b) (hb1 : b < 8) (hc : ∀ i, 0 ≤ m.cell i ∧ m.cell i ≤ 9999) : Calls Try.prog 63 #[.pointer (some ⟨g, 0, none⟩), .agg #[.int .i64 d, .int .i64 a, .int .i64 b]] w (OpP w lo g S (m.put a (m.cell a + m.cell b))) := by
  have h' := Lib.hid (h.alloc (.cells #[.int .i64 d, .int .i64 a, .int .i64 b] 44)).drew
  replace hl := Lib.hid hl
  have ca := hc a
  have cb := hc b
  obtain ⟨x, hx⟩ : ∃ x, m.cell a = x := ⟨_, rfl⟩
  obtain ⟨y, hy⟩ : ∃ x, m.cell b = x := ⟨_, rfl⟩
  have c1 := Lib.hid (fun w h => cell_c m lo g S a w h hl.out h0 h1)
  have c2 := Lib.hid (fun w h => cell_c m lo g S b w h hl.out hb0 hb1)
  rw [hx] at ca c1 ⊢
  rw [hy] at cb c2 ⊢
  obtain ⟨ca0, ca1⟩ := ca
  obtain ⟨cb0, cb1⟩ := cb
  clear h hc hx hy
  go_enter Try.func63, Try.ntmps63
  go_wp2_with fail
  refine wp_region_still_tail 12 (by kernel_rfl) (by kernel_rfl) ?_
  simp only [List.take_succ_cons, List.take_zero, List.drop_succ_cons, List.drop_zero]
  change wpStill _ _ (World.drew (w.alloc (.cells #[.int .i64 d, .int .i64 a, .int .i64 b] 44))) _ _ _
  repeat still_step
  still_call (still_of (c1.out _ h'.out))
  repeat still_step
  still_call (still_of (c2.out _ h'.out))
  repeat still_step
  refine wpStill_nil ?_
  change wpList _ _ _ _ _ (w.alloc (.cells #[.int .i64 d, .int .i64 a, .int .i64 b] 44)).drew
  go_wp2_with fail
  rw [show IntKind.i64.wrap (x + y) = x + y from wr (by omega) (by omega)]
  refine (put_c m lo g S a (x + y) _ h'.out hl.out h0 h1 (by omega) (by omega)).mono ?_
  rintro e w1 ⟨rfl, h9⟩
  have he := h9.boxd
  clear h9
  go_wp2_with fail
  go_end0
  exact ⟨rfl, he⟩
theorem op3_c (m : Mac) (lo g : Nat) (S : List Nat) (d a b : Int) (w : World) (h : MacR w lo m g S) (hl : m.p.cells.length = 8) (h0 : 0 ≤ a) (h1 : a < 8) (hb0 : 0 ≤ b) (hb1 : b ≤ 9999) (hc : ∀ i, 0 ≤ m.cell i ∧ m.cell i ≤ 9999) : Calls Try.prog 65 #[.pointer (some ⟨g, 0, none⟩), .agg #[.int .i64 d, .int .i64 a, .int .i64 b]] w (OpP w lo g S (m.put a (m.cell a + b))) := by
  have h' := Lib.hid (h.alloc (.cells #[.int .i64 d, .int .i64 a, .int .i64 b] 44)).drew
  replace hl := Lib.hid hl
  have ca := hc a
  obtain ⟨x, hx⟩ : ∃ x, m.cell a = x := ⟨_, rfl⟩
  have c1 := Lib.hid (fun w h => cell_c m lo g S a w h hl.out h0 h1)
  rw [hx] at ca c1 ⊢
  obtain ⟨ca0, ca1⟩ := ca
  clear h hc hx
  go_enter Try.func65, Try.ntmps65
  go_wp2_with fail
  refine wp_region_still_tail 10 (by kernel_rfl) (by kernel_rfl) ?_
  simp only [List.take_succ_cons, List.take_zero, List.drop_succ_cons, List.drop_zero]
  change wpStill _ _ (World.drew (w.alloc (.cells #[.int .i64 d, .int .i64 a, .int .i64 b] 44))) _ _ _
  repeat still_step
  still_call (still_of (c1.out _ h'.out))
  repeat still_step
  refine wpStill_nil ?_
  change wpList _ _ _ _ _ (w.alloc (.cells #[.int .i64 d, .int .i64 a, .int .i64 b] 44)).drew
  go_wp2_with fail
  rw [show IntKind.i64.wrap (x + b) = x + b from wr (by omega) (by omega)]
  refine (put_c m lo g S a (x + b) _ h'.out hl.out h0 h1 (by omega) (by omega)).mono ?_
  rintro e w1 ⟨rfl, h9⟩
  have he := h9.boxd
  clear h9
  go_wp2_with fail
  go_end0
  exact ⟨rfl, he⟩
theorem op4_c (m : Mac) (lo g : Nat) (S : List Nat) (d a b : Int) (w : World) (h : MacR w lo m g S) (hl : m.p.cells.length = 8) (h0 : 0 ≤ a) (h1 : a < 8) (hc : ∀ i, 0 ≤ m.cell i ∧ m.cell i ≤ 9999) : Calls Try.prog 66 #[.pointer (some ⟨g, 0, none⟩), .agg #[.int .i64 d, .int .i64 a, .int .i64 b]] w (OpP w lo g S (m.put a (max (m.cell a - 1) 0))) := by
  have h' := Lib.hid (h.alloc (.cells #[.int .i64 d, .int .i64 a, .int .i64 b] 44)).drew
  replace hl := Lib.hid hl
  have ca := hc a
  obtain ⟨x, hx⟩ : ∃ x, m.cell a = x := ⟨_, rfl⟩
  have c1 := Lib.hid (fun w h => cell_c m lo g S a w h hl.out h0 h1)
  rw [hx] at ca c1 ⊢
  obtain ⟨ca0, ca1⟩ := ca
  clear h hc hx
  by_cases hx : x = 0
  · subst hx
    have e1 : max ((0 : Int) - 1) 0 = 0 := by omega
    rw [e1]
    go_enter Try.func66, Try.ntmps66
    go_wp2_with fail
    refine wp_region_still_tail 9 (by kernel_rfl) (by kernel_rfl) ?_
    simp only [List.take_succ_cons, List.take_zero, List.drop_succ_cons, List.drop_zero]
    change wpStill _ _ (World.drew (w.alloc (.cells #[.int .i64 d, .int .i64 a, .int .i64 b] 44))) _ _ _
    repeat still_step
    still_call (still_of (c1.out _ h'.out))
    repeat still_step
    refine wpStill_nil ?_
    change wpList _ _ _ _ _ (w.alloc (.cells #[.int .i64 d, .int .i64 a, .int .i64 b] 44)).drew
    go_wp2_with fail
    refine (put_c m lo g S a 0 _ h'.out hl.out h0 h1 (by omega) (by omega)).mono ?_
    rintro e w1 ⟨rfl, h9⟩
    have he := h9.boxd
    clear h9
    go_wp2_with fail
    go_end0
    exact ⟨rfl, he⟩
  · have e1 : max (x - 1) 0 = x - 1 := by omega
    have e2 : IntKind.i64.wrap (x - 1) = x - 1 := wr (by omega) (by omega)
    have e3 : ¬ (x - 1 < 0) := by omega
    rw [e1]
    clear e1
    go_enter Try.func66, Try.ntmps66
    go_wp2_with fail
    refine wp_region_still_tail 9 (by kernel_rfl) (by kernel_rfl) ?_
    simp only [List.take_succ_cons, List.take_zero, List.drop_succ_cons, List.drop_zero]
    change wpStill _ _ (World.drew (w.alloc (.cells #[.int .i64 d, .int .i64 a, .int .i64 b] 44))) _ _ _
    repeat still_step
    still_call (still_of (c1.out _ h'.out))
    repeat still_step
    refine wpStill_nil ?_
    change wpList _ _ _ _ _ (w.alloc (.cells #[.int .i64 d, .int .i64 a, .int .i64 b] 44)).drew
    go_wp2_with fail
    refine (put_c m lo g S a (x - 1) _ h'.out hl.out h0 h1 (by omega) (by omega)).mono ?_
    rintro e w1 ⟨rfl, h9⟩
    have he := h9.boxd
    clear h9
    go_wp2_with fail
    go_end0
    exact ⟨rfl, he⟩
theorem op5_c (m : Mac) (lo g : Nat) (S : List Nat) (d a b : Int) (w : World) (h : MacR w lo m g S) (hl : m.p.cells.length = 8) (h0 : 0 ≤ a) (h1 : a < 8) (hs : m.said.length ≤ 1000000) : Calls Try.prog 68 #[.pointer (some ⟨g, 0, none⟩), .agg #[.int .i64 d, .int .i64 a, .int .i64 b]] w (OpP w lo g S { m with said := m.said ++ [(false, m.cell a)] }) := by
  have h' := Lib.hid (h.alloc (.cells #[.int .i64 d, .int .i64 a, .int .i64 b] 44))
  have c1 := Lib.hid (fun w h => cell_c m lo g S a w h hl h0 h1)
  obtain ⟨x, hx⟩ : ∃ x, m.cell a = x := ⟨_, rfl⟩
  rw [hx] at c1 ⊢
  clear h hx hl
  go_enter Try.func68, Try.ntmps68
  go_wp2_with fail
  refine (c1.out _ h'.out).mono ?_
  rintro e w1 ⟨rfl, rfl⟩
  go_wp2_with fail
  refine (say_c m lo g S false x _ h'.out hs).mono ?_
  rintro e w1 ⟨rfl, h9⟩
  have he := h9.box
  clear h9
  go_wp2_with fail
  go_end0
  exact ⟨rfl, he⟩
theorem op6_c (m : Mac) (lo g : Nat) (S : List Nat) (d a b : Int) (w : World) (h : MacR w lo m g S) (hl : m.p.cells.length = 8) (h0 : 0 ≤ a) (h1 : a < 8) (hs : m.said.length ≤ 1000000) : Calls Try.prog 70 #[.pointer (some ⟨g, 0, none⟩), .agg #[.int .i64 d, .int .i64 a, .int .i64 b]] w (OpP w lo g S { m with said := m.said ++ [(true, m.cell a)] }) := by
  have h' := Lib.hid (h.alloc (.cells #[.int .i64 d, .int .i64 a, .int .i64 b] 44))
  have c1 := Lib.hid (fun w h => cell_c m lo g S a w h hl h0 h1)
  obtain ⟨x, hx⟩ : ∃ x, m.cell a = x := ⟨_, rfl⟩
  rw [hx] at c1 ⊢
  clear h hx hl
  go_enter Try.func70, Try.ntmps70
  go_wp2_with fail
  refine (c1.out _ h'.out).mono ?_
  rintro e w1 ⟨rfl, rfl⟩
  go_wp2_with fail
  refine (say_c m lo g S true x _ h'.out hs).mono ?_
  rintro e w1 ⟨rfl, h9⟩
  have he := h9.box
  clear h9
  go_wp2_with fail
  go_end0
  exact ⟨rfl, he⟩
theorem op7_c (m : Mac) (lo g : Nat) (S : List Nat) (d a b : Int) (w : World) (h : MacR w lo m g S) (hl : m.p.cells.length = 8) (h0 : 0 ≤ a) (h1 : a < 8) (hn0 : 0 ≤ m.now) (hn1 : m.now ≤ 99999) : Calls Try.prog 71 #[.pointer (some ⟨g, 0, none⟩), .agg #[.int .i64 d, .int .i64 a, .int .i64 b]] w (OpP w lo g S (m.put a m.now)) := by
  have h' := Lib.hid (h.alloc (.cells #[.int .i64 d, .int .i64 a, .int .i64 b] 44)).drew
  have hgl := h.own.lt g (by obtain ⟨_, _, _, _, _, _, _, _, _, _, _, _, _, _, _, h, rfl⟩ := h; simp)
  have k0 : w.cell? ⟨g, 6, none⟩ = some (.int .i64 m.now) := by obtain ⟨_, _, _, _, _, _, _, _, _, _, _, _, _, _, _, h, rfl⟩ := h; rw [blk_cell h.blk]; rfl
  replace hl := Lib.hid hl
  clear h
  go_enter Try.func71, Try.ntmps71
  go_wp2_with fail
  refine wp_region_still_tail 7 (by kernel_rfl) (by kernel_rfl) ?_
  simp only [List.take_succ_cons, List.take_zero, List.drop_succ_cons, List.drop_zero]
  change wpStill _ _ (World.drew (w.alloc (.cells #[.int .i64 d, .int .i64 a, .int .i64 b] 44))) _ _ _
  repeat still_step
  refine wpStill_nil ?_
  change wpList _ _ _ _ _ (w.alloc (.cells #[.int .i64 d, .int .i64 a, .int .i64 b] 44)).drew
  go_wp2_with fail
  refine (put_c m lo g S a m.now _ h'.out hl.out h0 h1 hn0 (by omega)).mono ?_
  rintro e w1 ⟨rfl, h9⟩
  have he := h9.boxd
  clear h9
  go_wp2_with fail
  go_end0
  exact ⟨rfl, he⟩
theorem op10_c (m : Mac) (lo g : Nat) (S : List Nat) (d a b : Int) (w : World) (h : MacR w lo m g S) (hl : m.p.cells.length = 8) (h0 : 0 ≤ a) (h1 : a < 8) : Calls Try.prog 74 #[.pointer (some ⟨g, 0, none⟩), .agg #[.int .i64 d, .int .i64 a, .int .i64 b]] w (OpP w lo g S { m with rests := true }) := by
  obtain ⟨A1, c1, A2, c2, A3, c3, A4, c4, A5, c5, f1, f2, f3, f4, f5, h2, rfl⟩ := h
  have hgl := h2.own.lt g (by simp)
  have k0 : w.cell? ⟨g, 10, none⟩ = some (.bool m.rests) := by rw [blk_cell h2.blk]; rfl
  have z0 : w.frozen? ⟨g, 10, none⟩ = false := blk_frozen h2.blk _
  have he : MacP w lo g (g :: (f1 ++ (f2 ++ (f3 ++ (f4 ++ f5))))) { m with rests := true } ((w.setCell ⟨g, 10, none⟩ (.bool true)).alloc (.cells #[.int .i64 d, .int .i64 a, .int .i64 b] 44)) := ⟨_, (h2.poke 10 (.bool true) { m with rests := true } rfl rfl rfl rfl rfl (by rfl)).P.alloc _, ((Kept.refl _ _).set (.inl (by simp)) _).alloc _, fun b hb => .inl hb⟩
  replace he := Lib.hid he
  clear h2
  go_enter Try.func74, Try.ntmps74
  go_wp2_with fail
  go_end0
  exact ⟨rfl, he.out⟩
end Go.Proofs.Ytkphkkfgphhjcaa
