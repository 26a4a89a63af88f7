/- What draws: a program. -/
import Derived.Test.YtkphkkfgphhjcaaQ0
import Derived.Test.YtkphkkfgphhjcaaP4
import Derived.Test.YtkphkkfgphhjcaaP2
import Derived.Laws.Slices
import Derived.LoopTactic
import Derived.Deep.AppendLies
import Derived.OwnWalk
import Derived.Deep.LoopGhost
namespace Go.Proofs.Ytkphkkfgphhjcaa
open Go.RowKit
set_option linter.unusedSimpArgs false
set_option linter.unusedVariables false

theorem own_base8 {w : World} {base : Nat} {e : TypeId} {size n : Nat} {v : Value} {xs : List Value} (h : w.ownsRow base e size v n xs) (k : Nat) (hk : v.ownBlock = some k) : base ≤ k := by
  rcases h.2 with ⟨rfl, _⟩ | ⟨g, cap, cur, rfl, hb, _⟩
  · simp [Value.ownBlock] at hk
  · have : g = k := by simpa [Value.ownBlock] using hk
    omega
theorem own_lt8 {w : World} {base : Nat} {e : TypeId} {size n : Nat} {v : Value} {xs : List Value} (h : w.ownsRow base e size v n xs) (k : Nat) (hk : v.ownBlock = some k) : k < w.heap.size := by
  rcases h.2 with ⟨rfl, _⟩ | ⟨g, cap, cur, rfl, hb, hh, _⟩
  · simp [Value.ownBlock] at hk
  · have : g = k := by simpa [Value.ownBlock] using hk
    subst this
    exact (Array.getElem?_eq_some_iff.1 hh).1
theorem own_move8 {w w1 : World} {base : Nat} {e : TypeId} {size n : Nat} {v : Value} {xs : List Value} (h : w.ownsRow base e size v n xs) (hm : ∀ k, v.ownBlock = some k → w1.heap[k]? = w.heap[k]?) : w1.ownsRow base e size v n xs := by
  obtain ⟨h1, h2⟩ := h
  refine ⟨h1, ?_⟩
  rcases h2 with h2 | ⟨g, cap, cur, rfl, hg, hh, r⟩
  · exact .inl h2
  · exact .inr ⟨g, cap, cur, rfl, hg, (hm g (by simp [Value.ownBlock])).trans hh, r⟩
theorem own_kp {w w1 : World} {g base : Nat} {e : TypeId} {size n : Nat} {v : Value} {xs : List Value} (h : w.ownsRow base e size v n xs) (hK : Kp g w w1) (hg : g < base) : w1.ownsRow base e size v n xs :=
  own_move8 h (fun k hk => hK.block k (own_lt8 h k hk) (by have := own_base8 h k hk; omega))
theorem own_alloc8 {w : World} {base : Nat} {e : TypeId} {size n : Nat} {v : Value} {xs : List Value} (h : w.ownsRow base e size v n xs) (o : Obj) : (w.alloc o).ownsRow base e size v n xs :=
  own_move8 h (fun k hk => Below.heap_alloc w o k (own_lt8 h k hk))
theorem kp_grown {g : Nat} {w W W1 : World} {row : Option Nat} (h : Kp g w W) (hg : W.grownBy W1 row) (hr : ∀ k, row = some k → w.heap.size ≤ k) : Kp g w W1 :=
  ⟨hg.os.trans h.os, hg.tape.trans h.tape, hg.output.trans h.output, Nat.le_trans h.size hg.size, fun i hi hne => (hg.block i (Nat.lt_of_lt_of_le hi h.size) (fun e => by have := hr i e.symm; omega)).trans (h.block i hi hne)⟩
theorem rd_grown {w0 W W1 : World} {g : Nat} {q : Int} {row : Option Nat} (h : Rd w0 W g q) (hg : W.grownBy W1 row) (hr : ∀ k, row = some k → g < k ∧ w0.heap.size ≤ k) : Rd w0 W1 g q := by
  obtain ⟨A, n, c, hb, hx⟩ := h.blk
  refine ⟨h.ge, h.bel.grown hg h.bel.size (fun k hk => (hr k hk).2), A, n, c, ?_, hx⟩
  rw [hg.block g h.lt (fun e => by have := hr g e.symm; omega)]
  exact hb
theorem own_base {w : World} {b b' : Nat} {e : TypeId} {size n : Nat} {v : Value} {xs : List Value} (h : w.ownsRow b e size v n xs) (hb : b' ≤ b) : w.ownsRow b' e size v n xs := by
  obtain ⟨h1, h2⟩ := h
  refine ⟨h1, ?_⟩
  rcases h2 with h2 | ⟨g, cap, cur, rfl, hg, r⟩
  · exact .inl h2
  · exact .inr ⟨g, cap, cur, rfl, Nat.le_trans hb hg, r⟩
theorem litN (W : World) (e : TypeId) (n : Nat) : (W.alloc (.cells #[] e)).ownsRow W.heap.size e n (.slice (some ⟨W.heap.size, 0, none⟩) 0 0) 0 [] :=
  ⟨by simp, .inr ⟨W.heap.size, 0, #[], rfl, Nat.le_refl _, heap_top _ _ rfl, Nat.le_refl _, by simp [maxLen], by simp, by simp⟩⟩
theorem op_infoQ : (Try.prog.info? 44).map (fun i => (i.zero, i.size, i.bytes)) = some (some (.agg #[.int .i64 0, .int .i64 0, .int .i64 0]), 3, 24) := by kernel_rfl
/-- A program that is drawn. -/
def ProgQ (w0 w : World) (g : Nat) (p : Int) (e : Ending) (w' : World) : Prop := ∃ ops A c f q, e = .returned (.slice A ops.length c) ∧ SL kO w' (.slice A ops.length c) ops f ∧ Own w' w.heap.size w'.heap.size f ∧ progOK ops = true ∧ p ≤ q ∧ q ≤ p + 100 ∧ Rd w0 w' g q ∧ Kp g w w'
set_option maxHeartbeats 4000000
set_option maxRecDepth 100000
theorem prog_d (w0 w : World) (g : Nat) (p : Int) (h : Rd w0 w g p) (h0 : 0 ≤ p) (h1 : p ≤ 10000000000) : Calls Try.prog 85 #[.pointer (some ⟨g, 0, none⟩)] w (ProgQ w0 w g p) := by
  have hg : g < w.heap.size := h.lt
  have hge := h.ge
  go_enter Try.func85, Try.ntmps85
  go_wp2_with fail
  refine (pick_c w0 _ g (p) (8) (by repeat (first | (with_reducible assumption) | (with_reducible refine Rd.drew ?_) | (with_reducible refine Rd.own ?_ (by first | (simp; done) | (simp; omega) | omega) (by first | (simp; done) | (simp; omega) | omega) _) | (with_reducible refine Rd.alloc ?_ _))) (by omega) (by omega) (by omega) (by omega)).mono ?_
  rintro e w1 ⟨r1, rfl, ra1, rb1, hR1, hK1⟩
  obtain ⟨hc1, hf1⟩ := kcell hK1
  have hz1 := hK1.size
  (try simp only [World.size_alloc, World.size_setCell, World.size_drew] at hz1)
  go_wp2_with fail
  refine (pick_c w0 _ g (p + 1) (10) (by repeat (first | (with_reducible assumption) | (with_reducible refine Rd.drew ?_) | (with_reducible refine Rd.own ?_ (by first | (simp; done) | (simp; omega) | omega) (by first | (simp; done) | (simp; omega) | omega) _) | (with_reducible refine Rd.alloc ?_ _))) (by omega) (by omega) (by omega) (by omega)).mono ?_
  rintro e w2 ⟨r2, rfl, ra2, rb2, hR2, hK2⟩
  obtain ⟨hc2, hf2⟩ := kcell hK2
  have hz2 := hK2.size
  (try simp only [World.size_alloc, World.size_setCell, World.size_drew] at hz2)
  have hy2 : w.heap.size ≤ w2.heap.size := by omega
  by_cases hr : r2 = 0
  · subst hr
    go_wp2_with fail
    skip
    have ho1 := Lib.hid (litN w2 44 3)
    go_loopw [4, 5] (fun v4 v5 wr => ∃ (xs : List Op3) (i q : Int), v5 = .int .i64 i ∧ 0 ≤ i ∧ i ≤ 16 ∧ (xs.length : Int) = i ∧ Hid (wr.ownsRow w.heap.size 44 3 v4 xs.length (xs.flatMap encO)) ∧ opsOK (16) xs = true ∧ Rd w0 wr g q ∧ Kp g w wr ∧ p ≤ q ∧ q ≤ p + 2 + 4 * i) (fun _ v5 _ => (16 - intOf v5).toNat)
    case atStart => exact ⟨[], 0, p + 1 + 1, rfl, by omega, by omega, rfl, Lib.hid (own_base ho1.out hy2), rfl, (by repeat (first | (with_reducible assumption) | (with_reducible refine Rd.drew ?_) | (with_reducible refine Rd.own ?_ (by first | (simp; done) | (simp; omega) | omega) (by first | (simp; done) | (simp; omega) | omega) _) | (with_reducible refine Rd.alloc ?_ _))), Kp.trans (Kp.trans (by repeat (first | (with_reducible exact Kp.refl _ _) | (with_reducible assumption) | (with_reducible refine Kp.own ?_ (by first | (simp; done) | (simp; omega) | omega) _) | (with_reducible refine Kp.alloc ?_ _) | (with_reducible refine Kp.drew ?_) | (with_reducible refine Kp.trans ?_ (by assumption)))) (by assumption)) ((Kp.trans (Kp.refl _ _) (by assumption)).alloc _), by omega, by omega⟩
    case round =>
      obtain ⟨xs, i, q, rfl, i0, i1, il, HO, hops, hR, hK, q0, q1⟩ := hrel
      have hs := hK.size
      clear hR1 hR2 hK1 hK2 ho1
      by_cases hi : i < 16
      · go_wp2_with fail
        refine (op_d w0 _ g q (16) (by repeat (first | (with_reducible assumption) | (with_reducible refine Rd.drew ?_) | (with_reducible refine Rd.own ?_ (by first | (simp; done) | (simp; omega) | omega) (by first | (simp; done) | (simp; omega) | omega) _) | (with_reducible refine Rd.alloc ?_ _))) (by omega) (by omega) (by omega) (by omega)).mono ?_
        rintro e w3 ⟨v, q', rfl, ⟨d, a, b, rfl, hop⟩, hq0, hq1, hR3, hK3⟩
        have HO3 := Lib.hid (own_alloc8 (own_kp HO.out hK3 hg) (.cells #[.int .i64 d, .int .i64 a, .int .i64 b] 44))
        have hs3 := hK3.size
        have hnews := Lib.hid (World.news_of_block (heap_top w3 (.cells #[.int .i64 d, .int .i64 a, .int .i64 b] 44) rfl))
        obtain ⟨z0, hi3, hzz⟩ := Option.map_eq_some_iff.1 op_infoQ
        simp only [Prod.mk.injEq] at hzz
        obtain ⟨hi0, hi1, hi2⟩ := hzz
        replace hi3 := Lib.hid hi3
        replace hi0 := Lib.hid hi0
        replace hi1 := Lib.hid hi1
        replace hi2 := Lib.hid hi2
        have hxl : xs.length ≤ 16 := by omega
        go_wp2_with (at_builtin; refine wpList_append_own_at _ rfl _ _ 23 rfl w.heap.size 44 z0 (.agg #[.int .i64 0, .int .i64 0, .int .i64 0]) 3 24 Try.underlying23 hi3.out hi0.out hi1.out hi2.out rfl (by decide) _ xs.length (xs.flatMap encO) rfl HO3.out ⟨w3.heap.size, 0, none⟩ 1 1 [.int .i64 d, .int .i64 a, .int .i64 b] rfl rfl hnews.out (by intro u hu; simp at hu; rcases hu with rfl | rfl | rfl <;> rfl) (by simp [maxLen]; omega) (by omega) (by simp; omega) ?_; intro v5 w5 hown hgr hnil hob; replace hown := Lib.hid hown; replace hgr := Lib.hid hgr; clear hnil hob)
        have hbs := own_base8 HO3.out
        go_roundw
        case rel =>
          exact ⟨xs ++ [(d, a, b)], i + 1, q', rfl, by omega, by omega, by simp; omega, Lib.hid (by simpa [encO] using hown.out), by simp only [opsOK, List.all_append, List.all_cons, List.all_nil, Bool.and_true, Bool.and_eq_true] at hops ⊢; exact ⟨hops, hop⟩, rd_grown (hR3.alloc _) hgr.out (fun k hk => ⟨by have := hbs k hk; omega, by have := hbs k hk; omega⟩), kp_grown ((hK.trans hK3).alloc _) hgr.out (fun k hk => hbs k hk), by omega, by omega⟩
        case measure => simp [intOf]; omega
      · have hi' : i = 16 := by omega
        subst hi'
        obtain ⟨f, t1, t2, _⟩ := sl_of_row (enc := encO) (sz := 3) (hl := fun _ => rfl) HO.out (by decide)
        obtain ⟨A, c, rfl, _⟩ := t1.form
        have hT := Lib.hid (And.intro t1 t2)
        clear HO t1 t2
        go_wp2_with fail
        go_ret
        exact ⟨xs, A, c, f, q, rfl, hT.out.1, hT.out.2, by simp only [progOK, Bool.and_eq_true, decide_eq_true_eq]; refine ⟨⟨by omega, by omega⟩, ?_⟩; rw [il]; exact hops, by omega, by omega, hR, hK⟩
  · have hr' : (r2 == 0) = false := by simpa using hr
    rcases (by omega : r1 = 0 ∨ r1 = 1 ∨ r1 = 2 ∨ r1 = 3 ∨ r1 = 4 ∨ r1 = 5 ∨ r1 = 6 ∨ r1 = 7) with rfl | rfl | rfl | rfl | rfl | rfl | rfl | rfl
    · go_wp2_with fail
      skip
      have ho1 := Lib.hid (litN w2 44 3)
      go_loopw [4, 5] (fun v4 v5 wr => ∃ (xs : List Op3) (i q : Int), v5 = .int .i64 i ∧ 0 ≤ i ∧ i ≤ 1 ∧ (xs.length : Int) = i ∧ Hid (wr.ownsRow w.heap.size 44 3 v4 xs.length (xs.flatMap encO)) ∧ opsOK (1) xs = true ∧ Rd w0 wr g q ∧ Kp g w wr ∧ p ≤ q ∧ q ≤ p + 2 + 4 * i) (fun _ v5 _ => (1 - intOf v5).toNat)
      case atStart => exact ⟨[], 0, p + 1 + 1, rfl, by omega, by omega, rfl, Lib.hid (own_base ho1.out hy2), rfl, (by repeat (first | (with_reducible assumption) | (with_reducible refine Rd.drew ?_) | (with_reducible refine Rd.own ?_ (by first | (simp; done) | (simp; omega) | omega) (by first | (simp; done) | (simp; omega) | omega) _) | (with_reducible refine Rd.alloc ?_ _))), Kp.trans (Kp.trans (by repeat (first | (with_reducible exact Kp.refl _ _) | (with_reducible assumption) | (with_reducible refine Kp.own ?_ (by first | (simp; done) | (simp; omega) | omega) _) | (with_reducible refine Kp.alloc ?_ _) | (with_reducible refine Kp.drew ?_) | (with_reducible refine Kp.trans ?_ (by assumption)))) (by assumption)) ((Kp.trans (Kp.refl _ _) (by assumption)).alloc _), by omega, by omega⟩
      case round =>
        obtain ⟨xs, i, q, rfl, i0, i1, il, HO, hops, hR, hK, q0, q1⟩ := hrel
        have hs := hK.size
        clear hR1 hR2 hK1 hK2 ho1
        by_cases hi : i < 1
        · go_wp2_with fail
          refine (op_d w0 _ g q (1) (by repeat (first | (with_reducible assumption) | (with_reducible refine Rd.drew ?_) | (with_reducible refine Rd.own ?_ (by first | (simp; done) | (simp; omega) | omega) (by first | (simp; done) | (simp; omega) | omega) _) | (with_reducible refine Rd.alloc ?_ _))) (by omega) (by omega) (by omega) (by omega)).mono ?_
          rintro e w3 ⟨v, q', rfl, ⟨d, a, b, rfl, hop⟩, hq0, hq1, hR3, hK3⟩
          have HO3 := Lib.hid (own_alloc8 (own_kp HO.out hK3 hg) (.cells #[.int .i64 d, .int .i64 a, .int .i64 b] 44))
          have hs3 := hK3.size
          have hnews := Lib.hid (World.news_of_block (heap_top w3 (.cells #[.int .i64 d, .int .i64 a, .int .i64 b] 44) rfl))
          obtain ⟨z0, hi3, hzz⟩ := Option.map_eq_some_iff.1 op_infoQ
          simp only [Prod.mk.injEq] at hzz
          obtain ⟨hi0, hi1, hi2⟩ := hzz
          replace hi3 := Lib.hid hi3
          replace hi0 := Lib.hid hi0
          replace hi1 := Lib.hid hi1
          replace hi2 := Lib.hid hi2
          have hxl : xs.length ≤ 16 := by omega
          go_wp2_with (at_builtin; refine wpList_append_own_at _ rfl _ _ 23 rfl w.heap.size 44 z0 (.agg #[.int .i64 0, .int .i64 0, .int .i64 0]) 3 24 Try.underlying23 hi3.out hi0.out hi1.out hi2.out rfl (by decide) _ xs.length (xs.flatMap encO) rfl HO3.out ⟨w3.heap.size, 0, none⟩ 1 1 [.int .i64 d, .int .i64 a, .int .i64 b] rfl rfl hnews.out (by intro u hu; simp at hu; rcases hu with rfl | rfl | rfl <;> rfl) (by simp [maxLen]; omega) (by omega) (by simp; omega) ?_; intro v5 w5 hown hgr hnil hob; replace hown := Lib.hid hown; replace hgr := Lib.hid hgr; clear hnil hob)
          have hbs := own_base8 HO3.out
          go_roundw
          case rel =>
            exact ⟨xs ++ [(d, a, b)], i + 1, q', rfl, by omega, by omega, by simp; omega, Lib.hid (by simpa [encO] using hown.out), by simp only [opsOK, List.all_append, List.all_cons, List.all_nil, Bool.and_true, Bool.and_eq_true] at hops ⊢; exact ⟨hops, hop⟩, rd_grown (hR3.alloc _) hgr.out (fun k hk => ⟨by have := hbs k hk; omega, by have := hbs k hk; omega⟩), kp_grown ((hK.trans hK3).alloc _) hgr.out (fun k hk => hbs k hk), by omega, by omega⟩
          case measure => simp [intOf]; omega
        · have hi' : i = 1 := by omega
          subst hi'
          obtain ⟨f, t1, t2, _⟩ := sl_of_row (enc := encO) (sz := 3) (hl := fun _ => rfl) HO.out (by decide)
          obtain ⟨A, c, rfl, _⟩ := t1.form
          have hT := Lib.hid (And.intro t1 t2)
          clear HO t1 t2
          go_wp2_with fail
          go_ret
          exact ⟨xs, A, c, f, q, rfl, hT.out.1, hT.out.2, by simp only [progOK, Bool.and_eq_true, decide_eq_true_eq]; refine ⟨⟨by omega, by omega⟩, ?_⟩; rw [il]; exact hops, by omega, by omega, hR, hK⟩
    · go_wp2_with fail
      skip
      have ho1 := Lib.hid (litN w2 44 3)
      go_loopw [4, 5] (fun v4 v5 wr => ∃ (xs : List Op3) (i q : Int), v5 = .int .i64 i ∧ 0 ≤ i ∧ i ≤ 2 ∧ (xs.length : Int) = i ∧ Hid (wr.ownsRow w.heap.size 44 3 v4 xs.length (xs.flatMap encO)) ∧ opsOK (2) xs = true ∧ Rd w0 wr g q ∧ Kp g w wr ∧ p ≤ q ∧ q ≤ p + 2 + 4 * i) (fun _ v5 _ => (2 - intOf v5).toNat)
      case atStart => exact ⟨[], 0, p + 1 + 1, rfl, by omega, by omega, rfl, Lib.hid (own_base ho1.out hy2), rfl, (by repeat (first | (with_reducible assumption) | (with_reducible refine Rd.drew ?_) | (with_reducible refine Rd.own ?_ (by first | (simp; done) | (simp; omega) | omega) (by first | (simp; done) | (simp; omega) | omega) _) | (with_reducible refine Rd.alloc ?_ _))), Kp.trans (Kp.trans (by repeat (first | (with_reducible exact Kp.refl _ _) | (with_reducible assumption) | (with_reducible refine Kp.own ?_ (by first | (simp; done) | (simp; omega) | omega) _) | (with_reducible refine Kp.alloc ?_ _) | (with_reducible refine Kp.drew ?_) | (with_reducible refine Kp.trans ?_ (by assumption)))) (by assumption)) ((Kp.trans (Kp.refl _ _) (by assumption)).alloc _), by omega, by omega⟩
      case round =>
        obtain ⟨xs, i, q, rfl, i0, i1, il, HO, hops, hR, hK, q0, q1⟩ := hrel
        have hs := hK.size
        clear hR1 hR2 hK1 hK2 ho1
        by_cases hi : i < 2
        · go_wp2_with fail
          refine (op_d w0 _ g q (2) (by repeat (first | (with_reducible assumption) | (with_reducible refine Rd.drew ?_) | (with_reducible refine Rd.own ?_ (by first | (simp; done) | (simp; omega) | omega) (by first | (simp; done) | (simp; omega) | omega) _) | (with_reducible refine Rd.alloc ?_ _))) (by omega) (by omega) (by omega) (by omega)).mono ?_
          rintro e w3 ⟨v, q', rfl, ⟨d, a, b, rfl, hop⟩, hq0, hq1, hR3, hK3⟩
          have HO3 := Lib.hid (own_alloc8 (own_kp HO.out hK3 hg) (.cells #[.int .i64 d, .int .i64 a, .int .i64 b] 44))
          have hs3 := hK3.size
          have hnews := Lib.hid (World.news_of_block (heap_top w3 (.cells #[.int .i64 d, .int .i64 a, .int .i64 b] 44) rfl))
          obtain ⟨z0, hi3, hzz⟩ := Option.map_eq_some_iff.1 op_infoQ
          simp only [Prod.mk.injEq] at hzz
          obtain ⟨hi0, hi1, hi2⟩ := hzz
          replace hi3 := Lib.hid hi3
          replace hi0 := Lib.hid hi0
          replace hi1 := Lib.hid hi1
          replace hi2 := Lib.hid hi2
          have hxl : xs.length ≤ 16 := by omega
          go_wp2_with (at_builtin; refine wpList_append_own_at _ rfl _ _ 23 rfl w.heap.size 44 z0 (.agg #[.int .i64 0, .int .i64 0, .int .i64 0]) 3 24 Try.underlying23 hi3.out hi0.out hi1.out hi2.out rfl (by decide) _ xs.length (xs.flatMap encO) rfl HO3.out ⟨w3.heap.size, 0, none⟩ 1 1 [.int .i64 d, .int .i64 a, .int .i64 b] rfl rfl hnews.out (by intro u hu; simp at hu; rcases hu with rfl | rfl | rfl <;> rfl) (by simp [maxLen]; omega) (by omega) (by simp; omega) ?_; intro v5 w5 hown hgr hnil hob; replace hown := Lib.hid hown; replace hgr := Lib.hid hgr; clear hnil hob)
          have hbs := own_base8 HO3.out
          go_roundw
          case rel =>
            exact ⟨xs ++ [(d, a, b)], i + 1, q', rfl, by omega, by omega, by simp; omega, Lib.hid (by simpa [encO] using hown.out), by simp only [opsOK, List.all_append, List.all_cons, List.all_nil, Bool.and_true, Bool.and_eq_true] at hops ⊢; exact ⟨hops, hop⟩, rd_grown (hR3.alloc _) hgr.out (fun k hk => ⟨by have := hbs k hk; omega, by have := hbs k hk; omega⟩), kp_grown ((hK.trans hK3).alloc _) hgr.out (fun k hk => hbs k hk), by omega, by omega⟩
          case measure => simp [intOf]; omega
        · have hi' : i = 2 := by omega
          subst hi'
          obtain ⟨f, t1, t2, _⟩ := sl_of_row (enc := encO) (sz := 3) (hl := fun _ => rfl) HO.out (by decide)
          obtain ⟨A, c, rfl, _⟩ := t1.form
          have hT := Lib.hid (And.intro t1 t2)
          clear HO t1 t2
          go_wp2_with fail
          go_ret
          exact ⟨xs, A, c, f, q, rfl, hT.out.1, hT.out.2, by simp only [progOK, Bool.and_eq_true, decide_eq_true_eq]; refine ⟨⟨by omega, by omega⟩, ?_⟩; rw [il]; exact hops, by omega, by omega, hR, hK⟩
    · go_wp2_with fail
      skip
      have ho1 := Lib.hid (litN w2 44 3)
      go_loopw [4, 5] (fun v4 v5 wr => ∃ (xs : List Op3) (i q : Int), v5 = .int .i64 i ∧ 0 ≤ i ∧ i ≤ 3 ∧ (xs.length : Int) = i ∧ Hid (wr.ownsRow w.heap.size 44 3 v4 xs.length (xs.flatMap encO)) ∧ opsOK (3) xs = true ∧ Rd w0 wr g q ∧ Kp g w wr ∧ p ≤ q ∧ q ≤ p + 2 + 4 * i) (fun _ v5 _ => (3 - intOf v5).toNat)
      case atStart => exact ⟨[], 0, p + 1 + 1, rfl, by omega, by omega, rfl, Lib.hid (own_base ho1.out hy2), rfl, (by repeat (first | (with_reducible assumption) | (with_reducible refine Rd.drew ?_) | (with_reducible refine Rd.own ?_ (by first | (simp; done) | (simp; omega) | omega) (by first | (simp; done) | (simp; omega) | omega) _) | (with_reducible refine Rd.alloc ?_ _))), Kp.trans (Kp.trans (by repeat (first | (with_reducible exact Kp.refl _ _) | (with_reducible assumption) | (with_reducible refine Kp.own ?_ (by first | (simp; done) | (simp; omega) | omega) _) | (with_reducible refine Kp.alloc ?_ _) | (with_reducible refine Kp.drew ?_) | (with_reducible refine Kp.trans ?_ (by assumption)))) (by assumption)) ((Kp.trans (Kp.refl _ _) (by assumption)).alloc _), by omega, by omega⟩
      case round =>
        obtain ⟨xs, i, q, rfl, i0, i1, il, HO, hops, hR, hK, q0, q1⟩ := hrel
        have hs := hK.size
        clear hR1 hR2 hK1 hK2 ho1
        by_cases hi : i < 3
        · go_wp2_with fail
          refine (op_d w0 _ g q (3) (by repeat (first | (with_reducible assumption) | (with_reducible refine Rd.drew ?_) | (with_reducible refine Rd.own ?_ (by first | (simp; done) | (simp; omega) | omega) (by first | (simp; done) | (simp; omega) | omega) _) | (with_reducible refine Rd.alloc ?_ _))) (by omega) (by omega) (by omega) (by omega)).mono ?_
          rintro e w3 ⟨v, q', rfl, ⟨d, a, b, rfl, hop⟩, hq0, hq1, hR3, hK3⟩
          have HO3 := Lib.hid (own_alloc8 (own_kp HO.out hK3 hg) (.cells #[.int .i64 d, .int .i64 a, .int .i64 b] 44))
          have hs3 := hK3.size
          have hnews := Lib.hid (World.news_of_block (heap_top w3 (.cells #[.int .i64 d, .int .i64 a, .int .i64 b] 44) rfl))
          obtain ⟨z0, hi3, hzz⟩ := Option.map_eq_some_iff.1 op_infoQ
          simp only [Prod.mk.injEq] at hzz
          obtain ⟨hi0, hi1, hi2⟩ := hzz
          replace hi3 := Lib.hid hi3
          replace hi0 := Lib.hid hi0
          replace hi1 := Lib.hid hi1
          replace hi2 := Lib.hid hi2
          have hxl : xs.length ≤ 16 := by omega
          go_wp2_with (at_builtin; refine wpList_append_own_at _ rfl _ _ 23 rfl w.heap.size 44 z0 (.agg #[.int .i64 0, .int .i64 0, .int .i64 0]) 3 24 Try.underlying23 hi3.out hi0.out hi1.out hi2.out rfl (by decide) _ xs.length (xs.flatMap encO) rfl HO3.out ⟨w3.heap.size, 0, none⟩ 1 1 [.int .i64 d, .int .i64 a, .int .i64 b] rfl rfl hnews.out (by intro u hu; simp at hu; rcases hu with rfl | rfl | rfl <;> rfl) (by simp [maxLen]; omega) (by omega) (by simp; omega) ?_; intro v5 w5 hown hgr hnil hob; replace hown := Lib.hid hown; replace hgr := Lib.hid hgr; clear hnil hob)
          have hbs := own_base8 HO3.out
          go_roundw
          case rel =>
            exact ⟨xs ++ [(d, a, b)], i + 1, q', rfl, by omega, by omega, by simp; omega, Lib.hid (by simpa [encO] using hown.out), by simp only [opsOK, List.all_append, List.all_cons, List.all_nil, Bool.and_true, Bool.and_eq_true] at hops ⊢; exact ⟨hops, hop⟩, rd_grown (hR3.alloc _) hgr.out (fun k hk => ⟨by have := hbs k hk; omega, by have := hbs k hk; omega⟩), kp_grown ((hK.trans hK3).alloc _) hgr.out (fun k hk => hbs k hk), by omega, by omega⟩
          case measure => simp [intOf]; omega
        · have hi' : i = 3 := by omega
          subst hi'
          obtain ⟨f, t1, t2, _⟩ := sl_of_row (enc := encO) (sz := 3) (hl := fun _ => rfl) HO.out (by decide)
          obtain ⟨A, c, rfl, _⟩ := t1.form
          have hT := Lib.hid (And.intro t1 t2)
          clear HO t1 t2
          go_wp2_with fail
          go_ret
          exact ⟨xs, A, c, f, q, rfl, hT.out.1, hT.out.2, by simp only [progOK, Bool.and_eq_true, decide_eq_true_eq]; refine ⟨⟨by omega, by omega⟩, ?_⟩; rw [il]; exact hops, by omega, by omega, hR, hK⟩
    · go_wp2_with fail
      skip
      have ho1 := Lib.hid (litN w2 44 3)
      go_loopw [4, 5] (fun v4 v5 wr => ∃ (xs : List Op3) (i q : Int), v5 = .int .i64 i ∧ 0 ≤ i ∧ i ≤ 4 ∧ (xs.length : Int) = i ∧ Hid (wr.ownsRow w.heap.size 44 3 v4 xs.length (xs.flatMap encO)) ∧ opsOK (4) xs = true ∧ Rd w0 wr g q ∧ Kp g w wr ∧ p ≤ q ∧ q ≤ p + 2 + 4 * i) (fun _ v5 _ => (4 - intOf v5).toNat)
      case atStart => exact ⟨[], 0, p + 1 + 1, rfl, by omega, by omega, rfl, Lib.hid (own_base ho1.out hy2), rfl, (by repeat (first | (with_reducible assumption) | (with_reducible refine Rd.drew ?_) | (with_reducible refine Rd.own ?_ (by first | (simp; done) | (simp; omega) | omega) (by first | (simp; done) | (simp; omega) | omega) _) | (with_reducible refine Rd.alloc ?_ _))), Kp.trans (Kp.trans (by repeat (first | (with_reducible exact Kp.refl _ _) | (with_reducible assumption) | (with_reducible refine Kp.own ?_ (by first | (simp; done) | (simp; omega) | omega) _) | (with_reducible refine Kp.alloc ?_ _) | (with_reducible refine Kp.drew ?_) | (with_reducible refine Kp.trans ?_ (by assumption)))) (by assumption)) ((Kp.trans (Kp.refl _ _) (by assumption)).alloc _), by omega, by omega⟩
      case round =>
        obtain ⟨xs, i, q, rfl, i0, i1, il, HO, hops, hR, hK, q0, q1⟩ := hrel
        have hs := hK.size
        clear hR1 hR2 hK1 hK2 ho1
        by_cases hi : i < 4
        · go_wp2_with fail
          refine (op_d w0 _ g q (4) (by repeat (first | (with_reducible assumption) | (with_reducible refine Rd.drew ?_) | (with_reducible refine Rd.own ?_ (by first | (simp; done) | (simp; omega) | omega) (by first | (simp; done) | (simp; omega) | omega) _) | (with_reducible refine Rd.alloc ?_ _))) (by omega) (by omega) (by omega) (by omega)).mono ?_
          rintro e w3 ⟨v, q', rfl, ⟨d, a, b, rfl, hop⟩, hq0, hq1, hR3, hK3⟩
          have HO3 := Lib.hid (own_alloc8 (own_kp HO.out hK3 hg) (.cells #[.int .i64 d, .int .i64 a, .int .i64 b] 44))
          have hs3 := hK3.size
          have hnews := Lib.hid (World.news_of_block (heap_top w3 (.cells #[.int .i64 d, .int .i64 a, .int .i64 b] 44) rfl))
          obtain ⟨z0, hi3, hzz⟩ := Option.map_eq_some_iff.1 op_infoQ
          simp only [Prod.mk.injEq] at hzz
          obtain ⟨hi0, hi1, hi2⟩ := hzz
          replace hi3 := Lib.hid hi3
          replace hi0 := Lib.hid hi0
          replace hi1 := Lib.hid hi1
          replace hi2 := Lib.hid hi2
          have hxl : xs.length ≤ 16 := by omega
          go_wp2_with (at_builtin; refine wpList_append_own_at _ rfl _ _ 23 rfl w.heap.size 44 z0 (.agg #[.int .i64 0, .int .i64 0, .int .i64 0]) 3 24 Try.underlying23 hi3.out hi0.out hi1.out hi2.out rfl (by decide) _ xs.length (xs.flatMap encO) rfl HO3.out ⟨w3.heap.size, 0, none⟩ 1 1 [.int .i64 d, .int .i64 a, .int .i64 b] rfl rfl hnews.out (by intro u hu; simp at hu; rcases hu with rfl | rfl | rfl <;> rfl) (by simp [maxLen]; omega) (by omega) (by simp; omega) ?_; intro v5 w5 hown hgr hnil hob; replace hown := Lib.hid hown; replace hgr := Lib.hid hgr; clear hnil hob)
          have hbs := own_base8 HO3.out
          go_roundw
          case rel =>
            exact ⟨xs ++ [(d, a, b)], i + 1, q', rfl, by omega, by omega, by simp; omega, Lib.hid (by simpa [encO] using hown.out), by simp only [opsOK, List.all_append, List.all_cons, List.all_nil, Bool.and_true, Bool.and_eq_true] at hops ⊢; exact ⟨hops, hop⟩, rd_grown (hR3.alloc _) hgr.out (fun k hk => ⟨by have := hbs k hk; omega, by have := hbs k hk; omega⟩), kp_grown ((hK.trans hK3).alloc _) hgr.out (fun k hk => hbs k hk), by omega, by omega⟩
          case measure => simp [intOf]; omega
        · have hi' : i = 4 := by omega
          subst hi'
          obtain ⟨f, t1, t2, _⟩ := sl_of_row (enc := encO) (sz := 3) (hl := fun _ => rfl) HO.out (by decide)
          obtain ⟨A, c, rfl, _⟩ := t1.form
          have hT := Lib.hid (And.intro t1 t2)
          clear HO t1 t2
          go_wp2_with fail
          go_ret
          exact ⟨xs, A, c, f, q, rfl, hT.out.1, hT.out.2, by simp only [progOK, Bool.and_eq_true, decide_eq_true_eq]; refine ⟨⟨by omega, by omega⟩, ?_⟩; rw [il]; exact hops, by omega, by omega, hR, hK⟩
    · go_wp2_with fail
      skip
      have ho1 := Lib.hid (litN w2 44 3)
      go_loopw [4, 5] (fun v4 v5 wr => ∃ (xs : List Op3) (i q : Int), v5 = .int .i64 i ∧ 0 ≤ i ∧ i ≤ 5 ∧ (xs.length : Int) = i ∧ Hid (wr.ownsRow w.heap.size 44 3 v4 xs.length (xs.flatMap encO)) ∧ opsOK (5) xs = true ∧ Rd w0 wr g q ∧ Kp g w wr ∧ p ≤ q ∧ q ≤ p + 2 + 4 * i) (fun _ v5 _ => (5 - intOf v5).toNat)
      case atStart => exact ⟨[], 0, p + 1 + 1, rfl, by omega, by omega, rfl, Lib.hid (own_base ho1.out hy2), rfl, (by repeat (first | (with_reducible assumption) | (with_reducible refine Rd.drew ?_) | (with_reducible refine Rd.own ?_ (by first | (simp; done) | (simp; omega) | omega) (by first | (simp; done) | (simp; omega) | omega) _) | (with_reducible refine Rd.alloc ?_ _))), Kp.trans (Kp.trans (by repeat (first | (with_reducible exact Kp.refl _ _) | (with_reducible assumption) | (with_reducible refine Kp.own ?_ (by first | (simp; done) | (simp; omega) | omega) _) | (with_reducible refine Kp.alloc ?_ _) | (with_reducible refine Kp.drew ?_) | (with_reducible refine Kp.trans ?_ (by assumption)))) (by assumption)) ((Kp.trans (Kp.refl _ _) (by assumption)).alloc _), by omega, by omega⟩
      case round =>
        obtain ⟨xs, i, q, rfl, i0, i1, il, HO, hops, hR, hK, q0, q1⟩ := hrel
        have hs := hK.size
        clear hR1 hR2 hK1 hK2 ho1
        by_cases hi : i < 5
        · go_wp2_with fail
          refine (op_d w0 _ g q (5) (by repeat (first | (with_reducible assumption) | (with_reducible refine Rd.drew ?_) | (with_reducible refine Rd.own ?_ (by first | (simp; done) | (simp; omega) | omega) (by first | (simp; done) | (simp; omega) | omega) _) | (with_reducible refine Rd.alloc ?_ _))) (by omega) (by omega) (by omega) (by omega)).mono ?_
          rintro e w3 ⟨v, q', rfl, ⟨d, a, b, rfl, hop⟩, hq0, hq1, hR3, hK3⟩
          have HO3 := Lib.hid (own_alloc8 (own_kp HO.out hK3 hg) (.cells #[.int .i64 d, .int .i64 a, .int .i64 b] 44))
          have hs3 := hK3.size
          have hnews := Lib.hid (World.news_of_block (heap_top w3 (.cells #[.int .i64 d, .int .i64 a, .int .i64 b] 44) rfl))
          obtain ⟨z0, hi3, hzz⟩ := Option.map_eq_some_iff.1 op_infoQ
          simp only [Prod.mk.injEq] at hzz
          obtain ⟨hi0, hi1, hi2⟩ := hzz
          replace hi3 := Lib.hid hi3
          replace hi0 := Lib.hid hi0
          replace hi1 := Lib.hid hi1
          replace hi2 := Lib.hid hi2
          have hxl : xs.length ≤ 16 := by omega
          go_wp2_with (at_builtin; refine wpList_append_own_at _ rfl _ _ 23 rfl w.heap.size 44 z0 (.agg #[.int .i64 0, .int .i64 0, .int .i64 0]) 3 24 Try.underlying23 hi3.out hi0.out hi1.out hi2.out rfl (by decide) _ xs.length (xs.flatMap encO) rfl HO3.out ⟨w3.heap.size, 0, none⟩ 1 1 [.int .i64 d, .int .i64 a, .int .i64 b] rfl rfl hnews.out (by intro u hu; simp at hu; rcases hu with rfl | rfl | rfl <;> rfl) (by simp [maxLen]; omega) (by omega) (by simp; omega) ?_; intro v5 w5 hown hgr hnil hob; replace hown := Lib.hid hown; replace hgr := Lib.hid hgr; clear hnil hob)
          have hbs := own_base8 HO3.out
          go_roundw
          case rel =>
            exact ⟨xs ++ [(d, a, b)], i + 1, q', rfl, by omega, by omega, by simp; omega, Lib.hid (by simpa [encO] using hown.out), by simp only [opsOK, List.all_append, List.all_cons, List.all_nil, Bool.and_true, Bool.and_eq_true] at hops ⊢; exact ⟨hops, hop⟩, rd_grown (hR3.alloc _) hgr.out (fun k hk => ⟨by have := hbs k hk; omega, by have := hbs k hk; omega⟩), kp_grown ((hK.trans hK3).alloc _) hgr.out (fun k hk => hbs k hk), by omega, by omega⟩
          case measure => simp [intOf]; omega
        · have hi' : i = 5 := by omega
          subst hi'
          obtain ⟨f, t1, t2, _⟩ := sl_of_row (enc := encO) (sz := 3) (hl := fun _ => rfl) HO.out (by decide)
          obtain ⟨A, c, rfl, _⟩ := t1.form
          have hT := Lib.hid (And.intro t1 t2)
          clear HO t1 t2
          go_wp2_with fail
          go_ret
          exact ⟨xs, A, c, f, q, rfl, hT.out.1, hT.out.2, by simp only [progOK, Bool.and_eq_true, decide_eq_true_eq]; refine ⟨⟨by omega, by omega⟩, ?_⟩; rw [il]; exact hops, by omega, by omega, hR, hK⟩
    · go_wp2_with fail
      skip
      have ho1 := Lib.hid (litN w2 44 3)
      go_loopw [4, 5] (fun v4 v5 wr => ∃ (xs : List Op3) (i q : Int), v5 = .int .i64 i ∧ 0 ≤ i ∧ i ≤ 6 ∧ (xs.length : Int) = i ∧ Hid (wr.ownsRow w.heap.size 44 3 v4 xs.length (xs.flatMap encO)) ∧ opsOK (6) xs = true ∧ Rd w0 wr g q ∧ Kp g w wr ∧ p ≤ q ∧ q ≤ p + 2 + 4 * i) (fun _ v5 _ => (6 - intOf v5).toNat)
      case atStart => exact ⟨[], 0, p + 1 + 1, rfl, by omega, by omega, rfl, Lib.hid (own_base ho1.out hy2), rfl, (by repeat (first | (with_reducible assumption) | (with_reducible refine Rd.drew ?_) | (with_reducible refine Rd.own ?_ (by first | (simp; done) | (simp; omega) | omega) (by first | (simp; done) | (simp; omega) | omega) _) | (with_reducible refine Rd.alloc ?_ _))), Kp.trans (Kp.trans (by repeat (first | (with_reducible exact Kp.refl _ _) | (with_reducible assumption) | (with_reducible refine Kp.own ?_ (by first | (simp; done) | (simp; omega) | omega) _) | (with_reducible refine Kp.alloc ?_ _) | (with_reducible refine Kp.drew ?_) | (with_reducible refine Kp.trans ?_ (by assumption)))) (by assumption)) ((Kp.trans (Kp.refl _ _) (by assumption)).alloc _), by omega, by omega⟩
      case round =>
        obtain ⟨xs, i, q, rfl, i0, i1, il, HO, hops, hR, hK, q0, q1⟩ := hrel
        have hs := hK.size
        clear hR1 hR2 hK1 hK2 ho1
        by_cases hi : i < 6
        · go_wp2_with fail
          refine (op_d w0 _ g q (6) (by repeat (first | (with_reducible assumption) | (with_reducible refine Rd.drew ?_) | (with_reducible refine Rd.own ?_ (by first | (simp; done) | (simp; omega) | omega) (by first | (simp; done) | (simp; omega) | omega) _) | (with_reducible refine Rd.alloc ?_ _))) (by omega) (by omega) (by omega) (by omega)).mono ?_
          rintro e w3 ⟨v, q', rfl, ⟨d, a, b, rfl, hop⟩, hq0, hq1, hR3, hK3⟩
          have HO3 := Lib.hid (own_alloc8 (own_kp HO.out hK3 hg) (.cells #[.int .i64 d, .int .i64 a, .int .i64 b] 44))
          have hs3 := hK3.size
          have hnews := Lib.hid (World.news_of_block (heap_top w3 (.cells #[.int .i64 d, .int .i64 a, .int .i64 b] 44) rfl))
          obtain ⟨z0, hi3, hzz⟩ := Option.map_eq_some_iff.1 op_infoQ
          simp only [Prod.mk.injEq] at hzz
          obtain ⟨hi0, hi1, hi2⟩ := hzz
          replace hi3 := Lib.hid hi3
          replace hi0 := Lib.hid hi0
          replace hi1 := Lib.hid hi1
          replace hi2 := Lib.hid hi2
          have hxl : xs.length ≤ 16 := by omega
          go_wp2_with (at_builtin; refine wpList_append_own_at _ rfl _ _ 23 rfl w.heap.size 44 z0 (.agg #[.int .i64 0, .int .i64 0, .int .i64 0]) 3 24 Try.underlying23 hi3.out hi0.out hi1.out hi2.out rfl (by decide) _ xs.length (xs.flatMap encO) rfl HO3.out ⟨w3.heap.size, 0, none⟩ 1 1 [.int .i64 d, .int .i64 a, .int .i64 b] rfl rfl hnews.out (by intro u hu; simp at hu; rcases hu with rfl | rfl | rfl <;> rfl) (by simp [maxLen]; omega) (by omega) (by simp; omega) ?_; intro v5 w5 hown hgr hnil hob; replace hown := Lib.hid hown; replace hgr := Lib.hid hgr; clear hnil hob)
          have hbs := own_base8 HO3.out
          go_roundw
          case rel =>
            exact ⟨xs ++ [(d, a, b)], i + 1, q', rfl, by omega, by omega, by simp; omega, Lib.hid (by simpa [encO] using hown.out), by simp only [opsOK, List.all_append, List.all_cons, List.all_nil, Bool.and_true, Bool.and_eq_true] at hops ⊢; exact ⟨hops, hop⟩, rd_grown (hR3.alloc _) hgr.out (fun k hk => ⟨by have := hbs k hk; omega, by have := hbs k hk; omega⟩), kp_grown ((hK.trans hK3).alloc _) hgr.out (fun k hk => hbs k hk), by omega, by omega⟩
          case measure => simp [intOf]; omega
        · have hi' : i = 6 := by omega
          subst hi'
          obtain ⟨f, t1, t2, _⟩ := sl_of_row (enc := encO) (sz := 3) (hl := fun _ => rfl) HO.out (by decide)
          obtain ⟨A, c, rfl, _⟩ := t1.form
          have hT := Lib.hid (And.intro t1 t2)
          clear HO t1 t2
          go_wp2_with fail
          go_ret
          exact ⟨xs, A, c, f, q, rfl, hT.out.1, hT.out.2, by simp only [progOK, Bool.and_eq_true, decide_eq_true_eq]; refine ⟨⟨by omega, by omega⟩, ?_⟩; rw [il]; exact hops, by omega, by omega, hR, hK⟩
    · go_wp2_with fail
      skip
      have ho1 := Lib.hid (litN w2 44 3)
      go_loopw [4, 5] (fun v4 v5 wr => ∃ (xs : List Op3) (i q : Int), v5 = .int .i64 i ∧ 0 ≤ i ∧ i ≤ 7 ∧ (xs.length : Int) = i ∧ Hid (wr.ownsRow w.heap.size 44 3 v4 xs.length (xs.flatMap encO)) ∧ opsOK (7) xs = true ∧ Rd w0 wr g q ∧ Kp g w wr ∧ p ≤ q ∧ q ≤ p + 2 + 4 * i) (fun _ v5 _ => (7 - intOf v5).toNat)
      case atStart => exact ⟨[], 0, p + 1 + 1, rfl, by omega, by omega, rfl, Lib.hid (own_base ho1.out hy2), rfl, (by repeat (first | (with_reducible assumption) | (with_reducible refine Rd.drew ?_) | (with_reducible refine Rd.own ?_ (by first | (simp; done) | (simp; omega) | omega) (by first | (simp; done) | (simp; omega) | omega) _) | (with_reducible refine Rd.alloc ?_ _))), Kp.trans (Kp.trans (by repeat (first | (with_reducible exact Kp.refl _ _) | (with_reducible assumption) | (with_reducible refine Kp.own ?_ (by first | (simp; done) | (simp; omega) | omega) _) | (with_reducible refine Kp.alloc ?_ _) | (with_reducible refine Kp.drew ?_) | (with_reducible refine Kp.trans ?_ (by assumption)))) (by assumption)) ((Kp.trans (Kp.refl _ _) (by assumption)).alloc _), by omega, by omega⟩
      case round =>
        obtain ⟨xs, i, q, rfl, i0, i1, il, HO, hops, hR, hK, q0, q1⟩ := hrel
        have hs := hK.size
        clear hR1 hR2 hK1 hK2 ho1
        by_cases hi : i < 7
        · go_wp2_with fail
          refine (op_d w0 _ g q (7) (by repeat (first | (with_reducible assumption) | (with_reducible refine Rd.drew ?_) | (with_reducible refine Rd.own ?_ (by first | (simp; done) | (simp; omega) | omega) (by first | (simp; done) | (simp; omega) | omega) _) | (with_reducible refine Rd.alloc ?_ _))) (by omega) (by omega) (by omega) (by omega)).mono ?_
          rintro e w3 ⟨v, q', rfl, ⟨d, a, b, rfl, hop⟩, hq0, hq1, hR3, hK3⟩
          have HO3 := Lib.hid (own_alloc8 (own_kp HO.out hK3 hg) (.cells #[.int .i64 d, .int .i64 a, .int .i64 b] 44))
          have hs3 := hK3.size
          have hnews := Lib.hid (World.news_of_block (heap_top w3 (.cells #[.int .i64 d, .int .i64 a, .int .i64 b] 44) rfl))
          obtain ⟨z0, hi3, hzz⟩ := Option.map_eq_some_iff.1 op_infoQ
          simp only [Prod.mk.injEq] at hzz
          obtain ⟨hi0, hi1, hi2⟩ := hzz
          replace hi3 := Lib.hid hi3
          replace hi0 := Lib.hid hi0
          replace hi1 := Lib.hid hi1
          replace hi2 := Lib.hid hi2
          have hxl : xs.length ≤ 16 := by omega
          go_wp2_with (at_builtin; refine wpList_append_own_at _ rfl _ _ 23 rfl w.heap.size 44 z0 (.agg #[.int .i64 0, .int .i64 0, .int .i64 0]) 3 24 Try.underlying23 hi3.out hi0.out hi1.out hi2.out rfl (by decide) _ xs.length (xs.flatMap encO) rfl HO3.out ⟨w3.heap.size, 0, none⟩ 1 1 [.int .i64 d, .int .i64 a, .int .i64 b] rfl rfl hnews.out (by intro u hu; simp at hu; rcases hu with rfl | rfl | rfl <;> rfl) (by simp [maxLen]; omega) (by omega) (by simp; omega) ?_; intro v5 w5 hown hgr hnil hob; replace hown := Lib.hid hown; replace hgr := Lib.hid hgr; clear hnil hob)
          have hbs := own_base8 HO3.out
          go_roundw
          case rel =>
            exact ⟨xs ++ [(d, a, b)], i + 1, q', rfl, by omega, by omega, by simp; omega, Lib.hid (by simpa [encO] using hown.out), by simp only [opsOK, List.all_append, List.all_cons, List.all_nil, Bool.and_true, Bool.and_eq_true] at hops ⊢; exact ⟨hops, hop⟩, rd_grown (hR3.alloc _) hgr.out (fun k hk => ⟨by have := hbs k hk; omega, by have := hbs k hk; omega⟩), kp_grown ((hK.trans hK3).alloc _) hgr.out (fun k hk => hbs k hk), by omega, by omega⟩
          case measure => simp [intOf]; omega
        · have hi' : i = 7 := by omega
          subst hi'
          obtain ⟨f, t1, t2, _⟩ := sl_of_row (enc := encO) (sz := 3) (hl := fun _ => rfl) HO.out (by decide)
          obtain ⟨A, c, rfl, _⟩ := t1.form
          have hT := Lib.hid (And.intro t1 t2)
          clear HO t1 t2
          go_wp2_with fail
          go_ret
          exact ⟨xs, A, c, f, q, rfl, hT.out.1, hT.out.2, by simp only [progOK, Bool.and_eq_true, decide_eq_true_eq]; refine ⟨⟨by omega, by omega⟩, ?_⟩; rw [il]; exact hops, by omega, by omega, hR, hK⟩
    · go_wp2_with fail
      skip
      have ho1 := Lib.hid (litN w2 44 3)
      go_loopw [4, 5] (fun v4 v5 wr => ∃ (xs : List Op3) (i q : Int), v5 = .int .i64 i ∧ 0 ≤ i ∧ i ≤ 8 ∧ (xs.length : Int) = i ∧ Hid (wr.ownsRow w.heap.size 44 3 v4 xs.length (xs.flatMap encO)) ∧ opsOK (8) xs = true ∧ Rd w0 wr g q ∧ Kp g w wr ∧ p ≤ q ∧ q ≤ p + 2 + 4 * i) (fun _ v5 _ => (8 - intOf v5).toNat)
      case atStart => exact ⟨[], 0, p + 1 + 1, rfl, by omega, by omega, rfl, Lib.hid (own_base ho1.out hy2), rfl, (by repeat (first | (with_reducible assumption) | (with_reducible refine Rd.drew ?_) | (with_reducible refine Rd.own ?_ (by first | (simp; done) | (simp; omega) | omega) (by first | (simp; done) | (simp; omega) | omega) _) | (with_reducible refine Rd.alloc ?_ _))), Kp.trans (Kp.trans (by repeat (first | (with_reducible exact Kp.refl _ _) | (with_reducible assumption) | (with_reducible refine Kp.own ?_ (by first | (simp; done) | (simp; omega) | omega) _) | (with_reducible refine Kp.alloc ?_ _) | (with_reducible refine Kp.drew ?_) | (with_reducible refine Kp.trans ?_ (by assumption)))) (by assumption)) ((Kp.trans (Kp.refl _ _) (by assumption)).alloc _), by omega, by omega⟩
      case round =>
        obtain ⟨xs, i, q, rfl, i0, i1, il, HO, hops, hR, hK, q0, q1⟩ := hrel
        have hs := hK.size
        clear hR1 hR2 hK1 hK2 ho1
        by_cases hi : i < 8
        · go_wp2_with fail
          refine (op_d w0 _ g q (8) (by repeat (first | (with_reducible assumption) | (with_reducible refine Rd.drew ?_) | (with_reducible refine Rd.own ?_ (by first | (simp; done) | (simp; omega) | omega) (by first | (simp; done) | (simp; omega) | omega) _) | (with_reducible refine Rd.alloc ?_ _))) (by omega) (by omega) (by omega) (by omega)).mono ?_
          rintro e w3 ⟨v, q', rfl, ⟨d, a, b, rfl, hop⟩, hq0, hq1, hR3, hK3⟩
          have HO3 := Lib.hid (own_alloc8 (own_kp HO.out hK3 hg) (.cells #[.int .i64 d, .int .i64 a, .int .i64 b] 44))
          have hs3 := hK3.size
          have hnews := Lib.hid (World.news_of_block (heap_top w3 (.cells #[.int .i64 d, .int .i64 a, .int .i64 b] 44) rfl))
          obtain ⟨z0, hi3, hzz⟩ := Option.map_eq_some_iff.1 op_infoQ
          simp only [Prod.mk.injEq] at hzz
          obtain ⟨hi0, hi1, hi2⟩ := hzz
          replace hi3 := Lib.hid hi3
          replace hi0 := Lib.hid hi0
          replace hi1 := Lib.hid hi1
          replace hi2 := Lib.hid hi2
          have hxl : xs.length ≤ 16 := by omega
          go_wp2_with (at_builtin; refine wpList_append_own_at _ rfl _ _ 23 rfl w.heap.size 44 z0 (.agg #[.int .i64 0, .int .i64 0, .int .i64 0]) 3 24 Try.underlying23 hi3.out hi0.out hi1.out hi2.out rfl (by decide) _ xs.length (xs.flatMap encO) rfl HO3.out ⟨w3.heap.size, 0, none⟩ 1 1 [.int .i64 d, .int .i64 a, .int .i64 b] rfl rfl hnews.out (by intro u hu; simp at hu; rcases hu with rfl | rfl | rfl <;> rfl) (by simp [maxLen]; omega) (by omega) (by simp; omega) ?_; intro v5 w5 hown hgr hnil hob; replace hown := Lib.hid hown; replace hgr := Lib.hid hgr; clear hnil hob)
          have hbs := own_base8 HO3.out
          go_roundw
          case rel =>
            exact ⟨xs ++ [(d, a, b)], i + 1, q', rfl, by omega, by omega, by simp; omega, Lib.hid (by simpa [encO] using hown.out), by simp only [opsOK, List.all_append, List.all_cons, List.all_nil, Bool.and_true, Bool.and_eq_true] at hops ⊢; exact ⟨hops, hop⟩, rd_grown (hR3.alloc _) hgr.out (fun k hk => ⟨by have := hbs k hk; omega, by have := hbs k hk; omega⟩), kp_grown ((hK.trans hK3).alloc _) hgr.out (fun k hk => hbs k hk), by omega, by omega⟩
          case measure => simp [intOf]; omega
        · have hi' : i = 8 := by omega
          subst hi'
          obtain ⟨f, t1, t2, _⟩ := sl_of_row (enc := encO) (sz := 3) (hl := fun _ => rfl) HO.out (by decide)
          obtain ⟨A, c, rfl, _⟩ := t1.form
          have hT := Lib.hid (And.intro t1 t2)
          clear HO t1 t2
          go_wp2_with fail
          go_ret
          exact ⟨xs, A, c, f, q, rfl, hT.out.1, hT.out.2, by simp only [progOK, Bool.and_eq_true, decide_eq_true_eq]; refine ⟨⟨by omega, by omega⟩, ?_⟩; rw [il]; exact hops, by omega, by omega, hR, hK⟩
end Go.Proofs.Ytkphkkfgphhjcaa
