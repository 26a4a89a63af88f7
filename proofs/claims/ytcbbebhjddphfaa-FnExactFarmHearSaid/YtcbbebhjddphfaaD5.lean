/- What draws: texts. -/
import Derived.Test.YtcbbebhjddphfaaD4
import Derived.Maps.AppendAt
import Derived.OwnWalk
import Derived.Laws.BytesArg
import Derived.Laws.MakeOwn
import Derived.Deep.OwnRows
import Derived.Laws.Slices
import Derived.LoopTactic
import Derived.Deep.AppendLies
import Derived.OwnWalk
import Derived.Deep.LoopGhost
namespace Go.Proofs.Ytcbbebhjddphfaa
open Go.RowKit
set_option linter.unusedSimpArgs false
set_option linter.unusedVariables false

def nums8 (xs : List Int) : List Value := xs.map fun x => .int .u8 x
theorem own_base8 {w : World} {base : Nat} {e : TypeId} {size n : Nat} {v : Value} {xs : List Value} (h : w.ownsRow base e size v n xs) (k : Nat) (hk : v.ownBlock = some k) : base ≤ k := by
  rcases h.2 with ⟨rfl, _⟩ | ⟨g, cap, cur, rfl, hb, _⟩
  · simp [Value.ownBlock] at hk
  · have : g = k := by simpa [Value.ownBlock] using hk
    omega
theorem own_lt8 {w : World} {base : Nat} {e : TypeId} {size n : Nat} {v : Value} {xs : List Value} (h : w.ownsRow base e size v n xs) (k : Nat) (hk : v.ownBlock = some k) : k < w.heap.size := by
  rcases h.2 with ⟨rfl, _⟩ | ⟨g, cap, cur, rfl, hb, hh, _⟩
  · simp [Value.ownBlock] at hk
  · have : g = k := by simpa [Value.ownBlock] using hk
    subst this
    exact (Array.getElem?_eq_some_iff.1 hh).1
theorem own_move8 {w w1 : World} {base : Nat} {e : TypeId} {size n : Nat} {v : Value} {xs : List Value} (h : w.ownsRow base e size v n xs) (hm : ∀ k, v.ownBlock = some k → w1.heap[k]? = w.heap[k]?) : w1.ownsRow base e size v n xs := by
  obtain ⟨h1, h2⟩ := h
  refine ⟨h1, ?_⟩
  rcases h2 with h2 | ⟨g, cap, cur, rfl, hg, hh, r⟩
  · exact .inl h2
  · exact .inr ⟨g, cap, cur, rfl, hg, (hm g (by simp [Value.ownBlock])).trans hh, r⟩
theorem own_kp {w w1 : World} {g base : Nat} {e : TypeId} {size n : Nat} {v : Value} {xs : List Value} (h : w.ownsRow base e size v n xs) (hK : Kp g w w1) (hg : g < base) : w1.ownsRow base e size v n xs :=
  own_move8 h (fun k hk => hK.block k (own_lt8 h k hk) (by have := own_base8 h k hk; omega))
theorem own_alloc8 {w : World} {base : Nat} {e : TypeId} {size n : Nat} {v : Value} {xs : List Value} (h : w.ownsRow base e size v n xs) (o : Obj) : (w.alloc o).ownsRow base e size v n xs :=
  own_move8 h (fun k hk => Below.heap_alloc w o k (own_lt8 h k hk))
theorem own_string8 {P : Program} {w : World} {base n : Nat} {e' src dst e : TypeId} {v : Value} {xs : List Int} (hs : P.underlying src = some (.slice e)) (he : P.underlying e = some (.int .u8)) (hd : P.underlying dst = some .string)
    (h : w.ownsRow base e' 1 v n (nums8 xs)) : (convert src dst v).run P w = .ok (.string (strOfNums xs)) w := by
  have hl : xs.length = n := by have := h.1; simp [nums8] at this; exact this
  rcases h.2 with ⟨rfl, rfl⟩ | ⟨g, cap, cur, rfl, _⟩
  · obtain rfl : xs = [] := List.eq_nil_of_length_eq_zero hl
    exact run_convert_bytes_nil w src e hs he 0 0 dst hd
  · refine run_convert_bytes_arg w src e hs he g 0 n cap xs hl (fun i hi => ?_) dst hd
    have hc := h.cells (g := g) rfl i (.int .u8 (xs.getD i 0)) (by simp [nums8, List.getElem?_eq_getElem (show i < xs.length by omega), List.getD_eq_getElem?_getD])
    have ha : (⟨g, 0, none⟩ : Addr).add i = ⟨g, 0 + i, none⟩ := by unfold Addr.add; split <;> simp_all
    rwa [ha] at hc

theorem kp_grown {g : Nat} {w W W1 : World} {row : Option Nat} (h : Kp g w W) (hg : W.grownBy W1 row) (hr : ∀ k, row = some k → w.heap.size ≤ k) : Kp g w W1 :=
  ⟨hg.os.trans h.os, hg.tape.trans h.tape, hg.output.trans h.output, Nat.le_trans h.size hg.size, fun i hi hne => (hg.block i (Nat.lt_of_lt_of_le hi h.size) (fun e => by have := hr i e.symm; omega)).trans (h.block i hi hne)⟩
theorem rd_grown {w0 W W1 : World} {g : Nat} {q : Int} {row : Option Nat} (h : Rd w0 W g q) (hg : W.grownBy W1 row) (hr : ∀ k, row = some k → g < k ∧ w0.heap.size ≤ k) : Rd w0 W1 g q := by
  obtain ⟨A, n, c, hb, hx⟩ := h.blk
  refine ⟨h.ge, h.bel.grown hg h.bel.size (fun k hk => (hr k hk).2), A, n, c, ?_, hx⟩
  rw [hg.block g h.lt (fun e => by have := hr g e.symm; omega)]
  exact hb
theorem lit0 (W : World) (e : TypeId) : (W.alloc (.cells #[] e)).ownsRow W.heap.size e 1 (.slice (some ⟨W.heap.size, 0, none⟩) 0 0) 0 [] := by
  have h := World.ownsRow_lit (base := W.heap.size) (e := e) (size := 1) W #[] 0 (Nat.le_refl _) (by simp [maxLen]) (by simp)
  simpa using h
section
variable {P : Program} {ops : Array Oper} {rest : List Oper} {o : Oper} {a : Act} {Q : Exit → Act → World → Prop}
theorem append1 {W : World} (base : Nat) (hgd : o.guard = none) (s x : Operand) (t e : TypeId) (z : Value) (bytes : Nat)
    (ho : o.op = .call { callee := .builtin .append, args := #[s, x], argTypes := #[t, t] })
    (ht : P.underlying t = some (.slice e)) (hinfo : (P.info? e).map (fun i => (i.zero, i.size, i.bytes)) = some (some z, 1, bytes)) (hz : z.cells.size = 1) (hb0 : 0 < bytes)
    (v : Value) (n : Nat) (xs : List Value) (y : Value) (hs : a.eval s = v) (hx : a.eval x = .slice (some ⟨W.heap.size, 0, none⟩) 1 1) (h1 : y.oneCell' = true)
    (HO : W.ownsRow base e 1 v n xs) (hbase : base ≤ W.heap.size) (hl : (n + 1) * bytes ≤ 140737488355328)
    (h : ∀ v1 w1, w1.ownsRow base e 1 v1 (n + 1) (xs ++ [y]) → W.grownBy w1 v.ownBlock → (∀ k, v.ownBlock = some k → base ≤ k) → wpList P ops Q rest (a.put o.dst v1) w1) :
    wpList P ops Q (o :: rest) a (W.alloc (.cells #[y] e)) := by
  obtain ⟨i0, hi, hzz⟩ := Option.map_eq_some_iff.1 hinfo
  simp only [Prod.mk.injEq] at hzz
  obtain ⟨hz0, hz1, hz2⟩ := hzz
  have hlen : n + 1 ≤ 140737488355328 := Nat.le_trans (Nat.le_mul_of_pos_right _ hb0) hl
  refine wpList_append_own_at (W.alloc (.cells #[y] e)) hgd s x t ho base e i0 z 1 bytes ht hi hz0 hz1 hz2 hz (by omega) v n xs hs (HO.alloc _) ⟨W.heap.size, 0, none⟩ 1 1 [y] hx rfl
    (World.news_of_block (cs := #[y]) (t := e) (fr := (0, 0)) (heap_top W _ rfl)) (by simpa using h1) (by simp only [maxLen]; omega) hl (by simp; omega) ?_
  intro v1 w1 hown hg _ _
  exact h v1 w1 hown (World.grownBy.trans (World.grownBy_alloc W _ _) hg) (fun k hk => own_base8 HO k hk)
end
theorem info_u8 : (Try.prog.info? 5).map (fun i => (i.zero, i.size, i.bytes)) = some (some (.int .u8 0), 1, 1) := by kernel_rfl

set_option maxHeartbeats 4000000 in
set_option maxRecDepth 100000 in
theorem text_d (w0 w : World) (g : Nat) (p most : Int) (h : Rd w0 w g p) (h0 : 0 ≤ p) (h1 : p ≤ 700000000000) (h2 : 0 ≤ most) (h3 : most ≤ 1000) : Calls Try.prog 72 #[.pointer (some ⟨g, 0, none⟩), .int .i64 most] w (Dr w0 w g p (most * 4 + 10) fun v => ∃ s : ByteArray, v = .string s ∧ s.size ≤ 1000) := by
  have hg := h.lt
  have hw0 := h.bel.size
  go_enter Try.func72, Try.ntmps72
  go_wp2_with fail
  refine (pick_c w0 _ g (p) (most + 1) (by repeat (first | (with_reducible assumption) | (with_reducible refine Rd.alloc ?_ _) | (with_reducible refine Rd.drew ?_) | (with_reducible refine Rd.drewN ?_ _) | (with_reducible refine Rd.own ?_ (by first | (simp; done) | (simp; omega) | omega) (by first | (simp; done) | (simp; omega) | omega) _))) (by omega) (by omega) (by omega) (by omega)).mono ?_
  rintro e w1 ⟨r1, rfl, ra1, rb1, hR1, hK1⟩
  have hKK1 : Kp g w w1 := Kp.trans (by repeat (first | (with_reducible assumption) | (with_reducible exact Kp.refl _ _) | (with_reducible refine Kp.alloc ?_ _) | (with_reducible refine Kp.drew ?_) | (with_reducible refine Kp.drewN ?_ _) | (with_reducible refine Kp.own ?_ (by first | (simp; done) | (simp; omega) | omega) _))) hK1
  have hs1 := hKK1.size
  have ho1 := Lib.hid (own_kp (lit0 w 5) hK1 hg)
  clear hK1
  go_wp2_with fail
  go_loopw [5, 6] (fun v5 v6 wr => ∃ (xs : List Int) (n q : Int), v6 = .int .i64 n ∧ 0 ≤ n ∧ n ≤ most ∧ Hid (wr.ownsRow w.heap.size 5 1 v5 xs.length (nums8 xs)) ∧ Rd w0 wr g q ∧ Kp g w wr ∧ p ≤ q ∧ q ≤ p + 1 + 4 * (most - n) ∧ (xs.length : Int) ≤ most - n) (fun _ v6 _ => (intOf v6).toNat)
  case atStart => exact ⟨[], r1, p + 1, rfl, by omega, by omega, ho1, hR1, hKK1, by omega, by omega, by simp; omega⟩
  case round =>
    obtain ⟨xs, n, q, rfl, hn0, hn1, HO, hR, hKK, hq0, hq1, hx1⟩ := hrel
    have hs := hKK.size
    clear hR1 hKK1 hs1 ho1
    by_cases hn : 0 < n
    · go_wp2_with fail
      refine (pick_c w0 _ g (q) (256) (by repeat (first | (with_reducible assumption) | (with_reducible refine Rd.alloc ?_ _) | (with_reducible refine Rd.drew ?_) | (with_reducible refine Rd.drewN ?_ _) | (with_reducible refine Rd.own ?_ (by first | (simp; done) | (simp; omega) | omega) (by first | (simp; done) | (simp; omega) | omega) _))) (by omega) (by omega) (by omega) (by omega)).mono ?_
      rintro e w2 ⟨r2, rfl, ra2, rb2, hR2, hK2⟩
      have hKK2 : Kp g w w2 := Kp.trans (by repeat (first | (with_reducible assumption) | (with_reducible exact Kp.refl _ _) | (with_reducible refine Kp.alloc ?_ _) | (with_reducible refine Kp.drew ?_) | (with_reducible refine Kp.drewN ?_ _) | (with_reducible refine Kp.own ?_ (by first | (simp; done) | (simp; omega) | omega) _))) hK2
      have hs2 := hKK2.size
      have HO2 := Lib.hid (own_kp HO.out hK2 hg)
      clear hK2
      go_wp2_with fail
      refine (pick_c w0 _ g (q + 1) (4) (by repeat (first | (with_reducible assumption) | (with_reducible refine Rd.alloc ?_ _) | (with_reducible refine Rd.drew ?_) | (with_reducible refine Rd.drewN ?_ _) | (with_reducible refine Rd.own ?_ (by first | (simp; done) | (simp; omega) | omega) (by first | (simp; done) | (simp; omega) | omega) _))) (by omega) (by omega) (by omega) (by omega)).mono ?_
      rintro e w3 ⟨r3, rfl, ra3, rb3, hR3, hK3⟩
      have hKK3 : Kp g w w3 := Kp.trans (by repeat (first | (with_reducible assumption) | (with_reducible exact Kp.refl _ _) | (with_reducible refine Kp.alloc ?_ _) | (with_reducible refine Kp.drew ?_) | (with_reducible refine Kp.drewN ?_ _) | (with_reducible refine Kp.own ?_ (by first | (simp; done) | (simp; omega) | omega) _))) hK3
      have hs3 := hKK3.size
      have HO3 := Lib.hid (own_kp HO2.out hK3 hg)
      clear hK3
      go_wp2_with fail
      refine (pick_c w0 _ g (q + 1 + 1) (5) (by repeat (first | (with_reducible assumption) | (with_reducible refine Rd.alloc ?_ _) | (with_reducible refine Rd.drew ?_) | (with_reducible refine Rd.drewN ?_ _) | (with_reducible refine Rd.own ?_ (by first | (simp; done) | (simp; omega) | omega) (by first | (simp; done) | (simp; omega) | omega) _))) (by omega) (by omega) (by omega) (by omega)).mono ?_
      rintro e w4 ⟨r4, rfl, ra4, rb4, hR4, hK4⟩
      have hKK4 : Kp g w w4 := Kp.trans (by repeat (first | (with_reducible assumption) | (with_reducible exact Kp.refl _ _) | (with_reducible refine Kp.alloc ?_ _) | (with_reducible refine Kp.drew ?_) | (with_reducible refine Kp.drewN ?_ _) | (with_reducible refine Kp.own ?_ (by first | (simp; done) | (simp; omega) | omega) _))) hK4
      have hs4 := hKK4.size
      have HO4 := Lib.hid (own_kp (own_alloc8 HO3.out _) hK4 hg)
      have hl4 := hK4.blk (heap_top w3 (.cells #[.int .i64 r2, .int .i64 r3, .int .i64 85, .int .i64 235, .int .i64 144] 3) rfl) (by omega)
      clear hK4
      obtain ⟨x, hx⟩ : ∃ x : Int, w4.cell? ⟨w3.heap.size, r4.toNat, none⟩ = some (.int .i64 x) := by
        rw [blk_cell hl4]
        rcases (by omega : r4 = 0 ∨ r4 = 1 ∨ r4 = 2 ∨ r4 = 3 ∨ r4 = 4) with rfl | rfl | rfl | rfl | rfl <;> exact ⟨_, rfl⟩
      clear hl4
      go_wp2_with (at_builtin; refine append1 w.heap.size rfl _ _ 22 5 (.int .u8 0) 1 rfl Try.underlying22 info_u8 rfl (by decide) u5 xs.length (nums8 xs) _ rfl rfl rfl HO4.out ?hb ?hl ?_; (case hb => omega); (case hl => omega); intro v5 w5 hown hgr hbs)
      have hKK5 : Kp g w w5 := kp_grown (by repeat (first | (with_reducible assumption) | (with_reducible exact Kp.refl _ _) | (with_reducible refine Kp.alloc ?_ _) | (with_reducible refine Kp.drew ?_) | (with_reducible refine Kp.drewN ?_ _) | (with_reducible refine Kp.own ?_ (by first | (simp; done) | (simp; omega) | omega) _))) hgr hbs
      have hR5 : Rd w0 w5 g (q + 1 + 1 + 1) := rd_grown hR4 hgr (fun k hk => by have := hbs k hk; omega)
      go_roundw
      case rel => exact ⟨xs ++ [_], n - 1, q + 1 + 1 + 1, rfl, by omega, by omega, Lib.hid (by simpa [nums8] using hown), hR5, hKK5, by omega, by omega, by simp; omega⟩
      case measure => simp [intOf]; omega
    · have hs := own_string8 (P := Try.prog) (src := 22) (dst := 9) Try.underlying22 Try.underlying5 Try.underlying9 HO.out
      have hsz := strOfNums_size xs
      obtain ⟨s, hs0⟩ : ∃ s, strOfNums xs = s := ⟨_, rfl⟩
      rw [hs0] at hs hsz
      clear hs0
      go_wp2_with fail
      go_ret
      exact ⟨_, q, rfl, ⟨s, rfl, by omega⟩, by omega, by omega, hR, hKK⟩

end Go.Proofs.Ytcbbebhjddphfaa
