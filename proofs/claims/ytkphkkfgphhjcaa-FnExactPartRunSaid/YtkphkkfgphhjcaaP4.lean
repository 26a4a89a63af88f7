/- Copies: slices.Clone; a part's kinds. -/
import Derived.Test.YtkphkkfgphhjcaaP3
import Derived.Test.YtkphkkfgphhjcaaK0
import Derived.Laws.Slices
namespace Go.Proofs.Ytkphkkfgphhjcaa
open Go.RowKit
set_option linter.unusedSimpArgs false
set_option linter.unusedVariables false

def encO (p : Op3) : List Value := [.int .i64 p.1, .int .i64 p.2.1, .int .i64 p.2.2]
def kO : Kd Op3 := Kd.flat encO 3 (fun _ => rfl)
theorem SL.ints {W : World} {A : Option Addr} {n c : Nat} {xs : List Int} {fp : List Nat} (h : SL kI W (.slice A n c) xs fp) : Ints W A n c xs := by
  obtain ⟨A', c', h0, h1, h2⟩ := h.form
  injection h0 with e1 e2 e3
  subst e1 e2 e3
  refine ⟨⟨rfl, h1, h2⟩, fun j x hj => ?_⟩
  obtain ⟨y, g, o, cs, f, k1, rfl, _, k2, _, k3⟩ := h.get (i := j) (List.getElem?_eq_some_iff.1 hj).1
  rw [hj] at k1
  injection k1 with k1
  subst k1
  refine ⟨_, rfl, ?_⟩
  have hadd : (⟨g, o, none⟩ : Addr).add j = ⟨g, o + j, none⟩ := by unfold Addr.add; split <;> simp_all
  have k4 := k3 0 (by decide)
  rw [k2.1] at k4
  rw [hadd]
  simpa [kI, Kd.flat, encI] using k4
theorem SL.ops {W : World} {A : Option Addr} {n c : Nat} {xs : List Op3} {fp : List Nat} (h : SL kO W (.slice A n c) xs fp) : Ops W A n c xs := by
  obtain ⟨A', c', h0, h1, h2⟩ := h.form
  injection h0 with e1 e2 e3
  subst e1 e2 e3
  refine ⟨⟨rfl, h1, h2⟩, fun j x hj => ?_⟩
  obtain ⟨y, g, o, cs, f, k1, rfl, _, k2, _, k3⟩ := h.get (i := j) (List.getElem?_eq_some_iff.1 hj).1
  rw [hj] at k1
  injection k1 with k1
  subst k1
  have hsz : kO.sz = 3 := rfl
  rw [k2.1, hsz] at k3
  exact ⟨g, o, rfl, k3 0 (by decide), k3 1 (by decide), k3 2 (by decide)⟩
theorem row0 (W : World) (e : TypeId) (size : Nat) (hs : 0 < size) : (W.alloc (.cells #[] e)).ownsRow W.heap.size e size (.slice (some ⟨W.heap.size, 0, none⟩) 0 0) 0 [] := by
  have h := World.ownsRow_lit (base := W.heap.size) (e := e) (size := size) W #[] 0 (Nat.le_refl _) (by simp [maxLen]) (by simp)
  simpa using h
/-- A slice that is made: it reads as a list, in memory of its own. -/
def NewSL {α : Type} (d : Kd α) (w : World) (xs : List α) (e : Ending) (w' : World) : Prop := ∃ A c fp, e = .returned (.slice A xs.length c) ∧ Has w.heap.size w'.heap.size w' (SLn d w.heap.size w'.heap.size (.slice A xs.length c) xs fp) ∧ Below w.heap.size w w'
theorem newSL_mk {α : Type} {d : Kd α} {w w' : World} {xs : List α} {v : Value} {fp : List Nat} (h : SL d w' v xs fp) (ho : Own w' w.heap.size w'.heap.size fp) (hb : Below w.heap.size w w') : NewSL d w xs (.returned v) w' := by
  obtain ⟨A, c, rfl, _⟩ := h.form
  exact ⟨A, c, fp, rfl, has_new h ho, hb⟩
theorem cloneI_c_info : (Try.prog.info? 3).map (fun i => (i.zero, i.size, i.bytes)) = some (some (.int .i64 0), 1, 8) := by kernel_rfl
set_option maxHeartbeats 1000000 in
set_option maxRecDepth 100000 in
theorem cloneI_c (v : Value) (xs : List Int) (fp : List Nat) (w : World) (h : SL kI w v xs fp) (hn : xs.length ≤ 10000000) : Calls Try.prog 60 #[v] w (NewSL kI w xs) := by
  obtain ⟨A, c, rfl, h1, h2⟩ := h.form
  have hC := Lib.hid h
  have hl : xs.length = xs.length := rfl
  obtain ⟨n, hn'⟩ : ∃ n, n = xs.length := ⟨_, rfl⟩
  rw [← hn'] at hC hn h1 ⊢
  clear h
  replace hn' := Lib.hid hn'
  obtain ⟨i0, hi, hzz⟩ := Option.map_eq_some_iff.1 cloneI_c_info
  simp only [Prod.mk.injEq] at hzz
  obtain ⟨hz0, hz1, hz2⟩ := hzz
  replace hi := Lib.hid hi
  replace hz0 := Lib.hid hz0
  replace hz1 := Lib.hid hz1
  replace hz2 := Lib.hid hz2
  cases A with
  | none =>
    have hcmp : ∀ W : World, (binOp BinOp.eql 24 (.slice none n c) (.slice none 0 0)).run Try.prog W = .ok (.bool true) W := fun _ => by first | rfl | kernel_rfl
    have hx : xs = [] := by
      obtain ⟨A', c', q0, _, _, q | ⟨g, o, cur, e, fr, f, q, _⟩⟩ := hC.out
      · exact q.1
      · subst q
        injection q0 with q1
        cases q1
    subst hx
    clear hC
    go_enter Try.func60, Try.ntmps60
    go_wp2_with fail
    go_ret
    exact newSL_mk (sl_nil _ _) (own_nil _ _ _) (Below.refl _ _)
  | some ad =>
    have hcmp : ∀ W : World, (binOp BinOp.eql 24 (.slice (some ad) n c) (.slice none 0 0)).run Try.prog W = .ok (.bool false) W := fun _ => by first | rfl | kernel_rfl
    have hnews := fun j u hu => (((Below.refl w.heap.size w).alloc (Nat.le_refl _) (.cells #[] 3)).cell (World.block_lt_of_cell? w _ (hC.out.flat_news rfl j u hu))).trans (hC.out.flat_news rfl j u hu)
    replace hnews := Lib.hid hnews
    go_enter Try.func60, Try.ntmps60
    go_wp2_with (at_builtin; refine wpList_append_own_at _ rfl _ _ 24 rfl w.heap.size 3 i0 (.int .i64 0) 1 8 Try.underlying24 hi.out hz0.out hz1.out hz2.out rfl (by decide) (.slice (some ⟨w.heap.size, 0, none⟩) 0 0) 0 [] rfl (row0 w 3 1 (by decide)) ad n c (xs.flatMap encI) rfl ?hl ?hnews ?h1 ?h63 ?hby ?hbase ?_; (case hl => rw [flat_len (sz := 1) xs (fun _ => rfl), hn'.out]); (case hnews => exact hnews.out); (case h1 => intro u hu; obtain ⟨x, _, hx⟩ := List.mem_flatMap.1 hu; simp only [encI, List.mem_cons, List.not_mem_nil, or_false] at hx; (first | (rcases hx with rfl | rfl | rfl | rfl | rfl | rfl | rfl <;> rfl) | (rcases hx with rfl | rfl | rfl | rfl | rfl | rfl <;> rfl) | (rcases hx with rfl | rfl | rfl | rfl | rfl <;> rfl) | (rcases hx with rfl | rfl | rfl | rfl <;> rfl) | (rcases hx with rfl | rfl | rfl <;> rfl) | (rcases hx with rfl | rfl <;> rfl) | (subst hx; rfl))); (case h63 => simp only [maxLen]; omega); (case hby => omega); (case hbase => simp); intro v5 w5 hown hgr hnil hob)
    go_ret
    have hb : Below w.heap.size w w5 := ((Below.refl w.heap.size w).alloc (Nat.le_refl _) _).grown hgr (by simp) (fun k hk => by simp [Value.ownBlock] at hk; omega)
    have hown2 : w5.ownsRow w.heap.size 3 1 v5 n (xs.flatMap encI) := by simpa using hown
    obtain ⟨fp', q1, q2, _⟩ := sl_of_row (enc := encI) (sz := 1) (hl := fun _ => rfl) hown2 (by decide)
    exact newSL_mk q1 q2 hb
theorem cloneO_c_info : (Try.prog.info? 44).map (fun i => (i.zero, i.size, i.bytes)) = some (some (.agg #[.int .i64 0, .int .i64 0, .int .i64 0]), 3, 24) := by kernel_rfl
set_option maxHeartbeats 1000000 in
set_option maxRecDepth 100000 in
theorem cloneO_c (v : Value) (xs : List Op3) (fp : List Nat) (w : World) (h : SL kO w v xs fp) (hn : xs.length ≤ 10000000) : Calls Try.prog 86 #[v] w (NewSL kO w xs) := by
  obtain ⟨A, c, rfl, h1, h2⟩ := h.form
  have hC := Lib.hid h
  have hl : xs.length = xs.length := rfl
  obtain ⟨n, hn'⟩ : ∃ n, n = xs.length := ⟨_, rfl⟩
  rw [← hn'] at hC hn h1 ⊢
  clear h
  replace hn' := Lib.hid hn'
  obtain ⟨i0, hi, hzz⟩ := Option.map_eq_some_iff.1 cloneO_c_info
  simp only [Prod.mk.injEq] at hzz
  obtain ⟨hz0, hz1, hz2⟩ := hzz
  replace hi := Lib.hid hi
  replace hz0 := Lib.hid hz0
  replace hz1 := Lib.hid hz1
  replace hz2 := Lib.hid hz2
  cases A with
  | none =>
    have hcmp : ∀ W : World, (binOp BinOp.eql 23 (.slice none n c) (.slice none 0 0)).run Try.prog W = .ok (.bool true) W := fun _ => by first | rfl | kernel_rfl
    have hx : xs = [] := by
      obtain ⟨A', c', q0, _, _, q | ⟨g, o, cur, e, fr, f, q, _⟩⟩ := hC.out
      · exact q.1
      · subst q
        injection q0 with q1
        cases q1
    subst hx
    clear hC
    go_enter Try.func86, Try.ntmps86
    go_wp2_with fail
    go_ret
    exact newSL_mk (sl_nil _ _) (own_nil _ _ _) (Below.refl _ _)
  | some ad =>
    have hcmp : ∀ W : World, (binOp BinOp.eql 23 (.slice (some ad) n c) (.slice none 0 0)).run Try.prog W = .ok (.bool false) W := fun _ => by first | rfl | kernel_rfl
    have hnews := fun j u hu => (((Below.refl w.heap.size w).alloc (Nat.le_refl _) (.cells #[] 44)).cell (World.block_lt_of_cell? w _ (hC.out.flat_news rfl j u hu))).trans (hC.out.flat_news rfl j u hu)
    replace hnews := Lib.hid hnews
    go_enter Try.func86, Try.ntmps86
    go_wp2_with (at_builtin; refine wpList_append_own_at _ rfl _ _ 23 rfl w.heap.size 44 i0 (.agg #[.int .i64 0, .int .i64 0, .int .i64 0]) 3 24 Try.underlying23 hi.out hz0.out hz1.out hz2.out rfl (by decide) (.slice (some ⟨w.heap.size, 0, none⟩) 0 0) 0 [] rfl (row0 w 44 3 (by decide)) ad n c (xs.flatMap encO) rfl ?hl ?hnews ?h1 ?h63 ?hby ?hbase ?_; (case hl => rw [flat_len (sz := 3) xs (fun _ => rfl), hn'.out]); (case hnews => exact hnews.out); (case h1 => intro u hu; obtain ⟨x, _, hx⟩ := List.mem_flatMap.1 hu; simp only [encO, List.mem_cons, List.not_mem_nil, or_false] at hx; (first | (rcases hx with rfl | rfl | rfl | rfl | rfl | rfl | rfl <;> rfl) | (rcases hx with rfl | rfl | rfl | rfl | rfl | rfl <;> rfl) | (rcases hx with rfl | rfl | rfl | rfl | rfl <;> rfl) | (rcases hx with rfl | rfl | rfl | rfl <;> rfl) | (rcases hx with rfl | rfl | rfl <;> rfl) | (rcases hx with rfl | rfl <;> rfl) | (subst hx; rfl))); (case h63 => simp only [maxLen]; omega); (case hby => omega); (case hbase => simp); intro v5 w5 hown hgr hnil hob)
    go_ret
    have hb : Below w.heap.size w w5 := ((Below.refl w.heap.size w).alloc (Nat.le_refl _) _).grown hgr (by simp) (fun k hk => by simp [Value.ownBlock] at hk; omega)
    have hown2 : w5.ownsRow w.heap.size 44 3 v5 n (xs.flatMap encO) := by simpa using hown
    obtain ⟨fp', q1, q2, _⟩ := sl_of_row (enc := encO) (sz := 3) (hl := fun _ => rfl) hown2 (by decide)
    exact newSL_mk q1 q2 hb

end Go.Proofs.Ytkphkkfgphhjcaa
