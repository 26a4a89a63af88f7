/- What draws: shapes: slices whose cells are ints, whatever ints. -/
import Derived.Test.YtkphkkfgphhjcaaQ3
import Derived.Test.YtkphkkfgphhjcaaR5
namespace Go.Proofs.Ytkphkkfgphhjcaa
open Go.RowKit
set_option linter.unusedSimpArgs false
set_option linter.unusedVariables false

/-- Cells that are ints stay ints, in blocks from lo on. -/
structure IP (lo : Nat) (W1 W2 : World) : Prop where
  size : W1.heap.size ≤ W2.heap.size
  keep : ∀ k cur e, lo ≤ k → W1.heap[k]? = some (.cells cur e (0, 0)) → ∃ cur', W2.heap[k]? = some (.cells cur' e (0, 0)) ∧ cur'.size = cur.size ∧ ∀ (j : Nat) (x : Int), cur[j]? = some (.int .i64 x) → ∃ y : Int, cur'[j]? = some (.int .i64 y)
theorem IP.refl (lo : Nat) (W : World) : IP lo W W := ⟨Nat.le_refl _, fun k cur e _ h => ⟨cur, h, rfl, fun j x hx => ⟨x, hx⟩⟩⟩
theorem IP.trans {lo : Nat} {a b c : World} (h : IP lo a b) (k : IP lo b c) : IP lo a c := ⟨Nat.le_trans h.size k.size, fun b cur e hb hc => by
  obtain ⟨c1, h1, h2, h3⟩ := h.keep b cur e hb hc
  obtain ⟨c2, k1, k2, k3⟩ := k.keep b c1 e hb h1
  refine ⟨c2, k1, k2.trans h2, fun j x hx => ?_⟩
  obtain ⟨y, hy⟩ := h3 j x hx
  exact k3 j y hy⟩
theorem IP.of_kp {lo g : Nat} {a b : World} (h : Kp g a b) (hg : g < lo) : IP lo a b := ⟨h.size, fun k cur e hk hc => ⟨cur, h.blk hc (by omega), rfl, fun j x hx => ⟨x, hx⟩⟩⟩
theorem IP.alloc {lo : Nat} {a b : World} (h : IP lo a b) (o : Obj) : IP lo a (b.alloc o) := h.trans ⟨by simp, fun k cur e hk hc => ⟨cur, heap_up hc o, rfl, fun j x hx => ⟨x, hx⟩⟩⟩
theorem IP.drew {lo : Nat} {a b : World} (h : IP lo a b) : IP lo a b.drew := ⟨h.size, h.keep⟩
/-- A store of an int. -/
theorem IP.int {lo : Nat} {a b : World} (h : IP lo a b) (g o : Nat) (x : Int) : IP lo a (b.setCell ⟨g, o, none⟩ (.int .i64 x)) := h.trans ⟨by simp, fun k cur e hk hc => by
  by_cases he : k = g
  · subst he
    refine ⟨_, blk_put hc _ _, by simp, fun j y hy => ?_⟩
    rw [Array.getElem?_setIfInBounds]
    have hj := (Array.getElem?_eq_some_iff.1 hy).1
    by_cases h1 : o = j
    · subst h1
      exact ⟨x, by simp [hj]⟩
    · exact ⟨y, by rw [if_neg h1]; exact hy⟩
  · exact ⟨cur, blk_set hc _ _ he, rfl, fun j y hy => ⟨y, hy⟩⟩⟩
/-- A store into a cell that is no int. -/
theorem IP.other {lo : Nat} {a b : World} (h : IP lo a b) {g : Nat} {cs : Array Value} {t : TypeId} (hb : b.heap[g]? = some (.cells cs t (0, 0))) (o : Nat) (ho : ∀ x : Int, cs[o]? ≠ some (.int .i64 x)) (u : Value) : IP lo a (b.setCell ⟨g, o, none⟩ u) := h.trans ⟨by simp, fun k cur e hk hc => by
  by_cases he : k = g
  · subst he
    rw [hb] at hc
    injection hc with hc
    injection hc with c1 c2 c3
    subst c1 c2
    refine ⟨_, blk_put hb _ _, by simp, fun j y hy => ⟨y, ?_⟩⟩
    rw [Array.getElem?_setIfInBounds, if_neg (fun e => ho y (by rw [e]; exact hy))]
    exact hy
  · exact ⟨cur, blk_set hc _ _ he, rfl, fun j y hy => ⟨y, hy⟩⟩⟩

/-- A slice of elements of sz ints each. -/
def IR (lo sz : Nat) (v : Value) (n : Nat) (W : World) : Prop := ∃ A c, v = .slice A n c ∧ n ≤ c ∧ c ≤ 9223372036854775807 ∧ (n = 0 ∨ ∃ k o cur e, A = some ⟨k, o, none⟩ ∧ lo ≤ k ∧ W.heap[k]? = some (.cells cur e (0, 0)) ∧ ∀ j, j < n * sz → ∃ x : Int, cur[o + j]? = some (.int .i64 x))
theorem IR.st {lo sz n : Nat} {v : Value} {W W' : World} (h : IR lo sz v n W) (hp : IP lo W W') : IR lo sz v n W' := by
  obtain ⟨A, c, e, h1, h2, h3⟩ := h
  refine ⟨A, c, e, h1, h2, ?_⟩
  rcases h3 with h3 | ⟨k, o, cur, t, hA, hk, hb, hc⟩
  · exact .inl h3
  · obtain ⟨c2, k1, k2, k3⟩ := hp.keep k cur t hk hb
    exact .inr ⟨k, o, c2, t, hA, hk, k1, fun j hj => by obtain ⟨x, hx⟩ := hc j hj; exact k3 _ x hx⟩
theorem IR.kp {lo sz n g : Nat} {v : Value} {W W' : World} (h : IR lo sz v n W) (hp : Kp g W W') (hg : g < lo) : IR lo sz v n W' := h.st (.of_kp hp hg)
theorem IR.mono {lo lo' sz n : Nat} {v : Value} {W : World} (h : IR lo sz v n W) (hl : lo' ≤ lo) : IR lo' sz v n W := by
  obtain ⟨A, c, e, h1, h2, h3⟩ := h
  refine ⟨A, c, e, h1, h2, ?_⟩
  rcases h3 with h3 | ⟨k, o, cur, t, hA, hk, r⟩
  · exact .inl h3
  · exact .inr ⟨k, o, cur, t, hA, by omega, r⟩
theorem IR.form {lo sz n : Nat} {v : Value} {W : World} (h : IR lo sz v n W) : ∃ A c, v = .slice A n c ∧ n ≤ c ∧ c ≤ 9223372036854775807 := by
  obtain ⟨A, c, e, h1, h2, _⟩ := h
  exact ⟨A, c, e, h1, h2⟩
/-- Where it lies. -/
theorem IR.at {lo n : Nat} {v : Value} {W : World} (h : IR lo 1 v n W) (hn : 0 < n) : ∃ k o c cur e, v = .slice (some ⟨k, o, none⟩) n c ∧ n ≤ c ∧ c ≤ 9223372036854775807 ∧ lo ≤ k ∧ W.heap[k]? = some (.cells cur e (0, 0)) ∧ ∀ j, j < n → ∃ x : Int, cur[o + j]? = some (.int .i64 x) := by
  obtain ⟨A, c, e, h1, h2, h3 | ⟨k, o, cur, t, rfl, hk, hb, hc⟩⟩ := h
  · omega
  · exact ⟨k, o, c, cur, t, e, h1, h2, hk, hb, fun j hj => hc j (by omega)⟩
theorem IR.of_sl {α : Type} {enc : α → List Value} {sz lo hi : Nat} {hl : ∀ x, (enc x).length = sz} (hi9 : ∀ x, ∀ u ∈ enc x, ∃ r : Int, u = .int .i64 r) {W : World} {v : Value} {xs : List α} {fp : List Nat} (h : SL (Kd.flat enc sz hl) W v xs fp) (ho : Own W lo hi fp) : IR lo sz v xs.length W := by
  obtain ⟨A, c, e, h1, h2, h3⟩ := h
  refine ⟨A, c, e, h1, h2, ?_⟩
  rcases h3 with ⟨rfl, _⟩ | ⟨k, o, cur, t, fr, f, hA, hb, rfl, h4⟩
  · exact .inl rfl
  · obtain ⟨⟨l1, _⟩, c2, t2, hb2⟩ := ho.2 k (by simp)
    rw [hb] at hb2
    injection hb2 with hb2
    injection hb2 with b1 b2 b3
    subst b1 b2 b3
    refine .inr ⟨k, o, cur, t, hA, l1, hb, fun j hj => ?_⟩
    have hj' : j < (xs.flatMap enc).length := by rw [flat_len xs hl]; exact hj
    have h5 := cells_of_at h4 j _ (List.getElem?_eq_getElem hj')
    obtain ⟨x, hx, hu⟩ := List.mem_flatMap.1 (List.getElem_mem hj')
    obtain ⟨r, hr⟩ := hi9 x _ hu
    exact ⟨r, by rw [h5, hr]⟩
theorem encI_int : ∀ x : Int, ∀ u ∈ encI x, ∃ r : Int, u = .int .i64 r := fun x u hu => by simp [encI] at hu; exact ⟨x, hu⟩
theorem encO_int : ∀ x : Op3, ∀ u ∈ encO x, ∃ r : Int, u = .int .i64 r := fun x u hu => by
  simp [encO] at hu
  rcases hu with h | h | h <;> exact ⟨_, h⟩
theorem ints_of {cur : Array Value} : ∀ {n o : Nat}, (∀ j, j < n → ∃ x : Int, cur[o + j]? = some (.int .i64 x)) → ∃ xs : List Int, xs.length = n ∧ ∀ j u, (xs.flatMap encI)[j]? = some u → cur[o + j]? = some u
  | 0, o, _ => ⟨[], rfl, fun j u hu => by simp at hu⟩
  | n + 1, o, h => by
    obtain ⟨x, hx⟩ := h 0 (by omega)
    obtain ⟨xs, hl, hc⟩ := ints_of (n := n) (o := o + 1) (fun j hj => by
      obtain ⟨y, hy⟩ := h (j + 1) (by omega)
      exact ⟨y, by rw [← hy]; congr 1; omega⟩)
    refine ⟨x :: xs, by simp [hl], fun j u hu => ?_⟩
    cases j with
    | zero => simp [encI] at hu; rw [hx, hu]
    | succ j =>
      have := hc j u (by simpa [encI] using hu)
      rw [← this]
      congr 1
      omega
theorem ops_of {cur : Array Value} : ∀ {n o : Nat}, (∀ j, j < n * 3 → ∃ x : Int, cur[o + j]? = some (.int .i64 x)) → ∃ xs : List Op3, xs.length = n ∧ ∀ j u, (xs.flatMap encO)[j]? = some u → cur[o + j]? = some u
  | 0, o, _ => ⟨[], rfl, fun j u hu => by simp at hu⟩
  | n + 1, o, h => by
    obtain ⟨x, hx⟩ := h 0 (by omega)
    obtain ⟨y, hy⟩ := h 1 (by omega)
    obtain ⟨z, hz⟩ := h 2 (by omega)
    obtain ⟨xs, hl, hc⟩ := ops_of (n := n) (o := o + 3) (fun j hj => by
      obtain ⟨y, hy⟩ := h (j + 3) (by omega)
      exact ⟨y, by rw [← hy]; congr 1; omega⟩)
    refine ⟨(x, y, z) :: xs, by simp [hl], fun j u hu => ?_⟩
    match j, hu with
    | 0, hu => simp [encO] at hu; rw [hx, hu]
    | 1, hu => simp [encO] at hu; rw [hy, hu]
    | 2, hu => simp [encO] at hu; rw [hz, hu]
    | j + 3, hu =>
      have := hc j u (by simpa [encO] using hu)
      rw [← this]
      congr 1
      omega
theorem IR.ints {lo n : Nat} {v : Value} {W : World} (h : IR lo 1 v n W) : ∃ xs f, xs.length = n ∧ SL kI W v xs f := by
  obtain ⟨A, c, e, h1, h2, rfl | ⟨k, o, cur, t, rfl, hk, hb, hc⟩⟩ := h
  · exact ⟨[], [], rfl, A, c, e, h1, h2, .inl ⟨rfl, rfl⟩⟩
  · obtain ⟨xs, hl, hx⟩ := ints_of (n := n) (o := o) (fun j hj => hc j (by omega))
    exact ⟨xs, [k], hl, _, c, by rw [hl]; exact e, by rw [hl]; exact h1, h2, .inr ⟨k, o, cur, t, _, [], rfl, hb, rfl, at_of_cells hx⟩⟩
theorem IR.ops {lo n : Nat} {v : Value} {W : World} (h : IR lo 3 v n W) : ∃ xs f, xs.length = n ∧ SL kO W v xs f := by
  obtain ⟨A, c, e, h1, h2, rfl | ⟨k, o, cur, t, rfl, hk, hb, hc⟩⟩ := h
  · exact ⟨[], [], rfl, A, c, e, h1, h2, .inl ⟨rfl, rfl⟩⟩
  · obtain ⟨xs, hl, hx⟩ := ops_of (n := n) (o := o) hc
    exact ⟨xs, [k], hl, _, c, by rw [hl]; exact e, by rw [hl]; exact h1, h2, .inr ⟨k, o, cur, t, _, [], rfl, hb, rfl, at_of_cells hx⟩⟩
/-- A row of ints that append may grow. -/
def OR (lo : Nat) (v : Value) (n : Nat) (W : World) : Prop := ∃ xs, W.ownsRow lo 3 1 v n xs ∧ ∀ u ∈ xs, ∃ r : Int, u = .int .i64 r
theorem or_nil (lo : Nat) (W : World) : OR lo (.slice none 0 0) 0 W := ⟨[], World.ownsRow_nil _ _ _ _, fun u hu => by cases hu⟩
theorem OR.st {lo n : Nat} {v : Value} {W W' : World} (h : OR lo v n W) (hp : IP lo W W') : OR lo v n W' := by
  obtain ⟨xs, ⟨h1, h2⟩, h3⟩ := h
  rcases h2 with h2 | ⟨k, c, cur, rfl, hk, hb, hc, hm, hs, ht⟩
  · exact ⟨xs, ⟨h1, .inl h2⟩, h3⟩
  · obtain ⟨c2, k1, k2, k3⟩ := hp.keep k cur _ hk hb
    refine ⟨c2.toList.take (n * 1), ⟨by simp; omega, .inr ⟨k, c, c2, rfl, hk, k1, hc, hm, by omega, rfl⟩⟩, fun u hu => ?_⟩
    obtain ⟨j, hj, rfl⟩ := List.mem_take_iff_getElem.1 hu
    simp only [Array.length_toList] at hj
    have h4 : cur.toList[j]'(by simp; omega) ∈ xs := by
      rw [← ht]
      exact List.mem_take_iff_getElem.2 ⟨j, by simp; omega, rfl⟩
    obtain ⟨r, hr⟩ := h3 _ h4
    obtain ⟨y, hy⟩ := k3 j r (by rw [← hr, ← Array.getElem?_toList, List.getElem?_eq_getElem])
    refine ⟨y, ?_⟩
    rw [← Array.getElem?_toList, List.getElem?_eq_getElem (by simp; omega)] at hy
    simpa using hy
theorem OR.ir {lo n : Nat} {v : Value} {W : World} (h : OR lo v n W) : IR lo 1 v n W := by
  obtain ⟨xs, ⟨h1, rfl, rfl⟩ | ⟨h1, k, c, cur, rfl, hk, hb, hc, hm, hs, ht⟩, h3⟩ := (by obtain ⟨xs, ⟨h1, h2⟩, h3⟩ := h; exact ⟨xs, h2.imp (fun h => ⟨h1, h⟩) (fun h => ⟨h1, h⟩), h3⟩ : ∃ xs : List Value, ((xs.length = n * 1 ∧ v = .slice none 0 0 ∧ n = 0) ∨ (xs.length = n * 1 ∧ ∃ g cap cur, v = .slice (some ⟨g, 0, none⟩) n cap ∧ lo ≤ g ∧ W.heap[g]? = some (.cells cur 3 (0, 0)) ∧ n ≤ cap ∧ cap ≤ maxLen ∧ cur.size = cap * 1 ∧ cur.toList.take (n * 1) = xs)) ∧ ∀ u ∈ xs, ∃ r : Int, u = .int .i64 r)
  · exact ⟨none, 0, rfl, Nat.le_refl _, by omega, .inl rfl⟩
  · refine ⟨_, c, rfl, hc, by unfold maxLen at hm; omega, .inr ⟨k, 0, cur, _, rfl, hk, hb, fun j hj => ?_⟩⟩
    have h4 : cur.toList[j]'(by simp; omega) ∈ xs := by
      rw [← ht]
      exact List.mem_take_iff_getElem.2 ⟨j, by simp; omega, rfl⟩
    obtain ⟨r, hr⟩ := h3 _ h4
    exact ⟨r, by rw [← hr, ← Array.getElem?_toList, Nat.zero_add, List.getElem?_eq_getElem]⟩
theorem OR.form {lo n : Nat} {v : Value} {W : World} (h : OR lo v n W) : ∃ A c, v = .slice A n c ∧ n ≤ c ∧ c ≤ 9223372036854775807 := h.ir.form
/-- Append of one int. -/
theorem OR.app {lo n : Nat} {v : Value} {W : World} (h : OR lo v n W) (hlo : lo ≤ W.heap.size) (hn : n ≤ 1000000) (ty : TypeId) (B : Nat) (x : Int) (t : TypeId) (hB : W.heap[B]? = some (.cells #[.int .i64 x] t (0, 0))) :
    ∃ v' W', (Builtin.append_ #[24, 24] ty #[v, .slice (some ⟨B, 0, none⟩) 1 1]).run Try.prog W = .ok v' W' ∧ OR lo v' (n + 1) W' ∧ IP lo W W' ∧ W.grownBy W' v.ownBlock ∧ ∀ k, v.ownBlock = some k → lo ≤ k := by
  obtain ⟨xs, ho, hx⟩ := h
  obtain ⟨z0, hi3, hzz⟩ := Option.map_eq_some_iff.1 int_infoQ
  simp only [Prod.mk.injEq] at hzz
  obtain ⟨hi0, hi1, hi2⟩ := hzz
  have hnews : ∀ (j : Nat) (u : Value), ([.int .i64 x] : List Value)[j]? = some u → W.cell? ((⟨B, 0, none⟩ : Addr).add j) = some u := fun j u hu => by
    match j, hu with
    | 0, hu => simp at hu; subst hu; rw [show (⟨B, 0, none⟩ : Addr).add 0 = ⟨B, 0, none⟩ from rfl, blk_cell hB]; rfl
  have hone : ∀ u ∈ ([.int .i64 x] : List Value), u.oneCell' = true := by intro u hu; simp at hu; subst hu; rfl
  obtain ⟨v', W', hr, ho', hg, _, hob⟩ := run_append_own_at (P := Try.prog) W lo 24 ty 3 z0 (.int .i64 0) 1 8 Try.underlying24 hi3 hi0 hi1 hi2 rfl (by decide) v n xs ho ⟨B, 0, none⟩ 1 1 [.int .i64 x] rfl hnews hone (by unfold maxLen; omega) (by omega) hlo
  have hIP : IP lo W W' := ⟨hg.size, fun k cur e hk hc => by
    by_cases hkb : v.ownBlock = some k
    · -- the row itself: grown in place
      have hkl := (Array.getElem?_eq_some_iff.1 hc).1
      rcases ho.2 with ⟨rfl, _⟩ | ⟨k0, c, cur0, rfl, hk0, hb, hcn, hm, hs, ht⟩
      · simp [Value.ownBlock] at hkb
      · have e0 : k0 = k := by simpa [Value.ownBlock] using hkb
        subst e0
        have hc' := hc
        rw [hb] at hc'
        injection hc' with hc'
        injection hc' with b1 b2
        subst b1 b2
        by_cases hroom : n + 1 ≤ c
        · have hr2 := run_append_room (P := Try.prog) W 24 ty 3 z0 Try.underlying24 hi3 k0 n c cur0 hb ⟨B, 0, none⟩ 1 1 [.int .i64 x] (by rw [hi1]; rfl) hnews hone hroom (by rw [hi1, hs]; simp; omega)
          rw [hr] at hr2
          injection hr2 with _ hr2
          subst hr2
          rw [hi1]
          refine ⟨_, setRow_heap _ _ _ _ _ _ hb, by simp; omega, fun j y hy => ?_⟩
          have hj := (Array.getElem?_eq_some_iff.1 hy).1
          rw [← Array.getElem?_toList] at hy ⊢
          simp only [Nat.mul_one, List.append_assoc, List.length_cons, List.length_nil]
          rcases Nat.lt_trichotomy j n with h1 | h1 | h1
          · exact ⟨y, by rw [List.getElem?_append_left (by simp; omega), List.getElem?_take, if_pos h1]; exact hy⟩
          · subst h1
            exact ⟨x, by rw [List.getElem?_append_right (by simp; omega)]; simp [Nat.min_eq_left (by omega : j ≤ cur0.size)]⟩
          · refine ⟨y, ?_⟩
            rw [List.getElem?_append_right (by simp; omega), List.getElem?_append_right (by simp; omega), List.getElem?_drop]
            have hmn : min n cur0.size = n := by omega
            simp only [List.length_take, Array.length_toList, List.length_cons, List.length_nil, hmn]
            have e1 : n + (0 + 1) + (j - n - (0 + 1)) = j := by omega
            rw [e1]
            exact hy
        · have hr2 := run_append_grow (P := Try.prog) W 24 ty 3 z0 (.int .i64 0) Try.underlying24 hi3 hi0 ⟨k0, 0, none⟩ n c xs (by rw [hi1]; exact ho.1) (ho.cells (g := k0) rfl) ⟨B, 0, none⟩ 1 1 [.int .i64 x] (by rw [hi1]; rfl) hnews (by omega) (by omega) (growslice_fits (by omega) (by rw [hi2]; omega))
          rw [hr] at hr2
          injection hr2 with _ hr2
          subst hr2
          exact ⟨cur0, heap_up (W := W.drew) hc _, rfl, fun j y hy => ⟨y, hy⟩⟩
    · exact ⟨cur, (hg.block k (Array.getElem?_eq_some_iff.1 hc).1 (fun e => hkb e.symm)).trans hc, rfl, fun j x hx => ⟨x, hx⟩⟩⟩
  refine ⟨v', W', hr, ⟨_, ho', fun u hu => ?_⟩, hIP, hg, fun k hk => (ho.lt k hk).1⟩
  rcases List.mem_append.1 hu with hu | hu
  · exact hx u hu
  · simp at hu
    exact ⟨x, hu⟩
end Go.Proofs.Ytkphkkfgphhjcaa
