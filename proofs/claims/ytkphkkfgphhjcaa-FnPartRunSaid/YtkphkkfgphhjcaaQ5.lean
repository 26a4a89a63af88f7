/- What draws: what a draw has in the making, through a region; a part in the making. -/
import Derived.Test.YtkphkkfgphhjcaaQ4
namespace Go.Proofs.Ytkphkkfgphhjcaa
open Go.RowKit
set_option linter.unusedSimpArgs false
set_option linter.unusedVariables false

/-- A drawing: the reader at a place in a..b, nothing of before changed but the reader; F of the rest. -/
def DI (w0 w : World) (g : Nat) (a b : Int) (F : World → Prop) (W : World) : Prop := ∃ q, Rd w0 W g q ∧ a ≤ q ∧ q ≤ b ∧ Kp g w W ∧ F W
/-- A list of n ints of one's own. -/
def LI (lo n : Nat) (v : Value) (W : World) : Prop := ∃ A cs, v = .slice (some ⟨A, 0, none⟩) n n ∧ lo ≤ A ∧ cs.size = n ∧ (∀ (j : Nat) (u : Value), cs[j]? = some u → ∃ r : Int, u = .int .i64 r) ∧ W.heap[A]? = some (.cells cs 3 (0, 0))
theorem LI.st {lo n : Nat} : StableV (IP lo) (LI lo n) := fun v W W' hp h => by
  obtain ⟨A, cs, e, hl, hs, hi, hb⟩ := h
  obtain ⟨c2, k1, k2, k3⟩ := hp.keep A cs _ hl hb
  refine ⟨A, c2, e, hl, by omega, fun j u hu => ?_, k1⟩
  have hj := (Array.getElem?_eq_some_iff.1 hu).1
  obtain ⟨r, hr⟩ := hi j _ (Array.getElem?_eq_getElem (by omega))
  obtain ⟨y, hy⟩ := k3 j r (by rw [Array.getElem?_eq_getElem (by omega), hr])
  rw [hu] at hy
  exact ⟨y, Option.some.inj hy⟩
theorem IR.stv {lo sz n : Nat} : StableV (IP lo) (fun v W => IR lo sz v n W) := fun v W W' hp h => h.st hp
theorem OR.stv {lo n : Nat} : StableV (IP lo) (fun v W => OR lo v n W) := fun v W W' hp h => h.st hp
theorem isI_of {l : List Int} : ∀ (j : Nat) (u : Value), ((l.map (.int .i64)).toArray : Array Value)[j]? = some u → ∃ r : Int, u = .int .i64 r := fun j u hu => by
  simp at hu
  obtain ⟨r, _, rfl⟩ := hu
  exact ⟨r, rfl⟩
section
variable {w0 w W : World} {g : Nat} {a b : Int} {F : World → Prop}
theorem DI.mono (h : DI w0 w g a b F W) {a' b' : Int} (ha : a' ≤ a) (hb : b ≤ b') : DI w0 w g a' b' F W := by
  obtain ⟨q, h1, h2, h3, h4⟩ := h
  exact ⟨q, h1, by omega, by omega, h4⟩
theorem DI.up {t : Nat} (h : DI w0 w g a (b + t) F W) : DI w0 w g a (b + (t + 1 : Nat)) F W := h.mono (by omega) (by omega)
theorem DI.up' {t : Nat} (h : DI w0 w g a (b + t + 1) F W) : DI w0 w g a (b + (t + 1 : Nat)) F W := h.mono (by omega) (by omega)
theorem DI.f (h : DI w0 w g a b F W) : F W := by
  obtain ⟨q, h1, h2, h3, h4, h5⟩ := h
  exact h5
theorem DI.kp (h : DI w0 w g a b F W) : Kp g w W := by
  obtain ⟨q, h1, h2, h3, h4, h5⟩ := h
  exact h4
theorem DI.imp (h : DI w0 w g a b F W) {G : World → Prop} (hg : F W → G W) : DI w0 w g a b G W := by
  obtain ⟨q, h1, h2, h3, h4, h5⟩ := h
  exact ⟨q, h1, h2, h3, h4, hg h5⟩
theorem DI.alloc (h : DI w0 w g a b F W) (o : Obj) (hF : F W → F (W.alloc o)) : DI w0 w g a b F (W.alloc o) := by
  obtain ⟨q, h1, h2, h3, h4, h5⟩ := h
  exact ⟨q, h1.alloc o, h2, h3, h4.alloc o, hF h5⟩
theorem DI.drew (h : DI w0 w g a b F W) (hF : F W → F W.drew) : DI w0 w g a b F W.drew := by
  obtain ⟨q, h1, h2, h3, h4, h5⟩ := h
  exact ⟨q, h1.drew, h2, h3, h4.drew, hF h5⟩
theorem DI.own (h : DI w0 w g a b F W) {k o : Nat} (hk : w.heap.size ≤ k) (hw : w0.heap.size ≤ w.heap.size) (hg : g < w.heap.size) (u : Value) {G : World → Prop} (hF : F W → G (W.setCell ⟨k, o, none⟩ u)) : DI w0 w g a b G (W.setCell ⟨k, o, none⟩ u) := by
  obtain ⟨q, h1, h2, h3, h4, h5⟩ := h
  exact ⟨q, h1.own (by show w0.heap.size ≤ k; omega) (by show g ≠ k; omega) u, h2, h3, h4.own (by show _ ≤ k; omega) u, hF h5⟩
theorem DI.grown (h : DI w0 w g a b F W) {W' : World} {row : Option Nat} (hg : W.grownBy W' row) (hr : ∀ k, row = some k → w.heap.size ≤ k) (hw : w0.heap.size ≤ w.heap.size) (hgl : g < w.heap.size) {G : World → Prop} (hF : F W → G W') : DI w0 w g a b G W' := by
  obtain ⟨q, h1, h2, h3, h4, h5⟩ := h
  exact ⟨q, rd_grown h1 hg (fun k hk => ⟨by have := hr k hk; omega, by have := hr k hk; omega⟩), h2, h3, kp_grown h4 hg hr, hF h5⟩
theorem DI.pick (h : DI w0 w g a b F W) (hF : ∀ W W', Kp g W W' → F W → F W') (n : Int) (ha : 0 ≤ a) (hb : b ≤ 1000000000000) (h2 : 1 ≤ n) (h3 : n ≤ 9000000000000000000) : Calls Try.prog 35 #[.pointer (some ⟨g, 0, none⟩), .int .i64 n] W fun e W' => ∃ r : Int, e = .returned (.int .i64 r) ∧ 0 ≤ r ∧ r < n ∧ DI w0 w g a (b + 1) F W' ∧ Kp g W W' := by
  obtain ⟨q, h1, e2, e3, h4, h5⟩ := h
  refine (pick_c w0 W g q n h1 (by omega) (by omega) h2 h3).mono ?_
  rintro e W' ⟨r, rfl, r0, r1, hR, hK⟩
  exact ⟨r, rfl, r0, r1, ⟨q + 1, hR, by omega, by omega, h4.trans hK, hF _ _ hK h5⟩, hK⟩
theorem DI.one (h : DI w0 w g a b F W) (hF : ∀ W W', Kp g W W' → F W → F W') {v : Value} {n lo : Nat} (hv : LI lo n v W) (hgl : g < lo) (ha : 0 ≤ a) (hb : b ≤ 1000000000000) (h2 : 1 ≤ n) (h3 : n ≤ 9000000000000000000) : Calls Try.prog 57 #[.pointer (some ⟨g, 0, none⟩), v] W fun e W' => ∃ r : Int, e = .returned (.int .i64 r) ∧ DI w0 w g a (b + 1) F W' ∧ Kp g W W' := by
  obtain ⟨q, h1, e2, e3, h4, h5⟩ := h
  obtain ⟨A, cs, rfl, hl, hs, hi, hbk⟩ := hv
  refine (one_c w0 W g q A cs n h1 (by omega) (by omega) hbk (by omega) hs h2 (by omega) (fun v => ∃ r : Int, v = .int .i64 r) hi).mono ?_
  rintro e W' ⟨v, rfl, ⟨r, rfl⟩, hR, hK⟩
  exact ⟨r, rfl, ⟨q + 1, hR, by omega, by omega, h4.trans hK, hF _ _ hK h5⟩, hK⟩
end
/-- The result's block. -/
def ZB (lo : Nat) (W : World) : Prop := ∃ x : Int, W.heap[lo]? = some (.cells #[.slice none 0 0, .slice none 0 0, .int .i64 x, .bool false, .slice none 0 0] 26 (0, 0))
theorem ZB.st {lo : Nat} {W W' : World} (h : ZB lo W) (hp : W'.heap[lo]? = W.heap[lo]?) : ZB lo W' := by
  obtain ⟨x, h1⟩ := h
  exact ⟨x, hp.trans h1⟩
theorem ZB.lt {lo : Nat} {W : World} (h : ZB lo W) : lo < W.heap.size := by
  obtain ⟨x, h1⟩ := h
  exact (Array.getElem?_eq_some_iff.1 h1).1
theorem ZB.int {lo : Nat} {W : World} (h : ZB lo W) {k o : Nat} {cs : Array Value} {t : TypeId} (hk : W.heap[k]? = some (.cells cs t (0, 0))) (ho : ∃ y : Int, cs[o]? = some (.int .i64 y)) (x : Int) : ZB lo (W.setCell ⟨k, o, none⟩ (.int .i64 x)) := by
  by_cases e : lo = k
  · subst e
    obtain ⟨z, h0⟩ := h
    rw [h0] at hk
    injection hk with hk
    injection hk with k1 k2
    subst k1
    obtain ⟨y, hy⟩ := ho
    have hlt := (Array.getElem?_eq_some_iff.1 hy).1
    simp at hlt
    rcases (by omega : o = 0 ∨ o = 1 ∨ o = 2 ∨ o = 3 ∨ o = 4) with rfl | rfl | rfl | rfl | rfl
    · simp at hy
    · simp at hy
    · exact ⟨x, blk_put h0 2 _⟩
    · simp at hy
    · simp at hy
  · exact h.st (Below.heap_setCell W _ _ _ e)
/-- A part in the making, in block B. -/
def PJ (lo B n1 n2 : Nat) (N3 : Nat → Value → Prop) (W : World) : Prop := ∃ (u1 u2 u3 : Value) (pc : Int) (fl : Bool) (n3 : Nat), W.heap[B]? = some (.cells #[u1, u2, .int .i64 pc, .bool fl, u3] 26 (0, 0)) ∧ IR lo 3 u1 n1 W ∧ IR lo 1 u2 n2 W ∧ OR lo u3 n3 W ∧ N3 n3 u3 ∧ ZB lo W ∧ lo ≠ B
section
variable {W W' : World} {lo B n1 n2 : Nat} {N3 : Nat → Value → Prop}
theorem PJ.st (h : PJ lo B n1 n2 N3 W) (hp : IP lo W W') (hb : W'.heap[B]? = W.heap[B]?) (hb2 : W'.heap[lo]? = W.heap[lo]?) : PJ lo B n1 n2 N3 W' := by
  obtain ⟨u1, u2, u3, pc, fl, n3, h0, h1, h2, h3, h4, hz, hne⟩ := h
  exact ⟨u1, u2, u3, pc, fl, n3, hb.trans h0, h1.st hp, h2.st hp, h3.st hp, h4, hz.st hb2, hne⟩
theorem PJ.lt (h : PJ lo B n1 n2 N3 W) : B < W.heap.size := by
  obtain ⟨u1, u2, u3, pc, fl, n3, h0, _⟩ := h
  exact (Array.getElem?_eq_some_iff.1 h0).1
theorem PJ.zlt (h : PJ lo B n1 n2 N3 W) : lo < W.heap.size := by
  obtain ⟨u1, u2, u3, pc, fl, n3, h0, h1, h2, h3, h4, hz, hne⟩ := h
  exact hz.lt
theorem PJ.kp {g : Nat} (h : PJ lo B n1 n2 N3 W) (hp : Kp g W W') (hg : g < lo) (hB : lo ≤ B) : PJ lo B n1 n2 N3 W' := h.st (.of_kp hp hg) (hp.block B h.lt (by omega)) (hp.block lo h.zlt (by omega))
theorem PJ.alloc (h : PJ lo B n1 n2 N3 W) (o : Obj) : PJ lo B n1 n2 N3 (W.alloc o) := h.st ((IP.refl _ _).alloc o) (Below.heap_alloc W o B h.lt) (Below.heap_alloc W o lo h.zlt)
theorem PJ.drew (h : PJ lo B n1 n2 N3 W) : PJ lo B n1 n2 N3 W.drew := h.st ((IP.refl _ _).drew) rfl rfl
/-- A store of an int where an int is. -/
theorem PJ.int (h : PJ lo B n1 n2 N3 W) {k o : Nat} {cs : Array Value} {t : TypeId} (hk : W.heap[k]? = some (.cells cs t (0, 0))) (ho : ∃ y : Int, cs[o]? = some (.int .i64 y)) (x : Int) : PJ lo B n1 n2 N3 (W.setCell ⟨k, o, none⟩ (.int .i64 x)) := by
  obtain ⟨u1, u2, u3, pc, fl, n3, h0, h1, h2, h3, h4, hz, hne⟩ := h
  have hp : IP lo W (W.setCell ⟨k, o, none⟩ (.int .i64 x)) := (IP.refl _ _).int k o x
  have hz' := hz.int hk ho x
  by_cases e : B = k
  · subst e
    rw [h0] at hk
    injection hk with hk
    injection hk with k1 k2
    subst k1
    obtain ⟨y, hy⟩ := ho
    have hlt := (Array.getElem?_eq_some_iff.1 hy).1
    simp at hlt
    obtain ⟨_, _, rfl, _⟩ := h1.form
    obtain ⟨_, _, rfl, _⟩ := h2.form
    obtain ⟨_, _, rfl, _⟩ := h3.form
    rcases (by omega : o = 0 ∨ o = 1 ∨ o = 2 ∨ o = 3 ∨ o = 4) with rfl | rfl | rfl | rfl | rfl
    · simp at hy
    · simp at hy
    · exact ⟨_, _, _, x, fl, n3, blk_put h0 2 _, h1.st hp, h2.st hp, h3.st hp, h4, hz', hne⟩
    · simp at hy
    · simp at hy
  · exact ⟨u1, u2, u3, pc, fl, n3, blk_set h0 _ _ e, h1.st hp, h2.st hp, h3.st hp, h4, hz', hne⟩
end
end Go.Proofs.Ytkphkkfgphhjcaa
