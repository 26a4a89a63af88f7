/- Data in memory: kinds, lists in rows, what is one's own. -/
import Derived.Test.YtkphkkfgphhjcaaR0
import Derived.OwnWalk
import Derived.Laws.MakeOwn
import Derived.Maps.AppendAt
import Derived.Deep.AppendLies
namespace Go.Proofs.Ytkphkkfgphhjcaa
open Go.RowKit
set_option linter.unusedSimpArgs false
set_option linter.unusedVariables false

/-- Nothing but the blocks of S, and new ones, has changed. -/
structure Kept (S : List Nat) (w w' : World) : Prop where
  os : w'.os = w.os
  tape : w'.tape = w.tape
  output : w'.output = w.output
  size : w.heap.size ≤ w'.heap.size
  block : ∀ b, b < w.heap.size → b ∉ S → w'.heap[b]? = w.heap[b]?
theorem Kept.refl (S : List Nat) (w : World) : Kept S w w := ⟨rfl, rfl, rfl, Nat.le_refl _, fun _ _ _ => rfl⟩
theorem Kept.trans {S T : List Nat} {a b c : World} (h : Kept S a b) (k : Kept T b c) (hT : ∀ x ∈ T, x ∈ S ∨ a.heap.size ≤ x) : Kept S a c :=
  ⟨k.os.trans h.os, k.tape.trans h.tape, k.output.trans h.output, Nat.le_trans h.size k.size, fun i hi hne => (k.block i (Nat.lt_of_lt_of_le hi h.size) (fun hm => by rcases hT i hm with h | h; exact hne h; omega)).trans (h.block i hi hne)⟩
theorem Kept.of_below {w w' : World} (h : Below w.heap.size w w') (S : List Nat) : Kept S w w' := ⟨h.os, h.tape, h.output, h.size, fun b hb _ => h.block b hb⟩
theorem Kept.below {S : List Nat} {w w' : World} (h : Kept S w w') {B : Nat} (hS : ∀ b ∈ S, B ≤ b) (hB : B ≤ w.heap.size) : Below B w w' :=
  ⟨h.os, h.tape, h.output, h.size, fun b hb => h.block b (Nat.lt_of_lt_of_le hb hB) (fun hm => by have := hS b hm; omega)⟩
theorem Kept.mono {S T : List Nat} {w w' : World} (h : Kept S w w') (hT : ∀ x ∈ S, x ∈ T) : Kept T w w' := ⟨h.os, h.tape, h.output, h.size, fun b hb hn => h.block b hb (fun hm => hn (hT b hm))⟩
theorem Kept.drew {S : List Nat} {a b : World} (h : Kept S a b) : Kept S a b.drew := ⟨h.os, h.tape, h.output, h.size, h.block⟩
theorem Kept.alloc {S : List Nat} {a b : World} (h : Kept S a b) (o : Obj) : Kept S a (b.alloc o) := h.trans (T := []) (Kept.of_below ((Below.refl _ _).alloc (Nat.le_refl _) o) _) (fun x hx => by cases hx)
theorem Kept.set {S : List Nat} {a b : World} (h : Kept S a b) {p : Addr} (hp : p.block ∈ S ∨ a.heap.size ≤ p.block) (u : Value) : Kept S a (b.setCell p u) :=
  ⟨h.os, h.tape, h.output, by have := h.size; simpa using this, fun i hi hne => by rw [Below.heap_setCell b p u i (fun e => by subst e; rcases hp with h | h; exact hne h; omega)]; exact h.block i hi hne⟩

/-- A kind of data: how many cells it has; what stands in them, and in which blocks. -/
structure Kd (α : Type) where
  sz : Nat
  K : World → α → List Value → List Nat → Prop
  len : ∀ W x cs fp, K W x cs fp → cs.length = sz
  lt : ∀ W x cs fp, K W x cs fp → ∀ b ∈ fp, b < W.heap.size
  keep : ∀ W W' x cs fp, K W x cs fp → (∀ b ∈ fp, W'.heap[b]? = W.heap[b]?) → K W' x cs fp
section
variable {α : Type} {d : Kd α} {W W' : World}
/-- Elements side by side in a block's cells, from o on. -/
def At (d : Kd α) (W : World) (cur : Array Value) : Nat → List α → List Nat → Prop
  | _, [], fp => fp = []
  | o, x :: r, fp => ∃ cs f1 f2, d.K W x cs f1 ∧ (∀ j, j < d.sz → cur[o + j]? = cs[j]?) ∧ fp = f1 ++ f2 ∧ At d W cur (o + d.sz) r f2
theorem At.lt {cur : Array Value} : ∀ {o : Nat} {xs : List α} {fp : List Nat}, At d W cur o xs fp → ∀ b ∈ fp, b < W.heap.size
  | _, [], fp, h, b, hb => by simp only [At] at h; subst h; cases hb
  | _, x :: r, fp, h, b, hb => by
    obtain ⟨cs, f1, f2, h1, _, rfl, h2⟩ := h
    rcases List.mem_append.1 hb with hb | hb
    · exact d.lt _ _ _ _ h1 b hb
    · exact h2.lt b hb
theorem At.keep {cur : Array Value} : ∀ {o : Nat} {xs : List α} {fp : List Nat}, At d W cur o xs fp → (∀ b ∈ fp, W'.heap[b]? = W.heap[b]?) → At d W' cur o xs fp
  | _, [], fp, h, _ => h
  | _, x :: r, fp, h, hk => by
    obtain ⟨cs, f1, f2, h1, h0, rfl, h2⟩ := h
    exact ⟨cs, f1, f2, d.keep _ _ _ _ _ h1 (fun b hb => hk b (List.mem_append_left _ hb)), h0, rfl, h2.keep (fun b hb => hk b (List.mem_append_right _ hb))⟩
theorem At.get {cur : Array Value} : ∀ {o : Nat} {xs : List α} {fp : List Nat}, At d W cur o xs fp → ∀ {i : Nat} {x : α}, xs[i]? = some x → ∃ cs f, d.K W x cs f ∧ (∀ b ∈ f, b ∈ fp) ∧ ∀ j, j < d.sz → cur[o + i * d.sz + j]? = cs[j]?
  | _, [], fp, h, i, x, hx => by simp at hx
  | o, y :: r, fp, h, 0, x, hx => by
    obtain ⟨cs, f1, f2, h1, h0, rfl, h2⟩ := h
    simp at hx
    subst hx
    exact ⟨cs, f1, h1, fun b hb => List.mem_append_left _ hb, by simpa using h0⟩
  | o, y :: r, fp, h, i + 1, x, hx => by
    obtain ⟨cs, f1, f2, h1, h0, rfl, h2⟩ := h
    obtain ⟨c2, f, k1, k2, k3⟩ := h2.get (i := i) (x := x) (by simpa using hx)
    refine ⟨c2, f, k1, fun b hb => List.mem_append_right _ (k2 b hb), fun j hj => ?_⟩
    rw [← k3 j hj]
    congr 1
    rw [Nat.add_mul]
    omega
theorem At.cur {cur cur2 : Array Value} : ∀ {o : Nat} {xs : List α} {fp : List Nat}, At d W cur o xs fp → (∀ j, j < xs.length * d.sz → cur2[o + j]? = cur[o + j]?) → At d W cur2 o xs fp
  | _, [], fp, h, _ => h
  | o, x :: r, fp, h, hk => by
    obtain ⟨cs, f1, f2, h1, h0, rfl, h2⟩ := h
    refine ⟨cs, f1, f2, h1, fun j hj => ?_, rfl, h2.cur (fun j hj => ?_)⟩
    · rw [hk j (by simp only [List.length_cons, Nat.add_mul]; omega)]
      exact h0 j hj
    · have := hk (d.sz + j) (by simp only [List.length_cons, Nat.add_mul]; omega)
      rwa [← Nat.add_assoc] at this
theorem At.append {cur : Array Value} : ∀ {o : Nat} {xs ys : List α} {f1 f2 : List Nat}, At d W cur o xs f1 → At d W cur (o + xs.length * d.sz) ys f2 → At d W cur o (xs ++ ys) (f1 ++ f2)
  | o, [], ys, f1, f2, h, h2 => by
    simp only [At] at h
    subst h
    simpa using h2
  | o, x :: r, ys, f1, f2, h, h2 => by
    obtain ⟨cs, g1, g2, h1, h0, rfl, h3⟩ := h
    refine ⟨cs, g1, g2 ++ f2, h1, h0, List.append_assoc _ _ _, h3.append ?_⟩
    rw [List.length_cons, Nat.add_mul] at h2
    rwa [show o + d.sz + r.length * d.sz = o + (r.length * d.sz + 1 * d.sz) by omega]

/-- A slice that reads as a list; fp: its blocks. -/
def SL (d : Kd α) (W : World) (v : Value) (xs : List α) (fp : List Nat) : Prop :=
  ∃ A c, v = .slice A xs.length c ∧ xs.length ≤ c ∧ c ≤ 9223372036854775807 ∧ ((xs = [] ∧ fp = []) ∨ ∃ g o cur e fr f, A = some ⟨g, o, none⟩ ∧ W.heap[g]? = some (.cells cur e fr) ∧ fp = g :: f ∧ At d W cur o xs f)
theorem SL.lt {v : Value} {xs : List α} {fp : List Nat} (h : SL d W v xs fp) : ∀ b ∈ fp, b < W.heap.size := by
  obtain ⟨A, c, _, _, _, ⟨_, rfl⟩ | ⟨g, o, cur, e, fr, f, _, hg, rfl, h2⟩⟩ := h <;> intro b hb
  · cases hb
  · rcases List.mem_cons.1 hb with rfl | hb
    · exact (Array.getElem?_eq_some_iff.1 hg).1
    · exact h2.lt b hb
theorem SL.keep {v : Value} {xs : List α} {fp : List Nat} (h : SL d W v xs fp) (hk : ∀ b ∈ fp, W'.heap[b]? = W.heap[b]?) : SL d W' v xs fp := by
  obtain ⟨A, c, h0, h1, h2, h3⟩ := h
  refine ⟨A, c, h0, h1, h2, ?_⟩
  rcases h3 with ⟨rfl, rfl⟩ | ⟨g, o, cur, e, fr, f, hA, hg, rfl, h4⟩
  · exact .inl ⟨rfl, rfl⟩
  · exact .inr ⟨g, o, cur, e, fr, f, hA, (hk g List.mem_cons_self).trans hg, rfl, h4.keep (fun b hb => hk b (List.mem_cons_of_mem _ hb))⟩
theorem SL.below {v : Value} {xs : List α} {fp : List Nat} (h : SL d W v xs fp) (hb : Below W.heap.size W W') : SL d W' v xs fp := h.keep (fun b hm => hb.block b (h.lt b hm))
theorem SL.kept {v : Value} {xs : List α} {fp S : List Nat} (h : SL d W v xs fp) (hb : Kept S W W') (hS : ∀ b ∈ fp, b ∉ S) : SL d W' v xs fp := h.keep (fun b hm => hb.block b (h.lt b hm) (hS b hm))
theorem sl_nil (d : Kd α) (W : World) : SL d W (.slice none 0 0) [] [] := ⟨none, 0, rfl, Nat.le_refl _, by omega, .inl ⟨rfl, rfl⟩⟩
theorem SL.form {v : Value} {xs : List α} {fp : List Nat} (h : SL d W v xs fp) : ∃ A c, v = .slice A xs.length c ∧ xs.length ≤ c ∧ c ≤ 9223372036854775807 := by
  obtain ⟨A, c, h0, h1, h2, _⟩ := h
  exact ⟨A, c, h0, h1, h2⟩
theorem SL.get {A : Option Addr} {n c : Nat} {xs : List α} {fp : List Nat} (h : SL d W (.slice A n c) xs fp) {i : Nat} (hi : i < n) : ∃ x g o cs f, xs[i]? = some x ∧ A = some ⟨g, o, none⟩ ∧ g ∈ fp ∧ d.K W x cs f ∧ (∀ b ∈ f, b ∈ fp) ∧ ∀ j, j < d.sz → W.cell? ⟨g, o + i * d.sz + j, none⟩ = cs[j]? := by
  obtain ⟨A', c', h0, h1, h2, h3⟩ := h
  injection h0 with e1 e2 e3
  subst e1 e2 e3
  rcases h3 with ⟨rfl, rfl⟩ | ⟨g, o, cur, e, fr, f, hA, hg, rfl, h4⟩
  · simp at hi
  · obtain ⟨cs, f', k1, k2, k3⟩ := h4.get (List.getElem?_eq_getElem hi)
    exact ⟨_, g, o, cs, f', List.getElem?_eq_getElem hi, hA, List.mem_cons_self, k1, fun b hb => List.mem_cons_of_mem _ (k2 b hb), fun j hj => by rw [blk_cell hg]; exact k3 j hj⟩

/-- Blocks of one's own, in lo..hi: each once, none frozen. -/
def Own (W : World) (lo hi : Nat) (fp : List Nat) : Prop := fp.Nodup ∧ ∀ b ∈ fp, (lo ≤ b ∧ b < hi) ∧ ∃ cur e, W.heap[b]? = some (.cells cur e (0, 0))
theorem own_nil (W : World) (lo hi : Nat) : Own W lo hi [] := ⟨List.nodup_nil, fun b hb => by cases hb⟩
theorem Own.keep {lo hi : Nat} {fp : List Nat} (h : Own W lo hi fp) (hk : ∀ b ∈ fp, W'.heap[b]? = W.heap[b]?) : Own W' lo hi fp :=
  ⟨h.1, fun b hb => ⟨(h.2 b hb).1, by rw [hk b hb]; exact (h.2 b hb).2⟩⟩
theorem Own.lt {lo hi : Nat} {fp : List Nat} (h : Own W lo hi fp) : ∀ b ∈ fp, b < W.heap.size := fun b hb => by
  obtain ⟨cur, e, h1⟩ := (h.2 b hb).2
  exact (Array.getElem?_eq_some_iff.1 h1).1
theorem Own.mono {lo lo' hi hi' : Nat} {fp : List Nat} (h : Own W lo hi fp) (hl : lo' ≤ lo) (hh : hi ≤ hi') : Own W lo' hi' fp := ⟨h.1, fun b hb => ⟨⟨Nat.le_trans hl (h.2 b hb).1.1, Nat.lt_of_lt_of_le (h.2 b hb).1.2 hh⟩, (h.2 b hb).2⟩⟩
theorem Own.app {lo m m' hi : Nat} {f1 f2 : List Nat} (h1 : Own W lo m f1) (h2 : Own W m' hi f2) (hm : m ≤ m') (hl : lo ≤ m') (hh : m ≤ hi) : Own W lo hi (f1 ++ f2) :=
  ⟨List.nodup_append.2 ⟨h1.1, h2.1, fun a ha b hb e => by subst e; have := (h1.2 a ha).1; have := (h2.2 a hb).1; omega⟩, fun b hb => by
    rcases List.mem_append.1 hb with hb | hb
    · exact ⟨⟨(h1.2 b hb).1.1, Nat.lt_of_lt_of_le (h1.2 b hb).1.2 hh⟩, (h1.2 b hb).2⟩
    · exact ⟨⟨Nat.le_trans hl (h2.2 b hb).1.1, (h2.2 b hb).1.2⟩, (h2.2 b hb).2⟩⟩
/-- The blocks lo..hi are as they were. -/
def Btw (lo hi : Nat) (W W' : World) : Prop := ∀ b, lo ≤ b → b < hi → W'.heap[b]? = W.heap[b]?
theorem Btw.refl (lo hi : Nat) (W : World) : Btw lo hi W W := fun _ _ _ => rfl
theorem Btw.trans {lo hi : Nat} {a b c : World} (h : Btw lo hi a b) (k : Btw lo hi b c) : Btw lo hi a c := fun x h1 h2 => (k x h1 h2).trans (h x h1 h2)
theorem Btw.drew {lo hi : Nat} {a b : World} (h : Btw lo hi a b) : Btw lo hi a b.drew := h
theorem Btw.drewN {lo hi : Nat} {a b : World} (h : Btw lo hi a b) (n : Nat) : Btw lo hi a (b.drewN n) := h
theorem Btw.setCell {lo hi : Nat} {a b : World} (h : Btw lo hi a b) {p : Addr} (hp : p.block < lo ∨ hi ≤ p.block) (u : Value) : Btw lo hi a (b.setCell p u) :=
  fun x h1 h2 => (Below.heap_setCell b p u x (by omega)).trans (h x h1 h2)
theorem Btw.alloc {lo hi : Nat} {a b : World} (h : Btw lo hi a b) (hh : hi ≤ b.heap.size) (o : Obj) : Btw lo hi a (b.alloc o) := fun x h1 h2 => (Below.heap_alloc b o x (by omega)).trans (h x h1 h2)
theorem Btw.of_below {lo hi B : Nat} {a b : World} (h : Below B a b) (hh : hi ≤ B) : Btw lo hi a b := fun x _ h2 => h.block x (by omega)
theorem Btw.of_kept {lo hi : Nat} {S : List Nat} {a b : World} (h : Kept S a b) (hh : hi ≤ a.heap.size) (hS : ∀ x ∈ S, x < lo ∨ hi ≤ x) : Btw lo hi a b := fun x h1 h2 => h.block x (by omega) (fun hm => by have := hS x hm; omega)
/-- What holds of the blocks lo..hi, whatever stands elsewhere. -/
def Has (lo hi : Nat) (W : World) (P : World → Prop) : Prop := ∀ W', Btw lo hi W W' → P W'
theorem Has.get {lo hi : Nat} {P : World → Prop} (h : Has lo hi W P) : P W := h W (Btw.refl _ _ _)
theorem Has.at {lo hi : Nat} {P : World → Prop} (h : Has lo hi W P) (hb : Btw lo hi W W') : P W' := h W' hb
theorem Has.go {lo hi : Nat} {P : World → Prop} (h : Has lo hi W P) (hb : Btw lo hi W W') : Has lo hi W' P := fun W2 h2 => h W2 (hb.trans h2)
theorem Has.wide {lo hi lo' hi' : Nat} {P : World → Prop} (h : Has lo hi W P) (hl : lo' ≤ lo) (hh : hi ≤ hi') : Has lo' hi' W P := fun W2 h2 => h W2 (fun b h3 h4 => h2 b (by omega) (by omega))
theorem Has.and {lo hi : Nat} {P Q : World → Prop} (h : Has lo hi W P) (k : Has lo hi W Q) : Has lo hi W (fun W => P W ∧ Q W) := fun W2 h2 => ⟨h W2 h2, k W2 h2⟩
theorem Has.imp {lo hi : Nat} {P Q : World → Prop} (h : Has lo hi W P) (k : ∀ W, P W → Q W) : Has lo hi W Q := fun W2 h2 => k W2 (h W2 h2)
theorem SL.has {v : Value} {xs : List α} {fp : List Nat} (h : SL d W v xs fp) : Has 0 W.heap.size W (fun W => SL d W v xs fp) := fun W2 h2 => h.keep (fun b hb => h2 b (by omega) (h.lt b hb))
/-- A list that is made, in blocks of one's own. -/
def SLn (d : Kd α) (lo hi : Nat) (v : Value) (xs : List α) (fp : List Nat) (W : World) : Prop := SL d W v xs fp ∧ Own W lo hi fp
theorem has_new {lo hi : Nat} {v : Value} {xs : List α} {fp : List Nat} (h : SL d W v xs fp) (ho : Own W lo hi fp) : Has lo hi W (SLn d lo hi v xs fp) := fun W2 h2 =>
  have hk : ∀ b ∈ fp, W2.heap[b]? = W.heap[b]? := fun b hb => h2 b (ho.2 b hb).1.1 (ho.2 b hb).1.2
  ⟨h.keep hk, ho.keep hk⟩
theorem has_cell {b o : Nat} {s : Option Nat} {v : Option Value} (h : W.cell? ⟨b, o, s⟩ = v) : Has b (b + 1) W (fun W => W.cell? ⟨b, o, s⟩ = v) := fun W2 h2 => (World.cell?_of_block (w := W) (h2 b (Nat.le_refl _) (Nat.lt_succ_self _))).trans h
end

/-- A flat kind: its cells hang on the value alone. -/
def Kd.flat {α : Type} (enc : α → List Value) (n : Nat) (h : ∀ x, (enc x).length = n) : Kd α := ⟨n, fun _ x cs fp => cs = enc x ∧ fp = [], fun _ x cs fp h1 => (by rw [h1.1]; exact h x), fun _ _ _ fp h1 b hb => (by rw [h1.2] at hb; cases hb), fun _ _ _ _ _ h1 _ => h1⟩
section
variable {α : Type} {enc : α → List Value} {sz : Nat} {hl : ∀ x, (enc x).length = sz} {W W' : World}
theorem At.flat_nil {cur : Array Value} : ∀ {o : Nat} {xs : List α} {fp : List Nat}, At (Kd.flat enc sz hl) W cur o xs fp → fp = []
  | _, [], fp, h => h
  | _, x :: r, fp, h => by
    obtain ⟨cs, f1, f2, h1, _, rfl, h2⟩ := h
    rw [h1.2, h2.flat_nil]
    rfl
theorem flat_len (xs : List α) (hl : ∀ x, (enc x).length = sz) : (xs.flatMap enc).length = xs.length * sz := by
  induction xs with
  | nil => simp
  | cons x r ih =>
    rw [List.flatMap_cons, List.length_append, ih, hl, List.length_cons, Nat.add_mul]
    omega
theorem at_of_cells {cur : Array Value} : ∀ {xs : List α} {o : Nat}, (∀ j u, (xs.flatMap enc)[j]? = some u → cur[o + j]? = some u) → At (Kd.flat enc sz hl) W cur o xs []
  | [], _, _ => rfl
  | x :: r, o, h => by
    refine ⟨enc x, [], [], ⟨rfl, rfl⟩, fun j hj => ?_, rfl, at_of_cells (fun j u hu => ?_)⟩
    · have hj' : j < (enc x).length := by rw [hl]; exact hj
      rw [List.getElem?_eq_getElem hj']
      exact h j _ (by rw [List.flatMap_cons, List.getElem?_append_left hj', List.getElem?_eq_getElem hj'])
    · show cur[o + sz + j]? = some u
      rw [Nat.add_assoc]
      refine h (sz + j) u ?_
      rw [List.flatMap_cons, List.getElem?_append_right (by rw [hl]; omega), hl, show sz + j - sz = j by omega]
      exact hu
theorem cells_of_at {cur : Array Value} : ∀ {xs : List α} {o : Nat} {fp : List Nat}, At (Kd.flat enc sz hl) W cur o xs fp → ∀ j u, (xs.flatMap enc)[j]? = some u → cur[o + j]? = some u
  | [], _, _, _, j, u, hu => by simp at hu
  | x :: r, o, fp, h, j, u, hu => by
    obtain ⟨cs, f1, f2, ⟨rfl, _⟩, h0, rfl, h2⟩ := h
    rw [List.flatMap_cons] at hu
    rcases Nat.lt_or_ge j (enc x).length with hj | hj
    · rw [List.getElem?_append_left hj] at hu
      rw [h0 j (by show j < sz; rw [← hl x]; exact hj)]
      exact hu
    · rw [List.getElem?_append_right hj] at hu
      have := cells_of_at h2 _ u hu
      rw [← this, hl]
      congr 1
      rw [hl] at hj
      show o + j = o + sz + (j - sz)
      omega
/-- A row of one's own, as append leaves it, reads as a list. -/
theorem sl_of_row {base e n : Nat} {v : Value} {xs : List α} (h : W.ownsRow base e sz v n (xs.flatMap enc)) (hsz : 0 < sz) : ∃ fp, SL (Kd.flat enc sz hl) W v xs fp ∧ Own W base W.heap.size fp ∧ ∀ b ∈ fp, v.ownBlock = some b := by
  have hn : n = xs.length := by
    have := h.1
    rw [flat_len xs hl] at this
    exact (Nat.eq_of_mul_eq_mul_right hsz this).symm
  subst hn
  rcases h.2 with ⟨rfl, h0⟩ | ⟨g, cap, cur, rfl, hb, hg, hc, hm, hs, ht⟩
  · obtain rfl : xs = [] := List.eq_nil_of_length_eq_zero h0
    exact ⟨[], sl_nil _ _, own_nil _ _ _, fun b hb => by cases hb⟩
  · have hm' : cap ≤ 9223372036854775807 := by simpa [maxLen] using hm
    refine ⟨[g], ⟨_, cap, rfl, hc, hm', .inr ⟨g, 0, cur, e, (0, 0), [], rfl, hg, rfl, at_of_cells (fun j u hu => ?_)⟩⟩, ⟨by simp, fun b hb' => ?_⟩, fun b hb' => ?_⟩
    · rw [← ht, List.getElem?_take] at hu
      split at hu
      · rw [Nat.zero_add, ← Array.getElem?_toList]
        exact hu
      · cases hu
    · rw [List.mem_singleton] at hb'
      subst hb'
      exact ⟨⟨hb, (Array.getElem?_eq_some_iff.1 hg).1⟩, cur, e, hg⟩
    · rw [List.mem_singleton] at hb'
      subst hb'
      rfl
theorem SL.flat_news {A : Option Addr} {n c : Nat} {xs : List α} {fp : List Nat} (h : SL (Kd.flat enc sz hl) W (.slice A n c) xs fp) {ad : Addr} (hA : A = some ad) : ∀ j u, (xs.flatMap enc)[j]? = some u → W.cell? (ad.add j) = some u := by
  obtain ⟨A', c', h0, h1, h2, h3⟩ := h
  injection h0 with e1 e2 e3
  subst e1 e2 e3
  intro j u hu
  rcases h3 with ⟨rfl, rfl⟩ | ⟨g, o, cur, e, fr, f, rfl, hg, rfl, h4⟩
  · simp at hu
  · injection hA with hA
    subst hA
    have hadd : (⟨g, o, none⟩ : Addr).add j = ⟨g, o + j, none⟩ := by unfold Addr.add; split <;> simp_all
    rw [hadd, blk_cell hg]
    exact cells_of_at h4 j u hu
end

def encI (n : Int) : List Value := [.int .i64 n]
def kI : Kd Int := Kd.flat encI 1 (fun _ => rfl)
def kS : Kd ByteArray := Kd.flat (fun s => [.string s]) 1 (fun _ => rfl)

/-- Flat rows: a store of one cell. -/
theorem SL.setI {W : World} {g o c n : Nat} {xs : List Int} {fp : List Nat} (h : SL kI W (.slice (some ⟨g, o, none⟩) n c) xs fp) (i : Nat) (x : Int) (hi : i < n) : SL kI (W.setCell ⟨g, o + i, none⟩ (.int .i64 x)) (.slice (some ⟨g, o, none⟩) n c) (xs.set i x) fp ∧ fp = [g] := by
  obtain ⟨A', c', h0, h1, h2, h3⟩ := h
  injection h0 with e1 e2 e3
  subst e1 e2 e3
  rcases h3 with ⟨rfl, rfl⟩ | ⟨g', o', cur, e, fr, f, hA, hg, rfl, h4⟩
  · simp at hi
  · injection hA with hA
    injection hA with a1 a2
    subst a1 a2
    have hf : f = [] := h4.flat_nil
    subst hf
    have h5 := cells_of_at h4
    refine ⟨⟨_, c, by rw [List.length_set], by rw [List.length_set]; exact h1, h2, .inr ⟨g, o, _, e, fr, [], rfl, blk_put hg _ _, rfl, at_of_cells (fun j u hu => ?_)⟩⟩, rfl⟩
    have e1 : ∀ l : List Int, l.flatMap encI = l.map (.int .i64) := fun l => by
      induction l with
      | nil => rfl
      | cons a r ih => rw [List.flatMap_cons, ih]; rfl
    rw [e1] at hu h5
    rw [List.getElem?_map, List.getElem?_set] at hu
    have hlt : o + i < cur.size := by
      have := h5 i (.int .i64 xs[i]) (by rw [List.getElem?_map, List.getElem?_eq_getElem hi]; rfl)
      exact (Array.getElem?_eq_some_iff.1 this).1
    rw [Array.getElem?_setIfInBounds]
    by_cases hij : i = j
    · subst hij
      simp [hi] at hu
      simp [hlt, hu]
    · simp [hij] at hu
      rw [if_neg (by omega)]
      obtain ⟨y, hy, rfl⟩ := hu
      exact h5 j _ (by rw [List.getElem?_map, hy]; rfl)
end Go.Proofs.Ytkphkkfgphhjcaa
