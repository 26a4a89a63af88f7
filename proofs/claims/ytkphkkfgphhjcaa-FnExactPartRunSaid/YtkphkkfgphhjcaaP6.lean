/- A machine: what stands in memory; cell, put, say. -/
import Derived.Test.YtkphkkfgphhjcaaP5
namespace Go.Proofs.Ytkphkkfgphhjcaa
open Go.RowKit
set_option linter.unusedSimpArgs false
set_option linter.unusedVariables false

abbrev Sd := Bool × Int
def encS (s : Sd) : List Value := [.bool s.1, .int .i64 s.2]
def kSd : Kd Sd := Kd.flat encS 2 (fun _ => rfl)
structure Mac where
  p : Pt
  ports : List Int
  now : Int
  said : List Sd
  next : Int
  jumps : Bool
  rests : Bool
/-- The slices of a machine, and its blocks. -/
structure MacF (W : World) (lo : Nat) (m : Mac) (g : Nat) (A1 : Option Addr) (c1 : Nat) (A2 : Option Addr) (c2 : Nat) (A3 : Option Addr) (c3 : Nat) (A4 : Option Addr) (c4 : Nat) (A5 : Option Addr) (c5 : Nat) (f1 f2 f3 f4 f5 : List Nat) : Prop where
  blk : W.heap[g]? = some (.cells #[.slice A1 m.p.prog.length c1, .slice A2 m.p.cells.length c2, .int .i64 m.p.pc, .bool m.p.fails, .slice A3 m.p.box.length c3, .slice A4 m.ports.length c4, .int .i64 m.now, .slice A5 m.said.length c5, .int .i64 m.next, .bool m.jumps, .bool m.rests] 66 (0, 0))
  prog : SL kO W (.slice A1 m.p.prog.length c1) m.p.prog f1
  cells : SL kI W (.slice A2 m.p.cells.length c2) m.p.cells f2
  box : SL kI W (.slice A3 m.p.box.length c3) m.p.box f3
  ports : SL kI W (.slice A4 m.ports.length c4) m.ports f4
  said : W.ownsRow lo 76 2 (.slice A5 m.said.length c5) m.said.length (m.said.flatMap encS)
  sblk : f5 = (Value.ownBlock (.slice A5 m.said.length c5)).toList
  own : Own W lo W.heap.size (g :: (f1 ++ (f2 ++ (f3 ++ (f4 ++ f5)))))
def MacR (W : World) (lo : Nat) (m : Mac) (g : Nat) (S : List Nat) : Prop := ∃ A1 c1 A2 c2 A3 c3 A4 c4 A5 c5 f1 f2 f3 f4 f5, MacF W lo m g A1 c1 A2 c2 A3 c3 A4 c4 A5 c5 f1 f2 f3 f4 f5 ∧ S = g :: (f1 ++ (f2 ++ (f3 ++ (f4 ++ f5))))
theorem MacR.own {W : World} {lo : Nat} {m : Mac} {g : Nat} {S : List Nat} (h : MacR W lo m g S) : Own W lo W.heap.size S := by
  obtain ⟨_, _, _, _, _, _, _, _, _, _, _, _, _, _, _, h, rfl⟩ := h
  exact h.own
theorem ownsRow_keep {W W' : World} {base e size n : Nat} {v : Value} {xs : List Value} (h : W.ownsRow base e size v n xs) (hk : ∀ b ∈ (Value.ownBlock v).toList, W'.heap[b]? = W.heap[b]?) : W'.ownsRow base e size v n xs := by
  refine ⟨h.1, ?_⟩
  rcases h.2 with h2 | ⟨g, cap, cur, rfl, hb, hg, r⟩
  · exact .inl h2
  · exact .inr ⟨g, cap, cur, rfl, hb, by rw [hk g (by simp [Value.ownBlock])]; exact hg, r⟩
theorem MacF.keep {W W' : World} {lo : Nat} {m : Mac} {g : Nat} {A1 A2 A3 A4 A5 : Option Addr} {c1 c2 c3 c4 c5 : Nat} {f1 f2 f3 f4 f5 : List Nat} (h : MacF W lo m g A1 c1 A2 c2 A3 c3 A4 c4 A5 c5 f1 f2 f3 f4 f5) (hk : ∀ b ∈ g :: (f1 ++ (f2 ++ (f3 ++ (f4 ++ f5)))), W'.heap[b]? = W.heap[b]?) (hs : W.heap.size ≤ W'.heap.size) : MacF W' lo m g A1 c1 A2 c2 A3 c3 A4 c4 A5 c5 f1 f2 f3 f4 f5 :=
  ⟨(hk g List.mem_cons_self).trans h.blk, h.prog.keep (fun b hb => hk b (by simp [hb])), h.cells.keep (fun b hb => hk b (by simp [hb])), h.box.keep (fun b hb => hk b (by simp [hb])), h.ports.keep (fun b hb => hk b (by simp [hb])), ownsRow_keep h.said (fun b hb => hk b (by rw [h.sblk]; simp only [List.mem_cons, List.mem_append]; exact .inr (.inr (.inr (.inr (.inr hb)))))), h.sblk, (h.own.keep hk).mono (Nat.le_refl _) hs⟩
theorem MacF.below {W W' : World} {lo : Nat} {m : Mac} {g : Nat} {A1 A2 A3 A4 A5 : Option Addr} {c1 c2 c3 c4 c5 : Nat} {f1 f2 f3 f4 f5 : List Nat} (h : MacF W lo m g A1 c1 A2 c2 A3 c3 A4 c4 A5 c5 f1 f2 f3 f4 f5) (hb : Below W.heap.size W W') : MacF W' lo m g A1 c1 A2 c2 A3 c3 A4 c4 A5 c5 f1 f2 f3 f4 f5 := h.keep (fun b hm => hb.block b (h.own.lt b hm)) hb.size
theorem MacR.keep {W W' : World} {lo : Nat} {m : Mac} {g : Nat} {S : List Nat} (h : MacR W lo m g S) (hk : ∀ b ∈ S, W'.heap[b]? = W.heap[b]?) (hs : W.heap.size ≤ W'.heap.size) : MacR W' lo m g S := by
  obtain ⟨A1, c1, A2, c2, A3, c3, A4, c4, A5, c5, f1, f2, f3, f4, f5, h, rfl⟩ := h
  refine ⟨A1, c1, A2, c2, A3, c3, A4, c4, A5, c5, f1, f2, f3, f4, f5, ⟨(hk g List.mem_cons_self).trans h.blk, h.prog.keep (fun b hb => hk b (by simp [hb])), h.cells.keep (fun b hb => hk b (by simp [hb])), h.box.keep (fun b hb => hk b (by simp [hb])), h.ports.keep (fun b hb => hk b (by simp [hb])), ownsRow_keep h.said (fun b hb => hk b (by rw [h.sblk]; simp only [List.mem_cons, List.mem_append]; exact .inr (.inr (.inr (.inr (.inr hb)))))), h.sblk, (h.own.keep hk).mono (Nat.le_refl _) hs⟩, rfl⟩
theorem MacR.setOther {W : World} {lo : Nat} {m : Mac} {g : Nat} {S : List Nat} (h : MacR W lo m g S) {p : Addr} (hp : p.block ∉ S) (u : Value) : MacR (W.setCell p u) lo m g S := h.keep (fun b hb => Below.heap_setCell W p u b (fun e => hp (e ▸ hb))) (by simp)
theorem MacR.kept {W W' : World} {lo : Nat} {m : Mac} {g : Nat} {S T : List Nat} (h : MacR W lo m g S) (hk : Kept T W W') (hT : ∀ b ∈ S, b ∉ T) : MacR W' lo m g S := h.keep (fun b hb => hk.block b (h.own.lt b hb) (hT b hb)) hk.size
theorem Own.set {W : World} {lo hi : Nat} {fp : List Nat} (h : Own W lo hi fp) (g o : Nat) (u : Value) : Own (W.setCell ⟨g, o, none⟩ u) lo hi fp :=
  ⟨h.1, fun b hb => ⟨(h.2 b hb).1, by
    obtain ⟨cur, e, h1⟩ := (h.2 b hb).2
    by_cases e1 : b = g
    · subst e1
      exact ⟨_, e, blk_put h1 _ _⟩
    · exact ⟨cur, e, by rw [Below.heap_setCell W ⟨g, o, none⟩ u b e1]; exact h1⟩⟩⟩
theorem SL.setOther {α : Type} {d : Kd α} {W : World} {v : Value} {xs : List α} {fp : List Nat} (h : SL d W v xs fp) {p : Addr} (hp : p.block ∉ fp) (u : Value) : SL d (W.setCell p u) v xs fp := h.keep (fun b hb => Below.heap_setCell W p u b (fun e => hp (e ▸ hb)))
def Mac.cell (m : Mac) (a : Int) : Int := m.p.cells.getD a.toNat 0
def Mac.put (m : Mac) (a v : Int) : Mac := { m with p := { m.p with cells := m.p.cells.set a.toNat (v % 10000) } }
/-- What an op leaves. -/
def MacP (w : World) (lo : Nat) (g : Nat) (S : List Nat) (m' : Mac) (w' : World) : Prop := ∃ S', MacR w' lo m' g S' ∧ Kept S w w' ∧ ∀ b ∈ S', b ∈ S ∨ w.heap.size ≤ b
theorem MacP.refl {w : World} {lo : Nat} {m : Mac} {g : Nat} {S : List Nat} (h : MacR w lo m g S) : MacP w lo g S m w := ⟨S, h, Kept.refl _ _, fun b hb => .inl hb⟩
theorem MacP.trans {w w1 w2 : World} {lo : Nat} {m2 : Mac} {g : Nat} {S S1 : List Nat} (hk : Kept S w w1) (hs : ∀ b ∈ S1, b ∈ S ∨ w.heap.size ≤ b) (k : MacP w1 lo g S1 m2 w2) : MacP w lo g S m2 w2 := by
  obtain ⟨S2, h1, h2, h3⟩ := k
  refine ⟨S2, h1, hk.trans h2 hs, fun b hb => ?_⟩
  rcases h3 b hb with h | h
  · exact hs b h
  · exact .inr (Nat.le_trans hk.size h)
theorem cell_of {W : World} {A : Option Addr} {n c : Nat} {xs : List Int} {fp : List Nat} (h : SL kI W (.slice A n c) xs fp) {a : Int} (h0 : 0 ≤ a) (h1 : a < n) : ∃ g o, A = some ⟨g, o, none⟩ ∧ fp = [g] ∧ W.cell? ⟨g, o + a.toNat, none⟩ = some (.int .i64 (xs.getD a.toNat 0)) := by
  obtain ⟨x, g, o, cs, f, k1, rfl, _, k2, _, k3⟩ := h.get (i := a.toNat) (by omega)
  have h2 := (h.setI a.toNat 0 (by omega)).2
  refine ⟨g, o, rfl, h2, ?_⟩
  have k4 := k3 0 (by decide)
  rw [k2.1] at k4
  rw [List.getD_eq_getElem?_getD, k1]
  simpa [kI, Kd.flat, encI] using k4
/-- Blocks of one's own, told apart. -/
theorem mac_ne {W : World} {lo hi g : Nat} {f1 f2 f3 f4 f5 : List Nat} (h : Own W lo hi (g :: (f1 ++ (f2 ++ (f3 ++ (f4 ++ f5)))))) : (g ∉ f1 ∧ g ∉ f2 ∧ g ∉ f3 ∧ g ∉ f4 ∧ g ∉ f5) ∧ (∀ b ∈ f2, b ∉ f1 ∧ b ∉ f3 ∧ b ∉ f4 ∧ b ∉ f5 ∧ b ≠ g) ∧ (∀ b ∈ f4, b ∉ f1 ∧ b ∉ f2 ∧ b ∉ f3 ∧ b ∉ f5 ∧ b ≠ g) ∧ (∀ b ∈ f5, b ∉ f1 ∧ b ∉ f2 ∧ b ∉ f3 ∧ b ∉ f4 ∧ b ≠ g) := by
  have h1 := h.1
  simp only [List.nodup_cons, List.nodup_append, List.mem_append, not_or] at h1
  obtain ⟨⟨g1, g2, g3, g4, g5⟩, _, ⟨_, ⟨_, ⟨_, _, d45⟩, d3⟩, d2⟩, d1⟩ := h1
  refine ⟨⟨g1, g2, g3, g4, g5⟩, fun b hb => ⟨fun h => d1 b h b (.inl hb) rfl, fun h => d2 b hb b (.inl h) rfl, fun h => d2 b hb b (.inr (.inl h)) rfl, fun h => d2 b hb b (.inr (.inr h)) rfl, fun h => g2 (h ▸ hb)⟩, fun b hb => ⟨fun h => d1 b h b (.inr (.inr (.inl hb))) rfl, fun h => d2 b h b (.inr (.inl hb)) rfl, fun h => d3 b h b (.inl hb) rfl, fun h => d45 b hb b h rfl, fun h => g4 (h ▸ hb)⟩, fun b hb => ⟨fun h => d1 b h b (.inr (.inr (.inr hb))) rfl, fun h => d2 b h b (.inr (.inr hb)) rfl, fun h => d3 b h b (.inr hb) rfl, fun h => d45 b h b hb rfl, fun h => g5 (h ▸ hb)⟩⟩
section
variable {W : World} {lo : Nat} {m : Mac} {g : Nat} {A1 A2 A3 A4 A5 : Option Addr} {c1 c2 c3 c4 c5 : Nat} {f1 f2 f3 f4 f5 : List Nat}
theorem MacF.put {gc oc : Nat} (h : MacF W lo m g A1 c1 (some ⟨gc, oc, none⟩) c2 A3 c3 A4 c4 A5 c5 f1 [gc] f3 f4 f5) (a v : Int) (h0 : 0 ≤ a) (h1 : a < m.p.cells.length) : MacP W lo g (g :: (f1 ++ ([gc] ++ (f3 ++ (f4 ++ f5))))) (m.put a v) (W.setCell ⟨gc, oc + a.toNat, none⟩ (.int .i64 (v % 10000))) := by
  obtain ⟨hg, h2, _, _⟩ := mac_ne h.own
  have hc := h2 gc (by simp)
  refine ⟨_, ⟨A1, c1, some ⟨gc, oc, none⟩, c2, A3, c3, A4, c4, A5, c5, f1, [gc], f3, f4, f5, ⟨?_, h.prog.setOther (by exact hc.1) _, ?_, h.box.setOther (by exact hc.2.1) _, h.ports.setOther (by exact hc.2.2.1) _, ownsRow_keep h.said (fun b hb => Below.heap_setCell _ _ _ _ (fun e => hc.2.2.2.1 (by rw [h.sblk]; exact (show gc = b from e.symm) ▸ hb))), h.sblk, ?_⟩, rfl⟩, (Kept.refl _ _).set (.inl (by simp)) _, fun b hb => .inl hb⟩
  · have := blk_set h.blk (oc + a.toNat) (.int .i64 (v % 10000)) (b' := gc) (fun e => hc.2.2.2.2 e.symm)
    simpa [Mac.put] using this
  · have := (h.cells.setI a.toNat (v % 10000) (by omega)).1
    simpa [Mac.put] using this
  · have := h.own.set gc (oc + a.toNat) (.int .i64 (v % 10000))
    simpa using this
theorem MacF.poke (h : MacF W lo m g A1 c1 A2 c2 A3 c3 A4 c4 A5 c5 f1 f2 f3 f4 f5) (j : Nat) (u : Value) (m' : Mac) (e1 : m'.p.prog = m.p.prog) (e2 : m'.p.cells = m.p.cells) (e3 : m'.p.box = m.p.box) (e4 : m'.ports = m.ports) (e5 : m'.said = m.said)
    (hb : (#[.slice A1 m.p.prog.length c1, .slice A2 m.p.cells.length c2, .int .i64 m.p.pc, .bool m.p.fails, .slice A3 m.p.box.length c3, .slice A4 m.ports.length c4, .int .i64 m.now, .slice A5 m.said.length c5, .int .i64 m.next, .bool m.jumps, .bool m.rests] : Array Value).setIfInBounds j u = #[.slice A1 m.p.prog.length c1, .slice A2 m.p.cells.length c2, .int .i64 m'.p.pc, .bool m'.p.fails, .slice A3 m.p.box.length c3, .slice A4 m.ports.length c4, .int .i64 m'.now, .slice A5 m.said.length c5, .int .i64 m'.next, .bool m'.jumps, .bool m'.rests]) : MacF (W.setCell ⟨g, j, none⟩ u) lo m' g A1 c1 A2 c2 A3 c3 A4 c4 A5 c5 f1 f2 f3 f4 f5 := by
  obtain ⟨hg, _, _, _⟩ := mac_ne h.own
  refine ⟨?_, by rw [e1]; exact h.prog.setOther (by exact hg.1) _, by rw [e2]; exact h.cells.setOther (by exact hg.2.1) _, by rw [e3]; exact h.box.setOther (by exact hg.2.2.1) _, by rw [e4]; exact h.ports.setOther (by exact hg.2.2.2.1) _, by rw [e5]; exact ownsRow_keep h.said (fun b hb => Below.heap_setCell _ _ _ _ (fun e => hg.2.2.2.2 (by rw [h.sblk]; exact (show g = b from e.symm) ▸ hb))), by rw [e5]; exact h.sblk, ?_⟩
  · rw [blk_put h.blk, hb, e1, e2, e3, e4, e5]
  · have := h.own.set g j u
    simpa using this
theorem MacF.P (h : MacF W lo m g A1 c1 A2 c2 A3 c3 A4 c4 A5 c5 f1 f2 f3 f4 f5) : MacR W lo m g (g :: (f1 ++ (f2 ++ (f3 ++ (f4 ++ f5))))) := ⟨A1, c1, A2, c2, A3, c3, A4, c4, A5, c5, f1, f2, f3, f4, f5, h, rfl⟩
end
end Go.Proofs.Ytkphkkfgphhjcaa
