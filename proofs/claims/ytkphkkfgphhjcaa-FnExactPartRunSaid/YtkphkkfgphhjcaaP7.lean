/- cell, put, say. -/
import Derived.Test.YtkphkkfgphhjcaaP6
namespace Go.Proofs.Ytkphkkfgphhjcaa
open Go.RowKit
set_option linter.unusedSimpArgs false
set_option linter.unusedVariables false

set_option maxHeartbeats 1000000 in
theorem cell_c (m : Mac) (lo g : Nat) (S : List Nat) (a : Int) (w : World) (h : MacR w lo m g S) (hl : m.p.cells.length = 8) (h0 : 0 ≤ a) (h1 : a < 8) : Calls Try.prog 64 #[.pointer (some ⟨g, 0, none⟩), .int .i64 a] w fun e w' => e = .returned (.int .i64 (m.cell a)) ∧ w = w' := by
  obtain ⟨A1, c1, A2, c2, A3, c3, A4, c4, A5, c5, f1, f2, f3, f4, f5, h, rfl⟩ := h
  obtain ⟨gc, oc, rfl, rfl, hcell⟩ := cell_of h.cells h0 (by omega)
  have k0 := fun o => blk_cell h.blk o
  rw [hl] at k0
  unfold Mac.cell
  obtain ⟨x, hx⟩ : ∃ x, m.p.cells.getD a.toNat 0 = x := ⟨_, rfl⟩
  rw [hx] at hcell ⊢
  clear hx h
  have h2 : ¬ a ≥ 8 := by omega
  have h3 : a < ((8 : Nat) : Int) := by omega
  clear hl
  go_enter Try.func64, Try.ntmps64
  go_wp2_with fail
  go_ret
  exact ⟨rfl, rfl⟩
theorem far_c (g : Nat) (a : Int) (w : World) (h1 : 8 ≤ a) : Calls Try.prog 64 #[.pointer (some ⟨g, 0, none⟩), .int .i64 a] w fun e w' => e = .panicked [{ v := .iface 90 (.agg #[.int .i64 a]), recovered := false }] ∧ w = w' := by
  have hpn : ∀ (v : Value) (w : World), (Instr.panic (.iface 90 v)).run Try.prog w = .halt (.panic (.iface 90 v)) w := fun _ _ => by first | rfl | kernel_rfl
  go_enter Try.func64, Try.ntmps64
  go_wp2_with fail
  exact ⟨rfl, rfl, rfl⟩
set_option maxHeartbeats 1000000 in
theorem put_c (m : Mac) (lo g : Nat) (S : List Nat) (a v : Int) (w : World) (h : MacR w lo m g S) (hl : m.p.cells.length = 8) (h0 : 0 ≤ a) (h1 : a < 8) (hv : 0 ≤ v) (hv2 : v ≤ 1000000) : Calls Try.prog 62 #[.pointer (some ⟨g, 0, none⟩), .int .i64 a, .int .i64 v] w fun e w' => e = .returned (.tuple #[]) ∧ MacP w lo g S (m.put a v) w' := by
  obtain ⟨A1, c1, A2, c2, A3, c3, A4, c4, A5, c5, f1, f2, f3, f4, f5, h, rfl⟩ := h
  have hS := Lib.hid h
  obtain ⟨gc, oc, rfl, rfl, hcell⟩ := cell_of h.cells h0 (by omega)
  have k0 := fun o => blk_cell h.blk o
  have z0 : w.frozen? ⟨gc, oc + a.toNat, none⟩ = false := by
    obtain ⟨cur, e, h2⟩ := (h.own.2 gc (by simp)).2
    exact blk_frozen h2 _
  rw [hl] at k0
  have h3 : a < ((8 : Nat) : Int) := by omega
  clear h
  replace hl := Lib.hid hl
  go_enter Try.func62, Try.ntmps62
  go_wp2_with fail
  have he := hS.out.put a v h0 (by rw [hl.out]; exact h3)
  go_end0
  exact ⟨rfl, he⟩
theorem row_form {W : World} {base e size n : Nat} {v : Value} {xs : List Value} (h : W.ownsRow base e size v n xs) : ∃ A c, v = .slice A n c := by
  rcases h.2 with ⟨rfl, rfl⟩ | ⟨g, cap, cur, rfl, _⟩ <;> exact ⟨_, _, rfl⟩
theorem said_info : (Try.prog.info? 76).map (fun i => (i.zero, i.size, i.bytes)) = some (some (.agg #[.bool false, .int .i64 0]), 2, 16) := by kernel_rfl
section
variable {W W1 W2 : World} {lo : Nat} {m : Mac} {g : Nat} {A1 A2 A3 A4 A5 A6 : Option Addr} {c1 c2 c3 c4 c5 c6 : Nat} {f1 f2 f3 f4 f5 : List Nat}
/-- What is said comes behind what was: the row may have moved. -/
theorem MacF.say (h : MacF W lo m g A1 c1 A2 c2 A3 c3 A4 c4 A5 c5 f1 f2 f3 f4 f5) (s : Sd) (n : Nat) (hn : n = m.said.length + 1) (hb1 : Below W.heap.size W W1) (hown : W2.ownsRow lo 76 2 (.slice A6 n c6) n (m.said.flatMap encS ++ encS s)) (hgr : W1.grownBy W2 (Value.ownBlock (.slice A5 m.said.length c5)))
    (hob : Value.ownBlock (.slice A6 n c6) = Value.ownBlock (.slice A5 m.said.length c5) ∨ Value.ownBlock (.slice A6 n c6) = some W1.heap.size) : MacP W lo g (g :: (f1 ++ (f2 ++ (f3 ++ (f4 ++ f5))))) { m with said := m.said ++ [s] } (W2.setCell ⟨g, 7, none⟩ (.slice A6 n c6)) := by
  obtain ⟨hg, q2, q4, q5⟩ := mac_ne h.own
  have hlt := h.own.lt
  have hs1 := hb1.size
  subst hn
  have hf5 : ∀ b, Value.ownBlock (.slice A5 m.said.length c5) = some b → b ∈ f5 := fun b hb => by rw [h.sblk, hb]; simp
  have old : ∀ b, b < W.heap.size → b ∉ f5 → W2.heap[b]? = W.heap[b]? := fun b hb hne => (hgr.block b (by omega) (fun e => hne (hf5 b e.symm))).trans (hb1.block b hb)
  have new : ∀ b ∈ (Value.ownBlock (.slice A6 (m.said.length + 1) c6)).toList, b ∈ f5 ∨ W.heap.size ≤ b := fun b hb => by
    rcases hob with e | e
    · rw [e] at hb
      rw [h.sblk]
      exact .inl hb
    · rw [e] at hb
      simp at hb
      omega
  have keepB : ∀ {fp : List Nat}, (∀ b ∈ fp, b ∈ g :: (f1 ++ (f2 ++ (f3 ++ (f4 ++ f5)))) ∧ b ∉ f5 ∧ b ≠ g) → ∀ b ∈ fp, (W2.setCell ⟨g, 7, none⟩ (.slice A6 (m.said.length + 1) c6)).heap[b]? = W.heap[b]? := fun hh b hb => by
    rw [Below.heap_setCell W2 _ _ b (hh b hb).2.2]
    exact old b (hlt b (hh b hb).1) (hh b hb).2.1
  have d1 : ∀ b ∈ f1, b ∈ g :: (f1 ++ (f2 ++ (f3 ++ (f4 ++ f5)))) ∧ b ∉ f5 ∧ b ≠ g := fun b hb => ⟨by simp [hb], fun hx => (q5 b hx).1 hb, fun e => hg.1 (e ▸ hb)⟩
  have d2 : ∀ b ∈ f2, b ∈ g :: (f1 ++ (f2 ++ (f3 ++ (f4 ++ f5)))) ∧ b ∉ f5 ∧ b ≠ g := fun b hb => ⟨by simp [hb], fun hx => (q5 b hx).2.1 hb, fun e => hg.2.1 (e ▸ hb)⟩
  have d3 : ∀ b ∈ f3, b ∈ g :: (f1 ++ (f2 ++ (f3 ++ (f4 ++ f5)))) ∧ b ∉ f5 ∧ b ≠ g := fun b hb => ⟨by simp [hb], fun hx => (q5 b hx).2.2.1 hb, fun e => hg.2.2.1 (e ▸ hb)⟩
  have d4 : ∀ b ∈ f4, b ∈ g :: (f1 ++ (f2 ++ (f3 ++ (f4 ++ f5)))) ∧ b ∉ f5 ∧ b ≠ g := fun b hb => ⟨by simp [hb], fun hx => (q5 b hx).2.2.2.1 hb, fun e => hg.2.2.2.1 (e ▸ hb)⟩
  have hg2 : W2.heap[g]? = W.heap[g]? := old g (hlt g (by simp)) hg.2.2.2.2
  have hng : ∀ b ∈ (Value.ownBlock (.slice A6 (m.said.length + 1) c6)).toList, b ≠ g := fun b hb e => by
    subst e
    rcases new b hb with h1 | h1
    · exact hg.2.2.2.2 h1
    · have := hlt b (by simp); omega
  have e1 : (m.said ++ [s]).flatMap encS = m.said.flatMap encS ++ encS s := by simp
  have hrow : (W2.setCell ⟨g, 7, none⟩ (.slice A6 (m.said.length + 1) c6)).ownsRow lo 76 2 (.slice A6 (m.said.length + 1) c6) (m.said.length + 1) (m.said.flatMap encS ++ encS s) := ownsRow_keep hown (fun b hb => Below.heap_setCell _ _ _ _ (hng b hb))
  refine ⟨_, ⟨A1, c1, A2, c2, A3, c3, A4, c4, A6, c6, f1, f2, f3, f4, (Value.ownBlock (.slice A6 (m.said.length + 1) c6)).toList, ⟨?_, h.prog.keep (keepB d1), h.cells.keep (keepB d2), h.box.keep (keepB d3), h.ports.keep (keepB d4), by rw [e1]; simpa using hrow, by simp, ?_⟩, rfl⟩, ?_, ?_⟩
  · have := blk_put (hg2.trans h.blk) 7 (.slice A6 (m.said.length + 1) c6)
    simpa using this
  · have hbase := h.own
    refine ⟨?_, fun b hb => ?_⟩
    · have h1 := h.own.1
      simp only [List.nodup_cons, List.nodup_append, List.mem_append, not_or] at h1 ⊢
      obtain ⟨⟨g1, g2, g3, g4, g5⟩, n1, ⟨n2, ⟨n3, ⟨n4, n5, d45⟩, x3⟩, x2⟩, x1⟩ := h1
      have nn : ∀ {fp : List Nat}, (∀ b ∈ fp, b ∈ g :: (f1 ++ (f2 ++ (f3 ++ (f4 ++ f5)))) ∧ b ∉ f5 ∧ b ≠ g) → ∀ a ∈ fp, ∀ b ∈ (Value.ownBlock (.slice A6 (m.said.length + 1) c6)).toList, a ≠ b := fun hh a ha b hb e => by
        subst e
        rcases new a hb with h2 | h2
        · exact (hh a ha).2.1 h2
        · have := hlt a (hh a ha).1; omega
      refine ⟨⟨g1, g2, g3, g4, fun hm => hng g hm rfl⟩, n1, ⟨n2, ⟨n3, ⟨n4, ?_, fun a ha b hb => nn d4 a ha b hb⟩, fun a ha b hb => hb.elim (fun h => x3 a ha b (.inl h)) (fun h => nn d3 a ha b h)⟩, fun a ha b hb => hb.elim (fun h => x2 a ha b (.inl h)) (fun h => h.elim (fun h => x2 a ha b (.inr (.inl h))) (fun h => nn d2 a ha b h))⟩, fun a ha b hb => hb.elim (fun h => x1 a ha b (.inl h)) (fun h => h.elim (fun h => x1 a ha b (.inr (.inl h))) (fun h => h.elim (fun h => x1 a ha b (.inr (.inr (.inl h)))) (fun h => nn d1 a ha b h)))⟩
      cases (Value.ownBlock (.slice A6 (m.said.length + 1) c6)) <;> simp
    · have oldO : b ∈ g :: (f1 ++ (f2 ++ (f3 ++ (f4 ++ f5)))) → b ∉ f5 → b ≠ g → (lo ≤ b ∧ b < (W2.setCell ⟨g, 7, none⟩ (.slice A6 (m.said.length + 1) c6)).heap.size) ∧ ∃ cur e, (W2.setCell ⟨g, 7, none⟩ (.slice A6 (m.said.length + 1) c6)).heap[b]? = some (.cells cur e (0, 0)) := fun h1 h2 h3 => by
        obtain ⟨⟨a1, a2⟩, cur, e, a3⟩ := h.own.2 b h1
        refine ⟨⟨a1, ?_⟩, cur, e, ?_⟩
        · rw [World.size_setCell]; have := hgr.size; omega
        · rw [Below.heap_setCell W2 _ _ b h3, old b a2 h2]; exact a3
      simp only [List.mem_cons, List.mem_append] at hb
      rcases hb with rfl | hb | hb | hb | hb | hb
      · obtain ⟨⟨a1, a2⟩, cur, e, a3⟩ := h.own.2 b (by simp)
        refine ⟨⟨a1, ?_⟩, _, _, blk_put (hg2.trans a3) 7 _⟩
        rw [World.size_setCell]; have := hgr.size; omega
      · exact oldO (d1 b hb).1 (d1 b hb).2.1 (d1 b hb).2.2
      · exact oldO (d2 b hb).1 (d2 b hb).2.1 (d2 b hb).2.2
      · exact oldO (d3 b hb).1 (d3 b hb).2.1 (d3 b hb).2.2
      · exact oldO (d4 b hb).1 (d4 b hb).2.1 (d4 b hb).2.2
      · rcases hrow.2 with ⟨h1, _⟩ | ⟨gs, cap, cur, h1, h2, h3, _⟩
        · rw [h1] at hb
          simp [Value.ownBlock] at hb
        · rw [h1] at hb ⊢
          simp [Value.ownBlock] at hb
          subst hb
          rw [h1] at h3
          exact ⟨⟨h2, (Array.getElem?_eq_some_iff.1 h3).1⟩, cur, _, h3⟩
  · refine ⟨hgr.os.trans hb1.os, hgr.tape.trans hb1.tape, hgr.output.trans hb1.output, ?_, fun b hb hne => ?_⟩
    · rw [World.size_setCell]; have := hgr.size; omega
    · simp only [List.mem_cons, List.mem_append, not_or] at hne
      rw [Below.heap_setCell W2 _ _ b hne.1]
      exact old b hb hne.2.2.2.2.2
  · intro b hb
    simp only [List.mem_cons, List.mem_append] at hb ⊢
    rcases hb with hb | hb | hb | hb | hb | hb
    · exact .inl (.inl hb)
    · exact .inl (.inr (.inl hb))
    · exact .inl (.inr (.inr (.inl hb)))
    · exact .inl (.inr (.inr (.inr (.inl hb))))
    · exact .inl (.inr (.inr (.inr (.inr (.inl hb)))))
    · rcases new b hb with h1 | h1
      · exact .inl (.inr (.inr (.inr (.inr (.inr h1)))))
      · exact .inr h1
end
set_option maxHeartbeats 1000000 in
set_option maxRecDepth 100000 in
theorem say_c (m : Mac) (lo g : Nat) (S : List Nat) (b : Bool) (v : Int) (w : World) (h : MacR w lo m g S) (hl : m.said.length ≤ 1000000) : Calls Try.prog 69 #[.pointer (some ⟨g, 0, none⟩), .bool b, .int .i64 v] w fun e w' => e = .returned (.tuple #[]) ∧ MacP w lo g S { m with said := m.said ++ [(b, v)] } w' := by
  obtain ⟨A1, c1, A2, c2, A3, c3, A4, c4, A5, c5, f1, f2, f3, f4, f5, h, rfl⟩ := h
  have hS := Lib.hid h
  have hlo : lo ≤ w.heap.size := by have := (h.own.2 g (by simp)).1; omega
  have hgl := h.own.lt g (by simp)
  have k0 := fun o => blk_cell h.blk o
  have hgne : some g ≠ Value.ownBlock (.slice A5 m.said.length c5) := fun e => (mac_ne h.own).1.2.2.2.2 (by rw [h.sblk, ← e]; simp)
  clear h
  obtain ⟨n, hn⟩ : ∃ n, n = m.said.length := ⟨_, rfl⟩
  rw [← hn] at k0 hgne hl
  obtain ⟨i0, hi, hzz⟩ := Option.map_eq_some_iff.1 said_info
  simp only [Prod.mk.injEq] at hzz
  obtain ⟨hz0, hz1, hz2⟩ := hzz
  replace hi := Lib.hid hi
  replace hz0 := Lib.hid hz0
  replace hz1 := Lib.hid hz1
  replace hz2 := Lib.hid hz2
  replace hn := Lib.hid hn
  replace hgne := Lib.hid hgne
  have hrow : (w.alloc (.cells #[.bool b, .int .i64 v] 76)).ownsRow lo 76 2 (.slice A5 n c5) n (m.said.flatMap encS) := by rw [hn.out]; exact hS.out.said.alloc _
  have hnews := World.news_of_block (heap_top w (.cells #[.bool b, .int .i64 v] 76) rfl)
  have hg1 : g < (w.alloc (.cells #[.bool b, .int .i64 v] 76)).heap.size := by simp; omega
  have k1 : (w.alloc (.cells #[.bool b, .int .i64 v] 76)).cell? ⟨g, 7, none⟩ = some (.slice A5 n c5) := by rw [hn.out, blk_cell (heap_up hS.out.blk _)]; rfl
  have k2 : (w.alloc (.cells #[.bool b, .int .i64 v] 76)).frozen? ⟨g, 7, none⟩ = false := blk_frozen (heap_up hS.out.blk _) _
  replace hrow := Lib.hid hrow
  replace hnews := Lib.hid hnews
  replace k1 := Lib.hid k1
  replace k2 := Lib.hid k2
  replace hg1 := Lib.hid hg1
  go_enter Try.func69, Try.ntmps69
  go_wp2_with (at_builtin; refine wpList_append_own_at _ rfl _ _ 29 rfl lo 76 i0 (.agg #[.bool false, .int .i64 0]) 2 16 Try.underlying29 hi.out hz0.out hz1.out hz2.out rfl (by decide) (.slice A5 n c5) n (m.said.flatMap encS) rfl hrow.out ⟨w.heap.size, 0, none⟩ 1 1 [.bool b, .int .i64 v] rfl rfl hnews.out (by intro u hu; simp at hu; rcases hu with rfl | rfl <;> rfl) (by simp only [maxLen]; omega) (by omega) (by simp; omega) ?_; intro v5 w5 hown hgr hnil hob; obtain ⟨A6, c6, rfl⟩ := row_form hown; have k5 := (hgr.cell_far ⟨g, 7, none⟩ hg1.out hgne.out).trans k1.out; have z5 := (hgr.frozen_far ⟨g, 7, none⟩ hg1.out hgne.out).trans k2.out; replace hown := Lib.hid hown; replace hgr := Lib.hid hgr; replace hob := Lib.hid hob; clear hnil)
  have he := hS.out.say (b, v) (n + 1) (by rw [hn.out]) ((Below.refl _ _).alloc (Nat.le_refl _) _) hown.out (by rw [← hn.out]; exact hgr.out) (by rw [← hn.out]; exact hob.out)
  go_end0
  exact ⟨rfl, he⟩
end Go.Proofs.Ytkphkkfgphhjcaa
