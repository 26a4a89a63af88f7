/- The exact laws' helpers: a part is marked, and held. -/
import Derived.Test.YtkphkkfgphhjcaaX3
namespace Go.Proofs.Ytkphkkfgphhjcaa
open Go.RowKit
set_option linter.unusedSimpArgs false
set_option linter.unusedVariables false
set_option maxHeartbeats 2000000
set_option maxRecDepth 100000
theorem Own.three {W : World} {lo hi : Nat} {f1 f2 f3 : List Nat} (h : Own W lo hi (f1 ++ (f2 ++ f3))) : (Own W lo hi f1 ∧ Own W lo hi f2 ∧ Own W lo hi f3) ∧ (∀ b ∈ f2, b ∉ f1) ∧ (∀ b ∈ f3, b ∉ f1) ∧ (∀ b ∈ f3, b ∉ f2) := by
  have hn := h.1
  simp only [List.nodup_append, List.mem_append] at hn
  obtain ⟨n1, ⟨n2, n3, d23⟩, d1⟩ := hn
  exact ⟨⟨⟨n1, fun b hb => h.2 b (by simp [hb])⟩, ⟨n2, fun b hb => h.2 b (by simp [hb])⟩, ⟨n3, fun b hb => h.2 b (by simp [hb])⟩⟩, fun b hb hm => d1 b hm b (.inl hb) rfl, fun b hb hm => d1 b hm b (.inr hb) rfl, fun b hb hm => d23 b hm b hb rfl⟩
theorem Own.kept {W W' : World} {lo hi : Nat} {fp S : List Nat} (h : Own W lo hi fp) (hk : Kept S W W') (hd : ∀ b ∈ fp, b ∉ S) : Own W' lo hi fp := h.keep (fun b hb => hk.block b (h.lt b hb) (hd b hb))
theorem Own.below {W W' : World} {lo hi : Nat} {fp : List Nat} (h : Own W lo hi fp) (hb : Below W.heap.size W W') : Own W' lo hi fp := h.keep (fun b hm => hb.block b (h.lt b hm))
/-- Marks stay, where their row stays. -/
theorem Mk.kept {f : Nat → Value} {v : Value} {N : Nat} {W W' : World} {fp S : List Nat} (h : Mk f v N W) (hv : N ≠ 0 → ∀ g o n c, v = .slice (some ⟨g, o, none⟩) n c → g ∈ fp) (hk : Kept S W W') (hd : ∀ b ∈ fp, b ∉ S) : Mk f v N W' := by
  by_cases hN : N = 0
  · exact .inl hN
  rcases h with h | ⟨g, o, n, c, cur, e, h1, h2, h3⟩
  · exact .inl h
  · exact .inr ⟨g, o, n, c, cur, e, h1, (hk.block g (Array.getElem?_eq_some_iff.1 h2).1 (hd g (hv hN g o n c h1))).trans h2, h3⟩
theorem Mk.below {f : Nat → Value} {v : Value} {N : Nat} {W W' : World} (h : Mk f v N W) (hb : Below W.heap.size W W') : Mk f v N W' := by
  rcases h with h | ⟨g, o, n, c, cur, e, h1, h2, h3⟩
  · exact .inl h
  · exact .inr ⟨g, o, n, c, cur, e, h1, blk_below h2 hb, h3⟩
/-- Where a row that is not empty lies. -/
theorem SL.in_fp {α : Type} {d : Kd α} {W : World} {v : Value} {xs : List α} {fp : List Nat} (h : SL d W v xs fp) (hne : xs ≠ []) : ∀ g o n c, v = .slice (some ⟨g, o, none⟩) n c → g ∈ fp := fun g o n c e => by
  obtain ⟨A, c', rfl, _, _, ⟨rfl, _⟩ | ⟨g', o', cur, e', fr, f, rfl, hg, rfl, _⟩⟩ := h
  · exact absurd rfl hne
  · injection e with e1
    injection e1 with e1
    injection e1 with e1
    subst e1
    simp
structure MkP (k : Int) (n1 n2 n3 : Nat) (v1 v2 v3 : Value) (W : World) : Prop where
  m1 : Mk (fI k) v1 (n1 * 3) W
  m2 : Mk (fI (k + 3 * n1)) v2 n2 W
  m3 : Mk (fI (k + 3 * n1 + n2)) v3 n3 W
def MarkQ (k : Int) (n1 n2 n3 : Nat) (v1 v2 v3 : Value) (S : List Nat) (w : World) (e : Ending) (w' : World) : Prop := e = .returned (.int .i64 (k + 3 * n1 + n2 + n3)) ∧ Kept S w w' ∧ MkP k n1 n2 n3 v1 v2 v3 w'
theorem markPart_c (p : Pt) (v1 v2 v3 : Value) (f1 f2 f3 : List Nat) (lo hi : Nat) (k : Int) (w : World) (h : PtF w p v1 v2 v3 f1 f2 f3) (ho : Own w lo hi (f1 ++ (f2 ++ f3))) (k0 : 0 ≤ k) (k1 : k ≤ 100000000) (q1 : p.prog.length ≤ 2000000) (q2 : p.cells.length ≤ 2000000) (q3 : p.box.length ≤ 2000000) : Calls Try.prog 27 #[.agg #[v1, v2, .int .i64 p.pc, .bool p.fails, v3], .int .i64 k] w (MarkQ k p.prog.length p.cells.length p.box.length v1 v2 v3 (f1 ++ (f2 ++ f3)) w) := by
  obtain ⟨⟨o1, o2, o3⟩, d12, d13, d23⟩ := ho.three
  have hlt := ho.lt
  have i1 := fun hne => h.prog.in_fp hne
  have i2 := fun hne => h.cells.in_fp hne
  obtain ⟨A1, c1, rfl, _⟩ := h.prog.form
  obtain ⟨A2, c2, rfl, _⟩ := h.cells.form
  obtain ⟨A3, c3, rfl, _⟩ := h.box.form
  obtain ⟨pg, cl, pc, fl, bx⟩ := p
  simp only at *
  have hB0 : Below w.heap.size w (w.alloc (.cells #[.slice A1 pg.length c1, .slice A2 cl.length c2, .int .i64 pc, .bool fl, .slice A3 bx.length c3] 26)) := (Below.refl _ _).alloc (Nat.le_refl _) _
  have hm1 := Lib.hid (markOpS_c pg _ f1 lo hi k _ (h.prog.below hB0) (o1.below hB0) k0 (by omega) (by omega))
  have hC := Lib.hid (And.intro (h.cells.below hB0) (And.intro (h.box.below hB0) (And.intro (o2.below hB0) (o3.below hB0))))
  have hbx0 : (w.alloc (.cells #[.slice A1 pg.length c1, .slice A2 cl.length c2, .int .i64 pc, .bool fl, .slice A3 bx.length c3] 26)).heap[w.heap.size]? = some (.cells #[.slice A1 pg.length c1, .slice A2 cl.length c2, .int .i64 pc, .bool fl, .slice A3 bx.length c3] 26) := heap_top _ _ rfl
  replace i1 := Lib.hid i1
  replace i2 := Lib.hid i2
  replace d12 := Lib.hid d12
  replace d13 := Lib.hid d13
  replace d23 := Lib.hid d23
  replace hlt := Lib.hid hlt
  clear h ho o1 o2 o3
  go_enter Try.func27, Try.ntmps27
  go_wp2_with fail
  refine hm1.out.mono ?_
  rintro e w1 ⟨rfl, hK1, hM1⟩
  have hbx1 := (hK1.block w.heap.size (by simp) (fun hm => by have := hlt.out _ (List.mem_append_left _ hm); omega)).trans hbx0
  have kb := blk_cell hbx1
  have hm2 := Lib.hid (markIntS_c cl _ f2 lo hi (k + 3 * pg.length) w1 (hC.out.1.kept hK1 d12.out) (hC.out.2.2.1.kept hK1 d12.out) (by omega) (by omega) (by omega))
  have hC1 := Lib.hid (And.intro (hC.out.2.1.kept hK1 d13.out) (hC.out.2.2.2.kept hK1 d13.out))
  have hs1 := hK1.size
  simp only [World.size_alloc] at hs1
  replace hM1 := Lib.hid hM1
  clear hm1 hC hbx0
  go_wp2_with fail
  refine hm2.out.mono ?_
  rintro e w2 ⟨rfl, hK2, hM2⟩
  have hbx2 := (hK2.block w.heap.size (by omega) (fun hm => by have := hlt.out _ (List.mem_append_right _ (List.mem_append_left _ hm)); omega)).trans hbx1
  clear kb
  have kb := blk_cell hbx2
  have hm3 := Lib.hid (markIntS_c bx _ f3 lo hi (k + 3 * pg.length + cl.length) w2 (hC1.out.1.kept hK2 d23.out) (hC1.out.2.kept hK2 d23.out) (by omega) (by omega) (by omega))
  have hM12 := Lib.hid (hM1.out.kept (fp := f1) (fun hN => i1.out (fun e => hN (by rw [e]; rfl))) hK2 (fun b hb hm => d12.out b hm hb))
  have hs2 := hK2.size
  replace hM2 := Lib.hid hM2
  clear hm2 hC1 hbx1 hM1
  go_wp2_with fail
  refine hm3.out.mono ?_
  rintro e w3 ⟨rfl, hK3, hM3⟩
  have hM13 := Lib.hid (hM12.out.kept (fp := f1) (fun hN => i1.out (fun e => hN (by rw [e]; rfl))) hK3 (fun b hb hm => d13.out b hm hb))
  have hM23 := Lib.hid (hM2.out.kept (fp := f2) (fun hN => i2.out (fun e => hN (by rw [e]; rfl))) hK3 (fun b hb hm => d23.out b hm hb))
  have hK := Lib.hid ((((Kept.of_below hB0 (f1 ++ (f2 ++ f3))).trans hK1 (fun x hx => .inl (by simp [hx]))).trans hK2 (fun x hx => .inl (by simp [hx]))).trans hK3 (fun x hx => .inl (by simp [hx])))
  replace hM3 := Lib.hid hM3
  clear hm3 hbx2 hM12 hM2 kb
  go_wp2_with fail
  go_ret
  exact ⟨rfl, hK.out, hM13.out, hM23.out, hM3.out⟩
theorem heldPart_c (A1 A2 A3 : Option Addr) (n1 n2 n3 c1 c2 c3 : Nat) (pc : Int) (fl : Bool) (k : Int) (w : World) (h : MkP k n1 n2 n3 (.slice A1 n1 c1) (.slice A2 n2 c2) (.slice A3 n3 c3) w) (k0 : 0 ≤ k) (k1 : k ≤ 100000000) (q1 : n1 ≤ 2000000) (q2 : n2 ≤ 2000000) (q3 : n3 ≤ 2000000) : Calls Try.prog 30 #[.agg #[.slice A1 n1 c1, .slice A2 n2 c2, .int .i64 pc, .bool fl, .slice A3 n3 c3], .int .i64 k] w (Ret w (.int .i64 (k + 3 * n1 + n2 + n3))) := by
  have h1 := Lib.hid (fun W (hW : Below w.heap.size w W) => heldOpS_c A1 n1 c1 k W (h.m1.below hW) k0 (by omega) (by omega))
  have h2 := Lib.hid (fun W (hW : Below w.heap.size w W) => heldIntS_c A2 n2 c2 (k + 3 * n1) W (h.m2.below hW) (by omega) (by omega) (by omega))
  have h3 := Lib.hid (fun W (hW : Below w.heap.size w W) => heldIntS_c A3 n3 c3 (k + 3 * n1 + n2) W (h.m3.below hW) (by omega) (by omega) (by omega))
  have s1 : ¬ k + 3 * (n1 : Int) < 0 := by omega
  have s2 : ¬ k + 3 * (n1 : Int) + n2 < 0 := by omega
  have s3 : ¬ k + 3 * (n1 : Int) + n2 + n3 < 0 := by omega
  clear h
  go_enter Try.func30, Try.ntmps30
  go_wp2_with fail
  refine (h1.out _ (by repeat (first | (with_reducible exact Below.refl _ _) | (with_reducible assumption) | (with_reducible refine Below.drew ?_) | (with_reducible refine below_drewN' ?_ _) | (with_reducible refine Below.setCell ?_ (by first | (simp; done) | (simp; omega) | omega) _) | (with_reducible refine Below.alloc ?_ (by first | (simp; done) | (simp; omega) | omega) _) | (with_reducible refine Below.trans ?_ (Below.mono (by assumption) (by first | (simp; done) | (simp; omega) | omega)))))).mono ?_
  rintro e w1 ⟨rfl, rfl⟩
  go_wp2_with fail
  refine (h2.out _ (by repeat (first | (with_reducible exact Below.refl _ _) | (with_reducible assumption) | (with_reducible refine Below.drew ?_) | (with_reducible refine below_drewN' ?_ _) | (with_reducible refine Below.setCell ?_ (by first | (simp; done) | (simp; omega) | omega) _) | (with_reducible refine Below.alloc ?_ (by first | (simp; done) | (simp; omega) | omega) _) | (with_reducible refine Below.trans ?_ (Below.mono (by assumption) (by first | (simp; done) | (simp; omega) | omega)))))).mono ?_
  rintro e w1 ⟨rfl, rfl⟩
  go_wp2_with fail
  refine (h3.out _ (by repeat (first | (with_reducible exact Below.refl _ _) | (with_reducible assumption) | (with_reducible refine Below.drew ?_) | (with_reducible refine below_drewN' ?_ _) | (with_reducible refine Below.setCell ?_ (by first | (simp; done) | (simp; omega) | omega) _) | (with_reducible refine Below.alloc ?_ (by first | (simp; done) | (simp; omega) | omega) _) | (with_reducible refine Below.trans ?_ (Below.mono (by assumption) (by first | (simp; done) | (simp; omega) | omega)))))).mono ?_
  rintro e w1 ⟨rfl, rfl⟩
  go_wp2_with fail
  go_ret
  exact ⟨rfl, (by repeat (first | (with_reducible exact Below.refl _ _) | (with_reducible assumption) | (with_reducible refine Below.drew ?_) | (with_reducible refine below_drewN' ?_ _) | (with_reducible refine Below.setCell ?_ (by first | (simp; done) | (simp; omega) | omega) _) | (with_reducible refine Below.alloc ?_ (by first | (simp; done) | (simp; omega) | omega) _) | (with_reducible refine Below.trans ?_ (Below.mono (by assumption) (by first | (simp; done) | (simp; omega) | omega)))))⟩
end Go.Proofs.Ytkphkkfgphhjcaa
