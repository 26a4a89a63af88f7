/- The reference's step, of what is one's own; the reference's PartStep. -/
import Derived.Test.YtkphkkfgphhjcaaS9
namespace Go.Proofs.Ytkphkkfgphhjcaa
open Go.RowKit
set_option linter.unusedSimpArgs false
set_option linter.unusedVariables false

theorem Own.keptK {W W' : World} {S : List Nat} {lo hi : Nat} {fp : List Nat} (h : Own W lo hi fp) (k : KeptK S W W') : Own W' lo hi fp := ⟨h.1, fun b hb => ⟨(h.2 b hb).1, by
  obtain ⟨cur, e, h1⟩ := (h.2 b hb).2
  obtain ⟨c', h2⟩ := k.kind b cur e _ h1
  exact ⟨c', e, h2⟩⟩⟩
theorem Own.sub {W : World} {lo hi : Nat} {fp fp' : List Nat} (h : Own W lo hi fp) (hn : fp'.Nodup) (hs : ∀ b ∈ fp', b ∈ fp) : Own W lo hi fp' := ⟨hn, fun b hb => h.2 b (hs b hb)⟩
theorem SL.nodup {W : World} {v : Value} {xs : List Int} {fp : List Nat} (h : SL kI W v xs fp) : fp.Nodup := by
  obtain ⟨A, c, rfl, h1, h2, ⟨rfl, rfl⟩ | ⟨g, o, cur, e, fr, f, rfl, hg, rfl, h4⟩⟩ := h
  · exact List.nodup_nil
  · obtain rfl : f = [] := At.flat_nil h4
    simp
def LStepN (lo : Nat) (w : World) (r : Pt × List Int × List Sd × Bool) (e : Ending) (w' : World) : Prop := ∃ u1 u2 u3 u4 u5, e = .returned (.tuple #[.agg #[u1, u2, .int .i64 r.1.pc, .bool r.1.fails, u3], u4, u5, .bool r.2.2.2]) ∧ RunN lo w'.heap.size r.1 r.2.1 r.2.2.1 u1 u2 u3 u4 u5 w' ∧ Below lo w w'
theorem lstepN_c (p : Pt) (now : Int) (xs : List Int) (v1 v2 v3 v4 : Value) (f1 f2 f3 f4 : List Nat) (lo : Nat) (w : World) (h : PtF w p v1 v2 v3 f1 f2 f3) (hx : SL kI w v4 xs f4) (ho : Own w lo w.heap.size (f1 ++ (f2 ++ (f3 ++ f4)))) (hlo : lo ≤ w.heap.size) (hr : runOk p now xs = true) (hfl : p.fails = false) :
    Calls Try.prog 44 #[.agg #[v1, v2, .int .i64 p.pc, .bool p.fails, v3], .int .i64 now, v4] w (LStepN lo w (PStep p now xs)) := by
  have hOk := runOk_ok hr
  have hlen : p.cells.length = 8 := hOk.len
  have hxl : xs.length = 4 := hOk.plen
  obtain ⟨A1, c1, rfl, _⟩ := h.prog.form
  obtain ⟨A3, c3, rfl, _⟩ := h.box.form
  obtain ⟨gc, oc, c2, rfl, rfl⟩ := h.cells.one (by intro e; rw [e] at hlen; cases hlen)
  obtain ⟨gq, oq, c4, rfl, rfl⟩ := hx.one (by intro e; rw [e] at hxl; cases hxl)
  rw [hlen] at h ⊢
  rw [hxl] at hx ⊢
  have hz : ∀ b ∈ f1 ++ ([gc] ++ (f3 ++ [gq])), ∀ o, w.frozen? ⟨b, o, none⟩ = false := fun b hb o => by
    obtain ⟨cur, e, h1⟩ := (ho.2 b hb).2
    exact blk_frozen h1 o
  have hn := ho.1
  simp only [List.nodup_append, List.nodup_cons, List.mem_append, List.mem_singleton, List.mem_cons] at hn
  obtain ⟨n1, ⟨n2, ⟨n3, n4, n5⟩, n6⟩, n7⟩ := hn
  obtain ⟨⟨d, a, b⟩, hpr⟩ : ∃ o, p.prog[p.pc.toNat]? = some o := by
    have hpc := hOk.pc
    simp only [mac0] at hpc
    exact ⟨_, List.getElem?_eq_getElem (by omega)⟩
  have hst := lstep_c p now xs d a b A1 A3 p.prog.length c1 c3 c4 gc oc c2 gq oq f1 f3 w hOk h hx (hz gc (by simp)) (hz gq (by simp)) (fun hm => n7 gc hm gc (by simp) rfl) (fun hm => n6 gc (by simp) gc (by simp [hm]) rfl) (fun hm => n7 gq hm gq (by simp) rfl) (fun hm => n5 gq hm gq (by simp) rfl) (fun e => n6 gc (by simp) gq (by simp) e) hpr hfl
  have hP : PStep p now xs = LRes (p.opd now xs d a b) p.prog.length d := by
    rw [lres_eq p now xs d a b hOk hpr hfl]
    unfold PStep
    rw [if_pos hr, if_neg (by rw [hfl]; exact Bool.false_ne_true)]
  rw [hP]
  refine hst.mono ?_
  rintro e w' ⟨A3', c3', f3', A5, c5, f5, rfl, hp', hsub, hx', hs5, ho5, hK⟩
  have hsz := hK.size
  refine ⟨_, _, _, _, _, rfl, ⟨f1, [gc], f3', [gq], f5, hp', hx', hs5, ?_⟩, hK.toKept.below (fun b hb => ?_) hlo⟩
  · have h1 : Own w' lo w.heap.size (f1 ++ ([gc] ++ (f3' ++ [gq]))) := (ho.keptK hK).sub (by
      simp only [List.nodup_append, List.nodup_cons, List.mem_append, List.mem_singleton, List.mem_cons]
      refine ⟨n1, ⟨n2, ⟨hp'.box.nodup, n4, fun x hx y hy => n5 x (hsub x hx) y hy⟩, fun x hx y hy => n6 x hx y (hy.imp (hsub y) id)⟩, fun x hx y hy => n7 x hx y (hy.imp id (Or.imp (hsub y) id))⟩) (fun x hx => by
      simp only [List.mem_append, List.mem_singleton] at hx ⊢
      rcases hx with hx | hx | hx | hx
      · exact .inl hx
      · exact .inr (.inl hx)
      · exact .inr (.inr (.inl (hsub x hx)))
      · exact .inr (.inr (.inr hx)))
    have h2 := h1.app ho5 (Nat.le_refl _) hlo hsz
    simpa [List.append_assoc] using h2
  · refine (ho.2 b ?_).1.1
    simp only [List.mem_cons, List.not_mem_nil, or_false] at hb
    rcases hb with rfl | rfl <;> simp
end Go.Proofs.Ytkphkkfgphhjcaa
