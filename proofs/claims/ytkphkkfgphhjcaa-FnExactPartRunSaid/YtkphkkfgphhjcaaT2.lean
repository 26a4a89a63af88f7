/- The reference's run. -/
import Derived.Test.YtkphkkfgphhjcaaT0
import Derived.Test.YtkphkkfgphhjcaaS11
namespace Go.Proofs.Ytkphkkfgphhjcaa
open Go.RowKit
set_option linter.unusedSimpArgs false
set_option linter.unusedVariables false

/-- A step of the reference, of what is one's own: what has changed is one's own. -/
def LStepK (lo : Nat) (w : World) (fs : List Nat) (r : Pt × List Int × List Sd × Bool) (e : Ending) (w' : World) : Prop := ∃ u1 u2 u3 u4 u5 g1 g2 g3 g4 g5, e = .returned (.tuple #[.agg #[u1, u2, .int .i64 r.1.pc, .bool r.1.fails, u3], u4, u5, .bool r.2.2.2]) ∧ PtF w' r.1 u1 u2 u3 g1 g2 g3 ∧ SL kI w' u4 r.2.1 g4 ∧ SL kSd w' u5 r.2.2.1 g5 ∧ Own w' lo w.heap.size (g1 ++ (g2 ++ (g3 ++ g4))) ∧ Kept fs w w' ∧ (∀ b ∈ g1 ++ (g2 ++ (g3 ++ g4)), b ∈ fs) ∧ ∀ b ∈ g5, w.heap.size ≤ b
theorem lstepK_c (p : Pt) (now : Int) (xs : List Int) (v1 v2 v3 v4 : Value) (f1 f2 f3 f4 : List Nat) (lo : Nat) (w : World) (h : PtF w p v1 v2 v3 f1 f2 f3) (hx : SL kI w v4 xs f4) (ho : Own w lo w.heap.size (f1 ++ (f2 ++ (f3 ++ f4)))) (hlo : lo ≤ w.heap.size) (hr : runOk p now xs = true) (hfl : p.fails = false) :
    Calls Try.prog 44 #[.agg #[v1, v2, .int .i64 p.pc, .bool p.fails, v3], .int .i64 now, v4] w (LStepK lo w (f1 ++ (f2 ++ (f3 ++ f4))) (PStep p now xs)) := by
  have hOk := runOk_ok hr
  have hlen : p.cells.length = 8 := hOk.len
  have hxl : xs.length = 4 := hOk.plen
  obtain ⟨A1, c1, rfl, _⟩ := h.prog.form
  obtain ⟨A3, c3, rfl, _⟩ := h.box.form
  obtain ⟨gc, oc, c2, rfl, rfl⟩ := h.cells.one (by intro e; rw [e] at hlen; cases hlen)
  obtain ⟨gq, oq, c4, rfl, rfl⟩ := hx.one (by intro e; rw [e] at hxl; cases hxl)
  rw [hlen] at h ⊢
  rw [hxl] at hx ⊢
  have hz : ∀ b ∈ f1 ++ ([gc] ++ (f3 ++ [gq])), ∀ o, w.frozen? ⟨b, o, none⟩ = false := fun b hb o => by
    obtain ⟨cur, e, h1⟩ := (ho.2 b hb).2
    exact blk_frozen h1 o
  have hn := ho.1
  simp only [List.nodup_append, List.nodup_cons, List.mem_append, List.mem_singleton, List.mem_cons] at hn
  obtain ⟨n1, ⟨n2, ⟨n3, n4, n5⟩, n6⟩, n7⟩ := hn
  obtain ⟨⟨d, a, b⟩, hpr⟩ : ∃ o, p.prog[p.pc.toNat]? = some o := by
    have hpc := hOk.pc
    simp only [mac0] at hpc
    exact ⟨_, List.getElem?_eq_getElem (by omega)⟩
  have hst := lstep_c p now xs d a b A1 A3 p.prog.length c1 c3 c4 gc oc c2 gq oq f1 f3 w hOk h hx (hz gc (by simp)) (hz gq (by simp)) (fun hm => n7 gc hm gc (by simp) rfl) (fun hm => n6 gc (by simp) gc (by simp [hm]) rfl) (fun hm => n7 gq hm gq (by simp) rfl) (fun hm => n5 gq hm gq (by simp) rfl) (fun e => n6 gc (by simp) gq (by simp) e) hpr hfl
  have hP : PStep p now xs = LRes (p.opd now xs d a b) p.prog.length d := by
    rw [lres_eq p now xs d a b hOk hpr hfl]
    unfold PStep
    rw [if_pos hr, if_neg (by rw [hfl]; exact Bool.false_ne_true)]
  rw [hP]
  refine hst.mono ?_
  rintro e w' ⟨A3', c3', f3', A5, c5, f5, rfl, hp', hsub, hx', hs5, ho5, hK⟩
  have hsz := hK.size
  refine ⟨_, _, _, _, _, f1, [gc], f3', [gq], f5, rfl, hp', hx', hs5, ?_, hK.toKept.mono (fun b hb => by simp at hb; rcases hb with rfl | rfl <;> simp), fun b hb => ?_, fun b hb => (ho5.2 b hb).1.1⟩
  · exact (ho.keptK hK).sub (by
      simp only [List.nodup_append, List.nodup_cons, List.mem_append, List.mem_singleton, List.mem_cons]
      refine ⟨n1, ⟨n2, ⟨hp'.box.nodup, n4, fun x hx y hy => n5 x (hsub x hx) y hy⟩, fun x hx y hy => n6 x hx y (hy.imp (hsub y) id)⟩, fun x hx y hy => n7 x hx y (hy.imp id (Or.imp (hsub y) id))⟩) (fun x hx => by
      simp only [List.mem_append, List.mem_singleton] at hx ⊢
      rcases hx with hx | hx | hx | hx
      · exact .inl hx
      · exact .inr (.inl hx)
      · exact .inr (.inr (.inl (hsub x hx)))
      · exact .inr (.inr (.inr hx)))
  · simp only [List.mem_append, List.mem_singleton] at hb ⊢
    rcases hb with hb | hb | hb | hb
    · exact .inl hb
    · exact .inr (.inl hb)
    · exact .inr (.inr (.inl (hsub b hb)))
    · exact .inr (.inr (.inr hb))
/-- Append of a list onto a row of one's own. -/
theorem run_append_sl {α : Type} {enc : α → List Value} {sz : Nat} {hl : ∀ x, (enc x).length = sz} {P : Program} (W : World) (base : Nat) (t ty e : TypeId) (i : TypeInfo) (z : Value) (bytes : Nat) (ht : P.underlying t = some (.slice e)) (hi : P.info? e = some i) (hz : i.zero = some z) (hs : i.size = sz) (hb : i.bytes = bytes) (hzs : z.cells.size = sz) (hsz : 0 < sz) (h1c : ∀ x, ∀ u ∈ enc x, u.oneCell' = true)
    (v : Value) (n : Nat) (xs : List Value) (hown : W.ownsRow base e sz v n xs) (A : Option Addr) (m c : Nat) (ys : List α) (fp : List Nat) (h : SL (Kd.flat enc sz hl) W (.slice A m c) ys fp) (h63 : n + m ≤ maxLen) (hbytes : (n + m) * bytes ≤ 140737488355328) (hbase : base ≤ W.heap.size) :
    ∃ v' w', (Builtin.append_ #[t, t] ty #[v, .slice A m c]).run P W = .ok v' w' ∧ w'.ownsRow base e sz v' (n + ys.length) (xs ++ ys.flatMap enc) ∧ W.grownBy w' v.ownBlock ∧ (v'.ownBlock = v.ownBlock ∨ v'.ownBlock = some W.heap.size) := by
  have h' := h
  obtain ⟨A', c', h0, h2, h3, h4⟩ := h
  injection h0 with e1 e2 e3
  subst e1 e2 e3
  cases A with
  | none =>
    have hy : ys = [] := by
      rcases h4 with ⟨h4, _⟩ | ⟨g, o, cur, e', fr, f, hA, _⟩
      · exact h4
      · cases hA
    subst hy
    refine ⟨v, W, ?_, by simpa using hown, ⟨rfl, rfl, rfl, Nat.le_refl _, fun _ _ _ => rfl⟩, .inl rfl⟩
    rcases hown.2 with ⟨rfl, rfl⟩ | ⟨g, cap, cur, rfl, hbg, hg, hnc, _⟩
    · simp [Builtin.append_, run_underlying ht, sizeOf, typeInfo, hi, Builtin.lenOf, run_firstCells_none, storeCells]
    · simp [Builtin.append_, run_underlying ht, sizeOf, typeInfo, hi, Builtin.lenOf, run_firstCells_none, storeCells, hnc]
  | some a =>
    obtain ⟨v', w', hr, h5, h6, _, h8⟩ := run_append_own_at (P := P) W base t ty e i z sz bytes ht hi hz hs hb hzs hsz v n xs hown a ys.length c (ys.flatMap enc) (flat_len _ hl) (h'.flat_news rfl) (fun u hu => by
      obtain ⟨x, _, hx⟩ := List.mem_flatMap.1 hu
      exact h1c x u hx) h63 hbytes hbase
    exact ⟨v', w', hr, h5, h6, h8⟩
theorem said_infoQ : (Try.prog.info? 76).map (fun i => (i.zero, i.size, i.bytes)) = some (some (.agg #[.bool false, .int .i64 0]), 2, 16) := by kernel_rfl
theorem encS_one : ∀ x : Sd, ∀ u ∈ encS x, u.oneCell' = true := fun x u hu => by
  simp [encS] at hu
  rcases hu with rfl | rfl <;> rfl
section
variable {ops : Array Oper} {rest : List Oper} {o : Oper} {a : Act} {Q : Exit → Act → World → Prop}
theorem append_said {W : World} (hgd : o.guard = none) (s x : Operand) (ho : o.op = .call { callee := .builtin .append, args := #[s, x], argTypes := #[29, 29] }) (base : Nat) (v : Value) (sd : List Sd) (A : Option Addr) (m c : Nat) (ys : List Sd) (fp : List Nat) (hs : a.eval s = v) (hx : a.eval x = .slice A m c) (hown : W.ownsRow base 76 2 v sd.length (sd.flatMap encS)) (h : SL kSd W (.slice A m c) ys fp) (hn : sd.length + m ≤ 1000000) (hbase : base ≤ W.heap.size)
    (k : ∀ v' W', W'.ownsRow base 76 2 v' (sd ++ ys).length ((sd ++ ys).flatMap encS) → W.grownBy W' v.ownBlock → (v'.ownBlock = v.ownBlock ∨ v'.ownBlock = some W.heap.size) → wpList Try.prog ops Q rest (a.put o.dst v') W') : wpList Try.prog ops Q (o :: rest) a W := by
  obtain ⟨z0, hi3, hzz⟩ := Option.map_eq_some_iff.1 said_infoQ
  simp only [Prod.mk.injEq] at hzz
  obtain ⟨hi0, hi1, hi2⟩ := hzz
  obtain ⟨v', w', hr, h1, h2, h3⟩ := run_append_sl (P := Try.prog) (enc := encS) (sz := 2) (hl := fun _ => rfl) W base 29 o.type 76 z0 (.agg #[.bool false, .int .i64 0]) 16 Try.underlying29 hi3 hi0 hi1 hi2 rfl (by decide) encS_one v sd.length (sd.flatMap encS) hown A m c ys fp h (by unfold maxLen; omega) (by omega) hbase
  refine wpList_plain hgd fun K hK => ?_
  unfold Oper.wp execOp
  simp only [ho, resolve, invoke, builtin, Sem.run_bind, Sem.run_pure, Result.andThen_ok, List.map_toArray, List.map_cons, List.map_nil, hs, hx, hr]
  exact hK _ _ (k v' w' (by simpa using h1) h2 h3)
end
theorem litN2 (W : World) (e : TypeId) (n : Nat) : (W.alloc (.cells #[] e)).ownsRow W.heap.size e n (.slice (some ⟨W.heap.size, 0, none⟩) 0 0) 0 [] :=
  ⟨by simp, .inr ⟨W.heap.size, 0, #[], rfl, Nat.le_refl _, heap_top _ _ rfl, Nat.le_refl _, by simp [maxLen], by simp, by simp⟩⟩
theorem own_form {W : World} {base e n : Nat} {v : Value} {m : Nat} {xs : List Value} (h : W.ownsRow base e n v m xs) : ∃ A c, v = .slice A m c := by
  rcases h.2 with ⟨rfl, rfl⟩ | ⟨g, cap, cur, rfl, _⟩
  · exact ⟨_, _, rfl⟩
  · exact ⟨_, _, rfl⟩
def LRunQ (lo : Nat) (w : World) (r : Pt × List Int × List Sd) (e : Ending) (w' : World) : Prop := ∃ u1 u2 u3 u4 u5, e = .returned (.tuple #[.agg #[u1, u2, .int .i64 r.1.pc, .bool r.1.fails, u3], u4, u5]) ∧ RunN lo w'.heap.size r.1 r.2.1 r.2.2 u1 u2 u3 u4 u5 w' ∧ Below lo w w'
/-- Where the reference's loop stands. -/
structure LR (lo : Nat) (now : Int) (R : Pt × List Int × List Sd) (w : World) (k : Nat) (v2 v11 : Value) (pt : Pt) (ys : List Int) (sd : List Sd) (u1 u2 u3 : Value) (f1 f2 f3 f4 : List Nat) (wr : World) : Prop where
  box : wr.heap[w.heap.size]? = some (.cells #[u1, u2, .int .i64 pt.pc, .bool pt.fails, u3] 26 (0, 0))
  res : wr.heap[w.heap.size + 1]? = some (.cells #[.slice none 0 0, .slice none 0 0, .int .i64 0, .bool false, .slice none 0 0] 26 (0, 0))
  hpt : PtF wr pt u1 u2 u3 f1 f2 f3
  ports : SL kI wr v2 ys f4
  said : wr.ownsRow (w.heap.size + 2) 76 2 v11 sd.length (sd.flatMap encS)
  own : Own wr lo wr.heap.size (f1 ++ (f2 ++ (f3 ++ f4)))
  ne : ∀ b ∈ f1 ++ (f2 ++ (f3 ++ f4)), b ≠ w.heap.size ∧ b ≠ w.heap.size + 1 ∧ v11.ownBlock ≠ some b
  ok : runOk pt now ys = true
  run : runF now k pt ys sd = R
  len : sd.length + k ≤ 10000
  below : Below lo w wr
  size : w.heap.size + 2 ≤ wr.heap.size
theorem runF_step {now : Int} {k : Nat} {p : Pt} {xs : List Int} {sd : List Sd} (hf : p.fails = false) : runF now (k + 1) p xs sd = if (PStep p now xs).2.2.2 = true then runF now k (PStep p now xs).1 (PStep p now xs).2.1 (sd ++ (PStep p now xs).2.2.1) else ((PStep p now xs).1, (PStep p now xs).2.1, sd ++ (PStep p now xs).2.2.1) := by
  show (if p.fails = true then _ else _) = _
  rw [if_neg (by rw [hf]; exact Bool.false_ne_true)]
theorem said6 {w wr w5 w6 : World} {v11 : Value} {sd : List Sd} {fs : List Nat} (hs : wr.ownsRow (w.heap.size + 2) 76 2 v11 sd.length (sd.flatMap encS)) (hK5 : Kept fs wr w5) (hne : ∀ b ∈ fs, v11.ownBlock ≠ some b) (h6 : ∀ b, b ≠ w.heap.size → b < w5.heap.size → w6.heap[b]? = w5.heap[b]?) : w6.ownsRow (w.heap.size + 2) 76 2 v11 sd.length (sd.flatMap encS) := by
  refine ownsRow_keep hs (fun b hb => ?_)
  have hb' : v11.ownBlock = some b := by simpa using hb
  obtain ⟨h1, h2⟩ := hs.lt b hb'
  have := hK5.size
  rw [h6 b (by omega) (by omega)]
  exact hK5.block b h2 (fun hm => hne b hm hb')
theorem LR.next {lo : Nat} {now : Int} {R : Pt × List Int × List Sd} {w : World} {k' : Nat} {v2 v11 : Value} {pt : Pt} {ys : List Int} {sd : List Sd} {u1 u2 u3 : Value} {f1 f2 f3 f4 : List Nat} {wr : World} (hL : LR lo now R w (k' + 1) v2 v11 pt ys sd u1 u2 u3 f1 f2 f3 f4 wr) (hfl : pt.fails = false) {w5 w6 w7 : World} {q1 q2 q3 q4 : Value} {g1 g2 g3 g4 : List Nat} {r : Pt × List Int × List Sd × Bool} (hr : r = PStep pt now ys) (hp5 : PtF w5 r.1 q1 q2 q3 g1 g2 g3) (hx5 : SL kI w5 q4 r.2.1 g4) (ho5 : Own w5 lo wr.heap.size (g1 ++ (g2 ++ (g3 ++ g4)))) (hK5 : Kept (f1 ++ (f2 ++ (f3 ++ f4))) wr w5) (hg5 : ∀ b ∈ g1 ++ (g2 ++ (g3 ++ g4)), b ∈ f1 ++ (f2 ++ (f3 ++ f4)))
    (h6 : ∀ b, b ≠ w.heap.size → b < w5.heap.size → w6.heap[b]? = w5.heap[b]?) (hB6 : Below w.heap.size w5 w6) (h6b : w6.heap[w.heap.size]? = some (.cells #[q1, q2, .int .i64 r.1.pc, .bool r.1.fails, q3] 26 (0, 0))) {v7 : Value} (h7 : w7.ownsRow (w.heap.size + 2) 76 2 v7 (sd ++ r.2.2.1).length ((sd ++ r.2.2.1).flatMap encS)) (h7g : w6.grownBy w7 v11.ownBlock) (h7b : v7.ownBlock = v11.ownBlock ∨ v7.ownBlock = some w6.heap.size) (hlo : lo ≤ w.heap.size) :
    LR lo now R w (if r.2.2.2 = true then k' else 0) q4 v7 r.1 r.2.1 (sd ++ r.2.2.1) q1 q2 q3 g1 g2 g3 g4 w7 := by
  have hz5 := hK5.size
  have hz6 := hB6.size
  have hz7 := h7g.size
  have hsz := hL.size
  have hlt := hL.own.lt
  have hrow := fun k hk => hL.said.lt k hk
  have hk : ∀ b ∈ g1 ++ (g2 ++ (g3 ++ g4)), w7.heap[b]? = w5.heap[b]? := fun b hb => by
    have hf := hg5 b hb
    have h1 := hlt b hf
    obtain ⟨n1, n2, n3⟩ := hL.ne b hf
    rw [h7g.block b (by omega) (fun e => n3 e.symm), h6 b n1 (by omega)]
  have hps := pstep_ok hL.ok
  rw [← hr] at hps
  refine ⟨?_, ?_, hp5.keep (fun b hb => hk b (by simp only [List.mem_append] at hb ⊢; rcases hb with h | h | h <;> simp [h])), hx5.keep (fun b hb => hk b (by simp [hb])), h7, (ho5.keep hk).mono (Nat.le_refl _) (by omega), fun b hb => ?_, hps.ok, ?_, ?_, ?_, by omega⟩
  · rw [h7g.block _ (by omega) (fun e => by have := hrow _ e.symm; omega)]
    exact h6b
  · rw [h7g.block _ (by omega) (fun e => by have := hrow _ e.symm; omega), h6 _ (by omega) (by omega), hK5.block _ (by omega) (fun hm => (hL.ne _ hm).2.1 rfl)]
    exact hL.res
  · have hf := hg5 b hb
    have h1 := hlt b hf
    obtain ⟨n1, n2, n3⟩ := hL.ne b hf
    refine ⟨n1, n2, fun e => ?_⟩
    rcases h7b with h | h
    · exact n3 (h.symm.trans e)
    · rw [e] at h
      injection h with h
      omega
  · have h1 := hL.run
    rw [runF_step hfl, ← hr] at h1
    split at h1
    · rename_i hg
      rw [if_pos hg]
      exact h1
    · rename_i hg
      rw [if_neg hg]
      exact h1
  · have h1 := hps.said
    have h2 := hL.len
    rw [List.length_append]
    split <;> omega
  · have hB5 : Below lo w w5 := hL.below.trans (hK5.below (fun b hb => (hL.own.2 b hb).1.1) (by omega))
    exact (hB5.trans (hB6.mono hlo)).grown h7g (by have := hB5.size; omega) (fun k hk => by have := hrow k hk; omega)
theorem LR.fin {lo : Nat} {now : Int} {R : Pt × List Int × List Sd} {w : World} {k : Nat} {v2 v11 : Value} {pt : Pt} {ys : List Int} {sd : List Sd} {u1 u2 u3 : Value} {f1 f2 f3 f4 : List Nat} {wr : World} (hL : LR lo now R w k v2 v11 pt ys sd u1 u2 u3 f1 f2 f3 f4 wr) (he : k = 0 ∨ pt.fails = true) : R = (pt, ys, sd) := by
  have h1 := hL.run
  rcases he with rfl | hf
  · exact h1.symm
  · rw [runF_fails hf] at h1
    exact h1.symm
theorem LR.runN {lo : Nat} {now : Int} {R : Pt × List Int × List Sd} {w : World} {k : Nat} {v2 v11 : Value} {pt : Pt} {ys : List Int} {sd : List Sd} {u1 u2 u3 : Value} {f1 f2 f3 f4 : List Nat} {wr W : World} (hL : LR lo now R w k v2 v11 pt ys sd u1 u2 u3 f1 f2 f3 f4 wr) (hlo : lo ≤ w.heap.size) (hk : ∀ b, b ≠ w.heap.size + 1 → W.heap[b]? = wr.heap[b]?) (hs : wr.heap.size = W.heap.size) : RunN lo W.heap.size pt ys sd u1 u2 u3 v2 v11 W := by
  obtain ⟨f6, h6, h7, h8⟩ := sl_of_row (enc := encS) (sz := 2) (hl := fun _ => rfl) hL.said (by decide)
  have hk1 : ∀ b ∈ f1 ++ (f2 ++ (f3 ++ f4)), W.heap[b]? = wr.heap[b]? := fun b hb => hk b (hL.ne b hb).2.1
  have hk2 : ∀ b ∈ f6, W.heap[b]? = wr.heap[b]? := fun b hb => hk b (by have := (h7.2 b hb).1.1; omega)
  refine ⟨f1, f2, f3, f4, f6, hL.hpt.keep (fun b hb => hk1 b (by simp only [List.mem_append] at hb ⊢; rcases hb with h | h | h <;> simp [h])), hL.ports.keep (fun b hb => hk1 b (by simp [hb])), h6.keep hk2, ?_, fun b hb => ?_⟩
  · have hn := hL.own.1
    have e : f1 ++ (f2 ++ (f3 ++ (f4 ++ f6))) = (f1 ++ (f2 ++ (f3 ++ f4))) ++ f6 := by simp
    rw [e]
    exact List.nodup_append.2 ⟨hn, h7.1, fun a ha b hb e => (hL.ne a ha).2.2 (by rw [e]; exact h8 b hb)⟩
  · have e : f1 ++ (f2 ++ (f3 ++ (f4 ++ f6))) = (f1 ++ (f2 ++ (f3 ++ f4))) ++ f6 := by simp
    rw [e] at hb
    rcases List.mem_append.1 hb with hb | hb
    · have h1 := hL.own.2 b hb
      rw [← hs]
      exact ⟨h1.1, by rw [hk1 b hb]; exact h1.2⟩
    · have h1 := h7.2 b hb
      rw [← hs]
      exact ⟨⟨by omega, h1.1.2⟩, by rw [hk2 b hb]; exact h1.2⟩
set_option maxHeartbeats 2000000
set_option maxRecDepth 100000
theorem l10Run_c (p : Pt) (now : Int) (xs : List Int) (most : Int) (v1 v2 v3 v4 : Value) (f1 f2 f3 f4 : List Nat) (lo : Nat) (w : World) (h : PtF w p v1 v2 v3 f1 f2 f3) (hx : SL kI w v4 xs f4) (ho : Own w lo w.heap.size (f1 ++ (f2 ++ (f3 ++ f4)))) (hlo : lo ≤ w.heap.size) (hr : runOk p now xs = true) (m0 : 0 ≤ most) (m1 : most ≤ 9999) : Calls Try.prog 48 #[.agg #[v1, v2, .int .i64 p.pc, .bool p.fails, v3], .int .i64 now, v4, .int .i64 most] w (LRunQ lo w (runF now most.toNat p xs [])) := by
  obtain ⟨A1, c1, rfl, _⟩ := h.prog.form
  obtain ⟨A2, c2, rfl, _⟩ := h.cells.form
  obtain ⟨A3, c3, rfl, _⟩ := h.box.form
  obtain ⟨A4, c4, rfl, _⟩ := hx.form
  obtain ⟨R, hR⟩ : ∃ R, R = runF now most.toNat p xs [] := ⟨_, rfl⟩
  rw [← hR]
  have hStart : LR lo now R w most.toNat (.slice A4 xs.length c4) (.slice (some ⟨w.heap.size + 1 + 1, 0, none⟩) 0 0) p xs [] (.slice A1 p.prog.length c1) (.slice A2 p.cells.length c2) (.slice A3 p.box.length c3) f1 f2 f3 f4 (((w.alloc (.cells #[.slice A1 p.prog.length c1, .slice A2 p.cells.length c2, .int .i64 p.pc, .bool p.fails, .slice A3 p.box.length c3] 26)).alloc (.cells #[.slice none 0 0, .slice none 0 0, .int .i64 0, .bool false, .slice none 0 0] 26 (0, 0))).alloc (.cells #[] 76)) := by
    have hb : Below w.heap.size w (((w.alloc (.cells #[.slice A1 p.prog.length c1, .slice A2 p.cells.length c2, .int .i64 p.pc, .bool p.fails, .slice A3 p.box.length c3] 26)).alloc (.cells #[.slice none 0 0, .slice none 0 0, .int .i64 0, .bool false, .slice none 0 0] 26 (0, 0))).alloc (.cells #[] 76)) := (by repeat (first | (with_reducible exact Below.refl _ _) | (with_reducible assumption) | (with_reducible refine Below.drew ?_) | (with_reducible refine below_drewN' ?_ _) | (with_reducible refine Below.setCell ?_ (by first | (simp; done) | (simp; omega) | omega) _) | (with_reducible refine Below.alloc ?_ (by first | (simp; done) | (simp; omega) | omega) _) | (with_reducible refine Below.trans ?_ (Below.mono (by assumption) (by first | (simp; done) | (simp; omega) | omega)))))
    refine ⟨heap_up (heap_up (heap_top _ _ rfl) _) _, heap_up (heap_top _ _ (by simp)) _, h.below hb, hx.below hb, ?_, (ho.keep (fun b hm => hb.block b (ho.lt b hm))).mono (Nat.le_refl _) hb.size, fun b hm => ?_, hr, hR.symm, by simp; omega, hb.mono hlo, by simp⟩
    · have := litN2 ((w.alloc (.cells #[.slice A1 p.prog.length c1, .slice A2 p.cells.length c2, .int .i64 p.pc, .bool p.fails, .slice A3 p.box.length c3] 26)).alloc (.cells #[.slice none 0 0, .slice none 0 0, .int .i64 0, .bool false, .slice none 0 0] 26 (0, 0))) 76 2
      simpa using this
    · have := ho.lt b hm
      exact ⟨by omega, by omega, by simp [Value.ownBlock]; omega⟩
  replace hStart := Lib.hid hStart
  clear h hx ho hr hR
  go_enter Try.func48, Try.ntmps48
  go_wp2_with fail
  go_loopw [12, 2, 11] (fun v12 v2 v11 wr => ∃ (k : Nat) (pt : Pt) (ys : List Int) (sd : List Sd) (u1 u2 u3 : Value) (f1 f2 f3 f4 : List Nat), v12 = .int .i64 (most - k) ∧ (k : Int) ≤ most ∧ Hid (LR lo now R w k v2 v11 pt ys sd u1 u2 u3 f1 f2 f3 f4 wr)) (fun v12 _ _ _ => (most - intOf v12).toNat)
  case atStart => exact ⟨most.toNat, p, xs, [], _, _, _, f1, f2, f3, f4, by rw [Int.toNat_of_nonneg m0]; simp, by omega, hStart⟩
  case round =>
    obtain ⟨k, pt, ys, sd, u1, u2, u3, f1, f2, f3, f4, rfl, hkm, hL⟩ := hrel
    clear hStart
    obtain ⟨B1, b1, rfl, _⟩ := hL.out.hpt.prog.form
    obtain ⟨B2, b2, rfl, _⟩ := hL.out.hpt.cells.form
    obtain ⟨B3, b3, rfl, _⟩ := hL.out.hpt.box.form
    obtain ⟨B4, b4, rfl, _⟩ := hL.out.ports.form
    have kb := blk_cell hL.out.box
    have kz := blk_frozen hL.out.box
    have rb := blk_cell hL.out.res
    have rz := blk_frozen hL.out.res
    have hsz := hL.out.size
    have hs1 : w.heap.size < wr.heap.size := by omega
    have hs2 : w.heap.size + 1 < wr.heap.size := by omega
    by_cases hgo : 0 < k ∧ pt.fails = false
    · obtain ⟨hk, hfl⟩ := hgo
      obtain ⟨k', rfl⟩ : ∃ k', k = k' + 1 := ⟨k - 1, by omega⟩
      have hst := lstepK_c pt now ys _ _ _ _ f1 f2 f3 f4 lo wr hL.out.hpt hL.out.ports hL.out.own (by have := hL.out.below.size; omega) hL.out.ok hfl
      replace hst := Lib.hid hst
      have hlt : most - ((k' + 1 : Nat) : Int) < most := by omega
      rw [hfl] at kb
      clear rb rz kz
      go_wp2_with fail
      rw [hfl] at hst
      refine hst.out.mono ?_
      rintro e w5 ⟨q1, q2, q3, q4, q5, g1, g2, g3, g4, g5, rfl, hp5, hx5, hs5, ho5, hK5, hg5, hf5⟩
      obtain ⟨r, hr⟩ : ∃ r, r = PStep pt now ys := ⟨_, rfl⟩
      rw [← hr] at hp5 hx5 hs5 ⊢
      have hps := pstep_ok hL.out.ok
      rw [← hr] at hps
      have hpl := hps.said
      obtain ⟨E1, e1, rfl, _⟩ := hp5.prog.form
      obtain ⟨E2, e2, rfl, _⟩ := hp5.cells.form
      obtain ⟨E3, e3, rfl, _⟩ := hp5.box.form
      obtain ⟨E4, e4, rfl, _⟩ := hx5.form
      obtain ⟨E5, e5, rfl, _⟩ := hs5.form
      have hz5 := hK5.size
      have hbox5 : w5.heap[w.heap.size]? = _ := (hK5.block _ hs1 (fun hm => (hL.out.ne _ hm).1 rfl)).trans hL.out.box
      have k5 := blk_cell hbox5
      have z5 := blk_frozen hbox5
      have hnx := fun (w6 w7 : World) h6 hB6 h6b v7 h7 h7g h7b => LR.next (w6 := w6) (w7 := w7) hL.out hfl hr hp5 hx5 ho5 hK5 hg5 h6 hB6 h6b (v7 := v7) h7 h7g h7b hlo
      have hlen := hL.out.len
      have hs9 : w.heap.size < w5.heap.size := by omega
      obtain ⟨⟨pg, cl, pc, fl, bx⟩, ys', sd', on⟩ := r
      simp only at *
      have h6 : ∀ b, b ≠ w.heap.size → b < w5.heap.size → ((((((w5.setCell ⟨w.heap.size, 0, none⟩ (.slice E1 pg.length e1)).setCell ⟨w.heap.size, 1, none⟩ (.slice E2 cl.length e2)).setCell ⟨w.heap.size, 2, none⟩ (.int .i64 pc)).setCell ⟨w.heap.size, 3, none⟩ (.bool fl)).setCell ⟨w.heap.size, 4, none⟩ (.slice E3 bx.length e3)).alloc (.cells #[.slice E1 pg.length e1, .slice E2 cl.length e2, .int .i64 pc, .bool fl, .slice E3 bx.length e3] 26)).heap[b]? = w5.heap[b]? := fun b hb hlt => by
        rw [Below.heap_alloc _ _ _ (by simpa using hlt), Below.heap_setCell _ _ _ _ hb, Below.heap_setCell _ _ _ _ hb, Below.heap_setCell _ _ _ _ hb, Below.heap_setCell _ _ _ _ hb, Below.heap_setCell _ _ _ _ hb]
      have hB6 : Below w.heap.size w5 ((((((w5.setCell ⟨w.heap.size, 0, none⟩ (.slice E1 pg.length e1)).setCell ⟨w.heap.size, 1, none⟩ (.slice E2 cl.length e2)).setCell ⟨w.heap.size, 2, none⟩ (.int .i64 pc)).setCell ⟨w.heap.size, 3, none⟩ (.bool fl)).setCell ⟨w.heap.size, 4, none⟩ (.slice E3 bx.length e3)).alloc (.cells #[.slice E1 pg.length e1, .slice E2 cl.length e2, .int .i64 pc, .bool fl, .slice E3 bx.length e3] 26)) := by
        exact (by repeat (first | (with_reducible exact Below.refl _ _) | (with_reducible assumption) | (with_reducible refine Below.drew ?_) | (with_reducible refine below_drewN' ?_ _) | (with_reducible refine Below.setCell ?_ (by first | (simp; done) | (simp; omega) | omega) _) | (with_reducible refine Below.alloc ?_ (by first | (simp; done) | (simp; omega) | omega) _) | (with_reducible refine Below.trans ?_ (Below.mono (by assumption) (by first | (simp; done) | (simp; omega) | omega)))))
      have h6b : ((((((w5.setCell ⟨w.heap.size, 0, none⟩ (.slice E1 pg.length e1)).setCell ⟨w.heap.size, 1, none⟩ (.slice E2 cl.length e2)).setCell ⟨w.heap.size, 2, none⟩ (.int .i64 pc)).setCell ⟨w.heap.size, 3, none⟩ (.bool fl)).setCell ⟨w.heap.size, 4, none⟩ (.slice E3 bx.length e3)).alloc (.cells #[.slice E1 pg.length e1, .slice E2 cl.length e2, .int .i64 pc, .bool fl, .slice E3 bx.length e3] 26)).heap[w.heap.size]? = some (.cells #[.slice E1 pg.length e1, .slice E2 cl.length e2, .int .i64 pc, .bool fl, .slice E3 bx.length e3] 26 (0, 0)) := heap_up (blk_put (blk_put (blk_put (blk_put (blk_put hbox5 0 _) 1 _) 2 _) 3 _) 4 _) _
      have hsd6 := said6 hL.out.said hK5 (fun b hb => (hL.out.ne b hb).2.2) h6
      have hs56 := hs5.keep (W' := (((((w5.setCell ⟨w.heap.size, 0, none⟩ (.slice E1 pg.length e1)).setCell ⟨w.heap.size, 1, none⟩ (.slice E2 cl.length e2)).setCell ⟨w.heap.size, 2, none⟩ (.int .i64 pc)).setCell ⟨w.heap.size, 3, none⟩ (.bool fl)).setCell ⟨w.heap.size, 4, none⟩ (.slice E3 bx.length e3)).alloc (.cells #[.slice E1 pg.length e1, .slice E2 cl.length e2, .int .i64 pc, .bool fl, .slice E3 bx.length e3] 26)) (fun b hb => h6 b (by have := hf5 b hb; omega) (hs5.lt b hb))
      have hlen6 : sd.length + sd'.length ≤ 1000000 := by omega
      have hbase6 : w.heap.size + 2 ≤ ((((((w5.setCell ⟨w.heap.size, 0, none⟩ (.slice E1 pg.length e1)).setCell ⟨w.heap.size, 1, none⟩ (.slice E2 cl.length e2)).setCell ⟨w.heap.size, 2, none⟩ (.int .i64 pc)).setCell ⟨w.heap.size, 3, none⟩ (.bool fl)).setCell ⟨w.heap.size, 4, none⟩ (.slice E3 bx.length e3)).alloc (.cells #[.slice E1 pg.length e1, .slice E2 cl.length e2, .int .i64 pc, .bool fl, .slice E3 bx.length e3] 26)).heap.size := by simp only [World.size_setCell, World.size_alloc]; omega
      replace hnx := Lib.hid (fun w7 v7 h7 h7g h7b => hnx _ w7 h6 hB6 h6b v7 h7 h7g h7b)
      replace hsd6 := Lib.hid hsd6
      replace hs56 := Lib.hid hs56
      clear hst hp5 hx5 hs5 ho5 hK5 hg5 hf5 hbox5 h6 hB6 h6b hL kb hps hr
      cases on
      · simp only [Bool.false_eq_true, if_false] at hnx
        go_wp2_with (at_builtin; refine append_said rfl (.tmp 39) (.tmp 40) rfl (w.heap.size + 2) u11 sd E5 sd'.length e5 sd' g5 rfl rfl hsd6.out hs56.out hlen6 hbase6 ?_; intro v7 w7 b1 b2 b3; replace hnx := Lib.hid (hnx.out w7 v7 b1 b2 b3); clear b1 b2 b3 hsd6 hs56; have x1 := blk_cell hnx.out.box; have x2 := blk_frozen hnx.out.box; have x3 := blk_cell hnx.out.res; have x4 := blk_frozen hnx.out.res; have x5 := hnx.out.size; have x6 : w.heap.size < w7.heap.size := (by omega); have x7 : w.heap.size + 1 < w7.heap.size := (by omega); obtain ⟨V7, c7, rfl⟩ := own_form hnx.out.said)
        have hRm := (hnx).out.fin (.inl rfl)
        subst hRm
        have hbF := blk_put (blk_put (blk_put (blk_put (blk_put (hnx).out.res 0 (.slice E1 pg.length e1)) 1 (.slice E2 cl.length e2)) 2 (.int .i64 (pc))) 3 (.bool (fl))) 4 (.slice E3 bx.length e3)
        have kF := blk_cell hbF
        have hrun := (hnx).out.runN (W := (((((w7).setCell ⟨w.heap.size + 1, 0, none⟩ (.slice E1 pg.length e1)).setCell ⟨w.heap.size + 1, 1, none⟩ (.slice E2 cl.length e2)).setCell ⟨w.heap.size + 1, 2, none⟩ (.int .i64 (pc))).setCell ⟨w.heap.size + 1, 3, none⟩ (.bool (fl))).setCell ⟨w.heap.size + 1, 4, none⟩ (.slice E3 bx.length e3)) hlo (fun b hb => by rw [Below.heap_setCell _ _ _ _ hb, Below.heap_setCell _ _ _ _ hb, Below.heap_setCell _ _ _ _ hb, Below.heap_setCell _ _ _ _ hb, Below.heap_setCell _ _ _ _ hb]) (by simp only [World.size_setCell])
        have hlo1 : lo ≤ w.heap.size + 1 := by omega
        have hbel : Below lo w ((((((w7).setCell ⟨w.heap.size + 1, 0, none⟩ (.slice E1 pg.length e1)).setCell ⟨w.heap.size + 1, 1, none⟩ (.slice E2 cl.length e2)).setCell ⟨w.heap.size + 1, 2, none⟩ (.int .i64 (pc))).setCell ⟨w.heap.size + 1, 3, none⟩ (.bool (fl))).setCell ⟨w.heap.size + 1, 4, none⟩ (.slice E3 bx.length e3)) := (((((hnx).out.below.setCell (p := ⟨w.heap.size + 1, 0, none⟩) hlo1 _).setCell (p := ⟨w.heap.size + 1, 1, none⟩) hlo1 _).setCell (p := ⟨w.heap.size + 1, 2, none⟩) hlo1 _).setCell (p := ⟨w.heap.size + 1, 3, none⟩) hlo1 _).setCell (p := ⟨w.heap.size + 1, 4, none⟩) hlo1 _
        generalize (((((w7).setCell ⟨w.heap.size + 1, 0, none⟩ (.slice E1 pg.length e1)).setCell ⟨w.heap.size + 1, 1, none⟩ (.slice E2 cl.length e2)).setCell ⟨w.heap.size + 1, 2, none⟩ (.int .i64 (pc))).setCell ⟨w.heap.size + 1, 3, none⟩ (.bool (fl))).setCell ⟨w.heap.size + 1, 4, none⟩ (.slice E3 bx.length e3) = W9 at *
        refine bodyPost_ret (v := .tuple #[.agg #[.slice E1 pg.length e1, .slice E2 cl.length e2, .int .i64 (pc), .bool (fl), .slice E3 bx.length e3], .slice E4 ys'.length e4, .slice V7 (sd ++ sd').length c7]) (by simp [results, Try.results48, go_sem, kF]) rfl ?_
        exact ⟨_, _, _, _, _, rfl, hrun, hbel⟩
      · simp only [if_true] at hnx
        go_wp2_with (at_builtin; refine append_said rfl (.tmp 39) (.tmp 40) rfl (w.heap.size + 2) u11 sd E5 sd'.length e5 sd' g5 rfl rfl hsd6.out hs56.out hlen6 hbase6 ?_; intro v7 w7 b1 b2 b3; replace hnx := Lib.hid (hnx.out w7 v7 b1 b2 b3); clear b1 b2 b3 hsd6 hs56; have x1 := blk_cell hnx.out.box; have x2 := blk_frozen hnx.out.box; have x3 := blk_cell hnx.out.res; have x4 := blk_frozen hnx.out.res; have x5 := hnx.out.size; have x6 : w.heap.size < w7.heap.size := (by omega); have x7 : w.heap.size + 1 < w7.heap.size := (by omega); obtain ⟨V7, c7, rfl⟩ := own_form hnx.out.said)
        exact ⟨⟨k', _, _, _, _, _, _, g1, g2, g3, g4, by congr 1; omega, by omega, by simpa using hnx⟩, by simp [intOf]; omega⟩
    · clear hkm
      obtain ⟨V7, c7, rfl⟩ := own_form hL.out.said
      rcases Nat.eq_zero_or_pos k with rfl | hk
      · go_wp2_with fail
        have hRm := (hL).out.fin (.inl rfl)
        subst hRm
        have hbF := blk_put (blk_put (blk_put (blk_put (blk_put (hL).out.res 0 (.slice B1 pt.prog.length b1)) 1 (.slice B2 pt.cells.length b2)) 2 (.int .i64 (pt.pc))) 3 (.bool (pt.fails))) 4 (.slice B3 pt.box.length b3)
        have kF := blk_cell hbF
        have hrun := (hL).out.runN (W := (((((wr).setCell ⟨w.heap.size + 1, 0, none⟩ (.slice B1 pt.prog.length b1)).setCell ⟨w.heap.size + 1, 1, none⟩ (.slice B2 pt.cells.length b2)).setCell ⟨w.heap.size + 1, 2, none⟩ (.int .i64 (pt.pc))).setCell ⟨w.heap.size + 1, 3, none⟩ (.bool (pt.fails))).setCell ⟨w.heap.size + 1, 4, none⟩ (.slice B3 pt.box.length b3)) hlo (fun b hb => by rw [Below.heap_setCell _ _ _ _ hb, Below.heap_setCell _ _ _ _ hb, Below.heap_setCell _ _ _ _ hb, Below.heap_setCell _ _ _ _ hb, Below.heap_setCell _ _ _ _ hb]) (by simp only [World.size_setCell])
        have hlo1 : lo ≤ w.heap.size + 1 := by omega
        have hbel : Below lo w ((((((wr).setCell ⟨w.heap.size + 1, 0, none⟩ (.slice B1 pt.prog.length b1)).setCell ⟨w.heap.size + 1, 1, none⟩ (.slice B2 pt.cells.length b2)).setCell ⟨w.heap.size + 1, 2, none⟩ (.int .i64 (pt.pc))).setCell ⟨w.heap.size + 1, 3, none⟩ (.bool (pt.fails))).setCell ⟨w.heap.size + 1, 4, none⟩ (.slice B3 pt.box.length b3)) := (((((hL).out.below.setCell (p := ⟨w.heap.size + 1, 0, none⟩) hlo1 _).setCell (p := ⟨w.heap.size + 1, 1, none⟩) hlo1 _).setCell (p := ⟨w.heap.size + 1, 2, none⟩) hlo1 _).setCell (p := ⟨w.heap.size + 1, 3, none⟩) hlo1 _).setCell (p := ⟨w.heap.size + 1, 4, none⟩) hlo1 _
        generalize (((((wr).setCell ⟨w.heap.size + 1, 0, none⟩ (.slice B1 pt.prog.length b1)).setCell ⟨w.heap.size + 1, 1, none⟩ (.slice B2 pt.cells.length b2)).setCell ⟨w.heap.size + 1, 2, none⟩ (.int .i64 (pt.pc))).setCell ⟨w.heap.size + 1, 3, none⟩ (.bool (pt.fails))).setCell ⟨w.heap.size + 1, 4, none⟩ (.slice B3 pt.box.length b3) = W9 at *
        refine bodyPost_ret (v := .tuple #[.agg #[.slice B1 pt.prog.length b1, .slice B2 pt.cells.length b2, .int .i64 (pt.pc), .bool (pt.fails), .slice B3 pt.box.length b3], .slice B4 ys.length b4, .slice V7 sd.length c7]) (by simp [results, Try.results48, go_sem, kF]) rfl ?_
        exact ⟨_, _, _, _, _, rfl, hrun, hbel⟩
      · have hft : pt.fails = true := by
          cases hf : pt.fails
          · exact absurd ⟨hk, hf⟩ hgo
          · rfl
        obtain ⟨⟨pg, cl, pc, fl, bx⟩, hpt⟩ : ∃ P, P = pt := ⟨_, rfl⟩
        subst hpt
        simp only at hft
        subst hft
        simp only at kb
        have hlt : most - (k : Int) < most := by omega
        go_wp2_with fail
        have hRm := (hL).out.fin (.inr rfl)
        subst hRm
        have hbF := blk_put (blk_put (blk_put (blk_put (blk_put (hL).out.res 0 (.slice B1 pg.length b1)) 1 (.slice B2 cl.length b2)) 2 (.int .i64 (pc))) 3 (.bool (true))) 4 (.slice B3 bx.length b3)
        have kF := blk_cell hbF
        have hrun := (hL).out.runN (W := (((((wr).setCell ⟨w.heap.size + 1, 0, none⟩ (.slice B1 pg.length b1)).setCell ⟨w.heap.size + 1, 1, none⟩ (.slice B2 cl.length b2)).setCell ⟨w.heap.size + 1, 2, none⟩ (.int .i64 (pc))).setCell ⟨w.heap.size + 1, 3, none⟩ (.bool (true))).setCell ⟨w.heap.size + 1, 4, none⟩ (.slice B3 bx.length b3)) hlo (fun b hb => by rw [Below.heap_setCell _ _ _ _ hb, Below.heap_setCell _ _ _ _ hb, Below.heap_setCell _ _ _ _ hb, Below.heap_setCell _ _ _ _ hb, Below.heap_setCell _ _ _ _ hb]) (by simp only [World.size_setCell])
        have hlo1 : lo ≤ w.heap.size + 1 := by omega
        have hbel : Below lo w ((((((wr).setCell ⟨w.heap.size + 1, 0, none⟩ (.slice B1 pg.length b1)).setCell ⟨w.heap.size + 1, 1, none⟩ (.slice B2 cl.length b2)).setCell ⟨w.heap.size + 1, 2, none⟩ (.int .i64 (pc))).setCell ⟨w.heap.size + 1, 3, none⟩ (.bool (true))).setCell ⟨w.heap.size + 1, 4, none⟩ (.slice B3 bx.length b3)) := (((((hL).out.below.setCell (p := ⟨w.heap.size + 1, 0, none⟩) hlo1 _).setCell (p := ⟨w.heap.size + 1, 1, none⟩) hlo1 _).setCell (p := ⟨w.heap.size + 1, 2, none⟩) hlo1 _).setCell (p := ⟨w.heap.size + 1, 3, none⟩) hlo1 _).setCell (p := ⟨w.heap.size + 1, 4, none⟩) hlo1 _
        generalize (((((wr).setCell ⟨w.heap.size + 1, 0, none⟩ (.slice B1 pg.length b1)).setCell ⟨w.heap.size + 1, 1, none⟩ (.slice B2 cl.length b2)).setCell ⟨w.heap.size + 1, 2, none⟩ (.int .i64 (pc))).setCell ⟨w.heap.size + 1, 3, none⟩ (.bool (true))).setCell ⟨w.heap.size + 1, 4, none⟩ (.slice B3 bx.length b3) = W9 at *
        refine bodyPost_ret (v := .tuple #[.agg #[.slice B1 pg.length b1, .slice B2 cl.length b2, .int .i64 (pc), .bool (true), .slice B3 bx.length b3], .slice B4 ys.length b4, .slice V7 sd.length c7]) (by simp [results, Try.results48, go_sem, kF]) rfl ?_
        exact ⟨_, _, _, _, _, rfl, hrun, hbel⟩
end Go.Proofs.Ytkphkkfgphhjcaa
