/- What draws: ports. -/
import Derived.Test.YtkphkkfgphhjcaaQ1
import Derived.Test.YtkphkkfgphhjcaaS10
namespace Go.Proofs.Ytkphkkfgphhjcaa
open Go.RowKit
set_option linter.unusedSimpArgs false
set_option linter.unusedVariables false

theorem int_infoQ : (Try.prog.info? 3).map (fun i => (i.zero, i.size, i.bytes)) = some (some (.int .i64 0), 1, 8) := by kernel_rfl
/-- Ports that are drawn. -/
def PortsQ (w0 w : World) (g : Nat) (p : Int) (e : Ending) (w' : World) : Prop := ∃ xs A c f q, e = .returned (.slice A xs.length c) ∧ SL kI w' (.slice A xs.length c) xs f ∧ Own w' w.heap.size w'.heap.size f ∧ xs.length ≤ 4 ∧ (∀ x ∈ xs, 0 ≤ x ∧ x ≤ 9999) ∧ p ≤ q ∧ q ≤ p + 100 ∧ Rd w0 w' g q ∧ Kp g w w'
set_option maxHeartbeats 4000000
set_option maxRecDepth 100000
theorem ports_d (w0 w : World) (g : Nat) (p : Int) (h : Rd w0 w g p) (h0 : 0 ≤ p) (h1 : p ≤ 10000000000) : Calls Try.prog 36 #[.pointer (some ⟨g, 0, none⟩)] w (PortsQ w0 w g p) := by
  have hg : g < w.heap.size := h.lt
  have hge := h.ge
  go_enter Try.func36, Try.ntmps36
  go_wp2_with fail
  have ho1 := Lib.hid (litN w 3 1)
  go_loopw [3, 4] (fun v3 v4 wr => ∃ (xs : List Int) (i q : Int), v4 = .int .i64 i ∧ 0 ≤ i ∧ i ≤ 4 ∧ (xs.length : Int) = i ∧ Hid (∀ x ∈ xs, 0 ≤ x ∧ x ≤ 9999) ∧ Hid (wr.ownsRow w.heap.size 3 1 v3 xs.length (xs.flatMap encI)) ∧ Rd w0 wr g q ∧ Kp g w wr ∧ p ≤ q ∧ q ≤ p + 4 * i) (fun _ v4 _ => (4 - intOf v4).toNat)
  case atStart => exact ⟨[], 0, p, rfl, by omega, by omega, rfl, Lib.hid (fun x hx => by cases hx), ho1, (by repeat (first | (with_reducible assumption) | (with_reducible refine Rd.drew ?_) | (with_reducible refine Rd.own ?_ (by first | (simp; done) | (simp; omega) | omega) (by first | (simp; done) | (simp; omega) | omega) _) | (with_reducible refine Rd.alloc ?_ _))), (by repeat (first | (with_reducible exact Kp.refl _ _) | (with_reducible assumption) | (with_reducible refine Kp.own ?_ (by first | (simp; done) | (simp; omega) | omega) _) | (with_reducible refine Kp.alloc ?_ _) | (with_reducible refine Kp.drew ?_) | (with_reducible refine Kp.trans ?_ (by assumption)))), by omega, by omega⟩
  case round =>
    obtain ⟨xs, i, q, rfl, i0, i1, il, HV, HO, hR, hK, q0, q1⟩ := hrel
    have hs := hK.size
    clear ho1
    by_cases hi : i < 4
    · go_wp2_with fail
      refine (pick_c w0 _ g (q) (256) (by repeat (first | (with_reducible assumption) | (with_reducible refine Rd.drew ?_) | (with_reducible refine Rd.own ?_ (by first | (simp; done) | (simp; omega) | omega) (by first | (simp; done) | (simp; omega) | omega) _) | (with_reducible refine Rd.alloc ?_ _))) (by omega) (by omega) (by omega) (by omega)).mono ?_
      rintro e w1 ⟨r1, rfl, ra1, rb1, hR1, hK1⟩
      obtain ⟨hc1, hf1⟩ := kcell hK1
      have hz1 := hK1.size
      (try simp only [World.size_alloc, World.size_setCell, World.size_drew] at hz1)
      have HO1 := Lib.hid (own_kp HO.out hK1 hg)
      go_wp2_with fail
      refine (one_c w0 _ g (q + 1) w1.heap.size #[.int .i64 0, .int .i64 r1, .int .i64 9999] 3 (by repeat (first | (with_reducible assumption) | (with_reducible refine Rd.drew ?_) | (with_reducible refine Rd.own ?_ (by first | (simp; done) | (simp; omega) | omega) (by first | (simp; done) | (simp; omega) | omega) _) | (with_reducible refine Rd.alloc ?_ _))) (by omega) (by omega) (heap_top _ _ rfl) (by omega) rfl (by decide) (by decide) (IntR 9999) (fun j v hj => ?_)).mono ?_
      · match j, hj with
        | 0, hj => cases hj; exact ⟨_, rfl, by decide, by decide⟩
        | 1, hj => cases hj; exact ⟨_, rfl, by omega, by omega⟩
        | 2, hj => cases hj; exact ⟨_, rfl, by decide, by decide⟩
        | (j + 3), hj => simp at hj
      rintro e w3 ⟨v, rfl, ⟨x, rfl, x0, x1⟩, hR3, hK3⟩
      have hKw : Kp g w w3 := (hK.trans hK1).trans (((Kp.refl _ _).alloc _).trans hK3)
      have HO3 := Lib.hid (own_alloc8 (own_kp (own_alloc8 HO1.out _) hK3 hg) (.cells #[.int .i64 x] 3))
      have hs3 := hK3.size
      simp only [World.size_alloc] at hs3
      have hnews := Lib.hid (World.news_of_block (heap_top w3 (.cells #[.int .i64 x] 3) rfl))
      obtain ⟨z0, hi3, hzz⟩ := Option.map_eq_some_iff.1 int_infoQ
      simp only [Prod.mk.injEq] at hzz
      obtain ⟨hi0, hi1, hi2⟩ := hzz
      replace hi3 := Lib.hid hi3
      replace hi0 := Lib.hid hi0
      replace hi1 := Lib.hid hi1
      replace hi2 := Lib.hid hi2
      have hxl : xs.length ≤ 16 := by omega
      go_wp2_with (at_builtin; refine wpList_append_own_at _ rfl _ _ 24 rfl w.heap.size 3 z0 (.int .i64 0) 1 8 Try.underlying24 hi3.out hi0.out hi1.out hi2.out rfl (by decide) _ xs.length (xs.flatMap encI) rfl HO3.out ⟨w3.heap.size, 0, none⟩ 1 1 [.int .i64 x] rfl rfl hnews.out (by intro u hu; simp at hu; rcases hu with rfl; rfl) (by simp [maxLen]; omega) (by omega) (by simp; omega) ?_; intro v5 w5 hown hgr hnil hob; replace hown := Lib.hid hown; replace hgr := Lib.hid hgr; clear hnil hob)
      have hbs := own_base8 HO3.out
      go_roundw
      case rel =>
        exact ⟨xs ++ [x], i + 1, q + 1 + 1, rfl, by omega, by omega, by simp; omega, Lib.hid (fun y hy => by rcases List.mem_append.1 hy with hy | hy; exact HV.out y hy; simp at hy; subst hy; exact ⟨by omega, by omega⟩), Lib.hid (by simpa [encI] using hown.out), rd_grown (hR3.alloc _) hgr.out (fun k hk => ⟨by have := hbs k hk; omega, by have := hbs k hk; omega⟩), kp_grown (hKw.alloc _) hgr.out (fun k hk => hbs k hk), by omega, by omega⟩
      case measure => simp [intOf]; omega
    · have hi' : i = 4 := by omega
      subst hi'
      obtain ⟨f, t1, t2, _⟩ := sl_of_row (enc := encI) (sz := 1) (hl := fun _ => rfl) HO.out (by decide)
      obtain ⟨x0, x1, x2, x3, rfl⟩ : ∃ x0 x1 x2 x3, xs = [x0, x1, x2, x3] := by
        match xs, il with
        | [a, b, c, d], _ => exact ⟨a, b, c, d, rfl⟩
        | [], h => simp at h
        | [a], h => simp at h
        | [a, b], h => simp at h
        | [a, b, c], h => simp at h
        | a :: b :: c :: d :: e :: r, h => simp at h; omega
      obtain ⟨A', c', e1, hcb, hcm⟩ := t1.form
      obtain ⟨gq, oq, c, rfl, rfl⟩ := t1.one (by simp)
      injection e1 with e1 e2 e3
      subst e1 e3
      simp only [List.length_cons, List.length_nil] at hcb
      have hc4' : 4 ≤ c := by omega
      have hc1' : ¬ c = 1 := by omega
      have hc0' : ¬ c - 1 = 0 := by omega
      have hc2' : 1 ≤ c := by omega
      have hT := Lib.hid (And.intro t1 t2)
      obtain ⟨f, hT1, hT2⟩ := t1.tail
      have hTT := Lib.hid (And.intro hT1 hT2)
      clear HO t1 t2 hT1 hT2 e2
      go_wp2_with fail
      refine (pick_c w0 _ g (q) (20) (by repeat (first | (with_reducible assumption) | (with_reducible refine Rd.drew ?_) | (with_reducible refine Rd.own ?_ (by first | (simp; done) | (simp; omega) | omega) (by first | (simp; done) | (simp; omega) | omega) _) | (with_reducible refine Rd.alloc ?_ _))) (by omega) (by omega) (by omega) (by omega)).mono ?_
      rintro e w2 ⟨r2, rfl, ra2, rb2, hR2, hK2⟩
      obtain ⟨hc2, hf2⟩ := kcell hK2
      have hz2 := hK2.size
      (try simp only [World.size_alloc, World.size_setCell, World.size_drew] at hz2)
      have hgq : gq ≠ g ∧ gq < wr.heap.size := ⟨by have := (hT.out.2.2 gq (by simp)).1.1; omega, (hT.out.2.2 gq (by simp)).1.2⟩
      have hbk : w2.heap[gq]? = wr.heap[gq]? := hK2.block gq hgq.2 hgq.1
      have hKw := hK.trans hK2
      have hz2' := hK2.size
      by_cases hr : r2 = 0
      · subst hr
        go_wp2_with fail
        go_ret
        have hk : ∀ b ∈ f, w2.heap[b]? = wr.heap[b]? := fun b hb => by
          have := hTT.out.2 b hb
          simp at this
          subst this
          exact hbk
        exact ⟨[x1, x2, x3], _, c - 1, f, q + 1, rfl, hTT.out.1.keep hk, ((hT.out.2.sub hTT.out.1.nodup hTT.out.2).keep hk).mono (Nat.le_refl _) hz2', by simp, fun y hy => HV.out y (by simp at hy ⊢; exact .inr hy), by omega, by omega, (by repeat (first | (with_reducible assumption) | (with_reducible refine Rd.drew ?_) | (with_reducible refine Rd.own ?_ (by first | (simp; done) | (simp; omega) | omega) (by first | (simp; done) | (simp; omega) | omega) _) | (with_reducible refine Rd.alloc ?_ _))), hKw⟩
      · go_wp2_with fail
        go_ret
        exact ⟨[x0, x1, x2, x3], _, c, [gq], q + 1, rfl, hT.out.1.keep (fun b hb => by simp at hb; subst hb; exact hbk), (hT.out.2.keep (fun b hb => by simp at hb; subst hb; exact hbk)).mono (Nat.le_refl _) hz2', by simp, HV.out, by omega, by omega, (by repeat (first | (with_reducible assumption) | (with_reducible refine Rd.drew ?_) | (with_reducible refine Rd.own ?_ (by first | (simp; done) | (simp; omega) | omega) (by first | (simp; done) | (simp; omega) | omega) _) | (with_reducible refine Rd.alloc ?_ _))), hKw⟩
end Go.Proofs.Ytkphkkfgphhjcaa
