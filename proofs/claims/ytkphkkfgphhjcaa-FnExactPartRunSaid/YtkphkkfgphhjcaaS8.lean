/- The reference's PartStep: of what is not ok. -/
import Derived.Test.YtkphkkfgphhjcaaS7
namespace Go.Proofs.Ytkphkkfgphhjcaa
open Go.RowKit
set_option linter.unusedSimpArgs false
set_option linter.unusedVariables false

section
variable {ops : Array Oper} {rest : List Oper} {o : Oper} {a : Act} {Q : Exit → Act → World → Prop}
/-- Append of ints onto an empty slice. -/
theorem append_ints_e {W : World} (hgd : o.guard = none) (s x : Operand) (ho : o.op = .call { callee := .builtin .append, args := #[s, x], argTypes := #[24, 24] }) (hty : o.type = 24) (B : Nat) (A : Option Addr) (n c : Nat) (xs : List Int) (fp : List Nat) (hs : a.eval s = .slice (some ⟨B, 0, none⟩) 0 0) (hx : a.eval x = .slice A n c) (h : SL kI W (.slice A n c) xs fp) (hn : xs.length ≤ 10000000)
    (k : ∀ v' w' fp', Below W.heap.size W w' → RowF kI 3 W.heap.size v' xs fp' w' → wpList Try.prog ops Q rest (a.put o.dst v') w') : wpList Try.prog ops Q (o :: rest) a W := by
  obtain ⟨v', w', fp', hr, hb, hT, _⟩ := app_ints W W.heap.size (Nat.le_refl _) B A n c xs fp h hn
  refine wpList_plain hgd fun K hK => ?_
  unfold Oper.wp execOp
  simp only [ho, hty, resolve, invoke, builtin, Sem.run_bind, Sem.run_pure, Result.andThen_ok, List.map_toArray, List.map_cons, List.map_nil, hs, hx, hr]
  exact hK _ _ (k v' w' fp' hb hT)
end
theorem runN_0e (lo hi : Nat) (W : World) (A4 A5 : Option Addr) : RunN lo hi pt0 [] [] (.slice none 0 0) (.slice none 0 0) (.slice none 0 0) (.slice A4 0 0) (.slice A5 0 0) W := ⟨[], [], [], [], [], ⟨sl_nil _ _, sl_nil _ _, sl_nil _ _⟩, ⟨_, _, rfl, Nat.le_refl _, by omega, .inl ⟨rfl, rfl⟩⟩, ⟨_, _, rfl, Nat.le_refl _, by omega, .inl ⟨rfl, rfl⟩⟩, own_nil _ _ _⟩
set_option maxHeartbeats 2000000
set_option maxRecDepth 100000
theorem lpartStep_not (p : Pt) (now : Int) (xs : List Int) (v1 v2 v3 v4 : Value) (f1 f2 f3 f4 : List Nat) (w : World) (h : PtF w p v1 v2 v3 f1 f2 f3) (hx : SL kI w v4 xs f4) (hn : p.prog.length ≤ 10000000) (hr : runOk p now xs = false) : Calls Try.prog 11 #[.agg #[v1, v2, .int .i64 p.pc, .bool p.fails, v3], .int .i64 now, v4] w (StepR w pt0 [] [] false) := by
  obtain ⟨A1, c1, rfl, _⟩ := h.prog.form
  obtain ⟨A2, c2, rfl, _⟩ := h.cells.form
  obtain ⟨A3, c3, rfl, _⟩ := h.box.form
  obtain ⟨A4, c4, rfl, _⟩ := hx.form
  have hq1 : w.heap.size < w.heap.size + 1 + 1 := by omega
  have hp := Lib.hid (fun W (hW : Btw 0 w.heap.size w W) => lpartOk_c p _ _ _ _ _ _ _ _ _ W ((h.has.at hW).S hn))
  have hv := Lib.hid (fun W (hW : Btw 0 w.heap.size w W) => lportsOk_c _ _ _ xs W (hx.has.at hW).ints)
  have hl := Lib.hid (fun W => l1In0_c now 99999 W)
  simp only [runOk] at hr
  cases hp1 : p.ok
  · rw [hp1] at hp
    clear hr hp1 h hx
    go_enter Try.func11, Try.ntmps11
    go_wp2_with fail
    refine (hp.out _ (by repeat (first | (with_reducible exact Btw.refl _ _ _) | (with_reducible assumption) | (with_reducible refine Btw.drew ?_) | (with_reducible refine Btw.drewN ?_ _) | (with_reducible refine Btw.setCell ?_ (by first | (simp; done) | (simp; omega) | omega) _) | (with_reducible refine Btw.alloc ?_ (by first | (simp; done) | (simp; omega) | omega) _) | (with_reducible refine Btw.trans ?_ (Btw.of_below (by assumption) (by first | (simp; done) | (simp; omega) | omega)))))).mono ?_
    rintro e w1 ⟨rfl, hB1⟩
    obtain ⟨hc1, hf1⟩ := bcell hB1
    have hz1 := hB1.size
    (try simp only [World.size_alloc, World.size_setCell, World.size_drew] at hz1)
    have hy1 : w.heap.size < w1.heap.size := by omega
    have hx1 : w.heap.size + 1 < w1.heap.size := by omega
    go_wp2_with fail
    refine bodyPost_ret (v := .tuple #[.agg #[.slice none 0 0, .slice none 0 0, .int .i64 0, .bool false, .slice none 0 0], .slice (some ⟨w1.heap.size, 0, none⟩) 0 0, .slice (some ⟨w1.heap.size + 1, 0, none⟩) 0 0, .bool false]) (by simp [results, Try.results11, go_sem, hc1, hf1, hq1, hy1, hx1]) rfl ?_
    exact ⟨none, 0, none, 0, none, 0, _, 0, _, 0, rfl, (runN_0e _ _ _ _ _).has, (by repeat (first | (with_reducible exact Below.refl _ _) | (with_reducible assumption) | (with_reducible refine Below.drew ?_) | (with_reducible refine below_drewN' ?_ _) | (with_reducible refine Below.setCell ?_ (by first | (simp; done) | (simp; omega) | omega) _) | (with_reducible refine Below.alloc ?_ (by first | (simp; done) | (simp; omega) | omega) _) | (with_reducible refine Below.trans ?_ (Below.mono (by assumption) (by first | (simp; done) | (simp; omega) | omega)))))⟩
  · rw [hp1] at hp hr
    cases hv1 : portsOK xs
    · rw [hv1] at hv
      clear hr hp1 hv1 h hx
      go_enter Try.func11, Try.ntmps11
      go_wp2_with fail
      refine (hp.out _ (by repeat (first | (with_reducible exact Btw.refl _ _ _) | (with_reducible assumption) | (with_reducible refine Btw.drew ?_) | (with_reducible refine Btw.drewN ?_ _) | (with_reducible refine Btw.setCell ?_ (by first | (simp; done) | (simp; omega) | omega) _) | (with_reducible refine Btw.alloc ?_ (by first | (simp; done) | (simp; omega) | omega) _) | (with_reducible refine Btw.trans ?_ (Btw.of_below (by assumption) (by first | (simp; done) | (simp; omega) | omega)))))).mono ?_
      rintro e w1 ⟨rfl, hB1⟩
      obtain ⟨hc1, hf1⟩ := bcell hB1
      have hz1 := hB1.size
      (try simp only [World.size_alloc, World.size_setCell, World.size_drew] at hz1)
      have hy1 : w.heap.size < w1.heap.size := by omega
      have hx1 : w.heap.size + 1 < w1.heap.size := by omega
      go_wp2_with fail
      refine (hv.out _ (by repeat (first | (with_reducible exact Btw.refl _ _ _) | (with_reducible assumption) | (with_reducible refine Btw.drew ?_) | (with_reducible refine Btw.drewN ?_ _) | (with_reducible refine Btw.setCell ?_ (by first | (simp; done) | (simp; omega) | omega) _) | (with_reducible refine Btw.alloc ?_ (by first | (simp; done) | (simp; omega) | omega) _) | (with_reducible refine Btw.trans ?_ (Btw.of_below (by assumption) (by first | (simp; done) | (simp; omega) | omega)))))).mono ?_
      rintro e w2 ⟨rfl, rfl⟩
      go_wp2_with fail
      refine bodyPost_ret (v := .tuple #[.agg #[.slice none 0 0, .slice none 0 0, .int .i64 0, .bool false, .slice none 0 0], .slice (some ⟨w1.heap.size, 0, none⟩) 0 0, .slice (some ⟨w1.heap.size + 1, 0, none⟩) 0 0, .bool false]) (by simp [results, Try.results11, go_sem, hc1, hf1, hq1, hy1, hx1]) rfl ?_
      exact ⟨none, 0, none, 0, none, 0, _, 0, _, 0, rfl, (runN_0e _ _ _ _ _).has, (by repeat (first | (with_reducible exact Below.refl _ _) | (with_reducible assumption) | (with_reducible refine Below.drew ?_) | (with_reducible refine below_drewN' ?_ _) | (with_reducible refine Below.setCell ?_ (by first | (simp; done) | (simp; omega) | omega) _) | (with_reducible refine Below.alloc ?_ (by first | (simp; done) | (simp; omega) | omega) _) | (with_reducible refine Below.trans ?_ (Below.mono (by assumption) (by first | (simp; done) | (simp; omega) | omega)))))⟩
    · rw [hv1] at hv hr
      have hl1 : inR now 99999 = false := by simpa using hr
      rw [hl1] at hl
      clear hr hp1 hv1 h hx hl1
      go_enter Try.func11, Try.ntmps11
      go_wp2_with fail
      refine (hp.out _ (by repeat (first | (with_reducible exact Btw.refl _ _ _) | (with_reducible assumption) | (with_reducible refine Btw.drew ?_) | (with_reducible refine Btw.drewN ?_ _) | (with_reducible refine Btw.setCell ?_ (by first | (simp; done) | (simp; omega) | omega) _) | (with_reducible refine Btw.alloc ?_ (by first | (simp; done) | (simp; omega) | omega) _) | (with_reducible refine Btw.trans ?_ (Btw.of_below (by assumption) (by first | (simp; done) | (simp; omega) | omega)))))).mono ?_
      rintro e w1 ⟨rfl, hB1⟩
      obtain ⟨hc1, hf1⟩ := bcell hB1
      have hz1 := hB1.size
      (try simp only [World.size_alloc, World.size_setCell, World.size_drew] at hz1)
      have hy1 : w.heap.size < w1.heap.size := by omega
      have hx1 : w.heap.size + 1 < w1.heap.size := by omega
      go_wp2_with fail
      refine (hv.out _ (by repeat (first | (with_reducible exact Btw.refl _ _ _) | (with_reducible assumption) | (with_reducible refine Btw.drew ?_) | (with_reducible refine Btw.drewN ?_ _) | (with_reducible refine Btw.setCell ?_ (by first | (simp; done) | (simp; omega) | omega) _) | (with_reducible refine Btw.alloc ?_ (by first | (simp; done) | (simp; omega) | omega) _) | (with_reducible refine Btw.trans ?_ (Btw.of_below (by assumption) (by first | (simp; done) | (simp; omega) | omega)))))).mono ?_
      rintro e w2 ⟨rfl, rfl⟩
      go_wp2_with fail
      refine (hl.out _).mono ?_
      rintro e w2 ⟨rfl, rfl⟩
      go_wp2_with fail
      refine bodyPost_ret (v := .tuple #[.agg #[.slice none 0 0, .slice none 0 0, .int .i64 0, .bool false, .slice none 0 0], .slice (some ⟨w1.heap.size, 0, none⟩) 0 0, .slice (some ⟨w1.heap.size + 1, 0, none⟩) 0 0, .bool false]) (by simp [results, Try.results11, go_sem, hc1, hf1, hq1, hy1, hx1]) rfl ?_
      exact ⟨none, 0, none, 0, none, 0, _, 0, _, 0, rfl, (runN_0e _ _ _ _ _).has, (by repeat (first | (with_reducible exact Below.refl _ _) | (with_reducible assumption) | (with_reducible refine Below.drew ?_) | (with_reducible refine below_drewN' ?_ _) | (with_reducible refine Below.setCell ?_ (by first | (simp; done) | (simp; omega) | omega) _) | (with_reducible refine Below.alloc ?_ (by first | (simp; done) | (simp; omega) | omega) _) | (with_reducible refine Below.trans ?_ (Below.mono (by assumption) (by first | (simp; done) | (simp; omega) | omega)))))⟩
end Go.Proofs.Ytkphkkfgphhjcaa
