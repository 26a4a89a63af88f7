/- machineOf, PartStep. -/
import Derived.Test.YtkphkkfgphhjcaaP11
namespace Go.Proofs.Ytkphkkfgphhjcaa
open Go.RowKit
set_option linter.unusedSimpArgs false
set_option linter.unusedVariables false

def runOk (p : Pt) (now : Int) (xs : List Int) : Bool := p.ok && (inR now 99999 && portsOK xs)
def mac0 (p : Pt) (now : Int) (xs : List Int) : Mac := ⟨p, xs, now, [], 0, false, false⟩
theorem runOk_ok {p : Pt} {now : Int} {xs : List Int} (h : runOk p now xs = true) : (mac0 p now xs).Ok := by
  simp only [runOk, Pt.ok, portsOK, Bool.and_eq_true, beq_iff_eq, decide_eq_true_eq, inR_iff, valsOk, List.all_eq_true, valOk] at h
  obtain ⟨⟨h1, h2, h3, h4, h5, h6⟩, h7, h8, h9⟩ := h
  exact ⟨h1, ⟨h4.1, by have := h4.2; show p.pc < (p.prog.length : Int); omega⟩, h2, fun x hx => h3 x hx, h5, fun x hx => h6 x hx, h8, fun x hx => h9 x hx, h7⟩
theorem mac_new {W : World} {lo l2 h1 h2 : Nat} {p : Pt} {now : Int} {xs : List Int} {A1 A2 A3 A4 : Option Addr} {c1 c2 c3 c4 : Nat} {g1 g2 g3 g4 : List Nat} (hp : PtN p lo h1 (.slice A1 p.prog.length c1) (.slice A2 p.cells.length c2) (.slice A3 p.box.length c3) g1 g2 g3 W) (hx : SLn kI l2 h2 (.slice A4 xs.length c4) xs g4 W) (e1 : h1 ≤ l2) (e2 : h2 ≤ W.heap.size) (e3 : lo ≤ l2) (e4 : h1 ≤ h2) (e5 : lo ≤ W.heap.size) : MacR (W.alloc (.cells #[.slice A1 p.prog.length c1, .slice A2 p.cells.length c2, .int .i64 p.pc, .bool p.fails, .slice A3 p.box.length c3, .slice A4 xs.length c4, .int .i64 now, .slice none 0 0, .int .i64 0, .bool false, .bool false] 66)) lo (mac0 p now xs) W.heap.size (W.heap.size :: (g1 ++ (g2 ++ (g3 ++ (g4 ++ []))))) := by
  have ho := hp.2.app hx.2 e1 e3 e4
  have hk : ∀ {b}, b < W.heap.size → (W.alloc (.cells #[.slice A1 p.prog.length c1, .slice A2 p.cells.length c2, .int .i64 p.pc, .bool p.fails, .slice A3 p.box.length c3, .slice A4 xs.length c4, .int .i64 now, .slice none 0 0, .int .i64 0, .bool false, .bool false] 66)).heap[b]? = W.heap[b]? := fun hb => Below.heap_alloc W _ _ hb
  refine ⟨A1, c1, A2, c2, A3, c3, A4, c4, none, 0, g1, g2, g3, g4, [], ⟨heap_top _ _ rfl, hp.1.prog.keep (fun b hb => hk (hp.1.prog.lt b hb)), hp.1.cells.keep (fun b hb => hk (hp.1.cells.lt b hb)), hp.1.box.keep (fun b hb => hk (hp.1.box.lt b hb)), hx.1.keep (fun b hb => hk (hx.1.lt b hb)), World.ownsRow_nil _ _ _ _, rfl, ?_⟩, rfl⟩
  have h2' : ∀ b ∈ g1 ++ (g2 ++ (g3 ++ (g4 ++ []))), b ∈ (g1 ++ (g2 ++ g3)) ++ g4 := fun b hb => by simpa using hb
  refine ⟨List.nodup_cons.2 ⟨fun hm => by have := ho.lt _ (h2' _ hm); omega, by have := ho.1; simpa using this⟩, fun b hb => ?_⟩
  rcases List.mem_cons.1 hb with rfl | hb
  · exact ⟨⟨e5, by simp⟩, _, _, heap_top _ _ rfl⟩
  · obtain ⟨⟨a1, a2⟩, cur, e, a3⟩ := ho.2 b (h2' b hb)
    have := ho.lt b (h2' b hb)
    exact ⟨⟨a1, by simp; omega⟩, cur, e, by rw [hk this]; exact a3⟩
set_option maxHeartbeats 2000000
set_option maxRecDepth 100000
theorem machineOf_not (p : Pt) (now : Int) (xs : List Int) (v1 v2 v3 v4 : Value) (f1 f2 f3 f4 : List Nat) (w : World) (h : PtF w p v1 v2 v3 f1 f2 f3) (hx : SL kI w v4 xs f4) (hn : p.prog.length ≤ 10000000) (hr : runOk p now xs = false) : Calls Try.prog 37 #[.agg #[v1, v2, .int .i64 p.pc, .bool p.fails, v3], .int .i64 now, v4] w (Ret w (.tuple #[.pointer none, .bool false])) := by
  obtain ⟨A1, c1, rfl, _⟩ := h.prog.form
  obtain ⟨A2, c2, rfl, _⟩ := h.cells.form
  obtain ⟨A3, c3, rfl, _⟩ := h.box.form
  obtain ⟨A4, c4, rfl, _⟩ := hx.form
  have hp := Lib.hid (fun W (hW : Below w.heap.size w W) => partOk_c p _ _ _ _ _ _ _ _ _ W ((h.S hn).below hW))
  have hw := Lib.hid (fun W => within_c now 99999 W)
  have hq := Lib.hid (fun W (hW : Below w.heap.size w W) => portsOk_c _ _ _ xs W (hx.below hW).ints)
  clear h hx
  obtain ⟨pg, cl, pc, fl, bx⟩ := p
  unfold runOk at hr
  simp only at *
  cases q1 : Pt.ok ⟨pg, cl, pc, fl, bx⟩
  · rw [q1] at hp
    clear q1 hr
    go_enter Try.func37, Try.ntmps37
    go_wp2_with fail
    refine (hp.out _ (by repeat (first | (with_reducible exact Below.refl _ _) | (with_reducible assumption) | (with_reducible refine Below.drew ?_) | (with_reducible refine below_drewN' ?_ _) | (with_reducible refine Below.setCell ?_ (by first | (simp; done) | (simp; omega) | omega) _) | (with_reducible refine Below.alloc ?_ (by first | (simp; done) | (simp; omega) | omega) _) | (with_reducible refine Below.trans ?_ (Below.mono (by assumption) (by first | (simp; done) | (simp; omega) | omega)))))).mono ?_
    rintro e w1 ⟨rfl, hB1⟩
    obtain ⟨hc1, hf1⟩ := bcell hB1
    have hz1 := hB1.size
    (try simp only [World.size_alloc, World.size_setCell, World.size_drew] at hz1)
    go_wp2_with fail
    go_ret2
    exact ⟨rfl, (by repeat (first | (with_reducible exact Below.refl _ _) | (with_reducible assumption) | (with_reducible refine Below.drew ?_) | (with_reducible refine below_drewN' ?_ _) | (with_reducible refine Below.setCell ?_ (by first | (simp; done) | (simp; omega) | omega) _) | (with_reducible refine Below.alloc ?_ (by first | (simp; done) | (simp; omega) | omega) _) | (with_reducible refine Below.trans ?_ (Below.mono (by assumption) (by first | (simp; done) | (simp; omega) | omega)))))⟩
  rw [q1] at hp hr
  simp only [Bool.true_and] at hr
  clear q1
  cases q2 : inR now 99999
  · rw [q2] at hw
    clear q2 hr
    go_enter Try.func37, Try.ntmps37
    go_wp2_with fail
    refine (hp.out _ (by repeat (first | (with_reducible exact Below.refl _ _) | (with_reducible assumption) | (with_reducible refine Below.drew ?_) | (with_reducible refine below_drewN' ?_ _) | (with_reducible refine Below.setCell ?_ (by first | (simp; done) | (simp; omega) | omega) _) | (with_reducible refine Below.alloc ?_ (by first | (simp; done) | (simp; omega) | omega) _) | (with_reducible refine Below.trans ?_ (Below.mono (by assumption) (by first | (simp; done) | (simp; omega) | omega)))))).mono ?_
    rintro e w1 ⟨rfl, hB1⟩
    obtain ⟨hc1, hf1⟩ := bcell hB1
    have hz1 := hB1.size
    (try simp only [World.size_alloc, World.size_setCell, World.size_drew] at hz1)
    go_wp2_with fail
    refine (hw.out _).mono ?_
    rintro e w2 ⟨rfl, rfl⟩
    go_wp2_with fail
    go_ret2
    exact ⟨rfl, (by repeat (first | (with_reducible exact Below.refl _ _) | (with_reducible assumption) | (with_reducible refine Below.drew ?_) | (with_reducible refine below_drewN' ?_ _) | (with_reducible refine Below.setCell ?_ (by first | (simp; done) | (simp; omega) | omega) _) | (with_reducible refine Below.alloc ?_ (by first | (simp; done) | (simp; omega) | omega) _) | (with_reducible refine Below.trans ?_ (Below.mono (by assumption) (by first | (simp; done) | (simp; omega) | omega)))))⟩
  rw [q2] at hw hr
  simp only [Bool.true_and] at hr
  rw [hr] at hq
  clear q2 hr
  go_enter Try.func37, Try.ntmps37
  go_wp2_with fail
  refine (hp.out _ (by repeat (first | (with_reducible exact Below.refl _ _) | (with_reducible assumption) | (with_reducible refine Below.drew ?_) | (with_reducible refine below_drewN' ?_ _) | (with_reducible refine Below.setCell ?_ (by first | (simp; done) | (simp; omega) | omega) _) | (with_reducible refine Below.alloc ?_ (by first | (simp; done) | (simp; omega) | omega) _) | (with_reducible refine Below.trans ?_ (Below.mono (by assumption) (by first | (simp; done) | (simp; omega) | omega)))))).mono ?_
  rintro e w1 ⟨rfl, hB1⟩
  obtain ⟨hc1, hf1⟩ := bcell hB1
  have hz1 := hB1.size
  (try simp only [World.size_alloc, World.size_setCell, World.size_drew] at hz1)
  go_wp2_with fail
  refine (hw.out _).mono ?_
  rintro e w2 ⟨rfl, rfl⟩
  go_wp2_with fail
  refine (hq.out _ (by repeat (first | (with_reducible exact Below.refl _ _) | (with_reducible assumption) | (with_reducible refine Below.drew ?_) | (with_reducible refine below_drewN' ?_ _) | (with_reducible refine Below.setCell ?_ (by first | (simp; done) | (simp; omega) | omega) _) | (with_reducible refine Below.alloc ?_ (by first | (simp; done) | (simp; omega) | omega) _) | (with_reducible refine Below.trans ?_ (Below.mono (by assumption) (by first | (simp; done) | (simp; omega) | omega)))))).mono ?_
  rintro e w2 ⟨rfl, rfl⟩
  go_wp2_with fail
  go_ret2
  exact ⟨rfl, (by repeat (first | (with_reducible exact Below.refl _ _) | (with_reducible assumption) | (with_reducible refine Below.drew ?_) | (with_reducible refine below_drewN' ?_ _) | (with_reducible refine Below.setCell ?_ (by first | (simp; done) | (simp; omega) | omega) _) | (with_reducible refine Below.alloc ?_ (by first | (simp; done) | (simp; omega) | omega) _) | (with_reducible refine Below.trans ?_ (Below.mono (by assumption) (by first | (simp; done) | (simp; omega) | omega)))))⟩
theorem machineOf_c (p : Pt) (now : Int) (xs : List Int) (v1 v2 v3 v4 : Value) (f1 f2 f3 f4 : List Nat) (w : World) (h : PtF w p v1 v2 v3 f1 f2 f3) (hx : SL kI w v4 xs f4) (hr : runOk p now xs = true) : Calls Try.prog 37 #[.agg #[v1, v2, .int .i64 p.pc, .bool p.fails, v3], .int .i64 now, v4] w fun e w' => ∃ g S, e = .returned (.tuple #[.pointer (some ⟨g, 0, none⟩), .bool true]) ∧ MacR w' w.heap.size (mac0 p now xs) g S ∧ Below w.heap.size w w' := by
  have hm := runOk_ok hr
  have hpl : p.prog.length ≤ 16 := by
    have := hm.prog
    simp only [progOK, Bool.and_eq_true, decide_eq_true_eq] at this
    exact this.1.2
  have hcl : p.cells.length = 8 := hm.len
  have hbl : p.box.length ≤ 4 := hm.box
  have hxl : xs.length = 4 := hm.plen
  obtain ⟨A1, c1, rfl, _⟩ := h.prog.form
  obtain ⟨A2, c2, rfl, _⟩ := h.cells.form
  obtain ⟨A3, c3, rfl, _⟩ := h.box.form
  obtain ⟨A4, c4, rfl, _⟩ := hx.form
  have hp := Lib.hid (fun W (hW : Below w.heap.size w W) => partOk_c p _ _ _ _ _ _ _ _ _ W ((h.S (by omega)).below hW))
  have hw := Lib.hid (fun W => within_c now 99999 W)
  have hq := Lib.hid (fun W (hW : Below w.heap.size w W) => portsOk_c _ _ _ xs W (hx.below hW).ints)
  have hcp := Lib.hid (fun W (hW : Below w.heap.size w W) => partCopy_c p _ _ _ _ _ _ W (h.below hW) (by omega) (by omega) (by omega))
  have hcx := Lib.hid (fun W (hW : Below w.heap.size w W) => cloneI_c _ xs f4 W (hx.below hW) (by omega))
  clear h hx hm
  unfold mac0
  obtain ⟨pg, cl, pc, fl, bx⟩ := p
  simp only [runOk, Bool.and_eq_true] at hr
  simp only at *
  rw [hr.1] at hp
  rw [hr.2.1] at hw
  rw [hr.2.2] at hq
  clear hr hpl hbl
  replace hcl := Lib.hid hcl
  replace hxl := Lib.hid hxl
  have hq1 : w.heap.size < w.heap.size + 1 := by omega
  go_enter Try.func37, Try.ntmps37
  go_wp2_with fail
  refine (hp.out _ (by repeat (first | (with_reducible exact Below.refl _ _) | (with_reducible assumption) | (with_reducible refine Below.drew ?_) | (with_reducible refine below_drewN' ?_ _) | (with_reducible refine Below.setCell ?_ (by first | (simp; done) | (simp; omega) | omega) _) | (with_reducible refine Below.alloc ?_ (by first | (simp; done) | (simp; omega) | omega) _) | (with_reducible refine Below.trans ?_ (Below.mono (by assumption) (by first | (simp; done) | (simp; omega) | omega)))))).mono ?_
  rintro e w1 ⟨rfl, hB1⟩
  obtain ⟨hc1, hf1⟩ := bcell hB1
  have hz1 := hB1.size
  (try simp only [World.size_alloc, World.size_setCell, World.size_drew] at hz1)
  go_wp2_with fail
  refine (hw.out _).mono ?_
  rintro e w2 ⟨rfl, rfl⟩
  go_wp2_with fail
  refine (hq.out _ (by repeat (first | (with_reducible exact Below.refl _ _) | (with_reducible assumption) | (with_reducible refine Below.drew ?_) | (with_reducible refine below_drewN' ?_ _) | (with_reducible refine Below.setCell ?_ (by first | (simp; done) | (simp; omega) | omega) _) | (with_reducible refine Below.alloc ?_ (by first | (simp; done) | (simp; omega) | omega) _) | (with_reducible refine Below.trans ?_ (Below.mono (by assumption) (by first | (simp; done) | (simp; omega) | omega)))))).mono ?_
  rintro e w2 ⟨rfl, rfl⟩
  go_wp2_with fail
  refine (hcp.out _ (by repeat (first | (with_reducible exact Below.refl _ _) | (with_reducible assumption) | (with_reducible refine Below.drew ?_) | (with_reducible refine below_drewN' ?_ _) | (with_reducible refine Below.setCell ?_ (by first | (simp; done) | (simp; omega) | omega) _) | (with_reducible refine Below.alloc ?_ (by first | (simp; done) | (simp; omega) | omega) _) | (with_reducible refine Below.trans ?_ (Below.mono (by assumption) (by first | (simp; done) | (simp; omega) | omega)))))).mono ?_
  rintro e w2 ⟨u1, u2, u3, g1, g2, g3, rfl, hs2, hB2⟩
  obtain ⟨hc2, hf2⟩ := bcell hB2
  have hz2 := hB2.size
  (try simp only [World.size_alloc, World.size_setCell, World.size_drew] at hz2)
  obtain ⟨U1, d1, rfl, _⟩ := hs2.get.1.prog.form
  obtain ⟨U2, d2, rfl, _⟩ := hs2.get.1.cells.form
  obtain ⟨U3, d3, rfl, _⟩ := hs2.get.1.box.form
  replace hs2 := Lib.hid hs2
  go_wp2_with fail
  refine (hcx.out _ (by repeat (first | (with_reducible exact Below.refl _ _) | (with_reducible assumption) | (with_reducible refine Below.drew ?_) | (with_reducible refine below_drewN' ?_ _) | (with_reducible refine Below.setCell ?_ (by first | (simp; done) | (simp; omega) | omega) _) | (with_reducible refine Below.alloc ?_ (by first | (simp; done) | (simp; omega) | omega) _) | (with_reducible refine Below.trans ?_ (Below.mono (by assumption) (by first | (simp; done) | (simp; omega) | omega)))))).mono ?_
  rintro e w3 ⟨U4, d4, g4, rfl, hs3, hB3⟩
  obtain ⟨hc3, hf3⟩ := bcell hB3
  have hz3 := hB3.size
  (try simp only [World.size_alloc, World.size_setCell, World.size_drew] at hz3)
  replace hs3 := Lib.hid hs3
  go_wp2_with fail
  go_ret2
  exact ⟨_, _, rfl, mac_new (lo := w.heap.size) (p := ⟨pg, cl, pc, fl, bx⟩) (PtN.mono (hs2.out.at (by repeat (first | (with_reducible exact Btw.refl _ _ _) | (with_reducible assumption) | (with_reducible refine Btw.drew ?_) | (with_reducible refine Btw.drewN ?_ _) | (with_reducible refine Btw.setCell ?_ (by first | (simp; done) | (simp; omega) | omega) _) | (with_reducible refine Btw.alloc ?_ (by first | (simp; done) | (simp; omega) | omega) _) | (with_reducible refine Btw.trans ?_ (Btw.of_below (by assumption) (by first | (simp; done) | (simp; omega) | omega)))))) (by first | (simp; done) | (simp; omega) | omega)) (hs3.out.at (by repeat (first | (with_reducible exact Btw.refl _ _ _) | (with_reducible assumption) | (with_reducible refine Btw.drew ?_) | (with_reducible refine Btw.drewN ?_ _) | (with_reducible refine Btw.setCell ?_ (by first | (simp; done) | (simp; omega) | omega) _) | (with_reducible refine Btw.alloc ?_ (by first | (simp; done) | (simp; omega) | omega) _) | (with_reducible refine Btw.trans ?_ (Btw.of_below (by assumption) (by first | (simp; done) | (simp; omega) | omega)))))) (by first | (simp; done) | (simp; omega) | omega) (by first | (simp; done) | (simp; omega) | omega) (by first | (simp; done) | (simp; omega) | omega) (by first | (simp; done) | (simp; omega) | omega) (by first | (simp; done) | (simp; omega) | omega), (by repeat (first | (with_reducible exact Below.refl _ _) | (with_reducible assumption) | (with_reducible refine Below.drew ?_) | (with_reducible refine below_drewN' ?_ _) | (with_reducible refine Below.setCell ?_ (by first | (simp; done) | (simp; omega) | omega) _) | (with_reducible refine Below.alloc ?_ (by first | (simp; done) | (simp; omega) | omega) _) | (with_reducible refine Below.trans ?_ (Below.mono (by assumption) (by first | (simp; done) | (simp; omega) | omega)))))⟩
end Go.Proofs.Ytkphkkfgphhjcaa
