/- What is a program that is ok. -/
import Derived.Test.YtkphkkfgphhjcaaP1
namespace Go.Proofs.Ytkphkkfgphhjcaa
open Go.RowKit
set_option linter.unusedSimpArgs false
set_option linter.unusedVariables false

abbrev Op3 := Int × Int × Int
/-- A slice of ops that is read. -/
def Ops (W : World) (A : Option Addr) (n c : Nat) (ps : List Op3) : Prop := (n = ps.length ∧ n ≤ c ∧ c ≤ 9223372036854775807) ∧ ∀ j p, ps[j]? = some p → ∃ g o : Nat, A = some ⟨g, o, none⟩ ∧ W.cell? ⟨g, o + j * 3, none⟩ = some (.int .i64 p.1) ∧ W.cell? ⟨g, o + j * 3 + 1, none⟩ = some (.int .i64 p.2.1) ∧ W.cell? ⟨g, o + j * 3 + 2, none⟩ = some (.int .i64 p.2.2)
theorem Ops.below {W W2 : World} {A : Option Addr} {n c : Nat} {ps : List Op3} (h : Ops W A n c ps) (hb : Below W.heap.size W W2) : Ops W2 A n c ps :=
  ⟨h.1, fun j x hj => by
    obtain ⟨ad, o, h1, h2, h3, h4⟩ := h.2 j x hj
    exact ⟨ad, o, h1, (hb.cell (World.block_lt_of_cell? W _ h2)).trans h2, (hb.cell (World.block_lt_of_cell? W _ h3)).trans h3, (hb.cell (World.block_lt_of_cell? W _ h4)).trans h4⟩⟩
theorem Ops.at {W : World} {A : Option Addr} {n c i : Nat} {ps : List Op3} (h : Ops W A n c ps) (hi : i < n) : ∃ (d a b : Int) (g o : Nat), ps[i]? = some (d, a, b) ∧ A = some ⟨g, o, none⟩ ∧ W.cell? ⟨g, o + i * 3, none⟩ = some (.int .i64 d) ∧ W.cell? ⟨g, o + i * 3 + 1, none⟩ = some (.int .i64 a) ∧ W.cell? ⟨g, o + i * 3 + 2, none⟩ = some (.int .i64 b) := by
  have hx : ps[i]? = some (ps[i]'(by rw [← h.1.1]; exact hi)) := List.getElem?_eq_getElem _
  obtain ⟨ad, o, h1, h2, h3, h4⟩ := h.2 i _ hx
  exact ⟨_, _, _, ad, o, hx, h1, h2, h3, h4⟩
def opsOK (k : Int) (ps : List Op3) : Bool := ps.all fun p => opOKP p.1 p.2.1 p.2.2 k
def progOK (ps : List Op3) : Bool := decide (1 ≤ ps.length) && decide (ps.length ≤ 16) && opsOK ps.length ps
theorem drop_all3 {xs : List Op3} {p : Op3 → Bool} {i : Nat} {x : Op3} (h : xs[i]? = some x) : (xs.drop i).all p = (p x && (xs.drop (i + 1)).all p) := by
  have hi : i < xs.length := (List.getElem?_eq_some_iff.1 h).1
  rw [List.drop_eq_getElem_cons hi, List.all_cons]
  have := (List.getElem?_eq_some_iff.1 h).2
  rw [this]
set_option maxHeartbeats 1000000 in
theorem progOk_c (A : Option Addr) (n c : Nat) (ps : List Op3) (w : World) (h : Ops w A n c ps) : Calls Try.prog 45 #[.slice A n c] w (Ret w (.bool (progOK ps))) := by
  have hC := Lib.hid h
  have hn1 := h.1.1
  have hn2 : n ≤ 9223372036854775807 := Nat.le_trans h.1.2.1 h.1.2.2
  clear h
  unfold progOK
  rw [← hn1]
  replace hn1 := Lib.hid hn1
  by_cases hlen : 1 ≤ n ∧ n ≤ 16
  · obtain ⟨hl0, hl1⟩ := hlen
    have e0 : (decide (1 ≤ n) && decide (n ≤ 16) && opsOK n ps) = opsOK n ps := by simp [hl0, hl1]
    rw [e0]
    clear e0
    go_enter Try.func45, Try.ntmps45
    go_wp2_with fail
    go_loopw [15] (fun v15 wr => ∃ i : Nat, v15 = .int .i64 i ∧ i ≤ n ∧ Below w.heap.size w wr ∧ Hid ((ps.drop i).all (fun p => opOKP p.1 p.2.1 p.2.2 n) = opsOK n ps)) (fun v15 _ => n - (intOf v15).toNat)
    case atStart => exact ⟨0, rfl, Nat.zero_le _, Below.refl _ _, Lib.hid rfl⟩
    case round =>
      obtain ⟨i, rfl, hi, hB, hA⟩ := hrel
      by_cases hin : i < n
      · obtain ⟨d, a, b, g, o, hx, rfl, hc0, hc1, hc2⟩ := hC.out.at hin
        have b0 := (hB.cell (World.block_lt_of_cell? w _ hc0)).trans hc0
        have b1 := (hB.cell (World.block_lt_of_cell? w _ hc1)).trans hc1
        have b2 := (hB.cell (World.block_lt_of_cell? w _ hc2)).trans hc2
        clear hc0 hc1 hc2
        have hd := drop_all3 (p := fun p => opOKP p.1 p.2.1 p.2.2 n) hx
        have hw := Lib.hid (fun W => opOk_c d a b n W (by omega) (by omega))
        replace hx := Lib.hid hx
        have hs := hB.size
        cases hv : opOKP d a b n
        · have e1 : opsOK n ps = false := by rw [← hA.out, hd, hv]; rfl
          rw [hv] at hw
          clear hd hv
          go_wp2_with fail
          refine (hw.out _).mono ?_
          rintro e w1 ⟨rfl, hB1⟩
          go_wp2_with fail
          go_ret
          exact ⟨rv (by first | rfl | (rw [e1]; rfl)), (by repeat (first | (with_reducible exact Below.refl _ _) | (with_reducible assumption) | (with_reducible refine Below.drew ?_) | (with_reducible refine below_drewN' ?_ _) | (with_reducible refine Below.setCell ?_ (by first | (simp; done) | (simp; omega) | omega) _) | (with_reducible refine Below.alloc ?_ (by first | (simp; done) | (simp; omega) | omega) _) | (with_reducible refine Below.trans ?_ (Below.mono (by assumption) (by first | (simp; done) | (simp; omega) | omega)))))⟩
        · have e1 : (ps.drop (i + 1)).all (fun p => opOKP p.1 p.2.1 p.2.2 n) = opsOK n ps := by rw [← hA.out, hd, hv]; rfl
          replace e1 := Lib.hid e1
          rw [hv] at hw
          clear hd hv
          go_wp2_with fail
          refine (hw.out _).mono ?_
          rintro e w1 ⟨rfl, hB1⟩
          go_wp2_with fail
          go_roundw
          case rel => exact ⟨i + 1, by simp, by omega, (by repeat (first | (with_reducible exact Below.refl _ _) | (with_reducible assumption) | (with_reducible refine Below.drew ?_) | (with_reducible refine below_drewN' ?_ _) | (with_reducible refine Below.setCell ?_ (by first | (simp; done) | (simp; omega) | omega) _) | (with_reducible refine Below.alloc ?_ (by first | (simp; done) | (simp; omega) | omega) _) | (with_reducible refine Below.trans ?_ (Below.mono (by assumption) (by first | (simp; done) | (simp; omega) | omega))))), e1⟩
          case measure => simp [intOf]; omega
      · have e1 : opsOK n ps = true := by
          rw [← hA.out, List.drop_eq_nil_of_le (by rw [← hn1.out]; omega)]
          rfl
        go_wp2_with fail
        go_ret
        exact ⟨rv (by first | rfl | (rw [e1]; rfl)), hB⟩
  · have e0 : (decide (1 ≤ n) && decide (n ≤ 16) && opsOK n ps) = false := by
      rcases (by omega : ¬ 1 ≤ n ∨ ¬ n ≤ 16) with h | h <;> simp [h]
    rw [e0]
    clear e0
    rcases (by omega : n < 1 ∨ 16 < n) with h | h
    all_goals
      go_enter Try.func45, Try.ntmps45
      go_wp2_with fail
      go_ret
      exact ⟨rfl, (by repeat (first | (with_reducible exact Below.refl _ _) | (with_reducible assumption) | (with_reducible refine Below.drew ?_) | (with_reducible refine below_drewN' ?_ _) | (with_reducible refine Below.setCell ?_ (by first | (simp; done) | (simp; omega) | omega) _) | (with_reducible refine Below.alloc ?_ (by first | (simp; done) | (simp; omega) | omega) _) | (with_reducible refine Below.trans ?_ (Below.mono (by assumption) (by first | (simp; done) | (simp; omega) | omega)))))⟩

theorem progOK_not {ps : List Op3} (h : opsOK ps.length ps = false) : progOK ps = false := by simp [progOK, h]
theorem progOK_yes {ps : List Op3} (h : opsOK ps.length ps = true) : progOK ps = (decide ((1 : Int) ≤ ps.length) && decide ((ps.length : Int) ≤ 16)) := by
  simp only [progOK, h, Bool.and_true]
  rw [Bool.eq_iff_iff]
  simp
  omega
set_option maxHeartbeats 1000000 in
theorem lprogOk_c (A : Option Addr) (n c : Nat) (ps : List Op3) (w : World) (h : Ops w A n c ps) (hn : n ≤ 10000000) : Calls Try.prog 78 #[.slice A n c] w (Ret w (.bool (progOK ps))) := by
  have hC := Lib.hid h
  have hn1 := h.1.1
  have hq0 := progOK_not (ps := ps)
  have hq1 := progOK_yes (ps := ps)
  rw [← hn1] at hq0 hq1
  clear h
  replace hq0 := Lib.hid hq0
  replace hq1 := Lib.hid hq1
  replace hn1 := Lib.hid hn1
  have hl := Lib.hid (fun W => l1In_c n 1 16 W)
  go_enter Try.func78, Try.ntmps78
  go_wp2_with fail
  go_loopw [3] (fun v3 wr => ∃ i : Nat, v3 = .int .i64 i ∧ i ≤ n ∧ Below w.heap.size w wr ∧ Hid ((ps.drop i).all (fun p => opOKP p.1 p.2.1 p.2.2 n) = opsOK n ps)) (fun v3 _ => n - (intOf v3).toNat)
  case atStart => exact ⟨0, rfl, Nat.zero_le _, Below.refl _ _, Lib.hid rfl⟩
  case round =>
    obtain ⟨i, rfl, hi, hB, hA⟩ := hrel
    by_cases hin : i < n
    · obtain ⟨d, a, b, g, o, hx, rfl, hc0, hc1, hc2⟩ := hC.out.at hin
      have b0 := (hB.cell (World.block_lt_of_cell? w _ hc0)).trans hc0
      have b1 := (hB.cell (World.block_lt_of_cell? w _ hc1)).trans hc1
      have b2 := (hB.cell (World.block_lt_of_cell? w _ hc2)).trans hc2
      clear hc0 hc1 hc2
      have hd := drop_all3 (p := fun p => opOKP p.1 p.2.1 p.2.2 n) hx
      have hw := Lib.hid (fun W => lopOk_c d a b n W (by omega) (by omega))
      replace hx := Lib.hid hx
      have hs := hB.size
      cases hv : opOKP d a b n
      · have e1 : progOK ps = false := hq0.out (by rw [← hA.out, hd, hv]; rfl)
        rw [hv] at hw
        clear hd hv
        go_wp2_with fail
        refine (hw.out _).mono ?_
        rintro e w1 ⟨rfl, hB1⟩
        go_wp2_with fail
        go_ret
        exact ⟨rv (by first | rfl | (rw [e1]; rfl)), (by repeat (first | (with_reducible exact Below.refl _ _) | (with_reducible assumption) | (with_reducible refine Below.drew ?_) | (with_reducible refine below_drewN' ?_ _) | (with_reducible refine Below.setCell ?_ (by first | (simp; done) | (simp; omega) | omega) _) | (with_reducible refine Below.alloc ?_ (by first | (simp; done) | (simp; omega) | omega) _) | (with_reducible refine Below.trans ?_ (Below.mono (by assumption) (by first | (simp; done) | (simp; omega) | omega)))))⟩
      · have e1 : (ps.drop (i + 1)).all (fun p => opOKP p.1 p.2.1 p.2.2 n) = opsOK n ps := by rw [← hA.out, hd, hv]; rfl
        replace e1 := Lib.hid e1
        rw [hv] at hw
        clear hd hv
        go_wp2_with fail
        refine (hw.out _).mono ?_
        rintro e w1 ⟨rfl, hB1⟩
        go_wp2_with fail
        go_roundw
        case rel => exact ⟨i + 1, by simp, by omega, (by repeat (first | (with_reducible exact Below.refl _ _) | (with_reducible assumption) | (with_reducible refine Below.drew ?_) | (with_reducible refine below_drewN' ?_ _) | (with_reducible refine Below.setCell ?_ (by first | (simp; done) | (simp; omega) | omega) _) | (with_reducible refine Below.alloc ?_ (by first | (simp; done) | (simp; omega) | omega) _) | (with_reducible refine Below.trans ?_ (Below.mono (by assumption) (by first | (simp; done) | (simp; omega) | omega))))), e1⟩
        case measure => simp [intOf]; omega
    · have e1 := hq1.out (by
        rw [← hA.out, List.drop_eq_nil_of_le (by rw [← hn1.out]; omega)]
        rfl)
      replace e1 := Lib.hid e1
      go_wp2_with fail
      refine (hl.out _).mono ?_
      rintro e w1 ⟨rfl, rfl⟩
      go_wp2_with fail
      go_ret
      exact ⟨rv (by rw [e1.out]; rfl), hB⟩

end Go.Proofs.Ytkphkkfgphhjcaa
