/- What is a program that runs and is ok. -/
import Derived.Test.YtkphkkfgphhjcaaP2
namespace Go.Proofs.Ytkphkkfgphhjcaa
open Go.RowKit
set_option linter.unusedSimpArgs false
set_option linter.unusedVariables false

structure Pt where
  prog : List Op3
  cells : List Int
  pc : Int
  fails : Bool
  box : List Int
def Pt.ok (p : Pt) : Bool := progOK p.prog && (p.cells.length == 8 && (valsOk p.cells && (inR p.pc (p.prog.length - 1) && (decide (p.box.length ≤ 4) && valsOk p.box))))
/-- The three slices of a part, as they are read. -/
structure PtS (W : World) (p : Pt) (A1 : Option Addr) (n1 c1 : Nat) (A2 : Option Addr) (n2 c2 : Nat) (A3 : Option Addr) (n3 c3 : Nat) : Prop where
  prog : Ops W A1 n1 c1 p.prog
  cells : Ints W A2 n2 c2 p.cells
  box : Ints W A3 n3 c3 p.box
  small : n1 ≤ 10000000
theorem PtS.below {W W2 : World} {p : Pt} {A1 : Option Addr} {n1 c1 : Nat} {A2 : Option Addr} {n2 c2 : Nat} {A3 : Option Addr} {n3 c3 : Nat} (h : PtS W p A1 n1 c1 A2 n2 c2 A3 n3 c3) (hb : Below W.heap.size W W2) : PtS W2 p A1 n1 c1 A2 n2 c2 A3 n3 c3 :=
  ⟨h.prog.below hb, h.cells.below hb, h.box.below hb, h.small⟩
set_option maxHeartbeats 2000000 in
theorem partOk_c (p : Pt) (A1 : Option Addr) (n1 c1 : Nat) (A2 : Option Addr) (n2 c2 : Nat) (A3 : Option Addr) (n3 c3 : Nat) (w : World) (h : PtS w p A1 n1 c1 A2 n2 c2 A3 n3 c3) : Calls Try.prog 16 #[.agg #[.slice A1 n1 c1, .slice A2 n2 c2, .int .i64 p.pc, .bool p.fails, .slice A3 n3 c3]] w (Ret w (.bool p.ok)) := by
  have hO := Lib.hid ((OwnL.nil w).put (.cells #[.slice A1 n1 c1, .slice A2 n2 c2, .int .i64 p.pc, .bool p.fails, .slice A3 n3 c3] 26))
  have hS := Lib.hid h
  have l1 := h.prog.1.1
  have l2 := h.cells.1.1
  have l3 := h.box.1.1
  have m1 := h.small
  have m3 : n3 ≤ 9223372036854775807 := Nat.le_trans h.box.1.2.1 h.box.1.2.2
  have m2 : n2 ≤ 9223372036854775807 := Nat.le_trans h.cells.1.2.1 h.cells.1.2.2
  clear h
  have hp := Lib.hid (fun W (hW : Below w.heap.size w W) => progOk_c A1 n1 c1 p.prog W (hS.out.below hW).prog)
  have hv2 := Lib.hid (fun W (hW : Below w.heap.size w W) => valuesOk_c A2 n2 c2 p.cells W (hS.out.below hW).cells)
  have hv3 := Lib.hid (fun W (hW : Below w.heap.size w W) => valuesOk_c A3 n3 c3 p.box W (hS.out.below hW).box)
  have hw := Lib.hid (fun W => within_c p.pc (p.prog.length - 1) W)
  unfold Pt.ok
  obtain ⟨pg, cl, pc, fl, bx⟩ := p
  simp only at hO hS l1 l2 l3 hp hv2 hv3 hw ⊢
  rw [← l1] at hw ⊢
  rw [← l2, ← l3]
  clear l1 l2 l3
  obtain ⟨Z, hZ⟩ : ∃ Z : Bool, (progOK pg && (n2 == 8 && (valsOk cl && (inR pc (n1 - 1) && (decide (n3 ≤ 4) && valsOk bx))))) = Z := ⟨_, rfl⟩
  rw [hZ]
  replace hZ := Lib.hid hZ
  cases q1 : progOK pg
  · rw [q1] at hp
    have z : Z = false := by rw [← hZ.out, q1]; rfl
    subst z
    clear q1
    go_enter Try.func16, Try.ntmps16
    go_wp2_with fail
    refine (hp.out _ (by repeat (first | (with_reducible exact Below.refl _ _) | (with_reducible assumption) | (with_reducible refine Below.drew ?_) | (with_reducible refine below_drewN' ?_ _) | (with_reducible refine Below.setCell ?_ (by first | (simp; done) | (simp; omega) | omega) _) | (with_reducible refine Below.alloc ?_ (by first | (simp; done) | (simp; omega) | omega) _) | (with_reducible refine Below.trans ?_ (Below.mono (by assumption) (by first | (simp; done) | (simp; omega) | omega)))))).mono ?_
    rintro e w1 ⟨rfl, hB1⟩
    replace hO := Lib.hid (hO.out.below hB1)
    go_wp2_with fail
    go_ret
    exact ⟨rv (by first | rfl | simp), hO.out.1⟩
  rw [q1] at hp hZ
  clear q1
  simp only [Bool.true_and] at hZ
  by_cases q2 : n2 = 8
  case neg =>
    have q2' : ((n2 : Int) == 8) = false := beq_eq_false_iff_ne.2 (by omega)
    have z : Z = false := by rw [← hZ.out, beq_eq_false_iff_ne.2 q2]; rfl
    subst z
    go_enter Try.func16, Try.ntmps16
    go_wp2_with fail
    refine (hp.out _ (by repeat (first | (with_reducible exact Below.refl _ _) | (with_reducible assumption) | (with_reducible refine Below.drew ?_) | (with_reducible refine below_drewN' ?_ _) | (with_reducible refine Below.setCell ?_ (by first | (simp; done) | (simp; omega) | omega) _) | (with_reducible refine Below.alloc ?_ (by first | (simp; done) | (simp; omega) | omega) _) | (with_reducible refine Below.trans ?_ (Below.mono (by assumption) (by first | (simp; done) | (simp; omega) | omega)))))).mono ?_
    rintro e w1 ⟨rfl, hB1⟩
    replace hO := Lib.hid (hO.out.below hB1)
    have k0 := fun o => blk_cell hO.out.g0 o
    have hl0 := (Array.getElem?_eq_some_iff.1 hO.out.g0).1
    go_wp2_with fail
    go_ret
    exact ⟨rv (by first | rfl | simp), hO.out.1⟩
  subst q2
  simp only [beq_self_eq_true, Bool.true_and] at hZ
  go_enter Try.func16, Try.ntmps16
  go_wp2_with fail
  refine (hp.out _ (by repeat (first | (with_reducible exact Below.refl _ _) | (with_reducible assumption) | (with_reducible refine Below.drew ?_) | (with_reducible refine below_drewN' ?_ _) | (with_reducible refine Below.setCell ?_ (by first | (simp; done) | (simp; omega) | omega) _) | (with_reducible refine Below.alloc ?_ (by first | (simp; done) | (simp; omega) | omega) _) | (with_reducible refine Below.trans ?_ (Below.mono (by assumption) (by first | (simp; done) | (simp; omega) | omega)))))).mono ?_
  rintro e w1 ⟨rfl, hB1⟩
  replace hO := Lib.hid (hO.out.below hB1)
  have k0 := fun o => blk_cell hO.out.g0 o
  have hl0 := (Array.getElem?_eq_some_iff.1 hO.out.g0).1
  clear hp hB1
  cases q3 : valsOk cl
  · have z : Z = false := by rw [← hZ.out, q3]; rfl
    rw [q3] at hv2
    subst z
    clear q3
    go_wp2_with fail
    refine (hv2.out _ hO.out.1).mono ?_
    rintro e w2 ⟨rfl, rfl⟩
    go_wp2_with fail
    go_ret
    exact ⟨rv (by first | rfl | simp), hO.out.1⟩
  rw [q3] at hv2 hZ
  simp only [Bool.true_and] at hZ
  clear q3
  go_wp2_with fail
  refine (hv2.out _ hO.out.1).mono ?_
  rintro e w2 ⟨rfl, rfl⟩
  cases q4 : inR pc (n1 - 1)
  · have z : Z = false := by rw [← hZ.out, q4]; rfl
    rw [q4] at hw
    subst z
    clear q4
    go_wp2_with fail
    refine (hw.out _).mono ?_
    rintro e w2 ⟨rfl, rfl⟩
    go_wp2_with fail
    go_ret
    exact ⟨rv (by first | rfl | simp), hO.out.1⟩
  rw [q4] at hw hZ
  simp only [Bool.true_and] at hZ
  clear q4
  go_wp2_with fail
  refine (hw.out _).mono ?_
  rintro e w2 ⟨rfl, rfl⟩
  by_cases q5 : n3 ≤ 4
  case neg =>
    have z : Z = false := by rw [← hZ.out]; simp [q5]
    subst z
    go_wp2_with fail
    go_ret
    exact ⟨rv (by first | rfl | simp), hO.out.1⟩
  have z : valsOk bx = Z := by rw [← hZ.out]; simp [q5]
  rw [z] at hv3
  go_wp2_with fail
  refine (hv3.out _ hO.out.1).mono ?_
  rintro e w2 ⟨rfl, rfl⟩
  go_wp2_with fail
  go_ret
  exact ⟨rv (by first | rfl | simp), hO.out.1⟩
set_option maxHeartbeats 2000000 in
theorem lpartOk_c (p : Pt) (A1 : Option Addr) (n1 c1 : Nat) (A2 : Option Addr) (n2 c2 : Nat) (A3 : Option Addr) (n3 c3 : Nat) (w : World) (h : PtS w p A1 n1 c1 A2 n2 c2 A3 n3 c3) : Calls Try.prog 40 #[.agg #[.slice A1 n1 c1, .slice A2 n2 c2, .int .i64 p.pc, .bool p.fails, .slice A3 n3 c3]] w (Ret w (.bool p.ok)) := by
  have hO := Lib.hid ((OwnL.nil w).put (.cells #[.slice A1 n1 c1, .slice A2 n2 c2, .int .i64 p.pc, .bool p.fails, .slice A3 n3 c3] 26))
  have hS := Lib.hid h
  have l1 := h.prog.1.1
  have l2 := h.cells.1.1
  have l3 := h.box.1.1
  have m1 := h.small
  have m3 : n3 ≤ 9223372036854775807 := Nat.le_trans h.box.1.2.1 h.box.1.2.2
  have m2 : n2 ≤ 9223372036854775807 := Nat.le_trans h.cells.1.2.1 h.cells.1.2.2
  clear h
  have hp := Lib.hid (fun W (hW : Below w.heap.size w W) => lprogOk_c A1 n1 c1 p.prog W (hS.out.below hW).prog m1)
  have hv2 := Lib.hid (fun W (hW : Below w.heap.size w W) => lvaluesOk_c A2 n2 c2 p.cells W (hS.out.below hW).cells)
  have hv3 := Lib.hid (fun W (hW : Below w.heap.size w W) => lvaluesOk_c A3 n3 c3 p.box W (hS.out.below hW).box)
  have hw := Lib.hid (fun W => l1In0_c p.pc (p.prog.length - 1) W)
  unfold Pt.ok
  obtain ⟨pg, cl, pc, fl, bx⟩ := p
  simp only at hO hS l1 l2 l3 hp hv2 hv3 hw ⊢
  rw [← l1] at hw ⊢
  rw [← l2, ← l3]
  clear l1 l2 l3
  obtain ⟨Z, hZ⟩ : ∃ Z : Bool, (progOK pg && (n2 == 8 && (valsOk cl && (inR pc (n1 - 1) && (decide (n3 ≤ 4) && valsOk bx))))) = Z := ⟨_, rfl⟩
  rw [hZ]
  replace hZ := Lib.hid hZ
  cases q1 : progOK pg
  · rw [q1] at hp
    have z : Z = false := by rw [← hZ.out, q1]; rfl
    subst z
    clear q1
    go_enter Try.func40, Try.ntmps40
    go_wp2_with fail
    refine (hp.out _ (by repeat (first | (with_reducible exact Below.refl _ _) | (with_reducible assumption) | (with_reducible refine Below.drew ?_) | (with_reducible refine below_drewN' ?_ _) | (with_reducible refine Below.setCell ?_ (by first | (simp; done) | (simp; omega) | omega) _) | (with_reducible refine Below.alloc ?_ (by first | (simp; done) | (simp; omega) | omega) _) | (with_reducible refine Below.trans ?_ (Below.mono (by assumption) (by first | (simp; done) | (simp; omega) | omega)))))).mono ?_
    rintro e w1 ⟨rfl, hB1⟩
    replace hO := Lib.hid (hO.out.below hB1)
    go_wp2_with fail
    go_ret
    exact ⟨rv (by first | rfl | simp), hO.out.1⟩
  rw [q1] at hp hZ
  clear q1
  simp only [Bool.true_and] at hZ
  by_cases q2 : n2 = 8
  case neg =>
    have q2' : ((n2 : Int) == 8) = false := beq_eq_false_iff_ne.2 (by omega)
    have z : Z = false := by rw [← hZ.out, beq_eq_false_iff_ne.2 q2]; rfl
    subst z
    go_enter Try.func40, Try.ntmps40
    go_wp2_with fail
    refine (hp.out _ (by repeat (first | (with_reducible exact Below.refl _ _) | (with_reducible assumption) | (with_reducible refine Below.drew ?_) | (with_reducible refine below_drewN' ?_ _) | (with_reducible refine Below.setCell ?_ (by first | (simp; done) | (simp; omega) | omega) _) | (with_reducible refine Below.alloc ?_ (by first | (simp; done) | (simp; omega) | omega) _) | (with_reducible refine Below.trans ?_ (Below.mono (by assumption) (by first | (simp; done) | (simp; omega) | omega)))))).mono ?_
    rintro e w1 ⟨rfl, hB1⟩
    replace hO := Lib.hid (hO.out.below hB1)
    have k0 := fun o => blk_cell hO.out.g0 o
    have hl0 := (Array.getElem?_eq_some_iff.1 hO.out.g0).1
    go_wp2_with fail
    go_ret
    exact ⟨rv (by first | rfl | simp), hO.out.1⟩
  subst q2
  simp only [beq_self_eq_true, Bool.true_and] at hZ
  go_enter Try.func40, Try.ntmps40
  go_wp2_with fail
  refine (hp.out _ (by repeat (first | (with_reducible exact Below.refl _ _) | (with_reducible assumption) | (with_reducible refine Below.drew ?_) | (with_reducible refine below_drewN' ?_ _) | (with_reducible refine Below.setCell ?_ (by first | (simp; done) | (simp; omega) | omega) _) | (with_reducible refine Below.alloc ?_ (by first | (simp; done) | (simp; omega) | omega) _) | (with_reducible refine Below.trans ?_ (Below.mono (by assumption) (by first | (simp; done) | (simp; omega) | omega)))))).mono ?_
  rintro e w1 ⟨rfl, hB1⟩
  replace hO := Lib.hid (hO.out.below hB1)
  have k0 := fun o => blk_cell hO.out.g0 o
  have hl0 := (Array.getElem?_eq_some_iff.1 hO.out.g0).1
  clear hp hB1
  cases q3 : valsOk cl
  · have z : Z = false := by rw [← hZ.out, q3]; rfl
    rw [q3] at hv2
    subst z
    clear q3
    go_wp2_with fail
    refine (hv2.out _ hO.out.1).mono ?_
    rintro e w2 ⟨rfl, rfl⟩
    go_wp2_with fail
    go_ret
    exact ⟨rv (by first | rfl | simp), hO.out.1⟩
  rw [q3] at hv2 hZ
  simp only [Bool.true_and] at hZ
  clear q3
  go_wp2_with fail
  refine (hv2.out _ hO.out.1).mono ?_
  rintro e w2 ⟨rfl, rfl⟩
  cases q4 : inR pc (n1 - 1)
  · have z : Z = false := by rw [← hZ.out, q4]; rfl
    rw [q4] at hw
    subst z
    clear q4
    go_wp2_with fail
    refine (hw.out _).mono ?_
    rintro e w2 ⟨rfl, rfl⟩
    go_wp2_with fail
    go_ret
    exact ⟨rv (by first | rfl | simp), hO.out.1⟩
  rw [q4] at hw hZ
  simp only [Bool.true_and] at hZ
  clear q4
  go_wp2_with fail
  refine (hw.out _).mono ?_
  rintro e w2 ⟨rfl, rfl⟩
  by_cases q5 : n3 ≤ 4
  case neg =>
    have z : Z = false := by rw [← hZ.out]; simp [q5]
    subst z
    go_wp2_with fail
    go_ret
    exact ⟨rv (by first | rfl | simp), hO.out.1⟩
  have z : valsOk bx = Z := by rw [← hZ.out]; simp [q5]
  rw [z] at hv3
  go_wp2_with fail
  refine (hv3.out _ hO.out.1).mono ?_
  rintro e w2 ⟨rfl, rfl⟩
  go_wp2_with fail
  go_ret
  exact ⟨rv (by first | rfl | simp), hO.out.1⟩

end Go.Proofs.Ytkphkkfgphhjcaa
