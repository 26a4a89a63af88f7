/- What is an op that is ok. -/
import Derived.Test.YtkphkkfgphhjcaaP0
namespace Go.Proofs.Ytkphkkfgphhjcaa
open Go.RowKit
set_option linter.unusedSimpArgs false
set_option linter.unusedVariables false

def opOKP (d a b k : Int) : Bool :=
  if d = 1 ∨ d = 3 then inR a 7 && inR b 9999
  else if d = 2 ∨ d = 13 then inR a 7 && inR b 7
  else if d = 5 then inR a 7 && inR b (k - 1)
  else if d = 9 ∨ d = 10 then inR a 7 && inR b 3
  else if d = 4 ∨ d = 6 ∨ d = 7 ∨ d = 8 ∨ d = 12 then inR a 7 && inR b 0
  else if d = 11 then a == 0 && b == 0
  else false
set_option maxHeartbeats 1000000 in
set_option maxRecDepth 100000 in
theorem opOk_c (d a b k : Int) (w : World) (h0 : 0 ≤ k) (h1 : k ≤ 10000000) : Calls Try.prog 81 #[.agg #[.int .i64 d, .int .i64 a, .int .i64 b], .int .i64 k] w (Ret w (.bool (opOKP d a b k))) := by
  by_cases hd : d = 1
  · subst hd
    have ha := Lib.hid (fun W => within_c a 7 W)
    have hb := Lib.hid (fun W => within_c b (9999) W)
    cases e1 : inR a 7
    · rw [e1] at ha
      have e2 : opOKP 1 a b k = false := by simp [opOKP, e1]
      rw [e2]
      clear e1 e2
      go_enter Try.func81, Try.ntmps81
      go_wp2_with fail
      refine (ha.out _).mono ?_
      rintro e w1 ⟨rfl, rfl⟩
      go_wp2_with fail
      go_ret
      exact ⟨rv (by first | rfl | simp), (by repeat (first | (with_reducible exact Below.refl _ _) | (with_reducible assumption) | (with_reducible refine Below.drew ?_) | (with_reducible refine below_drewN' ?_ _) | (with_reducible refine Below.setCell ?_ (by first | (simp; done) | (simp; omega) | omega) _) | (with_reducible refine Below.alloc ?_ (by first | (simp; done) | (simp; omega) | omega) _) | (with_reducible refine Below.trans ?_ (Below.mono (by assumption) (by first | (simp; done) | (simp; omega) | omega)))))⟩
    · rw [e1] at ha
      have e2 : opOKP 1 a b k = inR b (9999) := by simp [opOKP, e1]
      rw [e2]
      clear e1 e2
      go_enter Try.func81, Try.ntmps81
      go_wp2_with fail
      refine (ha.out _).mono ?_
      rintro e w1 ⟨rfl, rfl⟩
      go_wp2_with fail
      refine (hb.out _).mono ?_
      rintro e w2 ⟨rfl, rfl⟩
      go_wp2_with fail
      go_ret
      exact ⟨rv (by first | rfl | simp), (by repeat (first | (with_reducible exact Below.refl _ _) | (with_reducible assumption) | (with_reducible refine Below.drew ?_) | (with_reducible refine below_drewN' ?_ _) | (with_reducible refine Below.setCell ?_ (by first | (simp; done) | (simp; omega) | omega) _) | (with_reducible refine Below.alloc ?_ (by first | (simp; done) | (simp; omega) | omega) _) | (with_reducible refine Below.trans ?_ (Below.mono (by assumption) (by first | (simp; done) | (simp; omega) | omega)))))⟩
  have d1 : (d == 1) = false := beq_eq_false_iff_ne.2 hd
  by_cases hd : d = 3
  · subst hd
    have ha := Lib.hid (fun W => within_c a 7 W)
    have hb := Lib.hid (fun W => within_c b (9999) W)
    cases e1 : inR a 7
    · rw [e1] at ha
      have e2 : opOKP 3 a b k = false := by simp [opOKP, e1]
      rw [e2]
      clear e1 e2
      go_enter Try.func81, Try.ntmps81
      go_wp2_with fail
      refine (ha.out _).mono ?_
      rintro e w1 ⟨rfl, rfl⟩
      go_wp2_with fail
      go_ret
      exact ⟨rv (by first | rfl | simp), (by repeat (first | (with_reducible exact Below.refl _ _) | (with_reducible assumption) | (with_reducible refine Below.drew ?_) | (with_reducible refine below_drewN' ?_ _) | (with_reducible refine Below.setCell ?_ (by first | (simp; done) | (simp; omega) | omega) _) | (with_reducible refine Below.alloc ?_ (by first | (simp; done) | (simp; omega) | omega) _) | (with_reducible refine Below.trans ?_ (Below.mono (by assumption) (by first | (simp; done) | (simp; omega) | omega)))))⟩
    · rw [e1] at ha
      have e2 : opOKP 3 a b k = inR b (9999) := by simp [opOKP, e1]
      rw [e2]
      clear e1 e2
      go_enter Try.func81, Try.ntmps81
      go_wp2_with fail
      refine (ha.out _).mono ?_
      rintro e w1 ⟨rfl, rfl⟩
      go_wp2_with fail
      refine (hb.out _).mono ?_
      rintro e w2 ⟨rfl, rfl⟩
      go_wp2_with fail
      go_ret
      exact ⟨rv (by first | rfl | simp), (by repeat (first | (with_reducible exact Below.refl _ _) | (with_reducible assumption) | (with_reducible refine Below.drew ?_) | (with_reducible refine below_drewN' ?_ _) | (with_reducible refine Below.setCell ?_ (by first | (simp; done) | (simp; omega) | omega) _) | (with_reducible refine Below.alloc ?_ (by first | (simp; done) | (simp; omega) | omega) _) | (with_reducible refine Below.trans ?_ (Below.mono (by assumption) (by first | (simp; done) | (simp; omega) | omega)))))⟩
  have d3 : (d == 3) = false := beq_eq_false_iff_ne.2 hd
  by_cases hd : d = 2
  · subst hd
    have ha := Lib.hid (fun W => within_c a 7 W)
    have hb := Lib.hid (fun W => within_c b (7) W)
    cases e1 : inR a 7
    · rw [e1] at ha
      have e2 : opOKP 2 a b k = false := by simp [opOKP, e1]
      rw [e2]
      clear e1 e2
      go_enter Try.func81, Try.ntmps81
      go_wp2_with fail
      refine (ha.out _).mono ?_
      rintro e w1 ⟨rfl, rfl⟩
      go_wp2_with fail
      go_ret
      exact ⟨rv (by first | rfl | simp), (by repeat (first | (with_reducible exact Below.refl _ _) | (with_reducible assumption) | (with_reducible refine Below.drew ?_) | (with_reducible refine below_drewN' ?_ _) | (with_reducible refine Below.setCell ?_ (by first | (simp; done) | (simp; omega) | omega) _) | (with_reducible refine Below.alloc ?_ (by first | (simp; done) | (simp; omega) | omega) _) | (with_reducible refine Below.trans ?_ (Below.mono (by assumption) (by first | (simp; done) | (simp; omega) | omega)))))⟩
    · rw [e1] at ha
      have e2 : opOKP 2 a b k = inR b (7) := by simp [opOKP, e1]
      rw [e2]
      clear e1 e2
      go_enter Try.func81, Try.ntmps81
      go_wp2_with fail
      refine (ha.out _).mono ?_
      rintro e w1 ⟨rfl, rfl⟩
      go_wp2_with fail
      refine (hb.out _).mono ?_
      rintro e w2 ⟨rfl, rfl⟩
      go_wp2_with fail
      go_ret
      exact ⟨rv (by first | rfl | simp), (by repeat (first | (with_reducible exact Below.refl _ _) | (with_reducible assumption) | (with_reducible refine Below.drew ?_) | (with_reducible refine below_drewN' ?_ _) | (with_reducible refine Below.setCell ?_ (by first | (simp; done) | (simp; omega) | omega) _) | (with_reducible refine Below.alloc ?_ (by first | (simp; done) | (simp; omega) | omega) _) | (with_reducible refine Below.trans ?_ (Below.mono (by assumption) (by first | (simp; done) | (simp; omega) | omega)))))⟩
  have d2 : (d == 2) = false := beq_eq_false_iff_ne.2 hd
  by_cases hd : d = 13
  · subst hd
    have ha := Lib.hid (fun W => within_c a 7 W)
    have hb := Lib.hid (fun W => within_c b (7) W)
    cases e1 : inR a 7
    · rw [e1] at ha
      have e2 : opOKP 13 a b k = false := by simp [opOKP, e1]
      rw [e2]
      clear e1 e2
      go_enter Try.func81, Try.ntmps81
      go_wp2_with fail
      refine (ha.out _).mono ?_
      rintro e w1 ⟨rfl, rfl⟩
      go_wp2_with fail
      go_ret
      exact ⟨rv (by first | rfl | simp), (by repeat (first | (with_reducible exact Below.refl _ _) | (with_reducible assumption) | (with_reducible refine Below.drew ?_) | (with_reducible refine below_drewN' ?_ _) | (with_reducible refine Below.setCell ?_ (by first | (simp; done) | (simp; omega) | omega) _) | (with_reducible refine Below.alloc ?_ (by first | (simp; done) | (simp; omega) | omega) _) | (with_reducible refine Below.trans ?_ (Below.mono (by assumption) (by first | (simp; done) | (simp; omega) | omega)))))⟩
    · rw [e1] at ha
      have e2 : opOKP 13 a b k = inR b (7) := by simp [opOKP, e1]
      rw [e2]
      clear e1 e2
      go_enter Try.func81, Try.ntmps81
      go_wp2_with fail
      refine (ha.out _).mono ?_
      rintro e w1 ⟨rfl, rfl⟩
      go_wp2_with fail
      refine (hb.out _).mono ?_
      rintro e w2 ⟨rfl, rfl⟩
      go_wp2_with fail
      go_ret
      exact ⟨rv (by first | rfl | simp), (by repeat (first | (with_reducible exact Below.refl _ _) | (with_reducible assumption) | (with_reducible refine Below.drew ?_) | (with_reducible refine below_drewN' ?_ _) | (with_reducible refine Below.setCell ?_ (by first | (simp; done) | (simp; omega) | omega) _) | (with_reducible refine Below.alloc ?_ (by first | (simp; done) | (simp; omega) | omega) _) | (with_reducible refine Below.trans ?_ (Below.mono (by assumption) (by first | (simp; done) | (simp; omega) | omega)))))⟩
  have d13 : (d == 13) = false := beq_eq_false_iff_ne.2 hd
  by_cases hd : d = 5
  · subst hd
    have ha := Lib.hid (fun W => within_c a 7 W)
    have hb := Lib.hid (fun W => within_c b (k - 1) W)
    cases e1 : inR a 7
    · rw [e1] at ha
      have e2 : opOKP 5 a b k = false := by simp [opOKP, e1]
      rw [e2]
      clear e1 e2
      go_enter Try.func81, Try.ntmps81
      go_wp2_with fail
      refine (ha.out _).mono ?_
      rintro e w1 ⟨rfl, rfl⟩
      go_wp2_with fail
      go_ret
      exact ⟨rv (by first | rfl | simp), (by repeat (first | (with_reducible exact Below.refl _ _) | (with_reducible assumption) | (with_reducible refine Below.drew ?_) | (with_reducible refine below_drewN' ?_ _) | (with_reducible refine Below.setCell ?_ (by first | (simp; done) | (simp; omega) | omega) _) | (with_reducible refine Below.alloc ?_ (by first | (simp; done) | (simp; omega) | omega) _) | (with_reducible refine Below.trans ?_ (Below.mono (by assumption) (by first | (simp; done) | (simp; omega) | omega)))))⟩
    · rw [e1] at ha
      have e2 : opOKP 5 a b k = inR b (k - 1) := by simp [opOKP, e1]
      rw [e2]
      clear e1 e2
      go_enter Try.func81, Try.ntmps81
      go_wp2_with fail
      refine (ha.out _).mono ?_
      rintro e w1 ⟨rfl, rfl⟩
      go_wp2_with fail
      refine (hb.out _).mono ?_
      rintro e w2 ⟨rfl, rfl⟩
      go_wp2_with fail
      go_ret
      exact ⟨rv (by first | rfl | simp), (by repeat (first | (with_reducible exact Below.refl _ _) | (with_reducible assumption) | (with_reducible refine Below.drew ?_) | (with_reducible refine below_drewN' ?_ _) | (with_reducible refine Below.setCell ?_ (by first | (simp; done) | (simp; omega) | omega) _) | (with_reducible refine Below.alloc ?_ (by first | (simp; done) | (simp; omega) | omega) _) | (with_reducible refine Below.trans ?_ (Below.mono (by assumption) (by first | (simp; done) | (simp; omega) | omega)))))⟩
  have d5 : (d == 5) = false := beq_eq_false_iff_ne.2 hd
  by_cases hd : d = 9
  · subst hd
    have ha := Lib.hid (fun W => within_c a 7 W)
    have hb := Lib.hid (fun W => within_c b (3) W)
    cases e1 : inR a 7
    · rw [e1] at ha
      have e2 : opOKP 9 a b k = false := by simp [opOKP, e1]
      rw [e2]
      clear e1 e2
      go_enter Try.func81, Try.ntmps81
      go_wp2_with fail
      refine (ha.out _).mono ?_
      rintro e w1 ⟨rfl, rfl⟩
      go_wp2_with fail
      go_ret
      exact ⟨rv (by first | rfl | simp), (by repeat (first | (with_reducible exact Below.refl _ _) | (with_reducible assumption) | (with_reducible refine Below.drew ?_) | (with_reducible refine below_drewN' ?_ _) | (with_reducible refine Below.setCell ?_ (by first | (simp; done) | (simp; omega) | omega) _) | (with_reducible refine Below.alloc ?_ (by first | (simp; done) | (simp; omega) | omega) _) | (with_reducible refine Below.trans ?_ (Below.mono (by assumption) (by first | (simp; done) | (simp; omega) | omega)))))⟩
    · rw [e1] at ha
      have e2 : opOKP 9 a b k = inR b (3) := by simp [opOKP, e1]
      rw [e2]
      clear e1 e2
      go_enter Try.func81, Try.ntmps81
      go_wp2_with fail
      refine (ha.out _).mono ?_
      rintro e w1 ⟨rfl, rfl⟩
      go_wp2_with fail
      refine (hb.out _).mono ?_
      rintro e w2 ⟨rfl, rfl⟩
      go_wp2_with fail
      go_ret
      exact ⟨rv (by first | rfl | simp), (by repeat (first | (with_reducible exact Below.refl _ _) | (with_reducible assumption) | (with_reducible refine Below.drew ?_) | (with_reducible refine below_drewN' ?_ _) | (with_reducible refine Below.setCell ?_ (by first | (simp; done) | (simp; omega) | omega) _) | (with_reducible refine Below.alloc ?_ (by first | (simp; done) | (simp; omega) | omega) _) | (with_reducible refine Below.trans ?_ (Below.mono (by assumption) (by first | (simp; done) | (simp; omega) | omega)))))⟩
  have d9 : (d == 9) = false := beq_eq_false_iff_ne.2 hd
  by_cases hd : d = 10
  · subst hd
    have ha := Lib.hid (fun W => within_c a 7 W)
    have hb := Lib.hid (fun W => within_c b (3) W)
    cases e1 : inR a 7
    · rw [e1] at ha
      have e2 : opOKP 10 a b k = false := by simp [opOKP, e1]
      rw [e2]
      clear e1 e2
      go_enter Try.func81, Try.ntmps81
      go_wp2_with fail
      refine (ha.out _).mono ?_
      rintro e w1 ⟨rfl, rfl⟩
      go_wp2_with fail
      go_ret
      exact ⟨rv (by first | rfl | simp), (by repeat (first | (with_reducible exact Below.refl _ _) | (with_reducible assumption) | (with_reducible refine Below.drew ?_) | (with_reducible refine below_drewN' ?_ _) | (with_reducible refine Below.setCell ?_ (by first | (simp; done) | (simp; omega) | omega) _) | (with_reducible refine Below.alloc ?_ (by first | (simp; done) | (simp; omega) | omega) _) | (with_reducible refine Below.trans ?_ (Below.mono (by assumption) (by first | (simp; done) | (simp; omega) | omega)))))⟩
    · rw [e1] at ha
      have e2 : opOKP 10 a b k = inR b (3) := by simp [opOKP, e1]
      rw [e2]
      clear e1 e2
      go_enter Try.func81, Try.ntmps81
      go_wp2_with fail
      refine (ha.out _).mono ?_
      rintro e w1 ⟨rfl, rfl⟩
      go_wp2_with fail
      refine (hb.out _).mono ?_
      rintro e w2 ⟨rfl, rfl⟩
      go_wp2_with fail
      go_ret
      exact ⟨rv (by first | rfl | simp), (by repeat (first | (with_reducible exact Below.refl _ _) | (with_reducible assumption) | (with_reducible refine Below.drew ?_) | (with_reducible refine below_drewN' ?_ _) | (with_reducible refine Below.setCell ?_ (by first | (simp; done) | (simp; omega) | omega) _) | (with_reducible refine Below.alloc ?_ (by first | (simp; done) | (simp; omega) | omega) _) | (with_reducible refine Below.trans ?_ (Below.mono (by assumption) (by first | (simp; done) | (simp; omega) | omega)))))⟩
  have d10 : (d == 10) = false := beq_eq_false_iff_ne.2 hd
  by_cases hd : d = 11
  · subst hd
    have e2 : opOKP 11 a b k = (a == 0 && b == 0) := by simp [opOKP]
    rw [e2]
    by_cases ha : a = 0
    · subst ha
      go_enter Try.func81, Try.ntmps81
      go_wp2_with fail
      go_ret
      exact ⟨rv (by first | rfl | simp), (by repeat (first | (with_reducible exact Below.refl _ _) | (with_reducible assumption) | (with_reducible refine Below.drew ?_) | (with_reducible refine below_drewN' ?_ _) | (with_reducible refine Below.setCell ?_ (by first | (simp; done) | (simp; omega) | omega) _) | (with_reducible refine Below.alloc ?_ (by first | (simp; done) | (simp; omega) | omega) _) | (with_reducible refine Below.trans ?_ (Below.mono (by assumption) (by first | (simp; done) | (simp; omega) | omega)))))⟩
    · have ha' : (a == 0) = false := beq_eq_false_iff_ne.2 ha
      go_enter Try.func81, Try.ntmps81
      go_wp2_with fail
      go_ret
      exact ⟨rv (by first | rfl | (simp; done) | simp [ha]), (by repeat (first | (with_reducible exact Below.refl _ _) | (with_reducible assumption) | (with_reducible refine Below.drew ?_) | (with_reducible refine below_drewN' ?_ _) | (with_reducible refine Below.setCell ?_ (by first | (simp; done) | (simp; omega) | omega) _) | (with_reducible refine Below.alloc ?_ (by first | (simp; done) | (simp; omega) | omega) _) | (with_reducible refine Below.trans ?_ (Below.mono (by assumption) (by first | (simp; done) | (simp; omega) | omega)))))⟩
  have d11 : (d == 11) = false := beq_eq_false_iff_ne.2 hd
  by_cases hd : d = 4
  · subst hd
    have ha := Lib.hid (fun W => within_c a 7 W)
    have hb := Lib.hid (fun W => within_c b (0) W)
    cases e1 : inR a 7
    · rw [e1] at ha
      have e2 : opOKP 4 a b k = false := by simp [opOKP, e1]
      rw [e2]
      clear e1 e2
      go_enter Try.func81, Try.ntmps81
      go_wp2_with fail
      refine (ha.out _).mono ?_
      rintro e w1 ⟨rfl, rfl⟩
      go_wp2_with fail
      go_ret
      exact ⟨rv (by first | rfl | simp), (by repeat (first | (with_reducible exact Below.refl _ _) | (with_reducible assumption) | (with_reducible refine Below.drew ?_) | (with_reducible refine below_drewN' ?_ _) | (with_reducible refine Below.setCell ?_ (by first | (simp; done) | (simp; omega) | omega) _) | (with_reducible refine Below.alloc ?_ (by first | (simp; done) | (simp; omega) | omega) _) | (with_reducible refine Below.trans ?_ (Below.mono (by assumption) (by first | (simp; done) | (simp; omega) | omega)))))⟩
    · rw [e1] at ha
      have e2 : opOKP 4 a b k = inR b (0) := by simp [opOKP, e1]
      rw [e2]
      clear e1 e2
      go_enter Try.func81, Try.ntmps81
      go_wp2_with fail
      refine (ha.out _).mono ?_
      rintro e w1 ⟨rfl, rfl⟩
      go_wp2_with fail
      refine (hb.out _).mono ?_
      rintro e w2 ⟨rfl, rfl⟩
      go_wp2_with fail
      go_ret
      exact ⟨rv (by first | rfl | simp), (by repeat (first | (with_reducible exact Below.refl _ _) | (with_reducible assumption) | (with_reducible refine Below.drew ?_) | (with_reducible refine below_drewN' ?_ _) | (with_reducible refine Below.setCell ?_ (by first | (simp; done) | (simp; omega) | omega) _) | (with_reducible refine Below.alloc ?_ (by first | (simp; done) | (simp; omega) | omega) _) | (with_reducible refine Below.trans ?_ (Below.mono (by assumption) (by first | (simp; done) | (simp; omega) | omega)))))⟩
  have d4 : (d == 4) = false := beq_eq_false_iff_ne.2 hd
  by_cases hd : d = 6
  · subst hd
    have ha := Lib.hid (fun W => within_c a 7 W)
    have hb := Lib.hid (fun W => within_c b (0) W)
    cases e1 : inR a 7
    · rw [e1] at ha
      have e2 : opOKP 6 a b k = false := by simp [opOKP, e1]
      rw [e2]
      clear e1 e2
      go_enter Try.func81, Try.ntmps81
      go_wp2_with fail
      refine (ha.out _).mono ?_
      rintro e w1 ⟨rfl, rfl⟩
      go_wp2_with fail
      go_ret
      exact ⟨rv (by first | rfl | simp), (by repeat (first | (with_reducible exact Below.refl _ _) | (with_reducible assumption) | (with_reducible refine Below.drew ?_) | (with_reducible refine below_drewN' ?_ _) | (with_reducible refine Below.setCell ?_ (by first | (simp; done) | (simp; omega) | omega) _) | (with_reducible refine Below.alloc ?_ (by first | (simp; done) | (simp; omega) | omega) _) | (with_reducible refine Below.trans ?_ (Below.mono (by assumption) (by first | (simp; done) | (simp; omega) | omega)))))⟩
    · rw [e1] at ha
      have e2 : opOKP 6 a b k = inR b (0) := by simp [opOKP, e1]
      rw [e2]
      clear e1 e2
      go_enter Try.func81, Try.ntmps81
      go_wp2_with fail
      refine (ha.out _).mono ?_
      rintro e w1 ⟨rfl, rfl⟩
      go_wp2_with fail
      refine (hb.out _).mono ?_
      rintro e w2 ⟨rfl, rfl⟩
      go_wp2_with fail
      go_ret
      exact ⟨rv (by first | rfl | simp), (by repeat (first | (with_reducible exact Below.refl _ _) | (with_reducible assumption) | (with_reducible refine Below.drew ?_) | (with_reducible refine below_drewN' ?_ _) | (with_reducible refine Below.setCell ?_ (by first | (simp; done) | (simp; omega) | omega) _) | (with_reducible refine Below.alloc ?_ (by first | (simp; done) | (simp; omega) | omega) _) | (with_reducible refine Below.trans ?_ (Below.mono (by assumption) (by first | (simp; done) | (simp; omega) | omega)))))⟩
  have d6 : (d == 6) = false := beq_eq_false_iff_ne.2 hd
  by_cases hd : d = 7
  · subst hd
    have ha := Lib.hid (fun W => within_c a 7 W)
    have hb := Lib.hid (fun W => within_c b (0) W)
    cases e1 : inR a 7
    · rw [e1] at ha
      have e2 : opOKP 7 a b k = false := by simp [opOKP, e1]
      rw [e2]
      clear e1 e2
      go_enter Try.func81, Try.ntmps81
      go_wp2_with fail
      refine (ha.out _).mono ?_
      rintro e w1 ⟨rfl, rfl⟩
      go_wp2_with fail
      go_ret
      exact ⟨rv (by first | rfl | simp), (by repeat (first | (with_reducible exact Below.refl _ _) | (with_reducible assumption) | (with_reducible refine Below.drew ?_) | (with_reducible refine below_drewN' ?_ _) | (with_reducible refine Below.setCell ?_ (by first | (simp; done) | (simp; omega) | omega) _) | (with_reducible refine Below.alloc ?_ (by first | (simp; done) | (simp; omega) | omega) _) | (with_reducible refine Below.trans ?_ (Below.mono (by assumption) (by first | (simp; done) | (simp; omega) | omega)))))⟩
    · rw [e1] at ha
      have e2 : opOKP 7 a b k = inR b (0) := by simp [opOKP, e1]
      rw [e2]
      clear e1 e2
      go_enter Try.func81, Try.ntmps81
      go_wp2_with fail
      refine (ha.out _).mono ?_
      rintro e w1 ⟨rfl, rfl⟩
      go_wp2_with fail
      refine (hb.out _).mono ?_
      rintro e w2 ⟨rfl, rfl⟩
      go_wp2_with fail
      go_ret
      exact ⟨rv (by first | rfl | simp), (by repeat (first | (with_reducible exact Below.refl _ _) | (with_reducible assumption) | (with_reducible refine Below.drew ?_) | (with_reducible refine below_drewN' ?_ _) | (with_reducible refine Below.setCell ?_ (by first | (simp; done) | (simp; omega) | omega) _) | (with_reducible refine Below.alloc ?_ (by first | (simp; done) | (simp; omega) | omega) _) | (with_reducible refine Below.trans ?_ (Below.mono (by assumption) (by first | (simp; done) | (simp; omega) | omega)))))⟩
  have d7 : (d == 7) = false := beq_eq_false_iff_ne.2 hd
  by_cases hd : d = 8
  · subst hd
    have ha := Lib.hid (fun W => within_c a 7 W)
    have hb := Lib.hid (fun W => within_c b (0) W)
    cases e1 : inR a 7
    · rw [e1] at ha
      have e2 : opOKP 8 a b k = false := by simp [opOKP, e1]
      rw [e2]
      clear e1 e2
      go_enter Try.func81, Try.ntmps81
      go_wp2_with fail
      refine (ha.out _).mono ?_
      rintro e w1 ⟨rfl, rfl⟩
      go_wp2_with fail
      go_ret
      exact ⟨rv (by first | rfl | simp), (by repeat (first | (with_reducible exact Below.refl _ _) | (with_reducible assumption) | (with_reducible refine Below.drew ?_) | (with_reducible refine below_drewN' ?_ _) | (with_reducible refine Below.setCell ?_ (by first | (simp; done) | (simp; omega) | omega) _) | (with_reducible refine Below.alloc ?_ (by first | (simp; done) | (simp; omega) | omega) _) | (with_reducible refine Below.trans ?_ (Below.mono (by assumption) (by first | (simp; done) | (simp; omega) | omega)))))⟩
    · rw [e1] at ha
      have e2 : opOKP 8 a b k = inR b (0) := by simp [opOKP, e1]
      rw [e2]
      clear e1 e2
      go_enter Try.func81, Try.ntmps81
      go_wp2_with fail
      refine (ha.out _).mono ?_
      rintro e w1 ⟨rfl, rfl⟩
      go_wp2_with fail
      refine (hb.out _).mono ?_
      rintro e w2 ⟨rfl, rfl⟩
      go_wp2_with fail
      go_ret
      exact ⟨rv (by first | rfl | simp), (by repeat (first | (with_reducible exact Below.refl _ _) | (with_reducible assumption) | (with_reducible refine Below.drew ?_) | (with_reducible refine below_drewN' ?_ _) | (with_reducible refine Below.setCell ?_ (by first | (simp; done) | (simp; omega) | omega) _) | (with_reducible refine Below.alloc ?_ (by first | (simp; done) | (simp; omega) | omega) _) | (with_reducible refine Below.trans ?_ (Below.mono (by assumption) (by first | (simp; done) | (simp; omega) | omega)))))⟩
  have d8 : (d == 8) = false := beq_eq_false_iff_ne.2 hd
  by_cases hd : d = 12
  · subst hd
    have ha := Lib.hid (fun W => within_c a 7 W)
    have hb := Lib.hid (fun W => within_c b (0) W)
    cases e1 : inR a 7
    · rw [e1] at ha
      have e2 : opOKP 12 a b k = false := by simp [opOKP, e1]
      rw [e2]
      clear e1 e2
      go_enter Try.func81, Try.ntmps81
      go_wp2_with fail
      refine (ha.out _).mono ?_
      rintro e w1 ⟨rfl, rfl⟩
      go_wp2_with fail
      go_ret
      exact ⟨rv (by first | rfl | simp), (by repeat (first | (with_reducible exact Below.refl _ _) | (with_reducible assumption) | (with_reducible refine Below.drew ?_) | (with_reducible refine below_drewN' ?_ _) | (with_reducible refine Below.setCell ?_ (by first | (simp; done) | (simp; omega) | omega) _) | (with_reducible refine Below.alloc ?_ (by first | (simp; done) | (simp; omega) | omega) _) | (with_reducible refine Below.trans ?_ (Below.mono (by assumption) (by first | (simp; done) | (simp; omega) | omega)))))⟩
    · rw [e1] at ha
      have e2 : opOKP 12 a b k = inR b (0) := by simp [opOKP, e1]
      rw [e2]
      clear e1 e2
      go_enter Try.func81, Try.ntmps81
      go_wp2_with fail
      refine (ha.out _).mono ?_
      rintro e w1 ⟨rfl, rfl⟩
      go_wp2_with fail
      refine (hb.out _).mono ?_
      rintro e w2 ⟨rfl, rfl⟩
      go_wp2_with fail
      go_ret
      exact ⟨rv (by first | rfl | simp), (by repeat (first | (with_reducible exact Below.refl _ _) | (with_reducible assumption) | (with_reducible refine Below.drew ?_) | (with_reducible refine below_drewN' ?_ _) | (with_reducible refine Below.setCell ?_ (by first | (simp; done) | (simp; omega) | omega) _) | (with_reducible refine Below.alloc ?_ (by first | (simp; done) | (simp; omega) | omega) _) | (with_reducible refine Below.trans ?_ (Below.mono (by assumption) (by first | (simp; done) | (simp; omega) | omega)))))⟩
  have d12 : (d == 12) = false := beq_eq_false_iff_ne.2 hd
  have e2 : opOKP d a b k = false := by
    simp only [beq_eq_false_iff_ne, ne_eq] at d1 d2 d3 d4 d5 d6 d7 d8 d9 d10 d11 d12 d13
    simp [opOKP, d1, d2, d3, d4, d5, d6, d7, d8, d9, d10, d11, d12, d13]
  rw [e2]
  go_enter Try.func81, Try.ntmps81
  go_wp2_with fail
  go_ret
  exact ⟨rv (by first | rfl | simp), (by repeat (first | (with_reducible exact Below.refl _ _) | (with_reducible assumption) | (with_reducible refine Below.drew ?_) | (with_reducible refine below_drewN' ?_ _) | (with_reducible refine Below.setCell ?_ (by first | (simp; done) | (simp; omega) | omega) _) | (with_reducible refine Below.alloc ?_ (by first | (simp; done) | (simp; omega) | omega) _) | (with_reducible refine Below.trans ?_ (Below.mono (by assumption) (by first | (simp; done) | (simp; omega) | omega)))))⟩

theorem inR0 (b : Int) : inR b 0 = (b == 0) := by
  by_cases h : b = 0
  · subst h; rfl
  · rw [beq_eq_false_iff_ne.2 h]
    simp [inR]
    omega
theorem l10Cell_c (a : Int) (w : World) : Calls Try.prog 89 #[.int .i64 a] w fun e w' => e = .returned (.bool (inR a 7)) ∧ w = w' := by
  have h := Lib.hid (fun W => l1In0_c a 7 W)
  go_enter Try.func89, Try.ntmps89
  go_wp2_with fail
  refine (h.out _).mono ?_
  rintro e w1 ⟨rfl, rfl⟩
  go_wp2_with fail
  go_ret
  exact ⟨rfl, rfl⟩
set_option maxHeartbeats 1000000 in
set_option maxRecDepth 100000 in
theorem lopOk_c (d a b k : Int) (w : World) (h0 : 0 ≤ k) (h1 : k ≤ 10000000) : Calls Try.prog 87 #[.agg #[.int .i64 d, .int .i64 a, .int .i64 b], .int .i64 k] w (Ret w (.bool (opOKP d a b k))) := by
  by_cases hd : d = 1
  · subst hd
    have ha := Lib.hid (fun W => l10Cell_c a W)
    have hb := Lib.hid (fun W => l1In0_c b (9999) W)
    cases e1 : inR a 7
    · rw [e1] at ha
      have e2 : opOKP 1 a b k = false := by simp [opOKP, e1]
      rw [e2]
      clear e1 e2
      go_enter Try.func87, Try.ntmps87
      go_wp2_with fail
      refine (ha.out _).mono ?_
      rintro e w1 ⟨rfl, rfl⟩
      go_wp2_with fail
      go_ret
      exact ⟨rv (by first | rfl | simp), (by repeat (first | (with_reducible exact Below.refl _ _) | (with_reducible assumption) | (with_reducible refine Below.drew ?_) | (with_reducible refine below_drewN' ?_ _) | (with_reducible refine Below.setCell ?_ (by first | (simp; done) | (simp; omega) | omega) _) | (with_reducible refine Below.alloc ?_ (by first | (simp; done) | (simp; omega) | omega) _) | (with_reducible refine Below.trans ?_ (Below.mono (by assumption) (by first | (simp; done) | (simp; omega) | omega)))))⟩
    · rw [e1] at ha
      have e2 : opOKP 1 a b k = inR b (9999) := by simp [opOKP, e1]
      rw [e2]
      clear e1 e2
      go_enter Try.func87, Try.ntmps87
      go_wp2_with fail
      refine (ha.out _).mono ?_
      rintro e w1 ⟨rfl, rfl⟩
      go_wp2_with fail
      refine (hb.out _).mono ?_
      rintro e w2 ⟨rfl, rfl⟩
      go_wp2_with fail
      go_ret
      exact ⟨rv (by first | rfl | simp), (by repeat (first | (with_reducible exact Below.refl _ _) | (with_reducible assumption) | (with_reducible refine Below.drew ?_) | (with_reducible refine below_drewN' ?_ _) | (with_reducible refine Below.setCell ?_ (by first | (simp; done) | (simp; omega) | omega) _) | (with_reducible refine Below.alloc ?_ (by first | (simp; done) | (simp; omega) | omega) _) | (with_reducible refine Below.trans ?_ (Below.mono (by assumption) (by first | (simp; done) | (simp; omega) | omega)))))⟩
  have d1 : (d == 1) = false := beq_eq_false_iff_ne.2 hd
  by_cases hd : d = 3
  · subst hd
    have ha := Lib.hid (fun W => l10Cell_c a W)
    have hb := Lib.hid (fun W => l1In0_c b (9999) W)
    cases e1 : inR a 7
    · rw [e1] at ha
      have e2 : opOKP 3 a b k = false := by simp [opOKP, e1]
      rw [e2]
      clear e1 e2
      go_enter Try.func87, Try.ntmps87
      go_wp2_with fail
      refine (ha.out _).mono ?_
      rintro e w1 ⟨rfl, rfl⟩
      go_wp2_with fail
      go_ret
      exact ⟨rv (by first | rfl | simp), (by repeat (first | (with_reducible exact Below.refl _ _) | (with_reducible assumption) | (with_reducible refine Below.drew ?_) | (with_reducible refine below_drewN' ?_ _) | (with_reducible refine Below.setCell ?_ (by first | (simp; done) | (simp; omega) | omega) _) | (with_reducible refine Below.alloc ?_ (by first | (simp; done) | (simp; omega) | omega) _) | (with_reducible refine Below.trans ?_ (Below.mono (by assumption) (by first | (simp; done) | (simp; omega) | omega)))))⟩
    · rw [e1] at ha
      have e2 : opOKP 3 a b k = inR b (9999) := by simp [opOKP, e1]
      rw [e2]
      clear e1 e2
      go_enter Try.func87, Try.ntmps87
      go_wp2_with fail
      refine (ha.out _).mono ?_
      rintro e w1 ⟨rfl, rfl⟩
      go_wp2_with fail
      refine (hb.out _).mono ?_
      rintro e w2 ⟨rfl, rfl⟩
      go_wp2_with fail
      go_ret
      exact ⟨rv (by first | rfl | simp), (by repeat (first | (with_reducible exact Below.refl _ _) | (with_reducible assumption) | (with_reducible refine Below.drew ?_) | (with_reducible refine below_drewN' ?_ _) | (with_reducible refine Below.setCell ?_ (by first | (simp; done) | (simp; omega) | omega) _) | (with_reducible refine Below.alloc ?_ (by first | (simp; done) | (simp; omega) | omega) _) | (with_reducible refine Below.trans ?_ (Below.mono (by assumption) (by first | (simp; done) | (simp; omega) | omega)))))⟩
  have d3 : (d == 3) = false := beq_eq_false_iff_ne.2 hd
  by_cases hd : d = 2
  · subst hd
    have ha := Lib.hid (fun W => l10Cell_c a W)
    have hb := Lib.hid (fun W => l10Cell_c b W)
    cases e1 : inR a 7
    · rw [e1] at ha
      have e2 : opOKP 2 a b k = false := by simp [opOKP, e1]
      rw [e2]
      clear e1 e2
      go_enter Try.func87, Try.ntmps87
      go_wp2_with fail
      refine (ha.out _).mono ?_
      rintro e w1 ⟨rfl, rfl⟩
      go_wp2_with fail
      go_ret
      exact ⟨rv (by first | rfl | simp), (by repeat (first | (with_reducible exact Below.refl _ _) | (with_reducible assumption) | (with_reducible refine Below.drew ?_) | (with_reducible refine below_drewN' ?_ _) | (with_reducible refine Below.setCell ?_ (by first | (simp; done) | (simp; omega) | omega) _) | (with_reducible refine Below.alloc ?_ (by first | (simp; done) | (simp; omega) | omega) _) | (with_reducible refine Below.trans ?_ (Below.mono (by assumption) (by first | (simp; done) | (simp; omega) | omega)))))⟩
    · rw [e1] at ha
      have e2 : opOKP 2 a b k = inR b (7) := by simp [opOKP, e1]
      rw [e2]
      clear e1 e2
      go_enter Try.func87, Try.ntmps87
      go_wp2_with fail
      refine (ha.out _).mono ?_
      rintro e w1 ⟨rfl, rfl⟩
      go_wp2_with fail
      refine (hb.out _).mono ?_
      rintro e w2 ⟨rfl, rfl⟩
      go_wp2_with fail
      go_ret
      exact ⟨rv (by first | rfl | simp), (by repeat (first | (with_reducible exact Below.refl _ _) | (with_reducible assumption) | (with_reducible refine Below.drew ?_) | (with_reducible refine below_drewN' ?_ _) | (with_reducible refine Below.setCell ?_ (by first | (simp; done) | (simp; omega) | omega) _) | (with_reducible refine Below.alloc ?_ (by first | (simp; done) | (simp; omega) | omega) _) | (with_reducible refine Below.trans ?_ (Below.mono (by assumption) (by first | (simp; done) | (simp; omega) | omega)))))⟩
  have d2 : (d == 2) = false := beq_eq_false_iff_ne.2 hd
  by_cases hd : d = 13
  · subst hd
    have ha := Lib.hid (fun W => l10Cell_c a W)
    have hb := Lib.hid (fun W => l10Cell_c b W)
    cases e1 : inR a 7
    · rw [e1] at ha
      have e2 : opOKP 13 a b k = false := by simp [opOKP, e1]
      rw [e2]
      clear e1 e2
      go_enter Try.func87, Try.ntmps87
      go_wp2_with fail
      refine (ha.out _).mono ?_
      rintro e w1 ⟨rfl, rfl⟩
      go_wp2_with fail
      go_ret
      exact ⟨rv (by first | rfl | simp), (by repeat (first | (with_reducible exact Below.refl _ _) | (with_reducible assumption) | (with_reducible refine Below.drew ?_) | (with_reducible refine below_drewN' ?_ _) | (with_reducible refine Below.setCell ?_ (by first | (simp; done) | (simp; omega) | omega) _) | (with_reducible refine Below.alloc ?_ (by first | (simp; done) | (simp; omega) | omega) _) | (with_reducible refine Below.trans ?_ (Below.mono (by assumption) (by first | (simp; done) | (simp; omega) | omega)))))⟩
    · rw [e1] at ha
      have e2 : opOKP 13 a b k = inR b (7) := by simp [opOKP, e1]
      rw [e2]
      clear e1 e2
      go_enter Try.func87, Try.ntmps87
      go_wp2_with fail
      refine (ha.out _).mono ?_
      rintro e w1 ⟨rfl, rfl⟩
      go_wp2_with fail
      refine (hb.out _).mono ?_
      rintro e w2 ⟨rfl, rfl⟩
      go_wp2_with fail
      go_ret
      exact ⟨rv (by first | rfl | simp), (by repeat (first | (with_reducible exact Below.refl _ _) | (with_reducible assumption) | (with_reducible refine Below.drew ?_) | (with_reducible refine below_drewN' ?_ _) | (with_reducible refine Below.setCell ?_ (by first | (simp; done) | (simp; omega) | omega) _) | (with_reducible refine Below.alloc ?_ (by first | (simp; done) | (simp; omega) | omega) _) | (with_reducible refine Below.trans ?_ (Below.mono (by assumption) (by first | (simp; done) | (simp; omega) | omega)))))⟩
  have d13 : (d == 13) = false := beq_eq_false_iff_ne.2 hd
  by_cases hd : d = 5
  · subst hd
    have ha := Lib.hid (fun W => l10Cell_c a W)
    have hb := Lib.hid (fun W => l1In0_c b (k - 1) W)
    cases e1 : inR a 7
    · rw [e1] at ha
      have e2 : opOKP 5 a b k = false := by simp [opOKP, e1]
      rw [e2]
      clear e1 e2
      go_enter Try.func87, Try.ntmps87
      go_wp2_with fail
      refine (ha.out _).mono ?_
      rintro e w1 ⟨rfl, rfl⟩
      go_wp2_with fail
      go_ret
      exact ⟨rv (by first | rfl | simp), (by repeat (first | (with_reducible exact Below.refl _ _) | (with_reducible assumption) | (with_reducible refine Below.drew ?_) | (with_reducible refine below_drewN' ?_ _) | (with_reducible refine Below.setCell ?_ (by first | (simp; done) | (simp; omega) | omega) _) | (with_reducible refine Below.alloc ?_ (by first | (simp; done) | (simp; omega) | omega) _) | (with_reducible refine Below.trans ?_ (Below.mono (by assumption) (by first | (simp; done) | (simp; omega) | omega)))))⟩
    · rw [e1] at ha
      have e2 : opOKP 5 a b k = inR b (k - 1) := by simp [opOKP, e1]
      rw [e2]
      clear e1 e2
      go_enter Try.func87, Try.ntmps87
      go_wp2_with fail
      refine (ha.out _).mono ?_
      rintro e w1 ⟨rfl, rfl⟩
      go_wp2_with fail
      refine (hb.out _).mono ?_
      rintro e w2 ⟨rfl, rfl⟩
      go_wp2_with fail
      go_ret
      exact ⟨rv (by first | rfl | simp), (by repeat (first | (with_reducible exact Below.refl _ _) | (with_reducible assumption) | (with_reducible refine Below.drew ?_) | (with_reducible refine below_drewN' ?_ _) | (with_reducible refine Below.setCell ?_ (by first | (simp; done) | (simp; omega) | omega) _) | (with_reducible refine Below.alloc ?_ (by first | (simp; done) | (simp; omega) | omega) _) | (with_reducible refine Below.trans ?_ (Below.mono (by assumption) (by first | (simp; done) | (simp; omega) | omega)))))⟩
  have d5 : (d == 5) = false := beq_eq_false_iff_ne.2 hd
  by_cases hd : d = 9
  · subst hd
    have ha := Lib.hid (fun W => l10Cell_c a W)
    have hb := Lib.hid (fun W => l1In0_c b (3) W)
    cases e1 : inR a 7
    · rw [e1] at ha
      have e2 : opOKP 9 a b k = false := by simp [opOKP, e1]
      rw [e2]
      clear e1 e2
      go_enter Try.func87, Try.ntmps87
      go_wp2_with fail
      refine (ha.out _).mono ?_
      rintro e w1 ⟨rfl, rfl⟩
      go_wp2_with fail
      go_ret
      exact ⟨rv (by first | rfl | simp), (by repeat (first | (with_reducible exact Below.refl _ _) | (with_reducible assumption) | (with_reducible refine Below.drew ?_) | (with_reducible refine below_drewN' ?_ _) | (with_reducible refine Below.setCell ?_ (by first | (simp; done) | (simp; omega) | omega) _) | (with_reducible refine Below.alloc ?_ (by first | (simp; done) | (simp; omega) | omega) _) | (with_reducible refine Below.trans ?_ (Below.mono (by assumption) (by first | (simp; done) | (simp; omega) | omega)))))⟩
    · rw [e1] at ha
      have e2 : opOKP 9 a b k = inR b (3) := by simp [opOKP, e1]
      rw [e2]
      clear e1 e2
      go_enter Try.func87, Try.ntmps87
      go_wp2_with fail
      refine (ha.out _).mono ?_
      rintro e w1 ⟨rfl, rfl⟩
      go_wp2_with fail
      refine (hb.out _).mono ?_
      rintro e w2 ⟨rfl, rfl⟩
      go_wp2_with fail
      go_ret
      exact ⟨rv (by first | rfl | simp), (by repeat (first | (with_reducible exact Below.refl _ _) | (with_reducible assumption) | (with_reducible refine Below.drew ?_) | (with_reducible refine below_drewN' ?_ _) | (with_reducible refine Below.setCell ?_ (by first | (simp; done) | (simp; omega) | omega) _) | (with_reducible refine Below.alloc ?_ (by first | (simp; done) | (simp; omega) | omega) _) | (with_reducible refine Below.trans ?_ (Below.mono (by assumption) (by first | (simp; done) | (simp; omega) | omega)))))⟩
  have d9 : (d == 9) = false := beq_eq_false_iff_ne.2 hd
  by_cases hd : d = 10
  · subst hd
    have ha := Lib.hid (fun W => l10Cell_c a W)
    have hb := Lib.hid (fun W => l1In0_c b (3) W)
    cases e1 : inR a 7
    · rw [e1] at ha
      have e2 : opOKP 10 a b k = false := by simp [opOKP, e1]
      rw [e2]
      clear e1 e2
      go_enter Try.func87, Try.ntmps87
      go_wp2_with fail
      refine (ha.out _).mono ?_
      rintro e w1 ⟨rfl, rfl⟩
      go_wp2_with fail
      go_ret
      exact ⟨rv (by first | rfl | simp), (by repeat (first | (with_reducible exact Below.refl _ _) | (with_reducible assumption) | (with_reducible refine Below.drew ?_) | (with_reducible refine below_drewN' ?_ _) | (with_reducible refine Below.setCell ?_ (by first | (simp; done) | (simp; omega) | omega) _) | (with_reducible refine Below.alloc ?_ (by first | (simp; done) | (simp; omega) | omega) _) | (with_reducible refine Below.trans ?_ (Below.mono (by assumption) (by first | (simp; done) | (simp; omega) | omega)))))⟩
    · rw [e1] at ha
      have e2 : opOKP 10 a b k = inR b (3) := by simp [opOKP, e1]
      rw [e2]
      clear e1 e2
      go_enter Try.func87, Try.ntmps87
      go_wp2_with fail
      refine (ha.out _).mono ?_
      rintro e w1 ⟨rfl, rfl⟩
      go_wp2_with fail
      refine (hb.out _).mono ?_
      rintro e w2 ⟨rfl, rfl⟩
      go_wp2_with fail
      go_ret
      exact ⟨rv (by first | rfl | simp), (by repeat (first | (with_reducible exact Below.refl _ _) | (with_reducible assumption) | (with_reducible refine Below.drew ?_) | (with_reducible refine below_drewN' ?_ _) | (with_reducible refine Below.setCell ?_ (by first | (simp; done) | (simp; omega) | omega) _) | (with_reducible refine Below.alloc ?_ (by first | (simp; done) | (simp; omega) | omega) _) | (with_reducible refine Below.trans ?_ (Below.mono (by assumption) (by first | (simp; done) | (simp; omega) | omega)))))⟩
  have d10 : (d == 10) = false := beq_eq_false_iff_ne.2 hd
  by_cases hd : d = 11
  · subst hd
    have e2 : opOKP 11 a b k = (a == 0 && b == 0) := by simp [opOKP]
    rw [e2]
    by_cases ha : a = 0
    · subst ha
      go_enter Try.func87, Try.ntmps87
      go_wp2_with fail
      go_ret
      exact ⟨rv (by first | rfl | simp), (by repeat (first | (with_reducible exact Below.refl _ _) | (with_reducible assumption) | (with_reducible refine Below.drew ?_) | (with_reducible refine below_drewN' ?_ _) | (with_reducible refine Below.setCell ?_ (by first | (simp; done) | (simp; omega) | omega) _) | (with_reducible refine Below.alloc ?_ (by first | (simp; done) | (simp; omega) | omega) _) | (with_reducible refine Below.trans ?_ (Below.mono (by assumption) (by first | (simp; done) | (simp; omega) | omega)))))⟩
    · have ha' : (a == 0) = false := beq_eq_false_iff_ne.2 ha
      go_enter Try.func87, Try.ntmps87
      go_wp2_with fail
      go_ret
      exact ⟨rv (by first | rfl | (simp; done) | simp [ha]), (by repeat (first | (with_reducible exact Below.refl _ _) | (with_reducible assumption) | (with_reducible refine Below.drew ?_) | (with_reducible refine below_drewN' ?_ _) | (with_reducible refine Below.setCell ?_ (by first | (simp; done) | (simp; omega) | omega) _) | (with_reducible refine Below.alloc ?_ (by first | (simp; done) | (simp; omega) | omega) _) | (with_reducible refine Below.trans ?_ (Below.mono (by assumption) (by first | (simp; done) | (simp; omega) | omega)))))⟩
  have d11 : (d == 11) = false := beq_eq_false_iff_ne.2 hd
  by_cases hd : d = 4
  · subst hd
    have ha := Lib.hid (fun W => l10Cell_c a W)
    have hb := Lib.hid (fun W => l1In0_c b (0) W)
    cases e1 : inR a 7
    · rw [e1] at ha
      have e2 : opOKP 4 a b k = false := by simp [opOKP, e1]
      rw [e2]
      clear e1 e2
      go_enter Try.func87, Try.ntmps87
      go_wp2_with fail
      refine (ha.out _).mono ?_
      rintro e w1 ⟨rfl, rfl⟩
      go_wp2_with fail
      go_ret
      exact ⟨rv (by first | rfl | simp), (by repeat (first | (with_reducible exact Below.refl _ _) | (with_reducible assumption) | (with_reducible refine Below.drew ?_) | (with_reducible refine below_drewN' ?_ _) | (with_reducible refine Below.setCell ?_ (by first | (simp; done) | (simp; omega) | omega) _) | (with_reducible refine Below.alloc ?_ (by first | (simp; done) | (simp; omega) | omega) _) | (with_reducible refine Below.trans ?_ (Below.mono (by assumption) (by first | (simp; done) | (simp; omega) | omega)))))⟩
    · rw [e1] at ha
      have e2 : opOKP 4 a b k = (b == 0) := by simp [opOKP, e1, inR0]
      rw [e2]
      clear e1 e2
      go_enter Try.func87, Try.ntmps87
      go_wp2_with fail
      refine (ha.out _).mono ?_
      rintro e w1 ⟨rfl, rfl⟩
      go_wp2_with fail
      go_ret
      exact ⟨rv (by first | rfl | simp), (by repeat (first | (with_reducible exact Below.refl _ _) | (with_reducible assumption) | (with_reducible refine Below.drew ?_) | (with_reducible refine below_drewN' ?_ _) | (with_reducible refine Below.setCell ?_ (by first | (simp; done) | (simp; omega) | omega) _) | (with_reducible refine Below.alloc ?_ (by first | (simp; done) | (simp; omega) | omega) _) | (with_reducible refine Below.trans ?_ (Below.mono (by assumption) (by first | (simp; done) | (simp; omega) | omega)))))⟩
  have d4 : (d == 4) = false := beq_eq_false_iff_ne.2 hd
  by_cases hd : d = 6
  · subst hd
    have ha := Lib.hid (fun W => l10Cell_c a W)
    have hb := Lib.hid (fun W => l1In0_c b (0) W)
    cases e1 : inR a 7
    · rw [e1] at ha
      have e2 : opOKP 6 a b k = false := by simp [opOKP, e1]
      rw [e2]
      clear e1 e2
      go_enter Try.func87, Try.ntmps87
      go_wp2_with fail
      refine (ha.out _).mono ?_
      rintro e w1 ⟨rfl, rfl⟩
      go_wp2_with fail
      go_ret
      exact ⟨rv (by first | rfl | simp), (by repeat (first | (with_reducible exact Below.refl _ _) | (with_reducible assumption) | (with_reducible refine Below.drew ?_) | (with_reducible refine below_drewN' ?_ _) | (with_reducible refine Below.setCell ?_ (by first | (simp; done) | (simp; omega) | omega) _) | (with_reducible refine Below.alloc ?_ (by first | (simp; done) | (simp; omega) | omega) _) | (with_reducible refine Below.trans ?_ (Below.mono (by assumption) (by first | (simp; done) | (simp; omega) | omega)))))⟩
    · rw [e1] at ha
      have e2 : opOKP 6 a b k = (b == 0) := by simp [opOKP, e1, inR0]
      rw [e2]
      clear e1 e2
      go_enter Try.func87, Try.ntmps87
      go_wp2_with fail
      refine (ha.out _).mono ?_
      rintro e w1 ⟨rfl, rfl⟩
      go_wp2_with fail
      go_ret
      exact ⟨rv (by first | rfl | simp), (by repeat (first | (with_reducible exact Below.refl _ _) | (with_reducible assumption) | (with_reducible refine Below.drew ?_) | (with_reducible refine below_drewN' ?_ _) | (with_reducible refine Below.setCell ?_ (by first | (simp; done) | (simp; omega) | omega) _) | (with_reducible refine Below.alloc ?_ (by first | (simp; done) | (simp; omega) | omega) _) | (with_reducible refine Below.trans ?_ (Below.mono (by assumption) (by first | (simp; done) | (simp; omega) | omega)))))⟩
  have d6 : (d == 6) = false := beq_eq_false_iff_ne.2 hd
  by_cases hd : d = 7
  · subst hd
    have ha := Lib.hid (fun W => l10Cell_c a W)
    have hb := Lib.hid (fun W => l1In0_c b (0) W)
    cases e1 : inR a 7
    · rw [e1] at ha
      have e2 : opOKP 7 a b k = false := by simp [opOKP, e1]
      rw [e2]
      clear e1 e2
      go_enter Try.func87, Try.ntmps87
      go_wp2_with fail
      refine (ha.out _).mono ?_
      rintro e w1 ⟨rfl, rfl⟩
      go_wp2_with fail
      go_ret
      exact ⟨rv (by first | rfl | simp), (by repeat (first | (with_reducible exact Below.refl _ _) | (with_reducible assumption) | (with_reducible refine Below.drew ?_) | (with_reducible refine below_drewN' ?_ _) | (with_reducible refine Below.setCell ?_ (by first | (simp; done) | (simp; omega) | omega) _) | (with_reducible refine Below.alloc ?_ (by first | (simp; done) | (simp; omega) | omega) _) | (with_reducible refine Below.trans ?_ (Below.mono (by assumption) (by first | (simp; done) | (simp; omega) | omega)))))⟩
    · rw [e1] at ha
      have e2 : opOKP 7 a b k = (b == 0) := by simp [opOKP, e1, inR0]
      rw [e2]
      clear e1 e2
      go_enter Try.func87, Try.ntmps87
      go_wp2_with fail
      refine (ha.out _).mono ?_
      rintro e w1 ⟨rfl, rfl⟩
      go_wp2_with fail
      go_ret
      exact ⟨rv (by first | rfl | simp), (by repeat (first | (with_reducible exact Below.refl _ _) | (with_reducible assumption) | (with_reducible refine Below.drew ?_) | (with_reducible refine below_drewN' ?_ _) | (with_reducible refine Below.setCell ?_ (by first | (simp; done) | (simp; omega) | omega) _) | (with_reducible refine Below.alloc ?_ (by first | (simp; done) | (simp; omega) | omega) _) | (with_reducible refine Below.trans ?_ (Below.mono (by assumption) (by first | (simp; done) | (simp; omega) | omega)))))⟩
  have d7 : (d == 7) = false := beq_eq_false_iff_ne.2 hd
  by_cases hd : d = 8
  · subst hd
    have ha := Lib.hid (fun W => l10Cell_c a W)
    have hb := Lib.hid (fun W => l1In0_c b (0) W)
    cases e1 : inR a 7
    · rw [e1] at ha
      have e2 : opOKP 8 a b k = false := by simp [opOKP, e1]
      rw [e2]
      clear e1 e2
      go_enter Try.func87, Try.ntmps87
      go_wp2_with fail
      refine (ha.out _).mono ?_
      rintro e w1 ⟨rfl, rfl⟩
      go_wp2_with fail
      go_ret
      exact ⟨rv (by first | rfl | simp), (by repeat (first | (with_reducible exact Below.refl _ _) | (with_reducible assumption) | (with_reducible refine Below.drew ?_) | (with_reducible refine below_drewN' ?_ _) | (with_reducible refine Below.setCell ?_ (by first | (simp; done) | (simp; omega) | omega) _) | (with_reducible refine Below.alloc ?_ (by first | (simp; done) | (simp; omega) | omega) _) | (with_reducible refine Below.trans ?_ (Below.mono (by assumption) (by first | (simp; done) | (simp; omega) | omega)))))⟩
    · rw [e1] at ha
      have e2 : opOKP 8 a b k = (b == 0) := by simp [opOKP, e1, inR0]
      rw [e2]
      clear e1 e2
      go_enter Try.func87, Try.ntmps87
      go_wp2_with fail
      refine (ha.out _).mono ?_
      rintro e w1 ⟨rfl, rfl⟩
      go_wp2_with fail
      go_ret
      exact ⟨rv (by first | rfl | simp), (by repeat (first | (with_reducible exact Below.refl _ _) | (with_reducible assumption) | (with_reducible refine Below.drew ?_) | (with_reducible refine below_drewN' ?_ _) | (with_reducible refine Below.setCell ?_ (by first | (simp; done) | (simp; omega) | omega) _) | (with_reducible refine Below.alloc ?_ (by first | (simp; done) | (simp; omega) | omega) _) | (with_reducible refine Below.trans ?_ (Below.mono (by assumption) (by first | (simp; done) | (simp; omega) | omega)))))⟩
  have d8 : (d == 8) = false := beq_eq_false_iff_ne.2 hd
  by_cases hd : d = 12
  · subst hd
    have ha := Lib.hid (fun W => l10Cell_c a W)
    have hb := Lib.hid (fun W => l1In0_c b (0) W)
    cases e1 : inR a 7
    · rw [e1] at ha
      have e2 : opOKP 12 a b k = false := by simp [opOKP, e1]
      rw [e2]
      clear e1 e2
      go_enter Try.func87, Try.ntmps87
      go_wp2_with fail
      refine (ha.out _).mono ?_
      rintro e w1 ⟨rfl, rfl⟩
      go_wp2_with fail
      go_ret
      exact ⟨rv (by first | rfl | simp), (by repeat (first | (with_reducible exact Below.refl _ _) | (with_reducible assumption) | (with_reducible refine Below.drew ?_) | (with_reducible refine below_drewN' ?_ _) | (with_reducible refine Below.setCell ?_ (by first | (simp; done) | (simp; omega) | omega) _) | (with_reducible refine Below.alloc ?_ (by first | (simp; done) | (simp; omega) | omega) _) | (with_reducible refine Below.trans ?_ (Below.mono (by assumption) (by first | (simp; done) | (simp; omega) | omega)))))⟩
    · rw [e1] at ha
      have e2 : opOKP 12 a b k = (b == 0) := by simp [opOKP, e1, inR0]
      rw [e2]
      clear e1 e2
      go_enter Try.func87, Try.ntmps87
      go_wp2_with fail
      refine (ha.out _).mono ?_
      rintro e w1 ⟨rfl, rfl⟩
      go_wp2_with fail
      go_ret
      exact ⟨rv (by first | rfl | simp), (by repeat (first | (with_reducible exact Below.refl _ _) | (with_reducible assumption) | (with_reducible refine Below.drew ?_) | (with_reducible refine below_drewN' ?_ _) | (with_reducible refine Below.setCell ?_ (by first | (simp; done) | (simp; omega) | omega) _) | (with_reducible refine Below.alloc ?_ (by first | (simp; done) | (simp; omega) | omega) _) | (with_reducible refine Below.trans ?_ (Below.mono (by assumption) (by first | (simp; done) | (simp; omega) | omega)))))⟩
  have d12 : (d == 12) = false := beq_eq_false_iff_ne.2 hd
  have e2 : opOKP d a b k = false := by
    simp only [beq_eq_false_iff_ne, ne_eq] at d1 d2 d3 d4 d5 d6 d7 d8 d9 d10 d11 d12 d13
    simp [opOKP, d1, d2, d3, d4, d5, d6, d7, d8, d9, d10, d11, d12, d13]
  rw [e2]
  go_enter Try.func87, Try.ntmps87
  go_wp2_with fail
  go_ret
  exact ⟨rv (by first | rfl | simp), (by repeat (first | (with_reducible exact Below.refl _ _) | (with_reducible assumption) | (with_reducible refine Below.drew ?_) | (with_reducible refine below_drewN' ?_ _) | (with_reducible refine Below.setCell ?_ (by first | (simp; done) | (simp; omega) | omega) _) | (with_reducible refine Below.alloc ?_ (by first | (simp; done) | (simp; omega) | omega) _) | (with_reducible refine Below.trans ?_ (Below.mono (by assumption) (by first | (simp; done) | (simp; omega) | omega)))))⟩

end Go.Proofs.Ytkphkkfgphhjcaa
