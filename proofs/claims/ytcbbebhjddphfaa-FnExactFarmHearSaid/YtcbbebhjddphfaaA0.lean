/- Small contracts: what is ok. -/
import Derived.Test.YtcbbebhjddphfaaProg
import Derived.WalkKit
import Derived.Deep.QuietTactic
import Derived.BigQuiet
import Derived.Below
import Derived.Outline
import Derived.Lib.Hide
namespace Go.Proofs.Ytcbbebhjddphfaa
open Go.RowKit

theorem bl_alloc {w W : World} (h : Below w.heap.size w W) (o : Obj) : Below w.heap.size w (W.alloc o) := h.alloc h.size o
theorem below_drewN' {B : Nat} {w W : World} (h : Below B w W) (n : Nat) : Below B w (W.drewN n) := ⟨h.os, h.tape, h.output, h.size, h.block⟩
theorem bcell {W w1 : World} (hb : Below W.heap.size W w1) : (∀ b o, b < W.heap.size → w1.cell? ⟨b, o, none⟩ = W.cell? ⟨b, o, none⟩) ∧ (∀ b o, b < W.heap.size → w1.frozen? ⟨b, o, none⟩ = W.frozen? ⟨b, o, none⟩) :=
  ⟨fun b o h => hb.cell (p := ⟨b, o, none⟩) h, fun b o h => hb.frozen (p := ⟨b, o, none⟩) h⟩
theorem rb {a b : Bool} (h : a = b) : Ending.returned (.bool a) = .returned (.bool b) := by rw [h]
theorem ri {k : IntKind} {a b : Int} (h : a = b) : Ending.returned (.int k a) = .returned (.int k b) := by rw [h]
theorem rv {a b : Value} (h : a = b) : Ending.returned a = .returned b := by rw [h]
theorem w64b (u : UInt8) : wrap64 (u.toNat : Int) = (u.toNat : Int) := by
  unfold wrap64
  have := u.toNat_lt
  omega
/-- The usual post: it returns v, and nothing that was there has changed. -/
def Ret (w : World) (v : Value) (e : Ending) (w' : World) : Prop := e = .returned v ∧ Below w.heap.size w w'

def inR (a b : Int) : Bool := decide (0 ≤ a) && decide (a ≤ b)
theorem inR_iff {a b : Int} : inR a b = true ↔ 0 ≤ a ∧ a ≤ b := by simp [inR]
theorem within_c (a b : Int) (w : World) : Calls Try.prog 46 #[.int .i64 a, .int .i64 b] w fun e w' => e = .returned (.bool (inR a b)) ∧ w = w' := by
  by_cases h : 0 ≤ a
  all_goals
    go_enter Try.func46, Try.ntmps46
    go_wp2
    go_ret
    exact ⟨by simp [inR]; omega, rfl⟩

structure Fm where
  sh : Bool
  wt : Bool
  ag : Bool
  ct : Int
  nx : Int
def Fm.v (f : Fm) : Value := .agg #[.bool f.sh, .bool f.wt, .bool f.ag, .int .i64 f.ct, .int .i64 f.nx]
def Fm.ok (f : Fm) : Bool := inR f.ct 3 && inR f.nx 255 && (f.ag || !f.wt)
theorem farmOk_c (f : Fm) (w : World) : Calls Try.prog 17 #[f.v] w (Ret w (.bool f.ok)) := by
  obtain ⟨s, wt, ag, c, n⟩ := f
  show Calls Try.prog 17 #[.agg #[.bool s, .bool wt, .bool ag, .int .i64 c, .int .i64 n]] w _
  cases h1 : inR c 3 <;> cases h2 : inR n 255 <;> cases ag <;> 
  · go_enter Try.func17, Try.ntmps17
    go_wp2_with (go_at_call 46; refine (within_c _ _ _).mono ?_; rintro e w1 ⟨rfl, rfl⟩)
    go_ret
    exact ⟨by simp [Fm.ok, h1, h2], (by repeat (first | (with_reducible exact Below.refl _ _) | (with_reducible assumption) | (with_reducible refine Below.drew ?_) | (with_reducible refine below_drewN' ?_ _) | (with_reducible refine Below.setCell ?_ (by simp) _) | (with_reducible refine Below.alloc ?_ (by simp) _) | (with_reducible refine Below.trans ?_ (Below.mono (by assumption) (by simp; omega)))))⟩

structure Fr where
  past : Bool
  gov : Bool
  craft : Int
  via : Int
  seq : Int
  data : ByteArray
def Fr.v (f : Fr) : Value := .agg #[.bool f.past, .bool f.gov, .int .i64 f.craft, .int .i64 f.via, .int .i64 f.seq, .string f.data]
def dOk (s : ByteArray) : Bool := decide (1 ≤ s.size) && decide (s.size ≤ 53)
def Fr.ok (x : Fr) : Bool := inR x.craft 1023 && inR x.via 63 && inR x.seq 255 && dOk x.data && (x.past || !x.gov)
theorem dataOk_c (s : ByteArray) (w : World) : Calls Try.prog 59 #[.string s] w fun e w' => e = .returned (.bool (dOk s)) ∧ w = w' := by
  by_cases h : 1 ≤ s.size
  all_goals
    go_enter Try.func59, Try.ntmps59
    go_wp2
    go_ret
    exact ⟨rb (by rw [Bool.eq_iff_iff]; simp [dOk]; omega), rfl⟩
theorem frameOk_c (x : Fr) (w : World) : Calls Try.prog 41 #[x.v] w (Ret w (.bool x.ok)) := by
  obtain ⟨p, g, c, v, s, d⟩ := x
  show Calls Try.prog 41 #[.agg #[.bool p, .bool g, .int .i64 c, .int .i64 v, .int .i64 s, .string d]] w _
  cases h1 : inR c 1023 <;> cases h2 : inR v 63 <;> cases h3 : inR s 255 <;> cases h4 : dOk d <;> cases p <;>
  · go_enter Try.func41, Try.ntmps41
    go_wp2_with (first | (go_at_call 46; refine (within_c _ _ _).mono ?_; rintro e w1 ⟨rfl, rfl⟩) | (go_at_call 59; refine (dataOk_c _ _).mono ?_; rintro e w1 ⟨rfl, rfl⟩))
    go_ret
    exact ⟨by simp [Fr.ok, h1, h2, h3, h4], (by repeat (first | (with_reducible exact Below.refl _ _) | (with_reducible assumption) | (with_reducible refine Below.drew ?_) | (with_reducible refine below_drewN' ?_ _) | (with_reducible refine Below.setCell ?_ (by simp) _) | (with_reducible refine Below.alloc ?_ (by simp) _) | (with_reducible refine Below.trans ?_ (Below.mono (by assumption) (by simp; omega)))))⟩

def Fm.counted (f : Fm) : Fm := { f with ct := (f.ct + 1) % 4 }
theorem counted_c (f : Fm) (w : World) (h0 : 0 ≤ f.ct) (h1 : f.ct ≤ 3) : Calls Try.prog 43 #[f.v] w (Ret w f.counted.v) := by
  obtain ⟨s, wt, ag, c, n⟩ := f
  simp only at h0 h1
  show Calls Try.prog 43 #[.agg #[.bool s, .bool wt, .bool ag, .int .i64 c, .int .i64 n]] w _
  go_enter Try.func43, Try.ntmps43
  go_wp2
  exact bodyPost_ret (v := (Fm.v ⟨s, wt, ag, (c + 1) % 4, n⟩)) (by simp [results, Try.results43, go_sem, Fm.v]) rfl ⟨rfl, (by repeat (first | (with_reducible exact Below.refl _ _) | (with_reducible assumption) | (with_reducible refine Below.drew ?_) | (with_reducible refine below_drewN' ?_ _) | (with_reducible refine Below.setCell ?_ (by simp) _) | (with_reducible refine Below.alloc ?_ (by simp) _) | (with_reducible refine Below.trans ?_ (Below.mono (by assumption) (by simp; omega)))))⟩

end Go.Proofs.Ytcbbebhjddphfaa
