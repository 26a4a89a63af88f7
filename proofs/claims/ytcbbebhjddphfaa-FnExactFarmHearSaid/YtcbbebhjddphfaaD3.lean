/- What draws: of a code, how a farm stands; a craft and a way. -/
import Derived.Test.YtcbbebhjddphfaaD2
namespace Go.Proofs.Ytcbbebhjddphfaa
open Go.RowKit
set_option linter.unusedSimpArgs false
set_option linter.unusedVariables false

/-- A slice of bytes that came in. -/
def Code_ (w : World) (A : Option Addr) (n c : Nat) : Prop := n ≤ c ∧ (c ≤ 9223372036854775807 ∧ n ≤ 140737488351232) ∧ ∀ j, j < n → ∃ ad x, A = some ad ∧ w.cell? (ad.add j) = some (.int .u8 x) ∧ 0 ≤ x ∧ x ≤ 255
theorem Code_.below {w W : World} {A : Option Addr} {n c : Nat} (h : Code_ w A n c) (hb : Below w.heap.size w W) : Code_ W A n c :=
  ⟨h.1, h.2.1, fun j hj => by
    obtain ⟨ad, x, h1, h2, h3⟩ := h.2.2 j hj
    exact ⟨ad, x, h1, (hb.cell (World.block_lt_of_cell? w _ h2)).trans h2, h3⟩⟩
/-- What a draw of a code leaves. -/
def Dc (w : World) (Q : Value → Prop) (e : Ending) (w' : World) : Prop := ∃ v, e = .returned v ∧ Q v ∧ Below w.heap.size w w'
set_option maxHeartbeats 1000000 in
theorem DrawFarmRoom_d (w : World) (A : Option Addr) (n c : Nat) (h : Code_ w A n c) : Calls Try.prog 12 #[.slice A n c] w (Dc w IsFm) := by
  have hC := Lib.hid (h.below ((Below.refl _ _).alloc (Nat.le_refl _) (.cells #[.bool false, .bool false, .bool false, .int .i64 0, .int .i64 0] 24)))
  have ob0 := Lib.hid (heap_top w (.cells #[.bool false, .bool false, .bool false, .int .i64 0, .int .i64 0] 24) rfl)
  clear h
  go_enter Try.func12, Try.ntmps12
  go_wp2_with fail
  refine (open_c _ A n c hC.out.2.2 hC.out.1 hC.out.2.1.1).mono ?_
  rintro e w1 ⟨g, rfl, hR1, hB1⟩
  have hB1' : Below w.heap.size w w1 := below_then ((Below.refl _ _).alloc (Nat.le_refl _) _) (by simp) hB1
  have ob1 := Lib.hid (blk_below ob0.out hB1)
  go_wp2_with fail
  refine (anyFarm_d _ _ g 0 hR1 (by omega) (by omega)).mono ?_
  rintro e w2 ⟨v2, q2, rfl, ⟨⟨s, wt, ag, ct, nx⟩, rfl⟩, hq2, hq2', hR2, hK2⟩
  have hge := hR2.ge
  have hs := hB1'.size
  have ob2 := hK2.blk ob1.out (by simp at hge; omega)
  have hB2 : Below w.heap.size w w2 := below_then ((Below.refl _ _).alloc (Nat.le_refl _) _) (by simp) hR2.bel
  have hlt : w.heap.size < w2.heap.size := (Array.getElem?_eq_some_iff.1 ob2).1
  clear hK2
  simp only [Fm.v]
  have kb := fun o => blk_cell ob2 o
  have kf := fun o => blk_frozen ob2 o
  clear ob2
  go_wp2_with fail
  exact bodyPost_ret (v := .agg #[.bool _, .bool _, .bool _, .int .i64 _, .int .i64 _]) (by simp [results, Try.results12, go_sem, kb, hlt]; exact ⟨rfl, rfl, rfl, rfl, rfl⟩) rfl ⟨_, rfl, ⟨⟨_, _, _, _, _⟩, rfl⟩, (by repeat (first | (with_reducible exact Below.refl _ _) | (with_reducible assumption) | (with_reducible refine Below.drew ?_) | (with_reducible refine below_drewN' ?_ _) | (with_reducible refine Below.setCell ?_ (by first | (simp; done) | (simp; omega) | omega) _) | (with_reducible refine Below.alloc ?_ (by first | (simp; done) | (simp; omega) | omega) _) | (with_reducible refine Below.trans ?_ (Below.mono (by assumption) (by first | (simp; done) | (simp; omega) | omega)))))⟩
set_option maxHeartbeats 1000000 in
theorem DrawFarmOk_d (w : World) (A : Option Addr) (n c : Nat) (h : Code_ w A n c) : Calls Try.prog 19 #[.slice A n c] w (Dc w IsFm) := by
  have hC := Lib.hid (h.below ((Below.refl _ _).alloc (Nat.le_refl _) (.cells #[.bool false, .bool false, .bool false, .int .i64 0, .int .i64 0] 24)))
  have ob0 := Lib.hid (heap_top w (.cells #[.bool false, .bool false, .bool false, .int .i64 0, .int .i64 0] 24) rfl)
  clear h
  go_enter Try.func19, Try.ntmps19
  go_wp2_with fail
  refine (open_c _ A n c hC.out.2.2 hC.out.1 hC.out.2.1.1).mono ?_
  rintro e w1 ⟨g, rfl, hR1, hB1⟩
  have hB1' : Below w.heap.size w w1 := below_then ((Below.refl _ _).alloc (Nat.le_refl _) _) (by simp) hB1
  have ob1 := Lib.hid (blk_below ob0.out hB1)
  go_wp2_with fail
  refine (anyFarm_d _ _ g 0 hR1 (by omega) (by omega)).mono ?_
  rintro e w2 ⟨v2, q2, rfl, ⟨⟨s, wt, ag, ct, nx⟩, rfl⟩, hq2, hq2', hR2, hK2⟩
  have hge := hR2.ge
  have hs := hB1'.size
  have ob2 := hK2.blk ob1.out (by simp at hge; omega)
  have hB2 : Below w.heap.size w w2 := below_then ((Below.refl _ _).alloc (Nat.le_refl _) _) (by simp) hR2.bel
  have hlt : w.heap.size < w2.heap.size := (Array.getElem?_eq_some_iff.1 ob2).1
  clear hK2
  simp only [Fm.v]
  have kb := fun o => blk_cell ob2 o
  have kf := fun o => blk_frozen ob2 o
  clear ob2
  go_wp2_with fail
  exact bodyPost_ret (v := .agg #[.bool _, .bool _, .bool _, .int .i64 _, .int .i64 _]) (by simp [results, Try.results19, go_sem, kb, hlt]; exact ⟨rfl, rfl, rfl, rfl, rfl⟩) rfl ⟨_, rfl, ⟨⟨_, _, _, _, _⟩, rfl⟩, (by repeat (first | (with_reducible exact Below.refl _ _) | (with_reducible assumption) | (with_reducible refine Below.drew ?_) | (with_reducible refine below_drewN' ?_ _) | (with_reducible refine Below.setCell ?_ (by first | (simp; done) | (simp; omega) | omega) _) | (with_reducible refine Below.alloc ?_ (by first | (simp; done) | (simp; omega) | omega) _) | (with_reducible refine Below.trans ?_ (Below.mono (by assumption) (by first | (simp; done) | (simp; omega) | omega)))))⟩

end Go.Proofs.Ytcbbebhjddphfaa
