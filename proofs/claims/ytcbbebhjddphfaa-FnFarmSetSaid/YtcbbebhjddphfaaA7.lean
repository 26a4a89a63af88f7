/- A number in one byte; the frame that sets what is next. -/
import Derived.Test.YtcbbebhjddphfaaA6
import Derived.Test.YtcbbebhjddphfaaD5
namespace Go.Proofs.Ytcbbebhjddphfaa
open Go.RowKit
set_option linter.unusedSimpArgs false
set_option linter.unusedVariables false

theorem str1 {w : World} {B : Nat} {x : Int} (hb : w.heap[B]? = some (.cells #[.int .u8 x] 5 (0, 0))) : (convert 22 9 (.slice (some ⟨B, 0, none⟩) 1 1)).run Try.prog w = .ok (.string (strOfNums [x])) w := by
  refine run_convert_bytes_arg w 22 5 Try.underlying22 Try.underlying5 B 0 1 1 [x] rfl (fun i hi => ?_) 9 Try.underlying9
  obtain rfl : i = 0 := by simpa using hi
  rw [blk_cell hb]
  rfl
theorem and255 (n : Int) (h0 : 0 ≤ n) (h1 : n ≤ 255) : bits .and .i64 n 255 % 256 = n := by
  obtain ⟨m, rfl⟩ := Int.eq_ofNat_of_zero_le h0
  have hm : m ≤ 255 := by omega
  have e1 : m % 2 ^ IntKind.i64.bits = m := Nat.mod_eq_of_lt (Nat.lt_of_le_of_lt hm (by decide))
  have e2 : 255 % 2 ^ IntKind.i64.bits = 255 := by decide
  have e3 : m &&& 255 = m := by
    have := Nat.and_two_pow_sub_one_eq_mod m 8
    rw [show (255 : Nat) = 2 ^ 8 - 1 from rfl, this]
    omega
  show bits .and .i64 (m : Int) ((255 : Nat) : Int) % 256 = m
  simp only [bits, BitVec.ofInt_natCast, BitVec.toNat_and, BitVec.toNat_ofNat, e1, e2, e3]
  rw [IntKind.wrap_i64]
  omega
set_option maxHeartbeats 1000000 in
theorem numPut1_c (n : Int) (w : World) (h0 : 0 ≤ n) (h1 : n ≤ 255) : Calls Try.prog 54 #[.int .i64 n, .int .i64 1] w (Ret w (.string (strOfNums [n]))) := by
  have hmk : ∀ w, (Instr.makeSlice 22 (.int .i64 1) (.int .i64 1)).run Try.prog w = .ok (.slice (some ⟨w.heap.size, 0, none⟩) 1 1) (w.alloc (.cells #[.int .u8 0] 5)) := fun _ => by kernel_rfl
  have ha := and255 n h0 h1
  have hq : (n / 256 != 0) = false := by
    have : n / 256 = 0 := by omega
    rw [this]
    rfl
  go_enter Try.func54, Try.ntmps54
  go_wp2_with fail
  go_loopw [0, 6] (fun v0 v6 wr => ∃ x : Int, Below w.heap.size w wr ∧ ((v6 = .int .i64 0 ∧ v0 = .int .i64 n ∧ x = 0) ∨ (v6 = .int .i64 (-1) ∧ (∃ m : Int, v0 = .int .i64 m) ∧ x = n)) ∧ Hid (wr.heap[w.heap.size]? = some (.cells #[.int .u8 x] 5 (0, 0)))) (fun _ v6 _ => (intOf v6 + 1).toNat)
  case atStart => exact ⟨0, (by repeat (first | (with_reducible exact Below.refl _ _) | (with_reducible assumption) | (with_reducible refine Below.drew ?_) | (with_reducible refine below_drewN' ?_ _) | (with_reducible refine Below.setCell ?_ (by first | (simp; done) | (simp; omega) | omega) _) | (with_reducible refine Below.alloc ?_ (by first | (simp; done) | (simp; omega) | omega) _) | (with_reducible refine Below.trans ?_ (Below.mono (by assumption) (by first | (simp; done) | (simp; omega) | omega))))), .inl ⟨rfl, rfl, rfl⟩, Lib.hid (heap_top _ _ rfl)⟩
  case round =>
    obtain ⟨x, hB, hd, hb⟩ := hrel
    rcases hd with ⟨rfl, rfl, rfl⟩ | ⟨rfl, ⟨m, rfl⟩, rfl⟩
    · have j0 := blk_cell hb.out
      have j1 := blk_frozen hb.out
      have hl := (Array.getElem?_eq_some_iff.1 hb.out).1
      go_wp2_with fail
      go_roundw
      case rel => exact ⟨n, hB.setCell (Nat.le_refl _) _, .inr ⟨rfl, ⟨_, rfl⟩, rfl⟩, Lib.hid (blk_put hb.out 0 _)⟩
      case measure => simp [intOf]
    · have hs := str1 hb.out
      go_wp2_with fail
      go_ret
      exact ⟨rfl, hB⟩
set_option maxHeartbeats 1000000 in
theorem l1Put1_c (n : Int) (w : World) (h0 : 0 ≤ n) (h1 : n ≤ 255) : Calls Try.prog 55 #[.int .i64 n, .int .i64 1] w (Ret w (.string (strOfNums [n]))) := by
  have hs := fun W : World => str1 (heap_top W (.cells #[.int .u8 n] 5) rfl)
  have e0 : (strOfNums [n] : ByteArray) ++ (⟨#[]⟩ : ByteArray) = strOfNums [n] := ByteArray.append_empty
  have z1 := strOfNums_size [n]
  have hm : n % 256 = n := by omega
  have hs := hs
  go_enter Try.func55, Try.ntmps55
  go_wp2_with fail
  go_loopw [0, 5, 6] (fun v0 v5 v6 wr => Below w.heap.size w wr ∧ ((v6 = .int .i64 0 ∧ v0 = .int .i64 n ∧ v5 = .string ⟨#[]⟩) ∨ (v6 = .int .i64 1 ∧ (∃ m : Int, v0 = .int .i64 m) ∧ v5 = .string (strOfNums [n])))) (fun _ _ v6 _ => (1 - intOf v6).toNat)
  case atStart => exact ⟨(by repeat (first | (with_reducible exact Below.refl _ _) | (with_reducible assumption) | (with_reducible refine Below.drew ?_) | (with_reducible refine below_drewN' ?_ _) | (with_reducible refine Below.setCell ?_ (by first | (simp; done) | (simp; omega) | omega) _) | (with_reducible refine Below.alloc ?_ (by first | (simp; done) | (simp; omega) | omega) _) | (with_reducible refine Below.trans ?_ (Below.mono (by assumption) (by first | (simp; done) | (simp; omega) | omega))))), .inl ⟨rfl, rfl, rfl⟩⟩
  case round =>
    obtain ⟨hB, hd⟩ := hrel
    rcases hd with ⟨rfl, rfl, rfl⟩ | ⟨rfl, ⟨m, rfl⟩, rfl⟩
    · go_wp2_with fail
      have hw := hB.size
      go_roundw
      case rel => exact ⟨(by repeat (first | (with_reducible exact Below.refl _ _) | (with_reducible assumption) | (with_reducible refine Below.drew ?_) | (with_reducible refine below_drewN' ?_ _) | (with_reducible refine Below.setCell ?_ (by first | (simp; done) | (simp; omega) | omega) _) | (with_reducible refine Below.alloc ?_ (by first | (simp; done) | (simp; omega) | omega) _) | (with_reducible refine Below.trans ?_ (Below.mono (by assumption) (by first | (simp; done) | (simp; omega) | omega))))), .inr ⟨rfl, ⟨_, rfl⟩, by first | rfl | rw [e0]⟩⟩
      case measure => simp [intOf]
    · go_wp2_with fail
      go_ret
      exact ⟨rfl, hB⟩

def DSet (n : Int) : ByteArray := ⟨#[130, 0]⟩ ++ strOfNums [n]
def FSet (c v n : Int) : Fr := if inR n 255 then FGov c v (DSet n) else zFr
set_option maxHeartbeats 2000000 in
theorem farmSet_c (c v n : Int) (w : World) : Calls Try.prog 30 #[.int .i64 c, .int .i64 v, .int .i64 n] w (Ret w (FSet c v n).v) := by
  have hwi := Lib.hid (fun W => within_c n 255 W)
  have hs1 : (strOfNums [n]).size = 1 := strOfNums_size [n]
  cases h1 : inR n 255
  · rw [h1] at hwi
    simp only [FSet, h1, Bool.false_eq_true, if_false, zFr]
    clear h1
    go_enter Try.func30, Try.ntmps30
    go_wp2_with fail
    refine (hwi.out _).mono ?_
    rintro e w1 ⟨rfl, rfl⟩
    go_wp2_with fail
    exact bodyPost_ret (v := .agg #[.bool false, .bool false, .int .i64 0, .int .i64 0, .int .i64 0, .string ⟨#[]⟩]) (by simp [results, Try.results30, go_sem]) rfl ⟨rfl, (by repeat (first | (with_reducible exact Below.refl _ _) | (with_reducible assumption) | (with_reducible refine Below.drew ?_) | (with_reducible refine below_drewN' ?_ _) | (with_reducible refine Below.setCell ?_ (by first | (simp; done) | (simp; omega) | omega) _) | (with_reducible refine Below.alloc ?_ (by first | (simp; done) | (simp; omega) | omega) _) | (with_reducible refine Below.trans ?_ (Below.mono (by assumption) (by first | (simp; done) | (simp; omega) | omega)))))⟩
  · rw [h1] at hwi
    have hn := inR_iff.1 h1
    simp only [FSet, h1, if_true]
    clear h1
    have hnp := Lib.hid (fun W => numPut1_c n W hn.1 hn.2)
    have hg := governs_c c v (DSet n)
    obtain ⟨⟨p, g, cx, vx, sx, dx⟩, hx⟩ : ∃ x, FGov c v (DSet n) = x := ⟨_, rfl⟩
    rw [hx] at hg ⊢
    unfold DSet at hg
    clear hx
    replace hg := Lib.hid hg
    have z1 : ¬ (9223372036854775807 < 2 + (strOfNums [n]).size) := by omega
    go_enter Try.func30, Try.ntmps30
    go_wp2_with fail
    refine (hwi.out _).mono ?_
    rintro e w1 ⟨rfl, rfl⟩
    go_wp2_with fail
    refine (hnp.out _).mono ?_
    rintro e w2 ⟨rfl, hB2⟩
    have hb2 := blk_below (heap_top w (.cells #[.bool false, .bool false, .int .i64 0, .int .i64 0, .int .i64 0, .string ⟨#[]⟩] 31) rfl) hB2
    have hl2 := (Array.getElem?_eq_some_iff.1 hb2).1
    have kb := fun o => blk_cell hb2 o
    have kf := fun o => blk_frozen hb2 o
    replace hb2 := Lib.hid hb2
    clear kb kf
    go_wp2_with fail
    refine (hg.out _).mono ?_
    rintro e w3 ⟨rfl, hB3⟩
    have hb3 := blk_below hb2.out hB3
    have hl3 := (Array.getElem?_eq_some_iff.1 hb3).1
    have kb := fun o => blk_cell hb3 o
    have kf := fun o => blk_frozen hb3 o
    replace hb3 := Lib.hid hb3
    simp only [Fr.v]
    go_wp2_with fail
    have hs2 := hB2.size
    have hs3 := hB3.size
    exact bodyPost_ret (v := .agg #[.bool p, .bool g, .int .i64 cx, .int .i64 vx, .int .i64 sx, .string dx]) (by simp [results, Try.results30, go_sem, hl3, kb]) rfl ⟨rfl, (by repeat (first | (with_reducible exact Below.refl _ _) | (with_reducible assumption) | (with_reducible refine Below.drew ?_) | (with_reducible refine below_drewN' ?_ _) | (with_reducible refine Below.setCell ?_ (by first | (simp; done) | (simp; omega) | omega) _) | (with_reducible refine Below.alloc ?_ (by first | (simp; done) | (simp; omega) | omega) _) | (with_reducible refine Below.trans ?_ (Below.mono (by assumption) (by first | (simp; done) | (simp; omega) | omega)))))⟩
set_option maxHeartbeats 2000000 in
theorem sFarmSet_c (c v n : Int) (w : World) : Calls Try.prog 31 #[.int .i64 c, .int .i64 v, .int .i64 n] w (Ret w (FSet c v n).v) := by
  have hwi := Lib.hid (fun W => l1In0_c n 255 W)
  have hs1 : (strOfNums [n]).size = 1 := strOfNums_size [n]
  cases h1 : inR n 255
  · rw [h1] at hwi
    simp only [FSet, h1, Bool.false_eq_true, if_false, zFr]
    clear h1
    go_enter Try.func31, Try.ntmps31
    go_wp2_with fail
    refine (hwi.out _).mono ?_
    rintro e w1 ⟨rfl, rfl⟩
    go_wp2_with fail
    exact bodyPost_ret (v := .agg #[.bool false, .bool false, .int .i64 0, .int .i64 0, .int .i64 0, .string ⟨#[]⟩]) (by simp [results, Try.results31, go_sem]) rfl ⟨rfl, (by repeat (first | (with_reducible exact Below.refl _ _) | (with_reducible assumption) | (with_reducible refine Below.drew ?_) | (with_reducible refine below_drewN' ?_ _) | (with_reducible refine Below.setCell ?_ (by first | (simp; done) | (simp; omega) | omega) _) | (with_reducible refine Below.alloc ?_ (by first | (simp; done) | (simp; omega) | omega) _) | (with_reducible refine Below.trans ?_ (Below.mono (by assumption) (by first | (simp; done) | (simp; omega) | omega)))))⟩
  · rw [h1] at hwi
    have hn := inR_iff.1 h1
    simp only [FSet, h1, if_true]
    clear h1
    have hnp := Lib.hid (fun W => l1Put1_c n W hn.1 hn.2)
    have hfo := sFrameOk_c ⟨true, true, c, v, 0, DSet n⟩
    have z1 : ¬ (9223372036854775807 < 2 + (strOfNums [n]).size) := by omega
    cases h2 : Fr.ok ⟨true, true, c, v, 0, DSet n⟩
    all_goals
      rw [h2] at hfo
      simp only [FGov, h2, if_true, Bool.false_eq_true, if_false, zFr]
      clear h2
      unfold DSet at hfo
      try unfold DSet
      replace hfo := Lib.hid hfo
      go_enter Try.func31, Try.ntmps31
      go_wp2_with fail
      refine (hwi.out _).mono ?_
      rintro e w1 ⟨rfl, rfl⟩
      go_wp2_with fail
      refine (hnp.out _).mono ?_
      rintro e w2 ⟨rfl, hB2⟩
      have hb2 := blk_below (heap_top w (.cells #[.bool false, .bool false, .int .i64 0, .int .i64 0, .int .i64 0, .string ⟨#[]⟩] 31) rfl) hB2
      have hl2 := (Array.getElem?_eq_some_iff.1 hb2).1
      have kb := fun o => blk_cell hb2 o
      have kf := fun o => blk_frozen hb2 o
      replace hb2 := Lib.hid hb2
      clear kb kf
      go_wp2_with fail
      refine (hfo.out _).mono ?_
      rintro e w3 ⟨rfl, hB3⟩
      have hc3 := blk_below (heap_top w2 (.cells #[.bool true, .bool true, .int .i64 c, .int .i64 v, .int .i64 0, .string (⟨#[130, 0]⟩ ++ strOfNums [n])] 31) rfl) hB3
      have kc := fun o => blk_cell hc3 o
      have hlc := (Array.getElem?_eq_some_iff.1 hc3).1
      clear hc3
      have hb3 := blk_below (heap_up hb2.out _) hB3
      have hl3 := (Array.getElem?_eq_some_iff.1 hb3).1
      have kb := fun o => blk_cell hb3 o
      have kf := fun o => blk_frozen hb3 o
      replace hb3 := Lib.hid hb3
      go_wp2_with fail
      have hs2 := hB2.size
      have hs3 := hB3.size
      have hB23 : Below w.heap.size w w3 := below_then (below_then ((Below.refl _ _).alloc (Nat.le_refl _) _) (by simp) hB2 |>.alloc (by simp at hs2; omega) _) (by simp at hs2; simp; omega) hB3
    · exact bodyPost_ret (v := .agg #[.bool false, .bool false, .int .i64 0, .int .i64 0, .int .i64 0, .string ⟨#[]⟩]) (by simp [results, Try.results31, go_sem, hl3, kb]) rfl ⟨rfl, (by repeat (first | (with_reducible exact Below.refl _ _) | (with_reducible assumption) | (with_reducible refine Below.drew ?_) | (with_reducible refine below_drewN' ?_ _) | (with_reducible refine Below.setCell ?_ (by first | (simp; done) | (simp; omega) | omega) _) | (with_reducible refine Below.alloc ?_ (by first | (simp; done) | (simp; omega) | omega) _) | (with_reducible refine Below.trans ?_ (Below.mono (by assumption) (by first | (simp; done) | (simp; omega) | omega)))))⟩
    · exact bodyPost_ret (v := .agg #[.bool true, .bool true, .int .i64 c, .int .i64 v, .int .i64 0, .string (⟨#[130, 0]⟩ ++ strOfNums [n])]) (by simp [results, Try.results31, go_sem, hl3, kb]) rfl ⟨rfl, (by repeat (first | (with_reducible exact Below.refl _ _) | (with_reducible assumption) | (with_reducible refine Below.drew ?_) | (with_reducible refine below_drewN' ?_ _) | (with_reducible refine Below.setCell ?_ (by first | (simp; done) | (simp; omega) | omega) _) | (with_reducible refine Below.alloc ?_ (by first | (simp; done) | (simp; omega) | omega) _) | (with_reducible refine Below.trans ?_ (Below.mono (by assumption) (by first | (simp; done) | (simp; omega) | omega)))))⟩

end Go.Proofs.Ytcbbebhjddphfaa
