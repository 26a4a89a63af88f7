/-
  No cell of these rows narrows 'for every input' (looked for: loops, veiled, ifaces, maps, wideKeys, modest, calm, conditions, laid).
  DERIVED. THE GIVEN ROWS OF THIS SEAT. 9 by the template 'for every input the law returns true; each argument reads behind the call as it read before'; 0 by the template 'total and deterministic' (their statements: YtcbbebhjddphfaaTotals.lean).
  GIVEN WITH THE SEED: the statements are not yours to turn. If you find one false, say at which input.
  Laid BY PROGRAM, IN A SANDBOX (cutbox-rows.mjs): the forced cells as the released guide's own fill.sh prints them over the translation c32737b27bc39b11… (all of the seat's roots in one cut). By AI agents, Wed Nov 11 2026. No macro, syntax, notation, axiom, sorry.
-/
import Derived.Test.YtcbbebhjddphfaaChecked
import GoSem.Claim
import GoSem.ClaimJoined
import GoSem.ClaimMapViews
import Derived.JoinedTies
import Derived.KernelRfl
namespace Go.Proofs.Ytcbbebhjddphfaa
/- THE CELL 'sum', in the pinned program and in every row, IS THE sha256 OF THE DUMP (.gsa) THAT YtcbbebhjddphfaaProg.lean LOADS. Nothing in Lean hashes anything: it is a label: what it is worth is what the hold of that sum in a sandbox is worth. -/
noncomputable def Try.pinned : Pinned := { name := "ytcbbebhjddphfaa", sum := "c32737b27bc39b11b5eecfd930f69d053f162a61e5c98ff08e06ccda90d63d25", checked := Try.checked }
namespace Rows
def none {H : Type} : Left H := { results := [], args := [] }

/-- 'laws.FnFarmRoom': WHATEVER THE INPUT: true; the input reads as it did. -/
def fnFarmRoomSpec : ChangeSpec := { name := "fnFarmRoom", fn := fun _ => fun
  | [d] => { results := [.lit (.bool true)], args := [d] }
  | _ => none }
def fnFarmRoomRow : OpenClaim := { program := "ytcbbebhjddphfaa", sum := "c32737b27bc39b11b5eecfd930f69d053f162a61e5c98ff08e06ccda90d63d25", func := "loop.example/skyway/laws.FnFarmRoom", spec := "fnFarmRoom", unfollowed := true, recurses := true, apart := false }
def FnFarmRoomSaid : Prop := fnFarmRoomRow.holds Try.pinned (OpenSpec.ofChange fnFarmRoomSpec)

/-- ITS FALSE NEIGHBOUR: 'it returns false'. Refute it at one input. -/
def fnFarmRoomWrong : ChangeSpec := { name := "fnFarmRoom", fn := fun _ => fun
  | [d] => { results := [.lit (.bool false)], args := [d] }
  | _ => none }
def FnFarmRoomWrongFalsely : Prop := fnFarmRoomRow.holds Try.pinned (OpenSpec.ofChange fnFarmRoomWrong)

/-- 'laws.FnFarmOpen': WHATEVER THE INPUT: true; the input reads as it did. -/
def fnFarmOpenSpec : ChangeSpec := { name := "fnFarmOpen", fn := fun _ => fun
  | [d1, d2] => { results := [.lit (.bool true)], args := [d1, d2] }
  | _ => none }
def fnFarmOpenRow : OpenClaim := { program := "ytcbbebhjddphfaa", sum := "c32737b27bc39b11b5eecfd930f69d053f162a61e5c98ff08e06ccda90d63d25", func := "loop.example/skyway/laws.FnFarmOpen", spec := "fnFarmOpen", unfollowed := true, recurses := true, apart := false }
def FnFarmOpenSaid : Prop := fnFarmOpenRow.holds Try.pinned (OpenSpec.ofChange fnFarmOpenSpec)

/-- ITS FALSE NEIGHBOUR: 'it returns false'. Refute it at one input. -/
def fnFarmOpenWrong : ChangeSpec := { name := "fnFarmOpen", fn := fun _ => fun
  | [d1, d2] => { results := [.lit (.bool false)], args := [d1, d2] }
  | _ => none }
def FnFarmOpenWrongFalsely : Prop := fnFarmOpenRow.holds Try.pinned (OpenSpec.ofChange fnFarmOpenWrong)

/-- 'laws.FnExactFarmHear': WHATEVER THE INPUT: true; the input reads as it did. -/
def fnExactFarmHearSpec : ChangeSpec := { name := "fnExactFarmHear", fn := fun _ => fun
  | [d1, d2, d3] => { results := [.lit (.bool true)], args := [d1, d2, d3] }
  | _ => none }
def fnExactFarmHearRow : OpenClaim := { program := "ytcbbebhjddphfaa", sum := "c32737b27bc39b11b5eecfd930f69d053f162a61e5c98ff08e06ccda90d63d25", func := "loop.example/skyway/laws.FnExactFarmHear", spec := "fnExactFarmHear", unfollowed := true, recurses := true, apart := false }
def FnExactFarmHearSaid : Prop := fnExactFarmHearRow.holds Try.pinned (OpenSpec.ofChange fnExactFarmHearSpec)

/-- ITS FALSE NEIGHBOUR: 'it returns false'. Refute it at one input. -/
def fnExactFarmHearWrong : ChangeSpec := { name := "fnExactFarmHear", fn := fun _ => fun
  | [d1, d2, d3] => { results := [.lit (.bool false)], args := [d1, d2, d3] }
  | _ => none }
def FnExactFarmHearWrongFalsely : Prop := fnExactFarmHearRow.holds Try.pinned (OpenSpec.ofChange fnExactFarmHearWrong)

/-- 'laws.FnFarmFar': WHATEVER THE INPUT: true; the input reads as it did. -/
def fnFarmFarSpec : ChangeSpec := { name := "fnFarmFar", fn := fun _ => fun
  | [d] => { results := [.lit (.bool true)], args := [d] }
  | _ => none }
def fnFarmFarRow : OpenClaim := { program := "ytcbbebhjddphfaa", sum := "c32737b27bc39b11b5eecfd930f69d053f162a61e5c98ff08e06ccda90d63d25", func := "loop.example/skyway/laws.FnFarmFar", spec := "fnFarmFar", unfollowed := true, recurses := true, apart := false }
def FnFarmFarSaid : Prop := fnFarmFarRow.holds Try.pinned (OpenSpec.ofChange fnFarmFarSpec)

/-- ITS FALSE NEIGHBOUR: 'it returns false'. Refute it at one input. -/
def fnFarmFarWrong : ChangeSpec := { name := "fnFarmFar", fn := fun _ => fun
  | [d] => { results := [.lit (.bool false)], args := [d] }
  | _ => none }
def FnFarmFarWrongFalsely : Prop := fnFarmFarRow.holds Try.pinned (OpenSpec.ofChange fnFarmFarWrong)

/-- 'laws.FnFarmSet': WHATEVER THE INPUT: true; the input reads as it did. -/
def fnFarmSetSpec : ChangeSpec := { name := "fnFarmSet", fn := fun _ => fun
  | [d1, d2] => { results := [.lit (.bool true)], args := [d1, d2] }
  | _ => none }
def fnFarmSetRow : OpenClaim := { program := "ytcbbebhjddphfaa", sum := "c32737b27bc39b11b5eecfd930f69d053f162a61e5c98ff08e06ccda90d63d25", func := "loop.example/skyway/laws.FnFarmSet", spec := "fnFarmSet", unfollowed := true, recurses := true, apart := false }
def FnFarmSetSaid : Prop := fnFarmSetRow.holds Try.pinned (OpenSpec.ofChange fnFarmSetSpec)

/-- ITS FALSE NEIGHBOUR: 'it returns false'. Refute it at one input. -/
def fnFarmSetWrong : ChangeSpec := { name := "fnFarmSet", fn := fun _ => fun
  | [d1, d2] => { results := [.lit (.bool false)], args := [d1, d2] }
  | _ => none }
def FnFarmSetWrongFalsely : Prop := fnFarmSetRow.holds Try.pinned (OpenSpec.ofChange fnFarmSetWrong)

/-- 'laws.FnFarmOnce': WHATEVER THE INPUT: true; the input reads as it did. -/
def fnFarmOnceSpec : ChangeSpec := { name := "fnFarmOnce", fn := fun _ => fun
  | [d] => { results := [.lit (.bool true)], args := [d] }
  | _ => none }
def fnFarmOnceRow : OpenClaim := { program := "ytcbbebhjddphfaa", sum := "c32737b27bc39b11b5eecfd930f69d053f162a61e5c98ff08e06ccda90d63d25", func := "loop.example/skyway/laws.FnFarmOnce", spec := "fnFarmOnce", unfollowed := true, recurses := true, apart := false }
def FnFarmOnceSaid : Prop := fnFarmOnceRow.holds Try.pinned (OpenSpec.ofChange fnFarmOnceSpec)

/-- ITS FALSE NEIGHBOUR: 'it returns false'. Refute it at one input. -/
def fnFarmOnceWrong : ChangeSpec := { name := "fnFarmOnce", fn := fun _ => fun
  | [d] => { results := [.lit (.bool false)], args := [d] }
  | _ => none }
def FnFarmOnceWrongFalsely : Prop := fnFarmOnceRow.holds Try.pinned (OpenSpec.ofChange fnFarmOnceWrong)

/-- 'laws.FnFarmOrder': WHATEVER THE INPUT: true; the input reads as it did. -/
def fnFarmOrderSpec : ChangeSpec := { name := "fnFarmOrder", fn := fun _ => fun
  | [d] => { results := [.lit (.bool true)], args := [d] }
  | _ => none }
def fnFarmOrderRow : OpenClaim := { program := "ytcbbebhjddphfaa", sum := "c32737b27bc39b11b5eecfd930f69d053f162a61e5c98ff08e06ccda90d63d25", func := "loop.example/skyway/laws.FnFarmOrder", spec := "fnFarmOrder", unfollowed := true, recurses := true, apart := false }
def FnFarmOrderSaid : Prop := fnFarmOrderRow.holds Try.pinned (OpenSpec.ofChange fnFarmOrderSpec)

/-- ITS FALSE NEIGHBOUR: 'it returns false'. Refute it at one input. -/
def fnFarmOrderWrong : ChangeSpec := { name := "fnFarmOrder", fn := fun _ => fun
  | [d] => { results := [.lit (.bool false)], args := [d] }
  | _ => none }
def FnFarmOrderWrongFalsely : Prop := fnFarmOrderRow.holds Try.pinned (OpenSpec.ofChange fnFarmOrderWrong)

/-- 'laws.FnFarmPast': WHATEVER THE INPUT: true; the input reads as it did. -/
def fnFarmPastSpec : ChangeSpec := { name := "fnFarmPast", fn := fun _ => fun
  | [d] => { results := [.lit (.bool true)], args := [d] }
  | _ => none }
def fnFarmPastRow : OpenClaim := { program := "ytcbbebhjddphfaa", sum := "c32737b27bc39b11b5eecfd930f69d053f162a61e5c98ff08e06ccda90d63d25", func := "loop.example/skyway/laws.FnFarmPast", spec := "fnFarmPast", unfollowed := true, recurses := true, apart := false }
def FnFarmPastSaid : Prop := fnFarmPastRow.holds Try.pinned (OpenSpec.ofChange fnFarmPastSpec)

/-- ITS FALSE NEIGHBOUR: 'it returns false'. Refute it at one input. -/
def fnFarmPastWrong : ChangeSpec := { name := "fnFarmPast", fn := fun _ => fun
  | [d] => { results := [.lit (.bool false)], args := [d] }
  | _ => none }
def FnFarmPastWrongFalsely : Prop := fnFarmPastRow.holds Try.pinned (OpenSpec.ofChange fnFarmPastWrong)

/-- 'laws.FnFopBoth': WHATEVER THE INPUT: true; the input reads as it did. -/
def fnFopBothSpec : ChangeSpec := { name := "fnFopBoth", fn := fun _ => fun
  | [d1, d2] => { results := [.lit (.bool true)], args := [d1, d2] }
  | _ => none }
def fnFopBothRow : OpenClaim := { program := "ytcbbebhjddphfaa", sum := "c32737b27bc39b11b5eecfd930f69d053f162a61e5c98ff08e06ccda90d63d25", func := "loop.example/skyway/laws.FnFopBoth", spec := "fnFopBoth", unfollowed := true, recurses := true, apart := false }
def FnFopBothSaid : Prop := fnFopBothRow.holds Try.pinned (OpenSpec.ofChange fnFopBothSpec)

/-- ITS FALSE NEIGHBOUR: 'it returns false'. Refute it at one input. -/
def fnFopBothWrong : ChangeSpec := { name := "fnFopBoth", fn := fun _ => fun
  | [d1, d2] => { results := [.lit (.bool false)], args := [d1, d2] }
  | _ => none }
def FnFopBothWrongFalsely : Prop := fnFopBothRow.holds Try.pinned (OpenSpec.ofChange fnFopBothWrong)

/- THE SECOND FORM. 'bulk': how many values and letters a reading holds, each counted each time it is reached (what is shared counts as often as it is met; a slice's spare places count too). A statement '..UptoSaid' is the law's where the arguments, and the package variables that the reading takes, are together of bulk at most 1048576: NARROWER than '..Said'. Prove '..Said' where nothing that the law and all that it calls make is longer than what came in: it says more and counts as full. Else prove '..UptoSaid'. A law counts once. -/
mutual
def uptoBulk {H : Type} : DataW H → Nat
  | .lit (.string bytes) => bytes.length + 1
  | .lit _ => 1
  | .nil => 1
  | .ptr d => uptoBulk d + 1
  | .slice elems spare => uptoBulkAll elems + uptoBulkAll spare + 1
  | .agg parts => uptoBulkAll parts + 1
  | .iface _ d => uptoBulk d + 1
  | .map entries => uptoBulkEntries entries + 1
  | .held _ => 1
def uptoBulkAll {H : Type} : List (DataW H) → Nat
  | [] => 0
  | d :: r => uptoBulk d + uptoBulkAll r
def uptoBulkEntries {H : Type} : List (Lit × DataW H) → Nat
  | [] => 0
  | x :: r => uptoBulkEntry x + uptoBulkEntries r
def uptoBulkEntry {H : Type} : Lit × DataW H → Nat
  | (.string bytes, d) => bytes.length + uptoBulk d + 1
  | (_, d) => uptoBulk d + 1
 end
def uptoSmall : (H : Type) → List (DataW H) → Bool := fun _ ds => decide (uptoBulkAll ds ≤ 1048576)
def OpenSpec.upto (s : _root_.Go.ChangeSpec) : _root_.Go.OpenSpec := { _root_.Go.OpenSpec.ofChange s with cond := some uptoSmall }

/-- 'laws.FnFarmRoom', WHERE WHAT IT READS IS OF BULK AT MOST 1048576: true; the input reads as it did. -/
def fnFarmRoomUptoRow : OpenClaim := { program := "ytcbbebhjddphfaa", sum := "c32737b27bc39b11b5eecfd930f69d053f162a61e5c98ff08e06ccda90d63d25", func := "loop.example/skyway/laws.FnFarmRoom", spec := "fnFarmRoom", unfollowed := true, recurses := true, apart := false, narrowed := true }
def FnFarmRoomUptoSaid : Prop := fnFarmRoomUptoRow.holds Try.pinned (OpenSpec.upto fnFarmRoomSpec)

/-- 'laws.FnFarmOpen', WHERE WHAT IT READS IS OF BULK AT MOST 1048576: true; the input reads as it did. -/
def fnFarmOpenUptoRow : OpenClaim := { program := "ytcbbebhjddphfaa", sum := "c32737b27bc39b11b5eecfd930f69d053f162a61e5c98ff08e06ccda90d63d25", func := "loop.example/skyway/laws.FnFarmOpen", spec := "fnFarmOpen", unfollowed := true, recurses := true, apart := false, narrowed := true }
def FnFarmOpenUptoSaid : Prop := fnFarmOpenUptoRow.holds Try.pinned (OpenSpec.upto fnFarmOpenSpec)

/-- 'laws.FnExactFarmHear', WHERE WHAT IT READS IS OF BULK AT MOST 1048576: true; the input reads as it did. -/
def fnExactFarmHearUptoRow : OpenClaim := { program := "ytcbbebhjddphfaa", sum := "c32737b27bc39b11b5eecfd930f69d053f162a61e5c98ff08e06ccda90d63d25", func := "loop.example/skyway/laws.FnExactFarmHear", spec := "fnExactFarmHear", unfollowed := true, recurses := true, apart := false, narrowed := true }
def FnExactFarmHearUptoSaid : Prop := fnExactFarmHearUptoRow.holds Try.pinned (OpenSpec.upto fnExactFarmHearSpec)

/-- 'laws.FnFarmFar', WHERE WHAT IT READS IS OF BULK AT MOST 1048576: true; the input reads as it did. -/
def fnFarmFarUptoRow : OpenClaim := { program := "ytcbbebhjddphfaa", sum := "c32737b27bc39b11b5eecfd930f69d053f162a61e5c98ff08e06ccda90d63d25", func := "loop.example/skyway/laws.FnFarmFar", spec := "fnFarmFar", unfollowed := true, recurses := true, apart := false, narrowed := true }
def FnFarmFarUptoSaid : Prop := fnFarmFarUptoRow.holds Try.pinned (OpenSpec.upto fnFarmFarSpec)

/-- 'laws.FnFarmSet', WHERE WHAT IT READS IS OF BULK AT MOST 1048576: true; the input reads as it did. -/
def fnFarmSetUptoRow : OpenClaim := { program := "ytcbbebhjddphfaa", sum := "c32737b27bc39b11b5eecfd930f69d053f162a61e5c98ff08e06ccda90d63d25", func := "loop.example/skyway/laws.FnFarmSet", spec := "fnFarmSet", unfollowed := true, recurses := true, apart := false, narrowed := true }
def FnFarmSetUptoSaid : Prop := fnFarmSetUptoRow.holds Try.pinned (OpenSpec.upto fnFarmSetSpec)

/-- 'laws.FnFarmOnce', WHERE WHAT IT READS IS OF BULK AT MOST 1048576: true; the input reads as it did. -/
def fnFarmOnceUptoRow : OpenClaim := { program := "ytcbbebhjddphfaa", sum := "c32737b27bc39b11b5eecfd930f69d053f162a61e5c98ff08e06ccda90d63d25", func := "loop.example/skyway/laws.FnFarmOnce", spec := "fnFarmOnce", unfollowed := true, recurses := true, apart := false, narrowed := true }
def FnFarmOnceUptoSaid : Prop := fnFarmOnceUptoRow.holds Try.pinned (OpenSpec.upto fnFarmOnceSpec)

/-- 'laws.FnFarmOrder', WHERE WHAT IT READS IS OF BULK AT MOST 1048576: true; the input reads as it did. -/
def fnFarmOrderUptoRow : OpenClaim := { program := "ytcbbebhjddphfaa", sum := "c32737b27bc39b11b5eecfd930f69d053f162a61e5c98ff08e06ccda90d63d25", func := "loop.example/skyway/laws.FnFarmOrder", spec := "fnFarmOrder", unfollowed := true, recurses := true, apart := false, narrowed := true }
def FnFarmOrderUptoSaid : Prop := fnFarmOrderUptoRow.holds Try.pinned (OpenSpec.upto fnFarmOrderSpec)

/-- 'laws.FnFarmPast', WHERE WHAT IT READS IS OF BULK AT MOST 1048576: true; the input reads as it did. -/
def fnFarmPastUptoRow : OpenClaim := { program := "ytcbbebhjddphfaa", sum := "c32737b27bc39b11b5eecfd930f69d053f162a61e5c98ff08e06ccda90d63d25", func := "loop.example/skyway/laws.FnFarmPast", spec := "fnFarmPast", unfollowed := true, recurses := true, apart := false, narrowed := true }
def FnFarmPastUptoSaid : Prop := fnFarmPastUptoRow.holds Try.pinned (OpenSpec.upto fnFarmPastSpec)

/-- 'laws.FnFopBoth', WHERE WHAT IT READS IS OF BULK AT MOST 1048576: true; the input reads as it did. -/
def fnFopBothUptoRow : OpenClaim := { program := "ytcbbebhjddphfaa", sum := "c32737b27bc39b11b5eecfd930f69d053f162a61e5c98ff08e06ccda90d63d25", func := "loop.example/skyway/laws.FnFopBoth", spec := "fnFopBoth", unfollowed := true, recurses := true, apart := false, narrowed := true }
def FnFopBothUptoSaid : Prop := fnFopBothUptoRow.holds Try.pinned (OpenSpec.upto fnFopBothSpec)

end Rows
end Go.Proofs.Ytcbbebhjddphfaa
