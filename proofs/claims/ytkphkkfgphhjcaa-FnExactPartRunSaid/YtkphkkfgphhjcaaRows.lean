/-
  No cell of these rows narrows 'for every input' (looked for: loops, veiled, ifaces, maps, wideKeys, modest, calm, conditions, laid).
  DERIVED. THE GIVEN ROWS OF THIS SEAT. 6 by the template 'for every input the law returns true; each argument reads behind the call as it read before'; 0 by the template 'total and deterministic' (their statements: YtkphkkfgphhjcaaTotals.lean).
  GIVEN WITH THE SEED: the statements are not yours to turn. If you find one false, say at which input.
  Laid BY PROGRAM, IN A SANDBOX (cutbox-rows.mjs): the forced cells as the released guide's own fill.sh prints them over the translation ef06f4299ee49d31… (all of the seat's roots in one cut). By AI agents, Wed Nov 11 2026. No macro, syntax, notation, axiom, sorry.
-/
import Derived.Test.YtkphkkfgphhjcaaChecked
import GoSem.Claim
import GoSem.ClaimJoined
import GoSem.ClaimMapViews
import Derived.JoinedTies
import Derived.KernelRfl
namespace Go.Proofs.Ytkphkkfgphhjcaa
/- THE CELL 'sum', in the pinned program and in every row, IS THE sha256 OF THE DUMP (.gsa) THAT YtkphkkfgphhjcaaProg.lean LOADS. Nothing in Lean hashes anything: it is a label: what it is worth is what the hold of that sum in a sandbox is worth. -/
noncomputable def Try.pinned : Pinned := { name := "ytkphkkfgphhjcaa", sum := "ef06f4299ee49d31eab4f09ecefbdc13b9ea520efbace8a1addb74b1ed5b26ee", checked := Try.checked }
namespace Rows
def none {H : Type} : Left H := { results := [], args := [] }

/-- 'laws.FnPartStep': WHATEVER THE INPUT: true; the input reads as it did. -/
def fnPartStepSpec : ChangeSpec := { name := "fnPartStep", fn := fun _ => fun
  | [d] => { results := [.lit (.bool true)], args := [d] }
  | _ => none }
def fnPartStepRow : OpenClaim := { program := "ytkphkkfgphhjcaa", sum := "ef06f4299ee49d31eab4f09ecefbdc13b9ea520efbace8a1addb74b1ed5b26ee", func := "loop.example/skyway/laws.FnPartStep", spec := "fnPartStep", unfollowed := true, recurses := true, apart := false }
def FnPartStepSaid : Prop := fnPartStepRow.holds Try.pinned (OpenSpec.ofChange fnPartStepSpec)

/-- ITS FALSE NEIGHBOUR: 'it returns false'. Refute it at one input. -/
def fnPartStepWrong : ChangeSpec := { name := "fnPartStep", fn := fun _ => fun
  | [d] => { results := [.lit (.bool false)], args := [d] }
  | _ => none }
def FnPartStepWrongFalsely : Prop := fnPartStepRow.holds Try.pinned (OpenSpec.ofChange fnPartStepWrong)

/-- 'laws.FnPartFail': WHATEVER THE INPUT: true; the input reads as it did. -/
def fnPartFailSpec : ChangeSpec := { name := "fnPartFail", fn := fun _ => fun
  | [d] => { results := [.lit (.bool true)], args := [d] }
  | _ => none }
def fnPartFailRow : OpenClaim := { program := "ytkphkkfgphhjcaa", sum := "ef06f4299ee49d31eab4f09ecefbdc13b9ea520efbace8a1addb74b1ed5b26ee", func := "loop.example/skyway/laws.FnPartFail", spec := "fnPartFail", unfollowed := true, recurses := true, apart := false }
def FnPartFailSaid : Prop := fnPartFailRow.holds Try.pinned (OpenSpec.ofChange fnPartFailSpec)

/-- ITS FALSE NEIGHBOUR: 'it returns false'. Refute it at one input. -/
def fnPartFailWrong : ChangeSpec := { name := "fnPartFail", fn := fun _ => fun
  | [d] => { results := [.lit (.bool false)], args := [d] }
  | _ => none }
def FnPartFailWrongFalsely : Prop := fnPartFailRow.holds Try.pinned (OpenSpec.ofChange fnPartFailWrong)

/-- 'laws.FnPartAlone': WHATEVER THE INPUT: true; the input reads as it did. -/
def fnPartAloneSpec : ChangeSpec := { name := "fnPartAlone", fn := fun _ => fun
  | [d1, d2] => { results := [.lit (.bool true)], args := [d1, d2] }
  | _ => none }
def fnPartAloneRow : OpenClaim := { program := "ytkphkkfgphhjcaa", sum := "ef06f4299ee49d31eab4f09ecefbdc13b9ea520efbace8a1addb74b1ed5b26ee", func := "loop.example/skyway/laws.FnPartAlone", spec := "fnPartAlone", unfollowed := true, recurses := true, apart := false }
def FnPartAloneSaid : Prop := fnPartAloneRow.holds Try.pinned (OpenSpec.ofChange fnPartAloneSpec)

/-- ITS FALSE NEIGHBOUR: 'it returns false'. Refute it at one input. -/
def fnPartAloneWrong : ChangeSpec := { name := "fnPartAlone", fn := fun _ => fun
  | [d1, d2] => { results := [.lit (.bool false)], args := [d1, d2] }
  | _ => none }
def FnPartAloneWrongFalsely : Prop := fnPartAloneRow.holds Try.pinned (OpenSpec.ofChange fnPartAloneWrong)

/-- 'laws.FnPartRun': WHATEVER THE INPUT: true; the input reads as it did. -/
def fnPartRunSpec : ChangeSpec := { name := "fnPartRun", fn := fun _ => fun
  | [d] => { results := [.lit (.bool true)], args := [d] }
  | _ => none }
def fnPartRunRow : OpenClaim := { program := "ytkphkkfgphhjcaa", sum := "ef06f4299ee49d31eab4f09ecefbdc13b9ea520efbace8a1addb74b1ed5b26ee", func := "loop.example/skyway/laws.FnPartRun", spec := "fnPartRun", unfollowed := true, recurses := true, apart := false }
def FnPartRunSaid : Prop := fnPartRunRow.holds Try.pinned (OpenSpec.ofChange fnPartRunSpec)

/-- ITS FALSE NEIGHBOUR: 'it returns false'. Refute it at one input. -/
def fnPartRunWrong : ChangeSpec := { name := "fnPartRun", fn := fun _ => fun
  | [d] => { results := [.lit (.bool false)], args := [d] }
  | _ => none }
def FnPartRunWrongFalsely : Prop := fnPartRunRow.holds Try.pinned (OpenSpec.ofChange fnPartRunWrong)

/-- 'laws.FnExactPartStep': WHATEVER THE INPUT: true; the input reads as it did. -/
def fnExactPartStepSpec : ChangeSpec := { name := "fnExactPartStep", fn := fun _ => fun
  | [d1, d2, d3] => { results := [.lit (.bool true)], args := [d1, d2, d3] }
  | _ => none }
def fnExactPartStepRow : OpenClaim := { program := "ytkphkkfgphhjcaa", sum := "ef06f4299ee49d31eab4f09ecefbdc13b9ea520efbace8a1addb74b1ed5b26ee", func := "loop.example/skyway/laws.FnExactPartStep", spec := "fnExactPartStep", unfollowed := true, recurses := true, apart := false }
def FnExactPartStepSaid : Prop := fnExactPartStepRow.holds Try.pinned (OpenSpec.ofChange fnExactPartStepSpec)

/-- ITS FALSE NEIGHBOUR: 'it returns false'. Refute it at one input. -/
def fnExactPartStepWrong : ChangeSpec := { name := "fnExactPartStep", fn := fun _ => fun
  | [d1, d2, d3] => { results := [.lit (.bool false)], args := [d1, d2, d3] }
  | _ => none }
def FnExactPartStepWrongFalsely : Prop := fnExactPartStepRow.holds Try.pinned (OpenSpec.ofChange fnExactPartStepWrong)

/-- 'laws.FnExactPartRun': WHATEVER THE INPUT: true; the input reads as it did. -/
def fnExactPartRunSpec : ChangeSpec := { name := "fnExactPartRun", fn := fun _ => fun
  | [d1, d2, d3, d4] => { results := [.lit (.bool true)], args := [d1, d2, d3, d4] }
  | _ => none }
def fnExactPartRunRow : OpenClaim := { program := "ytkphkkfgphhjcaa", sum := "ef06f4299ee49d31eab4f09ecefbdc13b9ea520efbace8a1addb74b1ed5b26ee", func := "loop.example/skyway/laws.FnExactPartRun", spec := "fnExactPartRun", unfollowed := true, recurses := true, apart := false }
def FnExactPartRunSaid : Prop := fnExactPartRunRow.holds Try.pinned (OpenSpec.ofChange fnExactPartRunSpec)

/-- ITS FALSE NEIGHBOUR: 'it returns false'. Refute it at one input. -/
def fnExactPartRunWrong : ChangeSpec := { name := "fnExactPartRun", fn := fun _ => fun
  | [d1, d2, d3, d4] => { results := [.lit (.bool false)], args := [d1, d2, d3, d4] }
  | _ => none }
def FnExactPartRunWrongFalsely : Prop := fnExactPartRunRow.holds Try.pinned (OpenSpec.ofChange fnExactPartRunWrong)

/- THE SECOND FORM. 'bulk': how many values and letters a reading holds, each counted each time it is reached (what is shared counts as often as it is met; a slice's spare places count too). A statement '..UptoSaid' is the law's where the arguments, and the package variables that the reading takes, are together of bulk at most 1048576: NARROWER than '..Said'. Prove '..Said' where nothing that the law and all that it calls make is longer than what came in: it says more and counts as full. Else prove '..UptoSaid'. A law counts once. -/
mutual
def uptoBulk {H : Type} : DataW H → Nat
  | .lit (.string bytes) => bytes.length + 1
  | .lit _ => 1
  | .nil => 1
  | .ptr d => uptoBulk d + 1
  | .slice elems spare => uptoBulkAll elems + uptoBulkAll spare + 1
  | .agg parts => uptoBulkAll parts + 1
  | .iface _ d => uptoBulk d + 1
  | .map entries => uptoBulkEntries entries + 1
  | .held _ => 1
def uptoBulkAll {H : Type} : List (DataW H) → Nat
  | [] => 0
  | d :: r => uptoBulk d + uptoBulkAll r
def uptoBulkEntries {H : Type} : List (Lit × DataW H) → Nat
  | [] => 0
  | x :: r => uptoBulkEntry x + uptoBulkEntries r
def uptoBulkEntry {H : Type} : Lit × DataW H → Nat
  | (.string bytes, d) => bytes.length + uptoBulk d + 1
  | (_, d) => uptoBulk d + 1
 end
def uptoSmall : (H : Type) → List (DataW H) → Bool := fun _ ds => decide (uptoBulkAll ds ≤ 1048576)
def OpenSpec.upto (s : _root_.Go.ChangeSpec) : _root_.Go.OpenSpec := { _root_.Go.OpenSpec.ofChange s with cond := some uptoSmall }

/-- 'laws.FnPartStep', WHERE WHAT IT READS IS OF BULK AT MOST 1048576: true; the input reads as it did. -/
def fnPartStepUptoRow : OpenClaim := { program := "ytkphkkfgphhjcaa", sum := "ef06f4299ee49d31eab4f09ecefbdc13b9ea520efbace8a1addb74b1ed5b26ee", func := "loop.example/skyway/laws.FnPartStep", spec := "fnPartStep", unfollowed := true, recurses := true, apart := false, narrowed := true }
def FnPartStepUptoSaid : Prop := fnPartStepUptoRow.holds Try.pinned (OpenSpec.upto fnPartStepSpec)

/-- 'laws.FnPartFail', WHERE WHAT IT READS IS OF BULK AT MOST 1048576: true; the input reads as it did. -/
def fnPartFailUptoRow : OpenClaim := { program := "ytkphkkfgphhjcaa", sum := "ef06f4299ee49d31eab4f09ecefbdc13b9ea520efbace8a1addb74b1ed5b26ee", func := "loop.example/skyway/laws.FnPartFail", spec := "fnPartFail", unfollowed := true, recurses := true, apart := false, narrowed := true }
def FnPartFailUptoSaid : Prop := fnPartFailUptoRow.holds Try.pinned (OpenSpec.upto fnPartFailSpec)

/-- 'laws.FnPartAlone', WHERE WHAT IT READS IS OF BULK AT MOST 1048576: true; the input reads as it did. -/
def fnPartAloneUptoRow : OpenClaim := { program := "ytkphkkfgphhjcaa", sum := "ef06f4299ee49d31eab4f09ecefbdc13b9ea520efbace8a1addb74b1ed5b26ee", func := "loop.example/skyway/laws.FnPartAlone", spec := "fnPartAlone", unfollowed := true, recurses := true, apart := false, narrowed := true }
def FnPartAloneUptoSaid : Prop := fnPartAloneUptoRow.holds Try.pinned (OpenSpec.upto fnPartAloneSpec)

/-- 'laws.FnPartRun', WHERE WHAT IT READS IS OF BULK AT MOST 1048576: true; the input reads as it did. -/
def fnPartRunUptoRow : OpenClaim := { program := "ytkphkkfgphhjcaa", sum := "ef06f4299ee49d31eab4f09ecefbdc13b9ea520efbace8a1addb74b1ed5b26ee", func := "loop.example/skyway/laws.FnPartRun", spec := "fnPartRun", unfollowed := true, recurses := true, apart := false, narrowed := true }
def FnPartRunUptoSaid : Prop := fnPartRunUptoRow.holds Try.pinned (OpenSpec.upto fnPartRunSpec)

/-- 'laws.FnExactPartStep', WHERE WHAT IT READS IS OF BULK AT MOST 1048576: true; the input reads as it did. -/
def fnExactPartStepUptoRow : OpenClaim := { program := "ytkphkkfgphhjcaa", sum := "ef06f4299ee49d31eab4f09ecefbdc13b9ea520efbace8a1addb74b1ed5b26ee", func := "loop.example/skyway/laws.FnExactPartStep", spec := "fnExactPartStep", unfollowed := true, recurses := true, apart := false, narrowed := true }
def FnExactPartStepUptoSaid : Prop := fnExactPartStepUptoRow.holds Try.pinned (OpenSpec.upto fnExactPartStepSpec)

/-- 'laws.FnExactPartRun', WHERE WHAT IT READS IS OF BULK AT MOST 1048576: true; the input reads as it did. -/
def fnExactPartRunUptoRow : OpenClaim := { program := "ytkphkkfgphhjcaa", sum := "ef06f4299ee49d31eab4f09ecefbdc13b9ea520efbace8a1addb74b1ed5b26ee", func := "loop.example/skyway/laws.FnExactPartRun", spec := "fnExactPartRun", unfollowed := true, recurses := true, apart := false, narrowed := true }
def FnExactPartRunUptoSaid : Prop := fnExactPartRunUptoRow.holds Try.pinned (OpenSpec.upto fnExactPartRunSpec)

end Rows
end Go.Proofs.Ytkphkkfgphhjcaa
