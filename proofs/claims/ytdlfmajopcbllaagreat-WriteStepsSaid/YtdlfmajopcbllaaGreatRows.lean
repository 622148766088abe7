/-
  No cell of these rows narrows 'for every input' (looked for: loops, veiled, ifaces, maps, wideKeys, modest, calm, conditions, laid).
  DERIVED. THE GIVEN ROWS OF THIS SEAT. 5 by the template 'for every input the law returns true; each argument reads behind the call as it read before'; 0 by the template 'total and deterministic' (their statements: YtdlfmajopcbllaaGreatTotals.lean).
  GIVEN WITH THE SEED: the statements are not yours to turn. If you find one false, say at which input.
  Laid BY PROGRAM, IN A SANDBOX (cutbox-rows.mjs): the forced cells as the released guide's own fill.sh prints them over the translation 0df0a4e06f9dde36… (all of the seat's roots in one cut). By AI agents, Wed Nov 11 2026. No macro, syntax, notation, axiom, sorry.
-/
import Derived.Test.YtdlfmajopcbllaaGreatChecked
import GoSem.Claim
import GoSem.ClaimJoined
import GoSem.ClaimMapViews
import Derived.JoinedTies
import Derived.KernelRfl
namespace Go.Proofs.YtdlfmajopcbllaaGreat
/- THE CELL 'sum', in the pinned program and in every row, IS THE sha256 OF THE DUMP (.gsa) THAT YtdlfmajopcbllaaGreatProg.lean LOADS. Nothing in Lean hashes anything: it is a label: what it is worth is what the hold of that sum in a sandbox is worth. -/
noncomputable def Tryz.pinned : Pinned := { name := "ytdlfmajopcbllaagreat", sum := "0df0a4e06f9dde36c428f02f211880c2ea2fc6d3ae3ad2a418688291197eda4b", checked := Tryz.checked }
namespace Rows
def none {H : Type} : Left H := { results := [], args := [] }

/-- 'orangerylaw18.WalkSteps': WHATEVER THE INPUT: true; the input reads as it did. -/
def walkStepsSpec : ChangeSpec := { name := "walkSteps", fn := fun _ => fun
  | [d1, d2, d3, d4, d5, d6] => { results := [.lit (.bool true)], args := [d1, d2, d3, d4, d5, d6] }
  | _ => none }
def walkStepsRow : OpenClaim := { program := "ytdlfmajopcbllaagreat", sum := "0df0a4e06f9dde36c428f02f211880c2ea2fc6d3ae3ad2a418688291197eda4b", func := "orangery/orangerylaw18.WalkSteps", spec := "walkSteps", inPlace := ["slices.overlaps[int]", "internal/bytealg.abigen_runtime_cmpstring"], unfollowed := true, recurses := true, apart := false }
def WalkStepsSaid : Prop := walkStepsRow.holds Tryz.pinned (OpenSpec.ofChange walkStepsSpec)

/-- ITS FALSE NEIGHBOUR: 'it returns false'. Refute it at one input. -/
def walkStepsWrong : ChangeSpec := { name := "walkSteps", fn := fun _ => fun
  | [d1, d2, d3, d4, d5, d6] => { results := [.lit (.bool false)], args := [d1, d2, d3, d4, d5, d6] }
  | _ => none }
def WalkStepsWrongFalsely : Prop := walkStepsRow.holds Tryz.pinned (OpenSpec.ofChange walkStepsWrong)

/-- 'orangerylaw18.WalkHolds': WHATEVER THE INPUT: true; the input reads as it did. -/
def walkHoldsSpec : ChangeSpec := { name := "walkHolds", fn := fun _ => fun
  | [d1, d2, d3, d4, d5, d6] => { results := [.lit (.bool true)], args := [d1, d2, d3, d4, d5, d6] }
  | _ => none }
def walkHoldsRow : OpenClaim := { program := "ytdlfmajopcbllaagreat", sum := "0df0a4e06f9dde36c428f02f211880c2ea2fc6d3ae3ad2a418688291197eda4b", func := "orangery/orangerylaw18.WalkHolds", spec := "walkHolds", inPlace := ["slices.overlaps[int]", "internal/bytealg.abigen_runtime_cmpstring"], unfollowed := true, recurses := true, apart := false }
def WalkHoldsSaid : Prop := walkHoldsRow.holds Tryz.pinned (OpenSpec.ofChange walkHoldsSpec)

/-- ITS FALSE NEIGHBOUR: 'it returns false'. Refute it at one input. -/
def walkHoldsWrong : ChangeSpec := { name := "walkHolds", fn := fun _ => fun
  | [d1, d2, d3, d4, d5, d6] => { results := [.lit (.bool false)], args := [d1, d2, d3, d4, d5, d6] }
  | _ => none }
def WalkHoldsWrongFalsely : Prop := walkHoldsRow.holds Tryz.pinned (OpenSpec.ofChange walkHoldsWrong)

/-- 'orangerylaw21.FlushDue': WHATEVER THE INPUT: true; the input reads as it did. -/
def flushDueSpec : ChangeSpec := { name := "flushDue", fn := fun _ => fun
  | [d1, d2, d3, d4] => { results := [.lit (.bool true)], args := [d1, d2, d3, d4] }
  | _ => none }
def flushDueRow : OpenClaim := { program := "ytdlfmajopcbllaagreat", sum := "0df0a4e06f9dde36c428f02f211880c2ea2fc6d3ae3ad2a418688291197eda4b", func := "orangery/orangerylaw21.FlushDue", spec := "flushDue", inPlace := ["slices.overlaps[int]", "internal/bytealg.abigen_runtime_cmpstring"], unfollowed := true, recurses := true, apart := false }
def FlushDueSaid : Prop := flushDueRow.holds Tryz.pinned (OpenSpec.ofChange flushDueSpec)

/-- ITS FALSE NEIGHBOUR: 'it returns false'. Refute it at one input. -/
def flushDueWrong : ChangeSpec := { name := "flushDue", fn := fun _ => fun
  | [d1, d2, d3, d4] => { results := [.lit (.bool false)], args := [d1, d2, d3, d4] }
  | _ => none }
def FlushDueWrongFalsely : Prop := flushDueRow.holds Tryz.pinned (OpenSpec.ofChange flushDueWrong)

/-- 'orangerylaw21.FlushLight': WHATEVER THE INPUT: true; the input reads as it did. -/
def flushLightSpec : ChangeSpec := { name := "flushLight", fn := fun _ => fun
  | [d1, d2, d3, d4] => { results := [.lit (.bool true)], args := [d1, d2, d3, d4] }
  | _ => none }
def flushLightRow : OpenClaim := { program := "ytdlfmajopcbllaagreat", sum := "0df0a4e06f9dde36c428f02f211880c2ea2fc6d3ae3ad2a418688291197eda4b", func := "orangery/orangerylaw21.FlushLight", spec := "flushLight", inPlace := ["slices.overlaps[int]", "internal/bytealg.abigen_runtime_cmpstring"], unfollowed := true, recurses := true, apart := false }
def FlushLightSaid : Prop := flushLightRow.holds Tryz.pinned (OpenSpec.ofChange flushLightSpec)

/-- ITS FALSE NEIGHBOUR: 'it returns false'. Refute it at one input. -/
def flushLightWrong : ChangeSpec := { name := "flushLight", fn := fun _ => fun
  | [d1, d2, d3, d4] => { results := [.lit (.bool false)], args := [d1, d2, d3, d4] }
  | _ => none }
def FlushLightWrongFalsely : Prop := flushLightRow.holds Tryz.pinned (OpenSpec.ofChange flushLightWrong)

/-- 'orangerylaw20.WriteSteps': WHATEVER THE INPUT: true; the input reads as it did. -/
def writeStepsSpec : ChangeSpec := { name := "writeSteps", fn := fun _ => fun
  | [d1, d2, d3] => { results := [.lit (.bool true)], args := [d1, d2, d3] }
  | _ => none }
def writeStepsRow : OpenClaim := { program := "ytdlfmajopcbllaagreat", sum := "0df0a4e06f9dde36c428f02f211880c2ea2fc6d3ae3ad2a418688291197eda4b", func := "orangery/orangerylaw20.WriteSteps", spec := "writeSteps", inPlace := ["slices.overlaps[int]", "internal/bytealg.abigen_runtime_cmpstring"], unfollowed := true, recurses := true, apart := false }
def WriteStepsSaid : Prop := writeStepsRow.holds Tryz.pinned (OpenSpec.ofChange writeStepsSpec)

/-- ITS FALSE NEIGHBOUR: 'it returns false'. Refute it at one input. -/
def writeStepsWrong : ChangeSpec := { name := "writeSteps", fn := fun _ => fun
  | [d1, d2, d3] => { results := [.lit (.bool false)], args := [d1, d2, d3] }
  | _ => none }
def WriteStepsWrongFalsely : Prop := writeStepsRow.holds Tryz.pinned (OpenSpec.ofChange writeStepsWrong)

/- THE SECOND FORM. 'bulk': how many values and letters a reading holds, each counted each time it is reached (what is shared counts as often as it is met; a slice's spare places count too). A statement '..UptoSaid' is the law's where the arguments, and the package variables that the reading takes, are together of bulk at most 1048576: NARROWER than '..Said'. Prove '..Said' where nothing that the law and all that it calls make is longer than what came in: it says more and counts as full. Else prove '..UptoSaid'. A law counts once. -/
mutual
def uptoBulk {H : Type} : DataW H → Nat
  | .lit (.string bytes) => bytes.length + 1
  | .lit _ => 1
  | .nil => 1
  | .ptr d => uptoBulk d + 1
  | .slice elems spare => uptoBulkAll elems + uptoBulkAll spare + 1
  | .agg parts => uptoBulkAll parts + 1
  | .iface _ d => uptoBulk d + 1
  | .map entries => uptoBulkEntries entries + 1
  | .held _ => 1
def uptoBulkAll {H : Type} : List (DataW H) → Nat
  | [] => 0
  | d :: r => uptoBulk d + uptoBulkAll r
def uptoBulkEntries {H : Type} : List (Lit × DataW H) → Nat
  | [] => 0
  | x :: r => uptoBulkEntry x + uptoBulkEntries r
def uptoBulkEntry {H : Type} : Lit × DataW H → Nat
  | (.string bytes, d) => bytes.length + uptoBulk d + 1
  | (_, d) => uptoBulk d + 1
 end
def uptoSmall : (H : Type) → List (DataW H) → Bool := fun _ ds => decide (uptoBulkAll ds ≤ 1048576)
def OpenSpec.upto (s : _root_.Go.ChangeSpec) : _root_.Go.OpenSpec := { _root_.Go.OpenSpec.ofChange s with cond := some uptoSmall }

/-- 'orangerylaw18.WalkSteps', WHERE WHAT IT READS IS OF BULK AT MOST 1048576: true; the input reads as it did. -/
def walkStepsUptoRow : OpenClaim := { program := "ytdlfmajopcbllaagreat", sum := "0df0a4e06f9dde36c428f02f211880c2ea2fc6d3ae3ad2a418688291197eda4b", func := "orangery/orangerylaw18.WalkSteps", spec := "walkSteps", inPlace := ["slices.overlaps[int]", "internal/bytealg.abigen_runtime_cmpstring"], unfollowed := true, recurses := true, apart := false, narrowed := true }
def WalkStepsUptoSaid : Prop := walkStepsUptoRow.holds Tryz.pinned (OpenSpec.upto walkStepsSpec)

/-- 'orangerylaw18.WalkHolds', WHERE WHAT IT READS IS OF BULK AT MOST 1048576: true; the input reads as it did. -/
def walkHoldsUptoRow : OpenClaim := { program := "ytdlfmajopcbllaagreat", sum := "0df0a4e06f9dde36c428f02f211880c2ea2fc6d3ae3ad2a418688291197eda4b", func := "orangery/orangerylaw18.WalkHolds", spec := "walkHolds", inPlace := ["slices.overlaps[int]", "internal/bytealg.abigen_runtime_cmpstring"], unfollowed := true, recurses := true, apart := false, narrowed := true }
def WalkHoldsUptoSaid : Prop := walkHoldsUptoRow.holds Tryz.pinned (OpenSpec.upto walkHoldsSpec)

/-- 'orangerylaw21.FlushDue', WHERE WHAT IT READS IS OF BULK AT MOST 1048576: true; the input reads as it did. -/
def flushDueUptoRow : OpenClaim := { program := "ytdlfmajopcbllaagreat", sum := "0df0a4e06f9dde36c428f02f211880c2ea2fc6d3ae3ad2a418688291197eda4b", func := "orangery/orangerylaw21.FlushDue", spec := "flushDue", inPlace := ["slices.overlaps[int]", "internal/bytealg.abigen_runtime_cmpstring"], unfollowed := true, recurses := true, apart := false, narrowed := true }
def FlushDueUptoSaid : Prop := flushDueUptoRow.holds Tryz.pinned (OpenSpec.upto flushDueSpec)

/-- 'orangerylaw21.FlushLight', WHERE WHAT IT READS IS OF BULK AT MOST 1048576: true; the input reads as it did. -/
def flushLightUptoRow : OpenClaim := { program := "ytdlfmajopcbllaagreat", sum := "0df0a4e06f9dde36c428f02f211880c2ea2fc6d3ae3ad2a418688291197eda4b", func := "orangery/orangerylaw21.FlushLight", spec := "flushLight", inPlace := ["slices.overlaps[int]", "internal/bytealg.abigen_runtime_cmpstring"], unfollowed := true, recurses := true, apart := false, narrowed := true }
def FlushLightUptoSaid : Prop := flushLightUptoRow.holds Tryz.pinned (OpenSpec.upto flushLightSpec)

/-- 'orangerylaw20.WriteSteps', WHERE WHAT IT READS IS OF BULK AT MOST 1048576: true; the input reads as it did. -/
def writeStepsUptoRow : OpenClaim := { program := "ytdlfmajopcbllaagreat", sum := "0df0a4e06f9dde36c428f02f211880c2ea2fc6d3ae3ad2a418688291197eda4b", func := "orangery/orangerylaw20.WriteSteps", spec := "writeSteps", inPlace := ["slices.overlaps[int]", "internal/bytealg.abigen_runtime_cmpstring"], unfollowed := true, recurses := true, apart := false, narrowed := true }
def WriteStepsUptoSaid : Prop := writeStepsUptoRow.holds Tryz.pinned (OpenSpec.upto writeStepsSpec)

end Rows
end Go.Proofs.YtdlfmajopcbllaaGreat
