/-
  No cell of these rows narrows 'for every input' (looked for: loops, veiled, ifaces, maps, wideKeys, modest, calm, conditions, laid).
  DERIVED. THE GIVEN ROWS OF THIS SEAT. 11 by the template 'for every input the law returns true; each argument reads behind the call as it read before'; 0 by the template 'total and deterministic' (their statements: YtcimbpdkejgnlaaGreatTotals.lean).
  GIVEN WITH THE SEED: the statements are not yours to turn. If you find one false, say at which input.
  Laid BY PROGRAM, IN A SANDBOX (cutbox-rows.mjs): the forced cells as the released guide's own fill.sh prints them over the translation 761ad3b3e000ebaf… (all of the seat's roots in one cut). By AI agents, Wed Nov 11 2026. No macro, syntax, notation, axiom, sorry.
-/
import Derived.Test.YtcimbpdkejgnlaaGreatChecked
import GoSem.Claim
import GoSem.ClaimJoined
import GoSem.ClaimMapViews
import Derived.JoinedTies
import Derived.KernelRfl
namespace Go.Proofs.YtcimbpdkejgnlaaGreat
/- THE CELL 'sum', in the pinned program and in every row, IS THE sha256 OF THE DUMP (.gsa) THAT YtcimbpdkejgnlaaGreatProg.lean LOADS. Nothing in Lean hashes anything: it is a label: what it is worth is what the hold of that sum in a sandbox is worth. -/
noncomputable def Tryz.pinned : Pinned := { name := "ytcimbpdkejgnlaagreat", sum := "761ad3b3e000ebaff18fa225ceda382b0d4206632b8c711fdb89ae07f4bf184d", checked := Tryz.checked }
namespace Rows
def none {H : Type} : Left H := { results := [], args := [] }

/-- 'orangerylaw17.HallSets': WHATEVER THE INPUT: true; the input reads as it did. -/
def hallSetsSpec : ChangeSpec := { name := "hallSets", fn := fun _ => fun
  | [d1, d2, d3, d4] => { results := [.lit (.bool true)], args := [d1, d2, d3, d4] }
  | _ => none }
def hallSetsRow : OpenClaim := { program := "ytcimbpdkejgnlaagreat", sum := "761ad3b3e000ebaff18fa225ceda382b0d4206632b8c711fdb89ae07f4bf184d", func := "orangery/orangerylaw17.HallSets", spec := "hallSets", inPlace := ["slices.overlaps[int]"], unfollowed := true, recurses := true, apart := false }
def HallSetsSaid : Prop := hallSetsRow.holds Tryz.pinned (OpenSpec.ofChange hallSetsSpec)

/-- ITS FALSE NEIGHBOUR: 'it returns false'. Refute it at one input. -/
def hallSetsWrong : ChangeSpec := { name := "hallSets", fn := fun _ => fun
  | [d1, d2, d3, d4] => { results := [.lit (.bool false)], args := [d1, d2, d3, d4] }
  | _ => none }
def HallSetsWrongFalsely : Prop := hallSetsRow.holds Tryz.pinned (OpenSpec.ofChange hallSetsWrong)

/-- 'orangerylaw18.WalkSteps': WHATEVER THE INPUT: true; the input reads as it did. -/
def walkStepsSpec : ChangeSpec := { name := "walkSteps", fn := fun _ => fun
  | [d1, d2, d3, d4, d5, d6] => { results := [.lit (.bool true)], args := [d1, d2, d3, d4, d5, d6] }
  | _ => none }
def walkStepsRow : OpenClaim := { program := "ytcimbpdkejgnlaagreat", sum := "761ad3b3e000ebaff18fa225ceda382b0d4206632b8c711fdb89ae07f4bf184d", func := "orangery/orangerylaw18.WalkSteps", spec := "walkSteps", inPlace := ["slices.overlaps[int]", "internal/bytealg.abigen_runtime_cmpstring"], unfollowed := true, recurses := true, apart := false }
def WalkStepsSaid : Prop := walkStepsRow.holds Tryz.pinned (OpenSpec.ofChange walkStepsSpec)

/-- ITS FALSE NEIGHBOUR: 'it returns false'. Refute it at one input. -/
def walkStepsWrong : ChangeSpec := { name := "walkSteps", fn := fun _ => fun
  | [d1, d2, d3, d4, d5, d6] => { results := [.lit (.bool false)], args := [d1, d2, d3, d4, d5, d6] }
  | _ => none }
def WalkStepsWrongFalsely : Prop := walkStepsRow.holds Tryz.pinned (OpenSpec.ofChange walkStepsWrong)

/-- 'orangerylaw26.ViewWays': WHATEVER THE INPUT: true; the input reads as it did. -/
def viewWaysSpec : ChangeSpec := { name := "viewWays", fn := fun _ => fun
  | [d] => { results := [.lit (.bool true)], args := [d] }
  | _ => none }
def viewWaysRow : OpenClaim := { program := "ytcimbpdkejgnlaagreat", sum := "761ad3b3e000ebaff18fa225ceda382b0d4206632b8c711fdb89ae07f4bf184d", func := "orangery/orangerylaw26.ViewWays", spec := "viewWays", inPlace := ["slices.overlaps[int]", "internal/bytealg.abigen_runtime_cmpstring"], unfollowed := true, recurses := true, apart := false }
def ViewWaysSaid : Prop := viewWaysRow.holds Tryz.pinned (OpenSpec.ofChange viewWaysSpec)

/-- ITS FALSE NEIGHBOUR: 'it returns false'. Refute it at one input. -/
def viewWaysWrong : ChangeSpec := { name := "viewWays", fn := fun _ => fun
  | [d] => { results := [.lit (.bool false)], args := [d] }
  | _ => none }
def ViewWaysWrongFalsely : Prop := viewWaysRow.holds Tryz.pinned (OpenSpec.ofChange viewWaysWrong)

/-- 'orangerylaw19.RoomFull': WHATEVER THE INPUT: true; the input reads as it did. -/
def roomFullSpec : ChangeSpec := { name := "roomFull", fn := fun _ => fun
  | [d1, d2] => { results := [.lit (.bool true)], args := [d1, d2] }
  | _ => none }
def roomFullRow : OpenClaim := { program := "ytcimbpdkejgnlaagreat", sum := "761ad3b3e000ebaff18fa225ceda382b0d4206632b8c711fdb89ae07f4bf184d", func := "orangery/orangerylaw19.RoomFull", spec := "roomFull", inPlace := ["slices.overlaps[int]", "internal/bytealg.abigen_runtime_cmpstring"], unfollowed := true, recurses := true, apart := false }
def RoomFullSaid : Prop := roomFullRow.holds Tryz.pinned (OpenSpec.ofChange roomFullSpec)

/-- ITS FALSE NEIGHBOUR: 'it returns false'. Refute it at one input. -/
def roomFullWrong : ChangeSpec := { name := "roomFull", fn := fun _ => fun
  | [d1, d2] => { results := [.lit (.bool false)], args := [d1, d2] }
  | _ => none }
def RoomFullWrongFalsely : Prop := roomFullRow.holds Tryz.pinned (OpenSpec.ofChange roomFullWrong)

/-- 'orangerylaw20.WriteOrder': WHATEVER THE INPUT: true; the input reads as it did. -/
def writeOrderSpec : ChangeSpec := { name := "writeOrder", fn := fun _ => fun
  | [d1, d2] => { results := [.lit (.bool true)], args := [d1, d2] }
  | _ => none }
def writeOrderRow : OpenClaim := { program := "ytcimbpdkejgnlaagreat", sum := "761ad3b3e000ebaff18fa225ceda382b0d4206632b8c711fdb89ae07f4bf184d", func := "orangery/orangerylaw20.WriteOrder", spec := "writeOrder", inPlace := ["slices.overlaps[int]", "internal/bytealg.abigen_runtime_cmpstring"], unfollowed := true, recurses := true, apart := false }
def WriteOrderSaid : Prop := writeOrderRow.holds Tryz.pinned (OpenSpec.ofChange writeOrderSpec)

/-- ITS FALSE NEIGHBOUR: 'it returns false'. Refute it at one input. -/
def writeOrderWrong : ChangeSpec := { name := "writeOrder", fn := fun _ => fun
  | [d1, d2] => { results := [.lit (.bool false)], args := [d1, d2] }
  | _ => none }
def WriteOrderWrongFalsely : Prop := writeOrderRow.holds Tryz.pinned (OpenSpec.ofChange writeOrderWrong)

/-- 'orangerylaw21.FlushDue': WHATEVER THE INPUT: true; the input reads as it did. -/
def flushDueSpec : ChangeSpec := { name := "flushDue", fn := fun _ => fun
  | [d1, d2, d3, d4] => { results := [.lit (.bool true)], args := [d1, d2, d3, d4] }
  | _ => none }
def flushDueRow : OpenClaim := { program := "ytcimbpdkejgnlaagreat", sum := "761ad3b3e000ebaff18fa225ceda382b0d4206632b8c711fdb89ae07f4bf184d", func := "orangery/orangerylaw21.FlushDue", spec := "flushDue", inPlace := ["slices.overlaps[int]", "internal/bytealg.abigen_runtime_cmpstring"], unfollowed := true, recurses := true, apart := false }
def FlushDueSaid : Prop := flushDueRow.holds Tryz.pinned (OpenSpec.ofChange flushDueSpec)

/-- ITS FALSE NEIGHBOUR: 'it returns false'. Refute it at one input. -/
def flushDueWrong : ChangeSpec := { name := "flushDue", fn := fun _ => fun
  | [d1, d2, d3, d4] => { results := [.lit (.bool false)], args := [d1, d2, d3, d4] }
  | _ => none }
def FlushDueWrongFalsely : Prop := flushDueRow.holds Tryz.pinned (OpenSpec.ofChange flushDueWrong)

/-- 'orangerylaw21.FlushLight': WHATEVER THE INPUT: true; the input reads as it did. -/
def flushLightSpec : ChangeSpec := { name := "flushLight", fn := fun _ => fun
  | [d1, d2, d3, d4] => { results := [.lit (.bool true)], args := [d1, d2, d3, d4] }
  | _ => none }
def flushLightRow : OpenClaim := { program := "ytcimbpdkejgnlaagreat", sum := "761ad3b3e000ebaff18fa225ceda382b0d4206632b8c711fdb89ae07f4bf184d", func := "orangery/orangerylaw21.FlushLight", spec := "flushLight", inPlace := ["slices.overlaps[int]", "internal/bytealg.abigen_runtime_cmpstring"], unfollowed := true, recurses := true, apart := false }
def FlushLightSaid : Prop := flushLightRow.holds Tryz.pinned (OpenSpec.ofChange flushLightSpec)

/-- ITS FALSE NEIGHBOUR: 'it returns false'. Refute it at one input. -/
def flushLightWrong : ChangeSpec := { name := "flushLight", fn := fun _ => fun
  | [d1, d2, d3, d4] => { results := [.lit (.bool false)], args := [d1, d2, d3, d4] }
  | _ => none }
def FlushLightWrongFalsely : Prop := flushLightRow.holds Tryz.pinned (OpenSpec.ofChange flushLightWrong)

/-- 'orangerylaw20.WriteSteps': WHATEVER THE INPUT: true; the input reads as it did. -/
def writeStepsSpec : ChangeSpec := { name := "writeSteps", fn := fun _ => fun
  | [d1, d2, d3] => { results := [.lit (.bool true)], args := [d1, d2, d3] }
  | _ => none }
def writeStepsRow : OpenClaim := { program := "ytcimbpdkejgnlaagreat", sum := "761ad3b3e000ebaff18fa225ceda382b0d4206632b8c711fdb89ae07f4bf184d", func := "orangery/orangerylaw20.WriteSteps", spec := "writeSteps", inPlace := ["slices.overlaps[int]", "internal/bytealg.abigen_runtime_cmpstring"], unfollowed := true, recurses := true, apart := false }
def WriteStepsSaid : Prop := writeStepsRow.holds Tryz.pinned (OpenSpec.ofChange writeStepsSpec)

/-- ITS FALSE NEIGHBOUR: 'it returns false'. Refute it at one input. -/
def writeStepsWrong : ChangeSpec := { name := "writeSteps", fn := fun _ => fun
  | [d1, d2, d3] => { results := [.lit (.bool false)], args := [d1, d2, d3] }
  | _ => none }
def WriteStepsWrongFalsely : Prop := writeStepsRow.holds Tryz.pinned (OpenSpec.ofChange writeStepsWrong)

/-- 'orangerylaw27.AuditSpoilt': WHATEVER THE INPUT: true; the input reads as it did. -/
def auditSpoiltSpec : ChangeSpec := { name := "auditSpoilt", fn := fun _ => fun
  | [d1, d2] => { results := [.lit (.bool true)], args := [d1, d2] }
  | _ => none }
def auditSpoiltRow : OpenClaim := { program := "ytcimbpdkejgnlaagreat", sum := "761ad3b3e000ebaff18fa225ceda382b0d4206632b8c711fdb89ae07f4bf184d", func := "orangery/orangerylaw27.AuditSpoilt", spec := "auditSpoilt", inPlace := ["slices.overlaps[int]", "internal/bytealg.abigen_runtime_cmpstring"], unfollowed := true, recurses := true, apart := false }
def AuditSpoiltSaid : Prop := auditSpoiltRow.holds Tryz.pinned (OpenSpec.ofChange auditSpoiltSpec)

/-- ITS FALSE NEIGHBOUR: 'it returns false'. Refute it at one input. -/
def auditSpoiltWrong : ChangeSpec := { name := "auditSpoilt", fn := fun _ => fun
  | [d1, d2] => { results := [.lit (.bool false)], args := [d1, d2] }
  | _ => none }
def AuditSpoiltWrongFalsely : Prop := auditSpoiltRow.holds Tryz.pinned (OpenSpec.ofChange auditSpoiltWrong)

/-- 'orangerylaw27.AuditWays': WHATEVER THE INPUT: true; the input reads as it did. -/
def auditWaysSpec : ChangeSpec := { name := "auditWays", fn := fun _ => fun
  | [d1, d2] => { results := [.lit (.bool true)], args := [d1, d2] }
  | _ => none }
def auditWaysRow : OpenClaim := { program := "ytcimbpdkejgnlaagreat", sum := "761ad3b3e000ebaff18fa225ceda382b0d4206632b8c711fdb89ae07f4bf184d", func := "orangery/orangerylaw27.AuditWays", spec := "auditWays", inPlace := ["slices.overlaps[int]", "internal/bytealg.abigen_runtime_cmpstring"], unfollowed := true, recurses := true, apart := false }
def AuditWaysSaid : Prop := auditWaysRow.holds Tryz.pinned (OpenSpec.ofChange auditWaysSpec)

/-- ITS FALSE NEIGHBOUR: 'it returns false'. Refute it at one input. -/
def auditWaysWrong : ChangeSpec := { name := "auditWays", fn := fun _ => fun
  | [d1, d2] => { results := [.lit (.bool false)], args := [d1, d2] }
  | _ => none }
def AuditWaysWrongFalsely : Prop := auditWaysRow.holds Tryz.pinned (OpenSpec.ofChange auditWaysWrong)

/-- 'orangerylaw22.HouseChecks': WHATEVER THE INPUT: true; the input reads as it did. -/
def houseChecksSpec : ChangeSpec := { name := "houseChecks", fn := fun _ => fun
  | [d] => { results := [.lit (.bool true)], args := [d] }
  | _ => none }
def houseChecksRow : OpenClaim := { program := "ytcimbpdkejgnlaagreat", sum := "761ad3b3e000ebaff18fa225ceda382b0d4206632b8c711fdb89ae07f4bf184d", func := "orangery/orangerylaw22.HouseChecks", spec := "houseChecks", inPlace := ["slices.overlaps[int]", "internal/bytealg.abigen_runtime_cmpstring"], unfollowed := true, recurses := true, apart := false }
def HouseChecksSaid : Prop := houseChecksRow.holds Tryz.pinned (OpenSpec.ofChange houseChecksSpec)

/-- ITS FALSE NEIGHBOUR: 'it returns false'. Refute it at one input. -/
def houseChecksWrong : ChangeSpec := { name := "houseChecks", fn := fun _ => fun
  | [d] => { results := [.lit (.bool false)], args := [d] }
  | _ => none }
def HouseChecksWrongFalsely : Prop := houseChecksRow.holds Tryz.pinned (OpenSpec.ofChange houseChecksWrong)

/- THE SECOND FORM. 'bulk': how many values and letters a reading holds, each counted each time it is reached (what is shared counts as often as it is met; a slice's spare places count too). A statement '..UptoSaid' is the law's where the arguments, and the package variables that the reading takes, are together of bulk at most 1048576: NARROWER than '..Said'. Prove '..Said' where nothing that the law and all that it calls make is longer than what came in: it says more and counts as full. Else prove '..UptoSaid'. A law counts once. -/
mutual
def uptoBulk {H : Type} : DataW H → Nat
  | .lit (.string bytes) => bytes.length + 1
  | .lit _ => 1
  | .nil => 1
  | .ptr d => uptoBulk d + 1
  | .slice elems spare => uptoBulkAll elems + uptoBulkAll spare + 1
  | .agg parts => uptoBulkAll parts + 1
  | .iface _ d => uptoBulk d + 1
  | .map entries => uptoBulkEntries entries + 1
  | .held _ => 1
def uptoBulkAll {H : Type} : List (DataW H) → Nat
  | [] => 0
  | d :: r => uptoBulk d + uptoBulkAll r
def uptoBulkEntries {H : Type} : List (Lit × DataW H) → Nat
  | [] => 0
  | x :: r => uptoBulkEntry x + uptoBulkEntries r
def uptoBulkEntry {H : Type} : Lit × DataW H → Nat
  | (.string bytes, d) => bytes.length + uptoBulk d + 1
  | (_, d) => uptoBulk d + 1
 end
def uptoSmall : (H : Type) → List (DataW H) → Bool := fun _ ds => decide (uptoBulkAll ds ≤ 1048576)
def OpenSpec.upto (s : _root_.Go.ChangeSpec) : _root_.Go.OpenSpec := { _root_.Go.OpenSpec.ofChange s with cond := some uptoSmall }

/-- 'orangerylaw17.HallSets', WHERE WHAT IT READS IS OF BULK AT MOST 1048576: true; the input reads as it did. -/
def hallSetsUptoRow : OpenClaim := { program := "ytcimbpdkejgnlaagreat", sum := "761ad3b3e000ebaff18fa225ceda382b0d4206632b8c711fdb89ae07f4bf184d", func := "orangery/orangerylaw17.HallSets", spec := "hallSets", inPlace := ["slices.overlaps[int]"], unfollowed := true, recurses := true, apart := false, narrowed := true }
def HallSetsUptoSaid : Prop := hallSetsUptoRow.holds Tryz.pinned (OpenSpec.upto hallSetsSpec)

/-- 'orangerylaw18.WalkSteps', WHERE WHAT IT READS IS OF BULK AT MOST 1048576: true; the input reads as it did. -/
def walkStepsUptoRow : OpenClaim := { program := "ytcimbpdkejgnlaagreat", sum := "761ad3b3e000ebaff18fa225ceda382b0d4206632b8c711fdb89ae07f4bf184d", func := "orangery/orangerylaw18.WalkSteps", spec := "walkSteps", inPlace := ["slices.overlaps[int]", "internal/bytealg.abigen_runtime_cmpstring"], unfollowed := true, recurses := true, apart := false, narrowed := true }
def WalkStepsUptoSaid : Prop := walkStepsUptoRow.holds Tryz.pinned (OpenSpec.upto walkStepsSpec)

/-- 'orangerylaw26.ViewWays', WHERE WHAT IT READS IS OF BULK AT MOST 1048576: true; the input reads as it did. -/
def viewWaysUptoRow : OpenClaim := { program := "ytcimbpdkejgnlaagreat", sum := "761ad3b3e000ebaff18fa225ceda382b0d4206632b8c711fdb89ae07f4bf184d", func := "orangery/orangerylaw26.ViewWays", spec := "viewWays", inPlace := ["slices.overlaps[int]", "internal/bytealg.abigen_runtime_cmpstring"], unfollowed := true, recurses := true, apart := false, narrowed := true }
def ViewWaysUptoSaid : Prop := viewWaysUptoRow.holds Tryz.pinned (OpenSpec.upto viewWaysSpec)

/-- 'orangerylaw19.RoomFull', WHERE WHAT IT READS IS OF BULK AT MOST 1048576: true; the input reads as it did. -/
def roomFullUptoRow : OpenClaim := { program := "ytcimbpdkejgnlaagreat", sum := "761ad3b3e000ebaff18fa225ceda382b0d4206632b8c711fdb89ae07f4bf184d", func := "orangery/orangerylaw19.RoomFull", spec := "roomFull", inPlace := ["slices.overlaps[int]", "internal/bytealg.abigen_runtime_cmpstring"], unfollowed := true, recurses := true, apart := false, narrowed := true }
def RoomFullUptoSaid : Prop := roomFullUptoRow.holds Tryz.pinned (OpenSpec.upto roomFullSpec)

/-- 'orangerylaw20.WriteOrder', WHERE WHAT IT READS IS OF BULK AT MOST 1048576: true; the input reads as it did. -/
def writeOrderUptoRow : OpenClaim := { program := "ytcimbpdkejgnlaagreat", sum := "761ad3b3e000ebaff18fa225ceda382b0d4206632b8c711fdb89ae07f4bf184d", func := "orangery/orangerylaw20.WriteOrder", spec := "writeOrder", inPlace := ["slices.overlaps[int]", "internal/bytealg.abigen_runtime_cmpstring"], unfollowed := true, recurses := true, apart := false, narrowed := true }
def WriteOrderUptoSaid : Prop := writeOrderUptoRow.holds Tryz.pinned (OpenSpec.upto writeOrderSpec)

/-- 'orangerylaw21.FlushDue', WHERE WHAT IT READS IS OF BULK AT MOST 1048576: true; the input reads as it did. -/
def flushDueUptoRow : OpenClaim := { program := "ytcimbpdkejgnlaagreat", sum := "761ad3b3e000ebaff18fa225ceda382b0d4206632b8c711fdb89ae07f4bf184d", func := "orangery/orangerylaw21.FlushDue", spec := "flushDue", inPlace := ["slices.overlaps[int]", "internal/bytealg.abigen_runtime_cmpstring"], unfollowed := true, recurses := true, apart := false, narrowed := true }
def FlushDueUptoSaid : Prop := flushDueUptoRow.holds Tryz.pinned (OpenSpec.upto flushDueSpec)

/-- 'orangerylaw21.FlushLight', WHERE WHAT IT READS IS OF BULK AT MOST 1048576: true; the input reads as it did. -/
def flushLightUptoRow : OpenClaim := { program := "ytcimbpdkejgnlaagreat", sum := "761ad3b3e000ebaff18fa225ceda382b0d4206632b8c711fdb89ae07f4bf184d", func := "orangery/orangerylaw21.FlushLight", spec := "flushLight", inPlace := ["slices.overlaps[int]", "internal/bytealg.abigen_runtime_cmpstring"], unfollowed := true, recurses := true, apart := false, narrowed := true }
def FlushLightUptoSaid : Prop := flushLightUptoRow.holds Tryz.pinned (OpenSpec.upto flushLightSpec)

/-- 'orangerylaw20.WriteSteps', WHERE WHAT IT READS IS OF BULK AT MOST 1048576: true; the input reads as it did. -/
def writeStepsUptoRow : OpenClaim := { program := "ytcimbpdkejgnlaagreat", sum := "761ad3b3e000ebaff18fa225ceda382b0d4206632b8c711fdb89ae07f4bf184d", func := "orangery/orangerylaw20.WriteSteps", spec := "writeSteps", inPlace := ["slices.overlaps[int]", "internal/bytealg.abigen_runtime_cmpstring"], unfollowed := true, recurses := true, apart := false, narrowed := true }
def WriteStepsUptoSaid : Prop := writeStepsUptoRow.holds Tryz.pinned (OpenSpec.upto writeStepsSpec)

/-- 'orangerylaw27.AuditSpoilt', WHERE WHAT IT READS IS OF BULK AT MOST 1048576: true; the input reads as it did. -/
def auditSpoiltUptoRow : OpenClaim := { program := "ytcimbpdkejgnlaagreat", sum := "761ad3b3e000ebaff18fa225ceda382b0d4206632b8c711fdb89ae07f4bf184d", func := "orangery/orangerylaw27.AuditSpoilt", spec := "auditSpoilt", inPlace := ["slices.overlaps[int]", "internal/bytealg.abigen_runtime_cmpstring"], unfollowed := true, recurses := true, apart := false, narrowed := true }
def AuditSpoiltUptoSaid : Prop := auditSpoiltUptoRow.holds Tryz.pinned (OpenSpec.upto auditSpoiltSpec)

/-- 'orangerylaw27.AuditWays', WHERE WHAT IT READS IS OF BULK AT MOST 1048576: true; the input reads as it did. -/
def auditWaysUptoRow : OpenClaim := { program := "ytcimbpdkejgnlaagreat", sum := "761ad3b3e000ebaff18fa225ceda382b0d4206632b8c711fdb89ae07f4bf184d", func := "orangery/orangerylaw27.AuditWays", spec := "auditWays", inPlace := ["slices.overlaps[int]", "internal/bytealg.abigen_runtime_cmpstring"], unfollowed := true, recurses := true, apart := false, narrowed := true }
def AuditWaysUptoSaid : Prop := auditWaysUptoRow.holds Tryz.pinned (OpenSpec.upto auditWaysSpec)

/-- 'orangerylaw22.HouseChecks', WHERE WHAT IT READS IS OF BULK AT MOST 1048576: true; the input reads as it did. -/
def houseChecksUptoRow : OpenClaim := { program := "ytcimbpdkejgnlaagreat", sum := "761ad3b3e000ebaff18fa225ceda382b0d4206632b8c711fdb89ae07f4bf184d", func := "orangery/orangerylaw22.HouseChecks", spec := "houseChecks", inPlace := ["slices.overlaps[int]", "internal/bytealg.abigen_runtime_cmpstring"], unfollowed := true, recurses := true, apart := false, narrowed := true }
def HouseChecksUptoSaid : Prop := houseChecksUptoRow.holds Tryz.pinned (OpenSpec.upto houseChecksSpec)

end Rows
end Go.Proofs.YtcimbpdkejgnlaaGreat
