/-
  No cell of these rows narrows 'for every input' (looked for: loops, veiled, ifaces, maps, wideKeys, modest, calm, conditions, laid).
  DERIVED. THE GIVEN ROWS OF THIS SEAT. 7 by the template 'for every input the law returns true; each argument reads behind the call as it read before'; 0 by the template 'total and deterministic' (their statements: YtmnhpggplblbgaaGreatTotals.lean).
  GIVEN WITH THE SEED: the statements are not yours to turn. If you find one false, say at which input.
  Laid BY PROGRAM, IN A SANDBOX (cutbox-rows.mjs): the forced cells as the released guide's own fill.sh prints them over the translation 189a0c96fa034153… (all of the seat's roots in one cut). By AI agents, Wed Nov 11 2026. No macro, syntax, notation, axiom, sorry.
-/
import Derived.Test.YtmnhpggplblbgaaGreatChecked
import GoSem.Claim
import GoSem.ClaimJoined
import GoSem.ClaimMapViews
import Derived.JoinedTies
import Derived.KernelRfl
namespace Go.Proofs.YtmnhpggplblbgaaGreat
/- THE CELL 'sum', in the pinned program and in every row, IS THE sha256 OF THE DUMP (.gsa) THAT YtmnhpggplblbgaaGreatProg.lean LOADS. Nothing in Lean hashes anything: it is a label: what it is worth is what the hold of that sum in a sandbox is worth. -/
noncomputable def Tryz.pinned : Pinned := { name := "ytmnhpggplblbgaagreat", sum := "189a0c96fa0341530e4b200bdc9349eab5973013e8f5696f9864b91df418117d", checked := Tryz.checked }
namespace Rows
def none {H : Type} : Left H := { results := [], args := [] }

/-- 'orangerylaw26.ViewWays': WHATEVER THE INPUT: true; the input reads as it did. -/
def viewWaysSpec : ChangeSpec := { name := "viewWays", fn := fun _ => fun
  | [d] => { results := [.lit (.bool true)], args := [d] }
  | _ => none }
def viewWaysRow : OpenClaim := { program := "ytmnhpggplblbgaagreat", sum := "189a0c96fa0341530e4b200bdc9349eab5973013e8f5696f9864b91df418117d", func := "orangery/orangerylaw26.ViewWays", spec := "viewWays", inPlace := ["slices.overlaps[int]", "internal/bytealg.abigen_runtime_cmpstring"], unfollowed := true, recurses := true, apart := false }
def ViewWaysSaid : Prop := viewWaysRow.holds Tryz.pinned (OpenSpec.ofChange viewWaysSpec)

/-- ITS FALSE NEIGHBOUR: 'it returns false'. Refute it at one input. -/
def viewWaysWrong : ChangeSpec := { name := "viewWays", fn := fun _ => fun
  | [d] => { results := [.lit (.bool false)], args := [d] }
  | _ => none }
def ViewWaysWrongFalsely : Prop := viewWaysRow.holds Tryz.pinned (OpenSpec.ofChange viewWaysWrong)

/-- 'orangerylaw19.RoomStill': WHATEVER THE INPUT: true; the input reads as it did. -/
def roomStillSpec : ChangeSpec := { name := "roomStill", fn := fun _ => fun
  | [d] => { results := [.lit (.bool true)], args := [d] }
  | _ => none }
def roomStillRow : OpenClaim := { program := "ytmnhpggplblbgaagreat", sum := "189a0c96fa0341530e4b200bdc9349eab5973013e8f5696f9864b91df418117d", func := "orangery/orangerylaw19.RoomStill", spec := "roomStill", inPlace := ["slices.overlaps[int]", "internal/bytealg.abigen_runtime_cmpstring"], unfollowed := true, recurses := true, apart := false }
def RoomStillSaid : Prop := roomStillRow.holds Tryz.pinned (OpenSpec.ofChange roomStillSpec)

/-- ITS FALSE NEIGHBOUR: 'it returns false'. Refute it at one input. -/
def roomStillWrong : ChangeSpec := { name := "roomStill", fn := fun _ => fun
  | [d] => { results := [.lit (.bool false)], args := [d] }
  | _ => none }
def RoomStillWrongFalsely : Prop := roomStillRow.holds Tryz.pinned (OpenSpec.ofChange roomStillWrong)

/-- 'orangerylaw19.RoomLeaf': WHATEVER THE INPUT: true; the input reads as it did. -/
def roomLeafSpec : ChangeSpec := { name := "roomLeaf", fn := fun _ => fun
  | [d1, d2] => { results := [.lit (.bool true)], args := [d1, d2] }
  | _ => none }
def roomLeafRow : OpenClaim := { program := "ytmnhpggplblbgaagreat", sum := "189a0c96fa0341530e4b200bdc9349eab5973013e8f5696f9864b91df418117d", func := "orangery/orangerylaw19.RoomLeaf", spec := "roomLeaf", inPlace := ["slices.overlaps[int]", "internal/bytealg.abigen_runtime_cmpstring"], unfollowed := true, recurses := true, apart := false }
def RoomLeafSaid : Prop := roomLeafRow.holds Tryz.pinned (OpenSpec.ofChange roomLeafSpec)

/-- ITS FALSE NEIGHBOUR: 'it returns false'. Refute it at one input. -/
def roomLeafWrong : ChangeSpec := { name := "roomLeaf", fn := fun _ => fun
  | [d1, d2] => { results := [.lit (.bool false)], args := [d1, d2] }
  | _ => none }
def RoomLeafWrongFalsely : Prop := roomLeafRow.holds Tryz.pinned (OpenSpec.ofChange roomLeafWrong)

/-- 'orangerylaw27.AuditSpoilt': WHATEVER THE INPUT: true; the input reads as it did. -/
def auditSpoiltSpec : ChangeSpec := { name := "auditSpoilt", fn := fun _ => fun
  | [d1, d2] => { results := [.lit (.bool true)], args := [d1, d2] }
  | _ => none }
def auditSpoiltRow : OpenClaim := { program := "ytmnhpggplblbgaagreat", sum := "189a0c96fa0341530e4b200bdc9349eab5973013e8f5696f9864b91df418117d", func := "orangery/orangerylaw27.AuditSpoilt", spec := "auditSpoilt", inPlace := ["slices.overlaps[int]", "internal/bytealg.abigen_runtime_cmpstring"], unfollowed := true, recurses := true, apart := false }
def AuditSpoiltSaid : Prop := auditSpoiltRow.holds Tryz.pinned (OpenSpec.ofChange auditSpoiltSpec)

/-- ITS FALSE NEIGHBOUR: 'it returns false'. Refute it at one input. -/
def auditSpoiltWrong : ChangeSpec := { name := "auditSpoilt", fn := fun _ => fun
  | [d1, d2] => { results := [.lit (.bool false)], args := [d1, d2] }
  | _ => none }
def AuditSpoiltWrongFalsely : Prop := auditSpoiltRow.holds Tryz.pinned (OpenSpec.ofChange auditSpoiltWrong)

/-- 'orangerylaw27.AuditWays': WHATEVER THE INPUT: true; the input reads as it did. -/
def auditWaysSpec : ChangeSpec := { name := "auditWays", fn := fun _ => fun
  | [d1, d2] => { results := [.lit (.bool true)], args := [d1, d2] }
  | _ => none }
def auditWaysRow : OpenClaim := { program := "ytmnhpggplblbgaagreat", sum := "189a0c96fa0341530e4b200bdc9349eab5973013e8f5696f9864b91df418117d", func := "orangery/orangerylaw27.AuditWays", spec := "auditWays", inPlace := ["slices.overlaps[int]", "internal/bytealg.abigen_runtime_cmpstring"], unfollowed := true, recurses := true, apart := false }
def AuditWaysSaid : Prop := auditWaysRow.holds Tryz.pinned (OpenSpec.ofChange auditWaysSpec)

/-- ITS FALSE NEIGHBOUR: 'it returns false'. Refute it at one input. -/
def auditWaysWrong : ChangeSpec := { name := "auditWays", fn := fun _ => fun
  | [d1, d2] => { results := [.lit (.bool false)], args := [d1, d2] }
  | _ => none }
def AuditWaysWrongFalsely : Prop := auditWaysRow.holds Tryz.pinned (OpenSpec.ofChange auditWaysWrong)

/-- 'orangerylaw22.HouseChecks': WHATEVER THE INPUT: true; the input reads as it did. -/
def houseChecksSpec : ChangeSpec := { name := "houseChecks", fn := fun _ => fun
  | [d] => { results := [.lit (.bool true)], args := [d] }
  | _ => none }
def houseChecksRow : OpenClaim := { program := "ytmnhpggplblbgaagreat", sum := "189a0c96fa0341530e4b200bdc9349eab5973013e8f5696f9864b91df418117d", func := "orangery/orangerylaw22.HouseChecks", spec := "houseChecks", inPlace := ["slices.overlaps[int]", "internal/bytealg.abigen_runtime_cmpstring"], unfollowed := true, recurses := true, apart := false }
def HouseChecksSaid : Prop := houseChecksRow.holds Tryz.pinned (OpenSpec.ofChange houseChecksSpec)

/-- ITS FALSE NEIGHBOUR: 'it returns false'. Refute it at one input. -/
def houseChecksWrong : ChangeSpec := { name := "houseChecks", fn := fun _ => fun
  | [d] => { results := [.lit (.bool false)], args := [d] }
  | _ => none }
def HouseChecksWrongFalsely : Prop := houseChecksRow.holds Tryz.pinned (OpenSpec.ofChange houseChecksWrong)

/-- 'orangerylaw22.HouseLarge': WHATEVER THE INPUT: true; the input reads as it did. -/
def houseLargeSpec : ChangeSpec := { name := "houseLarge", fn := fun _ => fun
  | [d1, d2, d3, d4] => { results := [.lit (.bool true)], args := [d1, d2, d3, d4] }
  | _ => none }
def houseLargeRow : OpenClaim := { program := "ytmnhpggplblbgaagreat", sum := "189a0c96fa0341530e4b200bdc9349eab5973013e8f5696f9864b91df418117d", func := "orangery/orangerylaw22.HouseLarge", spec := "houseLarge", inPlace := ["slices.overlaps[int]", "internal/bytealg.abigen_runtime_cmpstring"], unfollowed := true, recurses := true, apart := false }
def HouseLargeSaid : Prop := houseLargeRow.holds Tryz.pinned (OpenSpec.ofChange houseLargeSpec)

/-- ITS FALSE NEIGHBOUR: 'it returns false'. Refute it at one input. -/
def houseLargeWrong : ChangeSpec := { name := "houseLarge", fn := fun _ => fun
  | [d1, d2, d3, d4] => { results := [.lit (.bool false)], args := [d1, d2, d3, d4] }
  | _ => none }
def HouseLargeWrongFalsely : Prop := houseLargeRow.holds Tryz.pinned (OpenSpec.ofChange houseLargeWrong)

/- THE SECOND FORM. 'bulk': how many values and letters a reading holds, each counted each time it is reached (what is shared counts as often as it is met; a slice's spare places count too). A statement '..UptoSaid' is the law's where the arguments, and the package variables that the reading takes, are together of bulk at most 1048576: NARROWER than '..Said'. Prove '..Said' where nothing that the law and all that it calls make is longer than what came in: it says more and counts as full. Else prove '..UptoSaid'. A law counts once. -/
mutual
def uptoBulk {H : Type} : DataW H → Nat
  | .lit (.string bytes) => bytes.length + 1
  | .lit _ => 1
  | .nil => 1
  | .ptr d => uptoBulk d + 1
  | .slice elems spare => uptoBulkAll elems + uptoBulkAll spare + 1
  | .agg parts => uptoBulkAll parts + 1
  | .iface _ d => uptoBulk d + 1
  | .map entries => uptoBulkEntries entries + 1
  | .held _ => 1
def uptoBulkAll {H : Type} : List (DataW H) → Nat
  | [] => 0
  | d :: r => uptoBulk d + uptoBulkAll r
def uptoBulkEntries {H : Type} : List (Lit × DataW H) → Nat
  | [] => 0
  | x :: r => uptoBulkEntry x + uptoBulkEntries r
def uptoBulkEntry {H : Type} : Lit × DataW H → Nat
  | (.string bytes, d) => bytes.length + uptoBulk d + 1
  | (_, d) => uptoBulk d + 1
 end
def uptoSmall : (H : Type) → List (DataW H) → Bool := fun _ ds => decide (uptoBulkAll ds ≤ 1048576)
def OpenSpec.upto (s : _root_.Go.ChangeSpec) : _root_.Go.OpenSpec := { _root_.Go.OpenSpec.ofChange s with cond := some uptoSmall }

/-- 'orangerylaw26.ViewWays', WHERE WHAT IT READS IS OF BULK AT MOST 1048576: true; the input reads as it did. -/
def viewWaysUptoRow : OpenClaim := { program := "ytmnhpggplblbgaagreat", sum := "189a0c96fa0341530e4b200bdc9349eab5973013e8f5696f9864b91df418117d", func := "orangery/orangerylaw26.ViewWays", spec := "viewWays", inPlace := ["slices.overlaps[int]", "internal/bytealg.abigen_runtime_cmpstring"], unfollowed := true, recurses := true, apart := false, narrowed := true }
def ViewWaysUptoSaid : Prop := viewWaysUptoRow.holds Tryz.pinned (OpenSpec.upto viewWaysSpec)

/-- 'orangerylaw19.RoomStill', WHERE WHAT IT READS IS OF BULK AT MOST 1048576: true; the input reads as it did. -/
def roomStillUptoRow : OpenClaim := { program := "ytmnhpggplblbgaagreat", sum := "189a0c96fa0341530e4b200bdc9349eab5973013e8f5696f9864b91df418117d", func := "orangery/orangerylaw19.RoomStill", spec := "roomStill", inPlace := ["slices.overlaps[int]", "internal/bytealg.abigen_runtime_cmpstring"], unfollowed := true, recurses := true, apart := false, narrowed := true }
def RoomStillUptoSaid : Prop := roomStillUptoRow.holds Tryz.pinned (OpenSpec.upto roomStillSpec)

/-- 'orangerylaw19.RoomLeaf', WHERE WHAT IT READS IS OF BULK AT MOST 1048576: true; the input reads as it did. -/
def roomLeafUptoRow : OpenClaim := { program := "ytmnhpggplblbgaagreat", sum := "189a0c96fa0341530e4b200bdc9349eab5973013e8f5696f9864b91df418117d", func := "orangery/orangerylaw19.RoomLeaf", spec := "roomLeaf", inPlace := ["slices.overlaps[int]", "internal/bytealg.abigen_runtime_cmpstring"], unfollowed := true, recurses := true, apart := false, narrowed := true }
def RoomLeafUptoSaid : Prop := roomLeafUptoRow.holds Tryz.pinned (OpenSpec.upto roomLeafSpec)

/-- 'orangerylaw27.AuditSpoilt', WHERE WHAT IT READS IS OF BULK AT MOST 1048576: true; the input reads as it did. -/
def auditSpoiltUptoRow : OpenClaim := { program := "ytmnhpggplblbgaagreat", sum := "189a0c96fa0341530e4b200bdc9349eab5973013e8f5696f9864b91df418117d", func := "orangery/orangerylaw27.AuditSpoilt", spec := "auditSpoilt", inPlace := ["slices.overlaps[int]", "internal/bytealg.abigen_runtime_cmpstring"], unfollowed := true, recurses := true, apart := false, narrowed := true }
def AuditSpoiltUptoSaid : Prop := auditSpoiltUptoRow.holds Tryz.pinned (OpenSpec.upto auditSpoiltSpec)

/-- 'orangerylaw27.AuditWays', WHERE WHAT IT READS IS OF BULK AT MOST 1048576: true; the input reads as it did. -/
def auditWaysUptoRow : OpenClaim := { program := "ytmnhpggplblbgaagreat", sum := "189a0c96fa0341530e4b200bdc9349eab5973013e8f5696f9864b91df418117d", func := "orangery/orangerylaw27.AuditWays", spec := "auditWays", inPlace := ["slices.overlaps[int]", "internal/bytealg.abigen_runtime_cmpstring"], unfollowed := true, recurses := true, apart := false, narrowed := true }
def AuditWaysUptoSaid : Prop := auditWaysUptoRow.holds Tryz.pinned (OpenSpec.upto auditWaysSpec)

/-- 'orangerylaw22.HouseChecks', WHERE WHAT IT READS IS OF BULK AT MOST 1048576: true; the input reads as it did. -/
def houseChecksUptoRow : OpenClaim := { program := "ytmnhpggplblbgaagreat", sum := "189a0c96fa0341530e4b200bdc9349eab5973013e8f5696f9864b91df418117d", func := "orangery/orangerylaw22.HouseChecks", spec := "houseChecks", inPlace := ["slices.overlaps[int]", "internal/bytealg.abigen_runtime_cmpstring"], unfollowed := true, recurses := true, apart := false, narrowed := true }
def HouseChecksUptoSaid : Prop := houseChecksUptoRow.holds Tryz.pinned (OpenSpec.upto houseChecksSpec)

/-- 'orangerylaw22.HouseLarge', WHERE WHAT IT READS IS OF BULK AT MOST 1048576: true; the input reads as it did. -/
def houseLargeUptoRow : OpenClaim := { program := "ytmnhpggplblbgaagreat", sum := "189a0c96fa0341530e4b200bdc9349eab5973013e8f5696f9864b91df418117d", func := "orangery/orangerylaw22.HouseLarge", spec := "houseLarge", inPlace := ["slices.overlaps[int]", "internal/bytealg.abigen_runtime_cmpstring"], unfollowed := true, recurses := true, apart := false, narrowed := true }
def HouseLargeUptoSaid : Prop := houseLargeUptoRow.holds Tryz.pinned (OpenSpec.upto houseLargeSpec)

end Rows
end Go.Proofs.YtmnhpggplblbgaaGreat
