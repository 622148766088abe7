/-
  No cell of these rows narrows 'for every input' (looked for: loops, veiled, ifaces, maps, wideKeys, modest, calm, conditions, laid).
  DERIVED. THE GIVEN ROWS OF THIS SEAT. 5 by the template 'for every input the law returns true; each argument reads behind the call as it read before'; 0 by the template 'total and deterministic' (their statements: YthmjdhonafnabaaGreatTotals.lean).
  GIVEN WITH THE SEED: the statements are not yours to turn. If you find one false, say at which input.
  Laid BY PROGRAM, IN A SANDBOX (cutbox-rows.mjs): the forced cells as the released guide's own fill.sh prints them over the translation da77e52b3d4de49a… (all of the seat's roots in one cut). By AI agents, Wed Nov 11 2026. No macro, syntax, notation, axiom, sorry.
-/
import Derived.Test.YthmjdhonafnabaaGreatChecked
import GoSem.Claim
import GoSem.ClaimJoined
import GoSem.ClaimMapViews
import Derived.JoinedTies
import Derived.KernelRfl
namespace Go.Proofs.YthmjdhonafnabaaGreat
/- THE CELL 'sum', in the pinned program and in every row, IS THE sha256 OF THE DUMP (.gsa) THAT YthmjdhonafnabaaGreatProg.lean LOADS. Nothing in Lean hashes anything: it is a label: what it is worth is what the hold of that sum in a sandbox is worth. -/
noncomputable def Tryz.pinned : Pinned := { name := "ythmjdhonafnabaagreat", sum := "da77e52b3d4de49ace568a7c2dfdb19a08865a6bba993427066a9ffc06810478", checked := Tryz.checked }
namespace Rows
def none {H : Type} : Left H := { results := [], args := [] }

/-- 'orangerylaw17.HallHands': WHATEVER THE INPUT: true; the input reads as it did. -/
def hallHandsSpec : ChangeSpec := { name := "hallHands", fn := fun _ => fun
  | [d] => { results := [.lit (.bool true)], args := [d] }
  | _ => none }
def hallHandsRow : OpenClaim := { program := "ythmjdhonafnabaagreat", sum := "da77e52b3d4de49ace568a7c2dfdb19a08865a6bba993427066a9ffc06810478", func := "orangery/orangerylaw17.HallHands", spec := "hallHands", inPlace := ["slices.overlaps[int]"], unfollowed := true, recurses := true, apart := false }
def HallHandsSaid : Prop := hallHandsRow.holds Tryz.pinned (OpenSpec.ofChange hallHandsSpec)

/-- ITS FALSE NEIGHBOUR: 'it returns false'. Refute it at one input. -/
def hallHandsWrong : ChangeSpec := { name := "hallHands", fn := fun _ => fun
  | [d] => { results := [.lit (.bool false)], args := [d] }
  | _ => none }
def HallHandsWrongFalsely : Prop := hallHandsRow.holds Tryz.pinned (OpenSpec.ofChange hallHandsWrong)

/-- 'orangerylaw17.HallAllocs': WHATEVER THE INPUT: true; the input reads as it did. -/
def hallAllocsSpec : ChangeSpec := { name := "hallAllocs", fn := fun _ => fun
  | [d1, d2, d3] => { results := [.lit (.bool true)], args := [d1, d2, d3] }
  | _ => none }
def hallAllocsRow : OpenClaim := { program := "ythmjdhonafnabaagreat", sum := "da77e52b3d4de49ace568a7c2dfdb19a08865a6bba993427066a9ffc06810478", func := "orangery/orangerylaw17.HallAllocs", spec := "hallAllocs", inPlace := ["slices.overlaps[int]"], unfollowed := true, recurses := true, apart := false }
def HallAllocsSaid : Prop := hallAllocsRow.holds Tryz.pinned (OpenSpec.ofChange hallAllocsSpec)

/-- ITS FALSE NEIGHBOUR: 'it returns false'. Refute it at one input. -/
def hallAllocsWrong : ChangeSpec := { name := "hallAllocs", fn := fun _ => fun
  | [d1, d2, d3] => { results := [.lit (.bool false)], args := [d1, d2, d3] }
  | _ => none }
def HallAllocsWrongFalsely : Prop := hallAllocsRow.holds Tryz.pinned (OpenSpec.ofChange hallAllocsWrong)

/-- 'orangerylaw17.HallSets': WHATEVER THE INPUT: true; the input reads as it did. -/
def hallSetsSpec : ChangeSpec := { name := "hallSets", fn := fun _ => fun
  | [d1, d2, d3, d4] => { results := [.lit (.bool true)], args := [d1, d2, d3, d4] }
  | _ => none }
def hallSetsRow : OpenClaim := { program := "ythmjdhonafnabaagreat", sum := "da77e52b3d4de49ace568a7c2dfdb19a08865a6bba993427066a9ffc06810478", func := "orangery/orangerylaw17.HallSets", spec := "hallSets", inPlace := ["slices.overlaps[int]"], unfollowed := true, recurses := true, apart := false }
def HallSetsSaid : Prop := hallSetsRow.holds Tryz.pinned (OpenSpec.ofChange hallSetsSpec)

/-- ITS FALSE NEIGHBOUR: 'it returns false'. Refute it at one input. -/
def hallSetsWrong : ChangeSpec := { name := "hallSets", fn := fun _ => fun
  | [d1, d2, d3, d4] => { results := [.lit (.bool false)], args := [d1, d2, d3, d4] }
  | _ => none }
def HallSetsWrongFalsely : Prop := hallSetsRow.holds Tryz.pinned (OpenSpec.ofChange hallSetsWrong)

/-- 'orangerylaw17.HallEvicts': WHATEVER THE INPUT: true; the input reads as it did. -/
def hallEvictsSpec : ChangeSpec := { name := "hallEvicts", fn := fun _ => fun
  | [d1, d2] => { results := [.lit (.bool true)], args := [d1, d2] }
  | _ => none }
def hallEvictsRow : OpenClaim := { program := "ythmjdhonafnabaagreat", sum := "da77e52b3d4de49ace568a7c2dfdb19a08865a6bba993427066a9ffc06810478", func := "orangery/orangerylaw17.HallEvicts", spec := "hallEvicts", inPlace := ["slices.overlaps[int]"], unfollowed := true, recurses := true, apart := false }
def HallEvictsSaid : Prop := hallEvictsRow.holds Tryz.pinned (OpenSpec.ofChange hallEvictsSpec)

/-- ITS FALSE NEIGHBOUR: 'it returns false'. Refute it at one input. -/
def hallEvictsWrong : ChangeSpec := { name := "hallEvicts", fn := fun _ => fun
  | [d1, d2] => { results := [.lit (.bool false)], args := [d1, d2] }
  | _ => none }
def HallEvictsWrongFalsely : Prop := hallEvictsRow.holds Tryz.pinned (OpenSpec.ofChange hallEvictsWrong)

/-- 'orangerylaw17.HallPlays': WHATEVER THE INPUT: true; the input reads as it did. -/
def hallPlaysSpec : ChangeSpec := { name := "hallPlays", fn := fun _ => fun
  | [d1, d2, d3] => { results := [.lit (.bool true)], args := [d1, d2, d3] }
  | _ => none }
def hallPlaysRow : OpenClaim := { program := "ythmjdhonafnabaagreat", sum := "da77e52b3d4de49ace568a7c2dfdb19a08865a6bba993427066a9ffc06810478", func := "orangery/orangerylaw17.HallPlays", spec := "hallPlays", inPlace := ["slices.overlaps[int]"], unfollowed := true, recurses := true, apart := false }
def HallPlaysSaid : Prop := hallPlaysRow.holds Tryz.pinned (OpenSpec.ofChange hallPlaysSpec)

/-- ITS FALSE NEIGHBOUR: 'it returns false'. Refute it at one input. -/
def hallPlaysWrong : ChangeSpec := { name := "hallPlays", fn := fun _ => fun
  | [d1, d2, d3] => { results := [.lit (.bool false)], args := [d1, d2, d3] }
  | _ => none }
def HallPlaysWrongFalsely : Prop := hallPlaysRow.holds Tryz.pinned (OpenSpec.ofChange hallPlaysWrong)

/- THE SECOND FORM. 'bulk': how many values and letters a reading holds, each counted each time it is reached (what is shared counts as often as it is met; a slice's spare places count too). A statement '..UptoSaid' is the law's where the arguments, and the package variables that the reading takes, are together of bulk at most 1048576: NARROWER than '..Said'. Prove '..Said' where nothing that the law and all that it calls make is longer than what came in: it says more and counts as full. Else prove '..UptoSaid'. A law counts once. -/
mutual
def uptoBulk {H : Type} : DataW H → Nat
  | .lit (.string bytes) => bytes.length + 1
  | .lit _ => 1
  | .nil => 1
  | .ptr d => uptoBulk d + 1
  | .slice elems spare => uptoBulkAll elems + uptoBulkAll spare + 1
  | .agg parts => uptoBulkAll parts + 1
  | .iface _ d => uptoBulk d + 1
  | .map entries => uptoBulkEntries entries + 1
  | .held _ => 1
def uptoBulkAll {H : Type} : List (DataW H) → Nat
  | [] => 0
  | d :: r => uptoBulk d + uptoBulkAll r
def uptoBulkEntries {H : Type} : List (Lit × DataW H) → Nat
  | [] => 0
  | x :: r => uptoBulkEntry x + uptoBulkEntries r
def uptoBulkEntry {H : Type} : Lit × DataW H → Nat
  | (.string bytes, d) => bytes.length + uptoBulk d + 1
  | (_, d) => uptoBulk d + 1
 end
def uptoSmall : (H : Type) → List (DataW H) → Bool := fun _ ds => decide (uptoBulkAll ds ≤ 1048576)
def OpenSpec.upto (s : _root_.Go.ChangeSpec) : _root_.Go.OpenSpec := { _root_.Go.OpenSpec.ofChange s with cond := some uptoSmall }

/-- 'orangerylaw17.HallHands', WHERE WHAT IT READS IS OF BULK AT MOST 1048576: true; the input reads as it did. -/
def hallHandsUptoRow : OpenClaim := { program := "ythmjdhonafnabaagreat", sum := "da77e52b3d4de49ace568a7c2dfdb19a08865a6bba993427066a9ffc06810478", func := "orangery/orangerylaw17.HallHands", spec := "hallHands", inPlace := ["slices.overlaps[int]"], unfollowed := true, recurses := true, apart := false, narrowed := true }
def HallHandsUptoSaid : Prop := hallHandsUptoRow.holds Tryz.pinned (OpenSpec.upto hallHandsSpec)

/-- 'orangerylaw17.HallAllocs', WHERE WHAT IT READS IS OF BULK AT MOST 1048576: true; the input reads as it did. -/
def hallAllocsUptoRow : OpenClaim := { program := "ythmjdhonafnabaagreat", sum := "da77e52b3d4de49ace568a7c2dfdb19a08865a6bba993427066a9ffc06810478", func := "orangery/orangerylaw17.HallAllocs", spec := "hallAllocs", inPlace := ["slices.overlaps[int]"], unfollowed := true, recurses := true, apart := false, narrowed := true }
def HallAllocsUptoSaid : Prop := hallAllocsUptoRow.holds Tryz.pinned (OpenSpec.upto hallAllocsSpec)

/-- 'orangerylaw17.HallSets', WHERE WHAT IT READS IS OF BULK AT MOST 1048576: true; the input reads as it did. -/
def hallSetsUptoRow : OpenClaim := { program := "ythmjdhonafnabaagreat", sum := "da77e52b3d4de49ace568a7c2dfdb19a08865a6bba993427066a9ffc06810478", func := "orangery/orangerylaw17.HallSets", spec := "hallSets", inPlace := ["slices.overlaps[int]"], unfollowed := true, recurses := true, apart := false, narrowed := true }
def HallSetsUptoSaid : Prop := hallSetsUptoRow.holds Tryz.pinned (OpenSpec.upto hallSetsSpec)

/-- 'orangerylaw17.HallEvicts', WHERE WHAT IT READS IS OF BULK AT MOST 1048576: true; the input reads as it did. -/
def hallEvictsUptoRow : OpenClaim := { program := "ythmjdhonafnabaagreat", sum := "da77e52b3d4de49ace568a7c2dfdb19a08865a6bba993427066a9ffc06810478", func := "orangery/orangerylaw17.HallEvicts", spec := "hallEvicts", inPlace := ["slices.overlaps[int]"], unfollowed := true, recurses := true, apart := false, narrowed := true }
def HallEvictsUptoSaid : Prop := hallEvictsUptoRow.holds Tryz.pinned (OpenSpec.upto hallEvictsSpec)

/-- 'orangerylaw17.HallPlays', WHERE WHAT IT READS IS OF BULK AT MOST 1048576: true; the input reads as it did. -/
def hallPlaysUptoRow : OpenClaim := { program := "ythmjdhonafnabaagreat", sum := "da77e52b3d4de49ace568a7c2dfdb19a08865a6bba993427066a9ffc06810478", func := "orangery/orangerylaw17.HallPlays", spec := "hallPlays", inPlace := ["slices.overlaps[int]"], unfollowed := true, recurses := true, apart := false, narrowed := true }
def HallPlaysUptoSaid : Prop := hallPlaysUptoRow.holds Tryz.pinned (OpenSpec.upto hallPlaysSpec)

end Rows
end Go.Proofs.YthmjdhonafnabaaGreat
