/-
  The law HallHands at whatever row of bools.
  No conditions.
-/
import Derived.Test.YthmjdhonafnabaaGreatRunO
import Derived.Test.YthmjdhonafnabaaGreatHhA
namespace Go.Proofs.YthmjdhonafnabaaGreat
open Go Go.Eng Go.ChangeShapes Go.WideShapes Go.RowKit Go.Deep
set_option maxRecDepth 20000
theorem handsAll (l : List Bool) (hm : l.length ≤ 9223372036854775807) : HCall Tryz.prog 3 [.imm false (l.map fun b => [.bool b])] [] fun r _ => r = .bool true := by
  by_cases h : l.length ≤ 6
  · exact hands_le l h
  · exact hands_long _ (by simp; omega) (by simpa using hm)
theorem map_bools (E : List (List HV)) (h : ∀ r ∈ E, ∃ b, r = [HV.bool b]) : ∃ l : List Bool, E = l.map fun b => [HV.bool b] := by
  induction E with
  | nil => exact ⟨[], rfl⟩
  | cons r E ih =>
    obtain ⟨s, rfl⟩ := h r (by simp)
    obtain ⟨l, rfl⟩ := ih (fun r hr => h r (by simp [hr]))
    exact ⟨s :: l, rfl⟩
theorem open_bools {T e : TypeId} (ht : Tryz.prog.underlying T = some (.slice e)) (he : Tryz.prog.underlying e = some .bool) (hc : Tryz.prog.cellsOf e = 1) {H : Type} {enc : TypeId × Value → H} {w : World} {base fuel : Nat} {held : Bool} {cs : List Value} {x : DataW H × List MemPlace} (h : DataW.trod enc Tryz.prog w base (fun _ => true) held fuel T cs = some x) :
    ∃ (v : Value) (l : List Bool), cs = [v] ∧ VRel M0 [] w (.imm false (l.map fun b => [HV.bool b])) v ∧ l.length ≤ 9223372036854775807 := by
  obtain ⟨v, E, h1, h2, h3, h4⟩ := vrel_rows ht hc (by omega) h (fun r => ∃ b, r = [HV.bool b]) fun n cs' y hl hy => by
    obtain ⟨z, rfl⟩ := row_bool he hy
    exact ⟨_, rfl, ⟨z, rfl⟩, one_row (.bool _) rfl⟩
  obtain ⟨l, rfl⟩ := map_bools E h3
  refine ⟨v, l, h1, h2, ?_⟩
  have : maxLen = 9223372036854775807 := rfl
  simp at h4
  omega
end Go.Proofs.YthmjdhonafnabaaGreat
