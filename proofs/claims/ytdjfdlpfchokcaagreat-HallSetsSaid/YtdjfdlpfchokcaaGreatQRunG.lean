/-
What is known of calls for runs: an unknown number among the arguments; nothing as an empty piece; data alone.
No conditions.
-/
import Derived.Test.YtdjfdlpfchokcaaGreatQEngZ
import Derived.Test.YtdjfdlpfchokcaaGreatQEngWd
import Derived.Test.YtdjfdlpfchokcaaGreatQEngWd
set_option linter.unusedSectionVars false
set_option linter.unusedSimpArgs false
set_option linter.unusedVariables false
namespace Go.Eng
open Go
variable [Toks]
section
variable {P : Program} {f : FuncId} {PS : PL} {K : HV → PL → Prop}
theorem HCall.nil {args : List HV} (s : Nat) (h : HCall P f args PS fun r PS' => K r PS' ∨ (r = .imm true [] ∧ K (.sl PS'.length 0 0 0 none) (PS' ++ [.arr 0 s [] true]))) : HCall P f args PS K := by
 intro F e D w vs hr hf
 refine (h F e D w vs hr hf).mono ?_
 rintro en w' ⟨v, x, PS', e', D', rfl, hK, hr', ht, hx⟩
 rcases hK with hK | ⟨rfl, hK⟩
 ·exact ⟨v, x, PS', e', D', rfl, hK, hr', ht, hx⟩
 ·obtain ⟨hr2, ht2⟩ := hr'.addNil s
  refine ⟨v, _, _, _, _, rfl, hK, hr2, ht.trans ht2, ?_⟩
  cases hx with
  | imm _ _ a c b o sz val hc hm htt hn ha hb hsz h1c hcell hval =>
   have hc0 : c = 0 := htt rfl
   subst hc0
   exact .sl _ _ _ _ _ _ ⟨0, .nil⟩ (by simp [hr'.len]) (Nat.le_refl _) (fun _ => ⟨⟨a, rfl⟩, rfl, .inl rfl⟩) rfl
end
theorem drop_take1 {α : Type} {l : List α} {k : Nat} {x : α} (h : l[k]? = some x) : k + 1 ≤ l.length ∧ (l.drop k).take 1 = [x] := by
 obtain ⟨h1, h2⟩ := List.getElem?_eq_some_iff.1 h
 refine ⟨h1, ?_⟩
 rw [List.drop_eq_getElem_cons h1, h2]; rfl
end Go.Eng
