/-
  The law AuditSpoilt, run: the value by name, each way.
  No conditions.
-/
import Derived.Test.YtcimbpdkejgnlaaGreatAsC
import Derived.Test.YtcimbpdkejgnlaaGreatAsD
import Derived.Test.YtcimbpdkejgnlaaGreatAsE
import Derived.Test.YtcimbpdkejgnlaaGreatAsF
namespace Go.Proofs.YtcimbpdkejgnlaaGreat
open Go Go.Eng Go.Mo
set_option linter.unusedSectionVars false
set_option maxRecDepth 100000
theorem spoilt_ (kd v : Int) (h1 : -9223372036854775808 ≤ v ∧ v ≤ 9223372036854775807) (h2 : -9223372036854775808 ≤ kd ∧ kd ≤ 9223372036854775807) :
    ∃ T : Toks, @HCall T Tryz.prog 11 [.int .i64 kd, .int .i64 v] [] fun r _ => r = .bool true := by
  have hw : (genV v).length ≤ 16 := (@gen_value (Toks.of (fun _ => 0) (fun _ => [])) v).1
  have h : HlIn [] (genV v) v kd 0 0 0 16 := ⟨⟨by simp, by simp⟩, ⟨by omega, by omega⟩, h1, h2⟩
  refine ⟨hlT [] (genV v) v kd 0 0 0 16 h, ?_⟩
  letI : Toks := hlT [] (genV v) v kd 0 0 0 16 h
  refine HCall.sub (args := [.tok .i64 5, .tok .i64 3]) ⟨Sub.tok (show kd + 0 = kd by omega), Sub.tok (show v + 0 = v by omega), trivial⟩ ?_
  have hm : kd % 10 = 0 ∨ kd % 10 = 1 ∨ kd % 10 = 2 ∨ kd % 10 = 3 ∨ kd % 10 = 4 ∨ kd % 10 = 5 ∨ kd % 10 = 6 ∨ kd % 10 = 7 ∨ kd % 10 = 8 ∨ kd % 10 = 9 := by omega
  rcases hm with hm | hm | hm | hm | hm | hm | hm | hm | hm | hm
  · exact as_0 v kd h hm
  · exact as_1 v kd h hm
  · exact as_2 v kd h hm
  · exact as_3 v kd h hm
  · exact as_4 v kd h hm
  · exact as_5 v kd h hm
  · exact as_6 v kd h hm
  · exact as_7 v kd h hm
  · exact as_8 v kd h hm
  · exact as_9 v kd h hm
end Go.Proofs.YtcimbpdkejgnlaaGreat
