/-
Comparing strings: the library's function by its law.
No conditions.
-/
import Derived.Test.YtajjhaidpagflaaGreatQEngZ
import Derived.Test.YtajjhaidpagflaaGreatQFactsA
import Derived.Lib.Bytealg
set_option linter.unusedSectionVars false
set_option linter.unusedSimpArgs false
set_option linter.unusedVariables false
namespace Go.Proofs.YtajjhaidpagflaaGreat
open Go Go.Eng
variable [Toks]
set_option maxHeartbeats 1000000 in
set_option maxRecDepth 100000 in
theorem cmp_calls (a b:ByteArray) (w:World):
    Calls Tryz.prog 248 #[.string a,.string b] w fun e w'=>e=.returned (.int .i64 (Lib.compareBytes a.data.toList b.data.toList))∧w'=w:=by
  go_enter Tryz.func248,Tryz.ntmps248
  go_wp2
  rw[run_callFunc_extern Tryz.func262 (by kernel_rfl) (by kernel_rfl) (by kernel_rfl) (e:=Extern.BytealgCompare.compare) (by kernel_rfl),Lib.run_compareString]
  simp only[Result.andThen]
  rw[Oper.upon_value]
  go_wp2
  go_ret
  exact⟨rfl,rfl⟩
theorem cmp_pure (a b:List UInt8):Pure Tryz.prog 248 [.str a,.str b] (.int .i64 (Lib.compareBytes a b)):=by
  intro PS F e D w vs hr hf
  obtain⟨hl,hv⟩:=hf
  match vs,hl with
  | ⟨[x,y]⟩,_=>
    have hx:VRel (Mut F D) e w (.str a) x:=hv 0 _ _ rfl rfl
    have hy:VRel (Mut F D) e w (.str b) y:=hv 1 _ _ rfl rfl
    cases hx
    cases hy
    refine(cmp_calls ⟨a.toArray⟩ ⟨b.toArray⟩ w).mono ?_
    rintro en w' ⟨rfl,rfl⟩
    exact⟨_,_,PS,e,D,rfl,⟨rfl,rfl⟩,hr,Tr.refl _ _ _,by simpa using .int _ _⟩
set_option maxRecDepth 20000
attribute [local irreducible] hvc hops hop hplan hdrawP hval1 hopD HLoop
theorem strings_compare (a b:List UInt8):Pure Tryz.prog 209 [.str a,.str b] (.int .i64 (Lib.compareBytes a b)):=by
  intro PS
  refine enter_209 (by unfold Tryz.f209;exact rfl) ?_
  simp only[go_sem,seval, -List.reduceReplicate]
  refine pend_intro ((cmp_pure a b).call ?_)
  simp only[go_sem,seval, -List.reduceReplicate]
end Go.Proofs.YtajjhaidpagflaaGreat
