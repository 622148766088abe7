/-
Comparing strings: the library's function by its law.
No conditions.
-/
import Derived.Test.YtbmibhjjogobhaaGreatQEngZ
import Derived.Test.YtbmibhjjogobhaaGreatQFactsA
import Derived.Lib.Bytealg
set_option linter.unusedSectionVars false
set_option linter.unusedSimpArgs false
set_option linter.unusedVariables false
namespace Go.Proofs.YtbmibhjjogobhaaGreat
open Go Go.Eng
variable [zB]
set_option maxHeartbeats 1000000 in
set_option maxRecDepth 100000 in
theorem zLW (a b:ByteArray) (w:World):
  Calls Tryz.prog 305 #[.string a,.string b] w fun e w'=>e=.returned (.int .i64 (Lib.compareBytes a.data.toList b.data.toList))∧w'=w:=by
 go_enter Tryz.func305,Tryz.ntmps305
 go_wp2
 rw[run_callFunc_extern Tryz.func307 (by kernel_rfl) (by kernel_rfl) (by kernel_rfl) (e:=Extern.BytealgCompare.compare) (by kernel_rfl),Lib.run_compareString]
 simp only[Result.andThen]
 rw[Oper.upon_value]
 go_wp2
 go_ret
 exact⟨rfl,rfl⟩
theorem zIE (a b:List UInt8):Pure Tryz.prog 305 [.str a,.str b] (.int .i64 (Lib.compareBytes a b)):=by
 intro PS F e D w vs hr hf
 obtain⟨hl,hv⟩:=hf
 match vs,hl with
 | ⟨[x,y]⟩,_=>
  have hx:zH (Mut F D) e w (.str a) x:=hv 0 _ _ rfl rfl
  have hy:zH (Mut F D) e w (.str b) y:=hv 1 _ _ rfl rfl
  cases hx
  cases hy
  refine(zLW ⟨a.toArray⟩ ⟨b.toArray⟩ w).mono ?_
  rintro en w' ⟨rfl,rfl⟩
  exact⟨_,_,PS,e,D,rfl,⟨rfl,rfl⟩,hr,Tr.refl _ _ _,by simpa using .int _ _⟩
set_option maxRecDepth 20000
attribute [local irreducible] hvc zf hop zg yI zb zu yQ
theorem zBR (a b:List UInt8):Pure Tryz.prog 299 [.str a,.str b] (.int .i64 (Lib.compareBytes a b)):=by
 intro PS
 refine zRx (by unfold Tryz.f299;exact rfl) ?_
 simp only[go_sem,seval, -List.reduceReplicate]
 refine zG ((zIE a b).call ?_)
 simp only[go_sem,seval, -List.reduceReplicate]
end Go.Proofs.YtbmibhjjogobhaaGreat
