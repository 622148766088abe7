/-
A slice of numbers that comes in, its length.
No conditions.
-/
import Derived.Test.YtbmibhjjogobhaaGreatQHm1
import Derived.Test.YtbmibhjjogobhaaGreatProg
import Derived.SizedLaws
import Derived.Test.YtbmibhjjogobhaaGreatQFdD
import Derived.Test.YtbmibhjjogobhaaGreatQFdA51
import Derived.Test.YtbmibhjjogobhaaGreatQFdA52
import Derived.Test.YtbmibhjjogobhaaGreatQFdA53
import Derived.Test.YtbmibhjjogobhaaGreatQFdA61
set_option linter.unusedSectionVars false
set_option linter.unusedSimpArgs false
set_option linter.unusedVariables false
namespace Go.Proofs.YtbmibhjjogobhaaGreat
open Go Go.Eng Go.RowKit Go.WideShapes Go.ChangeShapes Go.Deep
open Go.Mo
theorem zKM {T T':zB} {M:Nat→Prop} {e:List Pos} {w:World} {t:Bool} {l:List Int} {v:Value} (h: @zH T M e w (.imm t (l.map zY)) v): @zH T' M e w (.imm t (l.map zY)) v:=by
 cases h with
 | imm _ _ a c b o sz val hc hm ht hn ha hb hsz h1c hcell zT=>
  refine .imm t _ a c b o sz val hc hm ht hn ha hb hsz h1c hcell fun i r k z hi hk=>?_
  obtain⟨n,_,rfl⟩:=List.mem_map.1 (List.mem_of_getElem? hi)
  have h1:=zT i _ k z hi hk
  have hz:=List.mem_of_getElem? hk
  simp only[zY,List.mem_cons,List.not_mem_nil,or_false] at hz
  subst hz
  generalize val i k=u at h1
  cases h1
  exact .int _ _
theorem zBT {T:zB} {M:Nat→Prop} {e:List Pos} {w:World} {t:Bool} {l:List Int} {a:Option Addr} {n c:Nat} (h: @zH T M e w (.imm t (l.map zY)) (.slice a n c)):n=l.length:=by
 cases h with
 | imm=>rw[List.length_map]
theorem zD8:∀E:List (List HV),(∀r∈E,∃n,r=zY n)→∃l:List Int,E=l.map zY
 | [],_=>⟨[],rfl⟩
 | r::E,h=>by
  obtain⟨n,rfl⟩:=h r (by simp)
  obtain⟨l,rfl⟩:=zD8 E fun r hr=>h r (by simp[hr])
  exact⟨n::l,rfl⟩
theorem zI5:Tryz.prog.bytesOf 3=8:=by kernel_rfl
theorem open_ints {H:Type} {enc:TypeId×Value→H} {w:World} {base fuel:Nat} {held:Bool} {cs:List Value} {x:DataW H×List MemPlace} (h:DataW.trod enc Tryz.prog w base (fun _=>true) held fuel 22 cs=some x):
  ∃(v:Value) (l:List Int),cs=[v]∧(∀T:zB,@zH T M0 [] w (.imm false (l.map zY)) v)∧
   ∀(ts:List TypeId) (ds:List (DataW H)) (j:Nat),ts[j]? =some 22→ds[j]? =some x.1→(DataW.weightsEach Tryz.prog ts ds).all (· ≤reachBytes)=true→l.length≤17592186044400:=by
 letI:zB:=zB.of (fun _=>0) (fun _=>[])
 obtain⟨v,E,h1,h2,h3,_⟩:=zJK (sz:=1) Tryz.underlying22 (by kernel_rfl) (by omega) h (fun r=>∃n,r=zY n) fun n cs' y hl hy=>by
  obtain⟨z,_,rfl⟩:=zM2 Tryz.underlying3 hy
  exact⟨_,rfl,⟨z,rfl⟩,zJU (.int _ _) rfl⟩
 obtain⟨l,rfl⟩:=zD8 E h3
 refine⟨v,l,h1,fun T=>zKM h2,fun ts ds j ht hd hs=>?_⟩
 rcases open_slice Tryz.underlying22 h with ⟨h4,_⟩ | ⟨a,len,cap,m,n,D,Pl,h4,_,_,_,_,rfl,_⟩
 ·rw[h1] at h4
  cases h4
  have:=zBT h2
  omega
 ·rw[h1] at h4
  cases h4
  have hn:=zBT h2
  have:=sized_slice hs ht hd Tryz.underlying22
  rw[zI5,List.length_map,List.length_range] at this
  unfold reachBytes at this
  omega
end Go.Proofs.YtbmibhjjogobhaaGreat
namespace Go.Proofs.YtbmibhjjogobhaaGreat
open Go Go.Eng Go.Ow
open Go.Mo
set_option maxRecDepth 100000
theorem zMs (ps es ls:List Int) (g:Bool) (hl:ps.length≤17592186044400):∃T:zB,@zI T Tryz.prog 3 [.imm false (ps.map zY),.imm false (es.map zY),.imm false (ls.map zY),.bool g] [] fun r _=>r=.bool true:=by
 have main:∀(p c:Nat) (qs:List Int) (hp:p=5∨p=6) (h0:qs≠[]) (hq:qs.length≤17592186044400) (hc:(pvI p qs).length=c),(p=5∧qs=ps∨p=6∧ps=[])→
   (∀(R:Nat→List (List HV)) (N:Nat→Int) (b:Bool) (h:qI R N p c b) (_: @yg (fdT R N p c b h) Tryz.prog 98 yu) (_: @qH (fdT R N p c b h) (qB p c)),@zI (fdT R N p c b h) Tryz.prog 3 [pvW p,.nam 3,.nam 4,.bool g] [] fun r _=>r=.bool true)→
   ∃T:zB,@zI T Tryz.prog 3 [.imm false (ps.map zY),.imm false (es.map zY),.imm false (ls.map zY),.bool g] [] fun r _=>r=.bool true:=fun p c qs hp h0 hq hc hx run=>by
  have hin:=GL p hp qs es ls h0 hq c hc (decide (103≤byW p qs ls)) rfl
  refine⟨fdT (fdR p qs es ls) (fdN p qs es ls) p c (decide (103≤byW p qs ls)) hin,?_⟩
  letI T:zB:=fdT (fdR p qs es ls) (fdN p qs es ls) p c (decide (103≤byW p qs ls)) hin
  have go:=run _ _ _ hin zN8 (zMX p hp qs es ls h0 hq c hc _ rfl)
  have e3:fdR p qs es ls 3=es.map zY:=by simp[fdR]
  have e4:fdR p qs es ls 4=ls.map zY:=by simp[fdR]
  refine zI.sub (args:=[pvW p,.nam 3,.nam 4,.bool g]) ⟨?_,Sub.nam rfl e3,Sub.nam rfl e4,Sub.refl _,trivial⟩ go
  rcases hx with ⟨rfl,rfl⟩ | ⟨rfl,rfl⟩
  ·exact Sub.nam rfl (by show fdR 5 qs es ls 1=_;simp[fdR])
  ·exact Sub.refl _
 by_cases h0:ps=[]
 ·refine main 6 1 [0] (.inr rfl) (by simp) (by simp) (by
   letI:zB:=zB.of (fun _=>0) (fun _=>[])
   simp[pvI,zAG]) (.inr ⟨rfl,h0⟩) fun R N b h hs ok=>?_
  match b,g,h,hs,ok with
  | true,true,h,hs,ok=>exact zGi R N h hs ok
  | true,false,h,hs,ok=>exact zOA R N h hs ok
  | false,true,h,hs,ok=>exact zGh R N h hs ok
  | false,false,h,hs,ok=>exact zHt R N h hs ok
 ·obtain⟨hp,h1⟩:=GM 5 ps
  have h3:=hp.few
  have hc:(pvI 5 ps).length=1∨(pvI 5 ps).length=2∨(pvI 5 ps).length=3:=by omega
  rcases hc with hc | hc | hc
  ·refine main 5 1 ps (.inl rfl) h0 hl hc (.inl ⟨rfl,rfl⟩) fun R N b h hs ok=>?_
   match b,g,h,hs,ok with
   | true,true,h,hs,ok=>exact zLy R N h hs ok
   | true,false,h,hs,ok=>exact zHs R N h hs ok
   | false,true,h,hs,ok=>exact zH4 R N h hs ok
   | false,false,h,hs,ok=>exact zO0 R N h hs ok
  ·refine main 5 2 ps (.inl rfl) h0 hl hc (.inl ⟨rfl,rfl⟩) fun R N b h hs ok=>?_
   match b,g,h,hs,ok with
   | true,true,h,hs,ok=>exact zOj R N h hs ok
   | true,false,h,hs,ok=>exact zO1 R N h hs ok
   | false,true,h,hs,ok=>exact zLZ R N h hs ok
   | false,false,h,hs,ok=>exact zNu R N h hs ok
  ·refine main 5 3 ps (.inl rfl) h0 hl hc (.inl ⟨rfl,rfl⟩) fun R N b h hs ok=>?_
   match b,g,h,hs,ok with
   | true,true,h,hs,ok=>exact zJ9 R N h hs ok
   | true,false,h,hs,ok=>exact zGC R N h hs ok
   | false,true,h,hs,ok=>exact zG5 R N h hs ok
   | false,false,h,hs,ok=>exact zLt R N h hs ok
end Go.Proofs.YtbmibhjjogobhaaGreat
