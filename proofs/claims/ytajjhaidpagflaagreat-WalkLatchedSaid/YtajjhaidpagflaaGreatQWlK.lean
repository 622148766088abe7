/-
A slice of numbers that comes in, its length.
The law WalkLatched: of any numbers.
No conditions.
-/
import Derived.Test.YtajjhaidpagflaaGreatQHm1
import Derived.Test.YtajjhaidpagflaaGreatProg
import Derived.SizedLaws
import Derived.Test.YtajjhaidpagflaaGreatQWlD
import Derived.Test.YtajjhaidpagflaaGreatQWlR510
import Derived.Test.YtajjhaidpagflaaGreatQWlR511
import Derived.Test.YtajjhaidpagflaaGreatQWlR520
import Derived.Test.YtajjhaidpagflaaGreatQWlR521
import Derived.Test.YtajjhaidpagflaaGreatQWlR530
import Derived.Test.YtajjhaidpagflaaGreatQWlR531
import Derived.Test.YtajjhaidpagflaaGreatQWlR610
import Derived.Test.YtajjhaidpagflaaGreatQWlR611
import Derived.Test.YtajjhaidpagflaaGreatQWlA51
import Derived.Test.YtajjhaidpagflaaGreatQWlA52
import Derived.Test.YtajjhaidpagflaaGreatQWlA53
import Derived.Test.YtajjhaidpagflaaGreatQWlA61
set_option linter.unusedSectionVars false
set_option linter.unusedSimpArgs false
set_option linter.unusedVariables false
namespace Go.Proofs.YtajjhaidpagflaaGreat
open Go Go.Eng Go.RowKit Go.WideShapes Go.ChangeShapes Go.Deep
open Go.Mo
theorem ints_any {T T':Toks} {M:Nat→Prop} {e:List Pos} {w:World} {t:Bool} {l:List Int} {v:Value} (h: @VRel T M e w (.imm t (l.map kidL)) v): @VRel T' M e w (.imm t (l.map kidL)) v:=by
  cases h with
  | imm _ _ a c b o sz val hc hm ht hn ha hb hsz h1c hcell hval=>
    refine .imm t _ a c b o sz val hc hm ht hn ha hb hsz h1c hcell fun i r k z hi hk=>?_
    obtain⟨n,_,rfl⟩:=List.mem_map.1 (List.mem_of_getElem? hi)
    have h1:=hval i _ k z hi hk
    have hz:=List.mem_of_getElem? hk
    simp only[kidL,List.mem_cons,List.not_mem_nil,or_false] at hz
    subst hz
    generalize val i k=u at h1
    cases h1
    exact .int _ _
theorem ints_len {T:Toks} {M:Nat→Prop} {e:List Pos} {w:World} {t:Bool} {l:List Int} {a:Option Addr} {n c:Nat} (h: @VRel T M e w (.imm t (l.map kidL)) (.slice a n c)):n=l.length:=by
  cases h with
  | imm=>rw[List.length_map]
theorem int_rows:∀E:List (List HV),(∀r∈E,∃n,r=kidL n)→∃l:List Int,E=l.map kidL
  | [],_=>⟨[],rfl⟩
  | r::E,h=>by
    obtain⟨n,rfl⟩:=h r (by simp)
    obtain⟨l,rfl⟩:=int_rows E fun r hr=>h r (by simp[hr])
    exact⟨n::l,rfl⟩
theorem int_size:Tryz.prog.bytesOf 3=8:=by kernel_rfl
theorem open_ints {H:Type} {enc:TypeId×Value→H} {w:World} {base fuel:Nat} {held:Bool} {cs:List Value} {x:DataW H×List MemPlace} (h:DataW.trod enc Tryz.prog w base (fun _=>true) held fuel 22 cs=some x):
    ∃(v:Value) (l:List Int),cs=[v]∧(∀T:Toks,@VRel T M0 [] w (.imm false (l.map kidL)) v)∧
      ∀(ts:List TypeId) (ds:List (DataW H)) (j:Nat),ts[j]? =some 22→ds[j]? =some x.1→(DataW.weightsEach Tryz.prog ts ds).all (· ≤reachBytes)=true→l.length≤17592186044400:=by
  letI:Toks:=Toks.of (fun _=>0) (fun _=>[])
  obtain⟨v,E,h1,h2,h3,_⟩:=vrel_rows (sz:=1) Tryz.underlying22 (by kernel_rfl) (by omega) h (fun r=>∃n,r=kidL n) fun n cs' y hl hy=>by
    obtain⟨z,_,rfl⟩:=row_int Tryz.underlying3 hy
    exact⟨_,rfl,⟨z,rfl⟩,one_row (.int _ _) rfl⟩
  obtain⟨l,rfl⟩:=int_rows E h3
  refine⟨v,l,h1,fun T=>ints_any h2,fun ts ds j ht hd hs=>?_⟩
  rcases open_slice Tryz.underlying22 h with ⟨h4,_⟩ | ⟨a,len,cap,m,n,D,Pl,h4,_,_,_,_,rfl,_⟩
  · rw[h1] at h4
    cases h4
    have:=ints_len h2
    omega
  · rw[h1] at h4
    cases h4
    have hn:=ints_len h2
    have:=sized_slice hs ht hd Tryz.underlying22
    rw[int_size,List.length_map,List.length_range] at this
    unfold reachBytes at this
    omega
end Go.Proofs.YtajjhaidpagflaaGreat
namespace Go.Proofs.YtajjhaidpagflaaGreat
open Go Go.Eng Go.Ow
open Go.Mo
set_option maxRecDepth 100000
theorem latched_ (ps es ls:List Int) (v:Int) (b:Bool) (hl:ps.length≤17592186044400):∃T:Toks,@HCall T Tryz.prog 3 [.imm false (ps.map kidL),.imm false (es.map kidL),.imm false (ls.map kidL),.int .i64 v,.bool b] [] fun r _=>r=.bool true:=by
  have main:∀(p c:Nat) (qs:List Int) (hp:p=5∨p=6) (h0:qs≠[]) (hq:qs.length≤17592186044400) (hc:(pvI p qs).length=c),(p=5∧qs=ps∨p=6∧ps=[])→
      ∀(w:HV) (n:Nat) (E:Ents2),(∀(R:Nat→List (List HV)) (N:Nat→Int) (h:WlIn R p c),@TabOk (wlT R N p c h) (tabP p c)→ @CutR (wlT R N p c h) Tryz.prog 4 (patW p) 0 [] w n E)→
      (∀(R:Nat→List (List HV)) (N:Nat→Int) (h:WlIn R p c) (j:Nat),j≤c→ @Runs (wlT R N p c h) p c j (.bool b) w n E)→
      ∃T:Toks,@HCall T Tryz.prog 3 [.imm false (ps.map kidL),.imm false (es.map kidL),.imm false (ls.map kidL),.int .i64 v,.bool b] [] fun r _=>r=.bool true:=fun p c qs hp h0 hq hc hx w n E hA hR=>by
    have hin:=wl_in p hp qs es ls h0 hq c hc
    refine⟨wlT (wlR p qs es ls) (wlN p qs es ls v) p c hin,?_⟩
    letI T:Toks:=wlT (wlR p qs es ls) (wlN p qs es ls v) p c hin
    have ok:=wl_ok p hp qs es ls v h0 hq c hc (jW p qs v) rfl (foM ls v).2 (foE p qs es v).2 (if (foM ls v).2 then (foA p qs es ls v).2 else (foE p qs es v).2) rfl rfl (fun h=>by rw[if_pos h])
    have hjc:jW p qs v≤c:=by rw[←hc];exact kid_le _ _
    have go:=runs_h (hR _ _ hin (jW p qs v) hjc) (hA _ _ hin fun x hx=>ok x (List.mem_append_left _ hx)) (foM ls v).2 (foE p qs es v).2 (if (foM ls v).2 then (foA p qs es ls v).2 else (foE p qs es v).2) (fun h=>by rw[h];rfl) ok
    have e3:wlR p qs es ls 3=es.map kidL:=by simp[wlR]
    have e4:wlR p qs es ls 4=ls.map kidL:=by simp[wlR]
    have e40:Toks.num 40=v:=by
      show wlN p qs es ls v 40=v
      simp[wlN]
    refine HCall.sub (args:=[pvW p,.nam 3,.nam 4,.tok .i64 40,.bool b]) ⟨?_,Sub.nam rfl e3,Sub.nam rfl e4,Sub.tok e40,Sub.refl _,trivial⟩ go
    rcases hx with ⟨rfl,rfl⟩ | ⟨rfl,rfl⟩
    · exact Sub.nam rfl (by show wlR 5 qs es ls 1=_;simp[wlR])
    · exact Sub.refl _
  by_cases h0:ps=[]
  · refine main 6 1 [0] (.inr rfl) (by simp) (by simp) (by
      letI:Toks:=Toks.of (fun _=>0) (fun _=>[])
      simp[pvI,pivOf_one]) (.inr ⟨rfl,h0⟩) w61v w61n w61m plant61_ fun R N h j hj=>?_
    match j,hj,b with
    | 0,_,false=>exact⟨run61_00n R N h,run61_00m R N h,run61_00k R N h⟩
    | 1,_,false=>exact⟨run61_10n R N h,run61_10m R N h,run61_10k R N h⟩
    | 0,_,true=>exact⟨run61_01n R N h,run61_01m R N h,run61_01k R N h⟩
    | 1,_,true=>exact⟨run61_11n R N h,run61_11m R N h,run61_11k R N h⟩
  · obtain⟨hp,h1⟩:=pvI_ok 5 ps
    have h3:=hp.few
    have hc:(pvI 5 ps).length=1∨(pvI 5 ps).length=2∨(pvI 5 ps).length=3:=by omega
    rcases hc with hc | hc | hc
    · refine main 5 1 ps (.inl rfl) h0 hl hc (.inl ⟨rfl,rfl⟩) w51v w51n w51m plant51_ fun R N h j hj=>?_
      match j,hj,b with
      | 0,_,false=>exact⟨run51_00n R N h,run51_00m R N h,run51_00k R N h⟩
      | 1,_,false=>exact⟨run51_10n R N h,run51_10m R N h,run51_10k R N h⟩
      | 0,_,true=>exact⟨run51_01n R N h,run51_01m R N h,run51_01k R N h⟩
      | 1,_,true=>exact⟨run51_11n R N h,run51_11m R N h,run51_11k R N h⟩
    · refine main 5 2 ps (.inl rfl) h0 hl hc (.inl ⟨rfl,rfl⟩) w52v w52n w52m plant52_ fun R N h j hj=>?_
      match j,hj,b with
      | 0,_,false=>exact⟨run52_00n R N h,run52_00m R N h,run52_00k R N h⟩
      | 1,_,false=>exact⟨run52_10n R N h,run52_10m R N h,run52_10k R N h⟩
      | 2,_,false=>exact⟨run52_20n R N h,run52_20m R N h,run52_20k R N h⟩
      | 0,_,true=>exact⟨run52_01n R N h,run52_01m R N h,run52_01k R N h⟩
      | 1,_,true=>exact⟨run52_11n R N h,run52_11m R N h,run52_11k R N h⟩
      | 2,_,true=>exact⟨run52_21n R N h,run52_21m R N h,run52_21k R N h⟩
    · refine main 5 3 ps (.inl rfl) h0 hl hc (.inl ⟨rfl,rfl⟩) w53v w53n w53m plant53_ fun R N h j hj=>?_
      match j,hj,b with
      | 0,_,false=>exact⟨run53_00n R N h,run53_00m R N h,run53_00k R N h⟩
      | 1,_,false=>exact⟨run53_10n R N h,run53_10m R N h,run53_10k R N h⟩
      | 2,_,false=>exact⟨run53_20n R N h,run53_20m R N h,run53_20k R N h⟩
      | 3,_,false=>exact⟨run53_30n R N h,run53_30m R N h,run53_30k R N h⟩
      | 0,_,true=>exact⟨run53_01n R N h,run53_01m R N h,run53_01k R N h⟩
      | 1,_,true=>exact⟨run53_11n R N h,run53_11m R N h,run53_11k R N h⟩
      | 2,_,true=>exact⟨run53_21n R N h,run53_21m R N h,run53_21k R N h⟩
      | 3,_,true=>exact⟨run53_31n R N h,run53_31m R N h,run53_31k R N h⟩
end Go.Proofs.YtajjhaidpagflaaGreat
