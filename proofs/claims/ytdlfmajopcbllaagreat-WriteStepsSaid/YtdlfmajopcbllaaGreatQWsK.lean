/-
A slice of numbers that comes in, its length.
The law WriteSteps: of any numbers.
No conditions.
-/
import Derived.Test.YtdlfmajopcbllaaGreatQHm1
import Derived.Test.YtdlfmajopcbllaaGreatProg
import Derived.SizedLaws
import Derived.Test.YtdlfmajopcbllaaGreatQWsG
import Derived.Test.YtdlfmajopcbllaaGreatQWsQ
import Derived.Test.YtdlfmajopcbllaaGreatQWsR
import Derived.Test.YtdlfmajopcbllaaGreatQWsS
import Derived.Test.YtdlfmajopcbllaaGreatQWsT
set_option linter.unusedSectionVars false
set_option linter.unusedSimpArgs false
set_option linter.unusedVariables false
namespace Go.Proofs.YtdlfmajopcbllaaGreat
open Go Go.Eng Go.RowKit Go.WideShapes Go.ChangeShapes Go.Deep
open Go.Mo
theorem ints_any {T T':Toks} {M:Nat→Prop} {e:List Pos} {w:World} {t:Bool} {l:List Int} {v:Value} (h: @VRel T M e w (.imm t (l.map kidL)) v): @VRel T' M e w (.imm t (l.map kidL)) v:=by
  cases h with
  | imm _ _ a c b o sz val hc hm ht hn ha hb hsz h1c hcell hval=>
    refine .imm t _ a c b o sz val hc hm ht hn ha hb hsz h1c hcell fun i r k z hi hk=>?_
    obtain⟨n,_,rfl⟩:=List.mem_map.1 (List.mem_of_getElem? hi)
    have h1:=hval i _ k z hi hk
    have hz:=List.mem_of_getElem? hk
    simp only[kidL,List.mem_cons,List.not_mem_nil,or_false] at hz
    subst hz
    generalize val i k=u at h1
    cases h1
    exact .int _ _
theorem ints_len {T:Toks} {M:Nat→Prop} {e:List Pos} {w:World} {t:Bool} {l:List Int} {a:Option Addr} {n c:Nat} (h: @VRel T M e w (.imm t (l.map kidL)) (.slice a n c)):n=l.length:=by
  cases h with
  | imm=>rw[List.length_map]
theorem int_rows:∀E:List (List HV),(∀r∈E,∃n,r=kidL n)→∃l:List Int,E=l.map kidL
  | [],_=>⟨[],rfl⟩
  | r::E,h=>by
    obtain⟨n,rfl⟩:=h r (by simp)
    obtain⟨l,rfl⟩:=int_rows E fun r hr=>h r (by simp[hr])
    exact⟨n::l,rfl⟩
theorem int_size:Tryz.prog.bytesOf 3=8:=by kernel_rfl
theorem open_ints {H:Type} {enc:TypeId×Value→H} {w:World} {base fuel:Nat} {held:Bool} {cs:List Value} {x:DataW H×List MemPlace} (h:DataW.trod enc Tryz.prog w base (fun _=>true) held fuel 22 cs=some x):
    ∃(v:Value) (l:List Int),cs=[v]∧(∀T:Toks,@VRel T M0 [] w (.imm false (l.map kidL)) v)∧
      ∀(ts:List TypeId) (ds:List (DataW H)) (j:Nat),ts[j]? =some 22→ds[j]? =some x.1→(DataW.weightsEach Tryz.prog ts ds).all (· ≤reachBytes)=true→l.length≤17592186044413:=by
  letI:Toks:=Toks.of (fun _=>0) (fun _=>[])
  obtain⟨v,E,h1,h2,h3,_⟩:=vrel_rows (sz:=1) Tryz.underlying22 (by kernel_rfl) (by omega) h (fun r=>∃n,r=kidL n) fun n cs' y hl hy=>by
    obtain⟨z,_,rfl⟩:=row_int Tryz.underlying3 hy
    exact⟨_,rfl,⟨z,rfl⟩,one_row (.int _ _) rfl⟩
  obtain⟨l,rfl⟩:=int_rows E h3
  refine⟨v,l,h1,fun T=>ints_any h2,fun ts ds j ht hd hs=>?_⟩
  rcases open_slice Tryz.underlying22 h with ⟨h4,_⟩ | ⟨a,len,cap,m,n,D,Pl,h4,_,_,_,_,rfl,_⟩
  · rw[h1] at h4
    cases h4
    have:=ints_len h2
    omega
  · rw[h1] at h4
    cases h4
    have hn:=ints_len h2
    have:=sized_slice hs ht hd Tryz.underlying22
    rw[int_size,List.length_map,List.length_range] at this
    unfold reachBytes at this
    omega
end Go.Proofs.YtdlfmajopcbllaaGreat
namespace Go.Proofs.YtdlfmajopcbllaaGreat
open Go Go.Eng Go.Ow
open Go.Mo
set_option maxRecDepth 100000
theorem ws_in' (p:Nat) (hp:p=5∨p=6) (ps es:List Int) (h0:ps≠[]) (hl:ps.length≤17592186044415) (c:Nat) (hc:(pvW p ps).length=c):WsIn (wsR p ps es) p c:=by
  subst hc;exact ws_in p hp ps es h0 hl
theorem ws_ok' (p:Nat) (hp:p=5∨p=6) (ps es:List Int) (v:Int) (h0:ps≠[]) (hl:ps.length≤17592186044415) (c:Nat) (hc:(pvW p ps).length=c) (K:List (List HV)) (hK:(kidI (c+1)).map kidL=K) (h:WsIn (wsR p ps es) p c):
    @WsOk (wsT (wsR p ps es) (wsN p ps es v) p c h) K p c zW:=by
  subst hc
  exact ws_ok p hp ps es v h0 hl K hK
theorem steps_ (ps es:List Int) (v:Int) (hl:ps.length≤17592186044413):∃T:Toks,@HCall T Tryz.prog 7 [.imm false (ps.map kidL),.imm false (es.map kidL),.int .i64 v] [] fun r _=>r=.bool true:=by
  have more:∀(c:Nat) (K:List (List HV)),ps≠[]→(pvW 5 ps).length=c→(kidI (c+1)).map kidL=K→
      (∀(R:Nat→List (List HV)) (N:Nat→Int) (h:WsIn R 5 c) (_: @WsOk (wsT R N 5 c h) K 5 c zW),@HCall (wsT R N 5 c h) Tryz.prog 7 [.nam 1,.nam 3,.tok .i64 40] [] fun r _=>r=.bool true)→
      ∃T:Toks,@HCall T Tryz.prog 7 [.imm false (ps.map kidL),.imm false (es.map kidL),.int .i64 v] [] fun r _=>r=.bool true:=fun c K h0 hc hK run=>by
    have h:=ws_in' 5 (.inl rfl) ps es h0 (by omega) c hc
    refine⟨wsT (wsR 5 ps es) (wsN 5 ps es v) 5 c h,?_⟩
    letI T:Toks:=wsT (wsR 5 ps es) (wsN 5 ps es v) 5 c h
    have e1:Toks.rows 1=ps.map kidL:=by show wsR 5 ps es 1=_;simp[wsR]
    have e3:Toks.rows 3=es.map kidL:=by show wsR 5 ps es 3=_;simp[wsR]
    have e40:Toks.num 40=v:=rfl
    exact HCall.sub (args:=[.nam 1,.nam 3,.tok .i64 40]) ⟨Sub.nam rfl e1,Sub.nam rfl e3,Sub.tok e40,trivial⟩ (run _ _ h (ws_ok' 5 (.inl rfl) ps es v h0 (by omega) c hc K hK h))
  by_cases h0:ps=[]
  · subst h0
    have hc:(pvW 6 [0]).length=1:=by
      letI:Toks:=Toks.of (fun _=>0) (fun _=>[])
      simp[pvW,pivOf_one]
    have h:=ws_in' 6 (.inr rfl) [0] es (by simp) (by simp) 1 hc
    refine⟨wsT (wsR 6 [0] es) (wsN 6 [0] es v) 6 1 h,?_⟩
    letI T:Toks:=wsT (wsR 6 [0] es) (wsN 6 [0] es v) 6 1 h
    have e3:Toks.rows 3=es.map kidL:=by show wsR 6 [0] es 3=_;simp[wsR]
    have e40:Toks.num 40=v:=rfl
    exact HCall.sub (args:=[.imm false [],.nam 3,.tok .i64 40]) ⟨Sub.refl _,Sub.nam rfl e3,Sub.tok e40,trivial⟩ (ws0 _ _ h (ws_ok' 6 (.inr rfl) [0] es v (by simp) (by simp) 1 hc kids2 rfl h))
  · obtain⟨hp,h1⟩:=pvW_ok 5 ps
    have h3:=hp.few
    have hc:(pvW 5 ps).length=1∨(pvW 5 ps).length=2∨(pvW 5 ps).length=3:=by omega
    rcases hc with hc | hc | hc
    · exact more 1 kids2 h0 hc rfl ws1
    · exact more 2 kids3 h0 hc rfl ws2
    · exact more 3 kids4 h0 hc rfl ws3
end Go.Proofs.YtdlfmajopcbllaaGreat
