/-
A slice of numbers that comes in, its length.
The law RoomLevels: of any numbers.
No conditions.
-/
import Derived.Test.YtgglehcchdkbdaaGreatQHm1
import Derived.Test.YtgglehcchdkbdaaGreatProg
import Derived.SizedLaws
import Derived.Test.YtgglehcchdkbdaaGreatQRlC
import Derived.Test.YtgglehcchdkbdaaGreatQRlR0
import Derived.Test.YtgglehcchdkbdaaGreatQRlR1
import Derived.Test.YtgglehcchdkbdaaGreatQRlR2
import Derived.Test.YtgglehcchdkbdaaGreatQRlR3
import Derived.Test.YtgglehcchdkbdaaGreatQRlR4
import Derived.Test.YtgglehcchdkbdaaGreatQRlR5
import Derived.Test.YtgglehcchdkbdaaGreatQRlR6
import Derived.Test.YtgglehcchdkbdaaGreatQRlR7
set_option linter.unusedSectionVars false
set_option linter.unusedSimpArgs false
set_option linter.unusedVariables false
namespace Go.Proofs.YtgglehcchdkbdaaGreat
open Go Go.Eng Go.RowKit Go.WideShapes Go.ChangeShapes Go.Deep
open Go.Mo
theorem ints_any {T T':Toks} {M:Nat→Prop} {e:List Pos} {w:World} {t:Bool} {l:List Int} {v:Value} (h: @VRel T M e w (.imm t (l.map kidL)) v): @VRel T' M e w (.imm t (l.map kidL)) v:=by
  cases h with
  | imm _ _ a c b o sz val hc hm ht hn ha hb hsz h1c hcell hval=>
    refine .imm t _ a c b o sz val hc hm ht hn ha hb hsz h1c hcell fun i r k z hi hk=>?_
    obtain⟨n,_,rfl⟩:=List.mem_map.1 (List.mem_of_getElem? hi)
    have h1:=hval i _ k z hi hk
    have hz:=List.mem_of_getElem? hk
    simp only[kidL,List.mem_cons,List.not_mem_nil,or_false] at hz
    subst hz
    generalize val i k=u at h1
    cases h1
    exact .int _ _
theorem ints_len {T:Toks} {M:Nat→Prop} {e:List Pos} {w:World} {t:Bool} {l:List Int} {a:Option Addr} {n c:Nat} (h: @VRel T M e w (.imm t (l.map kidL)) (.slice a n c)):n=l.length:=by
  cases h with
  | imm=>rw[List.length_map]
theorem int_rows:∀E:List (List HV),(∀r∈E,∃n,r=kidL n)→∃l:List Int,E=l.map kidL
  | [],_=>⟨[],rfl⟩
  | r::E,h=>by
    obtain⟨n,rfl⟩:=h r (by simp)
    obtain⟨l,rfl⟩:=int_rows E fun r hr=>h r (by simp[hr])
    exact⟨n::l,rfl⟩
theorem int_size:Tryz.prog.bytesOf 3=8:=by kernel_rfl
theorem open_ints {H:Type} {enc:TypeId×Value→H} {w:World} {base fuel:Nat} {held:Bool} {cs:List Value} {x:DataW H×List MemPlace} (h:DataW.trod enc Tryz.prog w base (fun _=>true) held fuel 22 cs=some x):
    ∃(v:Value) (l:List Int),cs=[v]∧(∀T:Toks,@VRel T M0 [] w (.imm false (l.map kidL)) v)∧
      ∀(ts:List TypeId) (ds:List (DataW H)) (j:Nat),ts[j]? =some 22→ds[j]? =some x.1→(DataW.weightsEach Tryz.prog ts ds).all (· ≤reachBytes)=true→l.length≤17592186044400:=by
  letI:Toks:=Toks.of (fun _=>0) (fun _=>[])
  obtain⟨v,E,h1,h2,h3,_⟩:=vrel_rows (sz:=1) Tryz.underlying22 (by kernel_rfl) (by omega) h (fun r=>∃n,r=kidL n) fun n cs' y hl hy=>by
    obtain⟨z,_,rfl⟩:=row_int Tryz.underlying3 hy
    exact⟨_,rfl,⟨z,rfl⟩,one_row (.int _ _) rfl⟩
  obtain⟨l,rfl⟩:=int_rows E h3
  refine⟨v,l,h1,fun T=>ints_any h2,fun ts ds j ht hd hs=>?_⟩
  rcases open_slice Tryz.underlying22 h with ⟨h4,_⟩ | ⟨a,len,cap,m,n,D,Pl,h4,_,_,_,_,rfl,_⟩
  · rw[h1] at h4
    cases h4
    have:=ints_len h2
    omega
  · rw[h1] at h4
    cases h4
    have hn:=ints_len h2
    have:=sized_slice hs ht hd Tryz.underlying22
    rw[int_size,List.length_map,List.length_range] at this
    unfold reachBytes at this
    omega
end Go.Proofs.YtgglehcchdkbdaaGreat
namespace Go.Proofs.YtgglehcchdkbdaaGreat
open Go Go.Eng Go.Ow
open Go.Mo
set_option maxRecDepth 100000
theorem levels_ (ps es ls:List Int) (v:Int) (hl:ps.length≤17592186044400) (hls:ls.length≤17592186044400):∃T:Toks,@HCall T Tryz.prog 3 [.imm false (ps.map kidL),.imm false (es.map kidL),.imm false (ls.map kidL),.int .i64 v] [] fun r _=>r=.bool true:=by
  have main:∀qs:List Int,(h0:qs≠[])→(hq:qs.length≤17592186044400)→∀x:HV,(x=.nam 1∧qs=ps∨x=.imm false []∧ps=[])→∃T:Toks,@HCall T Tryz.prog 3 [.imm false (ps.map kidL),.imm false (es.map kidL),.imm false (ls.map kidL),.int .i64 v] [] fun r _=>r=.bool true:=fun qs h0 hq x hx=>by
    have hin:=rl_in qs es ls h0 hq
    refine⟨rlT (rlR qs es ls) (rlN v) hin,?_⟩
    letI T:Toks:=rlT (rlR qs es ls) (rlN v) hin
    have go:HCall Tryz.prog 3 [x,.nam 6,.nam 4,.tok .i64 40] [] fun r _=>r=.bool true:=by
      have ok:=rl_ok qs es ls v h0 hq hls
      rcases hx with ⟨rfl,_⟩ | ⟨rfl,_⟩
      · rcases kid_cases (gk v) with ⟨h1,h2,h3,h4⟩ | ⟨h1,h2,h3,h4⟩ | ⟨h1,h2,h3,h4⟩ | ⟨h1,h2,h3,h4⟩
        · exact rl0 _ _ hin (ok _ _ _ _ h1 h2 h3 h4)
        · exact rl1 _ _ hin (ok _ _ _ _ h1 h2 h3 h4)
        · exact rl2 _ _ hin (ok _ _ _ _ h1 h2 h3 h4)
        · exact rl3 _ _ hin (ok _ _ _ _ h1 h2 h3 h4)
      · rcases kid_cases (gk v) with ⟨h1,h2,h3,h4⟩ | ⟨h1,h2,h3,h4⟩ | ⟨h1,h2,h3,h4⟩ | ⟨h1,h2,h3,h4⟩
        · exact rl4 _ _ hin (ok _ _ _ _ h1 h2 h3 h4)
        · exact rl5 _ _ hin (ok _ _ _ _ h1 h2 h3 h4)
        · exact rl6 _ _ hin (ok _ _ _ _ h1 h2 h3 h4)
        · exact rl7 _ _ hin (ok _ _ _ _ h1 h2 h3 h4)
    have e40:Toks.num 40=v:=rfl
    refine HCall.sub (args:=[x,.nam 6,.nam 4,.tok .i64 40]) ⟨?_,Sub.nam rfl rfl,Sub.nam rfl rfl,Sub.tok e40,trivial⟩ go
    rcases hx with ⟨rfl,rfl⟩ | ⟨rfl,rfl⟩
    · exact Sub.nam rfl rfl
    · exact Sub.refl _
  by_cases h0:ps=[]
  · exact main [0] (by simp) (by simp) (.imm false []) (.inr ⟨rfl,h0⟩)
  · exact main ps h0 hl (.nam 1) (.inl ⟨rfl,rfl⟩)
end Go.Proofs.YtgglehcchdkbdaaGreat
