/-
Hm2
No conditions.
-/
import Derived.Test.YtbmibhjjogobhaaGreatQHm1
set_option linter.unusedSectionVars false
set_option linter.unusedSimpArgs false
set_option linter.unusedVariables false
namespace Go.Proofs.YtbmibhjjogobhaaGreat
open Go Go.Eng Go.Mo
variable [zB]
set_option maxRecDepth 20000
attribute [local irreducible] hvc zf hop zg yI zb zu yQ
theorem Gw (m:Ms) (h:okM m):Pure Tryz.prog 109 [.agg (zM m)] (.bool (tt (yC m))):=by
 refine Pure.zp (.bool _) fun PS=>?_
 refine zHf (by unfold Tryz.f109;exact rfl) ?_
 by_cases h1:m.kind<1
 ·have e:tt (yC m)=false:=zm fun hh=>by have:=hh.lo;omega
  simp only[go_sem,seval, -List.reduceReplicate,h1,e]
  exact Ext.app _ _
 ·by_cases h2:3<m.kind
  ·have e:tt (yC m)=false:=zm fun hh=>by have:=hh.hi;omega
   simp only[go_sem,seval, -List.reduceReplicate,h1,h2,e]
   exact Ext.app _ _
  ·have z:HV.int .i64 0::List.replicate 16 (HV.int .u8 0)=zK []:=_root_.id rfl
   have hz:∀b:Nat,((b:Int)=0)=(b=0):=fun b=>by simp
   have hk:m.kind=1∨m.kind=2∨m.kind=3:=by omega
   rcases hk with hk | hk | hk
   ·simp only[go_sem,seval, -List.reduceReplicate,hk]
    refine zG ((gC m.key h.key).call ?_)
    simp only[go_sem,seval, -List.reduceReplicate,hk]
    refine zG ((JF m.val h.val).call ?_)
    by_cases hb:m.by_=0
    ·have e:tt (yC m)=true:=yN ⟨by omega,by omega,fun hh=>absurd hk hh,fun _=>hb⟩
     simp only[go_sem,seval, -List.reduceReplicate,hk,hz,hb,e]
     exact Ext.app _ _
    ·have e:tt (yC m)=false:=zm fun hh=>hb (hh.by_ (by omega))
     simp only[go_sem,seval, -List.reduceReplicate,hk,hz,hb,e]
     exact Ext.app _ _
   ·simp only[go_sem,seval, -List.reduceReplicate,hk]
    refine zG ((gC m.key h.key).call ?_)
    by_cases hv:m.val=[]
    ·have hv':decide (m.val=[])=true:=decide_eq_true hv
     by_cases hb:m.by_=0
     ·have e:tt (yC m)=true:=yN ⟨by omega,by omega,fun hh=>hv,fun _=>hb⟩
      simp only[go_sem,seval, -List.reduceReplicate,hk,hz,hb,e,z,jV h.val,hv']
      exact Ext.app _ _
     ·have e:tt (yC m)=false:=zm fun hh=>hb (hh.by_ (by omega))
      simp only[go_sem,seval, -List.reduceReplicate,hk,hz,hb,e,z,jV h.val,hv']
      exact Ext.app _ _
    ·have hv':decide (m.val=[])=false:=decide_eq_false hv
     have e:tt (yC m)=false:=zm fun hh=>hv (hh.val (by omega))
     simp only[go_sem,seval, -List.reduceReplicate,hk,hz,e,z,jV h.val,hv']
     exact Ext.app _ _
   ·simp only[go_sem,seval, -List.reduceReplicate,hk]
    refine zG ((gC m.key h.key).call ?_)
    by_cases hv:m.val=[]
    ·have hv':decide (m.val=[])=true:=decide_eq_true hv
     have e:tt (yC m)=true:=yN ⟨by omega,by omega,fun hh=>hv,fun hh=>absurd hk hh⟩
     simp only[go_sem,seval, -List.reduceReplicate,hk,hz,e,z,jV h.val,hv']
     exact Ext.app _ _
    ·have hv':decide (m.val=[])=false:=decide_eq_false hv
     have e:tt (yC m)=false:=zm fun hh=>hv (hh.val (by omega))
     simp only[go_sem,seval, -List.reduceReplicate,hk,hz,e,z,jV h.val,hv']
     exact Ext.app _ _
theorem zLc (m:Ms) (h:okM m):Pure Tryz.prog 56 [.agg (zM m)] (.int .i64 (yq m)):=by
 refine Pure.zp (.int _ _) fun PS=>?_
 refine zLQ (by unfold Tryz.f56;exact rfl) ?_
 simp only[go_sem,seval, -List.reduceReplicate]
 refine zG ((Gw m h).call ?_)
 have hk':m.key.length≤8:=h.key
 have hv':m.val.length≤16:=h.val
 by_cases ho:yC m
 ·have e:=yN ho
  have hk:m.kind=1∨m.kind=2∨m.kind=3:=by have:=ho.lo;have:=ho.hi;omega
  rcases hk with hk | hk | hk
  ·have eb:yq m=11+m.key.length+m.val.length:=by rw[yq,e,hk];rfl
   simp only[go_sem,seval, -List.reduceReplicate,e,hk,eb]
   exact⟨by omega,by omega,by simp,Ext.app _ _⟩
  ·have eb:yq m=10+m.key.length:=by rw[yq,e,hk];rfl
   simp only[go_sem,seval, -List.reduceReplicate,e,hk,eb]
   exact⟨by omega,by simp,Ext.app _ _⟩
  ·have eb:yq m=18+m.key.length:=by rw[yq,e,hk];rfl
   simp only[go_sem,seval, -List.reduceReplicate,e,hk,eb]
   exact⟨by omega,by simp,Ext.app _ _⟩
 ·have e:=zm ho
  have eb:yq m=0:=by rw[yq,e];rfl
  simp only[go_sem,seval, -List.reduceReplicate,e,eb,Int.natCast_zero]
  exact Ext.app _ _
theorem Ke (m:Ms) (h:okM m):Pure Tryz.prog 290 [.agg (zM m)] (.bool (tt (yC m))):=by
 refine Pure.zp (.bool _) fun PS=>?_
 refine zNr (by unfold Tryz.f290;exact rfl) ?_
 simp only[go_sem,seval, -List.reduceReplicate]
 refine zG ((xK m.key h.key).call ?_)
 have z:HV.int .i64 0::List.replicate 16 (HV.int .u8 0)=zK []:=_root_.id rfl
 have hz:∀b:Nat,((b:Int)=0)=(b=0):=fun b=>by simp
 by_cases h1:m.kind=1
 ·simp only[go_sem,seval, -List.reduceReplicate,h1]
  refine zG ((Gb m.val h.val).call ?_)
  by_cases hb:m.by_=0
  ·have e:tt (yC m)=true:=yN ⟨by omega,by omega,fun hh=>absurd h1 hh,fun _=>hb⟩
   simp only[go_sem,seval, -List.reduceReplicate,h1,hz,hb,e]
   exact Ext.app _ _
  ·have e:tt (yC m)=false:=zm fun hh=>hb (hh.by_ (by omega))
   simp only[go_sem,seval, -List.reduceReplicate,h1,hz,hb,e]
   exact Ext.app _ _
 ·by_cases h2:m.kind=2
  ·by_cases hv:m.val=[]
   ·have hv':decide (m.val=[])=true:=decide_eq_true hv
    by_cases hb:m.by_=0
    ·have e:tt (yC m)=true:=yN ⟨by omega,by omega,fun hh=>hv,fun _=>hb⟩
     simp only[go_sem,seval, -List.reduceReplicate,h2,z,jV h.val,hz,hb,hv',e]
     exact Ext.app _ _
    ·have e:tt (yC m)=false:=zm fun hh=>hb (hh.by_ (by omega))
     simp only[go_sem,seval, -List.reduceReplicate,h2,z,jV h.val,hz,hb,hv',e]
     exact Ext.app _ _
   ·have hv':decide (m.val=[])=false:=decide_eq_false hv
    have e:tt (yC m)=false:=zm fun hh=>hv (hh.val (by omega))
    by_cases hb:m.by_=0
    ·simp only[go_sem,seval, -List.reduceReplicate,h2,z,jV h.val,hz,hb,hv',e]
     exact Ext.app _ _
    ·simp only[go_sem,seval, -List.reduceReplicate,h2,z,jV h.val,hz,hb,hv',e]
     exact Ext.app _ _
  ·by_cases h3:m.kind=3
   ·by_cases hv:m.val=[]
    ·have hv':decide (m.val=[])=true:=decide_eq_true hv
     have e:tt (yC m)=true:=yN ⟨by omega,by omega,fun hh=>hv,fun hh=>absurd h3 hh⟩
     simp only[go_sem,seval, -List.reduceReplicate,h3,z,jV h.val,hv',e]
     exact Ext.app _ _
    ·have hv':decide (m.val=[])=false:=decide_eq_false hv
     have e:tt (yC m)=false:=zm fun hh=>hv (hh.val (by omega))
     simp only[go_sem,seval, -List.reduceReplicate,h3,z,jV h.val,hv',e]
     exact Ext.app _ _
   ·have e:tt (yC m)=false:=zm fun hh=>by have:=hh.lo;have:=hh.hi;omega
    simp only[go_sem,seval, -List.reduceReplicate,h1,h2,h3,e]
    exact Ext.app _ _
theorem zHw (m:Ms) (h:okM m):Pure Tryz.prog 282 [.agg (zM m)] (.int .i64 (yq m)):=by
 refine Pure.zp (.int _ _) fun PS=>?_
 refine zJV (by unfold Tryz.f282;exact rfl) ?_
 simp only[go_sem,seval, -List.reduceReplicate]
 refine zG ((Ke m h).call ?_)
 have hk':m.key.length≤8:=h.key
 have hv':m.val.length≤16:=h.val
 by_cases ho:yC m
 ·have e:=yN ho
  have hk:m.kind=1∨m.kind=2∨m.kind=3:=by have:=ho.lo;have:=ho.hi;omega
  rcases hk with hk | hk | hk
  ·have eb:yq m=11+m.key.length+m.val.length:=by rw[yq,e,hk];rfl
   simp only[go_sem,seval, -List.reduceReplicate,e,hk,eb]
   exact⟨by omega,by omega,by omega,congrArg (HV.int .i64) (by omega),Ext.app _ _⟩
  ·have eb:yq m=10+m.key.length:=by rw[yq,e,hk];rfl
   simp only[go_sem,seval, -List.reduceReplicate,e,hk,eb]
   exact⟨by omega,congrArg (HV.int .i64) (by omega),Ext.app _ _⟩
  ·have eb:yq m=18+m.key.length:=by rw[yq,e,hk];rfl
   simp only[go_sem,seval, -List.reduceReplicate,e,hk,eb]
   exact⟨by omega,by omega,congrArg (HV.int .i64) (by omega),Ext.app _ _⟩
 ·have e:=zm ho
  have eb:yq m=0:=by rw[yq,e];rfl
  simp only[go_sem,seval, -List.reduceReplicate,e,eb,Int.natCast_zero]
  exact Ext.app _ _
end Go.Proofs.YtbmibhjjogobhaaGreat
namespace Go.Mo
theorem WA {e:Bs×Bs} (h:okK e.1∧okV e.2):yw e≤40:=by
 have h1:=h.1
 have h2:=h.2
 unfold okK at h1
 unfold okV at h2
 unfold yw
 omega
end Go.Mo
namespace Go.Proofs.YtbmibhjjogobhaaGreat
open Go Go.Eng Go.Mo
variable [zB]
set_option maxRecDepth 20000
attribute [local irreducible] hvc zf hop zg yI zb zu yQ
theorem zEG (t:Bool) (l:List (Bs×Bs)) (hl:l.length≤1000) (ok:∀e∈l,okK e.1∧okV e.2):Pure Tryz.prog 20 [.imm t (l.map zR)] (.int .i64 ((l.map yw).sum:Nat)):=by
 intro PS
 refine zJi (by unfold Tryz.f20;exact rfl) ?_
 simp only[go_sem,seval, -List.reduceReplicate,List.length_map]
 skip
 refine zG (zq (α:=Nat) [false,false,false,false,false,true,true,true,true,true,true,true,true,true,true,true,true,true,true,true,true,true,true,true,true,true,true] (fun i=>[(4,.int .i64 i),(3,.int .i64 (((l.take i).map yw).sum:Nat))]) (fun i=>l.length - i) (fun i PS'=>i≤l.length∧PS'=PS) 0 ⟨Nat.zero_le _,rfl⟩ ?_ ?_)
 ·simp only[go_sem,seval, -List.reduceReplicate,Int.natCast_zero]
  rfl
 ·intro i PS' hr
  obtain⟨hi,he⟩:=hr
  subst he
  by_cases hlt:i<l.length
  ·have ha1:l[i]? =some l[i]:=by simp[hlt]
   have oi:=ok _ (List.getElem_mem hlt)
   have hs:=WD yw l i hlt
   have hb:=Xz yw 40 (l.take i) (fun a ha=>WA (ok a (List.mem_of_mem_take ha)))
   have hc:=WA oi
   have hd:(l.take i).length≤1000:=by rw[List.length_take];omega
   simp only[go_sem,seval, -List.reduceReplicate,hlt,List.getElem?_map,Option.map_some,ha1,List.length_map,List.append_nil]
   intro _
   have hu:yw l[i]=2+l[i].1.length+l[i].2.length:=rfl
   refine⟨by omega,by omega,by omega,by omega,i+1,by omega,by omega,congrArg (HV.int .i64) (by omega),congrArg (HV.int .i64) (by omega)⟩
  ·simp only[go_sem,seval, -List.reduceReplicate,hlt,List.length_map]
   intro _
   rw[List.take_of_length_le (by omega)]
theorem zFi (t:Bool) (l:List (Ms)) (hl:l.length≤1000) (ok:∀e∈l,okM e):Pure Tryz.prog 21 [.imm t (l.map zM)] (.int .i64 ((l.map yq).sum:Nat)):=by
 intro PS
 refine zQ2 (by unfold Tryz.f21;exact rfl) ?_
 simp only[go_sem,seval, -List.reduceReplicate,List.length_map]
 skip
 refine zG (zq (α:=Nat) [false,false,false,false,false,true,true,true,true,true,true,true,true,true,true,true,true,true] (fun i=>[(4,.int .i64 i),(3,.int .i64 (((l.take i).map yq).sum:Nat))]) (fun i=>l.length - i) (fun i PS'=>i≤l.length∧PS'=PS) 0 ⟨Nat.zero_le _,rfl⟩ ?_ ?_)
 ·simp only[go_sem,seval, -List.reduceReplicate,Int.natCast_zero]
  rfl
 ·intro i PS' hr
  obtain⟨hi,he⟩:=hr
  subst he
  by_cases hlt:i<l.length
  ·have ha1:l[i]? =some l[i]:=by simp[hlt]
   have oi:=ok _ (List.getElem_mem hlt)
   have hs:=WD yq l i hlt
   have hb:=Xz yq 40 (l.take i) (fun a ha=>VH (ok a (List.mem_of_mem_take ha)))
   have hc:=VH oi
   have hd:(l.take i).length≤1000:=by rw[List.length_take];omega
   simp only[go_sem,seval, -List.reduceReplicate,hlt,List.getElem?_map,Option.map_some,ha1,List.length_map,List.append_nil]
   intro _
   refine zG ((zLc l[i] oi).call ?_)
   simp only[go_sem,seval, -List.reduceReplicate]
   refine⟨by omega,by omega,i+1,by omega,by omega,congrArg (HV.int .i64) (by omega),congrArg (HV.int .i64) (by omega)⟩
  ·simp only[go_sem,seval, -List.reduceReplicate,hlt,List.length_map]
   intro _
   rw[List.take_of_length_le (by omega)]
theorem zIK (e:Bs×Bs) (ok:okK e.1∧okV e.2):Pure Tryz.prog 285 [.agg (zR e)] (.int .i64 (yw e)):=by
 refine Pure.zp (.int _ _) fun PS=>?_
 refine zMm (by unfold Tryz.f285;exact rfl) ?_
 have h1:e.1.length≤8:=ok.1
 have h2:e.2.length≤16:=ok.2
 have hu:yw e=2+e.1.length+e.2.length:=rfl
 simp only[go_sem,seval, -List.reduceReplicate,hu]
 exact⟨by omega,by omega,congrArg (HV.int .i64) (by omega),Ext.app _ _⟩
theorem zGL (t:Bool) (l:List (Ms)) (hl:l.length≤1000) (ok:∀e∈l,okM e):Pure Tryz.prog 267 [.imm t (l.map zM)] (.int .i64 ((l.map yq).sum:Nat)):=by
 refine Pure.zp (.int _ _) fun PS=>?_
 refine zQp (by unfold Tryz.f267;exact rfl) ?_
 simp only[go_sem,seval, -List.reduceReplicate,List.length_map]
 intro _
 refine zG (zq (α:=Nat) [false,false,false,false,false,true,false,false,false,true,true,true,true,true,true,true,true] (fun i=>[(8,.int .i64 i),(3,.int .i64 (((l.take i).map yq).sum:Nat))]) (fun i=>l.length - i) (fun i PS'=>i≤l.length∧Ext [] PS PS') 0 ⟨Nat.zero_le _,Ext.refl _⟩ ?_ ?_)
 ·simp only[go_sem,seval, -List.reduceReplicate,Int.natCast_zero]
  rfl
 ·intro i PS' hr
  obtain⟨hi,he⟩:=hr
  by_cases hlt:i<l.length
  ·have ha1:l[i]? =some l[i]:=by simp[hlt]
   have oi:=ok _ (List.getElem_mem hlt)
   have hs:=WD yq l i hlt
   have hb:=Xz yq 40 (l.take i) (fun a ha=>VH (ok a (List.mem_of_mem_take ha)))
   have hc:=VH oi
   have hd:(l.take i).length≤1000:=by rw[List.length_take];omega
   simp only[go_sem,seval, -List.reduceReplicate,hlt,List.getElem?_map,Option.map_some,ha1,List.length_map,List.append_nil]
   refine zG ((zHw l[i] oi).call ?_)
   simp only[go_sem,seval, -List.reduceReplicate]
   exact⟨by omega,by omega,i+1,by omega,⟨by omega,he.trans (Ext.app _ _)⟩,congrArg (HV.int .i64) (by omega),congrArg (HV.int .i64) (by omega)⟩
  ·simp only[go_sem,seval, -List.reduceReplicate,hlt,List.length_map]
   skip
   rw[List.take_of_length_le (by omega)]
   exact⟨rfl,he⟩
theorem zOv (t:Bool) (l:List (Bs×Bs)) (hl:l.length≤1000) (ok:∀e∈l,okK e.1∧okV e.2):Pure Tryz.prog 284 [.imm t (l.map zR)] (.int .i64 ((l.map yw).sum:Nat)):=by
 refine Pure.zp (.int _ _) fun PS=>?_
 refine zHB (by unfold Tryz.f284;exact rfl) ?_
 simp only[go_sem,seval, -List.reduceReplicate,List.length_map]
 intro _
 refine zG (zq (α:=Nat) [false,false,false,false,false,true,false,false,false,true,true,true,true,true,true,true,true] (fun i=>[(8,.int .i64 i),(3,.int .i64 (((l.take i).map yw).sum:Nat))]) (fun i=>l.length - i) (fun i PS'=>i≤l.length∧Ext [] PS PS') 0 ⟨Nat.zero_le _,Ext.refl _⟩ ?_ ?_)
 ·simp only[go_sem,seval, -List.reduceReplicate,Int.natCast_zero]
  rfl
 ·intro i PS' hr
  obtain⟨hi,he⟩:=hr
  by_cases hlt:i<l.length
  ·have ha1:l[i]? =some l[i]:=by simp[hlt]
   have oi:=ok _ (List.getElem_mem hlt)
   have hs:=WD yw l i hlt
   have hb:=Xz yw 40 (l.take i) (fun a ha=>WA (ok a (List.mem_of_mem_take ha)))
   have hc:=WA oi
   have hd:(l.take i).length≤1000:=by rw[List.length_take];omega
   simp only[go_sem,seval, -List.reduceReplicate,hlt,List.getElem?_map,Option.map_some,ha1,List.length_map,List.append_nil]
   refine zG ((zIK l[i] oi).call ?_)
   simp only[go_sem,seval, -List.reduceReplicate]
   exact⟨by omega,by omega,i+1,by omega,⟨by omega,he.trans (Ext.app _ _)⟩,congrArg (HV.int .i64) (by omega),congrArg (HV.int .i64) (by omega)⟩
  ·simp only[go_sem,seval, -List.reduceReplicate,hlt,List.length_map]
   skip
   rw[List.take_of_length_le (by omega)]
   exact⟨rfl,he⟩
end Go.Proofs.YtbmibhjjogobhaaGreat
namespace Go.Mo
open Go Go.Eng
variable [zB]
/-- Rising so far. -/
def wW (l:List Bs) (i:Nat):Prop:=∀(j:Nat) (a b:Bs),j<i→0<j→l[j - 1]? =some a→l[j]? =some b→zU a b<0
theorem ZW {l:List Bs} {i:Nat} (h:l.length≤i):wW l i↔rising l:=
 ⟨fun hu j a b h0 ha hb=>hu j a b (by have:=(List.getElem?_eq_some_iff.1 hb).1;omega) h0 ha hb,fun hr j a b _ h0 ha hb=>hr j a b h0 ha hb⟩
def eOk (_:Bs×Bs):Prop:=True
theorem Zy (l:List Bs):wW l 0:=fun _ _ _ h _ _ _=>absurd h (Nat.not_lt_zero _)
theorem YD (l:List Bs):wW l 1:=fun _ _ _ _ _ _ _=>by omega
theorem Zm {l:List Bs} {i:Nat} {a b:Bs} (h:wW l i) (ha:l[i - 1]? =some a) (hb:l[i]? =some b) (hc:zU a b<0):wW l (i+1):=by
 intro j x y hj h0 hx hy
 by_cases hji:j<i
 ·exact h j x y hji h0 hx hy
 ·have:j=i:=by omega
  subst this
  rw[ha] at hx;rw[hb] at hy
  cases hx;cases hy
  exact hc
end Go.Mo
namespace Go.Proofs.YtbmibhjjogobhaaGreat
open Go Go.Eng Go.Mo
variable [zB]
set_option maxRecDepth 20000
attribute [local irreducible] hvc zf hop zg yI zb zu yQ
theorem zG7 (t:Bool) (l:List (Bs×Bs)) (hl:l.length≤1000) (ok:∀e∈l,okK e.1∧okV e.2):Pure Tryz.prog 215 [.imm t (l.map zR)] (.bool (tt (vG l))):=by
 refine Pure.zp (.bool _) fun PS=>?_
 refine zIW (by unfold Tryz.f215;exact rfl) ?_
 simp only[go_sem,seval, -List.reduceReplicate,List.length_map]
 skip
 refine zG (zq (α:=Nat) [false,false,true,false,true,true,true,true,true,true,true,true,true,true,true,true,true,true,true,true,true,true,true,true,true,true,true,true,true,true,true,true,true,true,true,true,true,true,true,true,true,true,true,true,true] (fun i=>[(3,.int .i64 i)]) (fun i=>l.length - i) (fun i PS'=>(i≤l.length∧wW (l.map Prod.fst) i∧∀(j:Nat) (a:Bs×Bs),j<i→l[j]? =some a→eOk a)∧Ext [] PS PS') 0 ⟨⟨Nat.zero_le _,Zy _,fun j _ h _=>absurd h (Nat.not_lt_zero _)⟩,Ext.refl _⟩ ?_ ?_)
 ·simp only[go_sem,seval, -List.reduceReplicate,Int.natCast_zero]
 ·intro i PS' hr
  obtain⟨⟨hi,hu,hk⟩,he⟩:=hr
  by_cases hlt:i<l.length
  ·have ha1:l[i]? =some l[i]:=by simp[hlt]
   have oi:=ok _ (List.getElem_mem hlt)
   have hb:(l.map Prod.fst)[i]? =some (Prod.fst l[i]):=by simp[ha1]
   have hkk:eOk l[i]→∀(j:Nat) (a:Bs×Bs),j<i+1→l[j]? =some a→eOk a:=fun h j a hj hja=>by
    by_cases hji:j<i
    ·exact hk j a hji hja
    ·have:j=i:=by omega
     subst this;rw[ha1] at hja;cases hja;exact h
   by_cases h0:(0:Int)<i
   ·have hm:(i:Int) - 1=((i - 1:Nat):Int):=by omega
    have hlt1:i - 1<l.length:=by omega
    have ha0:l[i - 1]? =some l[i - 1]:=by simp[hlt1]
    have oj:=ok _ (List.getElem_mem hlt1)
    have ha:(l.map Prod.fst)[i - 1]? =some (Prod.fst l[i - 1]):=by simp[ha0]
    simp only[go_sem,seval, -List.reduceReplicate,hlt,List.getElem?_map,Option.map_some,ha1,List.length_map]
    intro _
    refine zG ((gC _ oi.1).to ?_)
    simp only[go_sem,seval, -List.reduceReplicate,hlt,List.getElem?_map,Option.map_some,ha1,List.length_map]
    refine zG ((JF _ oi.2).to ?_)
    have yE:eOk l[i]:=trivial
    simp only[go_sem,seval, -List.reduceReplicate,hlt,List.getElem?_map,Option.map_some,ha1,List.length_map,h0,hm,hlt1,ha0]
    have hp:=ke _ _ oj.1 oi.1
    refine⟨by omega,zG (hp.to ?_)⟩
    by_cases hc:zU (Prod.fst l[i - 1]) (Prod.fst l[i])<0
    ·have hc':¬0≤zU (Prod.fst l[i - 1]) (Prod.fst l[i]):=by omega
     simp only[go_sem,seval, -List.reduceReplicate,hc,hc']
     exact⟨by omega,i+1,by omega,⟨⟨by omega,Zm hu ha hb hc,hkk yE⟩,(by first | exact he | exact he.trans (Ext.app _ _))⟩,by simp⟩
    ·have hc':0≤zU (Prod.fst l[i - 1]) (Prod.fst l[i]):=by omega
     have hf:tt (vG l)=false:=zm fun hr=>hc (((fun h=>h) hr) i _ _ (by omega) ha hb)
     simp only[go_sem,seval, -List.reduceReplicate,hc,hc',hf]
     first | exact he | exact he.trans (Ext.app _ _)
   ·simp only[go_sem,seval, -List.reduceReplicate,hlt,List.getElem?_map,Option.map_some,ha1,List.length_map]
    intro _
    refine zG ((gC _ oi.1).to ?_)
    simp only[go_sem,seval, -List.reduceReplicate,hlt,List.getElem?_map,Option.map_some,ha1,List.length_map]
    refine zG ((JF _ oi.2).to ?_)
    have yE:eOk l[i]:=trivial
    simp only[go_sem,seval, -List.reduceReplicate,hlt,List.getElem?_map,Option.map_some,ha1,List.length_map,h0]
    have:i=0:=by omega
    subst this
    exact⟨by omega,1,by omega,⟨⟨by omega,YD _,hkk yE⟩,(by first | exact he | exact he.trans (Ext.app _ _))⟩,rfl⟩
  ·simp only[go_sem,seval, -List.reduceReplicate,hlt,List.length_map]
   intro _
   have hall:∀a∈l,eOk a:=fun a ha=>by
    obtain⟨j,hj⟩:=List.getElem?_of_mem ha
    exact hk j a (by have:=(List.getElem?_eq_some_iff.1 hj).1;omega) hj
   have:vG l:=(fun h _=>h) ((ZW (by simp;omega)).1 hu) hall
   rw[yN this]
   exact⟨rfl,he⟩
theorem zK5 (t:Bool) (l:List (Bs×Bs)) (hl:l.length≤1000) (ok:∀e∈l,okK e.1∧okV e.2):Pure Tryz.prog 331 [.imm t (l.map zR)] (.bool (tt (vG l))):=by
 refine Pure.zp (.bool _) fun PS=>?_
 refine zSB (by unfold Tryz.f331;exact rfl) ?_
 simp only[go_sem,seval, -List.reduceReplicate,List.length_map]
 intro _
 refine zG (zq (α:=Nat) [false,false,true,true,true,false,false,false,true,true,true,true,true,true,true,true,true,true,true,true,true,true,true,true,true,true,true,true,true,true,true,true,true,true,true,true,true,true,true] (fun i=>[(7,.int .i64 i)]) (fun i=>l.length - i) (fun i PS'=>(i≤l.length∧wW (l.map Prod.fst) i∧∀(j:Nat) (a:Bs×Bs),j<i→l[j]? =some a→eOk a)∧Ext [] PS PS') 0 ⟨⟨Nat.zero_le _,Zy _,fun j _ h _=>absurd h (Nat.not_lt_zero _)⟩,Ext.refl _⟩ ?_ ?_)
 ·simp only[go_sem,seval, -List.reduceReplicate,Int.natCast_zero]
 ·intro i PS' hr
  obtain⟨⟨hi,hu,hk⟩,he⟩:=hr
  by_cases hlt:i<l.length
  ·have ha1:l[i]? =some l[i]:=by simp[hlt]
   have oi:=ok _ (List.getElem_mem hlt)
   have hb:(l.map Prod.fst)[i]? =some (Prod.fst l[i]):=by simp[ha1]
   have hkk:eOk l[i]→∀(j:Nat) (a:Bs×Bs),j<i+1→l[j]? =some a→eOk a:=fun h j a hj hja=>by
    by_cases hji:j<i
    ·exact hk j a hji hja
    ·have:j=i:=by omega
     subst this;rw[ha1] at hja;cases hja;exact h
   by_cases h0:(0:Int)<i
   ·have hm:(i:Int) - 1=((i - 1:Nat):Int):=by omega
    have hlt1:i - 1<l.length:=by omega
    have ha0:l[i - 1]? =some l[i - 1]:=by simp[hlt1]
    have oj:=ok _ (List.getElem_mem hlt1)
    have ha:(l.map Prod.fst)[i - 1]? =some (Prod.fst l[i - 1]):=by simp[ha0]
    simp only[go_sem,seval, -List.reduceReplicate,hlt,List.getElem?_map,Option.map_some,ha1,List.length_map]
    refine zG ((xK _ oi.1).to ?_)
    simp only[go_sem,seval, -List.reduceReplicate,hlt,List.getElem?_map,Option.map_some,ha1,List.length_map]
    refine zG ((Gb _ oi.2).to ?_)
    have yE:eOk l[i]:=trivial
    simp only[go_sem,seval, -List.reduceReplicate,hlt,List.getElem?_map,Option.map_some,ha1,List.length_map,h0,hm,hlt1,ha0]
    have hp:=Uz _ _ oj.1 oi.1
    refine⟨by omega,zG (hp.to ?_)⟩
    by_cases hc:zU (Prod.fst l[i - 1]) (Prod.fst l[i])<0
    ·have hc':¬0≤zU (Prod.fst l[i - 1]) (Prod.fst l[i]):=by omega
     simp only[go_sem,seval, -List.reduceReplicate,hc,hc']
     exact⟨by omega,i+1,by omega,⟨⟨by omega,Zm hu ha hb hc,hkk yE⟩,(by first | exact he | exact he.trans (Ext.app _ _))⟩,by simp⟩
    ·have hc':0≤zU (Prod.fst l[i - 1]) (Prod.fst l[i]):=by omega
     have hf:tt (vG l)=false:=zm fun hr=>hc (((fun h=>h) hr) i _ _ (by omega) ha hb)
     simp only[go_sem,seval, -List.reduceReplicate,hc,hc',hf]
     first | exact he | exact he.trans (Ext.app _ _)
   ·simp only[go_sem,seval, -List.reduceReplicate,hlt,List.getElem?_map,Option.map_some,ha1,List.length_map]
    refine zG ((xK _ oi.1).to ?_)
    simp only[go_sem,seval, -List.reduceReplicate,hlt,List.getElem?_map,Option.map_some,ha1,List.length_map]
    refine zG ((Gb _ oi.2).to ?_)
    have yE:eOk l[i]:=trivial
    simp only[go_sem,seval, -List.reduceReplicate,hlt,List.getElem?_map,Option.map_some,ha1,List.length_map,h0]
    have:i=0:=by omega
    subst this
    exact⟨by omega,1,by omega,⟨⟨by omega,YD _,hkk yE⟩,(by first | exact he | exact he.trans (Ext.app _ _))⟩,rfl⟩
  ·simp only[go_sem,seval, -List.reduceReplicate,hlt,List.length_map]
   skip
   have hall:∀a∈l,eOk a:=fun a ha=>by
    obtain⟨j,hj⟩:=List.getElem?_of_mem ha
    exact hk j a (by have:=(List.getElem?_eq_some_iff.1 hj).1;omega) hj
   have:vG l:=(fun h _=>h) ((ZW (by simp;omega)).1 hu) hall
   rw[yN this]
   exact⟨rfl,he⟩
theorem zLL (t:Bool) (l:List (Ms)) (hl:l.length≤1000) (ok:∀e∈l,okM e):Pure Tryz.prog 217 [.imm t (l.map zM)] (.bool (tt (qh l))):=by
 refine Pure.zp (.bool _) fun PS=>?_
 refine zOO (by unfold Tryz.f217;exact rfl) ?_
 simp only[go_sem,seval, -List.reduceReplicate,List.length_map]
 skip
 refine zG (zq (α:=Nat) [false,false,true,false,true,true,true,true,true,true,true,true,true,true,true,true,true,true,true,true,true,true,true,true,true,true,true,true,true,true,true,true,true,true,true] (fun i=>[(3,.int .i64 i)]) (fun i=>l.length - i) (fun i PS'=>(i≤l.length∧wW (l.map Ms.key) i∧∀(j:Nat) (a:Ms),j<i→l[j]? =some a→yC a)∧Ext [] PS PS') 0 ⟨⟨Nat.zero_le _,Zy _,fun j _ h _=>absurd h (Nat.not_lt_zero _)⟩,Ext.refl _⟩ ?_ ?_)
 ·simp only[go_sem,seval, -List.reduceReplicate,Int.natCast_zero]
 ·intro i PS' hr
  obtain⟨⟨hi,hu,hk⟩,he⟩:=hr
  by_cases hlt:i<l.length
  ·have ha1:l[i]? =some l[i]:=by simp[hlt]
   have oi:=ok _ (List.getElem_mem hlt)
   have hb:(l.map Ms.key)[i]? =some (Ms.key l[i]):=by simp[ha1]
   have hkk:yC l[i]→∀(j:Nat) (a:Ms),j<i+1→l[j]? =some a→yC a:=fun h j a hj hja=>by
    by_cases hji:j<i
    ·exact hk j a hji hja
    ·have:j=i:=by omega
     subst this;rw[ha1] at hja;cases hja;exact h
   by_cases h0:(0:Int)<i
   ·have hm:(i:Int) - 1=((i - 1:Nat):Int):=by omega
    have hlt1:i - 1<l.length:=by omega
    have ha0:l[i - 1]? =some l[i - 1]:=by simp[hlt1]
    have oj:=ok _ (List.getElem_mem hlt1)
    have ha:(l.map Ms.key)[i - 1]? =some (Ms.key l[i - 1]):=by simp[ha0]
    simp only[go_sem,seval, -List.reduceReplicate,hlt,List.getElem?_map,Option.map_some,ha1,List.length_map]
    intro _
    refine zG ((Gw _ oi).to ?_)
    by_cases yE:yC l[i]
    rotate_left
    ·have hf:tt (qh l)=false:=zm fun hr=>yE (hr.1 _ (List.getElem_mem hlt))
     simp only[go_sem,seval, -List.reduceReplicate,zm yE,hf]
     first | exact he | exact he.trans (Ext.app _ _)
    rw[yN yE]
    simp only[go_sem,seval, -List.reduceReplicate,hlt,List.getElem?_map,Option.map_some,ha1,List.length_map,h0,hm,hlt1,ha0]
    have hp:=ke _ _ oj.key oi.key
    refine⟨by omega,zG (hp.to ?_)⟩
    by_cases hc:zU (Ms.key l[i - 1]) (Ms.key l[i])<0
    ·have hc':¬0≤zU (Ms.key l[i - 1]) (Ms.key l[i]):=by omega
     simp only[go_sem,seval, -List.reduceReplicate,hc,hc']
     exact⟨by omega,i+1,by omega,⟨⟨by omega,Zm hu ha hb hc,hkk yE⟩,(by first | exact he | exact he.trans (Ext.app _ _))⟩,by simp⟩
    ·have hc':0≤zU (Ms.key l[i - 1]) (Ms.key l[i]):=by omega
     have hf:tt (qh l)=false:=zm fun hr=>hc ((And.right hr) i _ _ (by omega) ha hb)
     simp only[go_sem,seval, -List.reduceReplicate,hc,hc',hf]
     first | exact he | exact he.trans (Ext.app _ _)
   ·simp only[go_sem,seval, -List.reduceReplicate,hlt,List.getElem?_map,Option.map_some,ha1,List.length_map]
    intro _
    refine zG ((Gw _ oi).to ?_)
    by_cases yE:yC l[i]
    rotate_left
    ·have hf:tt (qh l)=false:=zm fun hr=>yE (hr.1 _ (List.getElem_mem hlt))
     simp only[go_sem,seval, -List.reduceReplicate,zm yE,hf]
     first | exact he | exact he.trans (Ext.app _ _)
    rw[yN yE]
    simp only[go_sem,seval, -List.reduceReplicate,hlt,List.getElem?_map,Option.map_some,ha1,List.length_map,h0]
    have:i=0:=by omega
    subst this
    exact⟨by omega,1,by omega,⟨⟨by omega,YD _,hkk yE⟩,(by first | exact he | exact he.trans (Ext.app _ _))⟩,rfl⟩
  ·simp only[go_sem,seval, -List.reduceReplicate,hlt,List.length_map]
   intro _
   have hall:∀a∈l,yC a:=fun a ha=>by
    obtain⟨j,hj⟩:=List.getElem?_of_mem ha
    exact hk j a (by have:=(List.getElem?_eq_some_iff.1 hj).1;omega) hj
   have:qh l:=(fun h k=>⟨k,h⟩) ((ZW (by simp;omega)).1 hu) hall
   rw[yN this]
   exact⟨rfl,he⟩
theorem zPH (t:Bool) (l:List (Ms)) (hl:l.length≤1000) (ok:∀e∈l,okM e):Pure Tryz.prog 335 [.imm t (l.map zM)] (.bool (tt (qh l))):=by
 refine Pure.zp (.bool _) fun PS=>?_
 refine zJ7 (by unfold Tryz.f335;exact rfl) ?_
 simp only[go_sem,seval, -List.reduceReplicate,List.length_map]
 intro _
 refine zG (zq (α:=Nat) [false,false,true,true,true,false,false,false,true,true,true,true,true,true,true,true,true,true,true,true,true,true,true,true,true,true,true,true,true,true,true,true] (fun i=>[(7,.int .i64 i)]) (fun i=>l.length - i) (fun i PS'=>(i≤l.length∧wW (l.map Ms.key) i∧∀(j:Nat) (a:Ms),j<i→l[j]? =some a→yC a)∧Ext [] PS PS') 0 ⟨⟨Nat.zero_le _,Zy _,fun j _ h _=>absurd h (Nat.not_lt_zero _)⟩,Ext.refl _⟩ ?_ ?_)
 ·simp only[go_sem,seval, -List.reduceReplicate,Int.natCast_zero]
 ·intro i PS' hr
  obtain⟨⟨hi,hu,hk⟩,he⟩:=hr
  by_cases hlt:i<l.length
  ·have ha1:l[i]? =some l[i]:=by simp[hlt]
   have oi:=ok _ (List.getElem_mem hlt)
   have hb:(l.map Ms.key)[i]? =some (Ms.key l[i]):=by simp[ha1]
   have hkk:yC l[i]→∀(j:Nat) (a:Ms),j<i+1→l[j]? =some a→yC a:=fun h j a hj hja=>by
    by_cases hji:j<i
    ·exact hk j a hji hja
    ·have:j=i:=by omega
     subst this;rw[ha1] at hja;cases hja;exact h
   by_cases h0:(0:Int)<i
   ·have hm:(i:Int) - 1=((i - 1:Nat):Int):=by omega
    have hlt1:i - 1<l.length:=by omega
    have ha0:l[i - 1]? =some l[i - 1]:=by simp[hlt1]
    have oj:=ok _ (List.getElem_mem hlt1)
    have ha:(l.map Ms.key)[i - 1]? =some (Ms.key l[i - 1]):=by simp[ha0]
    simp only[go_sem,seval, -List.reduceReplicate,hlt,List.getElem?_map,Option.map_some,ha1,List.length_map]
    refine zG ((Ke _ oi).to ?_)
    by_cases yE:yC l[i]
    rotate_left
    ·have hf:tt (qh l)=false:=zm fun hr=>yE (hr.1 _ (List.getElem_mem hlt))
     simp only[go_sem,seval, -List.reduceReplicate,zm yE,hf]
     first | exact he | exact he.trans (Ext.app _ _)
    rw[yN yE]
    simp only[go_sem,seval, -List.reduceReplicate,hlt,List.getElem?_map,Option.map_some,ha1,List.length_map,h0,hm,hlt1,ha0]
    have hp:=Uz _ _ oj.key oi.key
    refine⟨by omega,zG (hp.to ?_)⟩
    by_cases hc:zU (Ms.key l[i - 1]) (Ms.key l[i])<0
    ·have hc':¬0≤zU (Ms.key l[i - 1]) (Ms.key l[i]):=by omega
     simp only[go_sem,seval, -List.reduceReplicate,hc,hc']
     exact⟨by omega,i+1,by omega,⟨⟨by omega,Zm hu ha hb hc,hkk yE⟩,(by first | exact he | exact he.trans (Ext.app _ _))⟩,by simp⟩
    ·have hc':0≤zU (Ms.key l[i - 1]) (Ms.key l[i]):=by omega
     have hf:tt (qh l)=false:=zm fun hr=>hc ((And.right hr) i _ _ (by omega) ha hb)
     simp only[go_sem,seval, -List.reduceReplicate,hc,hc',hf]
     first | exact he | exact he.trans (Ext.app _ _)
   ·simp only[go_sem,seval, -List.reduceReplicate,hlt,List.getElem?_map,Option.map_some,ha1,List.length_map]
    refine zG ((Ke _ oi).to ?_)
    by_cases yE:yC l[i]
    rotate_left
    ·have hf:tt (qh l)=false:=zm fun hr=>yE (hr.1 _ (List.getElem_mem hlt))
     simp only[go_sem,seval, -List.reduceReplicate,zm yE,hf]
     first | exact he | exact he.trans (Ext.app _ _)
    rw[yN yE]
    simp only[go_sem,seval, -List.reduceReplicate,hlt,List.getElem?_map,Option.map_some,ha1,List.length_map,h0]
    have:i=0:=by omega
    subst this
    exact⟨by omega,1,by omega,⟨⟨by omega,YD _,hkk yE⟩,(by first | exact he | exact he.trans (Ext.app _ _))⟩,rfl⟩
  ·simp only[go_sem,seval, -List.reduceReplicate,hlt,List.length_map]
   skip
   have hall:∀a∈l,yC a:=fun a ha=>by
    obtain⟨j,hj⟩:=List.getElem?_of_mem ha
    exact hk j a (by have:=(List.getElem?_eq_some_iff.1 hj).1;omega) hj
   have:qh l:=(fun h k=>⟨k,h⟩) ((ZW (by simp;omega)).1 hu) hall
   rw[yN this]
   exact⟨rfl,he⟩
end Go.Proofs.YtbmibhjjogobhaaGreat
namespace Go.Mo
open Go Go.Eng
variable [zB]
/-- Where a number stands first; -1. -/
def placeOf (l:List Int) (x:Int):Int:=
 match l.findIdx? (fun y=>decide (y=x)) with
 | some i=>(i:Int)
 | none=> -1
theorem GA {l:List Int} {x:Int} {i:Nat} (h:l[i]? =some x) (hj:∀j,j<i→l[j]? ≠some x):placeOf l x=i:=by
 have:l.findIdx? (fun y=>decide (y=x))=some i:=by
  rw[List.findIdx?_eq_some_iff_getElem]
  obtain⟨hlt,he⟩:=List.getElem?_eq_some_iff.1 h
  refine⟨hlt,by simp[he],fun j hji=>?_⟩
  have:=hj j hji
  rw[List.getElem?_eq_getElem (by omega)] at this
  simpa using this
 rw[placeOf,this]
theorem zCh {l:List Int} {x:Int} (h:∀j,j<l.length→l[j]? ≠some x):placeOf l x= -1:=by
 have:l.findIdx? (fun y=>decide (y=x))=none:=by
  rw[List.findIdx?_eq_none_iff]
  intro y hy
  obtain⟨j,hj⟩:=List.getElem?_of_mem hy
  have hlt:=(List.getElem?_eq_some_iff.1 hj).1
  have:=h j hlt
  rw[hj] at this
  simpa using this
 rw[placeOf,this]
theorem Kv {l:List Int} {x:Int} {i:Nat} (h:l[i]? =some x):placeOf l x=i↔∀j,j<i→l[j]? ≠some x:=by
 constructor
 ·intro hp j hj hjx
  rcases hf:l.findIdx? (fun y=>decide (y=x)) with _ | k
  ·rw[List.findIdx?_eq_none_iff] at hf
   have:=hf x (List.mem_of_getElem? h)
   simp at this
  ·rw[placeOf,hf] at hp
   have hk:k=i:=by simp at hp;omega
   subst hk
   rw[List.findIdx?_eq_some_iff_getElem] at hf
   obtain⟨hlt,_,h3⟩:=hf
   have:=h3 j hj
   rw[List.getElem?_eq_getElem (by omega)] at hjx
   simp at hjx this
   exact this hjx
 ·exact GA h
end Go.Mo
namespace Go.Proofs.YtbmibhjjogobhaaGreat
open Go Go.Eng Go.Mo
variable [zB]
set_option maxRecDepth 20000
attribute [local irreducible] hvc zf hop zg yI zb zu yQ
theorem zPi:∀(l:List Int) (x:Int) (t:Bool) (PS:PL),zI Tryz.prog 230 [.imm t (l.map zY),.int .i64 x] PS fun r PS'=>r=.int .i64 (placeOf l x)∧Ext [] PS PS':=by
 intro l x t PS
 have hmx:maxLen=9223372036854775807:=rfl
 refine zKr (by unfold Tryz.f230;exact rfl) ?_
 simp only[go_sem,seval, -List.reduceReplicate,List.length_map,zY]
 skip
 refine zG (zq (α:=Nat) [false,false,false,false,true,false,true,true,true,true,true,true,true,true,true,true,true,true,true] (fun i=>[(5,.int .i64 i)]) (fun i=>l.length - i) (fun i PS'=>(i≤l.length∧∀j,j<i→l[j]? ≠some x)∧Ext [] PS PS') 0 ⟨⟨Nat.zero_le _,fun j h=>absurd h (Nat.not_lt_zero _)⟩,Ext.refl _⟩ ?_ ?_)
 ·simp only[go_sem,seval, -List.reduceReplicate,Int.natCast_zero]
 ·intro i PS' hr
  obtain⟨⟨hi,hu⟩,he⟩:=hr
  skip
  by_cases hlt:i<l.length
  ·have ha1:l[i]? =some l[i]:=by simp[hlt]
   simp only[go_sem,seval, -List.reduceReplicate,hlt,List.getElem?_map,Option.map_some,ha1,List.length_map,zY,zY]
   intro _
   by_cases hx:l[i]=x
   ·simp only[go_sem,seval, -List.reduceReplicate,hx]
    rw[GA (ha1.trans (congrArg some hx)) hu]
    exact⟨rfl,by first | exact he | exact he.trans (Ext.app _ _)⟩
   ·have hx':¬x=l[i]:=fun h=>hx h.symm
    simp only[go_sem,seval, -List.reduceReplicate,hx,hx']
    refine⟨by omega,i+1,by omega,⟨⟨by omega,fun j hj hjx=>?_⟩,by first | exact he | exact he.trans (Ext.app _ _)⟩,by simp⟩
    by_cases hji:j<i
    ·exact hu j hji hjx
    ·have:j=i:=by omega
     subst this;rw[ha1] at hjx;cases hjx;exact hx rfl
  ·simp only[go_sem,seval, -List.reduceReplicate,hlt,List.length_map,zY]
   intro _
   rw[zCh (fun j hj=>hu j (by omega))]
   exact⟨rfl,he⟩
theorem index:∀(l:List Int) (x:Int) (t:Bool) (PS:PL),zI Tryz.prog 236 [.imm t (l.map zY),.int .i64 x] PS fun r PS'=>r=.int .i64 (placeOf l x)∧Ext [] PS PS':=by
 intro l x t PS
 have hmx:maxLen=9223372036854775807:=rfl
 refine zRE (by unfold Tryz.f236;exact rfl) ?_
 simp only[go_sem,seval, -List.reduceReplicate,List.length_map,zY]
 intro _
 refine zG (zq (α:=Nat) [false,false,false,false,true,true,false,false,false,true,true,true,true,true,true,true,true,true,true] (fun i=>[(8,.int .i64 i)]) (fun i=>l.length - i) (fun i PS'=>(i≤l.length∧∀j,j<i→l[j]? ≠some x)∧Ext [] PS PS') 0 ⟨⟨Nat.zero_le _,fun j h=>absurd h (Nat.not_lt_zero _)⟩,Ext.refl _⟩ ?_ ?_)
 ·simp only[go_sem,seval, -List.reduceReplicate,Int.natCast_zero]
 ·intro i PS' hr
  obtain⟨⟨hi,hu⟩,he⟩:=hr
  skip
  by_cases hlt:i<l.length
  ·have ha1:l[i]? =some l[i]:=by simp[hlt]
   simp only[go_sem,seval, -List.reduceReplicate,hlt,List.getElem?_map,Option.map_some,ha1,List.length_map,zY,zY]
   skip
   by_cases hx:l[i]=x
   ·simp only[go_sem,seval, -List.reduceReplicate,hx]
    rw[GA (ha1.trans (congrArg some hx)) hu]
    exact⟨rfl,by first | exact he | exact he.trans (Ext.app _ _)⟩
   ·have hx':¬x=l[i]:=fun h=>hx h.symm
    simp only[go_sem,seval, -List.reduceReplicate,hx,hx']
    refine⟨by omega,i+1,by omega,⟨⟨by omega,fun j hj hjx=>?_⟩,by first | exact he | exact he.trans (Ext.app _ _)⟩,by simp⟩
    by_cases hji:j<i
    ·exact hu j hji hjx
    ·have:j=i:=by omega
     subst this;rw[ha1] at hjx;cases hjx;exact hx rfl
  ·simp only[go_sem,seval, -List.reduceReplicate,hlt,List.length_map,zY]
   skip
   rw[zCh (fun j hj=>hu j (by omega))]
   exact⟨rfl,he⟩
theorem zLq (t:Bool) (l:List Int) (x:Int):Pure Tryz.prog 230 [.imm t (l.map zY),.int .i64 x] (.int .i64 (placeOf l x)):=Pure.zp (.int _ _) fun PS=>zPi l x t PS
theorem zPQ (t:Bool) (l:List Int) (x:Int):Pure Tryz.prog 236 [.imm t (l.map zY),.int .i64 x] (.int .i64 (placeOf l x)):=Pure.zp (.int _ _) fun PS=>index l x t PS
theorem zOJ (t:Bool) (l:List Int) (x:Int):Pure Tryz.prog 205 [.imm t (l.map zY),.int .i64 x] (.int .i64 (placeOf l x)):=by
 intro PS
 refine zLK (by unfold Tryz.f205;exact rfl) ?_
 simp only[go_sem,seval, -List.reduceReplicate]
 refine zG ((zPQ t l x).call ?_)
 simp only[go_sem,seval, -List.reduceReplicate]
end Go.Proofs.YtbmibhjjogobhaaGreat
namespace Go.Mo
open Go Go.Eng
variable [zB]
/-- Kids so far. -/
def xx (k:List Int) (i:Nat):Prop:=∀(j:Nat) (x:Int),j<i→k[j]? =some x→1≤x∧x<256∧∀h:Nat,h<j→k[h]? ≠some x
theorem zEJ (k:List Int):xx k 0:=fun _ _ h=>absurd h (Nat.not_lt_zero _)
theorem zDy {k:List Int} {i:Nat} {x:Int} (h:xx k i) (hx:k[i]? =some x) (h1:1≤x) (h2:x<256) (h3:placeOf k x=i):xx k (i+1):=by
 intro j y hj hy
 by_cases hji:j<i
 ·exact h j y hji hy
 ·have:j=i:=by omega
  subst this
  rw[hx] at hy;cases hy
  exact⟨h1,h2,(Kv hx).1 h3⟩
end Go.Mo
namespace Go.Proofs.YtbmibhjjogobhaaGreat
open Go Go.Eng Go.Mo
variable [zB]
set_option maxRecDepth 20000
attribute [local irreducible] hvc zf hop zg yI zb zu yQ
set_option maxHeartbeats 2000000 in
theorem zQ8 (t t':Bool) (k:List Int) (p:List Bs) (ok:∀b∈p,okK b):Pure Tryz.prog 216 [.imm t (k.map zY),.imm t' (p.map zJ)] (.bool (tt (yz k p))):=by
 refine Pure.zp (.bool _) fun PS=>?_
 refine zOF (by unfold Tryz.f216;exact rfl) ?_
 have hmx:maxLen=9223372036854775807:=rfl
 by_cases h1:(k.length:Int)<2
 ·have hf:tt (yz k p)=false:=zm fun hr=>by have:=hr.few;omega
  simp only[go_sem,seval, -List.reduceReplicate,List.length_map,h1,hf]
  intros
  exact Ext.refl _
 by_cases h2:4<(k.length:Int)
 ·have hf:tt (yz k p)=false:=zm fun hr=>by have:=hr.many;omega
  simp only[go_sem,seval, -List.reduceReplicate,List.length_map,h1,h2,hf]
  intros
  exact Ext.refl _
 by_cases h3:(p.length:Int)=k.length - 1
 rotate_left
 ·have hf:tt (yz k p)=false:=zm fun hr=>by have:=hr.len;omega
  simp only[go_sem,seval, -List.reduceReplicate,List.length_map,h1,h2,h3,hf]
  intros
  exact⟨by omega,Ext.refl _⟩
 simp only[go_sem,seval, -List.reduceReplicate,List.length_map,h1,h2,h3]
 intros
 refine⟨by omega,?_⟩
 skip
 refine zG (zq (α:=Nat) [false,false,false,false,true,false,false,false,false,false,false,false,false,false,false,false,false,false,false,false,false,false,false,true,true,true,true,true,true,true,true,true,true,true,true,true,true,true,true,true,true,true,true,true,true,true,true,true,true,true,true] (fun i=>[(5,.int .i64 i)]) (fun i=>k.length - i) (fun i PS'=>(i≤k.length∧xx k i)∧Ext [] PS PS') 0 ⟨⟨Nat.zero_le _,zEJ _⟩,Ext.refl _⟩ ?_ ?_)
 ·simp only[go_sem,seval, -List.reduceReplicate,Int.natCast_zero]
 intro i PS1 hr
 obtain⟨⟨hi,hu⟩,he⟩:=hr
 by_cases hlt:i<k.length
 ·have ha1:k[i]? =some k[i]:=by simp[hlt]
  by_cases a1:k[i]<1
  ·have hf:tt (yz k p)=false:=zm fun hr=>by have:=(hr.is i _ ha1).1;omega
   simp only[go_sem,seval, -List.reduceReplicate,hlt,List.getElem?_map,Option.map_some,ha1,List.length_map,zY,a1,hf]
   intros
   first | exact he | exact he.trans (Ext.app _ _)
  by_cases a2:256≤k[i]
  ·have hf:tt (yz k p)=false:=zm fun hr=>by have:=(hr.is i _ ha1).2.1;omega
   simp only[go_sem,seval, -List.reduceReplicate,hlt,List.getElem?_map,Option.map_some,ha1,List.length_map,zY,a1,a2,hf]
   intros
   first | exact he | exact he.trans (Ext.app _ _)
  simp only[go_sem,seval, -List.reduceReplicate,hlt,List.getElem?_map,Option.map_some,ha1,List.length_map,zY,a1,a2]
  intros
  refine zG (Pure.call (zLq t k _) ?_)
  by_cases a3:placeOf k k[i]=i
  ·simp only[go_sem,seval, -List.reduceReplicate,a3]
   skip
   exact⟨by omega,i+1,by omega,⟨⟨by omega,zDy hu ha1 (by omega) (by omega) a3⟩,by first | exact he | exact he.trans (Ext.app _ _)⟩,by simp⟩
  ·have hf:tt (yz k p)=false:=zm fun hr=>a3 ((Kv ha1).2 (hr.is i _ ha1).2.2)
   simp only[go_sem,seval, -List.reduceReplicate,a3,hf]
   intros
   first | exact he | exact he.trans (Ext.app _ _)
 simp only[go_sem,seval, -List.reduceReplicate,hlt,List.length_map]
 have hkids:xx k k.length:=by
  have:i=k.length:=by omega
  subst this;exact hu
 intros
 skip
 refine zG (zq (α:=Nat) [false,false,false,false,true,false,false,false,false,false,false,false,false,false,false,false,false,false,false,false,false,false,false,false,false,false,false,false,false,false,false,false,false,false,false,false,false,false,false,false,false,false,false,false,false,false,false,false,false,false,false,true,true,true,true,true,true,true,true,true,true,true,true,true,true,true,true,true,true,true,true,true,true,true,true,true,true,true,true,true] (fun i=>[(6,.int .i64 i)]) (fun i=>p.length - i) (fun i PS'=>(i≤p.length∧wW p i)∧Ext [] PS PS') 0 ⟨⟨Nat.zero_le _,Zy _⟩,he⟩ ?_ ?_)
 ·simp only[go_sem,seval, -List.reduceReplicate,Int.natCast_zero]
 clear hu hi hlt
 intro j PS2 hr
 obtain⟨⟨hj,hu⟩,he2⟩:=hr
 by_cases hlt:j<p.length
 ·have ha1:p[j]? =some p[j]:=by simp[hlt]
  have oi:=ok _ (List.getElem_mem hlt)
  by_cases h0:(0:Int)<j
  ·have hm:(j:Int) - 1=((j - 1:Nat):Int):=by omega
   have hlt1:j - 1<p.length:=by omega
   have ha0:p[j - 1]? =some p[j - 1]:=by simp[hlt1]
   have oj:=ok _ (List.getElem_mem hlt1)
   simp only[go_sem,seval, -List.reduceReplicate,hlt,List.getElem?_map,Option.map_some,ha1,List.length_map]
   intros
   first | refine zG ((gC _ oi).to ?_) | refine⟨by simp,zG ((gC _ oi).to ?_)⟩
   simp only[go_sem,seval, -List.reduceReplicate,hlt,List.getElem?_map,Option.map_some,ha1,List.length_map,h0,hm,hlt1,ha0]
   refine⟨by omega,?_⟩
   first | refine zG ((ke _ _ oj oi).to ?_) | refine⟨by simp,zG ((ke _ _ oj oi).to ?_)⟩
   by_cases hc:zU p[j - 1] p[j]<0
   ·have hc':¬0≤zU p[j - 1] p[j]:=by omega
    simp only[go_sem,seval, -List.reduceReplicate,hc,hc']
    exact⟨by omega,j+1,by omega,⟨⟨by omega,Zm hu ha0 ha1 hc⟩,by first | exact he2 | exact he2.trans (Ext.app _ _)⟩,by simp⟩
   ·have hc':0≤zU p[j - 1] p[j]:=by omega
    have hf:tt (yz k p)=false:=zm fun hr=>hc (hr.up j _ _ (by omega) ha0 ha1)
    simp only[go_sem,seval, -List.reduceReplicate,hc,hc',hf]
    first | exact he2 | exact he2.trans (Ext.app _ _)
  ·simp only[go_sem,seval, -List.reduceReplicate,hlt,List.getElem?_map,Option.map_some,ha1,List.length_map]
   intros
   first | refine zG ((gC _ oi).to ?_) | refine⟨by simp,zG ((gC _ oi).to ?_)⟩
   simp only[go_sem,seval, -List.reduceReplicate,hlt,List.getElem?_map,Option.map_some,ha1,List.length_map,h0]
   have:j=0:=by omega
   subst this
   exact⟨by omega,1,by omega,⟨⟨by omega,YD _⟩,by first | exact he2 | exact he2.trans (Ext.app _ _)⟩,rfl⟩
 simp only[go_sem,seval, -List.reduceReplicate,hlt,List.length_map]
 intros
 have:yz k p:=⟨by omega,by omega,by omega,fun i x h=>hkids i x (List.getElem?_eq_some_iff.1 h).1 h,(ZW (by omega)).1 hu⟩
 rw[yN this]
 exact⟨rfl,he2⟩
set_option maxHeartbeats 2000000 in
theorem zP2 (t t':Bool) (k:List Int) (p:List Bs) (ok:∀b∈p,okK b):Pure Tryz.prog 334 [.imm t (k.map zY),.imm t' (p.map zJ)] (.bool (tt (yz k p))):=by
 refine Pure.zp (.bool _) fun PS=>?_
 refine zPt (by unfold Tryz.f334;exact rfl) ?_
 have hmx:maxLen=9223372036854775807:=rfl
 by_cases h1:(k.length:Int)<2
 ·have hf:tt (yz k p)=false:=zm fun hr=>by have:=hr.few;omega
  simp only[go_sem,seval, -List.reduceReplicate,List.length_map,h1,hf]
  intros
  exact Ext.refl _
 by_cases h2:4<(k.length:Int)
 ·have hf:tt (yz k p)=false:=zm fun hr=>by have:=hr.many;omega
  simp only[go_sem,seval, -List.reduceReplicate,List.length_map,h1,h2,hf]
  intros
  exact Ext.refl _
 by_cases h3:(p.length:Int)=k.length - 1
 rotate_left
 ·have hf:tt (yz k p)=false:=zm fun hr=>by have:=hr.len;omega
  simp only[go_sem,seval, -List.reduceReplicate,List.length_map,h1,h2,h3,hf]
  intros
  exact⟨by omega,Ext.refl _⟩
 simp only[go_sem,seval, -List.reduceReplicate,List.length_map,h1,h2,h3]
 intros
 refine⟨by omega,?_⟩
 intros
 refine zG (zq (α:=Nat) [false,false,false,false,true,true,true,false,false,false,false,false,false,false,false,false,false,false,false,false,false,false,false,false,false,false,false,false,true,true,true,true,true,true,true,true,true,true,true,true,true,true,true,true,true,true] (fun i=>[(27,.int .i64 i)]) (fun i=>k.length - i) (fun i PS'=>(i≤k.length∧xx k i)∧Ext [] PS PS') 0 ⟨⟨Nat.zero_le _,zEJ _⟩,Ext.refl _⟩ ?_ ?_)
 ·simp only[go_sem,seval, -List.reduceReplicate,Int.natCast_zero]
 intro i PS1 hr
 obtain⟨⟨hi,hu⟩,he⟩:=hr
 by_cases hlt:i<k.length
 ·have ha1:k[i]? =some k[i]:=by simp[hlt]
  by_cases a1:k[i]<1
  ·have hf:tt (yz k p)=false:=zm fun hr=>by have:=(hr.is i _ ha1).1;omega
   simp only[go_sem,seval, -List.reduceReplicate,hlt,List.getElem?_map,Option.map_some,ha1,List.length_map,zY,a1,hf]
   intros
   first | exact he | exact he.trans (Ext.app _ _)
  by_cases a2:256≤k[i]
  ·have hf:tt (yz k p)=false:=zm fun hr=>by have:=(hr.is i _ ha1).2.1;omega
   simp only[go_sem,seval, -List.reduceReplicate,hlt,List.getElem?_map,Option.map_some,ha1,List.length_map,zY,a1,a2,hf]
   intros
   first | exact he | exact he.trans (Ext.app _ _)
  simp only[go_sem,seval, -List.reduceReplicate,hlt,List.getElem?_map,Option.map_some,ha1,List.length_map,zY,a1,a2]
  skip
  refine zG (Pure.call (zOJ t k _) ?_)
  by_cases a3:placeOf k k[i]=i
  ·simp only[go_sem,seval, -List.reduceReplicate,a3]
   skip
   exact⟨by omega,i+1,by omega,⟨⟨by omega,zDy hu ha1 (by omega) (by omega) a3⟩,by first | exact he | exact he.trans (Ext.app _ _)⟩,by simp⟩
  ·have hf:tt (yz k p)=false:=zm fun hr=>a3 ((Kv ha1).2 (hr.is i _ ha1).2.2)
   simp only[go_sem,seval, -List.reduceReplicate,a3,hf]
   intros
   first | exact he | exact he.trans (Ext.app _ _)
 simp only[go_sem,seval, -List.reduceReplicate,hlt,List.length_map]
 have hkids:xx k k.length:=by
  have:i=k.length:=by omega
  subst this;exact hu
 intros
 skip
 refine zG (zq (α:=Nat) [false,false,false,false,true,false,false,true,true,false,false,false,false,false,false,false,false,false,false,false,false,false,false,false,false,false,false,false,false,false,false,false,false,false,false,false,false,false,false,false,false,false,false,false,false,false,false,false,false,true,true,true,true,true,true,true,true,true,true,true,true,true,true,true,true,true,true,true,true,true,true] (fun i=>[(48,.int .i64 i)]) (fun i=>p.length - i) (fun i PS'=>(i≤p.length∧wW p i)∧Ext [] PS PS') 0 ⟨⟨Nat.zero_le _,Zy _⟩,he⟩ ?_ ?_)
 ·simp only[go_sem,seval, -List.reduceReplicate,Int.natCast_zero]
 clear hu hi hlt
 intro j PS2 hr
 obtain⟨⟨hj,hu⟩,he2⟩:=hr
 by_cases hlt:j<p.length
 ·have ha1:p[j]? =some p[j]:=by simp[hlt]
  have oi:=ok _ (List.getElem_mem hlt)
  by_cases h0:(0:Int)<j
  ·have hm:(j:Int) - 1=((j - 1:Nat):Int):=by omega
   have hlt1:j - 1<p.length:=by omega
   have ha0:p[j - 1]? =some p[j - 1]:=by simp[hlt1]
   have oj:=ok _ (List.getElem_mem hlt1)
   simp only[go_sem,seval, -List.reduceReplicate,hlt,List.getElem?_map,Option.map_some,ha1,List.length_map]
   intros
   first | refine zG ((xK _ oi).to ?_) | refine⟨by simp,zG ((xK _ oi).to ?_)⟩
   simp only[go_sem,seval, -List.reduceReplicate,hlt,List.getElem?_map,Option.map_some,ha1,List.length_map,h0,hm,hlt1,ha0]
   refine⟨by omega,?_⟩
   first | refine zG ((Uz _ _ oj oi).to ?_) | refine⟨by simp,zG ((Uz _ _ oj oi).to ?_)⟩
   by_cases hc:zU p[j - 1] p[j]<0
   ·have hc':¬0≤zU p[j - 1] p[j]:=by omega
    simp only[go_sem,seval, -List.reduceReplicate,hc,hc']
    exact⟨by omega,j+1,by omega,⟨⟨by omega,Zm hu ha0 ha1 hc⟩,by first | exact he2 | exact he2.trans (Ext.app _ _)⟩,by simp⟩
   ·have hc':0≤zU p[j - 1] p[j]:=by omega
    have hf:tt (yz k p)=false:=zm fun hr=>hc (hr.up j _ _ (by omega) ha0 ha1)
    simp only[go_sem,seval, -List.reduceReplicate,hc,hc',hf]
    first | exact he2 | exact he2.trans (Ext.app _ _)
  ·simp only[go_sem,seval, -List.reduceReplicate,hlt,List.getElem?_map,Option.map_some,ha1,List.length_map]
   intros
   first | refine zG ((xK _ oi).to ?_) | refine⟨by simp,zG ((xK _ oi).to ?_)⟩
   simp only[go_sem,seval, -List.reduceReplicate,hlt,List.getElem?_map,Option.map_some,ha1,List.length_map,h0]
   have:j=0:=by omega
   subst this
   exact⟨by omega,1,by omega,⟨⟨by omega,YD _⟩,by first | exact he2 | exact he2.trans (Ext.app _ _)⟩,rfl⟩
 simp only[go_sem,seval, -List.reduceReplicate,hlt,List.length_map]
 intros
 have:yz k p:=⟨by omega,by omega,by omega,fun i x h=>hkids i x (List.getElem?_eq_some_iff.1 h).1 h,(ZW (by omega)).1 hu⟩
 rw[yN this]
 exact⟨rfl,he2⟩
end Go.Proofs.YtbmibhjjogobhaaGreat
namespace Go.Eng
open Go
variable [zB]
/-! Calls through interfaces,type assertions,the types known. -/
section
variable {P:Program} {fr:Fr} {PS:PL} {K:HV→Prop} {L:HV→PL→Prop} {d:Option Tmp} {ty:TypeId} {p:String} {af:Array Edge} {g:Option (Nat×Bool)}
def hinv (P:Program) (y:HV) (args:List HV) (PS:PL) (L:HV→PL→Prop):Option FuncId→Prop
 | some g=>zQ P g=true∧zI P g (y::args) PS L
 | none=>False
@[congr] theorem zXh {y y':HV} {args args':List HV} {o o':Option FuncId} {dd:Prop} (_hd:zi=dd) (h:y=y') (h2:args=args') (h3:o=o'):hinv P y args PS L o=hinv P y' args' PS L o':=by rw[h,h2,h3]
@[go_sem ↓] theorem zXz (r:Operand) (nm:String) (xs:Array Operand) (ts:Array TypeId):hop P ⟨d,.call ⟨.invoke r nm,xs,ts⟩,ty,p,af,g⟩ fr PS L=jZ P nm (ev fr r) (xs.toList.map (ev fr)) PS L:=_root_.id rfl
@[congr] theorem zZC {nm:String} {x x':HV} {args args':List HV} {dd:Prop} (_hd:zi=dd) (h:x=x') (h2:args=args'):jZ P nm x args PS L=jZ P nm x' args' PS L:=by rw[h,h2]
@[go_sem ↓,go_sem] theorem zYP (nm:String) (t:TypeId) (y:HV) (args:List HV):jZ P nm (.iface t y) args PS L=hinv P y args PS L (jo P t nm):=by
 simp only[jZ,hinv];split<;>simp_all
@[go_sem ↓,go_sem] theorem zcs (y:HV) (args:List HV) (g:FuncId):hinv P y args PS L (some g)=(zQ P g=true∧ @jB ⟨zI P g (y::args) PS L⟩):=_root_.id rfl
def Yd (t:TypeId) (x:HV) (ok:Bool) (K:HV→Prop) (u:Option TypeDesc) (z:Option Value):Prop:=
 match u with
 | none=>False
 | some (.interface _)=>False
 | some _=>(match x with
  | .iface t' y=>if t'=t then K (if ok then .tup [y,.bool true] else y) else ok=true∧(match z with | some z=>K (.tup [zv z,.bool false]) | none=>False)
  | _=>False)
@[congr] theorem zUA {t:TypeId} {x x':HV} {ok:Bool} {u u':Option TypeDesc} {z z':Option Value} {dd:Prop} (_hd:zi=dd) (h:x=x') (h2:u=u') (h3:z=z'):Yd t x ok K u z=Yd t x' ok K u' z':=by rw[h,h2,h3]
@[go_sem ↓] theorem zbf (x:Operand) (xt t:TypeId) (ok:Bool):hop P ⟨d,.typeAssert x xt t ok,ty,p,af,g⟩ fr PS L=Yd t (ev fr x) ok (fun v=>L v PS) (P.underlying t) ((P.info? t).bind (·.zero)):=by
 simp only[hop,Yf,gd,Yd]
 cases P.underlying t with
 | none=>rfl
 | some u=>cases u<;>first | rfl | (cases ev fr x<;>rfl)
@[go_sem ↓,go_sem] theorem zc2 (t t':TypeId) (y:HV) (fs:Array Field) (z:Value):Yd t (.iface t' y) true K (some (.struct fs)) (some z)=(if t'=t then K (.tup [y,.bool true]) else K (.tup [zv z,.bool false])):=by simp[Yd]
end
end Go.Eng
namespace Go.Proofs.YtbmibhjjogobhaaGreat
open Go Go.Eng Go.Mo
variable [zB]
set_option maxRecDepth 20000
attribute [local irreducible] hvc zf hop zg yI zb zu yQ
theorem Ga (n:Nd):(n.kids=[]∧n.pivs=[]∧n.msgs=[])↔n.kids.length+n.pivs.length+n.msgs.length=0:=by
 constructor
 ·rintro⟨h1,h2,h3⟩;simp[h1,h2,h3]
 ·intro h;exact⟨List.length_eq_zero_iff.1 (by omega),List.length_eq_zero_iff.1 (by omega),List.length_eq_zero_iff.1 (by omega)⟩
theorem zMZ (t:Fl) (n:Nd) (ok:okN n):Pure Tryz.prog 330 [.agg (ze t n)] (.bool (tt (vG n.ents∧n.kids=[]∧n.pivs=[]∧n.msgs=[]))):=by
 refine Pure.zp (.bool _) fun PS=>?_
 refine zMI (by unfold Tryz.f330;exact rfl) ?_
 obtain⟨f1,f2,f3,f4⟩:=ok.few
 simp only[go_sem,seval, -List.reduceReplicate,ze,List.length_map]
 refine zG ((zK5 _ _ f1 ok.ents).call ?_)
 by_cases h1:vG n.ents
 ·by_cases h2:n.kids.length+n.pivs.length+n.msgs.length=0
  ·have e:tt (vG n.ents∧n.kids=[]∧n.pivs=[]∧n.msgs=[])=true:=yN ⟨h1,(Ga n).2 h2⟩
   have h3:((n.kids.length:Int)+n.pivs.length+n.msgs.length=0):=by omega
   simp only[go_sem,seval, -List.reduceReplicate,yN h1,List.length_map,e,h3]
   intro _ _
   refine⟨by omega,?_⟩
   intro _
   first | exact Ext.app _ _ | exact⟨by omega,Ext.app _ _⟩
  ·have e:tt (vG n.ents∧n.kids=[]∧n.pivs=[]∧n.msgs=[])=false:=zm fun h=>h2 ((Ga n).1 h.2)
   have h3:¬((n.kids.length:Int)+n.pivs.length+n.msgs.length=0):=by omega
   simp only[go_sem,seval, -List.reduceReplicate,yN h1,List.length_map,e,h3]
   intro _ _
   refine⟨by omega,?_⟩
   intro _
   first | exact Ext.app _ _ | exact⟨by omega,Ext.app _ _⟩
 ·have e:tt (vG n.ents∧n.kids=[]∧n.pivs=[]∧n.msgs=[])=false:=zm fun h=>h1 h.1
  simp only[go_sem,seval, -List.reduceReplicate,zm h1,e]
  exact Ext.app _ _
theorem zPv (t:Fl) (n:Nd) (ok:okN n):Pure Tryz.prog 333 [.agg (ze t n)] (.bool (tt (n.ents=[]∧yz n.kids n.pivs∧qh n.msgs))):=by
 refine Pure.zp (.bool _) fun PS=>?_
 refine zJj (by unfold Tryz.f333;exact rfl) ?_
 obtain⟨f1,f2,f3,f4⟩:=ok.few
 by_cases h1:(n.ents.length:Int)=0
 ·have h1':n.ents=[]:=List.length_eq_zero_iff.1 (by omega)
  simp only[go_sem,seval, -List.reduceReplicate,ze,List.length_map,h1]
  intros
  refine zG ((zP2 _ _ _ _ ok.pivs).call ?_)
  by_cases h2:yz n.kids n.pivs
  ·simp only[go_sem,seval, -List.reduceReplicate,ze,yN h2]
   refine zG ((zPH _ _ f4 ok.msgs).call ?_)
   by_cases h3:qh n.msgs
   ·have e:tt (n.ents=[]∧yz n.kids n.pivs∧qh n.msgs)=true:=yN ⟨h1',h2,h3⟩
    simp only[go_sem,seval, -List.reduceReplicate,yN h3,e]
    exact Ext.app _ _
   ·have e:tt (n.ents=[]∧yz n.kids n.pivs∧qh n.msgs)=false:=zm fun h=>h3 h.2.2
    simp only[go_sem,seval, -List.reduceReplicate,zm h3,e]
    exact Ext.app _ _
  ·have e:tt (n.ents=[]∧yz n.kids n.pivs∧qh n.msgs)=false:=zm fun h=>h2 h.2.1
   simp only[go_sem,seval, -List.reduceReplicate,zm h2,e]
   exact Ext.app _ _
 ·have e:tt (n.ents=[]∧yz n.kids n.pivs∧qh n.msgs)=false:=zm fun h=>h1 (by rw[h.1];rfl)
  simp only[go_sem,seval, -List.reduceReplicate,ze,List.length_map,h1,e]
  intros
  exact Ext.app _ _
theorem zOp (t:Fl) (n:Nd) (ok:okN n):Pure Tryz.prog 329 [.agg (ze t n)] (.int .i64 (ye n.ents)):=by
 refine Pure.zp (.int _ _) fun PS=>?_
 refine zGY (by unfold Tryz.f329;exact rfl) ?_
 simp only[go_sem,seval, -List.reduceReplicate,ze]
 refine zG ((zOv _ _ ok.few.1 ok.ents).call ?_)
 simp only[go_sem,seval, -List.reduceReplicate]
 exact⟨rfl,Ext.app _ _⟩
theorem zLm (t:Fl) (n:Nd) (ok:okN n):Pure Tryz.prog 332 [.agg (ze t n)] (.int .i64 (jL n.msgs)):=by
 refine Pure.zp (.int _ _) fun PS=>?_
 refine zQG (by unfold Tryz.f332;exact rfl) ?_
 simp only[go_sem,seval, -List.reduceReplicate,ze]
 refine zG ((zGL _ _ ok.few.2.2.2 ok.msgs).call ?_)
 simp only[go_sem,seval, -List.reduceReplicate]
 exact⟨rfl,Ext.app _ _⟩
theorem Kl (t:Fl) (n:Nd) (PS:PL):zI Tryz.prog 108 [.agg (ze t n)] PS fun r PS'=>r=.iface (if n.leaf then 258 else 259) (.agg (ze t n))∧Ext [] PS PS':=by
 refine zIo (by unfold Tryz.f108;exact rfl) ?_
 by_cases hl:n.leaf=true
 ·simp only[go_sem,seval, -List.reduceReplicate,ze,hl]
  exact Ext.app _ _
 ·have hl':n.leaf=false:=by simpa using hl
  simp only[go_sem,seval, -List.reduceReplicate,ze,hl']
  exact Ext.app _ _
theorem js (t:Fl) (n:Nd):qS (ze t n):=by simp[qy,ze,HV.one]
theorem zn (t:Fl) (n:Nd):(ze t n).length=5:=rfl
theorem zJ6:∃z,(Tryz.prog.info? 258).bind (·.zero)=some z:=Option.isSome_iff_exists.1 (by kernel_rfl)
theorem zPj:∃z,(Tryz.prog.info? 259).bind (·.zero)=some z:=Option.isSome_iff_exists.1 (by kernel_rfl)
theorem zLg:jo Tryz.prog 258 "orangery/node.right" =some 330:=by kernel_rfl
theorem zMt:jo Tryz.prog 259 "orangery/node.right" =some 333:=by kernel_rfl
theorem zMM:jo Tryz.prog 258 "orangery/node.bytes" =some 329:=by kernel_rfl
theorem zIx:jo Tryz.prog 259 "orangery/node.bytes" =some 332:=by kernel_rfl
@[go_sem ↓,go_sem] theorem zVP (t:Fl) (n:Nd):(ze t n).take 5=ze t n:=_root_.id rfl
@[go_sem ↓,go_sem] theorem zbF (t:Fl) (n:Nd):(ze t n).take 1=[.bool n.leaf]:=_root_.id rfl
theorem zDY (t:Fl) (n:Nd) (ok:okN n):Pure Tryz.prog 211 [.agg (ze t n)] (.bool (tt (yh n))):=by
 refine Pure.zp (.bool _) fun PS=>?_
 refine zGU (by unfold Tryz.f211;exact rfl) ?_
 simp only[go_sem,seval, -List.reduceReplicate]
 refine⟨js t n,by rw[zn];omega,zG ((Kl t n _).mono ?_)⟩
 rintro r PS' ⟨rfl,he⟩
 have he':Ext [] PS PS':=(Ext.app _ _).trans he
 by_cases hl:n.leaf=true
 ·have eo:yh n=(vG n.ents∧n.kids=[]∧n.pivs=[]∧n.msgs=[]):=by rw[yh,if_pos hl]
  simp only[go_sem,seval, -List.reduceReplicate,hl,zLg]
  refine⟨by kernel_rfl,zG ((zMZ t n ok).call ?_)⟩
  simp only[go_sem,seval, -List.reduceReplicate,eo]
  exact he'
 ·have hl':n.leaf=false:=by simpa using hl
  have eo:yh n=(n.ents=[]∧yz n.kids n.pivs∧qh n.msgs):=by rw[yh,if_neg hl]
  simp only[go_sem,seval, -List.reduceReplicate,hl',zMt]
  refine⟨by kernel_rfl,zG ((zPv t n ok).call ?_)⟩
  simp only[go_sem,seval, -List.reduceReplicate,eo]
  exact he'
theorem XU (t:Fl) (n:Nd) (ok:okN n):Pure Tryz.prog 55 [.agg (ze t n)] (.int .i64 (wH n)):=by
 refine Pure.zp (.int _ _) fun PS=>?_
 refine zLR (by unfold Tryz.f55;exact rfl) ?_
 simp only[go_sem,seval, -List.reduceReplicate]
 refine⟨js t n,by rw[zn];omega,zG ((Kl t n _).mono ?_)⟩
 rintro r PS' ⟨rfl,he⟩
 have he':Ext [] PS PS':=(Ext.app _ _).trans he
 by_cases hl:n.leaf=true
 ·have eo:wH n=ye n.ents:=by rw[wH,if_pos hl]
  simp only[go_sem,seval, -List.reduceReplicate,hl,zMM]
  refine⟨by kernel_rfl,zG ((zOp t n ok).call ?_)⟩
  simp only[go_sem,seval, -List.reduceReplicate,eo]
  exact he'
 ·have hl':n.leaf=false:=by simpa using hl
  have eo:wH n=jL n.msgs:=by rw[wH,if_neg hl]
  simp only[go_sem,seval, -List.reduceReplicate,hl',zIx]
  refine⟨by kernel_rfl,zG ((zLm t n ok).call ?_)⟩
  simp only[go_sem,seval, -List.reduceReplicate,eo]
  exact he'
theorem JM (t:Fl) (n:Nd) (ok:okN n):Pure Tryz.prog 124 [.agg (ze t n)] (.bool (tt (yf n))):=by
 refine Pure.zp (.bool _) fun PS=>?_
 refine zLH (by unfold Tryz.f124;exact rfl) ?_
 simp only[go_sem,seval, -List.reduceReplicate]
 refine⟨js t n,by rw[zn];omega,zG ((Kl t n _).mono ?_)⟩
 rintro r PS' ⟨rfl,he⟩
 have he':Ext [] PS PS':=(Ext.app _ _).trans he
 obtain⟨z1,hz1⟩:=zJ6
 obtain⟨z2,hz2⟩:=zPj
 have g0:zA PS' PS.length=.arr 0 (ze t n).length [ze t n] false:=he.get (zt _ _) (by simp)
 have hlen:=zn t n
 by_cases hl:n.leaf=true
 ·simp only[go_sem,seval, -List.reduceReplicate,hl,hz1,hz2,g0,hlen,zn]
  have hl2:(if n.leaf=true then 248 else 205)=248:=by simp[hl]
  refine zG ((zDY t n ok).call ?_)
  by_cases h1:yh n
  rotate_left
  ·have e:tt (yf n)=false:=zm fun h=>h1 h.1
   simp only[go_sem,seval, -List.reduceReplicate,zm h1,e]
   exact he'
  by_cases h2:(wH n:Int)≤248
  ·have e:tt (yf n)=true:=yN ⟨h1,by rw[hl2];omega⟩
   simp only[go_sem,seval, -List.reduceReplicate,yN h1,g0,hlen,zn]
   refine zG ((XU t n ok).call ?_)
   simp only[go_sem,seval, -List.reduceReplicate,h2,e]
   exact he'
  ·have e:tt (yf n)=false:=zm fun h=>h2 (by have:=h.2;rw[hl2] at this;omega)
   simp only[go_sem,seval, -List.reduceReplicate,yN h1,g0,hlen,zn]
   refine zG ((XU t n ok).call ?_)
   simp only[go_sem,seval, -List.reduceReplicate,h2,e]
   exact he'
 ·have hl':n.leaf=false:=by simpa using hl
  simp only[go_sem,seval, -List.reduceReplicate,hl',hz1,hz2,g0,hlen,zn]
  have hl2:(if n.leaf=true then 248 else 205)=205:=by simp[hl']
  refine zG ((zDY t n ok).call ?_)
  by_cases h1:yh n
  rotate_left
  ·have e:tt (yf n)=false:=zm fun h=>h1 h.1
   simp only[go_sem,seval, -List.reduceReplicate,zm h1,e]
   exact he'
  by_cases h2:(wH n:Int)≤205
  ·have e:tt (yf n)=true:=yN ⟨h1,by rw[hl2];omega⟩
   simp only[go_sem,seval, -List.reduceReplicate,yN h1,g0,hlen,zn]
   refine zG ((XU t n ok).call ?_)
   simp only[go_sem,seval, -List.reduceReplicate,h2,e]
   exact he'
  ·have e:tt (yf n)=false:=zm fun h=>h2 (by have:=h.2;rw[hl2] at this;omega)
   simp only[go_sem,seval, -List.reduceReplicate,yN h1,g0,hlen,zn]
   refine zG ((XU t n ok).call ?_)
   simp only[go_sem,seval, -List.reduceReplicate,h2,e]
   exact he'
theorem zMJ (t:Fl) (n:Nd) (ok:okN n):Pure Tryz.prog 128 [.agg (ze t n)] (.bool (tt (yh n))):=by
 refine Pure.zp (.bool _) fun PS=>?_
 refine zHI (by unfold Tryz.f128;exact rfl) ?_
 obtain⟨f1,f2,f3,f4⟩:=ok.few
 by_cases hl:n.leaf=true
 ·have eo:yh n=(vG n.ents∧n.kids=[]∧n.pivs=[]∧n.msgs=[]):=by rw[yh,if_pos hl]
  simp only[go_sem,seval, -List.reduceReplicate,ze,hl]
  refine zG ((zG7 _ _ f1 ok.ents).call ?_)
  by_cases h1:vG n.ents
  rotate_left
  ·have e:tt (yh n)=false:=zm fun h=>h1 (by rw[eo] at h;exact h.1)
   simp only[go_sem,seval, -List.reduceReplicate,zm h1,e]
   exact Ext.app _ _
  by_cases h2:(n.kids.length:Int)=0
  rotate_left
  ·have e:tt (yh n)=false:=zm fun h=>h2 (by rw[eo] at h;rw[h.2.1];rfl)
   simp only[go_sem,seval, -List.reduceReplicate,yN h1,List.length_map,h2,e]
   intros
   exact Ext.app _ _
  by_cases h3:(n.pivs.length:Int)=0
  rotate_left
  ·have e:tt (yh n)=false:=zm fun h=>h3 (by rw[eo] at h;rw[h.2.2.1];rfl)
   simp only[go_sem,seval, -List.reduceReplicate,yN h1,List.length_map,h2,h3,e]
   intros
   exact Ext.app _ _
  by_cases h4:(n.msgs.length:Int)=0
  rotate_left
  ·have e:tt (yh n)=false:=zm fun h=>h4 (by rw[eo] at h;rw[h.2.2.2];rfl)
   simp only[go_sem,seval, -List.reduceReplicate,yN h1,List.length_map,h2,h3,h4,e]
   intros
   exact Ext.app _ _
  have e:tt (yh n)=true:=yN (by rw[eo];exact⟨h1,(Ga n).2 (by omega)⟩)
  simp only[go_sem,seval, -List.reduceReplicate,yN h1,List.length_map,h2,h3,h4,e]
  intros
  exact Ext.app _ _
 ·have hl':n.leaf=false:=by simpa using hl
  have eo:yh n=(n.ents=[]∧yz n.kids n.pivs∧qh n.msgs):=by rw[yh,if_neg hl]
  by_cases h1:(n.ents.length:Int)=0
  ·have h1':n.ents=[]:=List.length_eq_zero_iff.1 (by omega)
   simp only[go_sem,seval, -List.reduceReplicate,ze,hl',List.length_map,h1]
   intros
   refine zG ((zQ8 _ _ _ _ ok.pivs).call ?_)
   by_cases h2:yz n.kids n.pivs
   ·simp only[go_sem,seval, -List.reduceReplicate,ze,yN h2]
    refine zG ((zLL _ _ f4 ok.msgs).call ?_)
    by_cases h3:qh n.msgs
    ·have e:tt (yh n)=true:=yN (by rw[eo];exact⟨h1',h2,h3⟩)
     simp only[go_sem,seval, -List.reduceReplicate,yN h3,e]
     exact Ext.app _ _
    ·have e:tt (yh n)=false:=zm fun h=>h3 (by rw[eo] at h;exact h.2.2)
     simp only[go_sem,seval, -List.reduceReplicate,zm h3,e]
     exact Ext.app _ _
   ·have e:tt (yh n)=false:=zm fun h=>h2 (by rw[eo] at h;exact h.2.1)
    simp only[go_sem,seval, -List.reduceReplicate,zm h2,e]
    exact Ext.app _ _
  ·have e:tt (yh n)=false:=zm fun h=>h1 (by rw[eo] at h;rw[h.1];rfl)
   simp only[go_sem,seval, -List.reduceReplicate,ze,hl',List.length_map,h1,e]
   intros
   exact Ext.app _ _
theorem Yz (t:Fl) (n:Nd) (ok:okN n):Pure Tryz.prog 8 [.agg (ze t n)] (.int .i64 (wH n)):=by
 refine Pure.zp (.int _ _) fun PS=>?_
 refine zP0 (by unfold Tryz.f8;exact rfl) ?_
 by_cases hl:n.leaf=true
 ·have eo:wH n=ye n.ents:=by rw[wH,if_pos hl]
  simp only[go_sem,seval, -List.reduceReplicate,ze,hl]
  refine zG ((zEG _ _ ok.few.1 ok.ents).call ?_)
  simp only[go_sem,seval, -List.reduceReplicate,eo]
  exact⟨rfl,Ext.app _ _⟩
 ·have hl':n.leaf=false:=by simpa using hl
  have eo:wH n=jL n.msgs:=by rw[wH,if_neg hl]
  simp only[go_sem,seval, -List.reduceReplicate,ze,hl']
  refine zG ((zFi _ _ ok.few.2.2.2 ok.msgs).call ?_)
  simp only[go_sem,seval, -List.reduceReplicate,eo]
  exact⟨rfl,Ext.app _ _⟩
theorem zBj (t:Fl) (n:Nd) (ok:okN n):Pure Tryz.prog 71 [.agg (ze t n)] (.bool (tt (yf n))):=by
 refine Pure.zp (.bool _) fun PS=>?_
 refine zJo (by unfold Tryz.f71;exact rfl) ?_
 have hlen:=zn t n
 simp only[go_sem,seval, -List.reduceReplicate,hlen,zn]
 refine⟨js t n,zG ((zMJ t n ok).call ?_)⟩
 by_cases h1:yh n
 rotate_left
 ·have e:tt (yf n)=false:=zm fun h=>h1 h.1
  simp only[go_sem,seval, -List.reduceReplicate,zm h1,e]
  exact Ext.app _ _
 rw[yN h1]
 by_cases hl:n.leaf=true
 ·have hl2:(if n.leaf=true then 248 else 205)=248:=by simp[hl]
  simp only[go_sem,seval, -List.reduceReplicate,hlen,zn,hl]
  first | refine zG ((Yz t n ok).call ?_) | refine⟨js t n,zG ((Yz t n ok).call ?_)⟩
  by_cases h2:(wH n:Int)≤248
  ·have e:tt (yf n)=true:=yN ⟨h1,by rw[hl2];omega⟩
   simp only[go_sem,seval, -List.reduceReplicate,h2,e,hl,zn]
   exact Ext.app _ _
  ·have e:tt (yf n)=false:=zm fun h=>h2 (by have:=h.2;rw[hl2] at this;omega)
   simp only[go_sem,seval, -List.reduceReplicate,h2,e,hl,zn]
   exact Ext.app _ _
 ·have hl':n.leaf=false:=by simpa using hl
  have hl2:(if n.leaf=true then 248 else 205)=205:=by simp[hl']
  simp only[go_sem,seval, -List.reduceReplicate,hlen,zn,hl']
  first | refine zG ((Yz t n ok).call ?_) | refine⟨js t n,zG ((Yz t n ok).call ?_)⟩
  by_cases h2:(wH n:Int)≤205
  ·have e:tt (yf n)=true:=yN ⟨h1,by rw[hl2];omega⟩
   simp only[go_sem,seval, -List.reduceReplicate,h2,e,hl,zn]
   exact Ext.app _ _
  ·have e:tt (yf n)=false:=zm fun h=>h2 (by have:=h.2;rw[hl2] at this;omega)
   simp only[go_sem,seval, -List.reduceReplicate,h2,e,hl,zn]
   exact Ext.app _ _
end Go.Proofs.YtbmibhjjogobhaaGreat
