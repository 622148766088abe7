/-
Hm2
No conditions.
-/
import Derived.Test.YtajjhaidpagflaaGreatQHm1
set_option linter.unusedSectionVars false
set_option linter.unusedSimpArgs false
set_option linter.unusedVariables false
namespace Go.Proofs.YtajjhaidpagflaaGreat
open Go Go.Eng Go.Mo
variable [Toks]
set_option maxRecDepth 20000
attribute [local irreducible] hvc hops hop hplan hdrawP hval1 hopD HLoop
theorem rmsg_check (m:Ms) (h:okM m):Pure Tryz.prog 252 [.agg (msgL m)] (.bool (tt (msgOk m))):=by
  refine Pure.of_ext (.bool _) fun PS=>?_
  refine enter_252 (by unfold Tryz.f252;exact rfl) ?_
  by_cases h1:m.kind<1
  · have e:tt (msgOk m)=false:=tt_false fun hh=>by have:=hh.lo;omega
    simp only[go_sem,seval, -List.reduceReplicate,h1,e]
    exact Ext.app _ _
  · by_cases h2:3<m.kind
    · have e:tt (msgOk m)=false:=tt_false fun hh=>by have:=hh.hi;omega
      simp only[go_sem,seval, -List.reduceReplicate,h1,h2,e]
      exact Ext.app _ _
    · have z:HV.int .i64 0::List.replicate 16 (HV.int .u8 0)=valL []:=_root_.id rfl
      have hz:∀b:Nat,((b:Int)=0)=(b=0):=fun b=>by simp
      have hk:m.kind=1∨m.kind=2∨m.kind=3:=by omega
      rcases hk with hk | hk | hk
      · simp only[go_sem,seval, -List.reduceReplicate,hk]
        refine pend_intro ((rkey_check m.key h.key).call ?_)
        simp only[go_sem,seval, -List.reduceReplicate,hk]
        refine pend_intro ((rval_check m.val h.val).call ?_)
        by_cases hb:m.by_=0
        · have e:tt (msgOk m)=true:=tt_true ⟨by omega,by omega,fun hh=>absurd hk hh,fun _=>hb⟩
          simp only[go_sem,seval, -List.reduceReplicate,hk,hz,hb,e]
          exact Ext.app _ _
        · have e:tt (msgOk m)=false:=tt_false fun hh=>hb (hh.by_ (by omega))
          simp only[go_sem,seval, -List.reduceReplicate,hk,hz,hb,e]
          exact Ext.app _ _
      · simp only[go_sem,seval, -List.reduceReplicate,hk]
        refine pend_intro ((rkey_check m.key h.key).call ?_)
        by_cases hv:m.val=[]
        · have hv':decide (m.val=[])=true:=decide_eq_true hv
          by_cases hb:m.by_=0
          · have e:tt (msgOk m)=true:=tt_true ⟨by omega,by omega,fun hh=>hv,fun _=>hb⟩
            simp only[go_sem,seval, -List.reduceReplicate,hk,hz,hb,e,z,hcmp_val h.val,hv']
            exact Ext.app _ _
          · have e:tt (msgOk m)=false:=tt_false fun hh=>hb (hh.by_ (by omega))
            simp only[go_sem,seval, -List.reduceReplicate,hk,hz,hb,e,z,hcmp_val h.val,hv']
            exact Ext.app _ _
        · have hv':decide (m.val=[])=false:=decide_eq_false hv
          have e:tt (msgOk m)=false:=tt_false fun hh=>hv (hh.val (by omega))
          simp only[go_sem,seval, -List.reduceReplicate,hk,hz,e,z,hcmp_val h.val,hv']
          exact Ext.app _ _
      · simp only[go_sem,seval, -List.reduceReplicate,hk]
        refine pend_intro ((rkey_check m.key h.key).call ?_)
        by_cases hv:m.val=[]
        · have hv':decide (m.val=[])=true:=decide_eq_true hv
          have e:tt (msgOk m)=true:=tt_true ⟨by omega,by omega,fun hh=>hv,fun hh=>absurd hk hh⟩
          simp only[go_sem,seval, -List.reduceReplicate,hk,hz,e,z,hcmp_val h.val,hv']
          exact Ext.app _ _
        · have hv':decide (m.val=[])=false:=decide_eq_false hv
          have e:tt (msgOk m)=false:=tt_false fun hh=>hv (hh.val (by omega))
          simp only[go_sem,seval, -List.reduceReplicate,hk,hz,e,z,hcmp_val h.val,hv']
          exact Ext.app _ _
theorem rmsg_bytes (m:Ms) (h:okM m):Pure Tryz.prog 225 [.agg (msgL m)] (.int .i64 (msgBytes m)):=by
  refine Pure.of_ext (.int _ _) fun PS=>?_
  refine enter_225 (by unfold Tryz.f225;exact rfl) ?_
  simp only[go_sem,seval, -List.reduceReplicate]
  refine pend_intro ((rmsg_check m h).call ?_)
  have hk':m.key.length≤8:=h.key
  have hv':m.val.length≤16:=h.val
  by_cases ho:msgOk m
  · have e:=tt_true ho
    have hk:m.kind=1∨m.kind=2∨m.kind=3:=by have:=ho.lo;have:=ho.hi;omega
    rcases hk with hk | hk | hk
    · have eb:msgBytes m=11+m.key.length+m.val.length:=by rw[msgBytes,e,hk];rfl
      simp only[go_sem,seval, -List.reduceReplicate,e,hk,eb]
      exact⟨by omega,by omega,by simp,Ext.app _ _⟩
    · have eb:msgBytes m=10+m.key.length:=by rw[msgBytes,e,hk];rfl
      simp only[go_sem,seval, -List.reduceReplicate,e,hk,eb]
      exact⟨by omega,by simp,Ext.app _ _⟩
    · have eb:msgBytes m=18+m.key.length:=by rw[msgBytes,e,hk];rfl
      simp only[go_sem,seval, -List.reduceReplicate,e,hk,eb]
      exact⟨by omega,by simp,Ext.app _ _⟩
  · have e:=tt_false ho
    have eb:msgBytes m=0:=by rw[msgBytes,e];rfl
    simp only[go_sem,seval, -List.reduceReplicate,e,eb,Int.natCast_zero]
    exact Ext.app _ _
theorem msg_check (m:Ms) (h:okM m):Pure Tryz.prog 297 [.agg (msgL m)] (.bool (tt (msgOk m))):=by
  refine Pure.of_ext (.bool _) fun PS=>?_
  refine enter_297 (by unfold Tryz.f297;exact rfl) ?_
  simp only[go_sem,seval, -List.reduceReplicate]
  refine pend_intro ((key_check m.key h.key).call ?_)
  have z:HV.int .i64 0::List.replicate 16 (HV.int .u8 0)=valL []:=_root_.id rfl
  have hz:∀b:Nat,((b:Int)=0)=(b=0):=fun b=>by simp
  by_cases h1:m.kind=1
  · simp only[go_sem,seval, -List.reduceReplicate,h1]
    refine pend_intro ((val_check m.val h.val).call ?_)
    by_cases hb:m.by_=0
    · have e:tt (msgOk m)=true:=tt_true ⟨by omega,by omega,fun hh=>absurd h1 hh,fun _=>hb⟩
      simp only[go_sem,seval, -List.reduceReplicate,h1,hz,hb,e]
      exact Ext.app _ _
    · have e:tt (msgOk m)=false:=tt_false fun hh=>hb (hh.by_ (by omega))
      simp only[go_sem,seval, -List.reduceReplicate,h1,hz,hb,e]
      exact Ext.app _ _
  · by_cases h2:m.kind=2
    · by_cases hv:m.val=[]
      · have hv':decide (m.val=[])=true:=decide_eq_true hv
        by_cases hb:m.by_=0
        · have e:tt (msgOk m)=true:=tt_true ⟨by omega,by omega,fun hh=>hv,fun _=>hb⟩
          simp only[go_sem,seval, -List.reduceReplicate,h2,z,hcmp_val h.val,hz,hb,hv',e]
          exact Ext.app _ _
        · have e:tt (msgOk m)=false:=tt_false fun hh=>hb (hh.by_ (by omega))
          simp only[go_sem,seval, -List.reduceReplicate,h2,z,hcmp_val h.val,hz,hb,hv',e]
          exact Ext.app _ _
      · have hv':decide (m.val=[])=false:=decide_eq_false hv
        have e:tt (msgOk m)=false:=tt_false fun hh=>hv (hh.val (by omega))
        by_cases hb:m.by_=0
        · simp only[go_sem,seval, -List.reduceReplicate,h2,z,hcmp_val h.val,hz,hb,hv',e]
          exact Ext.app _ _
        · simp only[go_sem,seval, -List.reduceReplicate,h2,z,hcmp_val h.val,hz,hb,hv',e]
          exact Ext.app _ _
    · by_cases h3:m.kind=3
      · by_cases hv:m.val=[]
        · have hv':decide (m.val=[])=true:=decide_eq_true hv
          have e:tt (msgOk m)=true:=tt_true ⟨by omega,by omega,fun hh=>hv,fun hh=>absurd h3 hh⟩
          simp only[go_sem,seval, -List.reduceReplicate,h3,z,hcmp_val h.val,hv',e]
          exact Ext.app _ _
        · have hv':decide (m.val=[])=false:=decide_eq_false hv
          have e:tt (msgOk m)=false:=tt_false fun hh=>hv (hh.val (by omega))
          simp only[go_sem,seval, -List.reduceReplicate,h3,z,hcmp_val h.val,hv',e]
          exact Ext.app _ _
      · have e:tt (msgOk m)=false:=tt_false fun hh=>by have:=hh.lo;have:=hh.hi;omega
        simp only[go_sem,seval, -List.reduceReplicate,h1,h2,h3,e]
        exact Ext.app _ _
theorem msg_bytes (m:Ms) (h:okM m):Pure Tryz.prog 295 [.agg (msgL m)] (.int .i64 (msgBytes m)):=by
  refine Pure.of_ext (.int _ _) fun PS=>?_
  refine enter_295 (by unfold Tryz.f295;exact rfl) ?_
  simp only[go_sem,seval, -List.reduceReplicate]
  refine pend_intro ((msg_check m h).call ?_)
  have hk':m.key.length≤8:=h.key
  have hv':m.val.length≤16:=h.val
  by_cases ho:msgOk m
  · have e:=tt_true ho
    have hk:m.kind=1∨m.kind=2∨m.kind=3:=by have:=ho.lo;have:=ho.hi;omega
    rcases hk with hk | hk | hk
    · have eb:msgBytes m=11+m.key.length+m.val.length:=by rw[msgBytes,e,hk];rfl
      simp only[go_sem,seval, -List.reduceReplicate,e,hk,eb]
      exact⟨by omega,by omega,by omega,congrArg (HV.int .i64) (by omega),Ext.app _ _⟩
    · have eb:msgBytes m=10+m.key.length:=by rw[msgBytes,e,hk];rfl
      simp only[go_sem,seval, -List.reduceReplicate,e,hk,eb]
      exact⟨by omega,congrArg (HV.int .i64) (by omega),Ext.app _ _⟩
    · have eb:msgBytes m=18+m.key.length:=by rw[msgBytes,e,hk];rfl
      simp only[go_sem,seval, -List.reduceReplicate,e,hk,eb]
      exact⟨by omega,by omega,congrArg (HV.int .i64) (by omega),Ext.app _ _⟩
  · have e:=tt_false ho
    have eb:msgBytes m=0:=by rw[msgBytes,e];rfl
    simp only[go_sem,seval, -List.reduceReplicate,e,eb,Int.natCast_zero]
    exact Ext.app _ _
end Go.Proofs.YtajjhaidpagflaaGreat
namespace Go.Mo
theorem entBytes_le {e:Bs×Bs} (h:okK e.1∧okV e.2):entBytes e≤40:=by
  have h1:=h.1
  have h2:=h.2
  unfold okK at h1
  unfold okV at h2
  unfold entBytes
  omega
end Go.Mo
namespace Go.Proofs.YtajjhaidpagflaaGreat
open Go Go.Eng Go.Mo
variable [Toks]
set_option maxRecDepth 20000
attribute [local irreducible] hvc hops hop hplan hdrawP hval1 hopD HLoop
theorem rents_bytes (t:Bool) (l:List (Bs×Bs)) (hl:l.length≤1000) (ok:∀e∈l,okK e.1∧okV e.2):Pure Tryz.prog 120 [.imm t (l.map entL)] (.int .i64 ((l.map entBytes).sum:Nat)):=by
  intro PS
  refine enter_120 (by unfold Tryz.f120;exact rfl) ?_
  simp only[go_sem,seval, -List.reduceReplicate,List.length_map]
  skip
  refine pend_intro (loop_rule (α:=Nat) [false,false,false,false,false,true,true,true,true,true,true,true,true,true,true,true,true,true,true,true,true,true,true,true,true,true,true] (fun i=>[(4,.int .i64 i),(3,.int .i64 (((l.take i).map entBytes).sum:Nat))]) (fun i=>l.length - i) (fun i PS'=>i≤l.length∧PS'=PS) 0 ⟨Nat.zero_le _,rfl⟩ ?_ ?_)
  · simp only[go_sem,seval, -List.reduceReplicate,Int.natCast_zero]
    rfl
  · intro i PS' hr
    obtain⟨hi,he⟩:=hr
    subst he
    by_cases hlt:i<l.length
    · have ha1:l[i]? =some l[i]:=by simp[hlt]
      have oi:=ok _ (List.getElem_mem hlt)
      have hs:=take_sum entBytes l i hlt
      have hb:=sum_le entBytes 40 (l.take i) (fun a ha=>entBytes_le (ok a (List.mem_of_mem_take ha)))
      have hc:=entBytes_le oi
      have hd:(l.take i).length≤1000:=by rw[List.length_take];omega
      simp only[go_sem,seval, -List.reduceReplicate,hlt,List.getElem?_map,Option.map_some,ha1,List.length_map,List.append_nil]
      intro _
      have hu:entBytes l[i]=2+l[i].1.length+l[i].2.length:=rfl
      refine⟨by omega,by omega,by omega,by omega,i+1,by omega,by omega,congrArg (HV.int .i64) (by omega),congrArg (HV.int .i64) (by omega)⟩
    · simp only[go_sem,seval, -List.reduceReplicate,hlt,List.length_map]
      intro _
      rw[List.take_of_length_le (by omega)]
theorem rmsgs_bytes (t:Bool) (l:List (Ms)) (hl:l.length≤1000) (ok:∀e∈l,okM e):Pure Tryz.prog 173 [.imm t (l.map msgL)] (.int .i64 ((l.map msgBytes).sum:Nat)):=by
  intro PS
  refine enter_173 (by unfold Tryz.f173;exact rfl) ?_
  simp only[go_sem,seval, -List.reduceReplicate,List.length_map]
  skip
  refine pend_intro (loop_rule (α:=Nat) [false,false,false,false,false,true,true,true,true,true,true,true,true,true,true,true,true,true] (fun i=>[(4,.int .i64 i),(3,.int .i64 (((l.take i).map msgBytes).sum:Nat))]) (fun i=>l.length - i) (fun i PS'=>i≤l.length∧PS'=PS) 0 ⟨Nat.zero_le _,rfl⟩ ?_ ?_)
  · simp only[go_sem,seval, -List.reduceReplicate,Int.natCast_zero]
    rfl
  · intro i PS' hr
    obtain⟨hi,he⟩:=hr
    subst he
    by_cases hlt:i<l.length
    · have ha1:l[i]? =some l[i]:=by simp[hlt]
      have oi:=ok _ (List.getElem_mem hlt)
      have hs:=take_sum msgBytes l i hlt
      have hb:=sum_le msgBytes 40 (l.take i) (fun a ha=>msgBytes_le (ok a (List.mem_of_mem_take ha)))
      have hc:=msgBytes_le oi
      have hd:(l.take i).length≤1000:=by rw[List.length_take];omega
      simp only[go_sem,seval, -List.reduceReplicate,hlt,List.getElem?_map,Option.map_some,ha1,List.length_map,List.append_nil]
      intro _
      refine pend_intro ((rmsg_bytes l[i] oi).call ?_)
      simp only[go_sem,seval, -List.reduceReplicate]
      refine⟨by omega,by omega,i+1,by omega,by omega,congrArg (HV.int .i64) (by omega),congrArg (HV.int .i64) (by omega)⟩
    · simp only[go_sem,seval, -List.reduceReplicate,hlt,List.length_map]
      intro _
      rw[List.take_of_length_le (by omega)]
theorem leaf_size (e:Bs×Bs) (ok:okK e.1∧okV e.2):Pure Tryz.prog 288 [.agg (entL e)] (.int .i64 (entBytes e)):=by
  refine Pure.of_ext (.int _ _) fun PS=>?_
  refine enter_288 (by unfold Tryz.f288;exact rfl) ?_
  have h1:e.1.length≤8:=ok.1
  have h2:e.2.length≤16:=ok.2
  have hu:entBytes e=2+e.1.length+e.2.length:=rfl
  simp only[go_sem,seval, -List.reduceReplicate,hu]
  exact⟨by omega,by omega,congrArg (HV.int .i64) (by omega),Ext.app _ _⟩
theorem buf_bytes (t:Bool) (l:List (Ms)) (hl:l.length≤1000) (ok:∀e∈l,okM e):Pure Tryz.prog 292 [.imm t (l.map msgL)] (.int .i64 ((l.map msgBytes).sum:Nat)):=by
  refine Pure.of_ext (.int _ _) fun PS=>?_
  refine enter_292 (by unfold Tryz.f292;exact rfl) ?_
  simp only[go_sem,seval, -List.reduceReplicate,List.length_map]
  intro _
  refine pend_intro (loop_rule (α:=Nat) [false,false,false,false,false,true,false,false,false,true,true,true,true,true,true,true,true] (fun i=>[(8,.int .i64 i),(3,.int .i64 (((l.take i).map msgBytes).sum:Nat))]) (fun i=>l.length - i) (fun i PS'=>i≤l.length∧Ext [] PS PS') 0 ⟨Nat.zero_le _,Ext.refl _⟩ ?_ ?_)
  · simp only[go_sem,seval, -List.reduceReplicate,Int.natCast_zero]
    rfl
  · intro i PS' hr
    obtain⟨hi,he⟩:=hr
    by_cases hlt:i<l.length
    · have ha1:l[i]? =some l[i]:=by simp[hlt]
      have oi:=ok _ (List.getElem_mem hlt)
      have hs:=take_sum msgBytes l i hlt
      have hb:=sum_le msgBytes 40 (l.take i) (fun a ha=>msgBytes_le (ok a (List.mem_of_mem_take ha)))
      have hc:=msgBytes_le oi
      have hd:(l.take i).length≤1000:=by rw[List.length_take];omega
      simp only[go_sem,seval, -List.reduceReplicate,hlt,List.getElem?_map,Option.map_some,ha1,List.length_map,List.append_nil]
      refine pend_intro ((msg_bytes l[i] oi).call ?_)
      simp only[go_sem,seval, -List.reduceReplicate]
      exact⟨by omega,by omega,i+1,by omega,⟨by omega,he.trans (Ext.app _ _)⟩,congrArg (HV.int .i64) (by omega),congrArg (HV.int .i64) (by omega)⟩
    · simp only[go_sem,seval, -List.reduceReplicate,hlt,List.length_map]
      skip
      rw[List.take_of_length_le (by omega)]
      exact⟨rfl,he⟩
theorem leaf_bytes (t:Bool) (l:List (Bs×Bs)) (hl:l.length≤1000) (ok:∀e∈l,okK e.1∧okV e.2):Pure Tryz.prog 286 [.imm t (l.map entL)] (.int .i64 ((l.map entBytes).sum:Nat)):=by
  refine Pure.of_ext (.int _ _) fun PS=>?_
  refine enter_286 (by unfold Tryz.f286;exact rfl) ?_
  simp only[go_sem,seval, -List.reduceReplicate,List.length_map]
  intro _
  refine pend_intro (loop_rule (α:=Nat) [false,false,false,false,false,true,false,false,false,true,true,true,true,true,true,true,true] (fun i=>[(8,.int .i64 i),(3,.int .i64 (((l.take i).map entBytes).sum:Nat))]) (fun i=>l.length - i) (fun i PS'=>i≤l.length∧Ext [] PS PS') 0 ⟨Nat.zero_le _,Ext.refl _⟩ ?_ ?_)
  · simp only[go_sem,seval, -List.reduceReplicate,Int.natCast_zero]
    rfl
  · intro i PS' hr
    obtain⟨hi,he⟩:=hr
    by_cases hlt:i<l.length
    · have ha1:l[i]? =some l[i]:=by simp[hlt]
      have oi:=ok _ (List.getElem_mem hlt)
      have hs:=take_sum entBytes l i hlt
      have hb:=sum_le entBytes 40 (l.take i) (fun a ha=>entBytes_le (ok a (List.mem_of_mem_take ha)))
      have hc:=entBytes_le oi
      have hd:(l.take i).length≤1000:=by rw[List.length_take];omega
      simp only[go_sem,seval, -List.reduceReplicate,hlt,List.getElem?_map,Option.map_some,ha1,List.length_map,List.append_nil]
      refine pend_intro ((leaf_size l[i] oi).call ?_)
      simp only[go_sem,seval, -List.reduceReplicate]
      exact⟨by omega,by omega,i+1,by omega,⟨by omega,he.trans (Ext.app _ _)⟩,congrArg (HV.int .i64) (by omega),congrArg (HV.int .i64) (by omega)⟩
    · simp only[go_sem,seval, -List.reduceReplicate,hlt,List.length_map]
      skip
      rw[List.take_of_length_le (by omega)]
      exact⟨rfl,he⟩
end Go.Proofs.YtajjhaidpagflaaGreat
namespace Go.Mo
open Go Go.Eng
variable [Toks]
/-- Rising so far. -/
def upTo (l:List Bs) (i:Nat):Prop:=∀(j:Nat) (a b:Bs),j<i→0<j→l[j - 1]? =some a→l[j]? =some b→cmpB a b<0
theorem upTo_all {l:List Bs} {i:Nat} (h:l.length≤i):upTo l i↔rising l:=
  ⟨fun hu j a b h0 ha hb=>hu j a b (by have:=(List.getElem?_eq_some_iff.1 hb).1;omega) h0 ha hb,fun hr j a b _ h0 ha hb=>hr j a b h0 ha hb⟩
def eOk (_:Bs×Bs):Prop:=True
theorem upTo_zero (l:List Bs):upTo l 0:=fun _ _ _ h _ _ _=>absurd h (Nat.not_lt_zero _)
theorem upTo_one (l:List Bs):upTo l 1:=fun _ _ _ _ _ _ _=>by omega
theorem upTo_succ {l:List Bs} {i:Nat} {a b:Bs} (h:upTo l i) (ha:l[i - 1]? =some a) (hb:l[i]? =some b) (hc:cmpB a b<0):upTo l (i+1):=by
  intro j x y hj h0 hx hy
  by_cases hji:j<i
  · exact h j x y hji h0 hx hy
  · have:j=i:=by omega
    subst this
    rw[ha] at hx;rw[hb] at hy
    cases hx;cases hy
    exact hc
end Go.Mo
namespace Go.Proofs.YtajjhaidpagflaaGreat
open Go Go.Eng Go.Mo
variable [Toks]
set_option maxRecDepth 20000
attribute [local irreducible] hvc hops hop hplan hdrawP hval1 hopD HLoop
theorem rents_check (t:Bool) (l:List (Bs×Bs)) (hl:l.length≤1000) (ok:∀e∈l,okK e.1∧okV e.2):Pure Tryz.prog 219 [.imm t (l.map entL)] (.bool (tt (entsOk l))):=by
  refine Pure.of_ext (.bool _) fun PS=>?_
  refine enter_219 (by unfold Tryz.f219;exact rfl) ?_
  simp only[go_sem,seval, -List.reduceReplicate,List.length_map]
  skip
  refine pend_intro (loop_rule (α:=Nat) [false,false,true,false,true,true,true,true,true,true,true,true,true,true,true,true,true,true,true,true,true,true,true,true,true,true,true,true,true,true,true,true,true,true,true,true,true,true,true,true,true,true,true,true,true] (fun i=>[(3,.int .i64 i)]) (fun i=>l.length - i) (fun i PS'=>(i≤l.length∧upTo (l.map Prod.fst) i∧∀(j:Nat) (a:Bs×Bs),j<i→l[j]? =some a→eOk a)∧Ext [] PS PS') 0 ⟨⟨Nat.zero_le _,upTo_zero _,fun j _ h _=>absurd h (Nat.not_lt_zero _)⟩,Ext.refl _⟩ ?_ ?_)
  · simp only[go_sem,seval, -List.reduceReplicate,Int.natCast_zero]
  · intro i PS' hr
    obtain⟨⟨hi,hu,hk⟩,he⟩:=hr
    by_cases hlt:i<l.length
    · have ha1:l[i]? =some l[i]:=by simp[hlt]
      have oi:=ok _ (List.getElem_mem hlt)
      have hb:(l.map Prod.fst)[i]? =some (Prod.fst l[i]):=by simp[ha1]
      have hkk:eOk l[i]→∀(j:Nat) (a:Bs×Bs),j<i+1→l[j]? =some a→eOk a:=fun h j a hj hja=>by
        by_cases hji:j<i
        · exact hk j a hji hja
        · have:j=i:=by omega
          subst this;rw[ha1] at hja;cases hja;exact h
      by_cases h0:(0:Int)<i
      · have hm:(i:Int) - 1=((i - 1:Nat):Int):=by omega
        have hlt1:i - 1<l.length:=by omega
        have ha0:l[i - 1]? =some l[i - 1]:=by simp[hlt1]
        have oj:=ok _ (List.getElem_mem hlt1)
        have ha:(l.map Prod.fst)[i - 1]? =some (Prod.fst l[i - 1]):=by simp[ha0]
        simp only[go_sem,seval, -List.reduceReplicate,hlt,List.getElem?_map,Option.map_some,ha1,List.length_map]
        intro _
        refine pend_intro ((rkey_check _ oi.1).to ?_)
        simp only[go_sem,seval, -List.reduceReplicate,hlt,List.getElem?_map,Option.map_some,ha1,List.length_map]
        refine pend_intro ((rval_check _ oi.2).to ?_)
        have hone:eOk l[i]:=trivial
        simp only[go_sem,seval, -List.reduceReplicate,hlt,List.getElem?_map,Option.map_some,ha1,List.length_map,h0,hm,hlt1,ha0]
        have hp:=rkey_cmp _ _ oj.1 oi.1
        refine⟨by omega,pend_intro (hp.to ?_)⟩
        by_cases hc:cmpB (Prod.fst l[i - 1]) (Prod.fst l[i])<0
        · have hc':¬0≤cmpB (Prod.fst l[i - 1]) (Prod.fst l[i]):=by omega
          simp only[go_sem,seval, -List.reduceReplicate,hc,hc']
          exact⟨by omega,i+1,by omega,⟨⟨by omega,upTo_succ hu ha hb hc,hkk hone⟩,(by first | exact he | exact he.trans (Ext.app _ _))⟩,by simp⟩
        · have hc':0≤cmpB (Prod.fst l[i - 1]) (Prod.fst l[i]):=by omega
          have hf:tt (entsOk l)=false:=tt_false fun hr=>hc (((fun h=>h) hr) i _ _ (by omega) ha hb)
          simp only[go_sem,seval, -List.reduceReplicate,hc,hc',hf]
          first | exact he | exact he.trans (Ext.app _ _)
      · simp only[go_sem,seval, -List.reduceReplicate,hlt,List.getElem?_map,Option.map_some,ha1,List.length_map]
        intro _
        refine pend_intro ((rkey_check _ oi.1).to ?_)
        simp only[go_sem,seval, -List.reduceReplicate,hlt,List.getElem?_map,Option.map_some,ha1,List.length_map]
        refine pend_intro ((rval_check _ oi.2).to ?_)
        have hone:eOk l[i]:=trivial
        simp only[go_sem,seval, -List.reduceReplicate,hlt,List.getElem?_map,Option.map_some,ha1,List.length_map,h0]
        have:i=0:=by omega
        subst this
        exact⟨by omega,1,by omega,⟨⟨by omega,upTo_one _,hkk hone⟩,(by first | exact he | exact he.trans (Ext.app _ _))⟩,rfl⟩
    · simp only[go_sem,seval, -List.reduceReplicate,hlt,List.length_map]
      intro _
      have hall:∀a∈l,eOk a:=fun a ha=>by
        obtain⟨j,hj⟩:=List.getElem?_of_mem ha
        exact hk j a (by have:=(List.getElem?_eq_some_iff.1 hj).1;omega) hj
      have:entsOk l:=(fun h _=>h) ((upTo_all (by simp;omega)).1 hu) hall
      rw[tt_true this]
      exact⟨rfl,he⟩
theorem leaf_check (t:Bool) (l:List (Bs×Bs)) (hl:l.length≤1000) (ok:∀e∈l,okK e.1∧okV e.2):Pure Tryz.prog 287 [.imm t (l.map entL)] (.bool (tt (entsOk l))):=by
  refine Pure.of_ext (.bool _) fun PS=>?_
  refine enter_287 (by unfold Tryz.f287;exact rfl) ?_
  simp only[go_sem,seval, -List.reduceReplicate,List.length_map]
  intro _
  refine pend_intro (loop_rule (α:=Nat) [false,false,true,true,true,false,false,false,true,true,true,true,true,true,true,true,true,true,true,true,true,true,true,true,true,true,true,true,true,true,true,true,true,true,true,true,true,true,true] (fun i=>[(7,.int .i64 i)]) (fun i=>l.length - i) (fun i PS'=>(i≤l.length∧upTo (l.map Prod.fst) i∧∀(j:Nat) (a:Bs×Bs),j<i→l[j]? =some a→eOk a)∧Ext [] PS PS') 0 ⟨⟨Nat.zero_le _,upTo_zero _,fun j _ h _=>absurd h (Nat.not_lt_zero _)⟩,Ext.refl _⟩ ?_ ?_)
  · simp only[go_sem,seval, -List.reduceReplicate,Int.natCast_zero]
  · intro i PS' hr
    obtain⟨⟨hi,hu,hk⟩,he⟩:=hr
    by_cases hlt:i<l.length
    · have ha1:l[i]? =some l[i]:=by simp[hlt]
      have oi:=ok _ (List.getElem_mem hlt)
      have hb:(l.map Prod.fst)[i]? =some (Prod.fst l[i]):=by simp[ha1]
      have hkk:eOk l[i]→∀(j:Nat) (a:Bs×Bs),j<i+1→l[j]? =some a→eOk a:=fun h j a hj hja=>by
        by_cases hji:j<i
        · exact hk j a hji hja
        · have:j=i:=by omega
          subst this;rw[ha1] at hja;cases hja;exact h
      by_cases h0:(0:Int)<i
      · have hm:(i:Int) - 1=((i - 1:Nat):Int):=by omega
        have hlt1:i - 1<l.length:=by omega
        have ha0:l[i - 1]? =some l[i - 1]:=by simp[hlt1]
        have oj:=ok _ (List.getElem_mem hlt1)
        have ha:(l.map Prod.fst)[i - 1]? =some (Prod.fst l[i - 1]):=by simp[ha0]
        simp only[go_sem,seval, -List.reduceReplicate,hlt,List.getElem?_map,Option.map_some,ha1,List.length_map]
        refine pend_intro ((key_check _ oi.1).to ?_)
        simp only[go_sem,seval, -List.reduceReplicate,hlt,List.getElem?_map,Option.map_some,ha1,List.length_map]
        refine pend_intro ((val_check _ oi.2).to ?_)
        have hone:eOk l[i]:=trivial
        simp only[go_sem,seval, -List.reduceReplicate,hlt,List.getElem?_map,Option.map_some,ha1,List.length_map,h0,hm,hlt1,ha0]
        have hp:=key_cmp _ _ oj.1 oi.1
        refine⟨by omega,pend_intro (hp.to ?_)⟩
        by_cases hc:cmpB (Prod.fst l[i - 1]) (Prod.fst l[i])<0
        · have hc':¬0≤cmpB (Prod.fst l[i - 1]) (Prod.fst l[i]):=by omega
          simp only[go_sem,seval, -List.reduceReplicate,hc,hc']
          exact⟨by omega,i+1,by omega,⟨⟨by omega,upTo_succ hu ha hb hc,hkk hone⟩,(by first | exact he | exact he.trans (Ext.app _ _))⟩,by simp⟩
        · have hc':0≤cmpB (Prod.fst l[i - 1]) (Prod.fst l[i]):=by omega
          have hf:tt (entsOk l)=false:=tt_false fun hr=>hc (((fun h=>h) hr) i _ _ (by omega) ha hb)
          simp only[go_sem,seval, -List.reduceReplicate,hc,hc',hf]
          first | exact he | exact he.trans (Ext.app _ _)
      · simp only[go_sem,seval, -List.reduceReplicate,hlt,List.getElem?_map,Option.map_some,ha1,List.length_map]
        refine pend_intro ((key_check _ oi.1).to ?_)
        simp only[go_sem,seval, -List.reduceReplicate,hlt,List.getElem?_map,Option.map_some,ha1,List.length_map]
        refine pend_intro ((val_check _ oi.2).to ?_)
        have hone:eOk l[i]:=trivial
        simp only[go_sem,seval, -List.reduceReplicate,hlt,List.getElem?_map,Option.map_some,ha1,List.length_map,h0]
        have:i=0:=by omega
        subst this
        exact⟨by omega,1,by omega,⟨⟨by omega,upTo_one _,hkk hone⟩,(by first | exact he | exact he.trans (Ext.app _ _))⟩,rfl⟩
    · simp only[go_sem,seval, -List.reduceReplicate,hlt,List.length_map]
      skip
      have hall:∀a∈l,eOk a:=fun a ha=>by
        obtain⟨j,hj⟩:=List.getElem?_of_mem ha
        exact hk j a (by have:=(List.getElem?_eq_some_iff.1 hj).1;omega) hj
      have:entsOk l:=(fun h _=>h) ((upTo_all (by simp;omega)).1 hu) hall
      rw[tt_true this]
      exact⟨rfl,he⟩
theorem rmsgs_check (t:Bool) (l:List (Ms)) (hl:l.length≤1000) (ok:∀e∈l,okM e):Pure Tryz.prog 221 [.imm t (l.map msgL)] (.bool (tt (msgsOk l))):=by
  refine Pure.of_ext (.bool _) fun PS=>?_
  refine enter_221 (by unfold Tryz.f221;exact rfl) ?_
  simp only[go_sem,seval, -List.reduceReplicate,List.length_map]
  skip
  refine pend_intro (loop_rule (α:=Nat) [false,false,true,false,true,true,true,true,true,true,true,true,true,true,true,true,true,true,true,true,true,true,true,true,true,true,true,true,true,true,true,true,true,true,true] (fun i=>[(3,.int .i64 i)]) (fun i=>l.length - i) (fun i PS'=>(i≤l.length∧upTo (l.map Ms.key) i∧∀(j:Nat) (a:Ms),j<i→l[j]? =some a→msgOk a)∧Ext [] PS PS') 0 ⟨⟨Nat.zero_le _,upTo_zero _,fun j _ h _=>absurd h (Nat.not_lt_zero _)⟩,Ext.refl _⟩ ?_ ?_)
  · simp only[go_sem,seval, -List.reduceReplicate,Int.natCast_zero]
  · intro i PS' hr
    obtain⟨⟨hi,hu,hk⟩,he⟩:=hr
    by_cases hlt:i<l.length
    · have ha1:l[i]? =some l[i]:=by simp[hlt]
      have oi:=ok _ (List.getElem_mem hlt)
      have hb:(l.map Ms.key)[i]? =some (Ms.key l[i]):=by simp[ha1]
      have hkk:msgOk l[i]→∀(j:Nat) (a:Ms),j<i+1→l[j]? =some a→msgOk a:=fun h j a hj hja=>by
        by_cases hji:j<i
        · exact hk j a hji hja
        · have:j=i:=by omega
          subst this;rw[ha1] at hja;cases hja;exact h
      by_cases h0:(0:Int)<i
      · have hm:(i:Int) - 1=((i - 1:Nat):Int):=by omega
        have hlt1:i - 1<l.length:=by omega
        have ha0:l[i - 1]? =some l[i - 1]:=by simp[hlt1]
        have oj:=ok _ (List.getElem_mem hlt1)
        have ha:(l.map Ms.key)[i - 1]? =some (Ms.key l[i - 1]):=by simp[ha0]
        simp only[go_sem,seval, -List.reduceReplicate,hlt,List.getElem?_map,Option.map_some,ha1,List.length_map]
        intro _
        refine pend_intro ((rmsg_check _ oi).to ?_)
        by_cases hone:msgOk l[i]
        rotate_left
        · have hf:tt (msgsOk l)=false:=tt_false fun hr=>hone (hr.1 _ (List.getElem_mem hlt))
          simp only[go_sem,seval, -List.reduceReplicate,tt_false hone,hf]
          first | exact he | exact he.trans (Ext.app _ _)
        rw[tt_true hone]
        simp only[go_sem,seval, -List.reduceReplicate,hlt,List.getElem?_map,Option.map_some,ha1,List.length_map,h0,hm,hlt1,ha0]
        have hp:=rkey_cmp _ _ oj.key oi.key
        refine⟨by omega,pend_intro (hp.to ?_)⟩
        by_cases hc:cmpB (Ms.key l[i - 1]) (Ms.key l[i])<0
        · have hc':¬0≤cmpB (Ms.key l[i - 1]) (Ms.key l[i]):=by omega
          simp only[go_sem,seval, -List.reduceReplicate,hc,hc']
          exact⟨by omega,i+1,by omega,⟨⟨by omega,upTo_succ hu ha hb hc,hkk hone⟩,(by first | exact he | exact he.trans (Ext.app _ _))⟩,by simp⟩
        · have hc':0≤cmpB (Ms.key l[i - 1]) (Ms.key l[i]):=by omega
          have hf:tt (msgsOk l)=false:=tt_false fun hr=>hc ((And.right hr) i _ _ (by omega) ha hb)
          simp only[go_sem,seval, -List.reduceReplicate,hc,hc',hf]
          first | exact he | exact he.trans (Ext.app _ _)
      · simp only[go_sem,seval, -List.reduceReplicate,hlt,List.getElem?_map,Option.map_some,ha1,List.length_map]
        intro _
        refine pend_intro ((rmsg_check _ oi).to ?_)
        by_cases hone:msgOk l[i]
        rotate_left
        · have hf:tt (msgsOk l)=false:=tt_false fun hr=>hone (hr.1 _ (List.getElem_mem hlt))
          simp only[go_sem,seval, -List.reduceReplicate,tt_false hone,hf]
          first | exact he | exact he.trans (Ext.app _ _)
        rw[tt_true hone]
        simp only[go_sem,seval, -List.reduceReplicate,hlt,List.getElem?_map,Option.map_some,ha1,List.length_map,h0]
        have:i=0:=by omega
        subst this
        exact⟨by omega,1,by omega,⟨⟨by omega,upTo_one _,hkk hone⟩,(by first | exact he | exact he.trans (Ext.app _ _))⟩,rfl⟩
    · simp only[go_sem,seval, -List.reduceReplicate,hlt,List.length_map]
      intro _
      have hall:∀a∈l,msgOk a:=fun a ha=>by
        obtain⟨j,hj⟩:=List.getElem?_of_mem ha
        exact hk j a (by have:=(List.getElem?_eq_some_iff.1 hj).1;omega) hj
      have:msgsOk l:=(fun h k=>⟨k,h⟩) ((upTo_all (by simp;omega)).1 hu) hall
      rw[tt_true this]
      exact⟨rfl,he⟩
theorem buf_check (t:Bool) (l:List (Ms)) (hl:l.length≤1000) (ok:∀e∈l,okM e):Pure Tryz.prog 294 [.imm t (l.map msgL)] (.bool (tt (msgsOk l))):=by
  refine Pure.of_ext (.bool _) fun PS=>?_
  refine enter_294 (by unfold Tryz.f294;exact rfl) ?_
  simp only[go_sem,seval, -List.reduceReplicate,List.length_map]
  intro _
  refine pend_intro (loop_rule (α:=Nat) [false,false,true,true,true,false,false,false,true,true,true,true,true,true,true,true,true,true,true,true,true,true,true,true,true,true,true,true,true,true,true,true] (fun i=>[(7,.int .i64 i)]) (fun i=>l.length - i) (fun i PS'=>(i≤l.length∧upTo (l.map Ms.key) i∧∀(j:Nat) (a:Ms),j<i→l[j]? =some a→msgOk a)∧Ext [] PS PS') 0 ⟨⟨Nat.zero_le _,upTo_zero _,fun j _ h _=>absurd h (Nat.not_lt_zero _)⟩,Ext.refl _⟩ ?_ ?_)
  · simp only[go_sem,seval, -List.reduceReplicate,Int.natCast_zero]
  · intro i PS' hr
    obtain⟨⟨hi,hu,hk⟩,he⟩:=hr
    by_cases hlt:i<l.length
    · have ha1:l[i]? =some l[i]:=by simp[hlt]
      have oi:=ok _ (List.getElem_mem hlt)
      have hb:(l.map Ms.key)[i]? =some (Ms.key l[i]):=by simp[ha1]
      have hkk:msgOk l[i]→∀(j:Nat) (a:Ms),j<i+1→l[j]? =some a→msgOk a:=fun h j a hj hja=>by
        by_cases hji:j<i
        · exact hk j a hji hja
        · have:j=i:=by omega
          subst this;rw[ha1] at hja;cases hja;exact h
      by_cases h0:(0:Int)<i
      · have hm:(i:Int) - 1=((i - 1:Nat):Int):=by omega
        have hlt1:i - 1<l.length:=by omega
        have ha0:l[i - 1]? =some l[i - 1]:=by simp[hlt1]
        have oj:=ok _ (List.getElem_mem hlt1)
        have ha:(l.map Ms.key)[i - 1]? =some (Ms.key l[i - 1]):=by simp[ha0]
        simp only[go_sem,seval, -List.reduceReplicate,hlt,List.getElem?_map,Option.map_some,ha1,List.length_map]
        refine pend_intro ((msg_check _ oi).to ?_)
        by_cases hone:msgOk l[i]
        rotate_left
        · have hf:tt (msgsOk l)=false:=tt_false fun hr=>hone (hr.1 _ (List.getElem_mem hlt))
          simp only[go_sem,seval, -List.reduceReplicate,tt_false hone,hf]
          first | exact he | exact he.trans (Ext.app _ _)
        rw[tt_true hone]
        simp only[go_sem,seval, -List.reduceReplicate,hlt,List.getElem?_map,Option.map_some,ha1,List.length_map,h0,hm,hlt1,ha0]
        have hp:=key_cmp _ _ oj.key oi.key
        refine⟨by omega,pend_intro (hp.to ?_)⟩
        by_cases hc:cmpB (Ms.key l[i - 1]) (Ms.key l[i])<0
        · have hc':¬0≤cmpB (Ms.key l[i - 1]) (Ms.key l[i]):=by omega
          simp only[go_sem,seval, -List.reduceReplicate,hc,hc']
          exact⟨by omega,i+1,by omega,⟨⟨by omega,upTo_succ hu ha hb hc,hkk hone⟩,(by first | exact he | exact he.trans (Ext.app _ _))⟩,by simp⟩
        · have hc':0≤cmpB (Ms.key l[i - 1]) (Ms.key l[i]):=by omega
          have hf:tt (msgsOk l)=false:=tt_false fun hr=>hc ((And.right hr) i _ _ (by omega) ha hb)
          simp only[go_sem,seval, -List.reduceReplicate,hc,hc',hf]
          first | exact he | exact he.trans (Ext.app _ _)
      · simp only[go_sem,seval, -List.reduceReplicate,hlt,List.getElem?_map,Option.map_some,ha1,List.length_map]
        refine pend_intro ((msg_check _ oi).to ?_)
        by_cases hone:msgOk l[i]
        rotate_left
        · have hf:tt (msgsOk l)=false:=tt_false fun hr=>hone (hr.1 _ (List.getElem_mem hlt))
          simp only[go_sem,seval, -List.reduceReplicate,tt_false hone,hf]
          first | exact he | exact he.trans (Ext.app _ _)
        rw[tt_true hone]
        simp only[go_sem,seval, -List.reduceReplicate,hlt,List.getElem?_map,Option.map_some,ha1,List.length_map,h0]
        have:i=0:=by omega
        subst this
        exact⟨by omega,1,by omega,⟨⟨by omega,upTo_one _,hkk hone⟩,(by first | exact he | exact he.trans (Ext.app _ _))⟩,rfl⟩
    · simp only[go_sem,seval, -List.reduceReplicate,hlt,List.length_map]
      skip
      have hall:∀a∈l,msgOk a:=fun a ha=>by
        obtain⟨j,hj⟩:=List.getElem?_of_mem ha
        exact hk j a (by have:=(List.getElem?_eq_some_iff.1 hj).1;omega) hj
      have:msgsOk l:=(fun h k=>⟨k,h⟩) ((upTo_all (by simp;omega)).1 hu) hall
      rw[tt_true this]
      exact⟨rfl,he⟩
end Go.Proofs.YtajjhaidpagflaaGreat
namespace Go.Mo
open Go Go.Eng
variable [Toks]
/-- Where a number stands first; -1. -/
def placeOf (l:List Int) (x:Int):Int:=
  match l.findIdx? (fun y=>decide (y=x)) with
  | some i=>(i:Int)
  | none=> -1
theorem placeOf_some {l:List Int} {x:Int} {i:Nat} (h:l[i]? =some x) (hj:∀j,j<i→l[j]? ≠some x):placeOf l x=i:=by
  have:l.findIdx? (fun y=>decide (y=x))=some i:=by
    rw[List.findIdx?_eq_some_iff_getElem]
    obtain⟨hlt,he⟩:=List.getElem?_eq_some_iff.1 h
    refine⟨hlt,by simp[he],fun j hji=>?_⟩
    have:=hj j hji
    rw[List.getElem?_eq_getElem (by omega)] at this
    simpa using this
  rw[placeOf,this]
theorem placeOf_none {l:List Int} {x:Int} (h:∀j,j<l.length→l[j]? ≠some x):placeOf l x= -1:=by
  have:l.findIdx? (fun y=>decide (y=x))=none:=by
    rw[List.findIdx?_eq_none_iff]
    intro y hy
    obtain⟨j,hj⟩:=List.getElem?_of_mem hy
    have hlt:=(List.getElem?_eq_some_iff.1 hj).1
    have:=h j hlt
    rw[hj] at this
    simpa using this
  rw[placeOf,this]
theorem placeOf_eq {l:List Int} {x:Int} {i:Nat} (h:l[i]? =some x):placeOf l x=i↔∀j,j<i→l[j]? ≠some x:=by
  constructor
  · intro hp j hj hjx
    rcases hf:l.findIdx? (fun y=>decide (y=x)) with _ | k
    · rw[List.findIdx?_eq_none_iff] at hf
      have:=hf x (List.mem_of_getElem? h)
      simp at this
    · rw[placeOf,hf] at hp
      have hk:k=i:=by simp at hp;omega
      subst hk
      rw[List.findIdx?_eq_some_iff_getElem] at hf
      obtain⟨hlt,_,h3⟩:=hf
      have:=h3 j hj
      rw[List.getElem?_eq_getElem (by omega)] at hjx
      simp at hjx this
      exact this hjx
  · exact placeOf_some h
end Go.Mo
namespace Go.Proofs.YtajjhaidpagflaaGreat
open Go Go.Eng Go.Mo
variable [Toks]
set_option maxRecDepth 20000
attribute [local irreducible] hvc hops hop hplan hdrawP hval1 hopD HLoop
theorem rplace:∀(l:List Int) (x:Int) (t:Bool) (PS:PL),HCall Tryz.prog 25 [.imm t (l.map kidL),.int .i64 x] PS fun r PS'=>r=.int .i64 (placeOf l x)∧Ext [] PS PS':=by
  intro l x t PS
  have hmx:maxLen=9223372036854775807:=rfl
  refine enter_25 (by unfold Tryz.f25;exact rfl) ?_
  simp only[go_sem,seval, -List.reduceReplicate,List.length_map,kidL]
  skip
  refine pend_intro (loop_rule (α:=Nat) [false,false,false,false,true,false,true,true,true,true,true,true,true,true,true,true,true,true,true] (fun i=>[(5,.int .i64 i)]) (fun i=>l.length - i) (fun i PS'=>(i≤l.length∧∀j,j<i→l[j]? ≠some x)∧Ext [] PS PS') 0 ⟨⟨Nat.zero_le _,fun j h=>absurd h (Nat.not_lt_zero _)⟩,Ext.refl _⟩ ?_ ?_)
  · simp only[go_sem,seval, -List.reduceReplicate,Int.natCast_zero]
  · intro i PS' hr
    obtain⟨⟨hi,hu⟩,he⟩:=hr
    skip
    by_cases hlt:i<l.length
    · have ha1:l[i]? =some l[i]:=by simp[hlt]
      simp only[go_sem,seval, -List.reduceReplicate,hlt,List.getElem?_map,Option.map_some,ha1,List.length_map,kidL,kidL]
      intro _
      by_cases hx:l[i]=x
      · simp only[go_sem,seval, -List.reduceReplicate,hx]
        rw[placeOf_some (ha1.trans (congrArg some hx)) hu]
        exact⟨rfl,by first | exact he | exact he.trans (Ext.app _ _)⟩
      · have hx':¬x=l[i]:=fun h=>hx h.symm
        simp only[go_sem,seval, -List.reduceReplicate,hx,hx']
        refine⟨by omega,i+1,by omega,⟨⟨by omega,fun j hj hjx=>?_⟩,by first | exact he | exact he.trans (Ext.app _ _)⟩,by simp⟩
        by_cases hji:j<i
        · exact hu j hji hjx
        · have:j=i:=by omega
          subst this;rw[ha1] at hjx;cases hjx;exact hx rfl
    · simp only[go_sem,seval, -List.reduceReplicate,hlt,List.length_map,kidL]
      intro _
      rw[placeOf_none (fun j hj=>hu j (by omega))]
      exact⟨rfl,he⟩
theorem index:∀(l:List Int) (x:Int) (t:Bool) (PS:PL),HCall Tryz.prog 100 [.imm t (l.map kidL),.int .i64 x] PS fun r PS'=>r=.int .i64 (placeOf l x)∧Ext [] PS PS':=by
  intro l x t PS
  have hmx:maxLen=9223372036854775807:=rfl
  refine enter_100 (by unfold Tryz.f100;exact rfl) ?_
  simp only[go_sem,seval, -List.reduceReplicate,List.length_map,kidL]
  intro _
  refine pend_intro (loop_rule (α:=Nat) [false,false,false,false,true,true,false,false,false,true,true,true,true,true,true,true,true,true,true] (fun i=>[(8,.int .i64 i)]) (fun i=>l.length - i) (fun i PS'=>(i≤l.length∧∀j,j<i→l[j]? ≠some x)∧Ext [] PS PS') 0 ⟨⟨Nat.zero_le _,fun j h=>absurd h (Nat.not_lt_zero _)⟩,Ext.refl _⟩ ?_ ?_)
  · simp only[go_sem,seval, -List.reduceReplicate,Int.natCast_zero]
  · intro i PS' hr
    obtain⟨⟨hi,hu⟩,he⟩:=hr
    skip
    by_cases hlt:i<l.length
    · have ha1:l[i]? =some l[i]:=by simp[hlt]
      simp only[go_sem,seval, -List.reduceReplicate,hlt,List.getElem?_map,Option.map_some,ha1,List.length_map,kidL,kidL]
      skip
      by_cases hx:l[i]=x
      · simp only[go_sem,seval, -List.reduceReplicate,hx]
        rw[placeOf_some (ha1.trans (congrArg some hx)) hu]
        exact⟨rfl,by first | exact he | exact he.trans (Ext.app _ _)⟩
      · have hx':¬x=l[i]:=fun h=>hx h.symm
        simp only[go_sem,seval, -List.reduceReplicate,hx,hx']
        refine⟨by omega,i+1,by omega,⟨⟨by omega,fun j hj hjx=>?_⟩,by first | exact he | exact he.trans (Ext.app _ _)⟩,by simp⟩
        by_cases hji:j<i
        · exact hu j hji hjx
        · have:j=i:=by omega
          subst this;rw[ha1] at hjx;cases hjx;exact hx rfl
    · simp only[go_sem,seval, -List.reduceReplicate,hlt,List.length_map,kidL]
      skip
      rw[placeOf_none (fun j hj=>hu j (by omega))]
      exact⟨rfl,he⟩
theorem rplace_pure (t:Bool) (l:List Int) (x:Int):Pure Tryz.prog 25 [.imm t (l.map kidL),.int .i64 x] (.int .i64 (placeOf l x)):=Pure.of_ext (.int _ _) fun PS=>rplace l x t PS
theorem index_pure (t:Bool) (l:List Int) (x:Int):Pure Tryz.prog 100 [.imm t (l.map kidL),.int .i64 x] (.int .i64 (placeOf l x)):=Pure.of_ext (.int _ _) fun PS=>index l x t PS
theorem place_pure (t:Bool) (l:List Int) (x:Int):Pure Tryz.prog 296 [.imm t (l.map kidL),.int .i64 x] (.int .i64 (placeOf l x)):=by
  intro PS
  refine enter_296 (by unfold Tryz.f296;exact rfl) ?_
  simp only[go_sem,seval, -List.reduceReplicate]
  refine pend_intro ((index_pure t l x).call ?_)
  simp only[go_sem,seval, -List.reduceReplicate]
end Go.Proofs.YtajjhaidpagflaaGreat
namespace Go.Mo
open Go Go.Eng
variable [Toks]
/-- Kids so far. -/
def kidsTo (k:List Int) (i:Nat):Prop:=∀(j:Nat) (x:Int),j<i→k[j]? =some x→1≤x∧x<256∧∀h:Nat,h<j→k[h]? ≠some x
theorem kidsTo_zero (k:List Int):kidsTo k 0:=fun _ _ h=>absurd h (Nat.not_lt_zero _)
theorem kidsTo_succ {k:List Int} {i:Nat} {x:Int} (h:kidsTo k i) (hx:k[i]? =some x) (h1:1≤x) (h2:x<256) (h3:placeOf k x=i):kidsTo k (i+1):=by
  intro j y hj hy
  by_cases hji:j<i
  · exact h j y hji hy
  · have:j=i:=by omega
    subst this
    rw[hx] at hy;cases hy
    exact⟨h1,h2,(placeOf_eq hx).1 h3⟩
end Go.Mo
namespace Go.Proofs.YtajjhaidpagflaaGreat
open Go Go.Eng Go.Mo
variable [Toks]
set_option maxRecDepth 20000
attribute [local irreducible] hvc hops hop hplan hdrawP hval1 hopD HLoop
set_option maxHeartbeats 2000000 in
theorem rfan_check (t t':Bool) (k:List Int) (p:List Bs) (ok:∀b∈p,okK b):Pure Tryz.prog 220 [.imm t (k.map kidL),.imm t' (p.map keyL)] (.bool (tt (kidsOk k p))):=by
  refine Pure.of_ext (.bool _) fun PS=>?_
  refine enter_220 (by unfold Tryz.f220;exact rfl) ?_
  have hmx:maxLen=9223372036854775807:=rfl
  by_cases h1:(k.length:Int)<2
  · have hf:tt (kidsOk k p)=false:=tt_false fun hr=>by have:=hr.few;omega
    simp only[go_sem,seval, -List.reduceReplicate,List.length_map,h1,hf]
    intros
    exact Ext.refl _
  by_cases h2:4<(k.length:Int)
  · have hf:tt (kidsOk k p)=false:=tt_false fun hr=>by have:=hr.many;omega
    simp only[go_sem,seval, -List.reduceReplicate,List.length_map,h1,h2,hf]
    intros
    exact Ext.refl _
  by_cases h3:(p.length:Int)=k.length - 1
  rotate_left
  · have hf:tt (kidsOk k p)=false:=tt_false fun hr=>by have:=hr.len;omega
    simp only[go_sem,seval, -List.reduceReplicate,List.length_map,h1,h2,h3,hf]
    intros
    exact⟨by omega,Ext.refl _⟩
  simp only[go_sem,seval, -List.reduceReplicate,List.length_map,h1,h2,h3]
  intros
  refine⟨by omega,?_⟩
  skip
  refine pend_intro (loop_rule (α:=Nat) [false,false,false,false,true,false,false,false,false,false,false,false,false,false,false,false,false,false,false,false,false,false,false,true,true,true,true,true,true,true,true,true,true,true,true,true,true,true,true,true,true,true,true,true,true,true,true,true,true,true,true] (fun i=>[(5,.int .i64 i)]) (fun i=>k.length - i) (fun i PS'=>(i≤k.length∧kidsTo k i)∧Ext [] PS PS') 0 ⟨⟨Nat.zero_le _,kidsTo_zero _⟩,Ext.refl _⟩ ?_ ?_)
  · simp only[go_sem,seval, -List.reduceReplicate,Int.natCast_zero]
  intro i PS1 hr
  obtain⟨⟨hi,hu⟩,he⟩:=hr
  by_cases hlt:i<k.length
  · have ha1:k[i]? =some k[i]:=by simp[hlt]
    by_cases a1:k[i]<1
    · have hf:tt (kidsOk k p)=false:=tt_false fun hr=>by have:=(hr.is i _ ha1).1;omega
      simp only[go_sem,seval, -List.reduceReplicate,hlt,List.getElem?_map,Option.map_some,ha1,List.length_map,kidL,a1,hf]
      intros
      first | exact he | exact he.trans (Ext.app _ _)
    by_cases a2:256≤k[i]
    · have hf:tt (kidsOk k p)=false:=tt_false fun hr=>by have:=(hr.is i _ ha1).2.1;omega
      simp only[go_sem,seval, -List.reduceReplicate,hlt,List.getElem?_map,Option.map_some,ha1,List.length_map,kidL,a1,a2,hf]
      intros
      first | exact he | exact he.trans (Ext.app _ _)
    simp only[go_sem,seval, -List.reduceReplicate,hlt,List.getElem?_map,Option.map_some,ha1,List.length_map,kidL,a1,a2]
    intros
    refine pend_intro (Pure.call (rplace_pure t k _) ?_)
    by_cases a3:placeOf k k[i]=i
    · simp only[go_sem,seval, -List.reduceReplicate,a3]
      skip
      exact⟨by omega,i+1,by omega,⟨⟨by omega,kidsTo_succ hu ha1 (by omega) (by omega) a3⟩,by first | exact he | exact he.trans (Ext.app _ _)⟩,by simp⟩
    · have hf:tt (kidsOk k p)=false:=tt_false fun hr=>a3 ((placeOf_eq ha1).2 (hr.is i _ ha1).2.2)
      simp only[go_sem,seval, -List.reduceReplicate,a3,hf]
      intros
      first | exact he | exact he.trans (Ext.app _ _)
  simp only[go_sem,seval, -List.reduceReplicate,hlt,List.length_map]
  have hkids:kidsTo k k.length:=by
    have:i=k.length:=by omega
    subst this;exact hu
  intros
  skip
  refine pend_intro (loop_rule (α:=Nat) [false,false,false,false,true,false,false,false,false,false,false,false,false,false,false,false,false,false,false,false,false,false,false,false,false,false,false,false,false,false,false,false,false,false,false,false,false,false,false,false,false,false,false,false,false,false,false,false,false,false,false,true,true,true,true,true,true,true,true,true,true,true,true,true,true,true,true,true,true,true,true,true,true,true,true,true,true,true,true,true] (fun i=>[(6,.int .i64 i)]) (fun i=>p.length - i) (fun i PS'=>(i≤p.length∧upTo p i)∧Ext [] PS PS') 0 ⟨⟨Nat.zero_le _,upTo_zero _⟩,he⟩ ?_ ?_)
  · simp only[go_sem,seval, -List.reduceReplicate,Int.natCast_zero]
  clear hu hi hlt
  intro j PS2 hr
  obtain⟨⟨hj,hu⟩,he2⟩:=hr
  by_cases hlt:j<p.length
  · have ha1:p[j]? =some p[j]:=by simp[hlt]
    have oi:=ok _ (List.getElem_mem hlt)
    by_cases h0:(0:Int)<j
    · have hm:(j:Int) - 1=((j - 1:Nat):Int):=by omega
      have hlt1:j - 1<p.length:=by omega
      have ha0:p[j - 1]? =some p[j - 1]:=by simp[hlt1]
      have oj:=ok _ (List.getElem_mem hlt1)
      simp only[go_sem,seval, -List.reduceReplicate,hlt,List.getElem?_map,Option.map_some,ha1,List.length_map]
      intros
      first | refine pend_intro ((rkey_check _ oi).to ?_) | refine⟨by simp,pend_intro ((rkey_check _ oi).to ?_)⟩
      simp only[go_sem,seval, -List.reduceReplicate,hlt,List.getElem?_map,Option.map_some,ha1,List.length_map,h0,hm,hlt1,ha0]
      refine⟨by omega,?_⟩
      first | refine pend_intro ((rkey_cmp _ _ oj oi).to ?_) | refine⟨by simp,pend_intro ((rkey_cmp _ _ oj oi).to ?_)⟩
      by_cases hc:cmpB p[j - 1] p[j]<0
      · have hc':¬0≤cmpB p[j - 1] p[j]:=by omega
        simp only[go_sem,seval, -List.reduceReplicate,hc,hc']
        exact⟨by omega,j+1,by omega,⟨⟨by omega,upTo_succ hu ha0 ha1 hc⟩,by first | exact he2 | exact he2.trans (Ext.app _ _)⟩,by simp⟩
      · have hc':0≤cmpB p[j - 1] p[j]:=by omega
        have hf:tt (kidsOk k p)=false:=tt_false fun hr=>hc (hr.up j _ _ (by omega) ha0 ha1)
        simp only[go_sem,seval, -List.reduceReplicate,hc,hc',hf]
        first | exact he2 | exact he2.trans (Ext.app _ _)
    · simp only[go_sem,seval, -List.reduceReplicate,hlt,List.getElem?_map,Option.map_some,ha1,List.length_map]
      intros
      first | refine pend_intro ((rkey_check _ oi).to ?_) | refine⟨by simp,pend_intro ((rkey_check _ oi).to ?_)⟩
      simp only[go_sem,seval, -List.reduceReplicate,hlt,List.getElem?_map,Option.map_some,ha1,List.length_map,h0]
      have:j=0:=by omega
      subst this
      exact⟨by omega,1,by omega,⟨⟨by omega,upTo_one _⟩,by first | exact he2 | exact he2.trans (Ext.app _ _)⟩,rfl⟩
  simp only[go_sem,seval, -List.reduceReplicate,hlt,List.length_map]
  intros
  have:kidsOk k p:=⟨by omega,by omega,by omega,fun i x h=>hkids i x (List.getElem?_eq_some_iff.1 h).1 h,(upTo_all (by omega)).1 hu⟩
  rw[tt_true this]
  exact⟨rfl,he2⟩
set_option maxHeartbeats 2000000 in
theorem fan_check (t t':Bool) (k:List Int) (p:List Bs) (ok:∀b∈p,okK b):Pure Tryz.prog 293 [.imm t (k.map kidL),.imm t' (p.map keyL)] (.bool (tt (kidsOk k p))):=by
  refine Pure.of_ext (.bool _) fun PS=>?_
  refine enter_293 (by unfold Tryz.f293;exact rfl) ?_
  have hmx:maxLen=9223372036854775807:=rfl
  by_cases h1:(k.length:Int)<2
  · have hf:tt (kidsOk k p)=false:=tt_false fun hr=>by have:=hr.few;omega
    simp only[go_sem,seval, -List.reduceReplicate,List.length_map,h1,hf]
    intros
    exact Ext.refl _
  by_cases h2:4<(k.length:Int)
  · have hf:tt (kidsOk k p)=false:=tt_false fun hr=>by have:=hr.many;omega
    simp only[go_sem,seval, -List.reduceReplicate,List.length_map,h1,h2,hf]
    intros
    exact Ext.refl _
  by_cases h3:(p.length:Int)=k.length - 1
  rotate_left
  · have hf:tt (kidsOk k p)=false:=tt_false fun hr=>by have:=hr.len;omega
    simp only[go_sem,seval, -List.reduceReplicate,List.length_map,h1,h2,h3,hf]
    intros
    exact⟨by omega,Ext.refl _⟩
  simp only[go_sem,seval, -List.reduceReplicate,List.length_map,h1,h2,h3]
  intros
  refine⟨by omega,?_⟩
  intros
  refine pend_intro (loop_rule (α:=Nat) [false,false,false,false,true,true,true,false,false,false,false,false,false,false,false,false,false,false,false,false,false,false,false,false,false,false,false,false,true,true,true,true,true,true,true,true,true,true,true,true,true,true,true,true,true,true] (fun i=>[(27,.int .i64 i)]) (fun i=>k.length - i) (fun i PS'=>(i≤k.length∧kidsTo k i)∧Ext [] PS PS') 0 ⟨⟨Nat.zero_le _,kidsTo_zero _⟩,Ext.refl _⟩ ?_ ?_)
  · simp only[go_sem,seval, -List.reduceReplicate,Int.natCast_zero]
  intro i PS1 hr
  obtain⟨⟨hi,hu⟩,he⟩:=hr
  by_cases hlt:i<k.length
  · have ha1:k[i]? =some k[i]:=by simp[hlt]
    by_cases a1:k[i]<1
    · have hf:tt (kidsOk k p)=false:=tt_false fun hr=>by have:=(hr.is i _ ha1).1;omega
      simp only[go_sem,seval, -List.reduceReplicate,hlt,List.getElem?_map,Option.map_some,ha1,List.length_map,kidL,a1,hf]
      intros
      first | exact he | exact he.trans (Ext.app _ _)
    by_cases a2:256≤k[i]
    · have hf:tt (kidsOk k p)=false:=tt_false fun hr=>by have:=(hr.is i _ ha1).2.1;omega
      simp only[go_sem,seval, -List.reduceReplicate,hlt,List.getElem?_map,Option.map_some,ha1,List.length_map,kidL,a1,a2,hf]
      intros
      first | exact he | exact he.trans (Ext.app _ _)
    simp only[go_sem,seval, -List.reduceReplicate,hlt,List.getElem?_map,Option.map_some,ha1,List.length_map,kidL,a1,a2]
    skip
    refine pend_intro (Pure.call (place_pure t k _) ?_)
    by_cases a3:placeOf k k[i]=i
    · simp only[go_sem,seval, -List.reduceReplicate,a3]
      skip
      exact⟨by omega,i+1,by omega,⟨⟨by omega,kidsTo_succ hu ha1 (by omega) (by omega) a3⟩,by first | exact he | exact he.trans (Ext.app _ _)⟩,by simp⟩
    · have hf:tt (kidsOk k p)=false:=tt_false fun hr=>a3 ((placeOf_eq ha1).2 (hr.is i _ ha1).2.2)
      simp only[go_sem,seval, -List.reduceReplicate,a3,hf]
      intros
      first | exact he | exact he.trans (Ext.app _ _)
  simp only[go_sem,seval, -List.reduceReplicate,hlt,List.length_map]
  have hkids:kidsTo k k.length:=by
    have:i=k.length:=by omega
    subst this;exact hu
  intros
  skip
  refine pend_intro (loop_rule (α:=Nat) [false,false,false,false,true,false,false,true,true,false,false,false,false,false,false,false,false,false,false,false,false,false,false,false,false,false,false,false,false,false,false,false,false,false,false,false,false,false,false,false,false,false,false,false,false,false,false,false,false,true,true,true,true,true,true,true,true,true,true,true,true,true,true,true,true,true,true,true,true,true,true] (fun i=>[(48,.int .i64 i)]) (fun i=>p.length - i) (fun i PS'=>(i≤p.length∧upTo p i)∧Ext [] PS PS') 0 ⟨⟨Nat.zero_le _,upTo_zero _⟩,he⟩ ?_ ?_)
  · simp only[go_sem,seval, -List.reduceReplicate,Int.natCast_zero]
  clear hu hi hlt
  intro j PS2 hr
  obtain⟨⟨hj,hu⟩,he2⟩:=hr
  by_cases hlt:j<p.length
  · have ha1:p[j]? =some p[j]:=by simp[hlt]
    have oi:=ok _ (List.getElem_mem hlt)
    by_cases h0:(0:Int)<j
    · have hm:(j:Int) - 1=((j - 1:Nat):Int):=by omega
      have hlt1:j - 1<p.length:=by omega
      have ha0:p[j - 1]? =some p[j - 1]:=by simp[hlt1]
      have oj:=ok _ (List.getElem_mem hlt1)
      simp only[go_sem,seval, -List.reduceReplicate,hlt,List.getElem?_map,Option.map_some,ha1,List.length_map]
      intros
      first | refine pend_intro ((key_check _ oi).to ?_) | refine⟨by simp,pend_intro ((key_check _ oi).to ?_)⟩
      simp only[go_sem,seval, -List.reduceReplicate,hlt,List.getElem?_map,Option.map_some,ha1,List.length_map,h0,hm,hlt1,ha0]
      refine⟨by omega,?_⟩
      first | refine pend_intro ((key_cmp _ _ oj oi).to ?_) | refine⟨by simp,pend_intro ((key_cmp _ _ oj oi).to ?_)⟩
      by_cases hc:cmpB p[j - 1] p[j]<0
      · have hc':¬0≤cmpB p[j - 1] p[j]:=by omega
        simp only[go_sem,seval, -List.reduceReplicate,hc,hc']
        exact⟨by omega,j+1,by omega,⟨⟨by omega,upTo_succ hu ha0 ha1 hc⟩,by first | exact he2 | exact he2.trans (Ext.app _ _)⟩,by simp⟩
      · have hc':0≤cmpB p[j - 1] p[j]:=by omega
        have hf:tt (kidsOk k p)=false:=tt_false fun hr=>hc (hr.up j _ _ (by omega) ha0 ha1)
        simp only[go_sem,seval, -List.reduceReplicate,hc,hc',hf]
        first | exact he2 | exact he2.trans (Ext.app _ _)
    · simp only[go_sem,seval, -List.reduceReplicate,hlt,List.getElem?_map,Option.map_some,ha1,List.length_map]
      intros
      first | refine pend_intro ((key_check _ oi).to ?_) | refine⟨by simp,pend_intro ((key_check _ oi).to ?_)⟩
      simp only[go_sem,seval, -List.reduceReplicate,hlt,List.getElem?_map,Option.map_some,ha1,List.length_map,h0]
      have:j=0:=by omega
      subst this
      exact⟨by omega,1,by omega,⟨⟨by omega,upTo_one _⟩,by first | exact he2 | exact he2.trans (Ext.app _ _)⟩,rfl⟩
  simp only[go_sem,seval, -List.reduceReplicate,hlt,List.length_map]
  intros
  have:kidsOk k p:=⟨by omega,by omega,by omega,fun i x h=>hkids i x (List.getElem?_eq_some_iff.1 h).1 h,(upTo_all (by omega)).1 hu⟩
  rw[tt_true this]
  exact⟨rfl,he2⟩
end Go.Proofs.YtajjhaidpagflaaGreat
namespace Go.Eng
open Go
variable [Toks]
/-! Calls through interfaces,type assertions,the types known. -/
section
variable {P:Program} {fr:Fr} {PS:PL} {K:HV→Prop} {L:HV→PL→Prop} {d:Option Tmp} {ty:TypeId} {p:String} {af:Array Edge} {g:Option (Nat×Bool)}
def hinv (P:Program) (y:HV) (args:List HV) (PS:PL) (L:HV→PL→Prop):Option FuncId→Prop
  | some g=>callable P g=true∧HCall P g (y::args) PS L
  | none=>False
@[congr] theorem c_hinv {y y':HV} {args args':List HV} {o o':Option FuncId} {dd:Prop} (_hd:HoldOn=dd) (h:y=y') (h2:args=args') (h3:o=o'):hinv P y args PS L o=hinv P y' args' PS L o':=by rw[h,h2,h3]
@[go_sem ↓] theorem hop_invoke (r:Operand) (nm:String) (xs:Array Operand) (ts:Array TypeId):hop P ⟨d,.call ⟨.invoke r nm,xs,ts⟩,ty,p,af,g⟩ fr PS L=hinvoke P nm (ev fr r) (xs.toList.map (ev fr)) PS L:=_root_.id rfl
@[congr] theorem c_hinvoke {nm:String} {x x':HV} {args args':List HV} {dd:Prop} (_hd:HoldOn=dd) (h:x=x') (h2:args=args'):hinvoke P nm x args PS L=hinvoke P nm x' args' PS L:=by rw[h,h2]
@[go_sem ↓,go_sem] theorem hinvoke_iface (nm:String) (t:TypeId) (y:HV) (args:List HV):hinvoke P nm (.iface t y) args PS L=hinv P y args PS L (hmeth P t nm):=by
  simp only[hinvoke,hinv];split<;>simp_all
@[go_sem ↓,go_sem] theorem hinv_some (y:HV) (args:List HV) (g:FuncId):hinv P y args PS L (some g)=(callable P g=true∧ @pend ⟨HCall P g (y::args) PS L⟩):=_root_.id rfl
def hass (t:TypeId) (x:HV) (ok:Bool) (K:HV→Prop) (u:Option TypeDesc) (z:Option Value):Prop:=
  match u with
  | none=>False
  | some (.interface _)=>False
  | some _=>(match x with
    | .iface t' y=>if t'=t then K (if ok then .tup [y,.bool true] else y) else ok=true∧(match z with | some z=>K (.tup [zv z,.bool false]) | none=>False)
    | _=>False)
@[congr] theorem c_hass {t:TypeId} {x x':HV} {ok:Bool} {u u':Option TypeDesc} {z z':Option Value} {dd:Prop} (_hd:HoldOn=dd) (h:x=x') (h2:u=u') (h3:z=z'):hass t x ok K u z=hass t x' ok K u' z':=by rw[h,h2,h3]
@[go_sem ↓] theorem hop_assert (x:Operand) (xt t:TypeId) (ok:Bool):hop P ⟨d,.typeAssert x xt t ok,ty,p,af,g⟩ fr PS L=hass t (ev fr x) ok (fun v=>L v PS) (P.underlying t) ((P.info? t).bind (·.zero)):=by
  simp only[hop,hassert,hassV,hass]
  cases P.underlying t with
  | none=>rfl
  | some u=>cases u<;>first | rfl | (cases ev fr x<;>rfl)
@[go_sem ↓,go_sem] theorem hass_struct (t t':TypeId) (y:HV) (fs:Array Field) (z:Value):hass t (.iface t' y) true K (some (.struct fs)) (some z)=(if t'=t then K (.tup [y,.bool true]) else K (.tup [zv z,.bool false])):=by simp[hass]
end
end Go.Eng
namespace Go.Proofs.YtajjhaidpagflaaGreat
open Go Go.Eng Go.Mo
variable [Toks]
set_option maxRecDepth 20000
attribute [local irreducible] hvc hops hop hplan hdrawP hval1 hopD HLoop
theorem node_lens (n:Nd):(n.kids=[]∧n.pivs=[]∧n.msgs=[])↔n.kids.length+n.pivs.length+n.msgs.length=0:=by
  constructor
  · rintro⟨h1,h2,h3⟩;simp[h1,h2,h3]
  · intro h;exact⟨List.length_eq_zero_iff.1 (by omega),List.length_eq_zero_iff.1 (by omega),List.length_eq_zero_iff.1 (by omega)⟩
theorem leafy_right (t:Fl) (n:Nd) (ok:okN n):Pure Tryz.prog 285 [.agg (nodL t n)] (.bool (tt (entsOk n.ents∧n.kids=[]∧n.pivs=[]∧n.msgs=[]))):=by
  refine Pure.of_ext (.bool _) fun PS=>?_
  refine enter_285 (by unfold Tryz.f285;exact rfl) ?_
  obtain⟨f1,f2,f3,f4⟩:=ok.few
  simp only[go_sem,seval, -List.reduceReplicate,nodL,List.length_map]
  refine pend_intro ((leaf_check _ _ f1 ok.ents).call ?_)
  by_cases h1:entsOk n.ents
  · by_cases h2:n.kids.length+n.pivs.length+n.msgs.length=0
    · have e:tt (entsOk n.ents∧n.kids=[]∧n.pivs=[]∧n.msgs=[])=true:=tt_true ⟨h1,(node_lens n).2 h2⟩
      have h3:((n.kids.length:Int)+n.pivs.length+n.msgs.length=0):=by omega
      simp only[go_sem,seval, -List.reduceReplicate,tt_true h1,List.length_map,e,h3]
      intro _ _
      refine⟨by omega,?_⟩
      intro _
      first | exact Ext.app _ _ | exact⟨by omega,Ext.app _ _⟩
    · have e:tt (entsOk n.ents∧n.kids=[]∧n.pivs=[]∧n.msgs=[])=false:=tt_false fun h=>h2 ((node_lens n).1 h.2)
      have h3:¬((n.kids.length:Int)+n.pivs.length+n.msgs.length=0):=by omega
      simp only[go_sem,seval, -List.reduceReplicate,tt_true h1,List.length_map,e,h3]
      intro _ _
      refine⟨by omega,?_⟩
      intro _
      first | exact Ext.app _ _ | exact⟨by omega,Ext.app _ _⟩
  · have e:tt (entsOk n.ents∧n.kids=[]∧n.pivs=[]∧n.msgs=[])=false:=tt_false fun h=>h1 h.1
    simp only[go_sem,seval, -List.reduceReplicate,tt_false h1,e]
    exact Ext.app _ _
theorem inner_right (t:Fl) (n:Nd) (ok:okN n):Pure Tryz.prog 291 [.agg (nodL t n)] (.bool (tt (n.ents=[]∧kidsOk n.kids n.pivs∧msgsOk n.msgs))):=by
  refine Pure.of_ext (.bool _) fun PS=>?_
  refine enter_291 (by unfold Tryz.f291;exact rfl) ?_
  obtain⟨f1,f2,f3,f4⟩:=ok.few
  by_cases h1:(n.ents.length:Int)=0
  · have h1':n.ents=[]:=List.length_eq_zero_iff.1 (by omega)
    simp only[go_sem,seval, -List.reduceReplicate,nodL,List.length_map,h1]
    intros
    refine pend_intro ((fan_check _ _ _ _ ok.pivs).call ?_)
    by_cases h2:kidsOk n.kids n.pivs
    · simp only[go_sem,seval, -List.reduceReplicate,nodL,tt_true h2]
      refine pend_intro ((buf_check _ _ f4 ok.msgs).call ?_)
      by_cases h3:msgsOk n.msgs
      · have e:tt (n.ents=[]∧kidsOk n.kids n.pivs∧msgsOk n.msgs)=true:=tt_true ⟨h1',h2,h3⟩
        simp only[go_sem,seval, -List.reduceReplicate,tt_true h3,e]
        exact Ext.app _ _
      · have e:tt (n.ents=[]∧kidsOk n.kids n.pivs∧msgsOk n.msgs)=false:=tt_false fun h=>h3 h.2.2
        simp only[go_sem,seval, -List.reduceReplicate,tt_false h3,e]
        exact Ext.app _ _
    · have e:tt (n.ents=[]∧kidsOk n.kids n.pivs∧msgsOk n.msgs)=false:=tt_false fun h=>h2 h.2.1
      simp only[go_sem,seval, -List.reduceReplicate,tt_false h2,e]
      exact Ext.app _ _
  · have e:tt (n.ents=[]∧kidsOk n.kids n.pivs∧msgsOk n.msgs)=false:=tt_false fun h=>h1 (by rw[h.1];rfl)
    simp only[go_sem,seval, -List.reduceReplicate,nodL,List.length_map,h1,e]
    intros
    exact Ext.app _ _
theorem leafy_bytes (t:Fl) (n:Nd) (ok:okN n):Pure Tryz.prog 284 [.agg (nodL t n)] (.int .i64 (entsBytes n.ents)):=by
  refine Pure.of_ext (.int _ _) fun PS=>?_
  refine enter_284 (by unfold Tryz.f284;exact rfl) ?_
  simp only[go_sem,seval, -List.reduceReplicate,nodL]
  refine pend_intro ((leaf_bytes _ _ ok.few.1 ok.ents).call ?_)
  simp only[go_sem,seval, -List.reduceReplicate]
  exact⟨rfl,Ext.app _ _⟩
theorem inner_bytes (t:Fl) (n:Nd) (ok:okN n):Pure Tryz.prog 290 [.agg (nodL t n)] (.int .i64 (msgsBytes n.msgs)):=by
  refine Pure.of_ext (.int _ _) fun PS=>?_
  refine enter_290 (by unfold Tryz.f290;exact rfl) ?_
  simp only[go_sem,seval, -List.reduceReplicate,nodL]
  refine pend_intro ((buf_bytes _ _ ok.few.2.2.2 ok.msgs).call ?_)
  simp only[go_sem,seval, -List.reduceReplicate]
  exact⟨rfl,Ext.app _ _⟩
theorem node_of (t:Fl) (n:Nd) (PS:PL):HCall Tryz.prog 215 [.agg (nodL t n)] PS fun r PS'=>r=.iface (if n.leaf then 261 else 262) (.agg (nodL t n))∧Ext [] PS PS':=by
  refine enter_215 (by unfold Tryz.f215;exact rfl) ?_
  by_cases hl:n.leaf=true
  · simp only[go_sem,seval, -List.reduceReplicate,nodL,hl]
    exact Ext.app _ _
  · have hl':n.leaf=false:=by simpa using hl
    simp only[go_sem,seval, -List.reduceReplicate,nodL,hl']
    exact Ext.app _ _
theorem ones_nod (t:Fl) (n:Nd):ones (nodL t n):=by simp[ones_iff,nodL,HV.one]
theorem nodL_len (t:Fl) (n:Nd):(nodL t n).length=5:=rfl
theorem z_leafy:∃z,(Tryz.prog.info? 261).bind (·.zero)=some z:=Option.isSome_iff_exists.1 (by kernel_rfl)
theorem z_inner:∃z,(Tryz.prog.info? 262).bind (·.zero)=some z:=Option.isSome_iff_exists.1 (by kernel_rfl)
theorem m_lr:hmeth Tryz.prog 261 "orangery/node.right" =some 285:=by kernel_rfl
theorem m_ir:hmeth Tryz.prog 262 "orangery/node.right" =some 291:=by kernel_rfl
theorem m_lb:hmeth Tryz.prog 261 "orangery/node.bytes" =some 284:=by kernel_rfl
theorem m_ib:hmeth Tryz.prog 262 "orangery/node.bytes" =some 290:=by kernel_rfl
@[go_sem ↓,go_sem] theorem take_nod_all (t:Fl) (n:Nd):(nodL t n).take 5=nodL t n:=_root_.id rfl
@[go_sem ↓,go_sem] theorem take1_nod (t:Fl) (n:Nd):(nodL t n).take 1=[.bool n.leaf]:=_root_.id rfl
theorem node_check (t:Fl) (n:Nd) (ok:okN n):Pure Tryz.prog 216 [.agg (nodL t n)] (.bool (tt (nodOk n))):=by
  refine Pure.of_ext (.bool _) fun PS=>?_
  refine enter_216 (by unfold Tryz.f216;exact rfl) ?_
  simp only[go_sem,seval, -List.reduceReplicate]
  refine⟨ones_nod t n,by rw[nodL_len];omega,pend_intro ((node_of t n _).mono ?_)⟩
  rintro r PS' ⟨rfl,he⟩
  have he':Ext [] PS PS':=(Ext.app _ _).trans he
  by_cases hl:n.leaf=true
  · have eo:nodOk n=(entsOk n.ents∧n.kids=[]∧n.pivs=[]∧n.msgs=[]):=by rw[nodOk,if_pos hl]
    simp only[go_sem,seval, -List.reduceReplicate,hl,m_lr]
    refine⟨by kernel_rfl,pend_intro ((leafy_right t n ok).call ?_)⟩
    simp only[go_sem,seval, -List.reduceReplicate,eo]
    exact he'
  · have hl':n.leaf=false:=by simpa using hl
    have eo:nodOk n=(n.ents=[]∧kidsOk n.kids n.pivs∧msgsOk n.msgs):=by rw[nodOk,if_neg hl]
    simp only[go_sem,seval, -List.reduceReplicate,hl',m_ir]
    refine⟨by kernel_rfl,pend_intro ((inner_right t n ok).call ?_)⟩
    simp only[go_sem,seval, -List.reduceReplicate,eo]
    exact he'
theorem node_bytes (t:Fl) (n:Nd) (ok:okN n):Pure Tryz.prog 217 [.agg (nodL t n)] (.int .i64 (nodBytes n)):=by
  refine Pure.of_ext (.int _ _) fun PS=>?_
  refine enter_217 (by unfold Tryz.f217;exact rfl) ?_
  simp only[go_sem,seval, -List.reduceReplicate]
  refine⟨ones_nod t n,by rw[nodL_len];omega,pend_intro ((node_of t n _).mono ?_)⟩
  rintro r PS' ⟨rfl,he⟩
  have he':Ext [] PS PS':=(Ext.app _ _).trans he
  by_cases hl:n.leaf=true
  · have eo:nodBytes n=entsBytes n.ents:=by rw[nodBytes,if_pos hl]
    simp only[go_sem,seval, -List.reduceReplicate,hl,m_lb]
    refine⟨by kernel_rfl,pend_intro ((leafy_bytes t n ok).call ?_)⟩
    simp only[go_sem,seval, -List.reduceReplicate,eo]
    exact he'
  · have hl':n.leaf=false:=by simpa using hl
    have eo:nodBytes n=msgsBytes n.msgs:=by rw[nodBytes,if_neg hl]
    simp only[go_sem,seval, -List.reduceReplicate,hl',m_ib]
    refine⟨by kernel_rfl,pend_intro ((inner_bytes t n ok).call ?_)⟩
    simp only[go_sem,seval, -List.reduceReplicate,eo]
    exact he'
theorem node_fits (t:Fl) (n:Nd) (ok:okN n):Pure Tryz.prog 165 [.agg (nodL t n)] (.bool (tt (nodFits n))):=by
  refine Pure.of_ext (.bool _) fun PS=>?_
  refine enter_165 (by unfold Tryz.f165;exact rfl) ?_
  simp only[go_sem,seval, -List.reduceReplicate]
  refine⟨ones_nod t n,by rw[nodL_len];omega,pend_intro ((node_of t n _).mono ?_)⟩
  rintro r PS' ⟨rfl,he⟩
  have he':Ext [] PS PS':=(Ext.app _ _).trans he
  obtain⟨z1,hz1⟩:=z_leafy
  obtain⟨z2,hz2⟩:=z_inner
  have g0:getP PS' PS.length=.arr 0 (nodL t n).length [nodL t n] false:=he.get (getP_last _ _) (by simp)
  have hlen:=nodL_len t n
  by_cases hl:n.leaf=true
  · simp only[go_sem,seval, -List.reduceReplicate,hl,hz1,hz2,g0,hlen,nodL_len]
    have hl2:(if n.leaf=true then 248 else 205)=248:=by simp[hl]
    refine pend_intro ((node_check t n ok).call ?_)
    by_cases h1:nodOk n
    rotate_left
    · have e:tt (nodFits n)=false:=tt_false fun h=>h1 h.1
      simp only[go_sem,seval, -List.reduceReplicate,tt_false h1,e]
      exact he'
    by_cases h2:(nodBytes n:Int)≤248
    · have e:tt (nodFits n)=true:=tt_true ⟨h1,by rw[hl2];omega⟩
      simp only[go_sem,seval, -List.reduceReplicate,tt_true h1,g0,hlen,nodL_len]
      refine pend_intro ((node_bytes t n ok).call ?_)
      simp only[go_sem,seval, -List.reduceReplicate,h2,e]
      exact he'
    · have e:tt (nodFits n)=false:=tt_false fun h=>h2 (by have:=h.2;rw[hl2] at this;omega)
      simp only[go_sem,seval, -List.reduceReplicate,tt_true h1,g0,hlen,nodL_len]
      refine pend_intro ((node_bytes t n ok).call ?_)
      simp only[go_sem,seval, -List.reduceReplicate,h2,e]
      exact he'
  · have hl':n.leaf=false:=by simpa using hl
    simp only[go_sem,seval, -List.reduceReplicate,hl',hz1,hz2,g0,hlen,nodL_len]
    have hl2:(if n.leaf=true then 248 else 205)=205:=by simp[hl']
    refine pend_intro ((node_check t n ok).call ?_)
    by_cases h1:nodOk n
    rotate_left
    · have e:tt (nodFits n)=false:=tt_false fun h=>h1 h.1
      simp only[go_sem,seval, -List.reduceReplicate,tt_false h1,e]
      exact he'
    by_cases h2:(nodBytes n:Int)≤205
    · have e:tt (nodFits n)=true:=tt_true ⟨h1,by rw[hl2];omega⟩
      simp only[go_sem,seval, -List.reduceReplicate,tt_true h1,g0,hlen,nodL_len]
      refine pend_intro ((node_bytes t n ok).call ?_)
      simp only[go_sem,seval, -List.reduceReplicate,h2,e]
      exact he'
    · have e:tt (nodFits n)=false:=tt_false fun h=>h2 (by have:=h.2;rw[hl2] at this;omega)
      simp only[go_sem,seval, -List.reduceReplicate,tt_true h1,g0,hlen,nodL_len]
      refine pend_intro ((node_bytes t n ok).call ?_)
      simp only[go_sem,seval, -List.reduceReplicate,h2,e]
      exact he'
theorem rnode_check (t:Fl) (n:Nd) (ok:okN n):Pure Tryz.prog 167 [.agg (nodL t n)] (.bool (tt (nodOk n))):=by
  refine Pure.of_ext (.bool _) fun PS=>?_
  refine enter_167 (by unfold Tryz.f167;exact rfl) ?_
  obtain⟨f1,f2,f3,f4⟩:=ok.few
  by_cases hl:n.leaf=true
  · have eo:nodOk n=(entsOk n.ents∧n.kids=[]∧n.pivs=[]∧n.msgs=[]):=by rw[nodOk,if_pos hl]
    simp only[go_sem,seval, -List.reduceReplicate,nodL,hl]
    refine pend_intro ((rents_check _ _ f1 ok.ents).call ?_)
    by_cases h1:entsOk n.ents
    rotate_left
    · have e:tt (nodOk n)=false:=tt_false fun h=>h1 (by rw[eo] at h;exact h.1)
      simp only[go_sem,seval, -List.reduceReplicate,tt_false h1,e]
      exact Ext.app _ _
    by_cases h2:(n.kids.length:Int)=0
    rotate_left
    · have e:tt (nodOk n)=false:=tt_false fun h=>h2 (by rw[eo] at h;rw[h.2.1];rfl)
      simp only[go_sem,seval, -List.reduceReplicate,tt_true h1,List.length_map,h2,e]
      intros
      exact Ext.app _ _
    by_cases h3:(n.pivs.length:Int)=0
    rotate_left
    · have e:tt (nodOk n)=false:=tt_false fun h=>h3 (by rw[eo] at h;rw[h.2.2.1];rfl)
      simp only[go_sem,seval, -List.reduceReplicate,tt_true h1,List.length_map,h2,h3,e]
      intros
      exact Ext.app _ _
    by_cases h4:(n.msgs.length:Int)=0
    rotate_left
    · have e:tt (nodOk n)=false:=tt_false fun h=>h4 (by rw[eo] at h;rw[h.2.2.2];rfl)
      simp only[go_sem,seval, -List.reduceReplicate,tt_true h1,List.length_map,h2,h3,h4,e]
      intros
      exact Ext.app _ _
    have e:tt (nodOk n)=true:=tt_true (by rw[eo];exact⟨h1,(node_lens n).2 (by omega)⟩)
    simp only[go_sem,seval, -List.reduceReplicate,tt_true h1,List.length_map,h2,h3,h4,e]
    intros
    exact Ext.app _ _
  · have hl':n.leaf=false:=by simpa using hl
    have eo:nodOk n=(n.ents=[]∧kidsOk n.kids n.pivs∧msgsOk n.msgs):=by rw[nodOk,if_neg hl]
    by_cases h1:(n.ents.length:Int)=0
    · have h1':n.ents=[]:=List.length_eq_zero_iff.1 (by omega)
      simp only[go_sem,seval, -List.reduceReplicate,nodL,hl',List.length_map,h1]
      intros
      refine pend_intro ((rfan_check _ _ _ _ ok.pivs).call ?_)
      by_cases h2:kidsOk n.kids n.pivs
      · simp only[go_sem,seval, -List.reduceReplicate,nodL,tt_true h2]
        refine pend_intro ((rmsgs_check _ _ f4 ok.msgs).call ?_)
        by_cases h3:msgsOk n.msgs
        · have e:tt (nodOk n)=true:=tt_true (by rw[eo];exact⟨h1',h2,h3⟩)
          simp only[go_sem,seval, -List.reduceReplicate,tt_true h3,e]
          exact Ext.app _ _
        · have e:tt (nodOk n)=false:=tt_false fun h=>h3 (by rw[eo] at h;exact h.2.2)
          simp only[go_sem,seval, -List.reduceReplicate,tt_false h3,e]
          exact Ext.app _ _
      · have e:tt (nodOk n)=false:=tt_false fun h=>h2 (by rw[eo] at h;exact h.2.1)
        simp only[go_sem,seval, -List.reduceReplicate,tt_false h2,e]
        exact Ext.app _ _
    · have e:tt (nodOk n)=false:=tt_false fun h=>h1 (by rw[eo] at h;rw[h.1];rfl)
      simp only[go_sem,seval, -List.reduceReplicate,nodL,hl',List.length_map,h1,e]
      intros
      exact Ext.app _ _
theorem rnode_bytes (t:Fl) (n:Nd) (ok:okN n):Pure Tryz.prog 168 [.agg (nodL t n)] (.int .i64 (nodBytes n)):=by
  refine Pure.of_ext (.int _ _) fun PS=>?_
  refine enter_168 (by unfold Tryz.f168;exact rfl) ?_
  by_cases hl:n.leaf=true
  · have eo:nodBytes n=entsBytes n.ents:=by rw[nodBytes,if_pos hl]
    simp only[go_sem,seval, -List.reduceReplicate,nodL,hl]
    refine pend_intro ((rents_bytes _ _ ok.few.1 ok.ents).call ?_)
    simp only[go_sem,seval, -List.reduceReplicate,eo]
    exact⟨rfl,Ext.app _ _⟩
  · have hl':n.leaf=false:=by simpa using hl
    have eo:nodBytes n=msgsBytes n.msgs:=by rw[nodBytes,if_neg hl]
    simp only[go_sem,seval, -List.reduceReplicate,nodL,hl']
    refine pend_intro ((rmsgs_bytes _ _ ok.few.2.2.2 ok.msgs).call ?_)
    simp only[go_sem,seval, -List.reduceReplicate,eo]
    exact⟨rfl,Ext.app _ _⟩
theorem rnode_fits (t:Fl) (n:Nd) (ok:okN n):Pure Tryz.prog 111 [.agg (nodL t n)] (.bool (tt (nodFits n))):=by
  refine Pure.of_ext (.bool _) fun PS=>?_
  refine enter_111 (by unfold Tryz.f111;exact rfl) ?_
  have hlen:=nodL_len t n
  simp only[go_sem,seval, -List.reduceReplicate,hlen,nodL_len]
  refine⟨ones_nod t n,pend_intro ((rnode_check t n ok).call ?_)⟩
  by_cases h1:nodOk n
  rotate_left
  · have e:tt (nodFits n)=false:=tt_false fun h=>h1 h.1
    simp only[go_sem,seval, -List.reduceReplicate,tt_false h1,e]
    exact Ext.app _ _
  rw[tt_true h1]
  by_cases hl:n.leaf=true
  · have hl2:(if n.leaf=true then 248 else 205)=248:=by simp[hl]
    simp only[go_sem,seval, -List.reduceReplicate,hlen,nodL_len,hl]
    first | refine pend_intro ((rnode_bytes t n ok).call ?_) | refine⟨ones_nod t n,pend_intro ((rnode_bytes t n ok).call ?_)⟩
    by_cases h2:(nodBytes n:Int)≤248
    · have e:tt (nodFits n)=true:=tt_true ⟨h1,by rw[hl2];omega⟩
      simp only[go_sem,seval, -List.reduceReplicate,h2,e,hl,nodL_len]
      exact Ext.app _ _
    · have e:tt (nodFits n)=false:=tt_false fun h=>h2 (by have:=h.2;rw[hl2] at this;omega)
      simp only[go_sem,seval, -List.reduceReplicate,h2,e,hl,nodL_len]
      exact Ext.app _ _
  · have hl':n.leaf=false:=by simpa using hl
    have hl2:(if n.leaf=true then 248 else 205)=205:=by simp[hl']
    simp only[go_sem,seval, -List.reduceReplicate,hlen,nodL_len,hl']
    first | refine pend_intro ((rnode_bytes t n ok).call ?_) | refine⟨ones_nod t n,pend_intro ((rnode_bytes t n ok).call ?_)⟩
    by_cases h2:(nodBytes n:Int)≤205
    · have e:tt (nodFits n)=true:=tt_true ⟨h1,by rw[hl2];omega⟩
      simp only[go_sem,seval, -List.reduceReplicate,h2,e,hl,nodL_len]
      exact Ext.app _ _
    · have e:tt (nodFits n)=false:=tt_false fun h=>h2 (by have:=h.2;rw[hl2] at this;omega)
      simp only[go_sem,seval, -List.reduceReplicate,h2,e,hl,nodL_len]
      exact Ext.app _ _
end Go.Proofs.YtajjhaidpagflaaGreat
