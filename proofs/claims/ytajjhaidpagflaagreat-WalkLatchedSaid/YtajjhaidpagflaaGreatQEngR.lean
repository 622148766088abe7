/-
A function's contract out of its text; contracts of pure functions.
The abstract meaning of an operation grows with what is asked of its outcome.
Operations by what they hang on: what only computes, what looks at memory, what makes memory, what writes.
An operation that only computes has one outcome.
No conditions.
-/
import Derived.Test.YtajjhaidpagflaaGreatQEngN
set_option linter.unusedSectionVars false
set_option linter.unusedSimpArgs false
set_option linter.unusedVariables false
namespace Go.Eng
open Go
variable [Toks]
/-- The results of a function,from its slots and from the variables that hold them. -/
def hresl (P:Program) (fr:Fr) (PS:PL) (K:List HV→Prop):List ResultVar→Prop
  | []=>K []
  | .tmp t::r=>hresl P fr PS (fun l=>K (get fr t::l)) r
  | .cell t ty::r=>hload PS (get fr t) (fun x=>hresl P fr PS (fun l=>K (x::l)) r) (tsz P ty)
def hresv (K:HV→Prop):List HV→Prop
  | [x]=>K x
  | l=>K (.tup l)
def hret (P:Program) (rs:List ResultVar) (K:HV→PL→Prop):HX→Fr→PL→Prop
  | .normal,fr,PS=>hresl P fr PS (hresv fun x=>K x PS) rs
  | .ret,fr,PS=>hresl P fr PS (hresv fun x=>K x PS) rs
  | _,_,_=>False
def hframe (n:Nat) (args:List HV):Fr:=args++List.replicate (n - args.length) .junk
section
variable {P:Program} {hdraw:HDraw} {ds:List Deferred} {F:Nat→Prop} {e e0:List Pos} {D D0:Nat→Nat→Prop} {PS PS':PL} {w w0 w':World} {fr:Fr} {a:Act} {K:HV→PL→Prop} {M:Nat→Prop}
def resOne (t:Array Value):ResultVar→Sem Value
  | .tmp i=>pure (t.getD i undef)
  | .cell c ty=>do loadVar ty (←asAddr (t.getD c undef))
theorem results_eq (fn:Func) (t:Array Value):results fn t=(do let vs←fn.results.mapM (resOne t);pure (if h:vs.size=1 then vs[0] else .tuple vs)):=by
  unfold results
  have:(fun r:ResultVar=>match r with | .tmp i=>(pure (t.getD i undef):Sem Value) | .cell c ty=>do loadVar ty (←asAddr (t.getD c undef)))=resOne t:=by
    funext r;cases r<;>rfl
  rw[←this]
  rfl
theorem hresl_sound (hr:Rel F e D PS w) (hf:FRel (Mut F D) e w fr a.tmps):∀(rs:List ResultVar) (K:List HV→Prop),hresl P fr PS K rs→
    ∃l vs,(rs.mapM (resOne a.tmps)).run P w=.ok vs w∧l.length=vs.length∧(∀(i:Nat) (x:HV) (u:Value),l[i]? =some x→vs[i]? =some u→VRel (Mut F D) e w x u)∧K l:=by
  intro rs
  induction rs with
  | nil=>intro K h;exact⟨[],[],rfl,rfl,by simp,h⟩
  | cons r rs ih=>
    intro K h
    have fin:∀(x:HV) (u:Value),VRel (Mut F D) e w x u→(resOne a.tmps r).run P w=.ok u w→hresl P fr PS (fun l=>K (x::l)) rs→∃l vs,((r::rs).mapM (resOne a.tmps)).run P w=.ok vs w∧l.length=vs.length∧(∀(i:Nat) (x:HV) (u:Value),l[i]? =some x→vs[i]? =some u→VRel (Mut F D) e w x u)∧K l:=by
      intro x u hx hrun hk
      obtain⟨l,vs,h1,h2,h3,h4⟩:=ih _ hk
      refine⟨x::l,u::vs,?_,by simp[h2],?_,h4⟩
      · simp only[List.mapM_cons,Sem.run_bind,hrun,Result.andThen_ok,h1,Sem.run_pure]
      · intro i y v hy hv
        cases i with
        | zero=>simp at hy hv;subst hy;subst hv;exact hx
        | succ i=>exact h3 i y v (by simpa using hy) (by simpa using hv)
    cases r with
    | tmp t=>exact fin _ _ (get_rel hf t) rfl h
    | cell c t=>
      obtain⟨y,v,h1,h2,h3⟩:=hload_sound (P:=P) (t:=t) (K:=fun x=>hresl P fr PS (fun l=>K (x::l)) rs) hr (get_rel hf c) h
      refine fin y v h2 ?_ h3
      simp only[resOne,Sem.run_bind]
      cases hu:a.tmps.getD c undef with
      | pointer ad=>
        cases ad with
        | some ad=>rw[hu] at h1;simpa [Instr.loadAt,Instr.sureAddr,asAddr] using h1
        | none=>rw[hu] at h1;simp[Instr.loadAt,Instr.sureAddr,stuck,Sem.run] at h1
      | _=>rw[hu] at h1;simp[Instr.loadAt,Instr.sureAddr,stuck,Sem.run] at h1
theorem hres_post {fn:Func} (hr:Rel F e D PS w) (hf:FRel (Mut F D) e w fr a.tmps) (h:hresl P fr PS (hresv fun x=>K x PS) fn.results.toList):
    ∃v x,(results fn a.tmps).run P w=.ok v w∧VRel (Mut F D) e w x v∧K x PS:=by
  obtain⟨l,vs,h1,h2,h3,h4⟩:=hresl_sound hr hf _ _ h
  have hrun:(results fn a.tmps).run P w=.ok (if h:vs.toArray.size=1 then vs.toArray[0] else .tuple vs.toArray) w:=by
    rw[results_eq,Array.mapM_eq_mapM_toList]
    show Sem.run P (((fn.results.toList.mapM (resOne a.tmps))>>=fun l=>pure l.toArray)>>=fun vs=>pure _) w=_
    simp only[Sem.run_bind,h1,Result.andThen_ok,Sem.run_pure]
  rcases l with _ | ⟨x,_ | ⟨y,l⟩⟩<;>rcases vs with _ | ⟨u,_ | ⟨v,vs⟩⟩<;>simp only[List.length_nil,List.length_cons] at h2<;>try omega
  · exact⟨.tuple #[],.tup [],by rw[hrun];simp,.tup [] #[] rfl (by simp),h4⟩
  · exact⟨u,x,by rw[hrun];simp,h3 0 x u rfl rfl,h4⟩
  · exact⟨.tuple (u::v::vs).toArray,.tup (x::y::l),by rw[hrun];simp,.tup _ _ (by simp;omega) (fun i z q hz hq=>h3 i z q hz (by simpa using hq)),h4⟩
theorem frame_rel {args:List HV} {vs:Array Value} (n:Nat) (h:FRel M e w args vs):FRel M e w (hframe n args) (vs++Array.replicate (n - vs.size) undef):=by
  unfold hframe
  rw[h.1]
  refine h.append ⟨by simp,fun i x u hi _=>?_⟩
  have:=(List.mem_replicate.1 (List.mem_of_getElem? hi)).2
  subst this
  exact .junk _
/-- The contract of a function,out of its text. -/
theorem hcall_of_body {f:FuncId} {fn:Func} {c:Code} {args:List HV} (hdr:DrawSound P hdraw) (hfn:P.funcs[f]? =some fn) (hb:fn.body=some c)
    (h:hvc (hop P) hdraw c (hret P fn.results.toList K) (hframe fn.ntmps args) PS):HCall P f args PS K:=by
  intro F e D w vs hr hf
  refine calls_of_wp hfn hb (wp_mono (hvc_sound hop_sound (hdr.at [] F e D w) c _ (hframe fn.ntmps args) PS _ w h (F:=F) (e0:=e) (D0:=D) (w0:=w) ⟨rfl,e,D,hr,frame_rel _ hf,.refl e D w⟩) ?_)
  rintro x a w' ⟨x',fr,PS',rfl,hq,hd,e',D',hr',hf',ht'⟩
  cases x' with
  | normal=>
    obtain⟨v,y,h1,h2,h3⟩:=hres_post hr' hf' hq
    exact⟨hd,v,h1,v,y,PS',e',D',rfl,h3,hr',ht',h2⟩
  | ret=>
    obtain⟨v,y,h1,h2,h3⟩:=hres_post hr' hf' hq
    exact⟨hd,v,h1,v,y,PS',e',D',rfl,h3,hr',ht',h2⟩
  | exit id=>exact hq.elim
  | goto l=>exact hq.elim
/-- A function that only computes,on data:its contract. -/
def Pure (P:Program) (f:FuncId) (args:List HV) (res:HV):Prop:=∀PS,HCall P f args PS fun x PS'=>x=res∧PS'=PS
theorem Pure.call {f:FuncId} {args:List HV} {res:HV} (h:Pure P f args res) (hk:K res PS):HCall P f args PS K:=
  (h PS).mono (by rintro x PS' ⟨rfl,rfl⟩;exact hk)
end
end Go.Eng
namespace Go.Eng
open Go
variable [Toks]
section
variable {P:Program} {PS PS':PL} {K K':HV→Prop}
theorem hrow_mono {q:Piece} {v i:Nat} {K K':List HV→Prop} (hk:∀v,K v→K' v) (h:hrow q v i K):hrow q v i K':=by
  unfold hrow at*;cases q<;>first | exact h.elim | exact⟨h.1,h.2.imp fun l hl=>⟨hl.1,hk _ hl.2⟩⟩
theorem hcells_mono {s:Nat} {K K':List HV→Prop} (hk:∀v,K v→K' v) {x:HV} (h:hcells PS s K x):hcells PS s K' x:=by
  unfold hcells at*;cases x<;>first | exact h.elim | exact hrow_mono (fun v hv=>⟨hv.1,hk _ hv.2⟩) h | exact⟨h.1,hk _ h.2⟩
theorem hone_mono (hk:∀v,K v→K' v) {l:List HV} (h:hone K l):hone K' l:=by
  unfold hone at*;split at h<;>first | exact hk _ h | exact h.elim
theorem hload_mono (hk:∀v,K v→K' v) {x:HV} {o:Option (Bool×Nat)} (h:hload PS x K o):hload PS x K' o:=by
  unfold hload at*
  split at h
  · exact hcells_mono (fun v=>hk _) h
  · exact hcells_mono (fun v=>hone_mono hk) h
  · exact h
theorem hnil_mono (hk:∀v,K v→K' v) {x:HV} (h:hnil PS x K):hnil PS x K':=by
  unfold hnil at*;split at h<;>first | exact⟨h.1,hk _ h.2⟩ | exact hk _ h | exact h.elim
theorem hpick_mono (hk:∀v,K v→K' v) {c x y:HV} (h:hpick c x y K):hpick c x y K':=by
  unfold hpick at*;cases c<;>first | exact⟨fun e=>hk _ (h.1 e),fun e=>hk _ (h.2 e)⟩ | exact h.elim
theorem hfit_mono (hk:∀v,K v→K' v) {k:IntKind} {n:Int} (h:hfit k n K):hfit k n K':=by
  cases k<;>first | exact⟨h.1,hk _ h.2⟩ | exact hk _ h
theorem hint_mono (hk:∀v,K v→K' v) {op:BinOp} {k k':IntKind} {a b:Int} (h:hint op k a k' b K):hint op k a k' b K':=by
  cases op<;>first | exact⟨h.1,hk _ h.2⟩ | exact⟨h.1,hfit_mono hk h.2⟩ | exact⟨h.1,h.2.1,hfit_mono hk h.2.2⟩ | exact⟨h.1,h.2.1,hk _ h.2.2⟩
theorem hstr_mono (hk:∀v,K v→K' v) {op:BinOp} {a b:List UInt8} (h:hstr op a b K):hstr op a b K':=by
  cases op<;>first | exact hk _ h | exact⟨h.1,hk _ h.2⟩ | exact h.elim
theorem hbt_mono (hk:∀v,K v→K' v) {op:BinOp} {r:Bool} (h:hbt op r K):hbt op r K':=by
  cases op<;>first | exact hk _ h | exact h.elim
theorem hbin_mono (hk:∀v,K v→K' v) {op:BinOp} {t:TypeId} {x y:HV} (h:hbin P PS op t x y K):hbin P PS op t x y K':=by
  unfold hbin at*
  split at h
  · exact hint_mono hk h
  · exact hstr_mono hk h
  · exact⟨h.1,hbt_mono hk h.2⟩
  · exact⟨h.1,h.2.1,hbt_mono hk h.2.2⟩
  · exact⟨h.1,hbt_mono hk h.2⟩
  · exact⟨h.1,hbt_mono hk h.2⟩
  · exact⟨h.1,h.2.1,h.2.2.1,h.2.2.2.1,hbt_mono hk h.2.2.2.2⟩
  · unfold heqs at*
    split at h
    · exact⟨h.1,hbt_mono hk h.2⟩
    · exact h
  · exact hint_mono (fun v=>rename_mono hk) h
  · exact hint_mono (fun v=>rename_mono hk) h
  · exact hint_mono (fun v=>rename_mono hk) h
  · exact hstr_mono hk h
  · exact hstr_mono hk h
  · exact hstr_mono hk h
  · exact h
theorem hun_mono (hk:∀v,K v→K' v) {op:UnOp} {x:HV} (h:hun op x K):hun op x K':=by
  unfold hun at*
  split at h
  · exact hfit_mono hk h
  · exact hk _ h
  · exact hk _ h
  · exact h.elim
theorem hfield_mono (hk:∀v,K v→K' v) {x:HV} {o:Option (Nat×Nat)} (h:hfield PS x K o):hfield PS x K' o:=by
  unfold hfield at*
  split at h
  · cases x<;>first | exact⟨h.1,hk _ h.2⟩ | exact hk _ h | exact h.elim
  · exact h
theorem hindexAddr_mono (hk:∀v,K v→K' v) {t:TypeId} {x i:HV} (h:hindexAddr P PS t x i K):hindexAddr P PS t x i K':=by
  unfold hindexAddr at*
  split at h
  · unfold hixsl at*
    split at h
    · split at h
      · exact⟨h.1,h.2.imp fun l hl=>⟨hl.1,hl.2.1,hk _ hl.2.2⟩⟩
      · exact⟨h.1,h.2.1,hrow_mono (fun v hv=>⟨hv.1,hk _ hv.2⟩) h.2.2⟩
      · exact⟨h.1,h.2.1,h.2.2.1,hk _ h.2.2.2⟩
      · exact h
    · exact h
  · unfold hixar at*
    split at h
    · split at h
      · exact⟨h.1,h.2.1,h.2.2.1,hk _ h.2.2.2⟩
      · exact⟨h.1,h.2.1,hk _ h.2.2⟩
      · exact h
    · exact h
theorem hpart_mono (hk:∀v,K v→K' v) {b:Bool} {s off:Nat} {l:List HV} (h:hpart b s off l K):hpart b s off l K':=by
  unfold hpart at*
  split at h
  · rename_i hb;rw[if_pos hb];exact⟨h.1,hk _ h.2⟩
  · rename_i hb;rw[if_neg hb];exact h.imp fun y hy=>⟨hy.1,hk _ hy.2⟩
theorem hindex_mono (hk:∀v,K v→K' v) {t:TypeId} {x i:HV} (h:hindex P t x i K):hindex P t x i K':=by
  unfold hindex at*
  split at h
  · split at h
    · exact⟨h.1,h.2.imp fun l hl=>⟨hl.1,hk _ hl.2⟩⟩
    · exact h
  · split at h
    · refine⟨h.1,h.2.1,?_⟩
      have h:=h.2.2
      split at h
      · exact hpart_mono hk h
      · exact h
    · exact h
  · exact h
theorem hext_mono (hk:∀v,K v→K' v) {x:HV} {i:Nat} (h:hext x i K):hext x i K':=by
  unfold hext at*
  cases x<;>first | exact h.elim | exact h.imp fun y hy=>⟨hy.1,hk _ hy.2⟩
theorem hfieldv_mono (hk:∀v,K v→K' v) {t:TypeId} {x:HV} {f:Nat} (h:hfieldv P t x f K):hfieldv P t x f K':=by
  unfold hfieldv at*
  split at h
  · split at h
    · split at h
      · exact hpart_mono hk h
      · exact h
    · exact h
  · exact h
theorem hbnd_mono {K K':Int→Prop} (hk:∀v,K v→K' v) {x:Option HV} {d:Int} (h:hbnd x d K):hbnd x d K':=by
  unfold hbnd at*;split at h<;>first | exact hk _ h | exact h.elim
theorem hslice3_mono {K K':Nat→Nat→Option Nat→Prop} (hk:∀l h m,K l h m→K' l h m) {len lim:Nat} {l h m:Option HV} (hh:hslice3 len lim l h m K):hslice3 len lim l h m K':=by
  unfold hslice3 at*
  refine hbnd_mono (fun a ha=>hbnd_mono (fun b hb=>?_) ha) hh
  split at hb
  · exact⟨hb.1,hb.2.1,hb.2.2.1,hk _ _ _ hb.2.2.2⟩
  · exact⟨hb.1,hb.2.1,hb.2.2.1,hb.2.2.2.1,hb.2.2.2.2.1,hk _ _ _ hb.2.2.2.2.2⟩
  · exact hb
theorem hslsl_mono (hk:∀v,K v→K' v) {s:Nat} {x:HV} {l h m:Option HV} (hh:hslsl PS s x l h m K):hslsl PS s x l h m K':=by
  unfold hslsl at*
  split at hh
  · exact⟨hh.1,hslice3_mono (fun l h m hm=>by cases m<;>exact hk _ hm) hh.2⟩
  · exact⟨hh.1,hh.2.1,hslice3_mono (fun l h m hm=>by cases m<;>exact hk _ hm) hh.2.2⟩
  · exact⟨hh.1,hslice3_mono (fun l h m hm=>by cases m<;>exact hk _ hm) hh.2⟩
  · exact hh
theorem hslar_mono (hk:∀v,K v→K' v) {N s:Nat} {x:HV} {l h m:Option HV} (hh:hslar PS N s x l h m K):hslar PS N s x l h m K':=by
  unfold hslar at*
  split at hh
  · exact⟨hh.1,hh.2.1,hslice3_mono (fun l h m hm=>hk _ hm) hh.2.2⟩
  · exact⟨hh.1,hh.2.1,hh.2.2.1,hslice3_mono (fun l h m hm=>hk _ hm) hh.2.2.2⟩
  · exact hh
theorem hslice_mono (hk:∀v,K v→K' v) {t:TypeId} {x:HV} {l h m:Option HV} (hh:hslice P PS t x l h m K):hslice P PS t x l h m K':=by
  unfold hslice at*
  split at hh
  · unfold hslstr at*
    cases x<;>first | exact⟨hh.1,hslice3_mono (fun l h m hm=>hk _ hm) hh.2⟩ | exact hh.elim
  · split at hh
    · exact hslsl_mono hk hh
    · exact hh
  · split at hh
    · exact hslar_mono hk hh
    · exact hh
  · split at hh
    · exact hslar_mono hk hh
    · exact hh
  · exact hh
theorem hkind_mono (hk:∀v,K v→K' v) {k:IntKind} {n:Int} (h:hkind k n K):hkind k n K':=by
  cases k<;>first | exact⟨h.1,hk _ h.2⟩ | exact hk _ h
theorem hrows_mono {K K':List (List HV)→Prop} (hk:∀v,K v→K' v) {s:Nat} {x:HV} (h:hrows PS s x K):hrows PS s x K':=by
  unfold hrows at*
  split at h
  · exact⟨h.1,hk _ h.2⟩
  · split at h
    · exact⟨h.1,h.2.1,h.2.2.1,hk _ h.2.2.2⟩
    · exact h
  · exact⟨h.1,hrow_mono (fun l hl=>⟨hl.1,hk _ hl.2⟩) h.2⟩
  · exact h
theorem hconv_mono (hk:∀v,K v→K' v) {s d:TypeId} {x:HV} (h:hconv P PS s d x K):hconv P PS s d x K':=by
  unfold hconv at*
  split at h
  · exact h
  · split at h
    · cases x<;>first | exact hkind_mono hk h | exact hkind_mono (fun v=>rename_mono hk) h | exact h.elim
    · split at h
      · exact hk _ h
      · exact⟨h.1,hrows_mono (fun E hE=>hE.imp fun l hl=>⟨hl.1,hk _ hl.2⟩) h.2⟩
      · exact h
    · exact h
theorem hconvert_mono (hk:∀v,K v→K' v) {s d:TypeId} {x:HV} (h:hconvert P PS s d x K):hconvert P PS s d x K':=by
  unfold hconvert at*
  split at h
  · split at h
    · unfold hstrb at*
      split at h
      · exact⟨h.1,h.2.1,h.2.2.1,hk _ h.2.2.2⟩
      · exact h
    · exact hconv_mono hk h
  · exact hconv_mono hk h
theorem hfill_mono {K K':List HV→Prop} (hk:∀v,K v→K' v) {t:TypeId}:∀(ps:List (Nat×HV)) (l:List HV),hfill P t K l ps→hfill P t K' l ps:=by
  intro ps
  induction ps with
  | nil=>intro l h;exact hk _ h
  | cons p ps ih=>
    intro l h
    obtain⟨i,x⟩:=p
    simp only[hfill] at h ⊢
    split at h
    · exact h
    · exact⟨h.1,h.2.1,h.2.2.1,ih _ h.2.2.2⟩
theorem hbuild_mono (hk:∀v,K v→K' v) {t:TypeId} {ps:List (Nat×HV)} (h:hbuild P t ps K):hbuild P t ps K':=by
  unfold hbuild at*
  refine⟨h.1,?_⟩
  have h:=h.2
  split at h
  · exact hfill_mono (fun l=>hk _) _ _ h
  · exact h
theorem hst_mono {K K':List HV→Prop} (hk:∀v,K v→K' v) {x:HV} (h:hst x K):hst x K':=by
  unfold hst at*;split at h<;>exact⟨h.1,hk _ h.2⟩
theorem hfillr_mono {K K':List (List HV)→Prop} (hk:∀v,K v→K' v) {s:Nat}:∀(ps:List (Nat×HV)) (E:List (List HV)),hfillr s K E ps→hfillr s K' E ps:=by
  intro ps
  induction ps with
  | nil=>intro l h;exact hk _ h
  | cons p ps ih=>
    intro E h
    obtain⟨i,x⟩:=p
    simp only[hfillr] at h ⊢
    exact hst_mono (fun l hl=>⟨hl.1,hl.2.1,ih _ hl.2.2⟩) h
theorem hbsl_mono (hk:∀v,K v→K' v) {n:Nat} {ps:List (Nat×HV)} {o:Option (Nat×Nat×List HV)} (h:hbsl n ps K o):hbsl n ps K' o:=by
  unfold hbsl at*
  split at h
  · exact⟨h.1,h.2.1,hfillr_mono (fun E=>hk _) _ _ h.2.2⟩
  · exact h
theorem hmki_mono (hk:∀v,K v→K' v) {t:TypeId} {x:HV} (h:hmki P t x K):hmki P t x K':=by
  unfold hmki at*
  split at h<;>first | exact hk _ h | exact h
theorem hlen_mono (hk:∀v,K v→K' v) {t:TypeId} {x:HV} (h:hlen P PS t x K):hlen P PS t x K':=by
  unfold hlen at*
  split at h
  · cases x with
    | str s=>exact hk _ h
    | stok i=>
      simp only at h ⊢
      cases hj:Toks.slen i with
      | none=>rw[hj] at h;exact h.elim
      | some j=>rw[hj] at h;exact hk _ h
    | _=>exact h.elim
  · cases x<;>first | exact fun e=>hk _ (h e) | exact⟨h.1,fun e=>hk _ (h.2 e)⟩ | exact hnlen_mono hk h | exact h.elim
  · exact hk _ h
  · split at h
    · exact hk _ h
    · exact h
  · exact h
theorem hlookup_mono (hk:∀v,K v→K' v) {m ix:HV} {ok:Bool} {z:Option (IntKind×HV)} (h:hlookup PS m ix ok K z):hlookup PS m ix ok K' z:=by
  unfold hlookup at*
  split at h
  · split at h
    · unfold hmapOf at*
      split at h
      · exact⟨h.1,h.2.1,h.2.2.1,hk _ h.2.2.2⟩
      · exact h
    · unfold hmapOfT at*
      split at h
      · exact⟨h.1,h.2.1,h.2.2.1,h.2.2.2.1,hk _ h.2.2.2.2⟩
      · exact⟨h.1,h.2.1,h.2.2.1,h.2.2.2.1,hk _ h.2.2.2.2⟩
      · exact h
    · exact h
  · exact h
theorem hminmax_mono (hk:∀v,K v→K' v) {b:Bool} {l:List HV} (h:hminmax b K l):hminmax b K' l:=by
  unfold hminmax at*
  split at h
  · exact⟨h.1,hk _ h.2⟩
  · exact h
end
end Go.Eng
namespace Go.Eng
open Go
variable [Toks]
/-- The operations that leave the pieces as they are. -/
def hval (P:Program) (o:Oper) (fr:Fr) (PS:PL) (K:HV→Prop):Prop:=
  match o.op with
  | .move x=>K (ev fr x)
  | .assign x=>K (ev fr x)
  | .pick c x y=>hpick (ev fr c) (ev fr x) (ev fr y) K
  | .load t x=>hload PS (ev fr x) K (tsz P t)
  | .nilCheck x=>hnil PS (ev fr x) K
  | .binOp op t x y _=>hbin P PS op t (ev fr x) (ev fr y) K
  | .unOp op _ x=>hun op (ev fr x) K
  | .convert s d x=>hconvert P PS s d (ev fr x) K
  | .fieldAddr s x f=>hfield PS (ev fr x) K (fldOf P s f)
  | .field t x f=>hfieldv P t (ev fr x) f K
  | .indexAddr t x i=>hindexAddr P PS t (ev fr x) (ev fr i) K
  | .index t x i=>hindex P t (ev fr x) (ev fr i) K
  | .extract x i=>hext (ev fr x) i K
  | .slice t x l h m=>hslice P PS t (ev fr x) (l.map (ev fr)) (h.map (ev fr)) (m.map (ev fr)) K
  | .build t ps=>hbuild P t (ps.toList.map fun p=>(p.1,ev fr p.2)) K
  | .buildSlice t n ps=>hbsl n (ps.toList.map fun p=>(p.1,ev fr p.2)) K (mkOf P t)
  | .makeInterface t x=>hmki P t (ev fr x) K
  | .lookup t m x ok=>hlookup PS (ev fr m) (ev fr x) ok K (mapZ P t)
  | .makeFunc fn f c=>K (.func fn (f.toList.map (ev fr)) (c.toList.map (ev fr)))
  | .call ⟨.builtin .len,args,ts⟩=>(match ts.toList,args.toList.map (ev fr) with | [t],[x]=>hlen P PS t x K | _,_=>False)
  | .call ⟨.builtin .min,args,_⟩=>hminmax false K (args.toList.map (ev fr))
  | .call ⟨.builtin .max,args,_⟩=>hminmax true K (args.toList.map (ev fr))
  | _=>False
/-- 0:hangs on no piece;1:on how pieces are shaped;2:on what they hold;3:makes a piece;4:writes cells;5:all else. -/
def cls (o:Oper):Nat:=
  match o.op with
  | .move _ | .assign _ | .pick .. | .unOp .. | .field .. | .index .. | .extract .. | .build .. | .buildSlice .. | .makeInterface .. | .makeFunc .. =>0
  | .call ⟨.builtin .min,_,_⟩ | .call ⟨.builtin .max,_,_⟩=>0
  | .binOp _ _ _ y _=>if isNilSl y then 5 else 1
  | .nilCheck _ | .fieldAddr .. | .indexAddr .. | .slice .. =>1
  | .call ⟨.builtin .len,_,_⟩=>1
  | .load .. | .convert .. | .lookup .. =>2
  | .alloc _ | .box .. | .makeSlice .. =>3
  | .store .. =>4
  | _=>5
section
variable {P:Program} {PS PS':PL} {fr fr':Fr} {o:Oper}
theorem hop_val (h:cls o≤2) (K:HV→PL→Prop):hop P o fr PS K=hval P o fr PS (fun v=>K v PS):=by
  obtain⟨dst,op,ty,pos,after,guard⟩:=o
  cases op with
  | call c=>
    obtain⟨callee,args,ts⟩:=c
    cases callee with
    | builtin b=>
      cases b<;>first | (simp only[cls] at h;omega) | skip
      · rcases ts with ⟨_ | ⟨t,_ | ⟨t2,ts⟩⟩⟩<;>rcases args with ⟨_ | ⟨x,_ | ⟨y,args⟩⟩⟩<;>simp[hop,hval,hbuiltin]
      · simp only[hop,hval,hbuiltin]
      · simp only[hop,hval,hbuiltin]
    | _=>simp only[cls] at h;omega
  | binOp op t x y t2=>
    cases hy:isNilSl y
    · simp only[hop,hval,hbinO,hy,Bool.false_eq_true,if_false]
    · simp only[cls,hy,if_true] at h;omega
  | _=>first | rfl | (simp only[cls] at h;omega)
theorem hval_mono {K K':HV→Prop} (hk:∀v,K v→K' v) (h:hval P o fr PS K):hval P o fr PS K':=by
  obtain⟨dst,op,ty,pos,after,guard⟩:=o
  cases op with
  | move x=>exact hk _ h
  | assign x=>exact hk _ h
  | pick c x y=>exact hpick_mono hk h
  | load t x=>exact hload_mono hk h
  | nilCheck x=>exact hnil_mono hk h
  | binOp op t x y _=>exact hbin_mono hk h
  | unOp op _ x=>exact hun_mono hk h
  | convert s d x=>exact hconvert_mono hk h
  | fieldAddr s x f=>exact hfield_mono hk h
  | field t x f=>exact hfieldv_mono hk h
  | indexAddr t x i=>exact hindexAddr_mono hk h
  | index t x i=>exact hindex_mono hk h
  | extract x i=>exact hext_mono hk h
  | slice t x l h' m=>exact hslice_mono hk h
  | build t ps=>exact hbuild_mono hk h
  | buildSlice t n ps=>exact hbsl_mono hk h
  | makeInterface t x=>exact hmki_mono hk h
  | lookup t m x ok=>exact hlookup_mono hk h
  | makeFunc fn f c=>exact hk _ h
  | call c=>
    obtain⟨callee,args,ts⟩:=c
    cases callee with
    | builtin b=>
      cases b<;>first | exact h.elim | skip
      · simp only[hval] at h ⊢
        split at h
        · exact hlen_mono hk h
        · exact h
      · exact hminmax_mono hk h
      · exact hminmax_mono hk h
    | _=>exact h.elim
  | _=>exact h.elim
/-- Pieces that were there are as they were. -/
def Pre (PS PS':PL):Prop:=∀n,getP PS n=.dead∨getP PS' n=getP PS n
/-- Pieces that were there are shaped as they were. -/
def Shp (PS PS':PL):Prop:=∀n ver sz E opn,getP PS n=.arr ver sz E opn→∃E',getP PS' n=.arr ver sz E' opn∧E'.length=E.length∧∀(i:Nat) (l:List HV),E[i]? =some l→∃l':List HV,E'[i]? =some l'∧l'.length=l.length
theorem Pre.refl (PS:PL):Pre PS PS:=fun _=>.inr rfl
theorem Pre.shp (h:Pre PS PS'):Shp PS PS':=fun n ver sz E opn hq=>by
  rcases h n with h | h
  · rw[h] at hq;cases hq
  · exact⟨E,h.trans hq,rfl,fun i l hl=>⟨l,hl,rfl⟩⟩
theorem Shp.live (h:Shp PS PS') {n ver:Nat} (hl:hlive (getP PS n) ver):hlive (getP PS' n) ver:=by
  cases hq:getP PS n with
  | arr ver' sz E opn=>
    rw[hq] at hl
    obtain⟨rfl,hE⟩:=hl
    obtain⟨E',h1,h2,_⟩:=h n ver sz E opn hq
    rw[h1]
    refine⟨rfl,hE.imp id fun hE=>?_⟩
    rintro rfl
    exact hE (List.eq_nil_of_length_eq_zero h2.symm)
  | dead=>rw[hq] at hl;exact hl.elim
  | map _ _ _ _=>rw[hq] at hl;exact hl.elim
  | mapT _ _ _ _=>rw[hq] at hl;exact hl.elim
  | iter _ _ _ _ _=>rw[hq] at hl;exact hl.elim
  | rnd _ _ _ _ _ _ _ _=>rw[hq] at hl;exact hl.elim
theorem Shp.lim (h:Shp PS PS') {n i len s:Nat} {cp:Option Nat} (hl:hsz (getP PS n) s):hlim (getP PS' n) i len cp=hlim (getP PS n) i len cp:=by
  cases cp with
  | some c=>rfl
  | none=>
    cases hq:getP PS n with
    | arr ver' sz E opn=>
      obtain⟨E',h1,h2,_⟩:=h _ _ _ _ _ hq
      rw[h1]
      simp only[hlim,hrest,h2]
    | _=>rw[hq] at hl;exact hl.elim
theorem Shp.szl (h:Shp PS PS') {n ver k k':Nat} (hl:hszl (getP PS n) ver k k'):hszl (getP PS' n) ver k k':=by
  unfold hszl at hl
  split at hl
  · rename_i v sz E opn hq
    obtain⟨E',h1,h2,_⟩:=h n v sz E opn hq
    rw[h1]
    refine⟨hl.1,hl.2.1.imp id fun h0 h1=>h0 ?_,hl.2.2⟩
    rw[h1] at h2
    exact List.eq_nil_of_length_eq_zero h2.symm
  · exact hl.elim
theorem Shp.ver (h:Shp PS PS') {n ver:Nat} (hl:hver (getP PS n) ver):hver (getP PS' n) ver:=by
  cases hq:getP PS n with
  | arr ver' sz E opn=>
    rw[hq] at hl
    obtain rfl:=hl
    obtain⟨E',h1,h2,_⟩:=h n ver sz E opn hq
    rw[h1];rfl
  | dead=>rw[hq] at hl;exact hl.elim
  | map _ _ _ _=>rw[hq] at hl;exact hl.elim
  | mapT _ _ _ _=>rw[hq] at hl;exact hl.elim
  | iter _ _ _ _ _=>rw[hq] at hl;exact hl.elim
  | rnd _ _ _ _ _ _ _ _=>rw[hq] at hl;exact hl.elim
theorem Shp.sz (h:Shp PS PS') {n s:Nat} (hl:hsz (getP PS n) s):hsz (getP PS' n) s:=by
  cases hq:getP PS n with
  | arr ver' sz E opn=>
    rw[hq] at hl
    obtain⟨E',h1,h2,_⟩:=h n ver' sz E opn hq
    rw[h1];exact hl
  | dead=>rw[hq] at hl;exact hl.elim
  | map _ _ _ _=>rw[hq] at hl;exact hl.elim
  | mapT _ _ _ _=>rw[hq] at hl;exact hl.elim
  | iter _ _ _ _ _=>rw[hq] at hl;exact hl.elim
  | rnd _ _ _ _ _ _ _ _=>rw[hq] at hl;exact hl.elim
theorem Shp.row (h:Shp PS PS') {n ver i s:Nat} {X:Prop} (hl:hrow (getP PS n) ver i fun l=>l.length=s∧X):hrow (getP PS' n) ver i fun l=>l.length=s∧X:=by
  cases hq:getP PS n with
  | arr ver' sz E opn=>
    rw[hq] at hl
    obtain⟨rfl,l,hl1,hl2⟩:=hl
    obtain⟨E',h1,h2,h3⟩:=h n ver sz E opn hq
    obtain⟨l',h4,h5⟩:=h3 i l hl1
    rw[h1];exact⟨rfl,l',h4,by omega,hl2.2⟩
  | dead=>rw[hq] at hl;exact hl.elim
  | map _ _ _ _=>rw[hq] at hl;exact hl.elim
  | mapT _ _ _ _=>rw[hq] at hl;exact hl.elim
  | iter _ _ _ _ _=>rw[hq] at hl;exact hl.elim
  | rnd _ _ _ _ _ _ _ _=>rw[hq] at hl;exact hl.elim
theorem Pre.row (h:Pre PS PS') {n ver i:Nat} {K:List HV→Prop} (hl:hrow (getP PS n) ver i K):hrow (getP PS' n) ver i K:=by
  rcases h n with h | h
  · rw[h] at hl;exact hl.elim
  · rwa [h]
theorem hcells_pre (h:Pre PS PS') {s:Nat} {K:List HV→Prop} {x:HV} (hc:hcells PS s K x):hcells PS' s K x:=by
  unfold hcells at*;cases x<;>first | exact hc.elim | exact h.row hc | exact hc
theorem hrows_pre (h:Pre PS PS') {s:Nat} {K:List (List HV)→Prop} {x:HV} (hc:hrows PS s x K):hrows PS' s x K:=by
  unfold hrows at*
  cases x with
  | sl n ver i len cp=>
    simp only at hc ⊢
    rcases h n with h | h
    · rw[h] at hc;exact hc.elim
    · rwa [h]
  | isl n ver i k len cp=>exact⟨hc.1,h.row hc.2⟩
  | _=>exact hc
theorem hval_shp (hs:Shp PS PS') (hcl:cls o≤1) {K:HV→Prop} (h:hval P o fr PS K):hval P o fr PS' K:=by
  obtain⟨dst,op,ty,pos,after,guard⟩:=o
  cases op with
  | nilCheck x=>
    simp only[hval] at h ⊢
    unfold hnil at*
    split at h<;>first | exact⟨hs.live h.1,h.2⟩ | exact h
  | binOp op t x y _=>
    simp only[hval] at h ⊢
    unfold hbin at*
    split at h<;>first | exact h | exact⟨hs.live h.1,h.2⟩ | exact⟨h.1,h.2.1,hs.szl h.2.2.1,h.2.2.2⟩
  | lookup t m x ok=>simp[cls] at hcl
  | fieldAddr s x f=>
    simp only[hval] at h ⊢
    unfold hfield at*
    split at h
    · split at h<;>first | exact⟨hs.live h.1,h.2⟩ | exact h
    · exact h
  | indexAddr t x i=>
    simp only[hval] at h ⊢
    unfold hindexAddr at*
    split at h
    · unfold hixsl at*
      split at h
      · split at h
        · exact h
        · exact⟨h.1,h.2.1,hs.row h.2.2⟩
        · exact⟨h.1,h.2.1,hs.live h.2.2.1,h.2.2.2⟩
        · exact h
      · exact h
    · unfold hixar at*
      split at h
      · split at h
        · exact⟨h.1,h.2.1,hs.live h.2.2.1,h.2.2.2⟩
        · exact h
        · exact h
      · exact h
  | slice t x l hh m=>
    simp only[hval] at h ⊢
    unfold hslice at*
    split at h
    · exact h
    · split at h
      · unfold hslsl at*
        split at h
        · exact h
        · exact⟨hs.live h.1,hs.sz h.2.1,by rw[hs.lim h.2.1];exact h.2.2⟩
        · exact⟨hs.live h.1,h.2⟩
        · exact h
      · exact h
    · split at h
      · unfold hslar at*
        split at h
        · exact⟨h.1,hs.live h.2.1,h.2.2⟩
        · exact h
        · exact h
      · exact h
    · split at h
      · unfold hslar at*
        split at h
        · exact⟨h.1,hs.live h.2.1,h.2.2⟩
        · exact h
        · exact h
      · exact h
    · exact h
  | call c=>
    obtain⟨callee,args,ts⟩:=c
    cases callee with
    | builtin b=>
      cases b<;>first | exact h.elim | skip
      · simp only[hval] at h ⊢
        split at h
        · unfold hlen at*
          split at h
          · exact h
          · split at h<;>first | exact h | exact⟨hs.ver h.1,h.2⟩
          · exact h
          · exact h
          · exact h
        · exact h
      · exact h
      · exact h
    | _=>exact h.elim
  | load t x=>simp[cls] at hcl
  | convert s d x=>simp[cls] at hcl
  | _=>first | exact h | exact h.elim
theorem hmapOf_pre (hs:Pre PS PS') {n:Nat} {C:Nat→Nat→IntKind→Ents→Prop} (h:hmapOf (getP PS n) C):hmapOf (getP PS' n) C:=by
  rcases hs n with h2 | h2
  · rw[h2] at h;exact h.elim
  · rw[h2];exact h
theorem hmapOfT_pre (hs:Pre PS PS') {n:Nat} {C:Nat→Nat→IntKind→EntsT→Prop} (h:hmapOfT (getP PS n) C):hmapOfT (getP PS' n) C:=by
  rcases hs n with h2 | h2
  · rw[h2] at h;exact h.elim
  · rw[h2];exact h
theorem hval_pre (hs:Pre PS PS') (hcl:cls o≤2) {K:HV→Prop} (h:hval P o fr PS K):hval P o fr PS' K:=by
  by_cases h1:cls o≤1
  · exact hval_shp hs.shp h1 h
  · obtain⟨dst,op,ty,pos,after,guard⟩:=o
    cases op with
    | load t x=>
      simp only[hval] at h ⊢
      unfold hload at*
      split at h
      · exact hcells_pre hs h
      · exact hcells_pre hs h
      · exact h
    | convert s d x=>
      simp only[hval] at h ⊢
      have main:∀x,hconv P PS s d x K→hconv P PS' s d x K:=by
        intro x h
        unfold hconv at*
        split at h
        · exact h
        · split at h
          · exact h
          · split at h
            · exact h
            · exact⟨h.1,hrows_pre hs h.2⟩
            · exact h
          · exact h
      unfold hconvert at*
      split at h
      · split at h
        · exact h
        · exact main _ h
      · exact main _ h
    | lookup t m x ok=>
      simp only[hval] at h ⊢
      unfold hlookup at*
      split at h
      · split at h
        · exact hmapOf_pre hs h
        · exact hmapOfT_pre hs h
        · exact h
      · exact h
    | binOp op t x y t2=>cases hy:isNilSl y<;>simp[cls,hy] at h1 hcl
    | call c=>
      obtain⟨callee,args,ts⟩:=c
      cases callee with
      | builtin b=>cases b<;>(simp[cls] at h1 hcl)
      | _=>simp[cls] at hcl
    | _=>first | (simp[cls] at h1;done) | (simp[cls] at hcl;done)
theorem hval_free (hcl:cls o=0) {K:HV→Prop} (h:hval P o fr PS K):hval P o fr PS' K:=by
  obtain⟨dst,op,ty,pos,after,guard⟩:=o
  cases op with
  | call c=>
    obtain⟨callee,args,ts⟩:=c
    cases callee with
    | builtin b=>cases b<;>first | exact h | (simp[cls] at hcl;done)
    | _=>simp[cls] at hcl
  | binOp op t x y t2=>cases hy:isNilSl y<;>simp[cls,hy] at hcl
  | _=>first | exact h | (simp[cls] at hcl;done)
end
end Go.Eng
namespace Go.Eng
open Go
variable [Toks]
section
variable {P:Program} {PS PS':PL} {K:HV→Prop}
theorem hrow_wit {q:Piece} {v i:Nat} {α:Type} {C:List HV→Prop} {f:List HV→α} {K:α→Prop} (h:hrow q v i fun l=>C l∧K (f l)):∃x,(hrow q v i fun l=>C l∧f l=x)∧K x:=by
  unfold hrow at*;cases q<;>first | exact h.elim | skip
  obtain⟨h1,l,h2,h3,h4⟩:=h
  exact⟨f l,⟨h1,l,h2,h3,rfl⟩,h4⟩
theorem hcells_wit {s:Nat} {α:Type} {f:List HV→α} {K:α→Prop} {x:HV} (h:hcells PS s (fun l=>K (f l)) x):∃y,hcells PS s (fun l=>f l=y) x∧K y:=by
  unfold hcells at*;cases x<;>first | exact h.elim | skip
  · exact⟨_,⟨h.1,rfl⟩,h.2⟩
  · exact hrow_wit (f:=fun l=>f ((l.drop _).take s)) h
theorem hload_wit {x:HV} {o:Option (Bool×Nat)} (h:hload PS x K o):∃y,hload PS x (fun v=>v=y) o∧K y:=by
  unfold hload at*
  split at h
  · exact hcells_wit (f:=HV.agg) h
  · -- one cell
    have:hcells PS 1 (fun l=>∃y,l=[y]∧K y) x:=hcells_mono (fun l hl=>by unfold hone at hl;split at hl;exact⟨_,rfl,hl⟩;exact hl.elim) h
    obtain⟨l,h1,y,rfl,h2⟩:=hcells_wit (f:=fun l=>l) (K:=fun l=>∃y,l=[y]∧K y) this
    exact⟨y,hcells_mono (fun l hl=>by subst hl;rfl) h1,h2⟩
  · exact h.elim
theorem hnil_wit {x:HV} (h:hnil PS x K):∃y,hnil PS x (fun v=>v=y)∧K y:=by
  unfold hnil at*;split at h<;>first | exact⟨_,⟨h.1,rfl⟩,h.2⟩ | exact⟨_,rfl,h⟩ | exact h.elim
theorem hpick_wit {c x y:HV} (h:hpick c x y K):∃z,hpick c x y (fun v=>v=z)∧K z:=by
  unfold hpick at*
  cases c<;>first | exact h.elim | skip
  rename_i b
  cases b
  · exact⟨y,⟨fun e=>(by cases e),fun _=>rfl⟩,h.2 rfl⟩
  · exact⟨x,⟨fun _=>rfl,fun e=>(by cases e)⟩,h.1 rfl⟩
theorem hfit_wit {k:IntKind} {n:Int} (h:hfit k n K):∃y,hfit k n (fun v=>v=y)∧K y:=by
  cases k<;>first | exact⟨_,⟨h.1,rfl⟩,h.2⟩ | exact⟨_,rfl,h⟩
theorem hint_wit {op:BinOp} {k k':IntKind} {a b:Int} (h:hint op k a k' b K):∃y,hint op k a k' b (fun v=>v=y)∧K y:=by
  cases op<;>first
    | exact⟨_,⟨h.1,rfl⟩,h.2⟩
    | exact⟨_,⟨h.1,h.2.1,rfl⟩,h.2.2⟩
    | (obtain⟨y,h1,h2⟩:=hfit_wit h.2;exact⟨y,⟨h.1,h1⟩,h2⟩)
    | (obtain⟨y,h1,h2⟩:=hfit_wit h.2.2;exact⟨y,⟨h.1,h.2.1,h1⟩,h2⟩)
theorem hstr_wit {op:BinOp} {a b:List UInt8} (h:hstr op a b K):∃y,hstr op a b (fun v=>v=y)∧K y:=by
  cases op<;>first | exact h.elim | exact⟨_,rfl,h⟩ | exact⟨_,⟨h.1,rfl⟩,h.2⟩
theorem hbt_wit {op:BinOp} {r:Bool} (h:hbt op r K):∃z,hbt op r (fun v=>v=z)∧K z:=by
  cases op<;>first | exact h.elim | exact⟨_,rfl,h⟩
theorem hbin_wit {op:BinOp} {t:TypeId} {x y:HV} (h:hbin P PS op t x y K):∃z,hbin P PS op t x y (fun v=>v=z)∧K z:=by
  unfold hbin at*
  split at h
  · exact hint_wit h
  · exact hstr_wit h
  · obtain⟨z,h1,h2⟩:=hbt_wit h.2;exact⟨z,⟨h.1,h1⟩,h2⟩
  · obtain⟨z,h1,h2⟩:=hbt_wit h.2.2;exact⟨z,⟨h.1,h.2.1,h1⟩,h2⟩
  · obtain⟨z,h1,h2⟩:=hbt_wit h.2;exact⟨z,⟨h.1,h1⟩,h2⟩
  · obtain⟨z,h1,h2⟩:=hbt_wit h.2;exact⟨z,⟨h.1,h1⟩,h2⟩
  · obtain⟨z,h1,h2⟩:=hbt_wit h.2.2.2.2;exact⟨z,⟨h.1,h.2.1,h.2.2.1,h.2.2.2.1,h1⟩,h2⟩
  · unfold heqs at*
    split at h
    · obtain⟨z,h1,h2⟩:=hbt_wit h.2;exact⟨z,⟨h.1,h1⟩,h2⟩
    · exact h.elim
  · obtain⟨z,h1,h2⟩:=hint_wit h
    obtain⟨z',h3,h4⟩:=rename_wit h2
    exact⟨z',hint_mono (fun v hv=>by rw[hv];exact h3) h1,h4⟩
  · obtain⟨z,h1,h2⟩:=hint_wit h
    obtain⟨z',h3,h4⟩:=rename_wit h2
    exact⟨z',hint_mono (fun v hv=>by rw[hv];exact h3) h1,h4⟩
  · obtain⟨z,h1,h2⟩:=hint_wit h
    obtain⟨z',h3,h4⟩:=rename_wit h2
    exact⟨z',hint_mono (fun v hv=>by rw[hv];exact h3) h1,h4⟩
  · exact hstr_wit h
  · exact hstr_wit h
  · exact hstr_wit h
  · exact h.elim
theorem hun_wit {op:UnOp} {x:HV} (h:hun op x K):∃z,hun op x (fun v=>v=z)∧K z:=by
  unfold hun at*
  split at h
  · exact hfit_wit h
  · exact⟨_,rfl,h⟩
  · exact⟨_,rfl,h⟩
  · exact h.elim
theorem hfield_wit {x:HV} {o:Option (Nat×Nat)} (h:hfield PS x K o):∃z,hfield PS x (fun v=>v=z) o∧K z:=by
  unfold hfield at*
  split at h
  · cases x<;>first | exact h.elim | exact⟨_,⟨h.1,rfl⟩,h.2⟩ | exact⟨_,rfl,h⟩
  · exact h.elim
theorem hindexAddr_wit {t:TypeId} {x i:HV} (h:hindexAddr P PS t x i K):∃z,hindexAddr P PS t x i (fun v=>v=z)∧K z:=by
  unfold hindexAddr at*
  split at h
  · unfold hixsl at*
    split at h
    · split at h
      · obtain⟨h1,l,h2,h3,h4⟩:=h;exact⟨_,⟨h1,l,h2,h3,rfl⟩,h4⟩
      · obtain⟨h1,h2,h3⟩:=h
        obtain⟨z,h4,h5⟩:=hrow_wit (f:=fun _=>HV.ptr _ _ _ 0) h3
        exact⟨z,⟨h1,h2,h4⟩,h5⟩
      · exact⟨_,⟨h.1,h.2.1,h.2.2.1,rfl⟩,h.2.2.2⟩
      · exact h.elim
    · exact h.elim
  · unfold hixar at*
    split at h
    · split at h
      · exact⟨_,⟨h.1,h.2.1,h.2.2.1,rfl⟩,h.2.2.2⟩
      · exact⟨_,⟨h.1,h.2.1,rfl⟩,h.2.2⟩
      · exact h.elim
    · exact h.elim
theorem hpart_wit {b:Bool} {s off:Nat} {l:List HV} (h:hpart b s off l K):∃z,hpart b s off l (fun v=>v=z)∧K z:=by
  unfold hpart at*
  cases b
  · simp only[Bool.false_eq_true,if_false] at*
    obtain⟨y,h1,h2⟩:=h;exact⟨y,⟨y,h1,rfl⟩,h2⟩
  · simp only[if_true] at*
    exact⟨_,⟨h.1,rfl⟩,h.2⟩
theorem hindex_wit {t:TypeId} {x i:HV} (h:hindex P t x i K):∃z,hindex P t x i (fun v=>v=z)∧K z:=by
  unfold hindex at*
  split at h
  · split at h
    · obtain⟨h1,b,h2,h3⟩:=h;exact⟨_,⟨h1,b,h2,rfl⟩,h3⟩
    · exact h.elim
  · split at h
    · obtain⟨h1,h2,h3⟩:=h
      split at h3
      · obtain⟨z,h4,h5⟩:=hpart_wit h3;exact⟨z,⟨h1,h2,h4⟩,h5⟩
      · exact h3.elim
    · exact h.elim
  · exact h.elim
theorem hext_wit {x:HV} {i:Nat} (h:hext x i K):∃z,hext x i (fun v=>v=z)∧K z:=by
  unfold hext at*
  cases x<;>first | exact h.elim | (obtain⟨y,h1,h2⟩:=h;exact⟨y,⟨y,h1,rfl⟩,h2⟩)
theorem hfieldv_wit {t:TypeId} {x:HV} {f:Nat} (h:hfieldv P t x f K):∃z,hfieldv P t x f (fun v=>v=z)∧K z:=by
  unfold hfieldv at*
  split at h
  · split at h
    · split at h
      · exact hpart_wit h
      · exact h.elim
    · exact h.elim
  · exact h.elim
theorem hbnd_wit {x:Option HV} {d:Int} {K:Int→Prop} (h:hbnd x d K):∃n,hbnd x d (fun m=>m=n)∧K n:=by
  unfold hbnd at*;split at h<;>first | exact⟨_,rfl,h⟩ | exact h.elim
theorem hslice3_wit {K:Nat→Nat→Option Nat→Prop} {len lim:Nat} {l h m:Option HV} (hh:hslice3 len lim l h m K):∃a b c,hslice3 len lim l h m (fun a' b' c'=>a'=a∧b'=b∧c'=c)∧K a b c:=by
  unfold hslice3 at*
  obtain⟨a,h1,h2⟩:=hbnd_wit hh
  obtain⟨b,h3,h4⟩:=hbnd_wit h2
  cases m with
  | none=>
    obtain⟨c1,c2,c3,hK⟩:=h4
    exact⟨_,_,_,hbnd_mono (fun a' ha=>by subst ha;exact hbnd_mono (fun b' hb=>by subst hb;exact⟨c1,c2,c3,rfl,rfl,rfl⟩) h3) h1,hK⟩
  | some m=>
    cases m<;>first | exact h4.elim | skip
    obtain⟨c1,c2,c3,c4,c5,hK⟩:=h4
    exact⟨_,_,_,hbnd_mono (fun a' ha=>by subst ha;exact hbnd_mono (fun b' hb=>by subst hb;exact⟨c1,c2,c3,c4,c5,rfl,rfl,rfl⟩) h3) h1,hK⟩
theorem hslsl_wit {s:Nat} {x:HV} {l h m:Option HV} (hh:hslsl PS s x l h m K):∃z,hslsl PS s x l h m (fun v=>v=z)∧K z:=by
  unfold hslsl at*
  split at hh
  · obtain⟨h1,h2⟩:=hh
    obtain⟨a,b,c,h3,h4⟩:=hslice3_wit h2
    cases c
    · exact⟨_,⟨h1,hslice3_mono (fun a' b' c' hx=>by obtain⟨rfl,rfl,rfl⟩:=hx;rfl) h3⟩,h4⟩
    · exact⟨_,⟨h1,hslice3_mono (fun a' b' c' hx=>by obtain⟨rfl,rfl,rfl⟩:=hx;rfl) h3⟩,h4⟩
  · obtain⟨h0,h1,h2⟩:=hh
    obtain⟨a,b,c,h3,h4⟩:=hslice3_wit h2
    cases c
    · exact⟨_,⟨h0,h1,hslice3_mono (fun a' b' c' hx=>by obtain⟨rfl,rfl,rfl⟩:=hx;rfl) h3⟩,h4⟩
    · exact⟨_,⟨h0,h1,hslice3_mono (fun a' b' c' hx=>by obtain⟨rfl,rfl,rfl⟩:=hx;rfl) h3⟩,h4⟩
  · obtain⟨h1,h2⟩:=hh
    obtain⟨a,b,c,h3,h4⟩:=hslice3_wit h2
    cases c
    · exact⟨_,⟨h1,hslice3_mono (fun a' b' c' hx=>by obtain⟨rfl,rfl,rfl⟩:=hx;rfl) h3⟩,h4⟩
    · exact⟨_,⟨h1,hslice3_mono (fun a' b' c' hx=>by obtain⟨rfl,rfl,rfl⟩:=hx;rfl) h3⟩,h4⟩
  · exact hh.elim
theorem hslar_wit {N s:Nat} {x:HV} {l h m:Option HV} (hh:hslar PS N s x l h m K):∃z,hslar PS N s x l h m (fun v=>v=z)∧K z:=by
  unfold hslar at*
  split at hh
  · obtain⟨h0,h1,h2⟩:=hh
    obtain⟨a,b,c,h3,h4⟩:=hslice3_wit h2
    exact⟨_,⟨h0,h1,hslice3_mono (fun a' b' c' hx=>by obtain⟨rfl,rfl,rfl⟩:=hx;rfl) h3⟩,h4⟩
  · obtain⟨h0,h1,h5,h2⟩:=hh
    obtain⟨a,b,c,h3,h4⟩:=hslice3_wit h2
    exact⟨_,⟨h0,h1,h5,hslice3_mono (fun a' b' c' hx=>by obtain⟨rfl,rfl,rfl⟩:=hx;rfl) h3⟩,h4⟩
  · exact hh.elim
theorem hslice_wit {t:TypeId} {x:HV} {l h m:Option HV} (hh:hslice P PS t x l h m K):∃z,hslice P PS t x l h m (fun v=>v=z)∧K z:=by
  unfold hslice at*
  split at hh
  · unfold hslstr at*
    cases x<;>first | exact hh.elim | skip
    obtain⟨h1,h2⟩:=hh
    obtain⟨a,b,c,h3,h4⟩:=hslice3_wit h2
    exact⟨_,⟨h1,hslice3_mono (fun a' b' c' hx=>by obtain⟨rfl,rfl,rfl⟩:=hx;rfl) h3⟩,h4⟩
  · split at hh
    · exact hslsl_wit hh
    · exact hh.elim
  · split at hh
    · exact hslar_wit hh
    · exact hh.elim
  · split at hh
    · exact hslar_wit hh
    · exact hh.elim
  · exact hh.elim
theorem hkind_wit {k:IntKind} {n:Int} (h:hkind k n K):∃z,hkind k n (fun v=>v=z)∧K z:=by
  cases k<;>first | exact⟨_,⟨h.1,rfl⟩,h.2⟩ | exact⟨_,rfl,h⟩
theorem hrows_wit {K:List (List HV)→Prop} {s:Nat} {x:HV} (h:hrows PS s x K):∃E,hrows PS s x (fun v=>v=E)∧K E:=by
  unfold hrows at*
  split at h
  · exact⟨_,⟨h.1,rfl⟩,h.2⟩
  · split at h
    · exact⟨_,⟨h.1,h.2.1,h.2.2.1,rfl⟩,h.2.2.2⟩
    · exact h.elim
  · obtain⟨h1,h2⟩:=h
    obtain⟨E,h3,h4⟩:=hrow_wit (f:=fun l=>((l.drop _).take _).map fun y=>[y]) h2
    exact⟨E,⟨h1,h3⟩,h4⟩
  · exact h.elim
theorem hconv_wit {s d:TypeId} {x:HV} (h:hconv P PS s d x K):∃z,hconv P PS s d x (fun v=>v=z)∧K z:=by
  unfold hconv at*
  split at h
  · exact h.elim
  · split at h
    · cases x<;>first | exact hkind_wit h | exact h.elim | (obtain⟨z,h1,h2⟩:=hkind_wit h;obtain⟨z',h3,h4⟩:=rename_wit h2;exact⟨z',hkind_mono (fun v hv=>by rw[hv];exact h3) h1,h4⟩)
    · split at h
      · exact⟨_,rfl,h⟩
      · obtain⟨h1,h2⟩:=h
        obtain⟨E,h3,l,h4,h5⟩:=hrows_wit h2
        exact⟨_,⟨h1,hrows_mono (fun E' hE=>by subst hE;exact⟨l,h4,rfl⟩) h3⟩,h5⟩
      · exact h.elim
    · exact h.elim
theorem hconvert_wit {s d:TypeId} {x:HV} (h:hconvert P PS s d x K):∃z,hconvert P PS s d x (fun v=>v=z)∧K z:=by
  unfold hconvert at*
  split at h
  · split at h
    · unfold hstrb at*
      split at h
      · exact⟨_,⟨h.1,h.2.1,h.2.2.1,rfl⟩,h.2.2.2⟩
      · exact h.elim
    · exact hconv_wit h
  · exact hconv_wit h
theorem hfill_wit {K:List HV→Prop} {t:TypeId}:∀(ps:List (Nat×HV)) (l:List HV),hfill P t K l ps→∃z,hfill P t (fun v=>v=z) l ps∧K z:=by
  intro ps
  induction ps with
  | nil=>intro l h;exact⟨l,rfl,h⟩
  | cons p ps ih=>
    intro l h
    obtain⟨i,x⟩:=p
    simp only[hfill] at h ⊢
    split at h
    · exact h.elim
    · obtain⟨h1,h2,h3,h4⟩:=h
      obtain⟨z,h5,h6⟩:=ih _ h4
      exact⟨z,⟨h1,h2,h3,h5⟩,h6⟩
theorem hbuild_wit {t:TypeId} {ps:List (Nat×HV)} (h:hbuild P t ps K):∃z,hbuild P t ps (fun v=>v=z)∧K z:=by
  unfold hbuild at*
  obtain⟨h1,h⟩:=h
  split at h
  · obtain⟨z,h2,h3⟩:=hfill_wit _ _ h
    exact⟨_,⟨h1,hfill_mono (fun l hl=>by subst hl;rfl) _ _ h2⟩,h3⟩
  · exact h.elim
theorem hst_wit {K:List HV→Prop} {x:HV} (h:hst x K):∃z,hst x (fun v=>v=z)∧K z:=by
  unfold hst at*;split at h<;>exact⟨_,⟨h.1,rfl⟩,h.2⟩
theorem hfillr_wit {K:List (List HV)→Prop} {s:Nat}:∀(ps:List (Nat×HV)) (E:List (List HV)),hfillr s K E ps→∃z,hfillr s (fun v=>v=z) E ps∧K z:=by
  intro ps
  induction ps with
  | nil=>intro l h;exact⟨l,rfl,h⟩
  | cons p ps ih=>
    intro E h
    obtain⟨i,x⟩:=p
    simp only[hfillr] at h ⊢
    obtain⟨l,h1,h2,h3,h4⟩:=hst_wit h
    obtain⟨z,h5,h6⟩:=ih _ h4
    exact⟨z,hst_mono (fun l' hl=>by subst hl;exact⟨h2,h3,h5⟩) h1,h6⟩
theorem hbsl_wit {n:Nat} {ps:List (Nat×HV)} {o:Option (Nat×Nat×List HV)} (h:hbsl n ps K o):∃z,hbsl n ps (fun v=>v=z) o∧K z:=by
  unfold hbsl at*
  split at h
  · obtain⟨h1,h2,h⟩:=h
    obtain⟨z,h3,h4⟩:=hfillr_wit _ _ h
    exact⟨_,⟨h1,h2,hfillr_mono (fun l hl=>by subst hl;rfl) _ _ h3⟩,h4⟩
  · exact h.elim
theorem hmki_wit {t:TypeId} {x:HV} (h:hmki P t x K):∃z,hmki P t x (fun v=>v=z)∧K z:=by
  unfold hmki at*
  split at h<;>first | exact⟨_,rfl,h⟩ | exact h.elim
theorem hlookup_wit {m ix:HV} {ok:Bool} {z:Option (IntKind×HV)} (h:hlookup PS m ix ok K z):∃y,hlookup PS m ix ok (fun v=>v=y) z∧K y:=by
  unfold hlookup at*
  split at h
  · split at h
    · unfold hmapOf at*
      split at h
      · exact⟨_,⟨h.1,h.2.1,h.2.2.1,rfl⟩,h.2.2.2⟩
      · exact h.elim
    · unfold hmapOfT at*
      split at h
      · exact⟨_,⟨h.1,h.2.1,h.2.2.1,h.2.2.2.1,rfl⟩,h.2.2.2.2⟩
      · exact⟨_,⟨h.1,h.2.1,h.2.2.1,h.2.2.2.1,rfl⟩,h.2.2.2.2⟩
      · exact h.elim
    · exact h.elim
  · exact h.elim
theorem hminmax_wit {b:Bool} {l:List HV} (h:hminmax b K l):∃z,hminmax b (fun v=>v=z) l∧K z:=by
  unfold hminmax at*
  split at h
  · exact⟨_,⟨h.1,rfl⟩,h.2⟩
  · exact h.elim
/-- A length:outright. -/
def hlenP (P:Program) (PS:PL) (t:TypeId) (x:HV) (K:HV→Prop):Prop:=
  match P.underlying t with
  | some .string=>(match x with | .str s=>K (.int .i64 s.length) | .stok i=>(match Toks.slen i with | some j=>K (.tok .i64 j) | none=>False) | _=>False)
  | some (.slice _)=>(match x with
    | .imm _ E=>K (.int .i64 E.length)
    | .sl n ver _ len _=>hver (getP PS n) ver∧K (.int .i64 len)
    | .isl n ver _ _ len _=>hver (getP PS n) ver∧K (.int .i64 len)
    | .nam i=>hnlen i K
    | _=>False)
  | some (.array n _)=>K (.int .i64 n)
  | some (.pointer ar)=>(match P.underlying ar with | some (.array n _)=>K (.int .i64 n) | _=>False)
  | _=>False
theorem hlen_wit {t:TypeId} {x:HV} (h:hlenP P PS t x K):∃z,hlen P PS t x (fun v=>v=z)∧K z:=by
  unfold hlenP at*
  unfold hlen
  split at h<;>rename_i hu<;>simp only[hu]
  · cases x with
    | str s=>exact⟨_,rfl,h⟩
    | stok i=>
      simp only at h ⊢
      cases hj:Toks.slen i with
      | none=>rw[hj] at h;exact h.elim
      | some j=>rw[hj] at h;exact⟨_,rfl,h⟩
    | _=>exact h.elim
  · cases x<;>first | exact⟨_,fun _=>rfl,h⟩ | exact⟨_,⟨h.1,fun _=>rfl⟩,h.2⟩ | exact hnlen_wit h | exact h.elim
  · exact⟨_,rfl,h⟩
  · split at h
    · rename_i hu2;simp only[hu2];exact⟨_,rfl,h⟩
    · exact h.elim
  · exact h.elim
end
end Go.Eng
