/-
What is known of calls for runs: an unknown number among the arguments; nothing as an empty piece; data alone.
No conditions.
-/
import Derived.Test.YtbmibhjjogobhaaGreatQRunF
set_option linter.unusedSectionVars false
set_option linter.unusedSimpArgs false
set_option linter.unusedVariables false
namespace Go.Eng
open Go
variable [zB]
section
variable {P:Program} {f:FuncId} {PS:PL} {K:HV→PL→Prop}
/-- Nothing,as an empty piece of its own. -/
theorem zI.nil {args:List HV} (s:Nat) (h:zI P f args PS fun r PS'=>K r PS'∨(r=.imm true []∧K (.sl PS'.length 0 0 0 none) (PS'++[.arr 0 s [] true]))):zI P f args PS K:=by
 intro F e D w vs hr hf
 refine(h F e D w vs hr hf).mono ?_
 rintro en w' ⟨v,x,PS',e',D',rfl,hK,hr',ht,hx⟩
 rcases hK with hK | ⟨rfl,hK⟩
 ·exact⟨v,x,PS',e',D',rfl,hK,hr',ht,hx⟩
 ·obtain⟨hr2,ht2⟩:=hr'.zCe s
  refine⟨v,_,_,_,_,rfl,hK,hr2,ht.trans ht2,?_⟩
  cases hx with
  | imm _ _ a c b o sz val hc hm htt hn ha hb hsz h1c hcell zT=>
   have hc0:c=0:=htt rfl
   subst hc0
   exact .sl _ _ _ _ _ _ ⟨0,.nil⟩ (by simp[hr'.len]) (Nat.le_refl _) (fun _=>⟨⟨a,rfl⟩,rfl,.inl rfl⟩) rfl
/-- What a call on data comes to with no pieces,it comes to with any:frames. -/
theorem zH.data {M M':Nat→Prop} {e e':List Pos} {w:World} (hm:∀b,M' b→M b) {x:HV} {v:Value} (h:zH M e w x v) (hs:zc 0 x):zH M' e' w x v:=
 zH.uv (k:=0) (fun n hn=>absurd hn (Nat.not_lt_zero n)) hm h hs
theorem zy.data {M M':Nat→Prop} {e e':List Pos} {w:World} (hm:∀b,M' b→M b) {l:List HV} {vs:Array Value} (h:zy M e w l vs) (hs:∀x∈l,zc 0 x):zy M' e' w l vs:=
 ⟨h.1,fun i x u hi hu=>(h.2 i x u hi hu).data hm (hs x (List.mem_of_getElem? hi))⟩
theorem Pure.of_nil {args:List HV} {res:HV} (ha:∀x∈args,zc 0 x) (hs:zc 0 res) (h:zI P f args [] fun r _=>r=res):Pure P f args res:=by
 intro PS F e D w vs hr hf
 have hr0:Rel (Mut F D) [] (fun _ _=>False) [] w:=⟨rfl,fun _ _ h=>h.elim,fun b hb=>by
  rcases hb with hb | ⟨i,hb⟩
  ·exact hr.fore b hb
  ·exact(hr.out i b hb).2.1,fun _ _ _ h=>h.elim,fun i q p h=>by simp at h⟩
 have hM:Mut (Mut F D) (fun _ _=>False)=Mut F D:=by
  funext b
  exact propext ⟨fun h=>h.elim id fun⟨_,h⟩=>h.elim,fun h=>.inl h⟩
 have hf0:zy (Mut (Mut F D) fun _ _=>False) [] w args vs:=by rw[hM];exact hf.data (fun _ h=>h) ha
 refine(h (Mut F D) [] (fun _ _=>False) w vs hr0 hf0).mono ?_
 rintro en w' ⟨v,x,PS',e',D',rfl,rfl,hr',ht,hx⟩
 have ht':Tr e D w e D w':=⟨ht.os,ht.tape,ht.output,ht.size,fun b hb _=>ht.keep b hb fun _ h=>h,fun i b hb=>.inl ⟨i,hb⟩,.refl e⟩
 refine⟨v,x,PS,e,D,rfl,⟨rfl,rfl⟩,?_,ht',hx.data (fun b hb=>.inl hb) hs⟩
 exact hr.next ht' hr.len (fun i b hb=>⟨(hr.out i b hb).1,Nat.lt_of_lt_of_le (hr.out i b hb).2.1 ht.size,(hr.out i b hb).2.2⟩) hr.apart (fun i q p hq hp=>.inl ⟨hq,hp,fun _=>Iff.rfl,fun b hb=>ht.keep b (hr.out i b hb).2.1 fun _ h=>h⟩)
end
/-- A pure call as one way. -/
theorem Pure.way {P:Program} {g:FuncId} {args:List HV} {r:HV} {m:Mem} (h:Pure P g args r):zI P g args m.pl fun v PS=>∃x∈[(r,m)],v=x.1∧PS=x.2.pl:=
 (h m.pl).mono fun _ _ ⟨h1,h2⟩=>⟨(r,m),List.mem_singleton.2 rfl,h1,h2⟩
/-! ### Names for unknown numbers -/
/-- What the one describes the other describes too. -/
def Sub (x y:HV):Prop:=∀(M:Nat→Prop) (e:List Pos) (w:World) (v:Value),zH M e w x v→zH M e w y v
def jl:List HV→List HV→Prop
 | [],[]=>True
 | x::l,y::r=>Sub x y∧jl l r
 | _,_=>False
theorem Sub.refl (x:HV):Sub x x:=fun _ _ _ _ h=>h
theorem Sub.tok {k:IntKind} {i:Nat} {n:Int} (h:zB.num i=n):Sub (.int k n) (.tok k i):=by
 intro M e w v hv;cases hv;rw[←h];exact .tok k i
theorem Sub.zHO {k:IntKind} {i:Nat} {n:Int} (h:zB.num i=n):Sub (.tok k i) (.int k n):=by
 intro M e w v hv;cases hv;rw[h];exact .int k n
theorem Sub.nam {i:Nat} {t:Bool} {E:List (List HV)} (h1:zB.dt i=t) (h2:zB.rows i=E):Sub (.imm t E) (.nam i):=by
 intro M e w v hv;subst h1;subst h2;exact .nam i v hv
theorem Sub.zOy {i:Nat} {t:Bool} {E:List (List HV)} (h1:zB.dt i=t) (h2:zB.rows i=E):Sub (.nam i) (.imm t E):=by
 intro M e w v hv;subst h1;subst h2;cases hv;assumption
theorem jl.get:∀{l r:List HV},jl l r→l.length=r.length∧∀(i:Nat) (y:HV),r[i]? =some y→∃x,l[i]? =some x∧Sub x y
 | [],[],_=>⟨rfl,fun i y h=>by simp at h⟩
 | x::l,y::r,h=>by
  obtain⟨h1,h2⟩:=jl.get h.2
  refine⟨by simp[h1],fun i z hz=>?_⟩
  cases i with
  | zero=>simp at hz;subst hz;exact⟨x,by simp,h.1⟩
  | succ i=>simpa using h2 i z (by simpa using hz)
 | [],_::_,h=>h.elim
 | _::_,[],h=>h.elim
theorem Sub.agg {l r:List HV} (h:jl l r):Sub (.agg l) (.agg r):=by
 intro M e w v hv
 obtain⟨h1,h2⟩:=h.get
 cases hv with
 | agg _ vs hl hh=>
  refine .agg _ vs (by omega) fun i y u hy hu=>?_
  obtain⟨x,h3,h4⟩:=h2 i y hy
  exact h4 _ _ _ _ (hh i x u h3 hu)
theorem zI.sub {P:Program} {f:FuncId} {PS:PL} {args args':List HV} {K:HV→PL→Prop} (hs:jl args' args) (h:zI P f args PS K):zI P f args' PS K:=by
 intro F e D w vs hr hf
 obtain⟨h1,h2⟩:=hs.get
 refine h F e D w vs hr ⟨by rw[←h1];exact hf.1,fun i y u hy hu=>?_⟩
 obtain⟨x,h3,h4⟩:=h2 i y hy
 exact h4 _ _ _ _ (hf.2 i x u h3 hu)
theorem zI.res {P:Program} {f:FuncId} {PS:PL} {args:List HV} {K K':HV→PL→Prop} (h:zI P f args PS K) (hk:∀x PS',K x PS'→∃y,Sub x y∧K' y PS'):zI P f args PS K':=by
 intro F e D w vs hr hf
 refine(h F e D w vs hr hf).mono ?_
 rintro en w' ⟨v,x,PS',e',D',rfl,hK,hr',ht,hx⟩
 obtain⟨y,h1,h2⟩:=hk _ _ hK
 exact⟨v,y,PS',e',D',rfl,h2,hr',ht,h1 _ _ _ _ hx⟩
theorem Sub.less (t:Bool) (E:List (List HV)):Sub (.imm t E) (.imm false E):=by
 intro M e w v hv
 cases hv with
 | imm _ _ a c b o sz val hc hm ht hn ha hb hsz h1c hcell zT=>exact .imm false E a c b o sz val hc hm (fun h=>by cases h) hn ha hb hsz h1c hcell zT
theorem Sub.tup {l r:List HV} (h:jl l r):Sub (.tup l) (.tup r):=by
 intro M e w v hv
 obtain⟨h1,h2⟩:=h.get
 cases hv with
 | tup _ vs hl hh=>
  refine .tup _ vs (by omega) fun i y u hy hu=>?_
  obtain⟨x,h3,h4⟩:=h2 i y hy
  exact h4 _ _ _ _ (hh i x u h3 hu)
theorem Sub.trans {x y z:HV} (h:Sub x y) (k:Sub y z):Sub x z:=fun M e w v hv=>k M e w v (h M e w v hv)
theorem Pure.res {P:Program} {f:FuncId} {args:List HV} {x y:HV} (h:Pure P f args x) (s:Sub x y):Pure P f args y:=fun PS=>zI.res (h PS) (by
 rintro _ _ ⟨rfl,rfl⟩
 exact⟨y,s,rfl,rfl⟩)
theorem Pure.sub {P:Program} {f:FuncId} {args args':List HV} {x:HV} (h:Pure P f args x) (s:jl args' args):Pure P f args' x:=fun PS=>zI.sub s (h PS)
end Go.Eng
