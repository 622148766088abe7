/-
Calls that are known on data, by tables: arguments (whatever their tags) and result.
A run cut in two: what a call comes to, told as a memory of few pieces; the rest goes on from there.
Runs that know tables of calls on data.
No conditions.
-/
import Derived.Test.YtajjhaidpagflaaGreatQWsA
import Derived.Test.YtajjhaidpagflaaGreatQRunK
import Derived.Test.YtajjhaidpagflaaGreatQTbA
set_option linter.unusedSectionVars false
set_option linter.unusedSimpArgs false
set_option linter.unusedVariables false
namespace Go.Eng
open Go
variable [Toks]
theorem Sub.lnam {t:Bool} {E:List (List HV)} {i:Nat} (h1:Toks.dt i=false) (h2:Toks.rows i=E):Sub (.imm t E) (.nam i):=(Sub.less t E).trans (Sub.nam h1 h2)
/-- The same,whatever the tags of the first one. -/
noncomputable def tEq:Nat→HV→HV→Bool
  | 0,_,_=>false
  | n+1,x,y=>match x,y with
    | .imm _ a,.imm false b=>lBeq (lBeq (vBeq n)) a b
    | .agg a,.agg b=>lBeq (tEq n) a b
    | x,y=>vBeq (n+1) x y
theorem lBeq_sub {f:HV→HV→Bool} (hf:∀x y,f x y=true→Sub x y):∀a b:List HV,lBeq f a b=true→SubL a b
  | [],[],_=>trivial
  | x::a,y::b,h=>by
    have h:(f x y&&lBeq f a b)=true:=h
    rw[Bool.and_eq_true] at h
    exact⟨hf _ _ h.1,lBeq_sub hf a b h.2⟩
  | [],_::_,h=>by cases h
  | _::_,[],h=>by cases h
theorem tEq_h:∀(n:Nat) (x y:HV),tEq n x y=true→Sub x y:=by
  intro n
  induction n with
  | zero=>intro x y h;cases h
  | succ n ih=>
    intro x y h
    unfold tEq at h
    split at h
    · rename_i t a b
      rw[lBeq_eq _ _ (fun a b=>lBeq_eq a b (vBeq_eq n)) h]
      exact Sub.less _ _
    · exact Sub.agg (lBeq_sub ih _ _ h)
    · rw[vBeq_eq _ _ _ h]
      exact Sub.refl _
/-- By a table. -/
noncomputable def spT (L:List (List HV×HV)):DSpec:=fun a=>
  List.rec (motive:=fun _=>Option HV) none (fun p _ ih=>bif lBeq (tEq 9) a p.1 then some p.2 else ih) L
theorem spT_ok {P:Program} {f:FuncId}:∀(L:List (List HV×HV)),(∀x∈L,Pure P f x.1 x.2)→SpecOk P f (spT L)
  | [],_,a,r,h=>by cases h
  | p::L,hL,a,r,h=>by
    have h:(bif lBeq (tEq 9) a p.1 then some p.2 else spT L a)=some r:=h
    rcases bif_some h with ⟨hb,h⟩ | ⟨_,h⟩
    · cases h
      exact Pure.sub (hL p (List.mem_cons_self ..)) (lBeq_sub (tEq_h 9) _ _ hb)
    · exact spT_ok L (fun x hx=>hL x (List.mem_cons_of_mem _ hx)) a r h
/-- A known call:the function,0:on data alone,1:touches nothing,2:eats its pieces;its table. -/
abbrev Known:=Nat×Nat×DSpec
noncomputable def oAny (k:Nat) (S:DSpec) (args:List HV) (m:Mem):Option (List RM):=bif Nat.beq k 0 then oDat S args m else bif Nat.beq k 1 then oBor S args m else oEat S args m
noncomputable def orcT (T:List Known) (o:EC):EC:=fun g args m=>
  List.rec (motive:=fun _=>Option (List RM)) (o g args m) (fun x _ ih=>bif Nat.beq g x.1 then aOr (oAny x.2.1 x.2.2 args m) (o g args m) else ih) T
theorem orcT_ok {P:Program} {o:EC} (ho:ECOk P o):∀(T:List Known),(∀x∈T,SpecOk P x.1 x.2.2)→ECOk P (orcT T o)
  | [],_=>ho
  | x::T,hT=>by
    intro g args m L h
    have h:(bif Nat.beq g x.1 then aOr (oAny x.2.1 x.2.2 args m) (o g args m) else orcT T o g args m)=some L:=h
    rcases bif_some h with ⟨hb,h⟩ | ⟨_,h⟩
    · have hS:=hT x (List.mem_cons_self ..)
      rw[beq_eq'.1 hb] at h ⊢
      rcases aOr_some h with h | h
      · unfold oAny at h
        rcases bif_some h with ⟨_,h⟩ | ⟨_,h⟩
        · exact oDat_h hS h
        · rcases bif_some h with ⟨_,h⟩ | ⟨_,h⟩
          · exact oBor_h hS h
          · exact oEat_h hS h
      · exact ho _ _ _ _ h
    · exact orcT_ok ho T (fun y hy=>hT y (List.mem_cons_of_mem _ hy)) g args m L h
end Go.Eng
namespace Go.Eng
open Go
variable [Toks]
/-- Pieces that nobody needs any more. -/
def Kill (A B:PL):Prop:=A.length=B.length∧∀i:Nat,B[i]? =A[i]? ∨(B[i]? =some Piece.dead∧∃ver sz E opn,A[i]? =some (Piece.arr ver sz E opn))
theorem Rel.gone {F:Nat→Prop} {e:List Pos} {w:World} {A B:PL} (hk:Kill A B) {D:Nat→Nat→Prop} (hr:Rel F e D A w):
    ∃D2,Rel F e D2 B w∧Tr e D w e D2 w∧∀x u,VRel (Mut F D) e w x u→VRel (Mut F D2) e w x u:=by
  obtain⟨hl,hk⟩:=hk
  have go:∀k,k≤A.length→∃D2,Rel F e D2 (B.take k++A.drop k) w∧Tr e D w e D2 w∧∀x u,VRel (Mut F D) e w x u→VRel (Mut F D2) e w x u:=by
    intro k
    induction k with
    | zero=>exact fun _=>⟨D,by simpa using hr,.refl e D w,fun _ _ h=>h⟩
    | succ k ih=>
      intro hlt
      obtain⟨D2,h1,h2,h3⟩:=ih (by omega)
      have hkA:A[k]? =some A[k]:=by simp
      have hkB:B[k]? =some (B[k]'(by omega)):=by simp
      have hmid:A.drop k=A[k]::A.drop (k+1):=(List.drop_eq_getElem_cons hlt)
      have htk:B.take (k+1)=B.take k++[B[k]'(by omega)]:=List.take_succ_eq_append_getElem (by omega)
      have hlen:(B.take k).length=k:=by rw[List.length_take];omega
      rcases hk k with h | ⟨h,ver,sz,E,opn,ha⟩
      · rw[hkA,hkB] at h
        have hba:=Option.some.inj h
        refine⟨D2,?_,h2,h3⟩
        rw[htk,List.append_assoc,List.singleton_append,hba,←hmid]
        exact h1
      · have hg:getP (B.take k++A.drop k) k=.arr ver sz E opn:=by
          rw[hmid]
          rw[hkA] at ha
          have ha:=Option.some.inj ha
          unfold getP
          rw[List.getD,List.getElem?_append_right (by omega),hlen,Nat.sub_self,List.getElem?_cons_zero,ha];rfl
        obtain⟨D3,g1,g2,g3⟩:=h1.frz hg (FrzPS.only (getP_lt hg))
        refine⟨D3,?_,h2.trans g2,fun x u hx=>g3 _ _ _ (.same x) (h3 x u hx)⟩
        rw[hkB] at h
        have hb:B[k]'(by omega)=.dead:=Option.some.inj h
        have e1:(B.take k++A.drop k).set k Piece.dead=B.take k++(Piece.dead::A.drop (k+1)):=by
          rw[hmid,List.set_append_right _ _ (by omega),hlen,Nat.sub_self,List.set_cons_zero]
        rw[e1] at g1
        rw[htk,hb,List.append_assoc,List.singleton_append]
        exact g1
  have:=go A.length (Nat.le_refl _)
  rwa [List.drop_length,List.append_nil,List.take_of_length_le (by omega)] at this
theorem HCall.killed {P:Program} {f:FuncId} {args:List HV} {PS A B:PL} {v:HV} (hk:Kill A B) (h:HCall P f args PS fun r PS'=>r=v∧PS'=A):HCall P f args PS fun r PS'=>r=v∧PS'=B:=by
  intro F e D w vs hr hf
  refine(h F e D w vs hr hf).mono ?_
  rintro en w' ⟨u,x,PS',e',D',rfl,⟨h1,rfl⟩,hr',ht,hv⟩
  obtain⟨D2,g1,g2,g3⟩:=hr'.gone hk
  exact⟨u,x,B,e',D2,rfl,⟨h1,rfl⟩,g1,ht.trans g2,g3 _ _ hv⟩
theorem HCall.from {P:Program} {f:FuncId} {args:List HV} {A B:PL} {K:HV→PL→Prop} (hk:Kill A B) (h:HCall P f args B K):HCall P f args A K:=by
  intro F e D w vs hr hf
  obtain⟨D2,g1,g2,g3⟩:=hr.gone hk
  refine(h F e D2 w vs g1 ⟨hf.1,fun i x u hi hu=>g3 _ _ (hf.2 i x u hi hu)⟩).mono ?_
  rintro en w' ⟨u,x,PS',e',D',rfl,hK,hr',ht,hv⟩
  exact⟨u,x,PS',e',D',rfl,hK,hr',g2.trans ht,hv⟩
abbrev Ents2:=List (Nat×Piece)
noncomputable def memK {α:Type} (E:Ents2):BT Piece→(BT Piece→α)→α:=
  List.rec (motive:=fun _=>BT Piece→(BT Piece→α)→α) (fun t K=>K t) (fun x _ ih t K=>BT.set .dead 17 t x.1 x.2 fun t=>ih t K) E
theorem memK_eq {α:Type}:∀(E:Ents2) (t:BT Piece) (K:BT Piece→α),memK E t K=K (memK E t id)
  | [],_,_=>rfl
  | x::E,t,K=>by
    show BT.set .dead 17 t x.1 x.2 (fun t=>memK E t K)=K (BT.set .dead 17 t x.1 x.2 fun t=>memK E t id)
    rw[BT.set_K,BT.set_K _ _ t x.1 x.2 fun t=>memK E t id]
    exact memK_eq E _ K
/-- A memory by its pieces. -/
noncomputable def litM (n:Nat) (E:Ents2):Mem:=⟨memK E .emp id,n⟩
noncomputable def kP (p q:Piece):Bool:=
  match q with
  | .dead=>(match p with
    | .arr _ _ _ _=>true
    | .dead=>true
    | _=>false)
  | q=>pBeq p q
noncomputable def kLe (m:Mem) (n:Nat) (t:BT Piece):Bool:=Nat.beq m.n n&&Nat.rec (motive:=fun _=>Bool) true (fun i ih=>kP (m.get i) (BT.get .dead t i)&&ih) n
theorem kLe_h {m:Mem} {n:Nat} {t:BT Piece} (h:kLe m n t=true):Kill m.pl (⟨t,n⟩:Mem).pl:=by
  unfold kLe at h
  rw[Bool.and_eq_true,beq_eq'] at h
  obtain⟨h1,h2⟩:=h
  have all:∀k,Nat.rec (motive:=fun _=>Bool) true (fun i ih=>kP (m.get i) (BT.get .dead t i)&&ih) k=true→∀i,i<k→kP (m.get i) (BT.get .dead t i)=true:=by
    intro k
    induction k with
    | zero=>intro _ i hi;omega
    | succ k ih=>
      intro h i hi
      have h:(kP (m.get k) (BT.get .dead t k)&&Nat.rec (motive:=fun _=>Bool) true (fun i ih=>kP (m.get i) (BT.get .dead t i)&&ih) k)=true:=h
      rw[Bool.and_eq_true] at h
      by_cases hik:i=k
      · subst hik;exact h.1
      · exact ih h.2 i (by omega)
  have hall:=all n h2
  refine⟨by rw[Mem.len,Mem.len];exact h1,fun i=>?_⟩
  by_cases hi:i<n
  · have e1:m.pl[i]? =some (m.get i):=by
      have hl:i<m.pl.length:=by rw[Mem.len];omega
      rw[←Mem.get_eq,getP,List.getD,List.getElem?_eq_getElem hl];rfl
    have e2:(⟨t,n⟩:Mem).pl[i]? =some (BT.get .dead t i):=by
      simp[Mem.pl,BT.list,hi]
    rw[e1,e2]
    have h3:=hall i hi
    unfold kP at h3
    split at h3
    · rename_i hd
      rw[hd]
      split at h3
      · rename_i ver sz E opn hp
        rw[hp]
        exact .inr ⟨rfl,_,_,_,_,rfl⟩
      · rename_i hp;rw[hp];exact .inl rfl
      · cases h3
    · rw[pBeq_eq _ _ h3];exact .inl rfl
  · left
    rw[List.getElem?_eq_none (by rw[Mem.len];show n≤i;omega),List.getElem?_eq_none (by rw[Mem.len];omega)]
/-- A run comes to a value and a memory. -/
noncomputable def cutOk (v:HV) (n:Nat) (E:Ents2) (o:Option (List RM)):Bool:=
  memK E .emp fun t=>match o with
  | some [(r,m)]=>vBeq 9 r v&&kLe m n t
  | _=>false
/-- What a call comes to. -/
def CutR (P:Program) (g:FuncId) (args:List HV) (n0:Nat) (E0:Ents2) (v:HV) (n:Nat) (E:Ents2):Prop:=HCall P g args (litM n0 E0).pl fun r PS=>r=v∧PS=(litM n E).pl
theorem cut_run {P:Program} {ec:EC} {cov:FuncId→Bool} {pl:FuncId→Nat→Plan} {fuel d:Nat} (hm:P.follows .mixedOrders=true) (hec:ECOk P ec) (hc:Covers P cov pl) {g:FuncId} {args:List HV} {n0:Nat} {E0:Ents2} {v:HV} {n:Nat} {E:Ents2}
    (h:(memK E0 .emp fun t0=>cutOk v n E (acall P ec cov pl fuel d g args ⟨t0,n0⟩))=true):CutR P g args n0 E0 v n E:=by
  rw[memK_eq] at h
  unfold cutOk at h
  rw[memK_eq] at h
  split at h
  · rename_i r m hr
    rw[Bool.and_eq_true] at h
    have hv:=vBeq_eq _ _ _ h.1
    subst hv
    refine HCall.killed (kLe_h h.2) ((acall_h hm hec hc d g args _ _ hr).mono ?_)
    rintro x PS ⟨y,hy,rfl,rfl⟩
    rw[List.mem_singleton] at hy
    subst hy
    exact⟨rfl,rfl⟩
  · cases h
/-- Such a call is known. -/
noncomputable def orcC (g0:FuncId) (pat:List HV) (n0:Nat) (E0:Ents2) (v:HV) (n:Nat) (E:Ents2) (o:EC):EC:=fun g args m=>
  bif Nat.beq g g0 then (bif lBeq (tEq 9) args pat&&(memK E0 .emp fun t0=>kLe m n0 t0) then (memK E .emp fun t=>some [(v,⟨t,n⟩)]) else o g args m) else o g args m
theorem orcC_ok {P:Program} {o:EC} (ho:ECOk P o) {g0:FuncId} {pat:List HV} {n0:Nat} {E0:Ents2} {v:HV} {n:Nat} {E:Ents2} (h:CutR P g0 pat n0 E0 v n E):ECOk P (orcC g0 pat n0 E0 v n E o):=by
  intro g args m L hL
  unfold orcC at hL
  rcases bif_some hL with ⟨hg,hL⟩ | ⟨_,hL⟩
  · rcases bif_some hL with ⟨hb,hL⟩ | ⟨_,hL⟩
    · rw[Bool.and_eq_true] at hb
      rw[beq_eq'.1 hg]
      have hb2:=hb.2
      rw[memK_eq] at hb2
      rw[memK_eq] at hL
      cases hL
      refine(HCall.from (kLe_h hb2) (HCall.sub (lBeq_sub (tEq_h 9) _ _ hb.1) h)).mono ?_
      rintro r PS ⟨rfl,rfl⟩
      exact⟨_,List.mem_singleton.2 rfl,rfl,rfl⟩
    · exact ho _ _ _ _ hL
  · exact ho _ _ _ _ hL
end Go.Eng
namespace Go.Proofs.YtajjhaidpagflaaGreat
open Go Go.Eng
set_option maxRecDepth 100000
noncomputable def rwsEq (a b:List (List HV)):Bool:=lBeq (lBeq (vBeq 9)) a b
theorem rwsEq_eq [Toks] {a b:List (List HV)} (h:rwsEq a b=true):a=b:=lBeq_eq _ _ (fun a b=>lBeq_eq a b (vBeq_eq 9)) h
section
variable [Toks]
/-- What is asked for. -/
def TabOk (T:List (Nat×Nat×Tab)):Prop:=∀x∈T,∀y∈x.2.2,Pure Tryz.prog x.1 y.1 y.2
noncomputable def knOf (T:List (Nat×Nat×Tab)):List Known:=T.map fun x=>(x.1,x.2.1,spT x.2.2)
noncomputable def orcK (T:List (Nat×Nat×Tab)):EC:=orcE (orcT (knOf T) orcS)
theorem orcK_ok {T:List (Nat×Nat×Tab)} (h:TabOk T):ECOk Tryz.prog (orcK T):=orcE_ok (orcT_ok orcS_ok _ fun x hx=>by
  obtain⟨y,hy,rfl⟩:=List.mem_map.1 hx
  exact spT_ok _ (h y hy))
theorem trueWs {ec:EC} (hec:ECOk Tryz.prog ec) {g:FuncId} {args:List HV} {d fuel:Nat} (h:allTrue (acall Tryz.prog ec ecov epl fuel d g args ⟨.emp,0⟩)=true):HCall Tryz.prog g args [] fun r _=>r=.bool true:=by
  cases hc:acall Tryz.prog ec ecov epl fuel d g args ⟨.emp,0⟩ with
  | none=>rw[hc] at h;cases h
  | some L=>
    rw[hc] at h
    have h:rAll isTrue L=true:=h
    rw[rAll_eq] at h
    refine(acall_h mixed' hec covers d g args ⟨.emp,0⟩ L hc).mono ?_
    rintro r PS ⟨x,hx,rfl,rfl⟩
    have:=List.all_eq_true.1 h x hx
    obtain⟨v,m⟩:=x
    unfold isTrue at this
    split at this
    · rename_i b m heq;cases heq;rw[this]
    · cases this
end
end Go.Proofs.YtajjhaidpagflaaGreat
