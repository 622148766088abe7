/-
Calls that are known on data, by tables: arguments (whatever their tags) and result.
The law RoomLevels, run: what the runs know of pivots, entries, messages, nodes by name.
No conditions.
-/
import Derived.Test.YtgglehcchdkbdaaGreatQWsA
import Derived.Test.YtgglehcchdkbdaaGreatQRunK
import Derived.Test.YtgglehcchdkbdaaGreatQRunQ1
set_option linter.unusedSectionVars false
set_option linter.unusedSimpArgs false
set_option linter.unusedVariables false
namespace Go.Eng
open Go
variable [Toks]
theorem Sub.lnam {t:Bool} {E:List (List HV)} {i:Nat} (h1:Toks.dt i=false) (h2:Toks.rows i=E):Sub (.imm t E) (.nam i):=(Sub.less t E).trans (Sub.nam h1 h2)
/-- The same,whatever the tags of the first one. -/
noncomputable def tEq:Nat→HV→HV→Bool
  | 0,_,_=>false
  | n+1,x,y=>match x,y with
    | .imm _ a,.imm false b=>lBeq (lBeq (vBeq n)) a b
    | .agg a,.agg b=>lBeq (tEq n) a b
    | x,y=>vBeq (n+1) x y
theorem lBeq_sub {f:HV→HV→Bool} (hf:∀x y,f x y=true→Sub x y):∀a b:List HV,lBeq f a b=true→SubL a b
  | [],[],_=>trivial
  | x::a,y::b,h=>by
    have h:(f x y&&lBeq f a b)=true:=h
    rw[Bool.and_eq_true] at h
    exact⟨hf _ _ h.1,lBeq_sub hf a b h.2⟩
  | [],_::_,h=>by cases h
  | _::_,[],h=>by cases h
theorem tEq_h:∀(n:Nat) (x y:HV),tEq n x y=true→Sub x y:=by
  intro n
  induction n with
  | zero=>intro x y h;cases h
  | succ n ih=>
    intro x y h
    unfold tEq at h
    split at h
    · rename_i t a b
      rw[lBeq_eq _ _ (fun a b=>lBeq_eq a b (vBeq_eq n)) h]
      exact Sub.less _ _
    · exact Sub.agg (lBeq_sub ih _ _ h)
    · rw[vBeq_eq _ _ _ h]
      exact Sub.refl _
/-- By a table. -/
noncomputable def spT (L:List (List HV×HV)):DSpec:=fun a=>
  List.rec (motive:=fun _=>Option HV) none (fun p _ ih=>bif lBeq (tEq 9) a p.1 then some p.2 else ih) L
theorem spT_ok {P:Program} {f:FuncId}:∀(L:List (List HV×HV)),(∀x∈L,Pure P f x.1 x.2)→SpecOk P f (spT L)
  | [],_,a,r,h=>by cases h
  | p::L,hL,a,r,h=>by
    have h:(bif lBeq (tEq 9) a p.1 then some p.2 else spT L a)=some r:=h
    rcases bif_some h with ⟨hb,h⟩ | ⟨_,h⟩
    · cases h
      exact Pure.sub (hL p (List.mem_cons_self ..)) (lBeq_sub (tEq_h 9) _ _ hb)
    · exact spT_ok L (fun x hx=>hL x (List.mem_cons_of_mem _ hx)) a r h
/-- A known call:the function,0:on data alone,1:touches nothing,2:eats its pieces;its table. -/
abbrev Known:=Nat×Nat×DSpec
noncomputable def oAny (k:Nat) (S:DSpec) (args:List HV) (m:Mem):Option (List RM):=bif Nat.beq k 0 then oDat S args m else bif Nat.beq k 1 then oBor S args m else oEat S args m
noncomputable def orcT (T:List Known) (o:EC):EC:=fun g args m=>
  List.rec (motive:=fun _=>Option (List RM)) (o g args m) (fun x _ ih=>bif Nat.beq g x.1 then aOr (oAny x.2.1 x.2.2 args m) (o g args m) else ih) T
theorem orcT_ok {P:Program} {o:EC} (ho:ECOk P o):∀(T:List Known),(∀x∈T,SpecOk P x.1 x.2.2)→ECOk P (orcT T o)
  | [],_=>ho
  | x::T,hT=>by
    intro g args m L h
    have h:(bif Nat.beq g x.1 then aOr (oAny x.2.1 x.2.2 args m) (o g args m) else orcT T o g args m)=some L:=h
    rcases bif_some h with ⟨hb,h⟩ | ⟨_,h⟩
    · have hS:=hT x (List.mem_cons_self ..)
      rw[beq_eq'.1 hb] at h ⊢
      rcases aOr_some h with h | h
      · unfold oAny at h
        rcases bif_some h with ⟨_,h⟩ | ⟨_,h⟩
        · exact oDat_h hS h
        · rcases bif_some h with ⟨_,h⟩ | ⟨_,h⟩
          · exact oBor_h hS h
          · exact oEat_h hS h
      · exact ho _ _ _ _ h
    · exact orcT_ok ho T (fun y hy=>hT y (List.mem_cons_of_mem _ hy)) g args m L h
end Go.Eng
namespace Go.Proofs.YtgglehcchdkbdaaGreat
open Go Go.Eng
set_option maxRecDepth 100000
noncomputable def iW (n:Nat):HV:=.int .i64 (.ofNat n)
noncomputable def r16W:List (List HV):=[[iW (nat_lit 16)]]
noncomputable def r4W:List (List HV):=[[iW (nat_lit 24)],[iW (nat_lit 16)],[iW (nat_lit 8)],[iW (nat_lit 32)]]
noncomputable def oW:HV:=.int .u8 (.ofNat (nat_lit 0))
/-- A key of one byte. -/
noncomputable def k1W (b:Nat):List HV:=[iW (nat_lit 1),.int .u8 (.ofNat b),oW,oW,oW,oW,oW,oW,oW]
noncomputable def pv3W:List (List HV):=[k1W (nat_lit 98),k1W (nat_lit 99),k1W (nat_lit 100)]
noncomputable def pv1W (b:Nat):List (List HV):=[k1W b]
noncomputable def kidsW (a b:Nat):List (List HV):=[[iW a],[iW b]]
noncomputable def kids4W:List (List HV):=[[iW (nat_lit 1)],[iW (nat_lit 2)],[iW (nat_lit 3)],[iW (nat_lit 4)]]
noncomputable def keyW:List HV:=[.tok .i64 (nat_lit 52),.tok .u8 (nat_lit 53),.tok .u8 (nat_lit 54),.tok .u8 (nat_lit 55),.tok .u8 (nat_lit 56),.tok .u8 (nat_lit 57),.tok .u8 (nat_lit 58),.tok .u8 (nat_lit 59),.tok .u8 (nat_lit 60)]
noncomputable def nilW:HV:=.imm false []
noncomputable def leafW (i:Nat):HV:=.agg [.bool true,.nam i,nilW,nilW,nilW]
noncomputable def inW (K P:List (List HV)) (M:HV):HV:=.agg [.bool false,nilW,.imm false K,.imm false P,M]
noncomputable def topW:HV:=inW kids4W pv3W (.nam (nat_lit 8))
noncomputable def noneW:HV:=.agg [.bool true,nilW,nilW,nilW,nilW]
noncomputable def bW (n:Nat):List HV:=[.int .u8 (.ofNat n)]
noncomputable def zeros (n:Nat) (l:List (List HV)):List (List HV):=Nat.rec (motive:=fun _=>List (List HV)) l (fun _ ih=>[oW]::ih) n
/-- The bytes of the leaf that has nothing. -/
noncomputable def zW:List (List HV):=bW (nat_lit 1)::[oW]::[oW]::[oW]::bW (nat_lit 147)::bW (nat_lit 244)::bW (nat_lit 165)::bW (nat_lit 195)::zeros (nat_lit 248) []
section
abbrev Tab:=List (List HV×HV)
noncomputable def tPiv:Tab:=[([.nam (nat_lit 3),iW (nat_lit 3)],.imm false pv3W),([.imm false ([iW (nat_lit 16)]::r4W),iW (nat_lit 3)],.imm false pv3W),([.imm false r16W,iW (nat_lit 3)],.imm false (pv1W (nat_lit 99)))]
noncomputable def tHvy:Tab:=[([.nam (nat_lit 4)],.nam (nat_lit 5))]
noncomputable def tMsg:Tab:=[([.nam (nat_lit 5),iW (nat_lit 205)],.nam (nat_lit 8)),([nilW,iW (nat_lit 205)],nilW)]
noncomputable def tEnt:Tab:=[([.nam (nat_lit 6),iW (nat_lit 700)],.nam (nat_lit 7))]
noncomputable def tHld:Tab:=[([.nam (nat_lit 7),.imm false pv3W,iW (nat_lit 0)],.nam (nat_lit 10)),([.nam (nat_lit 7),.imm false pv3W,iW (nat_lit 1)],.nam (nat_lit 11)),([.nam (nat_lit 7),.imm false pv3W,iW (nat_lit 2)],.nam (nat_lit 12)),([.nam (nat_lit 7),.imm false pv3W,iW (nat_lit 3)],.nam (nat_lit 13))]
noncomputable def tFit:Tab:=[([.nam (nat_lit 10)],.nam (nat_lit 20)),([.nam (nat_lit 11)],.nam (nat_lit 21)),([.nam (nat_lit 12)],.nam (nat_lit 22)),([.nam (nat_lit 13)],.nam (nat_lit 23))]
noncomputable def xW:HV:=inW (kidsW (nat_lit 1) (nat_lit 2)) (pv1W (nat_lit 98)) (.nam (nat_lit 36))
noncomputable def yW:HV:=inW (kidsW (nat_lit 3) (nat_lit 4)) (pv1W (nat_lit 100)) (.nam (nat_lit 37))
noncomputable def newW:HV:=inW (kidsW (nat_lit 5) (nat_lit 6)) (pv1W (nat_lit 99)) nilW
noncomputable def tFts:Tab:=[([leafW (nat_lit 20)],.bool true),([leafW (nat_lit 21)],.bool true),([leafW (nat_lit 22)],.bool true),([leafW (nat_lit 23)],.bool true),([topW],.bool true),([xW],.bool true),([yW],.bool true),([newW],.bool true)]
noncomputable def tEnc:Tab:=[([noneW],.tup [.imm false zW,iW (nat_lit 0)])]
noncomputable def tDec:Tab:=[([.imm false zW],.tup [noneW,iW (nat_lit 0)])]
noncomputable def tKey:Tab:=[([.tok .i64 (nat_lit 40)],.agg keyW)]
noncomputable def tKid (j a b c:Nat):Tab:=[([.imm false pv3W,.agg keyW],iW j),([.imm false (pv1W (nat_lit 99)),.agg keyW],iW a),([.imm false (pv1W (nat_lit 98)),.agg keyW],iW b),([.imm false (pv1W (nat_lit 100)),.agg keyW],iW c)]
noncomputable def tHst:Tab:=[([topW],.any .i64 1 0)]
noncomputable def tPrt:Tab:=[([.nam (nat_lit 8),.imm false (pv1W (nat_lit 99)),iW (nat_lit 0)],.nam (nat_lit 36)),([.nam (nat_lit 8),.imm false (pv1W (nat_lit 99)),iW (nat_lit 1)],.nam (nat_lit 37))]
noncomputable def tClE:Tab:=[([.nam (nat_lit 20)],.nam (nat_lit 20)),([.nam (nat_lit 21)],.nam (nat_lit 21)),([.nam (nat_lit 22)],.nam (nat_lit 22)),([.nam (nat_lit 23)],.nam (nat_lit 23))]
noncomputable def tClM:Tab:=[([.nam (nat_lit 8)],.nam (nat_lit 8)),([.nam (nat_lit 36)],.nam (nat_lit 36)),([.nam (nat_lit 37)],.nam (nat_lit 37))]
noncomputable def tAwk:Tab:=[([],.bool true)]
/-- All that is known;where the key goes. -/
noncomputable def tabRl (j a b c:Nat):List (Nat×Nat×Tab):=[
  (131,nat_lit 0,tClE),(134,nat_lit 0,tClM),(83,nat_lit 1,tFts),(88,nat_lit 1,tFts),
  (86,nat_lit 2,tEnc),(73,nat_lit 2,tDec),(45,nat_lit 2,tEnc),(122,nat_lit 2,tDec),
  (93,nat_lit 2,tPiv),(5,nat_lit 0,tHvy),(94,nat_lit 2,tMsg),(49,nat_lit 0,tEnt),
  (50,nat_lit 0,tHld),(52,nat_lit 0,tFit),(7,nat_lit 0,tKey),(11,nat_lit 1,tKid j a b c),(152,nat_lit 1,tHst),(254,nat_lit 0,tPrt),(12,nat_lit 0,tAwk)]
end
/-- What the runs ask for. -/
def RlOk [Toks] (j a b c:Nat):Prop:=∀x∈tabRl j a b c,∀y∈x.2.2,Pure Tryz.prog x.1 y.1 y.2
noncomputable def knRl [Toks] (j a b c:Nat):List Known:=(tabRl j a b c).map fun x=>(x.1,x.2.1,spT x.2.2)
noncomputable def orcRl [Toks] (j a b c:Nat):EC:=orcE (orcT (knRl j a b c) orcS)
theorem orcRl_ok [Toks] {j a b c:Nat} (h:RlOk j a b c):ECOk Tryz.prog (orcRl j a b c):=orcE_ok (orcT_ok orcS_ok _ fun x hx=>by
  obtain⟨y,hy,rfl⟩:=List.mem_map.1 hx
  exact spT_ok _ (h y hy))
/-- What is known of the rows by name. -/
structure RlIn (R:Nat→List (List HV)):Prop where
  r2:R 2=r4W++R 1
  r3:R 3=r16W++R 2
  n1:R 1≠[]
  s1:∀r∈R 1,r.length=1
  l1:(R 1).length≤17592186044400
  fl:∀i,Flat (.imm false (R i))
noncomputable def rwsEq (a b:List (List HV)):Bool:=lBeq (lBeq (vBeq 9)) a b
theorem rwsEq_eq [Toks] {a b:List (List HV)} (h:rwsEq a b=true):a=b:=lBeq_eq _ _ (fun a b=>lBeq_eq a b (vBeq_eq 9)) h
noncomputable abbrev rlT (R:Nat→List (List HV)) (N:Nat→Int) (h:RlIn R):Toks where
  num i:=N i
  str _:=[]
  lo i:=N i
  hi i:=N i
  plus _ _:=none
  sum _ _:=none
  conv _ _:=none
  slen _:=none
  ord _ _:=none
  rem _ _:=none
  dt _:=false
  rows i:=R i
  rlen _:=none
  cat E i:=bif rwsEq E r4W&&Nat.beq i 1 then some 2 else bif rwsEq E r16W&&Nat.beq i 2 then some 3 else none
  rng _:=⟨Int.le_refl _,Int.le_refl _⟩
  plus_ok _ _ _ h:=by cases h
  sum_ok _ _ _ h:=by cases h
  conv_ok _ _ _ h:=by cases h
  slen_ok _ _ h:=by cases h
  ord_ok _ _ _ h:=by cases h
  rem_ok _ _ _ h:=by cases h
  flat i:=h.fl i
  rlen_ok i j hj:=by cases hj
  cat_ok E i j hj:=by
    letI:Toks:=Toks.of (fun _=>0) (fun _=>[])
    have h1:=h.l1
    have s2:∀r∈R 2,r.length=1:=fun r hr=>by
      rw[h.r2] at hr
      rcases List.mem_append.1 hr with hr | hr
      · simp only[r4W,List.mem_cons,List.not_mem_nil,or_false] at hr
        rcases hr with rfl | rfl | rfl | rfl<;>rfl
      · exact h.s1 r hr
    cases hb:(rwsEq E r4W&&Nat.beq i 1)
    · rw[hb] at hj
      cases hb:(rwsEq E r16W&&Nat.beq i 2)
      · rw[hb] at hj;cases hj
      · rw[hb] at hj
        cases hj
        rw[Bool.and_eq_true] at hb
        obtain rfl:=Nat.eq_of_beq_eq_true hb.2
        have e:E=r16W:=rwsEq_eq hb.1
        subst e
        refine⟨rfl,h.r3,by rw[h.r2];simp[r4W],s2,?_⟩
        rw[List.length_append,h.r2,List.length_append]
        show 1+(4+(R 1).length)≤_
        omega
    · rw[hb] at hj
      cases hj
      rw[Bool.and_eq_true] at hb
      obtain rfl:=Nat.eq_of_beq_eq_true hb.2
      have e:E=r4W:=rwsEq_eq hb.1
      subst e
      refine⟨rfl,h.r2,h.n1,h.s1,?_⟩
      rw[List.length_append]
      show 4+(R 1).length≤_
      omega
section
variable [Toks]
theorem trueWs {ec:EC} (hec:ECOk Tryz.prog ec) {g:FuncId} {args:List HV} {d fuel:Nat} (h:allTrue (acall Tryz.prog ec ecov epl fuel d g args ⟨.emp,0⟩)=true):HCall Tryz.prog g args [] fun r _=>r=.bool true:=by
  cases hc:acall Tryz.prog ec ecov epl fuel d g args ⟨.emp,0⟩ with
  | none=>rw[hc] at h;cases h
  | some L=>
    rw[hc] at h
    have h:rAll isTrue L=true:=h
    rw[rAll_eq] at h
    refine(acall_h mixed' hec covers d g args ⟨.emp,0⟩ L hc).mono ?_
    rintro r PS ⟨x,hx,rfl,rfl⟩
    have:=List.all_eq_true.1 h x hx
    obtain⟨v,m⟩:=x
    unfold isTrue at this
    split at this
    · rename_i b m heq;cases heq;rw[this]
    · cases this
end
end Go.Proofs.YtgglehcchdkbdaaGreat
