/-
Calls that are known on data, by tables: arguments (whatever their tags) and result.
No conditions.
-/
import Derived.Test.YtbmibhjjogobhaaGreatQWsA
import Derived.Test.YtbmibhjjogobhaaGreatQRunK
import Derived.Test.YtbmibhjjogobhaaGreatQTbA
set_option linter.unusedSectionVars false
set_option linter.unusedSimpArgs false
set_option linter.unusedVariables false
noncomputable section
namespace Go.Eng
open Go
variable [zB]
theorem Sub.zRO {t:Bool} {E:List (List HV)} {i:Nat} (h1:zB.dt i=false) (h2:zB.rows i=E):Sub (.imm t E) (.nam i):=(Sub.less t E).trans (Sub.nam h1 h2)
/-- The same,whatever the tags of the first one. -/
def tEq:Nat→HV→HV→Bool
 | 0,_,_=>false
 | n+1,x,y=>match x,y with
  | .imm _ a,.imm false b=>yJ (yJ (qp n)) a b
  | .agg a,.agg b=>yJ (tEq n) a b
  | x,y=>qp (n+1) x y
theorem Wf {f:HV→HV→Bool} (hf:∀x y,f x y=true→Sub x y):∀a b:List HV,yJ f a b=true→jl a b
 | [],[],_=>trivial
 | x::a,y::b,h=>by
  have h:(f x y&&yJ f a b)=true:=h
  rw[Bool.and_eq_true] at h
  exact⟨hf _ _ h.1,Wf hf a b h.2⟩
 | [],_::_,h=>by cases h
 | _::_,[],h=>by cases h
theorem zFO:∀(n:Nat) (x y:HV),tEq n x y=true→Sub x y:=by
 intro n
 induction n with
 | zero=>intro x y h;cases h
 | succ n ih=>
  intro x y h
  unfold tEq at h
  split at h
  ·rename_i t a b
   rw[ql _ _ (fun a b=>ql a b (ur n)) h]
   exact Sub.less _ _
  ·exact Sub.agg (Wf ih _ _ h)
  ·rw[ur _ _ _ h]
   exact Sub.refl _
/-- By a table. -/
def spT (L:List (List HV×HV)):kO:=fun a=>
 List.rec (motive:=fun _=>Option HV) none (fun p _ ih=>bif yJ (tEq 9) a p.1 then some p.2 else ih) L
theorem zC9 {P:Program} {f:FuncId}:∀(L:List (List HV×HV)),(∀x∈L,Pure P f x.1 x.2)→yg P f (spT L)
 | [],_,a,r,h=>by cases h
 | p::L,hL,a,r,h=>by
  have h:(bif yJ (tEq 9) a p.1 then some p.2 else spT L a)=some r:=h
  rcases kp h with ⟨hb,h⟩ | ⟨_,h⟩
  ·cases h
   exact Pure.sub (hL p (List.mem_cons_self ..)) (Wf (zFO 9) _ _ hb)
  ·exact zC9 L (fun x hx=>hL x (List.mem_cons_of_mem _ hx)) a r h
/-- A known call:the function,0:on data alone,1:touches nothing,2:eats its pieces;its table. -/
abbrev zAN:=Nat×Nat×kO
def JJ (k:Nat) (S:kO) (args:List HV) (m:Mem):Option (List RM):=bif Nat.beq k 0 then zAB S args m else bif Nat.beq k 1 then JZ S args m else Qf S args m
def JG (T:List zAN) (o:EC):EC:=fun g args m=>
 List.rec (motive:=fun _=>Option (List RM)) (o g args m) (fun x _ ih=>bif Nat.beq g x.1 then aOr (JJ x.2.1 x.2.2 args m) (o g args m) else ih) T
theorem zBC {P:Program} {o:EC} (ho:qe P o):∀(T:List zAN),(∀x∈T,yg P x.1 x.2.2)→qe P (JG T o)
 | [],_=>ho
 | x::T,hT=>by
  intro g args m L h
  have h:(bif Nat.beq g x.1 then aOr (JJ x.2.1 x.2.2 args m) (o g args m) else JG T o g args m)=some L:=h
  rcases kp h with ⟨hb,h⟩ | ⟨_,h⟩
  ·have hS:=hT x (List.mem_cons_self ..)
   rw[zX.1 hb] at h ⊢
   rcases zH6 h with h | h
   ·unfold JJ at h
    rcases kp h with ⟨_,h⟩ | ⟨_,h⟩
    ·exact zMA hS h
    ·rcases kp h with ⟨_,h⟩ | ⟨_,h⟩
     ·exact zNQ hS h
     ·exact zLz hS h
   ·exact ho _ _ _ _ h
  ·exact zBC ho T (fun y hy=>hT y (List.mem_cons_of_mem _ hy)) g args m L h
end Go.Eng
namespace Go.Eng
open Go
variable [zB]
/-- Pieces that nobody needs any more. -/
def Vy (A B:PL):Prop:=A.length=B.length∧∀i:Nat,B[i]? =A[i]? ∨(B[i]? =some zC.dead∧∃ver sz E opn,A[i]? =some (zC.arr ver sz E opn))
theorem Rel.gone {F:Nat→Prop} {e:List Pos} {w:World} {A B:PL} (hk:Vy A B) {D:Nat→Nat→Prop} (hr:Rel F e D A w):
  ∃D2,Rel F e D2 B w∧Tr e D w e D2 w∧∀x u,zH (Mut F D) e w x u→zH (Mut F D2) e w x u:=by
 obtain⟨hl,hk⟩:=hk
 have go:∀k,k≤A.length→∃D2,Rel F e D2 (B.take k++A.drop k) w∧Tr e D w e D2 w∧∀x u,zH (Mut F D) e w x u→zH (Mut F D2) e w x u:=by
  intro k
  induction k with
  | zero=>exact fun _=>⟨D,by simpa using hr,.refl e D w,fun _ _ h=>h⟩
  | succ k ih=>
   intro hlt
   obtain⟨D2,h1,h2,h3⟩:=ih (by omega)
   have hkA:A[k]? =some A[k]:=by simp
   have hkB:B[k]? =some (B[k]'(by omega)):=by simp
   have hmid:A.drop k=A[k]::A.drop (k+1):=(List.drop_eq_getElem_cons hlt)
   have htk:B.take (k+1)=B.take k++[B[k]'(by omega)]:=List.take_succ_eq_append_getElem (by omega)
   have hlen:(B.take k).length=k:=by rw[List.length_take];omega
   rcases hk k with h | ⟨h,ver,sz,E,opn,ha⟩
   ·rw[hkA,hkB] at h
    have hba:=Option.some.inj h
    refine⟨D2,?_,h2,h3⟩
    rw[htk,List.append_assoc,List.singleton_append,hba,←hmid]
    exact h1
   ·have hg:zA (B.take k++A.drop k) k=.arr ver sz E opn:=by
     rw[hmid]
     rw[hkA] at ha
     have ha:=Option.some.inj ha
     unfold zA
     rw[List.getD,List.getElem?_append_right (by omega),hlen,Nat.sub_self,List.getElem?_cons_zero,ha];rfl
    obtain⟨D3,g1,g2,g3⟩:=h1.frz hg (wD.only (yB hg))
    refine⟨D3,?_,h2.trans g2,fun x u hx=>g3 _ _ _ (.same x) (h3 x u hx)⟩
    rw[hkB] at h
    have hb:B[k]'(by omega)=.dead:=Option.some.inj h
    have e1:(B.take k++A.drop k).set k zC.dead=B.take k++(zC.dead::A.drop (k+1)):=by
     rw[hmid,List.set_append_right _ _ (by omega),hlen,Nat.sub_self,List.set_cons_zero]
    rw[e1] at g1
    rw[htk,hb,List.append_assoc,List.singleton_append]
    exact g1
 have:=go A.length (Nat.le_refl _)
 rwa [List.drop_length,List.append_nil,List.take_of_length_le (by omega)] at this
theorem zI.zKz {P:Program} {f:FuncId} {args:List HV} {PS A B:PL} {v:HV} (hk:Vy A B) (h:zI P f args PS fun r PS'=>r=v∧PS'=A):zI P f args PS fun r PS'=>r=v∧PS'=B:=by
 intro F e D w vs hr hf
 refine(h F e D w vs hr hf).mono ?_
 rintro en w' ⟨u,x,PS',e',D',rfl,⟨h1,rfl⟩,hr',ht,hv⟩
 obtain⟨D2,g1,g2,g3⟩:=hr'.gone hk
 exact⟨u,x,B,e',D2,rfl,⟨h1,rfl⟩,g1,ht.trans g2,g3 _ _ hv⟩
theorem zI.from {P:Program} {f:FuncId} {args:List HV} {A B:PL} {K:HV→PL→Prop} (hk:Vy A B) (h:zI P f args B K):zI P f args A K:=by
 intro F e D w vs hr hf
 obtain⟨D2,g1,g2,g3⟩:=hr.gone hk
 refine(h F e D2 w vs g1 ⟨hf.1,fun i x u hi hu=>g3 _ _ (hf.2 i x u hi hu)⟩).mono ?_
 rintro en w' ⟨u,x,PS',e',D',rfl,hK,hr',ht,hv⟩
 exact⟨u,x,PS',e',D',rfl,hK,hr',g2.trans ht,hv⟩
abbrev qX:=List (Nat×zC)
def gB {α:Type} (E:qX):BT zC→(BT zC→α)→α:=
 List.rec (motive:=fun _=>BT zC→(BT zC→α)→α) (fun t K=>K t) (fun x _ ih t K=>BT.set .dead 17 t x.1 x.2 fun t=>ih t K) E
theorem XD {α:Type}:∀(E:qX) (t:BT zC) (K:BT zC→α),gB E t K=K (gB E t id)
 | [],_,_=>rfl
 | x::E,t,K=>by
  show BT.set .dead 17 t x.1 x.2 (fun t=>gB E t K)=K (BT.set .dead 17 t x.1 x.2 fun t=>gB E t id)
  rw[BT.jE,BT.jE _ _ t x.1 x.2 fun t=>gB E t id]
  exact XD E _ K
/-- A memory by its pieces. -/
def zFW (n:Nat) (E:qX):Mem:=⟨gB E .emp id,n⟩
def kP (p q:zC):Bool:=
 match q with
 | .dead=>(match p with
  | .arr _ _ _ _=>true
  | .dead=>true
  | _=>false)
 | q=>Yr p q
def kLe (m:Mem) (n:Nat) (t:BT zC):Bool:=Nat.beq m.n n&&Nat.rec (motive:=fun _=>Bool) true (fun i ih=>kP (m.get i) (BT.get .dead t i)&&ih) n
theorem zAm {m:Mem} {n:Nat} {t:BT zC} (h:kLe m n t=true):Vy m.pl (⟨t,n⟩:Mem).pl:=by
 unfold kLe at h
 rw[Bool.and_eq_true,zX] at h
 obtain⟨h1,h2⟩:=h
 have all:∀k,Nat.rec (motive:=fun _=>Bool) true (fun i ih=>kP (m.get i) (BT.get .dead t i)&&ih) k=true→∀i,i<k→kP (m.get i) (BT.get .dead t i)=true:=by
  intro k
  induction k with
  | zero=>intro _ i hi;omega
  | succ k ih=>
   intro h i hi
   have h:(kP (m.get k) (BT.get .dead t k)&&Nat.rec (motive:=fun _=>Bool) true (fun i ih=>kP (m.get i) (BT.get .dead t i)&&ih) k)=true:=h
   rw[Bool.and_eq_true] at h
   by_cases hik:i=k
   ·subst hik;exact h.1
   ·exact ih h.2 i (by omega)
 have hall:=all n h2
 refine⟨by rw[Mem.len,Mem.len];exact h1,fun i=>?_⟩
 by_cases hi:i<n
 ·have e1:m.pl[i]? =some (m.get i):=by
   have hl:i<m.pl.length:=by rw[Mem.len];omega
   rw[←Mem.get_eq,zA,List.getD,List.getElem?_eq_getElem hl];rfl
  have e2:(⟨t,n⟩:Mem).pl[i]? =some (BT.get .dead t i):=by
   simp[Mem.pl,BT.list,hi]
  rw[e1,e2]
  have h3:=hall i hi
  unfold kP at h3
  split at h3
  ·rename_i hd
   rw[hd]
   split at h3
   ·rename_i ver sz E opn hp
    rw[hp]
    exact .inr ⟨rfl,_,_,_,_,rfl⟩
   ·rename_i hp;rw[hp];exact .inl rfl
   ·cases h3
  ·rw[Ji _ _ h3];exact .inl rfl
 ·left
  rw[List.getElem?_eq_none (by rw[Mem.len];show n≤i;omega),List.getElem?_eq_none (by rw[Mem.len];omega)]
/-- A run comes to a value and a memory. -/
def zFM (v:HV) (n:Nat) (E:qX) (o:Option (List RM)):Bool:=
 gB E .emp fun t=>match o with
 | some [(r,m)]=>qp 9 r v&&kLe m n t
 | _=>false
/-- What a call comes to. -/
def jU (P:Program) (g:FuncId) (args:List HV) (n0:Nat) (E0:qX) (v:HV) (n:Nat) (E:qX):Prop:=zI P g args (zFW n0 E0).pl fun r PS=>r=v∧PS=(zFW n E).pl
theorem xJ {P:Program} {ec:EC} {cov:FuncId→Bool} {pl:FuncId→Nat→zL} {fuel d:Nat} (hm:P.follows .mixedOrders=true) (hec:qe P ec) (hc:Uj P cov pl) {g:FuncId} {args:List HV} {n0:Nat} {E0:qX} {v:HV} {n:Nat} {E:qX}
  (h:(gB E0 .emp fun t0=>zFM v n E (ZI P ec cov pl fuel d g args ⟨t0,n0⟩))=true):jU P g args n0 E0 v n E:=by
 rw[XD] at h
 unfold zFM at h
 rw[XD] at h
 split at h
 ·rename_i r m hr
  rw[Bool.and_eq_true] at h
  have hv:=ur _ _ _ h.1
  subst hv
  refine zI.zKz (zAm h.2) ((zFA hm hec hc d g args _ _ hr).mono ?_)
  rintro x PS ⟨y,hy,rfl,rfl⟩
  rw[List.mem_singleton] at hy
  subst hy
  exact⟨rfl,rfl⟩
 ·cases h
/-- Such a call is known. -/
def Vq (g0:FuncId) (pat:List HV) (n0:Nat) (E0:qX) (v:HV) (n:Nat) (E:qX) (o:EC):EC:=fun g args m=>
 bif Nat.beq g g0 then (bif yJ (tEq 9) args pat&&(gB E0 .emp fun t0=>kLe m n0 t0) then (gB E .emp fun t=>some [(v,⟨t,n⟩)]) else o g args m) else o g args m
theorem zCb {P:Program} {o:EC} (ho:qe P o) {g0:FuncId} {pat:List HV} {n0:Nat} {E0:qX} {v:HV} {n:Nat} {E:qX} (h:jU P g0 pat n0 E0 v n E):qe P (Vq g0 pat n0 E0 v n E o):=by
 intro g args m L hL
 unfold Vq at hL
 rcases kp hL with ⟨hg,hL⟩ | ⟨_,hL⟩
 ·rcases kp hL with ⟨hb,hL⟩ | ⟨_,hL⟩
  ·rw[Bool.and_eq_true] at hb
   rw[zX.1 hg]
   have hb2:=hb.2
   rw[XD] at hb2
   rw[XD] at hL
   cases hL
   refine(zI.from (zAm hb2) (zI.sub (Wf (zFO 9) _ _ hb.1) h)).mono ?_
   rintro r PS ⟨rfl,rfl⟩
   exact⟨_,List.mem_singleton.2 rfl,rfl,rfl⟩
  ·exact ho _ _ _ _ hL
 ·exact ho _ _ _ _ hL
end Go.Eng
namespace Go.Proofs.YtbmibhjjogobhaaGreat
open Go Go.Eng
set_option maxRecDepth 100000
def KO (a b:List (List HV)):Bool:=yJ (yJ (qp 9)) a b
theorem zBI [zB] {a b:List (List HV)} (h:KO a b=true):a=b:=ql _ _ (fun a b=>ql a b (ur 9)) h
section
variable [zB]
/-- What is asked for. -/
def qH (T:List (Nat×Nat×Tab)):Prop:=∀x∈T,∀y∈x.2.2,Pure Tryz.prog x.1 y.1 y.2
def zLS (T:List (Nat×Nat×Tab)):List zAN:=T.map fun x=>(x.1,x.2.1,spT x.2.2)
theorem zFC {ec:EC} (hec:qe Tryz.prog ec) {g:FuncId} {args:List HV} {d fuel:Nat} (h:zBJ (ZI Tryz.prog ec YX epl fuel d g args ⟨.emp,0⟩)=true):zI Tryz.prog g args [] fun r _=>r=.bool true:=by
 cases hc:ZI Tryz.prog ec YX epl fuel d g args ⟨.emp,0⟩ with
 | none=>rw[hc] at h;cases h
 | some L=>
  rw[hc] at h
  have h:gN isTrue L=true:=h
  rw[xM] at h
  refine(zFA kG hec gZ d g args ⟨.emp,0⟩ L hc).mono ?_
  rintro r PS ⟨x,hx,rfl,rfl⟩
  have:=List.all_eq_true.1 h x hx
  obtain⟨v,m⟩:=x
  unfold isTrue at this
  split at this
  ·rename_i b m heq;cases heq;rw[this]
  ·cases this
end
end Go.Proofs.YtbmibhjjogobhaaGreat
namespace Go.Proofs.YtbmibhjjogobhaaGreat
open Go Go.Eng
set_option maxRecDepth 100000
def fLB {α:Type} (L:List Bool):(List Bool→α)→α:=
 List.rec (motive:=fun _=>(List Bool→α)→α) (fun K=>K []) (fun b _ ih K=>ih fun r=>bif b then K (true::r) else K (false::r)) L
theorem zBc {α:Type}:∀(L:List Bool) (K:List Bool→α),fLB L K=K L
 | [],K=>rfl
 | b::L,K=>by
  show fLB L (fun r=>bif b then K (true::r) else K (false::r))=_
  rw[zBc L]
  cases b<;>rfl
section
variable [zB]
/-! The clock's sweep. -/
def rB (r:List HV):Option Bool:=
 match r with
 | [.bool true]=>some true
 | [.bool false]=>some false
 | _=>none
def rBs (E:List (List HV)):Option (List Bool):=List.rec (motive:=fun _=>Option (List Bool)) (some []) (fun r _ ih=>bnd (rB r) fun b=>bnd ih fun l=>some (b::l)) E
def fBs {α:Type} (L:List Bool):(List (List HV)→α)→α:=
 List.rec (motive:=fun _=>(List (List HV)→α)→α) (fun K=>K []) (fun b _ ih K=>ih fun r=>bif b then K ([.bool true]::r) else K ([.bool false]::r)) L
theorem KY {α:Type}:∀(L:List Bool) (K:List (List HV)→α),fBs L K=K (L.map fun b=>[.bool b])
 | [],K=>rfl
 | b::L,K=>by
  show fBs L (fun r=>bif b then K ([.bool true]::r) else K ([.bool false]::r))=_
  rw[KY L]
  cases b<;>rfl
theorem QU:∀(E:List (List HV)) (l:List Bool),rBs E=some l→E=l.map fun b=>[.bool b]
 | [],l,h=>by cases h;rfl
 | r::E,l,h=>by
  have h:(bnd (rB r) fun b=>bnd (rBs E) fun l=>some (b::l))=some l:=h
  simp only[zZ] at h
  obtain⟨b,h1,l2,h2,h3⟩:=h
  cases h3
  rw[QU E l2 h2,List.map_cons]
  unfold rB at h1
  split at h1
  ·cases h1;rfl
  ·cases h1;rfl
  ·cases h1
/-- Who goes,what is left of the marks;k:how many places are to be looked at yet. -/
def swp (can:List Bool) (hand n:Nat):Nat→List Bool→Option Nat×List Bool:=
 Nat.rec (motive:=fun _=>List Bool→Option Nat×List Bool) (fun l=>(none,l)) fun m ih l=>
  fN (Nat.mod (Nat.add hand (Nat.sub (Nat.mul 2 n) (Nat.succ m))) n) fun k=>bif can.getD k false then (bif l.getD k false then fLB (l.set k false) fun l=>ih l else (some k,l)) else ih l
def yu:kO:=fun a=>
 match a with
 | [.imm _ X,.imm _ Y,.int .i64 (.ofNat h)]=>bnd (rBs X) fun x=>bnd (rBs Y) fun y=>fN (wb x) fun n=>on (Nat.beq (wb y) n&&Nat.blt h n&&Nat.ble n 64) (match swp x h n (Nat.mul 2 n) y with
  | (some k,L)=>fN (Nat.mod (Nat.succ k) n) fun q=>fBs L fun r=>some (.tup [.int .i64 (.ofNat k),.int .i64 (.ofNat q),.imm false r])
  | (none,L)=>fBs L fun r=>some (.tup [.int .i64 (.negSucc (nat_lit 0)),.int .i64 (.ofNat h),.imm false r]))
 | _=>none
end
end Go.Proofs.YtbmibhjjogobhaaGreat
end
