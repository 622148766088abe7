/-
A run: operations that make and write memory; all operations.
No conditions.
-/
import Derived.Test.YtbmibhjjogobhaaGreatQRunB
set_option linter.unusedSectionVars false
set_option linter.unusedSimpArgs false
set_option linter.unusedVariables false
noncomputable section
namespace Go.Eng
open Go
variable [zB]
section
variable {P:Program} {m:Mem} {K:HV→PL→Prop}
/-- A result:a value,and memory. -/
abbrev RM:=HV×Mem
def XP {α:Type} (l r:List α):List α:=List.rec (motive:=fun _=>List α) r (fun x _ ih=>x::ih) l
@[simp] theorem zFc {α:Type} (l r:List α):XP l r=l++r:=by
 induction l with
 | nil=>rfl
 | cons x l ih=>exact congrArg (x:: ·) ih
def ks {α:Type} (off:Nat) (new l:List α):List α:=XP (uF off l) (XP new (jQ (off+wb new) l))
theorem YZ {α:Type} (off:Nat) (new l:List α):ks off new l=zP off new l:=by simp only[ks,zP,zFc,uW,uz,wk]
def Uq (v:HV):Bool:=
 HV.rec (motive_1:=fun _=>Bool) (motive_2:=fun _=>Unit) (motive_3:=fun _=>Unit) (fun _=>true) (fun _ _=>true) (fun _=>true) (fun v=>v.oneCell') (fun _ _ _=>true) (fun _ _ _=>true) (fun _ _ _ _=>true) (fun _ _ _ _ _=>true) (fun _ _ _ _ _ _=>true) (fun _ _=>true) (fun _ _=>false) (fun _ _=>false) (fun _ _ _ _ _=>true) (fun _ _ _=>true) (fun _ _ _=>true) true (fun _ _=>true) (fun _=>true) (fun _=>true) false () (fun _ _ _ _=>()) () (fun _ _ _ _=>()) v
theorem Jm (v:HV):Uq v=HV.one v:=by cases v<;>rfl
def Yu (P:Program) (t:TypeId):List HV→List (Nat×HV)→Option HV
 | l,[]=>some (.agg l)
 | l,(i,x)::r=>bnd (qt P t i) fun p=>fH x fun x=>on ((Uq x || (match x with | .agg _=>true | _=>false))&&Nat.beq (vi x).length p.2&&Nat.ble (p.1+p.2) l.length) (fL (ks p.1 (vi x) l) fun l=>Yu P t l r)
theorem zA3 {t:TypeId} {C:List HV→Prop}:∀(ps:List (Nat×HV)) (l:List HV) (y:HV),Yu P t l ps=some y→(∀c,y=.agg c→C c)→qW P t C l ps
 | [],l,y,h,hk=>by simp only[Yu,Option.some.injEq] at h;exact hk l h.symm
 | (i,x)::r,l,y,h,hk=>by
  simp only[Yu,zZ,zS,Bool.and_eq_true,Bool.or_eq_true,zX,yk,yn,uc,YZ,Jm] at h
  obtain⟨⟨off,s⟩,h1,⟨⟨h2,h3⟩,h4⟩,h5⟩:=h
  simp only[qW,h1]
  refine⟨?_,h3,h4,zA3 r _ y h5 hk⟩
  rcases h2 with h2 | h2
  ·exact .inl h2
  ·right;split at h2
   ·exact⟨_,rfl⟩
   ·cases h2
def UF (P:Program) (t:TypeId) (ps:List (Nat×HV)):Option HV:=on (jk P t) (bnd (qP P t) fun z=>fLH z fun z=>Yu P t z ps)
theorem zK4 {t:TypeId} {ps:List (Nat×HV)} {y:HV} {C:HV→Prop} (h:UF P t ps=some y) (hk:C y):uK P t ps C:=by
 simp only[UF,zS,zZ,kJ] at h
 obtain⟨h1,z,h2,h3⟩:=h
 refine⟨h1,?_⟩
 rw[h2]
 exact zA3 _ _ _ h3 fun c hc=>hc▸hk
def eSt (x:HV):Option (List HV):=
 match x with
 | .agg l=>on (gN Uq l) (some l)
 | x=>on (Uq x) (some [x])
theorem Ks {x:HV} {l:List HV} {C:List HV→Prop} (h:eSt x=some l) (hk:C l):hst x C:=by
 unfold eSt at h
 unfold hst
 split at h
 ·rw[zS] at h;obtain⟨h1,h2⟩:=h;cases h2;exact⟨fun y hy=>by have:=List.all_eq_true.1 ((xM _ _).symm.trans h1) y hy;rwa [Jm] at this,hk⟩
 ·rename_i hn
  rw[zS] at h;obtain⟨h1,h2⟩:=h;cases h2
  split
  ·rename_i l;exact absurd rfl (hn l)
  ·exact⟨by rw[Jm] at h1;exact h1,hk⟩
def eNew (m:Mem) (l:List HV):Option RM:=fN (wb l) fun s=>m.push (.arr 0 s [l] false) fun m'=>some (.ptr m.n 0 0 0,m')
theorem zFe {l:List HV} {v:HV} {m':Mem} (h:eNew m l=some (v,m')):v=.ptr m.pl.length 0 0 0∧m'.pl=m.pl++[.arr 0 l.length [l] false]:=by
 simp only[eNew,wk,yT] at h
 obtain⟨m2,h1,h2⟩:=Mem.kF h
 cases h2
 exact⟨by rw[Mem.len],h1⟩
def Xt (P:Program) (t:TypeId) (m:Mem):Option RM:=bnd (qP P t) fun l=>fLH l fun l=>eNew m l
theorem zBb {t:TypeId} {v:HV} {m':Mem} (h:Xt P t m=some (v,m')) (hk:K v m'.pl):uY P t m.pl K:=by
 simp only[Xt,zZ,kJ] at h
 obtain⟨l,h1,h2⟩:=h
 obtain⟨rfl,h3⟩:=zFe h2
 unfold uY
 simp only[h1];rw[←h3];exact hk
def Uo (x:HV) (m:Mem):Option RM:=bnd (eSt x) fun l=>eNew m l
theorem zMG {x:HV} {v:HV} {m':Mem} (h:Uo x m=some (v,m')) (hk:K v m'.pl):kL x m.pl K:=by
 simp only[Uo,zZ] at h
 obtain⟨l,h1,h2⟩:=h
 obtain⟨rfl,h3⟩:=zFe h2
 refine Ks h1 ?_
 rw[←h3];exact hk
/-- A list with one set,worked out. -/
def YC {α β:Type}:List α→Nat→α→(List α→β)→β
 | [],_,_,K=>K []
 | _::l,0,a,K=>K (a::l)
 | x::l,n+1,a,K=>YC l n a fun l=>K (x::l)
@[simp] theorem VO {α β:Type}:∀(l:List α) (n:Nat) (a:α) (K:List α→β),YC l n a K=K (l.set n a)
 | [],_,_,_=>rfl
 | _::_,0,_,_=>rfl
 | x::l,n+1,a,K=>by rw[YC,VO l];rfl
def UL (m:Mem) (a x:HV):Option (Bool×Nat)→Option RM
 | some (_,s)=>bnd (eSt x) fun c=>on (Nat.beq c.length s) (match a with
  | .ptr n ver i k=>(match m.get n with
   | .arr ver' sz E opn=>on (Nat.beq ver ver') (bnd (lg E i) fun l=>on (Nat.ble (k+s) l.length) (fL (ks k c l) fun l'=>YC E i l' fun E'=>m.set n (.arr ver sz E' opn) fun m'=>some (.junk,m')))
   | _=>none)
  | _=>none)
 | none=>none
theorem zBo {a x:HV} {o:Option (Bool×Nat)} {v:HV} {m':Mem} {C:PL→Prop} (h:UL m a x o=some (v,m')) (hk:C m'.pl):v=.junk∧uI m.pl a x C o:=by
 unfold UL at h
 split at h
 ·simp only[zZ,zS,zX] at h
  obtain⟨c,h1,h2,h3⟩:=h
  split at h3
  ·rename_i n ver i k
   split at h3
   ·rename_i ver' sz E opn hg
    simp only[zZ,zS,zX,yk,yn,VO,jj,YZ] at h3
    obtain⟨h4,l,h5,h6,h7⟩:=h3
    obtain⟨m2,h8,h9⟩:=Mem.ua h7
    cases h9
    refine⟨rfl,Ks h1 ⟨h2,?_⟩⟩
    simp only[Mem.get_eq,hg]
    refine⟨h4,l,h5,h6,?_⟩
    rw[←h8];exact hk
   ·cases h3
  ·cases h3
 ·cases h
def VU (m:Mem) (l c:HV):Option (Nat×Nat×List HV)→Option RM
 | some (s,b,z)=>(match l,c with
  | .int .i64 l,.int .i64 c=>bnd (jM l) fun l=>bnd (jM c) fun c=>on (Nat.ble l c&&Nat.ble c 140737488355328&&Nat.ble (c*b) 140737488355328) (fLH z fun z=>fL (List.replicate c z) fun E=>m.push (.arr 0 s E false) fun m'=>some (.sl m.n 0 0 l (some c),m'))
  | _,_=>none)
 | none=>none
theorem zNI {l c:HV} {o:Option (Nat×Nat×List HV)} {v:HV} {m':Mem} (h:VU m l c o=some (v,m')) (hk:K v m'.pl):jr m.pl l c K o:=by
 unfold VU at h
 split at h
 ·split at h
  ·rw[zZ] at h
   obtain⟨a,h1,h⟩:=h
   rw[zZ] at h
   obtain⟨b',h2,h⟩:=h
   rw[zS,Bool.and_eq_true,Bool.and_eq_true,yk,yk,yk,kJ,yn] at h
   obtain⟨⟨⟨h3,h4⟩,h5⟩,h6⟩:=h
   obtain⟨m2,h7,h8⟩:=Mem.kF h6
   cases h8
   obtain⟨h9,h10,h11⟩:=gV h1
   obtain⟨h12,h13,h14⟩:=gV h2
   subst h11;subst h14
   have h5':=Int.ofNat_le.2 h5
   rw[Int.natCast_mul] at h5'
   refine⟨h9,by omega,by omega,h5',?_⟩
   rw[h10,h13,Mem.len,←h7];exact hk
  ·cases h
 ·cases h
def XO (s:Nat):List (List HV)→List (Nat×HV)→Option HV
 | E,[]=>some (.imm true E)
 | E,(i,x)::r=>bnd (eSt x) fun l=>on (Nat.beq l.length s&&Nat.blt i E.length) (YC E i l fun E=>XO s E r)
theorem zFo {s:Nat} {C:HV→Prop}:∀(ps:List (Nat×HV)) (E:List (List HV)) (y:HV),XO s E ps=some y→C y→vV s (fun E=>C (.imm true E)) E ps
 | [],E,y,h,hk=>by simp only[XO,Option.some.injEq] at h;subst h;exact hk
 | (i,x)::r,E,y,h,hk=>by
  simp only[XO,zZ,zS,Bool.and_eq_true,zX,Nat.blt_eq,VO] at h
  obtain⟨l,h1,⟨h2,h3⟩,h4⟩:=h
  exact Ks h1 ⟨h2,h3,zFo r _ y h4 hk⟩
def Xp (n:Nat) (ps:List (Nat×HV)):Option (Nat×Nat×List HV)→Option HV
 | some (s,_,z)=>on (Nat.ble (n*s) 16777216&&Nat.ble n 65536) (fLH z fun z=>fL (List.replicate n z) fun E=>XO s E ps)
 | none=>none
theorem zCO {n:Nat} {ps:List (Nat×HV)} {o:Option (Nat×Nat×List HV)} {y:HV} {C:HV→Prop} (h:Xp n ps o=some y) (hk:C y):vn n ps C o:=by
 unfold Xp at h
 split at h
 ·simp only[zS,Bool.and_eq_true,yk,kJ,yn] at h
  exact⟨h.1.1,h.1.2,zFo _ _ _ h.2 hk⟩
 ·cases h
def UP (m:Mem) (s:Nat) (x:HV):Option (List (List HV)):=
 match x with
 | .str l=>on (Nat.beq s 1) (fBR l fun E=>some E)
 | x=>VN m s x
theorem Kx {s:Nat} {x:HV} {N:List (List HV)} {C:List (List HV)→Prop} (h:UP m s x=some N) (hk:C N):yA m.pl s x C:=by
 unfold UP at h
 unfold yA
 split at h
 ·simp only[zS,zX,Ki,Option.some.injEq] at h;obtain⟨h1,rfl⟩:=h;exact⟨h1,hk⟩
 ·rename_i hn
  split
  ·rename_i l;exact absurd rfl (hn l)
  ·exact zFy h hk
def KX (P:Program) (t:TypeId):Bool:=
 match P.underlying t with
 | some (.slice _)=>true
 | some .string=>true
 | _=>false
theorem zCA {t:TypeId} (h:KX P t=true):uG P t:=by
 unfold KX at h
 unfold uG
 split at h<;>rename_i hu<;>simp only[hu]
 cases h
def WU (n b:Nat):Bool:=Nat.ble n 140737488355328&&Nat.ble (n*b) 140737488355328
theorem zDe {n b:Nat} (h:WU n b=true):zr n b:=by
 simp only[WU,Bool.and_eq_true,yk] at h;exact h
/-- Rows behind rows,worked out. -/
def Zx {α β:Type} (l r:List α) (K:List α→β):β:=
 match l with
 | []=>fL r K
 | x::l=>Zx l r fun l=>K (x::l)
@[simp] theorem zB9 {α β:Type} (l r:List α) (K:List α→β):Zx l r K=K (l++r):=by
 induction l generalizing K with
 | nil=>rw[Zx,yn];rfl
 | cons x l ih=>rw[Zx,ih];rfl
theorem kp {α:Type} {b:Bool} {x y:Option α} {z:α} (h:(bif b then x else y)=some z):(b=true∧x=some z)∨(b=false∧y=some z):=by
 cases b
 ·exact .inr ⟨rfl,h⟩
 ·exact .inl ⟨rfl,h⟩
def Wk (m:Mem) (s b:Nat) (x:HV) (N:List (List HV)):Option RM:=
 match x with
 | .imm t E=>on (t&&((match E with | []=>true | _=>false) || (match N with | []=>false | _=>true))&&(E.all fun r=>Nat.beq r.length s)&&WU (E.length+N.length) b) (Zx E N fun X=>fN (E.length+N.length) fun k=>m.push (.arr 0 s X true) fun m'=>some (.sl m.n 0 0 k none,m'))
 | .sl n ver i len none=>(match m.get n with
  | .arr ver' sz E opn=>on (Nat.beq ver ver'&&Nat.beq sz s) (bif Nat.beq (i+len) E.length then on (WU (len+N.length) b) (Zx (E.drop i) N fun X=>fN (ver+1) fun ver=>fN (len+N.length) fun k=>m.set n (.arr ver s X true) fun m'=>some (.sl n ver 0 k none,m'))
    else on (Nat.blt (i+len) E.length&&Nat.ble (i+len+N.length) E.length) (fL (ks (i+len) N E) fun X=>fN (len+N.length) fun k=>m.set n (.arr ver s X opn) fun m'=>some (.sl n ver i k none,m')))
  | _=>none)
 | .sl n ver i len (some c)=>(match m.get n with
  | .arr ver' sz E opn=>on (Nat.beq ver ver'&&Nat.beq sz s&& !opn&&Nat.beq (i+c) E.length&&Nat.ble (len+N.length) c) (fL (ks (i+len) N E) fun X=>fN (len+N.length) fun k=>m.set n (.arr ver s X opn) fun m'=>some (.sl n ver i k (some c),m'))
  | _=>none)
 | _=>none
theorem KS {s b:Nat} {x:HV} {N:List (List HV)} {v:HV} {m':Mem} (h:Wk m s b x N=some (v,m')) (hk:K v m'.pl):qa m.pl s b x N K:=by
 unfold Wk at h
 unfold qa
 split at h
 ·simp only[zS,Bool.and_eq_true,Bool.or_eq_true,zB9,yT] at h
  obtain⟨⟨⟨⟨h1,h2⟩,h3⟩,h4⟩,h5⟩:=h
  obtain⟨m2,h6,h7⟩:=Mem.kF h5
  cases h7
  refine⟨h1,?_,fun r hr=>zX.1 (List.all_eq_true.1 h3 r hr),zDe h4,?_⟩
  ·rcases h2 with h2 | h2
   ·left;split at h2
    ·rfl
    ·cases h2
   ·right;split at h2
    ·cases h2
    ·rename_i hn;cases N with
     | nil=>exact absurd rfl hn
     | cons a N=>simp
  ·rw[Mem.len,←h6];exact hk
 ·simp only[Mem.get_eq]
  split at h
  ·rename_i hg;rw[hg]
   simp only[zS,Bool.and_eq_true,zX] at h
   obtain⟨⟨h1,h2⟩,h⟩:=h
   refine⟨h1,h2,?_⟩
   rcases kp h with ⟨h3,h⟩ | ⟨h3,h⟩
   rotate_left
   ·simp only[zS,Bool.and_eq_true,Nat.blt_eq,yk,yn,yT,YZ] at h
    obtain⟨⟨h4,h5⟩,h6⟩:=h
    obtain⟨m2,h7,h8⟩:=Mem.ua h6
    cases h8
    refine .inr ⟨h4,h5,?_⟩
    rw[←h7];exact hk
   ·simp only[zS,zB9,yT] at h
    obtain⟨h4,h5⟩:=h
    obtain⟨m2,h6,h7⟩:=Mem.ua h5
    cases h7
    refine .inl ⟨zX.1 h3,zDe h4,?_⟩
    rw[←h6];exact hk
  ·cases h
 ·simp only[Mem.get_eq]
  split at h
  ·rename_i hg;rw[hg]
   simp only[zS,Bool.and_eq_true,Bool.not_eq_true',zX,yk,yn,yT,YZ] at h
   obtain⟨⟨⟨⟨⟨h1,h2⟩,h3⟩,h4⟩,h5⟩,h6⟩:=h
   obtain⟨m2,h7,h8⟩:=Mem.ua h6
   cases h8
   refine⟨h1,h2,h3,h4,h5,?_⟩
   rw[←h7];exact hk
  ·cases h
 ·cases h
def Xh (P:Program) (m:Mem) (t2:TypeId) (x:HV) (s b:Nat) (z:List HV):HV→Option RM
 | .int .i64 n=>bnd (jM n) fun n=>on (xo P t2&&Nat.ble n 65536&&Nat.ble (n*b) 140737488355328) (fL z fun z=>fL (List.replicate n z) fun N=>Wk m s b x N)
 | y=>on (KX P t2) (bnd (UP m s y) fun N=>fL N fun N=>Wk m s b x N)
theorem zNv {t2:TypeId} {x y:HV} {s b:Nat} {z:List HV} {v:HV} {m':Mem} (h:Xh P m t2 x s b z y=some (v,m')) (hk:K v m'.pl):uf m.pl x (uG P t2) (xo P t2=true) K s b z y:=by
 cases y
 case int k n=>
  cases k
  case i64=>
   simp only[Xh,zZ,zS,Bool.and_eq_true,yk,yn] at h
   obtain⟨a,h1,⟨⟨h2,h3⟩,h4⟩,h5⟩:=h
   obtain⟨h6,h7,h8⟩:=gV h1
   subst h8
   refine⟨h2,h6,by omega,by rw[h7];exact h4,?_⟩
   rw[h7]
   exact KS h5 hk
  all_goals
   simp only[Xh,zS,zZ,yn] at h
   obtain⟨h2,N,h3,h4⟩:=h
   exact⟨zCA h2,Kx h3 (KS h4 hk)⟩
 all_goals
  simp only[Xh,zS,zZ,yn] at h
  obtain⟨h2,N,h3,h4⟩:=h
  exact⟨zCA h2,Kx h3 (KS h4 hk)⟩
def Uw (P:Program) (m:Mem) (t t2:TypeId) (x y:HV):Option RM:=
 bnd (yV P t) fun q=>Xh P m t2 x q.1 q.2.1 q.2.2 y
theorem zKa {t t2:TypeId} {x y:HV} {v:HV} {m':Mem} (h:Uw P m t t2 x y=some (v,m')) (hk:K v m'.pl):gR P m.pl t t2 x y K:=by
 simp only[Uw,zZ] at h
 obtain⟨⟨s,b,z⟩,h1,h2⟩:=h
 unfold gR
 rw[h1]
 exact zNv h2 hk
def zAI (N:List (List HV)):List HV:=List.rec (motive:=fun _=>List HV) [] (fun r _ ih=>XP r ih) N
theorem zDo:∀(N:List (List HV)),zAI N=N.flatten
 | []=>rfl
 | r::N=>by
  show XP r (zAI N)=_
  rw[zFc,zDo N];rfl
def Wj (m:Mem) (s:Nat) (x:HV) (N:Nat→List (List HV)) (v:HV):Option RM:=
 match x with
 | .sl n ver i len _=>(match m.get n with
  | .arr ver' sz E opn=>on (Nat.beq ver ver'&&Nat.beq sz s&&(!opn || (match E with | []=>false | _=>true))&&Nat.ble (i+len) E.length) (fL (ks i (N len) E) fun X=>m.set n (.arr ver s X opn) fun m'=>some (v,m'))
  | _=>none)
 | .isl n ver i k len _=>on (Nat.beq s 1) (match m.get n with
  | .arr ver' sz E opn=>on (Nat.beq ver ver') (bnd (lg E i) fun l=>on (Nat.ble (k+len) l.length) (fL (ks k (zAI (N len)) l) fun l'=>YC E i l' fun E'=>m.set n (.arr ver sz E' opn) fun m'=>some (v,m')))
  | _=>none)
 | _=>none
theorem UR {s:Nat} {x:HV} {N:Nat→List (List HV)} {v v':HV} {m':Mem} {C:PL→Prop} (h:Wj m s x N v=some (v',m')) (hk:C m'.pl):v'=v∧wq m.pl s x N C:=by
 unfold Wj at h
 unfold wq
 split at h
 ·simp only[Mem.get_eq]
  split at h
  ·rename_i hg;rw[hg]
   simp only[zS,Bool.and_eq_true,Bool.or_eq_true,zX,yk,yn,YZ] at h
   obtain⟨⟨⟨⟨h1,h2⟩,h3⟩,h4⟩,h5⟩:=h
   obtain⟨m2,h6,h7⟩:=Mem.ua h5
   cases h7
   refine⟨rfl,h1,h2,?_,h4,?_⟩
   ·rcases h3 with h3 | h3
    ·left;simpa using h3
    ·right;rintro rfl;cases h3
   ·rw[←h6];exact hk
  ·cases h
 ·rw[zS] at h
  simp only[Mem.get_eq]
  obtain⟨h0,h⟩:=h
  split at h
  ·rename_i hg;rw[hg]
   simp only[zZ,zS,zX,yk,yn,VO,jj,YZ,zDo] at h
   obtain⟨h1,l,h2,h3,h4⟩:=h
   obtain⟨m2,h6,h7⟩:=Mem.ua h4
   cases h7
   refine⟨rfl,zX.1 h0,h1,l,h2,h3,?_⟩
   rw[←h6];exact hk
  ·cases h
 ·cases h
def UJ (P:Program) (m:Mem) (t:TypeId) (x y:HV):Option RM:=
 bnd (qO P t) fun q=>bnd (UP m q.2 y) fun N=>fL N fun N=>fN (min (wb N) (vX x)) fun k=>Wj m q.2 x (fun len=>uF len N) (.int .i64 (.ofNat k))
theorem zJn {t:TypeId} {x y:HV} {v:HV} {m':Mem} (h:UJ P m t x y=some (v,m')) (hk:K v m'.pl):kT P m.pl t x y K:=by
 simp only[UJ,zZ,yn,yT] at h
 obtain⟨⟨a,s⟩,h1,N,h3,h4⟩:=h
 unfold kT
 rw[h1]
 have hN:(fun len=>uF len N)=fun len=>N.take len:=funext fun len=>uW len N
 rw[hN,wk] at h4
 obtain⟨rfl,_⟩:=UR (C:=fun _=>True) h4 trivial
 exact Kx h3 (UR (C:=fun PS'=>K _ PS') h4 hk).2
def WH (P:Program) (m:Mem) (t:TypeId) (x:HV):Option RM:=
 bnd (yV P t) fun q=>Wj m q.1 x (fun len=>List.replicate len q.2.2) (.tup [])
theorem zHk {t:TypeId} {x:HV} {v:HV} {m':Mem} (h:WH P m t x=some (v,m')) (hk:K v m'.pl):kR P m.pl t x K:=by
 simp only[WH,zZ] at h
 obtain⟨⟨s,b,z⟩,h1,h4⟩:=h
 unfold kR
 rw[h1]
 obtain⟨rfl,_⟩:=UR (C:=fun _=>True) h4 trivial
 exact(UR (C:=fun PS'=>K _ PS') h4 hk).2
def Ze (mx:Bool):List HV→Option HV
 | [.int k a,.int k' b]=>on (kEq k k') (fI (if mx then (if iLt a b then b else a) else (if iLt b a then b else a)) fun n=>some (.int k n))
 | _=>none
theorem zEU {mx:Bool} {l:List HV} {y:HV} {C:HV→Prop} (h:Ze mx l=some y) (hk:C y):vS mx C l:=by
 unfold Ze at h
 split at h
 ·rw[zS,kh] at h
  obtain⟨h1,h2⟩:=h
  cases h2
  refine⟨yc h1,?_⟩
  simp only[←KH,decide_eq_true_eq] at hk
  exact hk
 ·cases h
/-! ### Maps -/
def xZ (x:Int):qf→Option HV
 | []=>none
 | e::E=>bif iEq e.2.1 x then some e.2.2 else xZ x E
theorem Jz (x:Int):∀E,vR x E=xZ x E
 | []=>rfl
 | e::E=>by
  rw[vR,xZ,Jz x E,←gq]
  by_cases h:e.2.1=x<;>simp[h]
def UH (x:Int) (v:HV) (clock:Nat):qf→qf
 | []=>[(clock,x,v)]
 | e::E=>bif iEq e.2.1 x then (e.1,x,v)::E else e::UH x v clock E
theorem zBm (x:Int) (v:HV) (clock:Nat):∀E,jb x v clock E=UH x v clock E
 | []=>rfl
 | e::E=>by
  rw[jb,UH,zBm x v clock E,←gq]
  by_cases h:e.2.1=x<;>simp[h]
def WR (x:Int):qf→qf
 | []=>[]
 | e::E=>bif iEq e.2.1 x then E else e::WR x E
theorem zAj (x:Int):∀E,kV x E=WR x E
 | []=>rfl
 | e::E=>by
  rw[kV,WR,zAj x E,←gq]
  by_cases h:e.2.1=x<;>simp[h]
def Xu (x:Nat):jG→Bool
 | []=>true
 | e::E=>(Nat.beq e.2.1 x || (match Ua e.2.1 x with | some b=>!b | none=>false))&&Xu x E
theorem Qq {x:Nat}:∀{E:jG},Xu x E=true→Yl x E
 | [],_=>by intro e he;cases he
 | e::E,h=>by
  simp only[Xu,Bool.and_eq_true,Bool.or_eq_true,zX] at h
  intro a ha
  rcases List.mem_cons.1 ha with rfl | ha
  ·refine h.1.imp id fun h2=>?_
   split at h2
   ·rename_i b hb
    have:=zCt hb
    cases b
    ·exact of_decide_eq_false this
    ·cases h2
   ·cases h2
  ·exact Qq h.2 a ha
def QC (m:Mem):Option IntKind→Option RM
 | some k=>m.push (.map 0 0 k []) fun m'=>some (.ref m.n 0,m')
 | none=>none
theorem zMo {o:Option IntKind} {v:HV} {m':Mem} (h:QC m o=some (v,m')) (hk:K v m'.pl):ZZ m.pl K o:=by
 unfold QC at h
 split at h
 ·obtain⟨m2,h1,h2⟩:=Mem.kF h
  cases h2
  show K (.ref m.pl.length 0) (m.pl++[.map 0 0 _ []])
  rw[Mem.len,←h1];exact hk
 ·cases h
def Wb (m:Mem) (mm ix:HV) (ok:Bool):Option (IntKind×HV)→Option HV
 | some (q,z)=>(match mm,ix with
  | .ref n ver,.int k x=>(match m.get n with
   | .map ver' _ k' E=>on (Nat.beq ver ver'&&kEq k k'&&kEq k q) (bif ok then fH ((xZ x E).getD z) fun v=>fB (xZ x E).isSome fun b=>some (.tup [v,.bool b]) else some ((xZ x E).getD z))
   | _=>none)
  | .ref n ver,.tok k x=>(match m.get n with
   | .map ver' _ k' []=>on (Nat.beq ver ver'&&kEq k k'&&kEq k q) (bif ok then fH z fun v=>some (.tup [v,.bool false]) else some z)
   | .mapT ver' _ k' E=>on (Nat.beq ver ver'&&kEq k k'&&kEq k q&&Xu x E) (bif ok then fH ((vr x E).getD z) fun v=>fB (vr x E).isSome fun b=>some (.tup [v,.bool b]) else some ((vr x E).getD z))
   | _=>none)
  | _,_=>none)
 | none=>none
theorem zL4 {mm ix:HV} {ok:Bool} {o:Option (IntKind×HV)} {y:HV} {C:HV→Prop} (h:Wb m mm ix ok o=some y) (hk:C y):wZ m.pl mm ix ok C o:=by
 unfold Wb at h
 split at h
 ·unfold wZ
  split at h
  ·split at h
   ·rename_i hg
    simp only[zS,Bool.and_eq_true,zX,uc,jR] at h
    obtain⟨⟨⟨h1,h2⟩,h3⟩,h4⟩:=h
    simp only[Mem.get_eq,hg,qT]
    refine⟨h1,yc h2,yc h3,?_⟩
    cases ok<;>(cases h4;simp only[Jz];exact hk)
   ·cases h
  ·split at h
   ·rename_i hg
    simp only[zS,Bool.and_eq_true,zX,uc] at h
    obtain⟨⟨⟨h1,h2⟩,h3⟩,h4⟩:=h
    simp only[Mem.get_eq,hg,jD]
    refine⟨h1,yc h2,yc h3,fun e he=>(by cases he),?_⟩
    cases ok<;>(cases h4;exact hk)
   ·rename_i hg
    simp only[zS,Bool.and_eq_true,zX,uc,jR] at h
    obtain⟨⟨⟨⟨h1,h2⟩,h3⟩,h5⟩,h4⟩:=h
    simp only[Mem.get_eq,hg,jD]
    refine⟨h1,yc h2,yc h3,Qq h5,?_⟩
    cases ok<;>(cases h4;exact hk)
   ·cases h
  ·cases h
 ·cases h
def UY (m:Mem) (mm ix v:HV):Option (IntKind×HV)→Option RM
 | some (q,_)=>(match mm,ix with
  | .ref n ver,.int k x=>(match m.get n with
   | .map ver' clock k' E=>on (Nat.beq ver ver'&&kEq k k'&&kEq k q) (fH v fun v=>fN (if (xZ x E).isSome then clock else clock+1) fun c=>fL (UH x v clock E) fun E'=>m.set n (.map ver c k E') fun m'=>some (.junk,m'))
   | _=>none)
  | .ref n ver,.tok k x=>(match m.get n with
   | .map ver' clock k' []=>on (Nat.beq ver ver'&&kEq k k'&&kEq k q) (fH v fun v=>fN (clock+1) fun c=>m.set n (.mapT ver c k [(clock,x,v)]) fun m'=>some (.junk,m'))
   | .mapT ver' clock k' E=>on (Nat.beq ver ver'&&kEq k k'&&kEq k q&&Xu x E) (fH v fun v=>fN (if (vr x E).isSome then clock else clock+1) fun c=>fL (kS x v clock E) fun E'=>m.set n (.mapT ver c k E') fun m'=>some (.junk,m'))
   | _=>none)
  | _,_=>none)
 | none=>none
theorem zDE {mm ix x:HV} {o:Option (IntKind×HV)} {v:HV} {m':Mem} {C:PL→Prop} (h:UY m mm ix x o=some (v,m')) (hk:C m'.pl):v=.junk∧uj m.pl mm ix x C o:=by
 unfold UY at h
 split at h
 ·unfold uj
  split at h
  ·split at h
   ·rename_i hg
    simp only[zS,Bool.and_eq_true,zX,uc,yT,yn] at h
    obtain⟨⟨⟨h1,h2⟩,h3⟩,h4⟩:=h
    obtain⟨m2,h5,h6⟩:=Mem.ua h4
    cases h6
    refine⟨rfl,?_⟩
    simp only[Mem.get_eq,hg,qT]
    refine⟨h1,yc h2,yc h3,?_⟩
    simp only[Jz,zBm]
    rw[←h5];exact hk
   ·cases h
  ·split at h
   ·rename_i hg
    simp only[zS,Bool.and_eq_true,zX,uc,yT] at h
    obtain⟨⟨⟨h1,h2⟩,h3⟩,h4⟩:=h
    obtain⟨m2,h5,h6⟩:=Mem.ua h4
    cases h6
    refine⟨rfl,?_⟩
    simp only[Mem.get_eq,hg,jD]
    refine⟨h1,yc h2,yc h3,fun e he=>(by cases he),?_⟩
    simp only[vr,kS,Option.isSome_none,Bool.false_eq_true,if_false]
    rw[←h5];exact hk
   ·rename_i hg
    simp only[zS,Bool.and_eq_true,zX,uc,yT,yn] at h
    obtain⟨⟨⟨⟨h1,h2⟩,h3⟩,h7⟩,h4⟩:=h
    obtain⟨m2,h5,h6⟩:=Mem.ua h4
    cases h6
    refine⟨rfl,?_⟩
    simp only[Mem.get_eq,hg,jD]
    refine⟨h1,yc h2,yc h3,Qq h7,?_⟩
    rw[←h5];exact hk
   ·cases h
  ·cases h
 ·cases h
def VC (m:Mem) (mm ix:HV):Option (IntKind×HV)→Option RM
 | some (q,_)=>(match mm,ix with
  | .ref n ver,.int k x=>(match m.get n with
   | .map ver' clock k' E=>on (Nat.beq ver ver'&&kEq k k'&&kEq k q) (fL (WR x E) fun E'=>m.set n (.map ver clock k E') fun m'=>some (.tup [],m'))
   | _=>none)
  | _,_=>none)
 | none=>none
theorem zJd {mm ix:HV} {o:Option (IntKind×HV)} {v:HV} {m':Mem} (h:VC m mm ix o=some (v,m')) (hk:K v m'.pl):Zu m.pl mm ix K o:=by
 unfold VC at h
 split at h
 ·unfold Zu
  split at h
  ·split at h
   ·rename_i hg
    simp only[zS,Bool.and_eq_true,zX,yn] at h
    obtain⟨⟨⟨h1,h2⟩,h3⟩,h4⟩:=h
    obtain⟨m2,h5,h6⟩:=Mem.ua h4
    cases h6
    simp only[Mem.get_eq,hg,qT]
    refine⟨h1,yc h2,yc h3,?_⟩
    simp only[zAj]
    rw[←h5];exact hk
   ·cases h
  ·cases h
 ·cases h
def Vk (m:Mem) (mm:HV):Option (IntKind×HV)→Option RM
 | some _=>(match mm with
  | .ref n ver=>(match m.get n with
   | .map ver' clock _ _=>on (Nat.beq ver ver') (m.push (.iter 0 (.ref n ver) clock [] clock) fun m'=>some (.ref m.n 0,m'))
   | _=>none)
  | _=>none)
 | none=>none
theorem zN6 {mm:HV} {o:Option (IntKind×HV)} {v:HV} {m':Mem} (h:Vk m mm o=some (v,m')) (hk:K v m'.pl):gD m.pl mm K o:=by
 unfold Vk at h
 split at h
 ·unfold gD
  split at h
  ·split at h
   ·rename_i hg
    simp only[zS,zX] at h
    obtain⟨h1,h2⟩:=h
    obtain⟨m2,h3,h4⟩:=Mem.kF h2
    cases h4
    simp only[Mem.get_eq,hg,qT]
    refine⟨h1,?_⟩
    rw[Mem.len,←h3];exact hk
   ·cases h
  ·cases h
 ·cases h
def gw:List Nat→Nat→Bool
 | [],_=>false
 | x::l,n=>Nat.beq x n || gw l n
theorem Yq:∀(l:List Nat) (n:Nat),gw l n=true↔n∈l
 | [],n=>by simp[gw]
 | x::l,n=>by rw[gw,Bool.or_eq_true,Yq l n,zX,List.mem_cons];constructor<;>(rintro (h | h);exact .inl h.symm;exact .inr h)
/-- An iterator's next:where at most one is left. -/
def KV (m:Mem) (it:HV):Option RM:=
 match it with
 | .ref n ver=>(match m.get n with
  | .iter ver' (.ref mm mver) since seen last=>on (Nat.beq ver ver') (match m.get mm with
   | .map mv clock k E=>on (Nat.beq mver mv&&Nat.beq clock since&&Nat.beq clock last) (match E.filter fun e=>!gw seen e.1 with
    | []=>some (.tup [.bool false],m)
    | [(b,key,y)]=>fL (seen++[b]) fun seen=>m.set n (.iter ver (.ref mm mver) since seen clock) fun m'=>some (.tup [.bool true,.int k key,y],m')
    | _=>none)
   | _=>none)
  | _=>none)
 | _=>none
theorem zLU {it:HV} {v:HV} {m':Mem} (h:KV m it=some (v,m')) (hk:K v m'.pl):jA m.pl it K:=by
 unfold KV at h
 unfold jA
 split at h
 ·split at h
  ·rename_i hg
   rw[zS] at h
   obtain⟨h1,h⟩:=h
   simp only[Mem.get_eq,hg,ZJ]
   refine⟨zX.1 h1,?_⟩
   split at h
   ·rename_i hg2
    simp only[zS,Bool.and_eq_true,zX] at h
    obtain⟨⟨⟨h2,h3⟩,h4⟩,h⟩:=h
    simp only[hg2,qT]
    rename_i mv clock k E
    have mem:∀(i b:Nat) (key:Int) (y:HV) (seen:List Nat),E[i]? =some (b,key,y)→b∉seen→(b,key,y)∈E.filter fun e=>!gw seen e.1:=by
     intro i b key y seen hi hb
     rw[List.mem_filter]
     refine⟨List.mem_of_getElem? hi,?_⟩
     simp only[Bool.not_eq_true']
     rw[Bool.eq_false_iff,ne_eq,Yq];exact hb
    refine⟨h2,h3,h4,?_,?_⟩
    ·intro i b key y hi hb
     have:=mem i b key y _ hi hb
     split at h
     ·rename_i hf;rw[hf] at this;cases this
     ·rename_i hf;rw[hf] at this
      simp only[List.mem_singleton,Prod.mk.injEq] at this
      obtain⟨rfl,rfl,rfl⟩:=this
      rw[yn] at h
      obtain⟨m2,h5,h6⟩:=Mem.ua h
      cases h6
      rw[←h5];exact hk
     ·cases h
    ·intro hall
     split at h
     ·cases h;exact hk
     ·rename_i b key y hf
      have:(b,key,y)∈[(b,key,y)]:=List.mem_singleton.2 rfl
      rw[←hf,List.mem_filter] at this
      obtain⟨h7,h8⟩:=this
      obtain⟨i,hi⟩:=List.mem_iff_getElem?.1 h7
      have:=hall i b key y hi
      rw[←Yq] at this
      simp[this] at h8
     ·cases h
   ·cases h
  ·cases h
 ·cases h
def WQ (m:Mem) (n ver mm mver since:Nat) (seen:List Nat) (clock:Nat) (k:IntKind):List (Nat×Int×HV)→Option (List RM)
 | []=>some []
 | (b,key,y)::l=>fL (seen++[b]) fun s2=>m.set n (.iter ver (.ref mm mver) since s2 clock) fun m'=>bnd (WQ m n ver mm mver since seen clock k l) fun r=>some ((.tup [.bool true,.int k key,y],m')::r)
theorem zDz {n ver mm mver since:Nat} {seen:List Nat} {clock:Nat} {k:IntKind} {C:HV→PL→Prop}:∀(l:List (Nat×Int×HV)) (L:List RM),WQ m n ver mm mver since seen clock k l=some L→(∀r∈L,C r.1 r.2.pl)→
  ∀(b:Nat) (key:Int) (y:HV),(b,key,y)∈l→C (.tup [.bool true,.int k key,y]) (m.pl.set n (.iter ver (.ref mm mver) since (seen++[b]) clock))
 | [],_,_,_,b,key,y,hm=>by cases hm
 | (b',key',y')::l,L,h,hk,b,key,y,hm=>by
  simp only[WQ,yn] at h
  obtain⟨m2,h5,h6⟩:=Mem.ua h
  rw[zZ] at h6
  obtain⟨L2,h7,h8⟩:=h6
  cases h8
  rcases List.mem_cons.1 hm with h9 | h9
  ·cases h9
   rw[←h5]
   exact hk (_,m2) (List.mem_cons_self ..)
  ·exact zDz l L2 h7 (fun r hr=>hk r (List.mem_cons_of_mem _ hr)) b key y h9
/-- An iterator's next:whichever is left. -/
def QI (m:Mem) (it:HV):Option (List RM):=
 match it with
 | .ref n ver=>(match m.get n with
  | .iter ver' (.ref mm mver) since seen last=>on (Nat.beq ver ver') (match m.get mm with
   | .map mv clock k E=>on (Nat.beq mver mv&&Nat.beq clock since&&Nat.beq clock last) (match E.filter fun e=>!gw seen e.1 with
    | []=>some [(.tup [.bool false],m)]
    | e::l=>WQ m n ver mm mver since seen clock k (e::l))
   | _=>none)
  | _=>none)
 | _=>none
theorem zJD {it:HV} {L:List RM} {C:HV→PL→Prop} (h:QI m it=some L) (hk:∀r∈L,C r.1 r.2.pl):jA m.pl it C:=by
 unfold QI at h
 unfold jA
 split at h
 ·split at h
  ·rename_i hg
   rw[zS] at h
   obtain⟨h1,h⟩:=h
   simp only[Mem.get_eq,hg,ZJ]
   refine⟨zX.1 h1,?_⟩
   split at h
   ·rename_i hg2
    simp only[zS,Bool.and_eq_true,zX] at h
    obtain⟨⟨⟨h2,h3⟩,h4⟩,h⟩:=h
    simp only[hg2,qT]
    rename_i ver2 mm2 mver2 since2 seen2 last2 _ mv clock k E
    have mem:∀(i b:Nat) (key:Int) (y:HV) (seen:List Nat),E[i]? =some (b,key,y)→b∉seen→(b,key,y)∈E.filter fun e=>!gw seen e.1:=by
     intro i b key y seen hi hb
     rw[List.mem_filter]
     refine⟨List.mem_of_getElem? hi,?_⟩
     simp only[Bool.not_eq_true']
     rw[Bool.eq_false_iff,ne_eq,Yq];exact hb
    refine⟨h2,h3,h4,?_,?_⟩
    ·intro i b key y hi hb
     have hm:=mem i b key y _ hi hb
     split at h
     ·rename_i hf;rw[hf] at hm;cases hm
     ·rename_i e l hf
      rw[hf] at hm
      obtain rfl:=zX.1 h1
      exact zDz _ L h hk b key y hm
    ·intro hall
     split at h
     ·cases h;exact hk _ (List.mem_singleton.2 rfl)
     ·rename_i e l hf
      have hm:e∈e::l:=List.mem_cons_self ..
      rw[←hf,List.mem_filter] at hm
      obtain⟨h7,h8⟩:=hm
      obtain⟨i,hi⟩:=List.mem_iff_getElem?.1 h7
      have:=hall i e.1 e.2.1 e.2.2 hi
      rw[←Yq] at this
      simp[this] at h8
   ·cases h
  ·cases h
 ·cases h
def Vf (m:Mem) (it:HV):Option HV:=
 match it with
 | .ref n ver=>(match m.get n with
  | .iter ver' (.ref mm mver) _ seen last=>on (Nat.beq ver ver') (match m.get mm with
   | .map mv clock k E=>on (Nat.beq mver mv&&Nat.beq clock last) (match seen.getLast?.bind (xq · E) with
    | some (key,y)=>some (.tup [.int k key,y])
    | none=>none)
   | _=>none)
  | _=>none)
 | _=>none
theorem zKL {it y:HV} {C:HV→Prop} (h:Vf m it=some y) (hk:C y):gJ m.pl it C:=by
 unfold Vf at h
 unfold gJ
 split at h
 ·split at h
  ·rename_i hg
   rw[zS] at h
   obtain⟨h1,h⟩:=h
   simp only[Mem.get_eq,hg,ZJ]
   refine⟨zX.1 h1,?_⟩
   split at h
   ·rename_i hg2
    simp only[zS,Bool.and_eq_true,zX] at h
    obtain⟨⟨h2,h3⟩,h⟩:=h
    simp only[hg2,qT]
    refine⟨h2,h3,?_⟩
    split at h
    ·rename_i hs;rw[hs];cases h;exact hk
    ·cases h
   ·cases h
  ·cases h
 ·cases h
def Vz (P:Program) (t:TypeId) (x:HV):Option HV:=
 match P.underlying t with
 | some (.interface _)=>none
 | some _=>fH x fun x=>some (.iface t x)
 | none=>none
theorem zNB {t:TypeId} {x y:HV} {C:HV→Prop} (h:Vz P t x=some y) (hk:C y):uS P t x C:=by
 unfold Vz at h
 unfold uS
 cases hu:P.underlying t with
 | none=>rw[hu] at h;cases h
 | some d=>rw[hu] at h;cases d<;>(try simp only[uc,Option.some.injEq] at h)<;>first | (subst h;exact hk) | cases h
def QK (P:Program) (m:Mem) (op:BinOp) (t:TypeId) (x:HV):Option HV:=
 match P.underlying t with
 | some (.slice _)=>(match x with
  | .imm _ (_::_)=>eBt op false
  | .sl n ver _ (_+1) _=>on (Xw (m.get n) ver) (eBt op false)
  | _=>none)
 | _=>none
theorem zNZ {op:BinOp} {t:TypeId} {x y:HV} {C:HV→Prop} (h:QK P m op t x=some y) (hk:C y):jW P m.pl op t x C:=by
 unfold QK at h
 split at h
 ·rename_i e hu
  refine⟨⟨e,hu⟩,?_⟩
  split at h
  ·exact⟨fun e=>by simp at e,fun _=>xI h hk⟩
  ·rw[zS] at h
   exact⟨by rw[Mem.get_eq];exact Jg h.1,fun e=>by omega,fun _=>xI h.2 hk⟩
  ·cases h
 ·cases h
end
def KK (P:Program) (t:TypeId) (ok:Bool):HV→Option HV
 | .iface t' y=>bif Nat.beq t' t then some (bif ok then .tup [y,.bool true] else y) else on ok (bnd ((P.info? t).bind (·.zero)) fun z=>some (.tup [zv z,.bool false]))
 | _=>none
theorem zHl {P:Program} {t:TypeId} {ok:Bool} {x y:HV} {C:HV→Prop} (h:KK P t ok x=some y) (hk:C y):gd P t ok C x:=by
 cases x with
 | iface t' z=>
  simp only[KK] at h
  simp only[gd]
  cases hb:Nat.beq t' t
  ·rw[hb] at h
   simp only[cond_false,zS,zZ] at h
   obtain⟨h1,z,h2,h3⟩:=h
   have:t'≠t:=fun e=>by rw[zX.2 e] at hb;cases hb
   rw[if_neg this,h2]
   cases h3
   exact⟨h1,hk⟩
  ·rw[hb] at h
   rw[if_pos (zX.1 hb)]
   cases ok<;>(cases h;exact hk)
 | _=>cases h
def GQ (P:Program) (t:TypeId) (x:HV) (ok:Bool):Option TypeDesc→Option HV
 | none=>none
 | some (.interface _)=>none
 | some _=>KK P t ok x
theorem zGW {P:Program} {t:TypeId} {ok:Bool} {x y:HV} {d:Option TypeDesc} {C:HV→Prop} (h:GQ P t x ok d=some y) (hk:C y):Yf P t x ok C d:=by
 cases d with
 | none=>cases h
 | some d=>cases d<;>first | (cases h;done) | exact zHl h hk
/-! ### All operations -/
def eV (g:Nat→HV):Operand→HV
 | .tmp t=>g t
 | x=>ev [] x
theorem yY (f:FT) (x:Operand):ev f.fr x=eV f.get x:=by
 cases x<;>first | rfl | exact FT.get_eq f _
theorem gW (f:FT) (l:List Operand):l.map (ev f.fr)=l.map (eV f.get):=List.map_congr_left fun x _=>yY f x
theorem zJw (f:FT) (o:Option Operand):o.map (ev f.fr)=o.map (eV f.get):=by cases o<;>simp[yY]
theorem KN (f:FT) (l:List (Nat×Operand)):(l.map fun p=>(p.1,ev f.fr p.2))=l.map fun p=>(p.1,eV f.get p.2):=List.map_congr_left fun x _=>by rw[yY]
/-- The operations that leave memory as it is. -/
def jH (P:Program) (o:Oper) (g:Nat→HV) (m:Mem):Option HV:=
 match o.op with
 | .move x=>some (eV g x)
 | .assign x=>some (eV g x)
 | .pick c x y=>Ux (eV g c) (eV g x) (eV g y)
 | .load t x=>XY m (eV g x) (tsz P t)
 | .nilCheck x=>WW m (eV g x)
 | .binOp op t x y _=>bif vw y then none else XK P m op t (eV g x) (eV g y)
 | .unOp op _ x=>eUn op (eV g x)
 | .convert s d x=>WB P m s d (eV g x)
 | .fieldAddr s x f=>WK m (eV g x) (yX P s f)
 | .field t x f=>Wv P t (eV g x) f
 | .indexAddr t x i=>WO P m t (eV g x) (eV g i)
 | .index t x i=>VG P t (eV g x) (eV g i)
 | .extract x i=>QF (eV g x) i
 | .slice t x l h mx=>UX P m t (eV g x) (l.map (eV g)) (h.map (eV g)) (mx.map (eV g))
 | .build t ps=>UF P t (ps.toList.map fun p=>(p.1,eV g p.2))
 | .buildSlice t n ps=>Xp n (ps.toList.map fun p=>(p.1,eV g p.2)) (yV P t)
 | .makeInterface t x=>Vz P t (eV g x)
 | .lookup t mm x ok=>Wb m (eV g mm) (eV g x) ok (qA P t)
 | .makeFunc fn f c=>fLH (f.toList.map (eV g)) fun a=>fLH (c.toList.map (eV g)) fun b=>some (.func fn a b)
 | .call ⟨.builtin .len,args,ts⟩=>(match ts.toList,args.toList.map (eV g) with | [t],[x]=>Wa P m t x | _,_=>none)
 | .call ⟨.builtin .min,args,_⟩=>Ze false (args.toList.map (eV g))
 | .call ⟨.builtin .max,args,_⟩=>Ze true (args.toList.map (eV g))
 | _=>none
theorem Js {P:Program} {o:Oper} {f:FT} {m:Mem} {v:HV} {C:HV→Prop} (h:jH P o f.get m=some v) (hk:C v):yb P o f.fr m.pl C:=by
 obtain⟨dst,op,ty,pos,after,guard⟩:=o
 cases op with
 | call c=>
  obtain⟨callee,args,ts⟩:=c
  cases callee with
  | builtin b=>
   cases b<;>simp only[jH] at h<;>try (cases h;done)
   case len=>
    simp only[yb,gW]
    split at h
    ·rename_i h1 h2;rw[h1,h2];exact zHH h hk
    ·cases h
   case min=>simp only[yb,zT,gW];exact zEU h hk
   case max=>simp only[yb,zT,gW];exact zEU h hk
  | _=>cases h
 | binOp op t x y t2=>
  simp only[jH] at h
  cases hy:vw y
  ·rw[hy] at h;simp only[yb,zT,yY];exact zDk h hk
  ·rw[hy] at h;cases h
 | move x=>simp only[yb,zT,yY];cases h;exact hk
 | assign x=>simp only[yb,zT,yY];cases h;exact hk
 | pick c x y=>simp only[yb,zT,yY];exact zHg h hk
 | load t x=>simp only[yb,zT,yY];exact zC0 h hk
 | nilCheck x=>simp only[yb,zT,yY];exact zL0 h hk
 | unOp op t x=>simp only[yb,zT,yY];exact zRz h hk
 | convert s d x=>simp only[yb,zT,yY];exact zGG h hk
 | fieldAddr s x f=>simp only[yb,zT,yY];exact zJk h hk
 | field t x f=>simp only[yb,zT,yY];exact zQK h hk
 | indexAddr t x i=>simp only[yb,zT,yY];exact zQZ h hk
 | index t x i=>simp only[yb,zT,yY];exact zKY h hk
 | extract x i=>simp only[yb,zT,yY];exact zHJ h hk
 | slice t x l h' mx=>simp only[yb,zT,yY,zJw];exact zL9 h hk
 | build t ps=>simp only[yb,zT,KN];exact zK4 h hk
 | buildSlice t n ps=>simp only[yb,zT,KN];exact zCO h hk
 | makeInterface t x=>simp only[yb,zT,yY];exact zNB h hk
 | lookup t mm x ok=>simp only[yb,zT,yY];exact zL4 h hk
 | makeFunc fn f c=>simp only[jH,kJ] at h;simp only[yb,zT,gW];cases h;exact hk
 | _=>cases h
/-- A call,by what calls come to:all ways. -/
abbrev EC:=FuncId→List HV→Mem→Option (List RM)
def qe (P:Program) (ec:EC):Prop:=∀g args m L,ec g args m=some L→zI P g args m.pl fun v PS=>∃r∈L,v=r.1∧PS=r.2.pl
/-- Operations that are no calls. -/
def uJ (P:Program) (o:Oper) (g:Nat→HV) (m:Mem):Option RM:=
 match o.op with
 | .alloc t=>Xt P t m
 | .box _ x=>fH (eV g x) fun x=>Uo x m
 | .store t x y=>fH (eV g y) fun y=>UL m (eV g x) y (tsz P t)
 | .makeSlice t l c=>VU m (eV g l) (eV g c) (yV P t)
 | .makeMap t none=>QC m (Yv P t)
 | .mapUpdate t mm x y=>UY m (eV g mm) (eV g x) (eV g y) (qA P t)
 | .range t mm=>Vk m (eV g mm) (qA P t)
 | .next it false=>KV m (eV g it)
 | .entry it=>bnd (Vf m (eV g it)) fun v=>some (v,m)
 | .binOp op t x y _=>bnd (bif vw y then QK P m op t (eV g x) else XK P m op t (eV g x) (eV g y)) fun v=>some (v,m)
 | .call ⟨.builtin .append,args,ts⟩=>(match ts.toList,args.toList.map (eV g) with | [t,t2],[x,y]=>Uw P m t t2 x y | _,_=>none)
 | .call ⟨.builtin .copy,args,ts⟩=>(match ts.toList,args.toList.map (eV g) with | [t,_],[x,y]=>UJ P m t x y | _,_=>none)
 | .call ⟨.builtin .clear,args,ts⟩=>(match ts.toList,args.toList.map (eV g) with | [t],[x]=>WH P m t x | _,_=>none)
 | .call ⟨.builtin .delete,args,ts⟩=>(match ts.toList,args.toList.map (eV g) with | t::_,[mm,x]=>VC m mm x (qA P t) | _,_=>none)
 | .typeAssert x _ t ok=>bnd (GQ P t (eV g x) ok (P.underlying t)) fun v=>some (v,m)
 | _=>bnd (jH P o g m) fun v=>some (v,m)
def eOp (P:Program) (ec:EC) (o:Oper) (g:Nat→HV) (m:Mem):Option (List RM):=
 match o.op with
 | .call ⟨.invoke r nm,args,_⟩=>(match eV g r with
  | .iface t y=>bnd (jo P t nm) fun q=>fN q fun q=>on (zQ P q) (fLH (y::args.toList.map (eV g)) fun l=>ec q l m)
  | _=>none)
 | .next it false=>QI m (eV g it)
 | .call ⟨.value fv,args,_⟩=>bnd (wu (eV g fv)) fun q=>fN q.1 fun q1=>on (zQ P q1) (fLH (q.2.1++(args.toList.map (eV g)++q.2.2)) fun l=>ec q1 l m)
 | _=>bnd (uJ P o g m) fun r=>some [r]
theorem zLA {P:Program} {o:Oper} {f:FT} {m:Mem} {v:HV} {C:HV→PL→Prop} (h:jH P o f.get m=some v) (hk:C v m.pl):hop P o f.fr m.pl C:=by
 have:=Js (C:=fun v=>C v m.pl) h hk
 obtain⟨dst,op,ty,pos,after,guard⟩:=o
 cases op with
 | call c=>
  obtain⟨callee,args,ts⟩:=c
  cases callee with
  | builtin b=>
   cases b<;>simp only[jH] at h<;>try (cases h;done)
   case len=>
    simp only[yb] at this
    simp only[hop,vj]
    split at this
    ·rename_i h1 h2;rw[h1,h2];exact zDJ this
    ·exact this.elim
   case min=>simpa only[yb,zT,hop,vj] using this
   case max=>simpa only[yb,zT,hop,vj] using this
  | _=>cases h
 | binOp op t x y t2=>
  simp only[jH] at h
  cases hy:vw y
  ·simp only[hop,jq,hy,Bool.false_eq_true,if_false];exact this
  ·rw[hy] at h;cases h
 | makeMap t z=>cases h
 | next a b=>cases h
 | _=>first | exact this | cases h
theorem zLF {P:Program} {o:Oper} {f:FT} {m m':Mem} {v:HV} {C:HV→PL→Prop} (h:uJ P o f.get m=some (v,m')) (hk:C v m'.pl):hop P o f.fr m.pl C:=by
 have val:∀{o:Oper},(bnd (jH P o f.get m) fun v=>some (v,m))=some (v,m')→hop P o f.fr m.pl C:=fun h=>by
  rw[zZ] at h
  obtain⟨v',h1,h2⟩:=h
  cases h2
  exact zLA h1 hk
 obtain⟨dst,op,ty,pos,after,guard⟩:=o
 cases op with
 | alloc t=>exact zBb h hk
 | box t x=>simp only[uJ,uc] at h;simp only[hop,yY];exact zMG h hk
 | store t x y=>
  simp only[uJ,uc] at h
  simp only[hop,yY]
  obtain⟨rfl,_⟩:=zBo (C:=fun _=>True) h trivial
  exact(zBo (C:=fun PS'=>C .junk PS') h hk).2
 | makeSlice t l c=>simp only[hop,yY];exact zNI h hk
 | makeMap t z=>
  cases z with
  | none=>exact zMo h hk
  | some z=>exact val h
 | mapUpdate t mm x y=>
  simp only[hop,yY]
  obtain⟨rfl,_⟩:=zDE (C:=fun _=>True) h trivial
  exact(zDE (C:=fun PS'=>C .junk PS') h hk).2
 | range t mm=>simp only[hop,yY];exact zN6 h hk
 | next it b=>
  cases b with
  | false=>simp only[hop,yY];exact zLU h hk
  | true=>exact val h
 | entry it=>
  simp only[uJ,zZ] at h
  obtain⟨v',h1,h2⟩:=h
  cases h2
  simp only[hop,yY];exact zKL h1 hk
 | binOp op t x y t2=>
  simp only[uJ,zZ] at h
  obtain⟨v',h1,h2⟩:=h
  cases h2
  cases hy:vw y
  ·rw[hy] at h1
   simp only[hop,jq,hy,Bool.false_eq_true,if_false,yY];exact zDk (K:=fun v=>C v m.pl) h1 hk
  ·rw[hy] at h1
   simp only[hop,jq,hy,if_true,yY];exact zNZ (C:=fun v=>C v m.pl) h1 hk
 | call c=>
  obtain⟨callee,args,ts⟩:=c
  cases callee with
  | builtin b=>
   cases b
   case append=>
    simp only[uJ] at h
    simp only[hop,vj,gW]
    split at h
    ·rename_i h1 h2;rw[h1,h2];exact zKa h hk
    ·cases h
   case copy=>
    simp only[uJ] at h
    simp only[hop,vj,gW]
    split at h
    ·rename_i h1 h2;rw[h1,h2];exact zJn h hk
    ·cases h
   case clear=>
    simp only[uJ] at h
    simp only[hop,vj,gW]
    split at h
    ·rename_i h1 h2;rw[h1,h2];exact zHk h hk
    ·cases h
   case delete=>
    simp only[uJ] at h
    simp only[hop,vj,gW]
    split at h
    ·rename_i h1 h2;rw[h1,h2];exact zJd h hk
    ·cases h
   all_goals exact val h
  | _=>exact val h
 | typeAssert x xt t ok=>
  simp only[uJ,zZ] at h
  obtain⟨v',h1,h2⟩:=h
  cases h2
  simp only[hop,yY]
  exact zGW (C:=fun v=>C v m.pl) h1 hk
 | _=>exact val h
theorem Xa {P:Program} {ec:EC} (hec:qe P ec) {o:Oper} {f:FT} {m:Mem} {L:List RM} {C:HV→PL→Prop} (h:eOp P ec o f.get m=some L) (hk:∀r∈L,C r.1 r.2.pl):hop P o f.fr m.pl C:=by
 have mem:∀{o:Oper},(bnd (uJ P o f.get m) fun r=>some [r])=some L→hop P o f.fr m.pl C:=fun h=>by
  rw[zZ] at h
  obtain⟨⟨v',m'⟩,h1,h2⟩:=h
  cases h2
  exact zLF h1 (hk (v',m') (List.mem_singleton.2 rfl))
 have call:∀{g:FuncId} {args:List HV},ec g args m=some L→zI P g args m.pl C:=fun h=>(hec _ _ _ _ h).mono fun v PS ⟨r,hr,e1,e2⟩=>by
  subst e1;subst e2;exact hk r hr
 obtain⟨dst,op,ty,pos,after,guard⟩:=o
 cases op with
 | call c=>
  obtain⟨callee,args,ts⟩:=c
  cases callee with
  | value fv=>
   simp only[eOp,zZ,zS,kJ,yT] at h
   obtain⟨⟨g,a,c⟩,h1,h2,h3⟩:=h
   simp only[hop,yY,gW,h1,uh]
   exact⟨h2,call h3⟩
  | invoke r nm=>
   simp only[eOp] at h
   simp only[hop,yY,gW]
   split at h
   ·rename_i t y hr
    simp only[zZ,zS,kJ,yT] at h
    obtain⟨q,h1,h2,h3⟩:=h
    rw[hr]
    simp only[jZ,h1]
    exact⟨h2,call h3⟩
   ·cases h
  | _=>exact mem h
 | next it b=>
  cases b with
  | false=>simp only[hop,yY];exact zJD h hk
  | true=>exact mem h
 | _=>exact mem h
end Go.Eng
end
