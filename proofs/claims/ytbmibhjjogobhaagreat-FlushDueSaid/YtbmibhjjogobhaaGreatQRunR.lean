/-
A call that only reads: what it comes to as data, the memory as it was.
No conditions.
-/
import Derived.Test.YtbmibhjjogobhaaGreatQRunG
set_option linter.unusedSectionVars false
set_option linter.unusedSimpArgs false
set_option linter.unusedVariables false
noncomputable section
namespace Go.Eng
open Go
variable [zB]
/-- Rows frozen,one piece behind the other. -/
inductive gF:HV→PL→HV→PL→Prop
 | refl (r:HV) (PS:PL):gF r PS r PS
 | step {r r' r'':HV} {PS PS2 PS3:PL} {n ver sz:Nat} {E:List (List HV)} {opn:Bool} (hq:zA PS n=.arr ver sz E opn) (hx:qG n ver E r r') (hc:wD n ver E PS PS2) (h:gF r' PS2 r'' PS3):gF r PS r'' PS3
theorem Rel.GJ {F:Nat→Prop} {e:List Pos} {w:World} {r r':HV} {PS PS':PL} {v:Value} (h:gF r PS r' PS'):∀{D:Nat→Nat→Prop},Rel F e D PS w→zH (Mut F D) e w r v→∃D2,Rel F e D2 PS' w∧Tr e D w e D2 w∧zH (Mut F D2) e w r' v:=by
 induction h with
 | refl r PS=>intro D hr hv;exact⟨D,hr,.refl e D w,hv⟩
 | step hq hx hc _ ih=>
  intro D hr hv
  obtain⟨D2,h1,h2,h3⟩:=hr.frz hq hc
  obtain⟨D3,h4,h5,h6⟩:=ih h1 (h3 _ _ _ hx hv)
  exact⟨D3,h4,h2.trans h5,h6⟩
theorem zI.zJR {P:Program} {f:FuncId} {args:List HV} {PS:PL} {K:HV→PL→Prop} (h:zI P f args PS fun r PS'=>∃r' PS2,gF r PS' r' PS2∧K r' PS2):zI P f args PS K:=by
 intro F e D w vs hr hf
 refine(h F e D w vs hr hf).mono ?_
 rintro en w' ⟨v,x,PS',e',D',rfl,⟨r',PS2,hs,hk⟩,hr',ht,hv⟩
 obtain⟨D2,h1,h2,h3⟩:=hr'.GJ hs hv
 exact⟨v,r',PS2,e',D2,rfl,hk,h1,ht.trans h2,h3⟩
def VM:Nat→HV→List Nat→List Nat
 | _+1,.sl n _ _ _ _,acc=>bif gw acc n then acc else n::acc
 | k+1,.agg l,acc=>l.foldr (fun x acc=>VM k x acc) acc
 | k+1,.tup l,acc=>l.foldr (fun x acc=>VM k x acc) acc
 | _,_,acc=>acc
def fz (n ver:Nat) (E:List (List HV)) (len0:Nat):Nat→HV→HV
 | _+1,.sl n' ver' i len c=>bif Nat.beq n' n&&Nat.beq ver' ver&&Nat.ble (i+len) len0 then .imm false (uF len (jQ i E)) else .sl n' ver' i len c
 | k+1,.agg l=>.agg (l.map (fz n ver E len0 k))
 | k+1,.tup l=>.tup (l.map (fz n ver E len0 k))
 | _,x=>x
theorem Gn (n ver:Nat) (E:List (List HV)):∀(k:Nat) (x:HV),qG n ver E x (fz n ver E E.length k x)
 | 0,x=>by unfold fz;exact .same x
 | k+1,x=>by
  cases x with
  | sl n' ver' i len c=>
   unfold fz
   cases hb:Nat.beq n' n&&Nat.beq ver' ver&&Nat.ble (i+len) E.length
   ·exact .same _
   ·simp only[Bool.and_eq_true,zX,yk] at hb
    obtain⟨⟨rfl,rfl⟩,hle⟩:=hb
    simp only[cond_true,uW,uz]
    exact .sl i len c hle
  | agg l=>
   unfold fz
   refine .agg _ _ (by simp) fun i x y hx hy=>?_
   rw[List.getElem?_map,hx] at hy;cases hy
   exact Gn n ver E k x
  | tup l=>
   unfold fz
   refine .tup _ _ (by simp) fun i x y hx hy=>?_
   rw[List.getElem?_map,hx] at hy;cases hy
   exact Gn n ver E k x
  | _=>unfold fz;exact .same _
def Zt (n0:Nat):List Nat→HV→Mem→Option RM
 | [],v,m=>some (v,m)
 | n::l,v,m=>bif Nat.blt n n0 then Zt n0 l v m else match m.get n with
  | .arr ver _ E _=>fN (wb E) fun len0=>fH (fz n ver E len0 5 v) fun v=>m.set n .dead fun m'=>Zt n0 l v m'
  | _=>none
theorem Xy (n0:Nat):∀(l:List Nat) (v:HV) (m:Mem) (r:RM),Zt n0 l v m=some r→gF v m.pl r.1 r.2.pl
 | [],v,m,r,h=>by cases h;exact .refl _ _
 | n::l,v,m,r,h=>by
  unfold Zt at h
  cases hb:Nat.blt n n0
  ·rw[hb] at h
   simp only[cond_false] at h
   split at h
   ·rename_i ver sz E o hg
    simp only[yT,uc,wk] at h
    obtain⟨m2,h1,h2⟩:=Mem.ua h
    have:=Xy n0 l _ m2 r h2
    rw[h1] at this
    have hg':zA m.pl n=.arr ver sz E o:=by rw[Mem.get_eq];exact hg
    exact .step hg' (Gn n ver E 5 v) (wD.only (yB hg')) this
   ·cases h
  ·rw[hb] at h
   exact Xy n0 l v m r h
/-- It names pieces below k alone. -/
def scB (k:Nat):Nat→HV→Bool
 | _+1,.bool _=>true
 | _+1,.int _ _=>true
 | _+1,.str _=>true
 | _+1,.tok _ _=>true
 | _+1,.stok _=>true
 | _+1,.nam _=>true
 | _+1,.anyb=>true
 | _+1,.any _ _ _=>true
 | _+1,.cst _=>true
 | _+1,.ptr n _ _ _=>Nat.blt n k
 | _+1,.sl n _ _ _ _=>Nat.blt n k
 | j+1,.imm _ E=>E.all fun r=>r.all (scB k j)
 | j+1,.agg l=>l.all (scB k j)
 | j+1,.tup l=>l.all (scB k j)
 | _,_=>false
theorem Yy (k:Nat):∀(j:Nat) (x:HV),scB k j x=true→zc k x
 | 0,x,h=>by simp[scB] at h
 | j+1,x,h=>by
  cases x with
  | bool b=>exact .bool b
  | int a n=>exact .int a n
  | str s=>exact .str s
  | tok a i=>exact .tok a i
  | stok i=>exact .stok i
  | nam i=>exact .nam i
  | anyb=>exact .anyb
  | any a q r=>exact .any a q r
  | cst v=>exact .cst v
  | ptr n v i c=>exact .ptr n v i c (vM.1 h)
  | sl n v i l c=>exact .sl n v i l c (vM.1 h)
  | imm t E=>
   rw[xe]
   intro l hl x hx
   exact Yy k j x (List.all_eq_true.1 (List.all_eq_true.1 h l hl) x hx)
  | agg l=>rw[wE];intro x hx;exact Yy k j x (List.all_eq_true.1 h x hx)
  | tup l=>rw[jn];intro x hx;exact Yy k j x (List.all_eq_true.1 h x hx)
  | _=>simp[scB] at h
def vBq (x y:HV):Bool:=
 match x,y with
 | .cst (.func (.func f) ⟨[]⟩ ⟨[]⟩),.cst (.func (.func g) ⟨[]⟩ ⟨[]⟩)=>Nat.beq f g
 | .cst (.tuple ⟨[]⟩),.cst (.tuple ⟨[]⟩)=>true
 | x,y=>qp 9 x y
theorem zQW (x y:HV) (h:vBq x y=true):x=y:=by
 unfold vBq at h
 split at h
 ·rw[zX.1 h]
 ·rfl
 ·exact ur _ _ _ h
def pBq (p q:zC):Bool:=
 match p,q with
 | .arr v s E o,.arr v' s' E' o'=>Nat.beq v v'&&Nat.beq s s'&&(o == o')&&yJ (yJ vBq) E E'
 | p,q=>Yr p q
theorem zLk (p q:zC) (h:pBq p q=true):p=q:=by
 unfold pBq at h
 split at h
 ·simp only[Bool.and_eq_true,zX] at h
  obtain⟨⟨⟨rfl,rfl⟩,h⟩,h2⟩:=h
  rw[ZM h,ql _ _ (fun a b=>ql a b zQW) h2]
 ·exact Ji _ _ h
/-- The pieces below k are as they were. -/
def UC (m m':Mem):Nat→Bool
 | 0=>true
 | k+1=>bif pBq (m'.get k) (m.get k) then UC m m' k else false
theorem zEf {m m':Mem}:∀(k:Nat),UC m m' k=true→∀n,n<k→zA m'.pl n=zA m.pl n
 | 0,_,n,hn=>by omega
 | k+1,h,n,hn=>by
  unfold UC at h
  cases hb:pBq (m'.get k) (m.get k)
  ·rw[hb] at h;cases h
  ·rw[hb] at h
   rcases Nat.lt_or_ge n k with h' | h'
   ·exact zEf k h n h'
   ·have:n=k:=by omega
    subst this
    rw[Mem.get_eq,Mem.get_eq];exact zLk _ _ hb
def XL (m:Mem) (r:RM):Option HV:=
 fL (VM 5 r.1 []) fun ps=>bnd (Zt m.n ps r.1 r.2) fun q=>on (Nat.ble m.n q.2.n&&scB m.n 9 q.1&&UC m q.2 m.n) (some q.1)
theorem zBv {m:Mem} {r:RM} {v:HV} (h:XL m r=some v):∃PS2,gF r.1 r.2.pl v PS2∧zc m.pl.length v∧Ext [] m.pl PS2:=by
 simp only[XL,yn,zZ,zS,Bool.and_eq_true,yk] at h
 obtain⟨q,h1,⟨⟨h2,h3⟩,h4⟩,h5⟩:=h
 cases h5
 refine⟨q.2.pl,Xy _ _ _ _ _ h1,?_,?_,fun n hn _=>?_⟩
 ·rw[Mem.len];exact Yy _ _ _ h3
 ·rw[Mem.len,Mem.len];exact h2
 ·rw[Mem.len] at hn;exact zEf _ h4 n hn
def dat (m:Mem) (L:List RM):Option (List RM):=
 match L with
 | []=>none
 | r::l=>bnd (XL m r) fun v=>on (gN (fun q=>match XL m q with | some v'=>qp 9 v v' | none=>false) l) (some [(v,m)])
theorem zQO {P:Program} {g:FuncId} {args:List HV} {m:Mem} {L L':List RM} (h:dat m L=some L') (hc:zI P g args m.pl fun v PS=>∃x∈L,v=x.1∧PS=x.2.pl):zI P g args m.pl fun v PS=>∃x∈L',v=x.1∧PS=x.2.pl:=by
 unfold dat at h
 split at h
 ·cases h
 ·rename_i r l
  rw[zZ] at h
  obtain⟨v,h1,h2⟩:=h
  rw[zS] at h2
  obtain⟨h3,h4⟩:=h2
  cases h4
  have hall:∀x∈r::l,XL m x=some v:=by
   intro x hx
   rcases List.mem_cons.1 hx with rfl | hx
   ·exact h1
   ·rw[xM] at h3
    have:=List.all_eq_true.1 h3 x hx
    split at this
    ·rename_i v' hv'
     rw[hv',ur _ _ _ this]
    ·cases this
  obtain⟨_,_,hsc,_⟩:=zBv h1
  refine(zI.data hsc (zI.zJR (hc.mono ?_))).mono ?_
  ·rintro y PS ⟨x,hx,rfl,rfl⟩
   obtain⟨PS2,h5,_,h6⟩:=zBv (hall x hx)
   exact⟨v,PS2,h5,rfl,h6⟩
  ·rintro y PS ⟨rfl,rfl⟩
   exact⟨_,List.mem_singleton.2 rfl,rfl,rfl⟩
end Go.Eng
end
