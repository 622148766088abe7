/-
A run of code and of calls, worked out by the kernel: it holds of the abstract meaning.
No conditions.
-/
import Derived.Test.YtbmibhjjogobhaaGreatQRunC
import Derived.Test.YtbmibhjjogobhaaGreatQEngWd
set_option linter.unusedSectionVars false
set_option linter.unusedSimpArgs false
set_option linter.unusedVariables false
noncomputable section
namespace Go.Eng
open Go
variable [zB]
def yJ {α:Type} (f:α→α→Bool):List α→List α→Bool
 | [],[]=>true
 | a::l,b::r=>f a b&&yJ f l r
 | _,_=>false
theorem ql {α:Type} {f:α→α→Bool}:∀(l r:List α),(∀a b,f a b=true→a=b)→yJ f l r=true→l=r
 | [],[],_,_=>rfl
 | a::l,b::r,hf,h=>by
  simp only[yJ,Bool.and_eq_true] at h
  rw[hf a b h.1,ql l r hf h.2]
 | [],_::_,_,h=>by cases h
 | _::_,[],_,h=>by cases h
def Vp:Option Nat→Option Nat→Bool
 | none,none=>true
 | some a,some b=>Nat.beq a b
 | _,_=>false
theorem zDG {a b:Option Nat} (h:Vp a b=true):a=b:=by
 cases a<;>cases b<;>simp[Vp] at h ⊢;exact h
theorem ZM {a b:Bool} (h:(a == b)=true):a=b:=by cases a<;>cases b<;>first | rfl | cases h
def qp:Nat→HV→HV→Bool
 | 0,_,_=>false
 | _+1,.bool a,.bool b=>a == b
 | _+1,.int k a,.int k' b=>kEq k k'&&iEq a b
 | _+1,.str a,.str b=>sEq a b
 | _+1,.ptr n v i k,.ptr n' v' i' k'=>Nat.beq n n'&&Nat.beq v v'&&Nat.beq i i'&&Nat.beq k k'
 | _+1,.sl n v i l c,.sl n' v' i' l' c'=>Nat.beq n n'&&Nat.beq v v'&&Nat.beq i i'&&Nat.beq l l'&&Vp c c'
 | _+1,.isl n v i k l c,.isl n' v' i' k' l' c'=>Nat.beq n n'&&Nat.beq v v'&&Nat.beq i i'&&Nat.beq k k'&&Nat.beq l l'&&Nat.beq c c'
 | _+1,.ref n v,.ref n' v'=>Nat.beq n n'&&Nat.beq v v'
 | _+1,.tok k i,.tok k' i'=>kEq k k'&&Nat.beq i i'
 | _+1,.stok i,.stok i'=>Nat.beq i i'
 | _+1,.nam i,.nam i'=>Nat.beq i i'
 | n+1,.agg a,.agg b=>yJ (qp n) a b
 | n+1,.imm t a,.imm t' b=>(t == t')&&yJ (yJ (qp n)) a b
 | n+1,.iptr a k,.iptr b k'=>yJ (qp n) a b&&Nat.beq k k'
 | n+1,.func (.func g) f c,.func (.func g') f' c'=>Nat.beq g g'&&yJ (qp n) f f'&&yJ (qp n) c c'
 | n+1,.iface t x,.iface t' y=>Nat.beq t t'&&qp n x y
 | n+1,.tup a,.tup b=>yJ (qp n) a b
 | _+1,.cst (.pointer none),.cst (.pointer none)=>true
 | _+1,.cst (.map none),.cst (.map none)=>true
 | _+1,.cst .nilIface,.cst .nilIface=>true
 | _+1,.cst .nilFunc,.cst .nilFunc=>true
 | _+1,.junk,.junk=>true
 | _,_,_=>false
theorem Xs {a b:Int} (h:iEq a b=true):a=b:=by rw[←gq] at h;exact of_decide_eq_true h
theorem zAR {a b:List UInt8} (h:sEq a b=true):a=b:=by rw[←Gf] at h;exact of_decide_eq_true h
theorem ur:∀(n:Nat) (x y:HV),qp n x y=true→x=y:=by
 intro n
 induction n with
 | zero=>intro x y h;simp[qp] at h
 | succ n ih=>
  intro x y h
  unfold qp at h
  split at h<;>(try simp only[Bool.and_eq_true,zX,Nat.add_right_cancel_iff,Nat.succ.injEq] at*)
  ·cases h
  ·rw[ZM h]
  ·rw[yc h.1,Xs h.2]
  ·rw[zAR h]
  ·obtain⟨⟨⟨rfl,rfl⟩,rfl⟩,rfl⟩:=h;rfl
  ·obtain⟨⟨⟨⟨rfl,rfl⟩,rfl⟩,rfl⟩,h⟩:=h;rw[zDG h]
  ·obtain⟨⟨⟨⟨⟨rfl,rfl⟩,rfl⟩,rfl⟩,rfl⟩,rfl⟩:=h;rfl
  ·obtain⟨rfl,rfl⟩:=h;rfl
  ·obtain⟨h1,rfl⟩:=h;rw[yc h1]
  ·obtain rfl:=h;rfl
  ·obtain rfl:=h;rfl
  ·subst_vars;rw[ql _ _ ih h]
  ·subst_vars;rw[ZM h.1,ql _ _ (fun a b=>ql a b ih) h.2]
  ·subst_vars;obtain⟨h,rfl⟩:=h;rw[ql _ _ ih h]
  ·subst_vars;obtain⟨⟨rfl,h1⟩,h2⟩:=h;rw[ql _ _ ih h1,ql _ _ ih h2]
  ·subst_vars;obtain⟨rfl,h1⟩:=h;rw[ih _ _ h1]
  ·subst_vars;rw[ql _ _ ih h]
  all_goals first | rfl | cases h
def QY (a b:Nat×Int×HV):Bool:=Nat.beq a.1 b.1&&iEq a.2.1 b.2.1&&qp 9 a.2.2 b.2.2
theorem zOI (a b:Nat×Int×HV) (h:QY a b=true):a=b:=by
 simp only[QY,Bool.and_eq_true,zX] at h
 exact Prod.ext h.1.1 (Prod.ext (Xs h.1.2) (ur _ _ _ h.2))
def KL (a b:Nat×Nat×HV):Bool:=Nat.beq a.1 b.1&&Nat.beq a.2.1 b.2.1&&qp 9 a.2.2 b.2.2
theorem zMK (a b:Nat×Nat×HV) (h:KL a b=true):a=b:=by
 simp only[KL,Bool.and_eq_true,zX] at h
 exact Prod.ext h.1.1 (Prod.ext h.1.2 (ur _ _ _ h.2))
def Yr:zC→zC→Bool
 | .dead,.dead=>true
 | .arr v s E o,.arr v' s' E' o'=>Nat.beq v v'&&Nat.beq s s'&&(o == o')&&yJ (yJ (qp 9)) E E'
 | .map v c k E,.map v' c' k' E'=>Nat.beq v v'&&Nat.beq c c'&&kEq k k'&&yJ QY E E'
 | .mapT v c k E,.mapT v' c' k' E'=>Nat.beq v v'&&Nat.beq c c'&&kEq k k'&&yJ KL E E'
 | .iter v x a l b,.iter v' x' a' l' b'=>Nat.beq v v'&&qp 9 x x'&&Nat.beq a a'&&yJ Nat.beq l l'&&Nat.beq b b'
 | _,_=>false
theorem Ji (p q:zC) (h:Yr p q=true):p=q:=by
 unfold Yr at h
 split at h<;>(try simp only[Bool.and_eq_true,zX] at h)
 ·rfl
 ·obtain⟨⟨⟨rfl,rfl⟩,h⟩,h2⟩:=h
  rw[ZM h,ql _ _ (fun a b=>ql a b (ur 9)) h2]
 ·obtain⟨⟨⟨rfl,rfl⟩,h⟩,h2⟩:=h
  rw[yc h,ql _ _ zOI h2]
 ·obtain⟨⟨⟨rfl,rfl⟩,h⟩,h2⟩:=h
  rw[yc h,ql _ _ zMK h2]
 ·obtain⟨⟨⟨⟨rfl,h⟩,rfl⟩,h2⟩,rfl⟩:=h
  rw[ur _ _ _ h,ql _ _ (fun a b=>zX.1) h2]
 ·cases h
/-! ### Renamed pieces -/
def swp (a b n:Nat):Nat:=bif Nat.beq n a then b else bif Nat.beq n b then a else n
theorem Xv (a b n:Nat):swp a b (swp a b n)=n:=by
 unfold swp
 cases h1:Nat.beq n a<;>cases h2:Nat.beq n b<;>simp only[cond_true,cond_false,h1,h2]
 ·cases h3:Nat.beq a a
  ·exact absurd (zX.2 rfl) (by rw[h3];decide)
  ·simp only[cond_true];exact(zX.1 h2).symm
 ·cases h3:Nat.beq b a
  ·have:Nat.beq b b=true:=zX.2 rfl
   simp only[cond_false,this,cond_true];exact(zX.1 h1).symm
  ·simp only[cond_true];rw[zX.1 h1,zX.1 h3]
 ·have ha:=zX.1 h1
  have hb:=zX.1 h2
  subst ha;subst hb
  simp[zX.2 (rfl:n=n)]
def wY (s:Nat→Nat):Nat→HV→HV→Bool
 | 0,_,_=>false
 | _+1,.bool a,.bool b=>a == b
 | _+1,.int k a,.int k' b=>kEq k k'&&iEq a b
 | _+1,.str a,.str b=>sEq a b
 | _+1,.ptr n v i k,.ptr n' v' i' k'=>Nat.beq (s n) n'&&Nat.beq v v'&&Nat.beq i i'&&Nat.beq k k'
 | _+1,.sl n v i l c,.sl n' v' i' l' c'=>Nat.beq (s n) n'&&Nat.beq v v'&&Nat.beq i i'&&Nat.beq l l'&&Vp c c'
 | _+1,.isl n v i k l c,.isl n' v' i' k' l' c'=>Nat.beq (s n) n'&&Nat.beq v v'&&Nat.beq i i'&&Nat.beq k k'&&Nat.beq l l'&&Nat.beq c c'
 | _+1,.ref n v,.ref n' v'=>Nat.beq (s n) n'&&Nat.beq v v'
 | _+1,.tok k i,.tok k' i'=>kEq k k'&&Nat.beq i i'
 | _+1,.stok i,.stok i'=>Nat.beq i i'
 | _+1,.nam i,.nam i'=>Nat.beq i i'
 | n+1,.agg a,.agg b=>yJ (wY s n) a b
 | n+1,.tup a,.tup b=>yJ (wY s n) a b
 | n+1,.imm t a,.imm t' b=>(t == t')&&yJ (yJ (wY s n)) a b
 | n+1,.iptr a k,.iptr b k'=>yJ (wY s n) a b&&Nat.beq k k'
 | _+1,.cst (.pointer none),.cst (.pointer none)=>true
 | _+1,.cst (.map none),.cst (.map none)=>true
 | _+1,.cst .nilIface,.cst .nilIface=>true
 | _+1,.cst .nilFunc,.cst .nilFunc=>true
 | _+1,.cst (.func (.func f) ⟨[]⟩ ⟨[]⟩),.cst (.func (.func g) ⟨[]⟩ ⟨[]⟩)=>Nat.beq f g
 | n+1,.func (.func g) f c,.func (.func g') f' c'=>Nat.beq g g'&&yJ (wY s n) f f'&&yJ (wY s n) c c'
 | _+1,.cst (.tuple ⟨[]⟩),.cst (.tuple ⟨[]⟩)=>true
 | n+1,.iface t x,.iface t' y=>Nat.beq t t'&&wY s n x y
 | _+1,.anyb,.anyb=>true
 | _,_,.junk=>true
 | _,_,_=>false
theorem wx {α:Type} {f:α→α→Bool}:∀{l r:List α},yJ f l r=true→l.length=r.length∧∀(i:Nat) (y:α),r[i]? =some y→∃x,l[i]? =some x∧f x y=true
 | [],[],_=>⟨rfl,by simp⟩
 | a::l,b::r,h=>by
  simp only[yJ,Bool.and_eq_true] at h
  obtain⟨h1,h2⟩:=wx h.2
  refine⟨by simp[h1],fun i y hy=>?_⟩
  cases i with
  | zero=>simp at hy;subst hy;exact⟨a,by simp,h.1⟩
  | succ i=>simpa using h2 i y (by simpa using hy)
 | [],_::_,h=>by cases h
 | _::_,[],h=>by cases h
section
variable {M:Nat→Prop} {e e':List Pos} {w:World} {s:Nat→Nat}
theorem zH.zHP {f:HV→HV→Bool} {t:Bool} {E E':List (List HV)} {v:Value} (hb':yJ (yJ f) E E'=true) (ih:∀x y,f x y=true→∀v,zH M e w x v→zH M e' w y v) (hv:zH M e w (.imm t E) v):zH M e' w (.imm t E') v:=by
 obtain⟨h1,h2⟩:=wx hb'
 cases hv with | imm _ _ a c b o sz val hc hm ht hn ha hb hsz h1c hcell zT=>
  have cell:∀(i:Nat) (l:List HV) (k:Nat) (x:HV),E'[i]? =some l→l[k]? =some x→∃l0 x0,E[i]? =some l0∧l0[k]? =some x0∧f x0 x=true:=by
   intro i l j x hi hj
   obtain⟨l0,h3,h4⟩:=h2 i l hi
   obtain⟨x0,h5,h6⟩:=(wx h4).2 j x hj
   exact⟨l0,x0,h3,h5,h6⟩
  have:=zH.imm (M:=M) (e:=e') (w:=w) t E' a c b o sz val (by omega) hm (fun e=>by rw[←h1];exact ht e) hn ha (fun hE=>hb (by rintro rfl;cases E' with | nil=>exact hE rfl | cons _ _=>simp at h1))
   (fun l hl=>by
    obtain⟨i,hi⟩:=List.mem_iff_getElem?.1 hl
    obtain⟨l0,h3,h4⟩:=h2 i l hi
    rw[←(wx h4).1];exact hsz l0 (List.mem_of_getElem? h3)) h1c
   (fun i l j x hi hj=>by obtain⟨l0,x0,h3,h4,_⟩:=cell i l j x hi hj;exact hcell i l0 j x0 h3 h4)
   (fun i l j x hi hj=>by obtain⟨l0,x0,h3,h4,h5⟩:=cell i l j x hi hj;exact ih x0 x h5 _ (zT i l0 j x0 h3 h4))
  rw[←h1] at this
  exact this
theorem zH.ren (hs:∀n,e'[s n]? =e[n]?):∀(k:Nat) (x y:HV),wY s k x y=true→∀v,zH M e w x v→zH M e' w y v:=by
 intro k
 induction k with
 | zero=>intro x y h;simp[wY] at h
 | succ k ih=>
  intro x y h v hv
  unfold wY at h
  split at h<;>(try simp only[Bool.and_eq_true,zX,Nat.add_right_cancel_iff,Nat.succ.injEq] at*)
  ·cases h
  ·cases hv;rw[ZM h];exact .bool _
  ·cases hv;rw[yc h.1,Xs h.2];exact .int _ _
  ·cases hv;rw[zAR h];exact .str _
  ·obtain⟨⟨⟨h1,rfl⟩,rfl⟩,rfl⟩:=h
   cases hv with | ptr _ _ _ _ _ p hp hv hh h1'=>exact .ptr _ _ _ _ _ p (by rw[←h1,hs];exact hp) hv hh h1'
  ·obtain⟨⟨⟨⟨h1,rfl⟩,rfl⟩,rfl⟩,h2⟩:=h
   have:=zDG h2
   subst this
   cases hv with | sl _ _ _ _ _ _ p hp hv hh h1'=>exact .sl _ _ _ _ _ _ p (by rw[←h1,hs];exact hp) hv hh h1'
  ·obtain⟨⟨⟨⟨⟨h1,rfl⟩,rfl⟩,rfl⟩,rfl⟩,rfl⟩:=h
   cases hv with | isl _ _ _ _ _ _ _ p hp hv hh h1'=>exact .isl _ _ _ _ _ _ _ p (by rw[←h1,hs];exact hp) hv hh h1'
  ·obtain⟨h1,rfl⟩:=h
   cases hv with | ref _ _ _ p hp hv hh h1'=>exact .ref _ _ _ p (by rw[←h1,hs];exact hp) hv hh h1'
  ·obtain⟨h1,rfl⟩:=h
   rw[←yc h1];cases hv;exact .tok _ _
  ·obtain rfl:=h
   cases hv;exact .stok _
  ·obtain rfl:=h
   cases hv with | nam _ _ hh=>exact .nam _ _ (hh.uv (k:=0) (fun n hn=>by omega) (fun b h=>h) (Flat.scoped (zB.flat _)))
  ·subst_vars
   obtain⟨h1,h2⟩:=wx h
   cases hv with | agg _ vs hl hh=>
    refine .agg _ vs (by omega) fun i y u hy hu=>?_
    obtain⟨x,h3,h4⟩:=h2 i y hy
    exact ih x y h4 u (hh i x u h3 hu)
  ·subst_vars
   obtain⟨h1,h2⟩:=wx h
   cases hv with | tup _ vs hl hh=>
    refine .tup _ vs (by omega) fun i y u hy hu=>?_
    obtain⟨x,h3,h4⟩:=h2 i y hy
    exact ih x y h4 u (hh i x u h3 hu)
  ·subst_vars
   have ht:=ZM h.1
   subst ht
   exact zH.zHP h.2 ih hv
  ·subst_vars
   obtain⟨h,rfl⟩:=h
   obtain⟨h1,h2⟩:=wx h
   cases hv with | iptr _ _ b o val hb h1c hcell zT=>
    refine .iptr _ _ b o val hb h1c (fun j x hj=>?_) (fun j x hj=>?_)
    ·obtain⟨x0,h3,h4⟩:=h2 j x hj;exact hcell j x0 h3
    ·obtain⟨x0,h3,h4⟩:=h2 j x hj;exact ih x0 x h4 _ (zT j x0 h3)
  ·cases hv;exact .cst _
  ·cases hv;exact .cst _
  ·cases hv;exact .cst _
  ·cases hv;exact .cst _
  ·obtain rfl:=h
   cases hv;exact .cst _
  ·subst_vars
   obtain⟨⟨rfl,h1⟩,h2⟩:=h
   obtain⟨h3,h4⟩:=wx h1
   obtain⟨h5,h6⟩:=wx h2
   cases hv with | func _ _ _ fs cs hf hc hh hh'=>
    refine .func _ _ _ fs cs (by omega) (by omega) (fun i y u hy hu=>?_) (fun i y u hy hu=>?_)
    ·obtain⟨x,h7,h8⟩:=h4 i y hy;exact ih x y h8 u (hh i x u h7 hu)
    ·obtain⟨x,h7,h8⟩:=h6 i y hy;exact ih x y h8 u (hh' i x u h7 hu)
  ·cases hv;exact .cst _
  ·subst_vars
   obtain⟨rfl,h1⟩:=h
   cases hv with | iface _ _ u hu=>exact .iface _ _ _ (ih _ _ h1 _ hu)
  ·cases hv;exact .anyb _
  ·exact .junk _
  ·cases h
def zF3 (k:IntKind) (n:Int) (y:HV):Bool:=
 HV.rec (motive_1:=fun _=>IntKind→Int→Bool) (motive_2:=fun _=>Unit) (motive_3:=fun _=>Unit) (fun _ _ _=>false) (fun k' n' k n=>kEq k k'&&iEq n n') (fun _ _ _=>false) (fun _ _ _=>false) (fun _ _ _ _ _=>false) (fun _ _ _ _ _=>false) (fun _ _ _ _ _ _=>false) (fun _ _ _ _ _ _ _=>false) (fun _ _ _ _ _ _ _ _=>false) (fun _ _ _ _=>false) (fun _ _ _ _=>false) (fun _ _ _ _=>false) (fun _ _ _ _ _ _ _=>false) (fun _ _ _ _ _=>false) (fun _ _ _ _ _=>false) (fun _ _=>false) (fun _ _ _ _=>false) (fun _ _ _=>false) (fun _ _ _=>false) (fun _ _=>false) () (fun _ _ _ _=>()) () (fun _ _ _ _=>()) y k n
def Kq (x:HV):HV→Bool:=
 HV.rec (motive_1:=fun _=>HV→Bool) (motive_2:=fun _=>Unit) (motive_3:=fun _=>Unit) (fun _ _=>false) zF3 (fun _ _=>false) (fun _ _=>false) (fun _ _ _ _=>false) (fun _ _ _ _=>false) (fun _ _ _ _ _=>false) (fun _ _ _ _ _ _=>false) (fun _ _ _ _ _ _ _=>false) (fun _ _ _=>false) (fun _ _ _=>false) (fun _ _ _=>false) (fun _ _ _ _ _ _=>false) (fun _ _ _ _=>false) (fun _ _ _ _=>false) (fun _=>false) (fun _ _ _=>false) (fun _ _=>false) (fun _ _=>false) (fun _=>false) () (fun _ _ _ _=>()) () (fun _ _ _ _=>()) x
theorem zGj {x y:HV} (h:Kq x y=true):∃k n,x=.int k n∧y=.int k n:=by
 cases x with
 | int k n=>
  cases y with
  | int k' n'=>
   have h':(kEq k k'&&iEq n n')=true:=h
   rw[Bool.and_eq_true] at h'
   exact⟨k,n,rfl,by rw[yc h'.1,Xs h'.2]⟩
  | _=>cases h
 | _=>cases h
/-- Numbers first. -/
def VS (s:Nat→Nat) (x y:HV):Bool:=Bool.rec (motive:=fun _=>Bool) (wY s 9 x y) true (Kq x y)
theorem zH.zHX (hs:∀n,e'[s n]? =e[n]?) (x y:HV) (h:VS s x y=true) (v:Value) (hv:zH M e w x v):zH M e' w y v:=by
 unfold VS at h
 cases hi:Kq x y with
 | false=>rw[hi] at h;exact zH.ren hs 9 x y h v hv
 | true=>
  obtain⟨k,n,rfl,rfl⟩:=zGj hi
  cases hv;exact .int _ _
/-- Rows alike,worked through with few steps. -/
def Wl {α:Type} (f:α→α→Bool) (l:List α):List α→Bool:=
 List.rec (motive:=fun _=>List α→Bool) (fun r=>List.rec (motive:=fun _=>Bool) true (fun _ _ _=>false) r) (fun a _ ih r=>List.rec (motive:=fun _=>Bool) false (fun b t _=>Bool.rec (motive:=fun _=>Bool) false (ih t) (f a b)) r) l
theorem JD {α:Type} (f:α→α→Bool):∀(l r:List α),Wl f l r=yJ f l r
 | [],[]=>rfl
 | [],_::_=>rfl
 | _::_,[]=>rfl
 | a::l,b::r=>by
  show Bool.rec (motive:=fun _=>Bool) false (Wl f l r) (f a b)=_
  rw[yJ,JD f l r]
  cases f a b<;>rfl
def QR (s:Nat→Nat) (a b:Nat×Int×HV):Bool:=Nat.beq a.1 b.1&&iEq a.2.1 b.2.1&&wY s 9 a.2.2 b.2.2
def JI (s:Nat→Nat) (a b:Nat×Nat×HV):Bool:=Nat.beq a.1 b.1&&Nat.beq a.2.1 b.2.1&&wY s 9 a.2.2 b.2.2
def YR (s:Nat→Nat):zC→zC→Bool
 | .dead,.dead=>true
 | .arr v z E o,.arr v' z' E' o'=>Nat.beq v v'&&Nat.beq z z'&&(o == o')&&yJ (Wl (VS s)) E E'
 | .map v c k E,.map v' c' k' E'=>Nat.beq v v'&&Nat.beq c c'&&kEq k k'&&yJ (QR s) E E'
 | .mapT v c k E,.mapT v' c' k' E'=>Nat.beq v v'&&Nat.beq c c'&&kEq k k'&&yJ (JI s) E E'
 | .iter v x a l b,.iter v' x' a' l' b'=>Nat.beq v v'&&wY s 9 x x'&&Nat.beq a a'&&yJ Nat.beq l l'&&Nat.beq b b'
 | _,_=>false
theorem uP.ren {E E':List (List HV)} {o:Bool} {b of sz cap:Nat} (hs:∀n,e'[s n]? =e[n]?) (h2:yJ (Wl (VS s)) E E'=true) (hr:uP M e w E o b of sz cap):uP M e' w E' o b of sz cap:=by
 obtain⟨h3,h4⟩:=wx h2
 obtain⟨hl,hsh,hmo,cs,ty,hb,ho,hlen,hcell⟩:=hr
 refine⟨by omega,fun e=>by rw[←h3];exact hsh e,hmo,cs,ty,hb,ho,fun l hl=>?_,fun i l k x hi hk=>?_⟩
 ·obtain⟨i,hi⟩:=List.mem_iff_getElem?.1 hl
  obtain⟨l0,h5,h6⟩:=h4 i l hi
  rw[JD] at h6
  rw[←(wx h6).1];exact hlen l0 (List.mem_of_getElem? h5)
 ·obtain⟨l0,h5,h6⟩:=h4 i l hi
  rw[JD] at h6
  obtain⟨x0,h7,h8⟩:=(wx h6).2 k x hk
  obtain⟨u,hu,h1,hv⟩:=hcell i l0 k x0 h5 h7
  exact⟨u,hu,h1,zH.zHX hs x0 x h8 u hv⟩
theorem gY.ren {E E':qf} {c b:Nat} {k:IntKind} (hs:∀n,e'[s n]? =e[n]?) (h2:yJ (QR s) E E'=true) (hr:gY M e w c k E b):gY M e' w c k E' b:=by
 obtain⟨h3,h4⟩:=wx h2
 obtain⟨es,e4,e5,e6⟩:=hr
 refine⟨es,e4,by omega,fun i n x y u hi hu=>?_⟩
 obtain⟨⟨n0,x0,y0⟩,h7,h8⟩:=h4 i _ hi
 simp only[QR,Bool.and_eq_true,zX] at h8
 obtain⟨⟨rfl,h9⟩,h10⟩:=h8
 have:=Xs h9
 subst this
 obtain⟨h11,h12,h13,h14⟩:=e6 i n0 x0 y0 u h7 hu
 exact⟨h11,h12,h13,zH.ren hs 9 y0 y h10 _ h14⟩
theorem gY.zGb {E E':jG} {c b:Nat} {k:IntKind} (hs:∀n,e'[s n]? =e[n]?) (h2:yJ (JI s) E E'=true) (hr:gY M e w c k (wo E) b):gY M e' w c k (wo E') b:=by
 obtain⟨h3,h4⟩:=wx h2
 obtain⟨es,e4,e5,e6⟩:=hr
 refine⟨es,e4,by simp only[wo,List.length_map] at e5 ⊢;omega,fun i n x y u hi hu=>?_⟩
 simp only[wo,List.getElem?_map,Option.map_eq_some_iff] at hi
 obtain⟨⟨n1,x1,y1⟩,hi,he⟩:=hi
 cases he
 obtain⟨⟨n0,x0,y0⟩,h7,h8⟩:=h4 i _ hi
 simp only[JI,Bool.and_eq_true,zX] at h8
 obtain⟨⟨rfl,rfl⟩,h10⟩:=h8
 obtain⟨h11,h12,h13,h14⟩:=e6 i n0 (zB.num x0) y0 u (by simp[wo,h7]) hu
 exact⟨h11,h12,h13,zH.ren hs 9 y0 y1 h10 _ h14⟩
theorem yK.ren {D:Nat→Prop} {pos:Pos} (hs:∀n,e'[s n]? =e[n]?):∀(p q:zC),YR s p q=true→yK M e w D p pos→yK M e' w D q pos:=by
 intro p q h hp
 obtain⟨ver,kind⟩:=pos
 cases p<;>cases q<;>simp only[YR,Bool.and_eq_true,zX,Bool.false_eq_true] at h
 ·exact hp
 ·obtain⟨⟨⟨rfl,rfl⟩,h⟩,h2⟩:=h
  have:=ZM h
  subst this
  cases kind<;>simp only[yK] at hp ⊢
  ·exact⟨hp.1,hp.2.1,hp.2.2.1,hp.2.2.2.ren hs h2⟩
  ·refine⟨hp.1,?_,hp.2.2⟩
   have:=(wx h2).1
   rw[hp.2.1] at this
   exact List.eq_nil_of_length_eq_zero this.symm
 ·obtain⟨⟨⟨rfl,rfl⟩,h⟩,h2⟩:=h
  have:=yc h
  subst this
  cases kind<;>simp only[yK] at hp ⊢
  obtain⟨e1,b,e2,e3,hm⟩:=hp
  exact⟨e1,b,e2,e3,hm.ren hs h2⟩
 ·obtain⟨⟨⟨rfl,rfl⟩,h⟩,h2⟩:=h
  have:=yc h
  subst this
  cases kind<;>simp only[yK] at hp ⊢
  obtain⟨e1,b,e2,e3,hm⟩:=hp
  exact⟨e1,b,e2,e3,hm.zGb hs h2⟩
 ·obtain⟨⟨⟨⟨rfl,h⟩,rfl⟩,h2⟩,rfl⟩:=h
  have:=ql _ _ (fun a b=>zX.1) h2
  subst this
  cases kind<;>simp only[yK] at hp ⊢
  obtain⟨e1,b,e2,e3,m,e4,e5⟩:=hp
  exact⟨e1,b,e2,e3,m,zH.ren hs 9 _ _ h _ e4,e5⟩
end
/-- Pieces alike,two of them changed for each other. -/
def Xm (a b:Nat) (g:Nat→zC):List zC→Nat→Bool
 | [],_=>true
 | p::l,i=>YR (swp a b) p (g (swp a b i))&&Xm a b g l (i+1)
theorem zAV {a b:Nat} {g:Nat→zC}:∀(l:List zC) (i:Nat),Xm a b g l i=true→∀(j:Nat) (p:zC),l[j]? =some p→YR (swp a b) p (g (swp a b (i+j)))=true
 | [],_,_,j,p,h=>by simp at h
 | q::l,i,h,j,p,hj=>by
  simp only[Xm,Bool.and_eq_true] at h
  cases j with
  | zero=>simp at hj;subst hj;exact h.1
  | succ j=>
   have:=zAV l (i+1) h.2 j p (by simpa using hj)
   rwa [show i+(j+1)=i+1+j by omega]
theorem zI.ren {P:Program} {f:FuncId} {args:List HV} {PS PS1 PS2:PL} {r1 r2:HV} {a b:Nat} {K:HV→PL→Prop} (ha:PS.length≤a) (hb:PS.length≤b) (ha2:a<PS2.length) (hb2:b<PS2.length) (hl:PS1.length=PS2.length)
  (hv:wY (swp a b) 9 r2 r1=true) (hp:Xm a b (zA PS1) PS2 0=true)
  (h:zI P f args PS fun r PS'=>K r PS'∨(r=r2∧PS'=PS2)) (hk:K r1 PS1):zI P f args PS K:=by
 intro F e D w vs hr hf
 refine(h F e D w vs hr hf).mono ?_
 rintro en w' ⟨v,x,PS',e',D',rfl,hK,hr',ht,hx⟩
 rcases hK with hK | ⟨rfl,rfl⟩
 ·exact⟨v,x,PS',e',D',rfl,hK,hr',ht,hx⟩
 have hlen:e.length=PS.length:=hr.len
 have hlen':e'.length=PS'.length:=hr'.len
 have sw:∀n,swp a b n<e'.length↔n<e'.length:=by
  intro n
  unfold swp
  cases h1:Nat.beq n a<;>cases h2:Nat.beq n b<;>simp only[cond_true,cond_false]
  ·have:=zX.1 h2;omega
  ·have:=zX.1 h1;omega
  ·have:=zX.1 h1;omega
 let e2:List Pos:=(List.range e'.length).map fun n=>e'.getD (swp a b n) ⟨0,.dead⟩
 have hs':∀n,e2[n]? =e'[swp a b n]? :=by
  intro n
  simp only[e2,List.getElem?_map]
  by_cases hn:n<e'.length
  ·rw[List.getElem?_range hn]
   have:=(sw n).2 hn
   simp[List.getD,this]
  ·rw[List.getElem?_eq_none (by simpa using hn),List.getElem?_eq_none (Nat.le_of_not_lt fun h=>hn ((sw n).1 h))];rfl
 have hs:∀n,e2[swp a b n]? =e'[n]? :=fun n=>by rw[hs',Xv]
 have hM:Mut F (fun i=>D' (swp a b i))=Mut F D':=by
  funext x
  refine propext ⟨?_,?_⟩
  ·rintro (h | ⟨i,h⟩)
   ·exact .inl h
   ·exact .inr ⟨_,h⟩
  ·rintro (h | ⟨i,h⟩)
   ·exact .inl h
   ·exact .inr ⟨swp a b i,by show D' (swp a b (swp a b i)) x;rw[Xv];exact h⟩
 refine⟨v,r1,PS1,e2,fun i=>D' (swp a b i),rfl,hk,⟨?_,?_,hr'.fore,?_,?_⟩,⟨ht.os,ht.tape,ht.output,ht.size,ht.keep,fun i x hx=>ht.own _ x hx,?_⟩,?_⟩
 ·show e2.length=_
  simp only[e2,List.length_map,List.length_range];omega
 ·intro i x hx
  obtain⟨h1,h2,h3⟩:=hr'.out _ x hx
  exact⟨by have:=(sw i).1 (by omega);omega,h2,h3⟩
 ·intro i j x hi hj
  have:=hr'.apart _ _ x hi hj
  rw[←Xv a b i,this,Xv]
 ·intro i q p hq hp'
  rw[hM]
  rw[hs'] at hp'
  have hi:swp a b i<PS'.length:=by rw[←hlen'];exact(List.getElem?_eq_some_iff.1 hp').1
  have h1:=zAV PS' 0 hp (swp a b i) (zA PS' (swp a b i)) (gu hi)
  rw[Nat.zero_add,Xv] at h1
  have h2:zA PS1 i=q:=by simp[zA,List.getD,hq]
  rw[h2] at h1
  exact yK.ren hs _ _ h1 (hr'.holds _ _ _ (gu hi) hp')
 ·intro n p hn
  have hn':n<e.length:=(List.getElem?_eq_some_iff.1 hn).1
  have:swp a b n=n:=by
   unfold swp
   cases h1:Nat.beq n a
   ·cases h2:Nat.beq n b
    ·rfl
    ·have:=zX.1 h2;omega
   ·have:=zX.1 h1;omega
  obtain⟨p',h1,h2⟩:=ht.env n p hn
  exact⟨p',by rw[hs',this];exact h1,h2⟩
 ·rw[hM];exact zH.ren hs 9 _ _ hv v hx
/-- Two outcomes alike. -/
def same (x y:FT×Mem):Bool:=yJ (qp 9) x.1.fr y.1.fr&&yJ Yr x.2.pl y.2.pl
theorem zPX {x y:FT×Mem} (h:same x y=true):x.1.fr=y.1.fr∧x.2.pl=y.2.pl:=by
 simp only[same,Bool.and_eq_true] at h
 exact⟨ql _ _ (ur 9) h.1,ql _ _ Ji h.2⟩
/-! ### States taken for others:pieces that came in another order -/
/-- Of the pieces from n1 on:the first a of them,and the next b,change places. -/
def rot (n1 a b n:Nat):Nat:=bif Nat.blt n n1 then n else bif Nat.blt n (n1+a) then n+b else bif Nat.blt n (n1+a+b) then n - a else n
theorem GH (a b:Nat):Nat.blt a b=decide (a<b):=by rw[Bool.eq_iff_iff,vM];simp
theorem zD6 (n1 a b n:Nat):rot n1 b a (rot n1 a b n)=n:=by
 simp only[rot,GH,Bool.cond_decide]
 repeat' split
 all_goals omega
theorem zMH (n1 a b n m:Nat) (h:n1+a+b≤m):rot n1 a b n<m↔n<m:=by
 simp only[rot,GH,Bool.cond_decide]
 repeat' split
 all_goals omega
theorem zOK (n1 a b n:Nat) (h:n<n1):rot n1 a b n=n:=by
 simp only[rot,GH,Bool.cond_decide,if_pos h]
/-- Pieces alike,by other names. -/
def XI (s:Nat→Nat) (g:Nat→zC):List zC→Nat→Bool
 | [],_=>true
 | p::l,i=>YR s p (g (s i))&&XI s g l (i+1)
theorem zBH {s:Nat→Nat} {g:Nat→zC}:∀(l:List zC) (i:Nat),XI s g l i=true→∀(j:Nat) (p:zC),l[j]? =some p→YR s p (g (s (i+j)))=true
 | [],_,_,j,p,h=>by simp at h
 | q::l,i,h,j,p,hj=>by
  simp only[XI,Bool.and_eq_true] at h
  cases j with
  | zero=>simp at hj;subst hj;exact h.1
  | succ j=>
   have:=zBH l (i+1) h.2 j p (by simpa using hj)
   rwa [show i+(j+1)=i+1+j by omega]
theorem SW.zMR {n0:Nat} {s s':Nat→Nat} {f1 f2:Fr} {P1 P2:PL} (h1:∀n,s (s' n)=n) (h2:∀n,s' (s n)=n) (hfix:∀n,n<n0→s n=n) (hb:∀n,s n<P2.length↔n<P2.length) (hl:P1.length=P2.length)
  (hf:yJ (wY s 9) f2 f1=true) (hp:XI s (zA P1) P2 0=true):SW n0 f2 P2 f1 P1:=by
 rintro ds F e0 D0 w0 a w hl0 ⟨hd,e,D,hr,hfr,ht⟩
 have hlen:e.length=P2.length:=hr.len
 let e2:List Pos:=(List.range e.length).map fun n=>e.getD (s' n) ⟨0,.dead⟩
 have sw:∀n,s' n<e.length↔n<e.length:=fun n=>by rw[hlen,←hb (s' n),h1]
 have hs':∀n,e2[n]? =e[s' n]? :=by
  intro n
  simp only[e2,List.getElem?_map]
  by_cases hn:n<e.length
  ·rw[List.getElem?_range hn]
   have:=(sw n).2 hn
   simp[List.getD,this]
  ·rw[List.getElem?_eq_none (by simpa using hn),List.getElem?_eq_none (Nat.le_of_not_lt fun h=>hn ((sw n).1 h))];rfl
 have hs:∀n,e2[s n]? =e[n]? :=fun n=>by rw[hs',h2]
 have hM:Mut F (fun i=>D (s' i))=Mut F D:=by
  funext x
  refine propext ⟨?_,?_⟩
  ·rintro (h | ⟨i,h⟩)
   ·exact .inl h
   ·exact .inr ⟨_,h⟩
  ·rintro (h | ⟨i,h⟩)
   ·exact .inl h
   ·exact .inr ⟨s i,by show D (s' (s i)) x;rw[h2];exact h⟩
 refine⟨hd,e2,fun i=>D (s' i),⟨?_,?_,hr.fore,?_,?_⟩,⟨?_,?_⟩,⟨ht.os,ht.tape,ht.output,ht.size,ht.keep,fun i x hx=>ht.own _ x hx,?_⟩⟩
 ·show e2.length=_
  simp only[e2,List.length_map,List.length_range];omega
 ·intro i x hx
  obtain⟨h3,h4,h5⟩:=hr.out _ x hx
  exact⟨by have:=(sw i).1 (by omega);omega,h4,h5⟩
 ·intro i j x hi hj
  have:=hr.apart _ _ x hi hj
  rw[←h1 i,this,h1]
 ·intro i q p hq hp'
  rw[hM]
  rw[hs'] at hp'
  have hi:s' i<P2.length:=by rw[←hlen];exact(List.getElem?_eq_some_iff.1 hp').1
  have h3:=zBH P2 0 hp (s' i) (zA P2 (s' i)) (gu hi)
  rw[Nat.zero_add,h1] at h3
  have h4:zA P1 i=q:=by simp[zA,List.getD,hq]
  rw[h4] at h3
  exact yK.ren hs _ _ h3 (hr.holds _ _ _ (gu hi) hp')
 ·rw[←(wx hf).1];exact hfr.1
 ·intro i x u hx hu
  obtain⟨x0,h3,h4⟩:=(wx hf).2 i x hx
  rw[hM]
  exact zH.ren hs 9 x0 x h4 u (hfr.2 i x0 u h3 hu)
 ·intro n p hn
  have hn':n<e0.length:=(List.getElem?_eq_some_iff.1 hn).1
  have:s' n=n:=by rw[←hfix n (by omega),h2,hfix n (by omega)]
  obtain⟨p',h3,h4⟩:=ht.env n p hn
  exact⟨p',by rw[hs',this];exact h3,h4⟩
/-- The first piece that two values name differently,and which rises (falls). -/
def nDf (up:Bool) (p q:Nat):Option (Nat×Nat):=bif up then (bif Nat.blt p q then some (p,q - p) else none) else (bif Nat.blt q p then some (q,p - q) else none)
def lDf {α:Type} (f:α→α→Option (Nat×Nat)):List α→List α→Option (Nat×Nat)
 | x::l,y::r=>match f x y with
  | some z=>some z
  | none=>lDf f l r
 | _,_=>none
def vDf (up:Bool):Nat→HV→HV→Option (Nat×Nat)
 | _+1,.ptr n _ _ _,.ptr m _ _ _=>nDf up n m
 | _+1,.sl n _ _ _ _,.sl m _ _ _ _=>nDf up n m
 | _+1,.isl n _ _ _ _ _,.isl m _ _ _ _ _=>nDf up n m
 | _+1,.ref n _,.ref m _=>nDf up n m
 | k+1,.agg a,.agg b=>lDf (vDf up k) a b
 | k+1,.tup a,.tup b=>lDf (vDf up k) a b
 | k+1,.iface _ a,.iface _ b=>vDf up k a b
 | _,_,_=>none
abbrev FM:=FT×Mem
def UZ (s:Nat→Nat) (x y:FM):Bool:=yJ (wY s 9) x.1.fr y.1.fr&&XI s y.2.get x.2.pl 0
def gS (n0 n1 a b:Nat) (x y:FM):Bool:=Nat.ble n0 n1&&Nat.ble (n1+a+b) x.2.n&&UZ (rot n1 a b) x y
/-- So many places tried,downward. -/
def UI (n0 n1 a b:Nat) (x y:FM):Nat→Nat→Bool
 | 0,_=>false
 | k+1,s=>bif Nat.blt s n1 then false else (bif gS n0 s a b x y then true else UI n0 n1 a b x y k (s - 1))
/-- Are two states one,but for the order in which pieces from n1 on came? -/
def alike (n0 n1:Nat) (x y:FM):Bool:=
 Nat.beq x.2.n y.2.n&&(match lDf (vDf true 9) x.1.fr y.1.fr,lDf (vDf false 9) x.1.fr y.1.fr with
  | none,none=>UZ (fun n=>n) x y
  | some (p,b),some (q,a)=>fN a fun a=>fN b fun b=>fN (Nat.min p q) fun s=>UI n0 n1 a b x y 3 s
  | some (p,b),none=>fN b fun b=>bif gS n0 p 1 b x y then true else fN (x.2.n - n1 - b) fun a=>gS n0 n1 a b x y
  | none,some (q,a)=>fN a fun a=>bif gS n0 q a 1 x y then true else fN (x.2.n - n1 - a) fun b=>gS n0 n1 a b x y)
theorem zAo {n0:Nat} {s s':Nat→Nat} {x y:FM} (h1:∀n,s (s' n)=n) (h2:∀n,s' (s n)=n) (hfix:∀n,n<n0→s n=n) (hb:∀n,s n<x.2.n↔n<x.2.n) (hl:x.2.n=y.2.n) (h:UZ s x y=true):SW n0 x.1.fr x.2.pl y.1.fr y.2.pl:=by
 simp only[UZ,Bool.and_eq_true] at h
 have e:zA y.2.pl=y.2.get:=funext fun n=>Mem.get_eq y.2 n
 exact SW.zMR h1 h2 hfix (by rw[Mem.len];exact hb) (by rw[Mem.len,Mem.len];exact hl.symm) h.1 (by rw[e];exact h.2)
theorem XE {n0 n1 a b:Nat} {x y:FM} (hl:x.2.n=y.2.n) (h:gS n0 n1 a b x y=true):SW n0 x.1.fr x.2.pl y.1.fr y.2.pl:=by
 simp only[gS,Bool.and_eq_true,yk] at h
 obtain⟨⟨h1,h2⟩,h3⟩:=h
 exact zAo (s':=rot n1 b a) (zD6 n1 b a) (zD6 n1 a b) (fun n hn=>zOK n1 a b n (by omega)) (fun n=>zMH n1 a b n _ h2) hl h3
theorem zCs {n0 n1 a b:Nat} {x y:FM} (hl:x.2.n=y.2.n):∀(k s:Nat),UI n0 n1 a b x y k s=true→SW n0 x.1.fr x.2.pl y.1.fr y.2.pl
 | 0,_,h=>by cases h
 | k+1,s,h=>by
  unfold UI at h
  cases h1:Nat.blt s n1<;>rw[h1] at h<;>simp only[cond_true,cond_false] at h
  ·cases h2:gS n0 s a b x y<;>rw[h2] at h<;>simp only[cond_true,cond_false] at h
   ·exact zCs hl k _ h
   ·exact XE hl h2
  ·cases h
theorem zPP {n0 n1:Nat} {x y:FM} (h:alike n0 n1 x y=true):SW n0 x.1.fr x.2.pl y.1.fr y.2.pl:=by
 simp only[alike,Bool.and_eq_true,zX] at h
 obtain⟨hl,h⟩:=h
 split at h
 ·exact zAo (s':=fun n=>n) (fun _=>rfl) (fun _=>rfl) (fun _ _=>rfl) (fun _=>Iff.rfl) hl h
 ·simp only[yT] at h;exact zCs hl _ _ h
 ·rename_i p b _ _
  simp only[yT] at h
  cases h2:gS n0 p 1 b x y<;>rw[h2] at h<;>simp only[cond_true,cond_false] at h
  ·exact XE hl h
  ·exact XE hl h2
 ·rename_i q a _ _
  simp only[yT] at h
  cases h2:gS n0 q a 1 x y<;>rw[h2] at h<;>simp only[cond_true,cond_false] at h
  ·exact XE hl h
  ·exact XE hl h2
def XM {α:Type} (f:α→Bool):List α→Bool
 | []=>false
 | x::l=>f x || XM f l
theorem zDA {α:Type} {f:α→Bool}:∀{l:List α},XM f l=true→∃x∈l,f x=true
 | [],h=>by cases h
 | x::l,h=>by
  simp only[XM,Bool.or_eq_true] at h
  rcases h with h | h
  ·exact⟨x,by simp,h⟩
  ·obtain⟨y,h1,h2⟩:=zDA h;exact⟨y,by simp[h1],h2⟩
/-- Of several states one of each kind. -/
def gj (n0 n1:Nat):List FM→List FM
 | []=>[]
 | [x]=>[x]
 | x::l=>bif XM (alike n0 n1 x) (gj n0 n1 l) then gj n0 n1 l else x::gj n0 n1 l
theorem zEB {n0 n1:Nat}:∀(l:List FM),∀x∈l,∃y∈gj n0 n1 l,SW n0 x.1.fr x.2.pl y.1.fr y.2.pl
 | [],x,hx=>by cases hx
 | [x],y,hy=>⟨y,hy,SW.refl _ _ _⟩
 | x::z::l,y,hy=>by
  have ih:=zEB (n0:=n0) (n1:=n1) (z::l)
  unfold gj
  cases h:XM (alike n0 n1 x) (gj n0 n1 (z::l))<;>simp only[cond_true,cond_false]
  ·rcases List.mem_cons.1 hy with rfl | hy
   ·exact⟨y,by simp,SW.refl _ _ _⟩
   ·obtain⟨u,h1,h2⟩:=ih y hy;exact⟨u,by simp[h1],h2⟩
  ·rcases List.mem_cons.1 hy with rfl | hy
   ·obtain⟨u,h1,h2⟩:=zDA h;exact⟨u,h1,zPP h2⟩
   ·exact ih y hy
/-- On each of some,and all that comes. -/
def yU.go {α β:Type} (f:α→Option (List β)):List α→Option (List β)
 | []=>some []
 | a::l=>bnd (f a) fun r=>bnd (yU.go f l) fun t=>some (r++t)
def zPe {α β:Type} (f:α→Option (List β)) (l:List α):Option (List β):=
 List.rec (motive:=fun _=>Option (List β)) (some []) (fun a t _=>List.rec (motive:=fun _=>Option (List β)) (f a) (fun b t _=>yU.go f (a::b::t)) t) l
def yU {α β:Type} (x:Option (List α)) (f:α→Option (List β)):Option (List β):=Option.rec (motive:=fun _=>Option (List β)) none (zPe f) x
theorem zB8 {α β:Type} {f:α→Option (List β)}:∀(l:List α) (y:List β),yU.go f l=some y→∀a∈l,∃r,f a=some r∧∀b∈r,b∈y
 | [],_,_,a,ha=>by cases ha
 | a::l,y,h,c,hc=>by
  simp only[yU.go,zZ,Option.some.injEq] at h
  obtain⟨r,h1,t,h2,rfl⟩:=h
  rcases List.mem_cons.1 hc with rfl | hc
  ·exact⟨r,h1,fun b hb=>List.mem_append_left _ hb⟩
  ·obtain⟨r',h3,h4⟩:=zB8 l t h2 c hc
   exact⟨r',h3,fun b hb=>List.mem_append_right _ (h4 b hb)⟩
theorem uV {α β:Type} {x:Option (List α)} {f:α→Option (List β)} {y:List β} (h:yU x f=some y):∃l,x=some l∧∀a∈l,∃r,f a=some r∧∀b∈r,b∈y:=by
 cases x with
 | none=>cases h
 | some l=>
  refine⟨l,rfl,?_⟩
  cases l with
  | nil=>intro a ha;cases ha
  | cons a t=>
   cases t with
   | nil=>intro b hb;simp at hb;subst hb;exact⟨y,h,fun _ h=>h⟩
   | cons b t=>exact zB8 _ y h
section
variable {P:Program} {ec:EC} {ops:Array Oper}
def zAA (want:Bool):HV→Option Bool
 | .bool b=>some (b == want)
 | .cst (.tuple _)=>some false
 | _=>none
theorem GX {want:Bool} {x:HV} {b:Bool} {A B:Prop} (h:zAA want x=some b) (ha:b=true→A) (hb:b=false→B):jF want A B x:=by
 unfold zAA at h
 split at h
 ·cases h
  rename_i b
  refine⟨fun e=>ha (by rw[e];cases want<;>rfl),fun e=>hb ?_⟩
  cases b<;>cases want<;>first | rfl | exact absurd rfl e
 ·cases h;exact hb rfl
 ·cases h
def gvE (ops:Array Oper) (f:FT) (j:Nat):HV:=
 match (ops[j]?).bind (·.dst) with
 | some d=>f.get d
 | none=>.junk
theorem GO (f:FT) (j:Nat):qc ops f.fr j=gvE ops f j:=by
 unfold qc gvE
 cases (ops[j]?).bind (·.dst) with
 | none=>rfl
 | some d=>exact FT.get_eq f d
/-- Under its guard:do it (true),or leave it. -/
def eDo (ops:Array Oper) (o:Oper) (f:FT):Option Bool:=
 match o.guard with
 | none=>some true
 | some (j,want)=>zAA want (gvE ops f j)
theorem WT {o:Oper} {f:FT} {b:Bool} {A B:Prop} (h:eDo ops o f=some b) (ha:b=true→A) (hb:b=false→B):hgd ops o f.fr A B:=by
 unfold eDo at h
 unfold hgd
 split at h<;>rename_i hg<;>simp only[hg]
 ·cases h;exact ha rfl
 ·rw[GO];exact GX h ha hb
def Ja (P:Program) (ops:Array Oper) (i:Nat) {α:Type} (f:FT) (m:Mem) (K:FT→Option α):Option α:=
 match ops[i]? with
 | none=>none
 | some o=>bnd (eDo ops o f) fun b=>bif b then bnd (jH P o f.get m) fun v=>f.put o.dst v K else f.put o.dst (.cst undef) K
def Qc (P:Program) (ec:EC) (ops:Array Oper) (i:Nat) {α:Type} (f:FT) (m:Mem) (K:FT→Mem→Option (List α)):Option (List α):=
 match ops[i]? with
 | none=>none
 | some o=>bnd (eDo ops o f) fun b=>bif b then yU (eOp P ec o f.get m) fun r=>f.put o.dst r.1 fun f=>K f r.2 else f.put o.dst (.cst undef) fun f=>K f m
def ZC (P:Program) (ec:EC) (ops:Array Oper) {α:Type}:List Oper→FT→Mem→(FT→Mem→Option (List α))→Option (List α)
 | [],f,m,K=>K f m
 | o::os,f,m,K=>bnd (eDo ops o f) fun b=>bif b then yU (eOp P ec o f.get m) fun r=>f.put o.dst r.1 fun f=>ZC P ec ops os f r.2 K else f.put o.dst (.cst undef) fun f=>ZC P ec ops os f m K
theorem Gt (hec:qe P ec) {α:Type} {C:Fr→PL→Prop} {K:FT→Mem→Option (List α)}:∀(l:List Oper) (f:FT) (m:Mem) (L:List α),ZC P ec ops l f m K=some L→(∀f m L',K f m=some L'→(∀x∈L',x∈L)→C f.fr m.pl)→zf (hop P) ops l C f.fr m.pl
 | [],f,m,L,h,hK=>hK f m L h fun _ h=>h
 | o::os,f,m,L,h,hK=>by
  simp only[ZC,zZ] at h
  obtain⟨b,h1,h2⟩:=h
  have main:b=true→hop P o f.fr m.pl fun v PS'=>zf (hop P) ops os C (zV f.fr o.dst v) PS':=by
   rintro rfl
   simp only[cond_true] at h2
   obtain⟨R,h3,h4⟩:=uV h2
   refine Xa hec h3 ?_
   rintro⟨v,m'⟩ hr
   obtain⟨L',h5,h6⟩:=h4 _ hr
   obtain⟨f',h7,h8⟩:=FT.kW h5
   rw[←h7]
   exact Gt hec os _ _ L' h8 fun f m L2 e hs=>hK f m L2 e fun x hx=>h6 x (hs x hx)
  have skip:b=false→zf (hop P) ops os C (zV f.fr o.dst (.cst undef)) m.pl:=by
   rintro rfl
   simp only[cond_false] at h2
   obtain⟨f',h5,h6⟩:=FT.kW h2
   rw[←h5]
   exact Gt hec os _ _ L h6 hK
  unfold eDo at h1
  simp only[zf]
  split at h1<;>rename_i hg<;>simp only[hg]
  ·cases h1;exact main rfl
  ·rw[GO];exact GX h1 main skip
/-- An operation;a slice literal as a piece. -/
def Qo (P:Program) (ec:EC) (o:Oper) (g:Nat→HV) (m:Mem):Option (List RM):=
 match o.op with
 | .buildSlice t n ps=>(match yV P t with
  | some (s,b,z)=>bif Nat.beq s 1 then eOp P ec o g m else bnd (Xp n (ps.toList.map fun p=>(p.1,eV g p.2)) (some (s,b,z))) fun v=>(match v with
   | .imm true E=>m.push (.arr 0 s E false) fun m'=>some [(.sl m.n 0 0 n (some n),m')]
   | _=>none)
  | none=>none)
 | .call ⟨.builtin .append,⟨[x,y]⟩,⟨[t,t2]⟩⟩=>(match eV g x,eV g y with
  | .imm true E,.nam i=>bnd (zB.cat E i) fun j=>(match yV P t,P.underlying t2 with
   | some (1,b,_),some (.slice _)=>on (Nat.ble b 8&&gN (fun r=>Nat.beq (wb r) 1) E) (m.push .dead fun m'=>some [(.nam j,m')])
   | _,_=>none)
  | .imm t1 (r::E),.imm _ []=>(match yV P t,P.underlying t2 with
   | some _,some (.slice _)=>some [(.imm t1 (r::E),m)]
   | _,_=>none)
  | _,_=>eOp P ec o g m)
 | _=>eOp P ec o g m
theorem zQY {P:Program} {ec:EC} (hec:qe P ec) {o:Oper} {f:FT} {m:Mem} {L:List RM} {C:HV→PL→Prop} (h:Qo P ec o f.get m=some L) (hk:∀r∈L,C r.1 r.2.pl):jN P o f.fr m.pl C:=by
 unfold Qo at h
 split at h
 ·rename_i t n ps ho
  split at h
  ·rename_i s b z hm
   rcases kp h with ⟨_,h⟩ | ⟨_,h⟩
   ·exact .inl (Xa hec h hk)
   refine .inr (.inl ⟨t,n,ps,ho,?_⟩)
   rw[zZ] at h
   obtain⟨v,h1,h2⟩:=h
   rw[hm]
   have e:(ps.toList.map fun p=>(p.1,ev f.fr p.2))=ps.toList.map fun p=>(p.1,eV f.get p.2):=by rw[KN]
   rw[e]
   have:=zCO (C:=fun y=>match y with | .imm true E=>C (.sl m.pl.length 0 0 n (some n)) (m.pl++[.arr 0 s E false]) | _=>False) h1 (by
    split at h2
    ·rename_i E
     obtain⟨m2,h3,h4⟩:=Mem.kF h2
     cases h4
     rw[Mem.len,←h3]
     exact hk _ (List.mem_singleton.2 rfl)
    ·cases h2)
   exact this
  ·cases h
 ·rename_i x y t t2 ho
  split at h
  ·rename_i E i hx hy
   rw[zZ] at h
   obtain⟨j,hj,h⟩:=h
   split at h
   ·rename_i b z u hm hu
    simp only[zS,Bool.and_eq_true,yk,xM] at h
    obtain⟨⟨h1,h2⟩,h6⟩:=h
    obtain⟨m2,h4,h5⟩:=Mem.kF h6
    cases h5
    refine .inr (.inr (.inl ⟨x,y,t,t2,E,i,j,b,z,ho,by simpa only[yY] using hx,by simpa only[yY] using hy,hj,hm,h1,by unfold uG;rw[hu];trivial,fun r hr=>?_,?_⟩))
    ·have:=List.all_eq_true.1 h2 r hr
     rw[zX,wk] at this
     exact this
    ·rw[←h4];exact hk _ (List.mem_singleton.2 rfl)
   ·cases h
  ·rename_i t1 r E t3 hx hy
   split at h
   ·rename_i q u hm hu
    cases h
    exact .inr (.inr (.inr ⟨x,y,t,t2,_,t1,t3,ho,by simpa only[yY] using hx,by simpa only[yY] using hy,by rw[hm];rfl,by unfold uG;rw[hu];trivial,hk _ (List.mem_singleton.2 rfl)⟩))
   ·cases h
  ·exact .inl (Xa hec h hk)
 ·exact .inl (Xa hec h hk)
theorem Wm {P:Program} {ops:Array Oper} {C:Fr→PL→Prop}:∀(l:List Oper) (fr:Fr) (PS:PL),zf (hop P) ops l C fr PS→zf (jN P) ops l C fr PS
 | [],_,_,h=>h
 | o::os,fr,PS,h=>by
  simp only[zf] at h ⊢
  have up:(hop P o fr PS fun v PS'=>zf (hop P) ops os C (zV fr o.dst v) PS')→jN P o fr PS fun v PS'=>zf (jN P) ops os C (zV fr o.dst v) PS':=fun h=>.inl (XH (fun v PS' _ hk=>Wm os _ _ hk) h)
  cases hg:o.guard with
  | none=>rw[hg] at h;exact up h
  | some g=>
   obtain⟨j,want⟩:=g
   rw[hg] at h
   simp only at h ⊢
   generalize qc ops fr j=u at h ⊢
   cases u with
   | bool b=>exact⟨fun e=>up (h.1 e),fun e=>Wm os _ _ (h.2 e)⟩
   | cst v=>cases v<;>first | exact Wm os _ _ h | exact h.elim
   | _=>exact h.elim
def xX (P:Program) (ec:EC) (ops:Array Oper) {α:Type}:List Oper→FT→Mem→(FT→Mem→Option (List α))→Option (List α)
 | [],f,m,K=>K f m
 | o::os,f,m,K=>bnd (eDo ops o f) fun b=>bif b then yU (Qo P ec o f.get m) fun r=>f.put o.dst r.1 fun f=>xX P ec ops os f r.2 K else f.put o.dst (.cst undef) fun f=>xX P ec ops os f m K
theorem JE (hec:qe P ec) {α:Type} {C:Fr→PL→Prop} {K:FT→Mem→Option (List α)}:∀(l:List Oper) (f:FT) (m:Mem) (L:List α),xX P ec ops l f m K=some L→(∀f m L',K f m=some L'→(∀x∈L',x∈L)→C f.fr m.pl)→zf (jN P) ops l C f.fr m.pl
 | [],f,m,L,h,hK=>hK f m L h fun _ h=>h
 | o::os,f,m,L,h,hK=>by
  simp only[xX,zZ] at h
  obtain⟨b,h1,h2⟩:=h
  have main:b=true→jN P o f.fr m.pl fun v PS'=>zf (jN P) ops os C (zV f.fr o.dst v) PS':=by
   rintro rfl
   simp only[cond_true] at h2
   obtain⟨R,h3,h4⟩:=uV h2
   refine zQY hec h3 ?_
   rintro⟨v,m'⟩ hr
   obtain⟨L',h5,h6⟩:=h4 _ hr
   obtain⟨f',h7,h8⟩:=FT.kW h5
   rw[←h7]
   exact JE hec os _ _ L' h8 fun f m L2 e hs=>hK f m L2 e fun x hx=>h6 x (hs x hx)
  have skip:b=false→zf (jN P) ops os C (zV f.fr o.dst (.cst undef)) m.pl:=by
   rintro rfl
   simp only[cond_false] at h2
   obtain⟨f',h5,h6⟩:=FT.kW h2
   rw[←h5]
   exact JE hec os _ _ L h6 hK
  unfold eDo at h1
  simp only[zf]
  split at h1<;>rename_i hg<;>simp only[hg]
  ·cases h1;exact main rfl
  ·rw[GO];exact GX h1 main skip
/-- Where literals are pieces:told by a plan. -/
def UO:zL→Bool
 | .none=>true
 | _=>false
theorem zDs (o:Oper) (fr:Fr) (PS:PL) (C:HV→Prop):zb P [] o fr PS C=yb P o fr PS C:=by
 have:uZ [] o=none:=by
  unfold uZ
  split
  ·rfl
  ·rfl
 simp only[zb,this]
theorem zJr (o:Oper) (fr:Fr) (PS:PL) (C:HV→PL→Prop):zu P [] o fr PS C=hop P o fr PS C:=by
 have:uZ [] o=none:=by
  unfold uZ
  split
  ·rfl
  ·rfl
 simp only[zu,this]
/-- A value is still what it was. -/
def KJ:HV→Bool
 | .cst (.tuple ⟨[]⟩)=>true
 | _=>false
theorem zKU {x:HV} (h:KJ x=true):x=.cst undef:=by
 unfold KJ at h
 split at h
 ·rfl
 ·cases h
def Za (P:Program) (ops:Array Oper) (f:FT) (m:Mem) (i:Nat):Bool:=
 match ops[i]? with
 | none=>true
 | some o=>(match eDo ops o f with
  | some true=>(match jH P o f.get m with
   | some v=>(match o.dst with | some d=>qp 9 v (f.get d) | none=>true)
   | none=>false)
  | some false=>(match o.dst with | some d=>KJ (f.get d) | none=>true)
  | none=>false)
theorem zKJ {f:FT} {m:Mem} {i:Nat} (h:Za P ops f m i=true):hre P [] ops i f.fr m.pl:=by
 unfold Za at h
 unfold hre
 split at h<;>rename_i ho<;>simp only[ho]
 split at h
 ·rename_i hd
  refine WT hd (fun _=>?_) (fun e=>(by cases e))
  rw[zDs]
  split at h
  ·rename_i v hv
   refine Js hv ?_
   unfold kv
   split at h<;>rename_i hd'<;>simp only[hd']
   rw[FT.get_eq];exact ur _ _ _ h
  ·cases h
 ·rename_i hd
  refine WT hd (fun e=>(by cases e)) (fun _=>?_)
  unfold kv
  split at h<;>rename_i hd'<;>simp only[hd']
  rw[FT.get_eq];exact(zKU h).symm
 ·cases h
theorem GF {A:Prop} {f:FT} {m:Mem} (ha:A):∀(cs:List Nat),cs.all (Za P ops f m)=true→ub P [] ops f.fr m.pl A cs
 | [],_=>ha
 | i::cs,h=>by
  simp only[List.all_cons,Bool.and_eq_true] at h
  exact⟨zKJ h.1,GF ha cs h.2⟩
/-- Outcomes:all of two,as few as can be seen. -/
def both (l r:List (FT×Mem)):List (FT×Mem):=
 match l,r with
 | l,[]=>l
 | [x],[y]=>bif same x y then [x] else [x,y]
 | l,r=>l++r
theorem zIh {C:Fr→PL→Prop} {l r:List (FT×Mem)} (h:∀x∈both l r,C x.1.fr x.2.pl):(∀x∈l,C x.1.fr x.2.pl)∧∀x∈r,C x.1.fr x.2.pl:=by
 unfold both at h
 split at h
 ·exact⟨h,by simp⟩
 ·rename_i x y
  cases hs:same x y
  ·rw[hs] at h
   exact⟨fun z hz=>h z (by simp at hz;simp[hz]),fun z hz=>h z (by simp at hz;simp[hz])⟩
  ·rw[hs] at h
   obtain⟨e1,e2⟩:=zPX hs
   have hx:=h x (by simp)
   refine⟨fun z hz=>by simp at hz;subst hz;exact hx,fun z hz=>?_⟩
   simp at hz;subst hz
   rw[←e1,←e2];exact hx
 ·exact⟨fun x hx=>h x (List.mem_append_left _ hx),fun x hx=>h x (List.mem_append_right _ hx)⟩
def vU (P:Program) (ec:EC) (ops:Array Oper):zL→FT→Mem→Option (List (FT×Mem))
 | .done,f,m=>some [(f,m)]
 | .none,_,_=>some []
 | .one i p,f,m=>Ja P ops i f m fun f=>vU P ec ops p f m
 | .alt i cs p q,f,m=>bnd (Qc P ec ops i f m fun f m=>on (cs.all (Za P ops f m)) (vU P ec ops p f m)) fun r1=>
   bnd (vU P ec ops q f m) fun r2=>some (both r1 r2)
 | .late _ _ _ _,_,_=>none
theorem jt (hec:qe P ec) {C:Fr→PL→Prop}:∀(p:zL) (f:FT) (m:Mem) (r:List (FT×Mem)),vU P ec ops p f m=some r→(∀x∈r,C x.1.fr x.2.pl)→zg P [] ops C p f.fr m.pl
 | .done,f,m,r,h,hk=>by cases h;exact hk (f,m) (by simp)
 | .none,_,_,_,_,_=>trivial
 | .one i p,f,m,r,h,hk=>by
  simp only[vU,Ja] at h
  simp only[zg,XB]
  split at h
  ·cases h
  ·rename_i o ho
   simp only[ho]
   rw[zZ] at h
   obtain⟨b,h1,h2⟩:=h
   refine WT h1 (fun hb=>?_) (fun hb=>?_)
   ·subst hb
    simp only[cond_true,zZ] at h2
    obtain⟨v,h3,h4⟩:=h2
    obtain⟨f',h5,h6⟩:=FT.kW h4
    rw[zDs]
    refine Js h3 ?_
    rw[←h5]
    exact jt hec p f' m r h6 hk
   ·subst hb
    simp only[cond_false] at h2
    obtain⟨f',h5,h6⟩:=FT.kW h2
    rw[←h5]
    exact jt hec p f' m r h6 hk
 | .alt i cs p q,f,m,r,h,hk=>by
  simp only[vU,zZ,Option.some.injEq] at h
  obtain⟨r1,h1,r2,h2,rfl⟩:=h
  have hb:=zIh hk
  refine⟨?_,jt hec q f m r2 h2 hb.2⟩
  unfold Qc at h1
  unfold qn
  split at h1
  ·cases h1
  ·rename_i o ho
   simp only[ho]
   rw[zZ] at h1
   obtain⟨b,h4,h5⟩:=h1
   refine WT h4 (fun hb'=>?_) (fun hb'=>?_)
   ·subst hb'
    simp only[cond_true] at h5
    obtain⟨R,h6,h7⟩:=uV h5
    rw[zJr]
    refine Xa hec h6 ?_
    rintro⟨v,m'⟩ hr
    obtain⟨L',h10,h11⟩:=h7 _ hr
    obtain⟨f',h8,h9⟩:=FT.kW h10
    rw[zS] at h9
    rw[←h8]
    exact GF (jt hec p f' m' L' h9.2 fun x hx=>hb.1 x (h11 x hx)) cs h9.1
   ·subst hb'
    simp only[cond_false] at h5
    obtain⟨f',h8,h9⟩:=FT.kW h5
    rw[zS] at h9
    rw[←h8]
    exact GF (jt hec p f' m r1 h9.2 hb.1) cs h9.1
 | .late _ _ _ _,_,_,_,h,_=>by cases h
/-- Variables,made last. -/
def YH (P:Program) (ops:Array Oper) {α:Type}:List Nat→FT→Mem→(FT→Mem→Option α)→Option α
 | [],f,m,K=>K f m
 | j::J,f,m,K=>match wI ops j with
  | some (d,t)=>bnd (Xt P t m) fun r=>f.put (some d) r.1 fun f=>YH P ops J f r.2 K
  | none=>none
theorem zAs {α:Type} {C:Fr→PL→Prop} {K:FT→Mem→Option α} {r:α}:∀(J:List Nat) (f:FT) (m:Mem),YH P ops J f m K=some r→(∀f m,K f m=some r→C f.fr m.pl)→uk P ops C J f.fr m.pl
 | [],f,m,h,hK=>hK f m h
 | j::J,f,m,h,hK=>by
  simp only[YH] at h
  simp only[uk]
  split at h
  ·rename_i d t hl
   simp only[hl]
   rw[zZ] at h
   obtain⟨⟨v,m'⟩,h1,h2⟩:=h
   obtain⟨f',h3,h4⟩:=FT.kW h2
   refine zBb h1 ?_
   have:=zAs (C:=C) J f' m' h4 hK
   rw[h3] at this
   exact this
  ·cases h
def Qj (P:Program) (ops:Array Oper) (J:List Nat):Bool:=J.all fun j=>match wI ops j with
 | some (_,t)=>(match qP P t with | some _=>true | none=>false)
 | none=>false
theorem zQA {J:List Nat} (h:Qj P ops J=true):hz P ops J:=by
 intro j hj
 have:=List.all_eq_true.1 h j hj
 split at this
 ·rename_i d t hl
  split at this
  ·rename_i l hz;exact⟨d,t,l,hl,hz⟩
  ·cases this
 ·cases this
/-- A region that draws. -/
def VI (P:Program) (ec:EC) (ops:Array Oper) (p:zL) (f:FT) (m:Mem):Option (List (FT×Mem)):=
 match p with
 | .late J _ p1 p2=>on (Qj P ops J) (yU (vU P ec ops p1 f m) fun x=>YH P ops J x.1 x.2 fun f m=>vU P ec ops p2 f m)
 | p=>vU P ec ops p f m
theorem zPc (hec:qe P ec) {C:Fr→PL→Prop} (p:zL) (f:FT) (m:Mem) (r:List (FT×Mem)) (h:VI P ec ops p f m=some r) (hk:∀x∈r,C x.1.fr x.2.pl):yI P [] ops C p f.fr m.pl:=by
 cases p with
 | late J dp p1 p2=>
  simp only[VI,zS] at h
  obtain⟨h1,h2⟩:=h
  refine⟨zQA h1,?_⟩
  obtain⟨L,h3,h4⟩:=uV h2
  refine jt hec p1 f m L h3 fun x hx=>?_
  obtain⟨L',h5,h6⟩:=h4 x hx
  exact zAs (C:=zg P [] ops C p2) J x.1 x.2 h5 fun f m h7=>jt hec p2 f m L' h7 fun y hy=>hk y (h6 y hy)
 | done=>exact jt hec _ f m r h hk
 | none=>exact jt hec _ f m r h hk
 | one i p=>exact jt hec _ f m r h hk
 | alt i cs p q=>exact jt hec _ f m r h hk
end
abbrev RX:=HX×FT×Mem
section
variable (P:Program) (ec:EC) (pl:Nat→zL) (n0:Nat)
def eval:Nat→Code→FT→Mem→Option (List RX)
 | 0,_,_,_=>none
 | _+1,.skip,f,m=>some [(.normal,f,m)]
 | _+1,.region id ops draw,f,m=>bif draw then yU (bnd (VI P ec ops (pl id) f m) fun l=>some (gj n0 m.n l)) (fun x=>some [(.normal,x.1,x.2)]) else bif UO (pl id) then xX P ec ops ops.toList f m (fun f m=>some [(.normal,f,m)]) else ZC P ec ops ops.toList f m fun f m=>some [(.normal,f,m)]
 | n+1,.seq x y,f,m=>yU (eval n x f m) fun r=>(match r with | (.normal,f,m)=>eval n y f m | r=>some [r])
 | n+1,.cond c x y,f,m=>(match eV f.get c with | .bool true=>eval n x f m | .bool false=>eval n y f m | .anyb=>bnd (eval n x f m) fun l=>bnd (eval n y f m) fun r=>some (l++r) | _=>none)
 | n+1,.block id c,f,m=>yU (eval n c f m) fun r=>(match r with | (.exit id',f,m)=>some [(bif Nat.beq id' id then .normal else .exit id',f,m)] | r=>some [r])
 | n+1,.loop c,f,m=>yU (eval n c f m) fun r=>(match r with | (.normal,f,m)=>eval n (.loop c) f m | r=>some [r])
 | _+1,.exit id,f,m=>some [(.exit id,f,m)]
 | n+1,.scope c,f,m=>yU (eval n c f m) fun r=>(match r with | (.goto _,_,_)=>none | r=>some [r])
 | _+1,.label _,f,m=>some [(.normal,f,m)]
 | _+1,.goto l,f,m=>some [(.goto l,f,m)]
 | _+1,.ret,f,m=>some [(.ret,f,m)]
 | _+1,_,_,_=>none
end
theorem QJ {P:Program} {ec:EC} {pl:Nat→zL} {n0:Nat} (hec:qe P ec):∀(c:Code) (n:Nat) (f:FT) (m:Mem) (L:List RX),eval P ec pl n0 n c f m=some L→
  ∀Q:HX→Fr→PL→Prop,(∀r∈L,Q r.1 r.2.1.fr r.2.2.pl)→hvc (jN P) (qi n0 (yW P [] pl)) c Q f.fr m.pl:=by
 intro c
 induction c with
 | skip=>intro n f m L h Q hq;cases n<;>simp only[eval] at h<;>cases h;exact hq (.normal,f,m) (by simp)
 | region id ops draw=>
  intro n f m L h Q hq
  cases n<;>simp only[eval] at h
  ·cases h
  ·cases draw with
   | true=>
    simp only[cond_true] at h
    obtain⟨r,h1,h2⟩:=uV h
    rw[zZ] at h1
    obtain⟨l,h1,h5⟩:=h1
    cases h5
    refine zPc (C:=fun fr PS=>∃fr' PS',SW n0 fr PS fr' PS'∧Q .normal fr' PS') hec _ _ _ _ h1 fun x hx=>?_
    obtain⟨y,hy,hs⟩:=zEB (n0:=n0) (n1:=m.n) l x hx
    obtain⟨r',h3,h4⟩:=h2 y hy
    cases h3
    exact⟨_,_,hs,hq (.normal,y.1,y.2) (h4 _ (List.mem_singleton.2 rfl))⟩
   | false=>
    simp only[cond_false] at h
    cases hmk:UO (pl id) with
    | true=>
     rw[hmk] at h
     simp only[cond_true] at h
     refine JE (C:=Q .normal) hec _ _ _ _ h fun f1 m1 L' hk hs=>?_
     cases hk;exact hq (.normal,f1,m1) (hs _ (List.mem_singleton.2 rfl))
    | false=>
     rw[hmk] at h
     simp only[cond_false] at h
     refine Wm _ _ _ (Gt (C:=Q .normal) hec _ _ _ _ h fun f1 m1 L' hk hs=>?_)
     cases hk;exact hq (.normal,f1,m1) (hs _ (List.mem_singleton.2 rfl))
 | seq x y ihx ihy=>
  intro n f m L h Q hq
  cases n<;>simp only[eval] at h
  ·cases h
  ·obtain⟨r,h1,h2⟩:=uV h
   refine ihx _ _ _ _ h1 _ ?_
   rintro⟨hx1,f1,m1⟩ hr
   obtain⟨r',h3,h4⟩:=h2 _ hr
   cases hx1<;>simp only at h3
   ·exact ihy _ _ _ _ h3 Q fun r hr=>hq r (h4 r hr)
   all_goals (cases h3;exact hq _ (h4 _ (by simp)))
 | cond c x y ihx ihy=>
  intro n f m L h Q hq
  cases n<;>simp only[eval] at h
  ·cases h
  ·simp only[hvc,yY]
   split at h
   ·rename_i hc;rw[hc];exact⟨fun _=>ihx _ _ _ _ h Q hq,fun e=>(by cases e)⟩
   ·rename_i hc;rw[hc];exact⟨fun e=>(by cases e),fun _=>ihy _ _ _ _ h Q hq⟩
   ·rename_i hc;rw[hc]
    simp only[zZ,Option.some.injEq] at h
    obtain⟨l,h1,r,h2,rfl⟩:=h
    exact⟨ihx _ _ _ _ h1 Q fun x hx=>hq x (List.mem_append_left _ hx),ihy _ _ _ _ h2 Q fun x hx=>hq x (List.mem_append_right _ hx)⟩
   ·cases h
 | block id c ih=>
  intro n f m L h Q hq
  cases n<;>simp only[eval] at h
  ·cases h
  ·obtain⟨r,h1,h2⟩:=uV h
   refine ih _ _ _ _ h1 _ ?_
   rintro⟨hx1,f1,m1⟩ hr
   obtain⟨r',h3,h4⟩:=h2 _ hr
   cases hx1<;>simp only at h3
   case exit id'=>
    cases h3
    have hq':=hq _ (h4 _ (List.mem_singleton.2 rfl))
    show (if id'=id then Q .normal f1.fr m1.pl else Q (.exit id') f1.fr m1.pl)
    cases hb:Nat.beq id' id
    ·have:id'≠id:=fun e=>by rw[zX.2 e] at hb;cases hb
     rw[if_neg this];rw[hb] at hq';exact hq'
    ·rw[if_pos (zX.1 hb)];rw[hb] at hq';exact hq'
   all_goals (cases h3;exact hq _ (h4 _ (by simp)))
 | loop c ih=>
  intro n f m L h Q hq
  refine⟨fun k fr PS=>∃f1 m1 L1,fr=FT.fr f1∧PS=Mem.pl m1∧eval P ec pl n0 k (.loop c) f1 m1=some L1∧∀r∈L1,Q r.1 r.2.1.fr r.2.2.pl,⟨n,f.fr,m.pl,xV.refl _ _,f,m,L,rfl,rfl,h,hq⟩,?_⟩
  rintro k fr PS ⟨f1,m1,L1,rfl,rfl,hk,hq1⟩
  cases k<;>simp only[eval] at hk
  ·cases hk
  ·rename_i k
   obtain⟨r,h1,h2⟩:=uV hk
   refine ih _ _ _ _ h1 _ ?_
   rintro⟨hx2,f2,m2⟩ hr
   obtain⟨r',h3,h4⟩:=h2 _ hr
   cases hx2<;>simp only at h3
   ·exact⟨k,f2.fr,m2.pl,Nat.lt_succ_self _,xV.refl _ _,f2,m2,r',rfl,rfl,h3,fun r hr=>hq1 r (h4 r hr)⟩
   all_goals (cases h3;exact hq1 _ (h4 _ (by simp)))
 | exit id=>intro n f m L h Q hq;cases n<;>simp only[eval] at h<;>cases h;exact hq (.exit id,f,m) (by simp)
 | scope c ih=>
  intro n f m L h Q hq
  cases n<;>simp only[eval] at h
  ·cases h
  ·obtain⟨r,h1,h2⟩:=uV h
   refine ih _ _ _ _ h1 _ ?_
   rintro⟨hx1,f1,m1⟩ hr
   obtain⟨r',h3,h4⟩:=h2 _ hr
   cases hx1<;>simp only at h3
   case goto=>cases h3
   all_goals (cases h3;exact hq _ (h4 _ (by simp)))
 | label l=>intro n f m L h Q hq;cases n<;>simp only[eval] at h<;>cases h;exact hq (.normal,f,m) (by simp)
 | goto l=>intro n f m L h Q hq;cases n<;>simp only[eval] at h<;>cases h;exact hq (.goto l,f,m) (by simp)
 | ret=>intro n f m L h Q hq;cases n<;>simp only[eval] at h<;>cases h;exact hq (.ret,f,m) (by simp)
 | rangeFunc f ps x y _ _=>intro n f m L h Q hq;cases n<;>simp only[eval] at h<;>cases h
 | refuse s=>intro n f m L h Q hq;cases n<;>simp only[eval] at h<;>cases h
/-- A function's text:a jump to a label,once. -/
def QV:RX→Option (List RX)
 | (.goto _,_,_)=>none
 | r=>some [r]
def zEA (P:Program) (ec:EC) (pl:Nat→zL) (n0 n:Nat) (c:Code):RX→Option (List RX)
 | (.goto l,f,m)=>bnd (findLabel c l) fun rest=>yU (eval P ec pl n0 n rest f m) QV
 | r=>some [r]
def YW (P:Program) (ec:EC) (pl:Nat→zL) (n0 n:Nat):Code→FT→Mem→Option (List RX)
 | .scope c,f,m=>yU (eval P ec pl n0 n c f m) (zEA P ec pl n0 n c)
 | .seq x y,f,m=>yU (eval P ec pl n0 n x f m) fun r=>(match r with | (.normal,f,m)=>YW P ec pl n0 n y f m | r=>some [r])
 | c,f,m=>eval P ec pl n0 n c f m
theorem zNK {P:Program} {ec:EC} {pl:Nat→zL} {n0:Nat} (hec:qe P ec):∀(c:Code) (n:Nat) (f:FT) (m:Mem) (L:List RX),YW P ec pl n0 n c f m=some L→
  ∀Q:HX→Fr→PL→Prop,(∀r∈L,Q r.1 r.2.1.fr r.2.2.pl)→gE (jN P) (qi n0 (yW P [] pl)) c Q f.fr m.pl:=by
 intro c
 induction c with
 | scope c _=>
  intro n f m L h Q hq
  simp only[YW] at h
  obtain⟨r,h1,h2⟩:=uV h
  refine QJ hec c _ _ _ _ h1 _ ?_
  rintro⟨hx1,f1,m1⟩ hr
  obtain⟨r',h3,h4⟩:=h2 _ hr
  cases hx1<;>simp only[zEA] at h3
  case goto l=>
   rw[zZ] at h3
   obtain⟨rest,hf,h5⟩:=h3
   refine⟨rest,hf,?_⟩
   obtain⟨r2,h6,h7⟩:=uV h5
   refine QJ hec rest _ _ _ _ h6 _ ?_
   rintro⟨hx2,f2,m2⟩ hr2
   obtain⟨r3,h8,h9⟩:=h7 _ hr2
   cases hx2<;>simp only[QV] at h8
   case goto=>cases h8
   all_goals (cases h8;exact hq _ (h4 _ (h9 _ (by simp))))
  all_goals (cases h3;exact hq _ (h4 _ (by simp)))
 | seq x y _ ihy=>
  intro n f m L h Q hq
  simp only[YW] at h
  obtain⟨r,h1,h2⟩:=uV h
  refine QJ hec x _ _ _ _ h1 _ ?_
  rintro⟨hx1,f1,m1⟩ hr
  obtain⟨r',h3,h4⟩:=h2 _ hr
  cases hx1 with
  | normal=>exact ihy n f1 m1 r' h3 Q fun z hz=>hq _ (h4 _ hz)
  | exit id=>cases h3;exact hq _ (h4 _ (by simp))
  | goto l=>cases h3;exact hq _ (h4 _ (by simp))
  | ret=>cases h3;exact hq _ (h4 _ (by simp))
 | _=>intro n f m L h Q hq;exact QJ hec _ _ _ _ _ h Q hq
def xk (P:Program) (f:FT) (m:Mem):List ResultVar→Option (List HV)
 | []=>some []
 | .tmp t::r=>bnd (xk P f m r) fun l=>some (f.get t::l)
 | .cell t ty::r=>bnd (XY m (f.get t) (tsz P ty)) fun x=>bnd (xk P f m r) fun l=>some (x::l)
theorem JP {P:Program} {f:FT} {m:Mem}:∀(rs:List ResultVar) (l:List HV) (C:List HV→Prop),xk P f m rs=some l→C l→wK P f.fr m.pl C rs
 | [],l,C,h,hk=>by cases h;exact hk
 | .tmp t::r,l,C,h,hk=>by
  simp only[xk,zZ] at h
  obtain⟨l',h1,h2⟩:=h
  cases h2
  simp only[wK,FT.get_eq]
  exact JP r l' _ h1 hk
 | .cell t ty::r,l,C,h,hk=>by
  simp only[xk,zZ] at h
  obtain⟨x,h0,l',h1,h2⟩:=h
  cases h2
  simp only[wK,FT.get_eq]
  exact zC0 (K:=fun x=>wK P f.fr m.pl (fun l=>C (x::l)) r) h0 (JP r l' _ h1 hk)
def UU:List HV→HV
 | [x]=>x
 | l=>.tup l
theorem zQN {l:List HV} {C:HV→Prop} (h:C (UU l)):jg C l:=by
 unfold UU at h
 unfold jg
 split at h
 ·exact h
 ·rename_i hn
  split
  ·rename_i x;exact absurd rfl (hn x)
  ·exact h
/-- The results of a call,from where its text ends. -/
def Kk (P:Program) (rs:List ResultVar):RX→Option (List RM)
 | (.normal,f,m)=>bnd (xk P f m rs) fun l=>fLH l fun l=>some [(UU l,m)]
 | (.ret,f,m)=>bnd (xk P f m rs) fun l=>fLH l fun l=>some [(UU l,m)]
 | _=>none
/-- Are two results one but for the names of the first two new pieces? -/
def Je (n:Nat) (r q:RM):Bool:=Nat.beq r.2.n q.2.n&&Nat.blt (n+1) q.2.n&&wY (swp n (n+1)) 9 q.1 r.1&&Xm n (n+1) r.2.get q.2.pl 0
/-- Of several results,those that are not one with the first but for the names of the first two new pieces. -/
def Uv (n:Nat) (l:List RM):List RM:=
 match l with
 | [r,q]=>bif Je n r q then [r] else [r,q]
 | l=>l
/-- A call:of functions that are known,by a table;of others,by their text. -/
def Yi (P:Program) (orc:EC) (cov:FuncId→Bool) (pl:FuncId→Nat→zL) (fuel:Nat):Nat→EC
 | 0,_,_,_=>none
 | d+1,g,args,m=>match orc g args m with
  | some r=>some r
  | none=>on (cov g) (match P.funcs[g]? with
   | none=>none
   | some fn=>(match fn.body with
    | none=>none
    | some c=>FT.of fn.ntmps args fun f=>bnd (yU (YW P (Yi P orc cov pl fuel d) (pl g) m.n fuel c f m) (Kk P fn.results.toList)) fun l=>some (Uv m.n l)))
/-- The functions that may be run. -/
def Uj (P:Program) (cov:FuncId→Bool) (pl:FuncId→Nat→zL):Prop:=∀g fn c,cov g=true→P.funcs[g]? =some fn→fn.body=some c→∃tb,yL [] tb (pl g) c=true
theorem zQI {P:Program} {g:FuncId} {args:List HV} {m:Mem} {l:List RM} (hl:zI P g args m.pl fun v PS=>∃x∈l,v=x.1∧PS=x.2.pl):zI P g args m.pl fun v PS=>∃x∈Uv m.n l,v=x.1∧PS=x.2.pl:=by
 unfold Uv
 split
 ·rename_i r q
  cases h:Je m.n r q
  ·exact hl
  ·obtain⟨r,m'⟩:=r
   simp only[Je,Bool.and_eq_true,zX,vM] at h
   obtain⟨⟨⟨h1,h2⟩,h3⟩,h4⟩:=h
   refine zI.ren (a:=m.n) (b:=m.n+1) (r1:=r) (PS1:=m'.pl) (r2:=q.1) (PS2:=q.2.pl) (by rw[Mem.len];omega) (by rw[Mem.len];omega) (by rw[Mem.len];omega) (by rw[Mem.len];omega) (by rw[Mem.len,Mem.len];exact h1) h3 ?_ (hl.mono ?_) ⟨(r,m'),List.mem_singleton.2 rfl,rfl,rfl⟩
   ·have:zA m'.pl=m'.get:=funext fun n=>Mem.get_eq m' n
    rw[this];exact h4
   ·rintro v PS ⟨x,hx,rfl,rfl⟩
    simp only[List.mem_cons,List.not_mem_nil,or_false] at hx
    rcases hx with rfl | rfl
    ·exact .inl ⟨(r,m'),List.mem_singleton.2 rfl,rfl,rfl⟩
    ·exact .inr ⟨rfl,rfl⟩
 ·exact hl
theorem zJv {P:Program} {orc:EC} {cov:FuncId→Bool} {pl:FuncId→Nat→zL} {fuel:Nat} (hm:P.follows .mixedOrders=true)
  (ho:qe P orc) (hc:Uj P cov pl):∀d,qe P (Yi P orc cov pl fuel d):=by
 intro d
 induction d with
 | zero=>intro g args m L h;cases h
 | succ d ih=>
  intro g args m L h
  simp only[Yi] at h
  split at h
  ·rename_i r' hr
   cases h
   exact ho _ _ _ _ hr
  ·rw[zS] at h
   obtain⟨h1,h⟩:=h
   split at h
   ·cases h
   ·rename_i fn hfn
    split at h
    ·cases h
    ·rename_i c hb
     obtain⟨f,hf,h⟩:=FT.zP8 h
     rw[zZ] at h
     obtain⟨l,h2,h3⟩:=h
     cases h3
     refine zQI ?_
     obtain⟨L,h4,h5⟩:=uV h2
     obtain⟨tb,hp⟩:=hc g fn c h1 hfn hb
     refine zQa tb (pl g) [] hm hfn hb hp ?_
     rw[←hf,Mem.len]
     refine zNK ih c _ _ _ _ h4 _ ?_
     rintro⟨hx,f1,m1⟩ hr
     obtain⟨r',h6,h7⟩:=h5 _ hr
     cases hx<;>simp only[Kk] at h6
     case exit=>cases h6
     case goto=>cases h6
     all_goals
      rw[zZ] at h6
      obtain⟨l',h8,h9⟩:=h6
      rw[kJ] at h9;cases h9
      exact JP _ _ _ h8 (zQN ⟨_,h7 _ (List.mem_singleton.2 rfl),rfl,rfl⟩)
end Go.Eng
end
