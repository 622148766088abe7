/-
A run: what single operations come to; each holds of the abstract meaning.
No conditions.
-/
import Derived.Test.YtbmibhjjogobhaaGreatQRunA
set_option linter.unusedSectionVars false
set_option linter.unusedSimpArgs false
set_option linter.unusedVariables false
noncomputable section
namespace Go.Eng
open Go
variable [zB]
def lg {α:Type} (l:List α):Nat→Option α:=List.rec (motive:=fun _=>Nat→Option α) (fun _=>none) (fun x _ ih n=>Nat.rec (motive:=fun _=>Option α) (some x) (fun n _=>ih n) n) l
@[simp] theorem jj {α:Type}:∀(l:List α) (n:Nat),lg l n=l[n]?
 | [],n=>rfl
 | x::l,0=>rfl
 | x::l,n+1=>(jj l n).trans (by simp)
theorem yk {a b:Nat}:Nat.ble a b=true↔a≤b:=by rw[Nat.ble_eq]
theorem zX {a b:Nat}:Nat.beq a b=true↔a=b:=by rw[Nat.beq_eq]
/-- On a condition. -/
def on {α:Type} (b:Bool) (x:Option α):Option α:=Bool.rec (motive:=fun _=>Option α) none x b
theorem zS {α:Type} {b:Bool} {x:Option α} {y:α}:on b x=some y↔b=true∧x=some y:=by cases b<;>simp[on]
/-- Some,and go on. -/
def bnd {α β:Type} (x:Option α) (f:α→Option β):Option β:=Option.rec (motive:=fun _=>Option β) none f x
theorem zZ {α β:Type} {x:Option α} {f:α→Option β} {y:β}:bnd x f=some y↔∃a,x=some a∧f a=some y:=by cases x<;>simp[bnd]
section
variable {P:Program} {m:Mem} {K:HV→Prop}
def Zz (q:zC) (ver i:Nat):Option (List HV):=
 match q with
 | .arr ver' _ E _=>on (Nat.beq ver ver') (lg E i)
 | _=>none
theorem UQ {q:zC} {ver i:Nat} {l:List HV} {C:List HV→Prop} (h:Zz q ver i=some l) (hk:C l):zd q ver i C:=by
 unfold Zz at h
 split at h
 ·simp only[zS,zX,jj] at h
  exact⟨h.1,l,h.2,hk⟩
 ·cases h
def jQ {α:Type} (k:Nat):List α→List α:=Nat.rec (motive:=fun _=>List α→List α) (fun l=>l) (fun _ ih l=>List.rec (motive:=fun _=>List α) [] (fun _ t _=>ih t) l) k
def uF {α:Type} (k:Nat):List α→List α:=Nat.rec (motive:=fun _=>List α→List α) (fun _=>[]) (fun _ ih l=>List.rec (motive:=fun _=>List α) [] (fun x t _=>x::ih t) l) k
def wb {α:Type} (l:List α):Nat:=List.rec (motive:=fun _=>Nat) 0 (fun _ _ ih=>Nat.succ ih) l
def gN {α:Type} (f:α→Bool) (l:List α):Bool:=List.rec (motive:=fun _=>Bool) true (fun x _ ih=>Bool.rec (motive:=fun _=>Bool) false ih (f x)) l
/-- Has it so many? -/
def ZN {α:Type} (l:List α):Nat→Bool:=List.rec (motive:=fun _=>Nat→Bool) (fun n=>Nat.rec (motive:=fun _=>Bool) true (fun _ _=>false) n) (fun _ _ ih n=>Nat.rec (motive:=fun _=>Bool) false (fun n _=>ih n) n) l
@[simp] theorem uz {α:Type}:∀(k:Nat) (l:List α),jQ k l=l.drop k
 | 0,_=>rfl
 | _+1,[]=>rfl
 | k+1,_::l=>uz k l
@[simp] theorem uW {α:Type}:∀(k:Nat) (l:List α),uF k l=l.take k
 | 0,_=>rfl
 | _+1,[]=>rfl
 | k+1,x::l=>congrArg (x:: ·) (uW k l)
@[simp] theorem wk {α:Type}:∀(l:List α),wb l=l.length
 | []=>rfl
 | _::l=>congrArg Nat.succ (wk l)
@[simp] theorem xM {α:Type} (f:α→Bool):∀(l:List α),gN f l=l.all f
 | []=>rfl
 | x::l=>by
  show Bool.rec (motive:=fun _=>Bool) false (gN f l) (f x)=_
  rw[List.all_cons,xM f l]
  cases f x<;>rfl
@[simp] theorem ZL {α:Type}:∀(l:List α) (n:Nat),ZN l n=Nat.beq l.length n
 | [],0=>rfl
 | [],_+1=>rfl
 | _::_,0=>rfl
 | _::l,n+1=>ZL l n
def XR (l:List HV) (k s:Nat):Option (List HV):=fL (uF s (jQ k l)) fun c=>on (ZN c s&&Nat.blt 0 s) (some c)
theorem QQ {l c:List HV} {k s:Nat} (h:XR l k s=some c):k+s≤l.length∧c=(l.drop k).take s:=by
 simp only[XR,yn,uW,uz,ZL,zS,Bool.and_eq_true,zX,Nat.blt_eq,Option.some.injEq] at h
 obtain⟨⟨h1,h2⟩,rfl⟩:=h
 simp at h1
 exact⟨by omega,rfl⟩
def Gd (m:Mem) (s:Nat):HV→Option (List HV)
 | .ptr n ver i k=>bnd (Zz (m.get n) ver i) fun l=>XR l k s
 | .iptr l k=>XR l k s
 | _=>none
theorem zNG {s:Nat} {x:HV} {c:List HV} {C:List HV→Prop} (h:Gd m s x=some c) (hk:C c):qK m.pl s C x:=by
 unfold Gd at h
 split at h
 ·rw[zZ] at h
  obtain⟨l,h1,h2⟩:=h
  obtain⟨h3,rfl⟩:=QQ h2
  simp only[qK,Mem.get_eq]
  exact UQ h1 ⟨h3,hk⟩
 ·obtain⟨h3,rfl⟩:=QQ h
  exact⟨h3,hk⟩
 ·cases h
def Gm (m:Mem):HV→Option HV
 | .ptr n ver i k=>bnd (Zz (m.get n) ver i) fun l=>lg l k
 | .iptr l k=>lg l k
 | _=>none
theorem QA {α:Type} {l:List α} {k:Nat} {x:α} (h:l[k]? =some x):k+1≤l.length∧(l.drop k).take 1=[x]:=by
 obtain⟨h1,h2⟩:=List.getElem?_eq_some_iff.1 h
 refine⟨h1,?_⟩
 rw[List.drop_eq_getElem_cons h1,h2];rfl
theorem zNh {x y:HV} (h:Gm m x=some y) (hk:K y):qK m.pl 1 (yE K) x:=by
 unfold Gm at h
 split at h
 ·rw[zZ] at h
  obtain⟨l,h1,h2⟩:=h
  rw[jj] at h2
  obtain⟨h3,h4⟩:=QA h2
  simp only[qK,Mem.get_eq]
  refine UQ h1 ⟨h3,?_⟩
  rw[h4];exact hk
 ·rw[jj] at h
  obtain⟨h3,h4⟩:=QA h
  refine⟨h3,?_⟩
  rw[h4];exact hk
 ·cases h
def XY (m:Mem) (x:HV):Option (Bool×Nat)→Option HV
 | some (true,s)=>bnd (Gd m s x) fun l=>some (.agg l)
 | some (false,_)=>Gm m x
 | none=>none
theorem zC0 {x y:HV} {o:Option (Bool×Nat)} (h:XY m x o=some y) (hk:K y):wB m.pl x K o:=by
 unfold XY at h
 split at h
 ·rw[zZ] at h
  obtain⟨l,h1,h2⟩:=h
  cases h2
  exact zNG (C:=fun l=>K (.agg l)) h1 hk
 ·exact zNh h hk
 ·cases h
/-! ### Numbers -/
def gU (n:Int):Bool:=Int.rec (motive:=fun _=>Bool) (fun a=>Nat.ble a 9223372036854775807) (fun a=>Nat.ble a 9223372036854775807) n
theorem Vn {n:Int} (h:gU n=true):Zw n:=by
 unfold gU at h
 cases n with
 | ofNat a=>have:=yk.1 h;exact⟨by show (-9223372036854775808:Int)≤(a:Int);omega,by show (a:Int)≤_;omega⟩
 | negSucc a=>have:=yk.1 h;exact⟨by omega,by omega⟩
def kD (k:IntKind) (n:Int):Option HV:=fI (k.wrap n) fun n=>some (.int k n)
def zAD (n:Int):Option HV:=on (gU n) (some (.int .i64 n))
def ZP (k:IntKind):Int→Option HV:=IntKind.rec (motive:=fun _=>Int→Option HV) (kD .i8) (kD .i16) (kD .i32) zAD (kD .u8) (kD .u16) (kD .u32) (kD .u64) k
theorem XA {k:IntKind} {n:Int} {y:HV} (h:ZP k n=some y) (hk:K y):wN k n K:=by
 have main:∀k,kD k n=some y→K y→K (.int k (k.wrap n)):=fun k h hk=>by
  rw[kD,kh] at h;cases h;exact hk
 cases k
 case i64=>
  have h':zAD n=some y:=h
  rw[zAD,zS] at h';obtain⟨h1,h2⟩:=h';cases h2;exact⟨Vn h1,hk⟩
 all_goals exact main _ h hk
def zEp (k:IntKind):Nat:=IntKind.rec (motive:=fun _=>Nat) 0 1 2 3 4 5 6 7 k
def kEq (a b:IntKind):Bool:=Nat.beq (zEp a) (zEp b)
theorem yc {a b:IntKind} (h:kEq a b=true):a=b:=by cases a<;>cases b<;>first | rfl | (exact absurd h (by decide))
def iEq (a b:Int):Bool:=Int.rec (motive:=fun _=>Int→Bool) (fun a b=>Int.rec (motive:=fun _=>Bool) (fun b=>Nat.beq a b) (fun _=>false) b) (fun a b=>Int.rec (motive:=fun _=>Bool) (fun _=>false) (fun b=>Nat.beq a b) b) a b
theorem gq (a b:Int):decide (a=b)=iEq a b:=by
 apply Bool.eq_iff_iff.2
 cases a<;>cases b<;>simp only[iEq,decide_eq_true_eq,zX,Bool.false_eq_true,iff_false,Int.ofNat_eq_natCast]<;>omega
def iLe (a b:Int):Bool:=Int.rec (motive:=fun _=>Int→Bool) (fun a b=>Int.rec (motive:=fun _=>Bool) (fun b=>Nat.ble a b) (fun _=>false) b) (fun a b=>Int.rec (motive:=fun _=>Bool) (fun _=>true) (fun b=>Nat.ble b a) b) a b
theorem Kn (a b:Int):decide (a≤b)=iLe a b:=by
 apply Bool.eq_iff_iff.2
 cases a<;>cases b<;>simp only[iLe,decide_eq_true_eq,yk,Bool.false_eq_true,iff_false,iff_true,Int.ofNat_eq_natCast]<;>omega
def iLt (a b:Int):Bool:=!iLe b a
theorem KH (a b:Int):decide (a<b)=iLt a b:=by
 unfold iLt;rw[←Kn];apply Bool.eq_iff_iff.2;simp only[decide_eq_true_eq,Bool.not_eq_true',decide_eq_false_iff_not];omega
def zDf (k:IntKind) (a:Int) (_:IntKind) (b:Int):Option HV:=on (iLe 0 b) (fI (k.wrap (a*2 ^ (min b.toNat k.bits))) fun n=>some (.int k n))
def zDg (k:IntKind) (a:Int) (_:IntKind) (b:Int):Option HV:=on (iLe 0 b) (fI (a.fdiv (2 ^ (min b.toNat k.bits))) fun n=>some (.int k n))
def zE8 (k:IntKind) (a:Int) (k':IntKind) (b:Int):Option HV:=on (kEq k k') (fI (a+b) (ZP k))
def zBA (k:IntKind) (a:Int) (k':IntKind) (b:Int):Option HV:=on (kEq k k') (fI (a - b) (ZP k))
def zCL (k:IntKind) (a:Int) (k':IntKind) (b:Int):Option HV:=on (kEq k k') (fI (a*b) (ZP k))
def zDm (k:IntKind) (a:Int) (k':IntKind) (b:Int):Option HV:=on (kEq k k'&& !iEq b 0) (fI (a.tdiv b) (ZP k))
def zCr (k:IntKind) (a:Int) (k':IntKind) (b:Int):Option HV:=on (kEq k k'&& !iEq b 0) (fI (a.tmod b) fun n=>some (.int k n))
def Xi (op:BinOp) (k:IntKind) (a:Int) (k':IntKind) (b:Int):Option HV:=on (kEq k k') (fI (yZ op k a b) fun n=>some (.int k n))
def ZA (f:Int→Int→Bool) (k:IntKind) (a:Int) (k':IntKind) (b:Int):Option HV:=on (kEq k k') (fB (f a b) fun r=>some (.bool r))
def Uf (op:BinOp):IntKind→Int→IntKind→Int→Option HV:=
 BinOp.rec (motive:=fun _=>IntKind→Int→IntKind→Int→Option HV) zE8 zBA zCL zDm zCr (Xi .and) (Xi .or) (Xi .xor) zDf zDg (Xi .andNot) (ZA iEq) (ZA fun a b=>!iEq a b) (ZA iLt) (ZA iLe) (ZA fun a b=>iLt b a) (ZA fun a b=>iLe b a) op
theorem uQ {a b:Int} (h:iLe a b=true):a≤b:=by rw[←Kn] at h;exact of_decide_eq_true h
theorem JB {a b:Int} (h:(!iEq a b)=true):a≠b:=by rw[←gq] at h;simpa using h
theorem zM0 {op:BinOp} {k k':IntKind} {a b:Int} {y:HV} (h:Uf op k a k' b=some y) (hk:K y):hint op k a k' b K:=by
 unfold hint
 cases op<;>simp only[Uf,zE8,zBA,zCL,zDm,zCr,Xi,zDf,zDg,ZA,zS,kh,jR,Bool.and_eq_true,Option.some.injEq] at h ⊢<;>obtain⟨h1,h2⟩:=h
 case shl=>subst h2;exact⟨uQ h1,hk⟩
 case shr=>subst h2;exact⟨uQ h1,hk⟩
 case add=>exact⟨yc h1,XA h2 hk⟩
 case sub=>exact⟨yc h1,XA h2 hk⟩
 case mul=>exact⟨yc h1,XA h2 hk⟩
 case quo=>exact⟨yc h1.1,JB h1.2,XA h2 hk⟩
 case rem=>subst h2;exact⟨yc h1.1,JB h1.2,hk⟩
 all_goals (subst h2;refine⟨yc h1,?_⟩;first | exact hk | (rw[gq];exact hk) | (rw[KH];exact hk) | (rw[Kn];exact hk))
def sEq:List UInt8→List UInt8→Bool
 | [],[]=>true
 | a::l,b::r=>Nat.beq a.toNat b.toNat&&sEq l r
 | _,_=>false
theorem Gf (a b:List UInt8):decide (a=b)=sEq a b:=by
 induction a generalizing b with
 | nil=>cases b<;>simp[sEq]
 | cons x a ih=>
  cases b with
  | nil=>simp[sEq]
  | cons y b=>
   rw[sEq,←ih,Bool.eq_iff_iff]
   simp only[decide_eq_true_eq,Bool.and_eq_true,zX,List.cons.injEq,UInt8.toNat_inj]
def Jx (op:BinOp) (a b:List UInt8):Option HV:=
 match op with
 | .add=>on (Nat.ble (a.length+b.length) maxLen) (fL (a++b) fun l=>some (.str l))
 | .eql=>fB (sEq a b) fun r=>some (.bool r)
 | .neq=>fB (!sEq a b) fun r=>some (.bool r)
 | .lss=>fB (Op.bytesLess a b) fun r=>some (.bool r)
 | .leq=>fB (Op.bytesLess a b || sEq a b) fun r=>some (.bool r)
 | .gtr=>fB (!(Op.bytesLess a b || sEq a b)) fun r=>some (.bool r)
 | .geq=>fB (!Op.bytesLess a b) fun r=>some (.bool r)
 | _=>none
theorem zI8 {op:BinOp} {a b:List UInt8} {y:HV} (h:Jx op a b=some y) (hk:K y):vP op a b K:=by
 unfold Jx at h
 unfold vP
 cases op<;>simp only[zS,yn,jR,Option.some.injEq,reduceCtorEq] at h ⊢
 case add=>exact⟨yk.1 h.1,h.2▸hk⟩
 all_goals (subst h;first | exact hk | (simp only[Gf];exact hk))
def gP (q:zC) (ver:Nat):Bool:=
 match q with
 | .arr ver' _ E opn=>Nat.beq ver ver'&&(!opn || (match E with | []=>false | _=>true))
 | _=>false
theorem xS {q:zC} {ver:Nat} (h:gP q ver=true):qJ q ver:=by
 unfold gP at h
 unfold qJ
 split at h
 ·rename_i ver' sz E opn
  simp only[Bool.and_eq_true,Bool.or_eq_true,zX] at h
  refine⟨h.1,?_⟩
  rcases h.2 with h2 | h2
  ·left;simpa using h2
  ·right;rintro rfl;cases h2
 ·cases h
def eBt:BinOp→Bool→Option HV
 | .eql,r=>fB r fun r=>some (.bool r)
 | .neq,r=>fB (!r) fun r=>some (.bool r)
 | _,_=>none
theorem xI {op:BinOp} {r:Bool} {y:HV} (h:eBt op r=some y) (hk:K y):hbt op r K:=by
 unfold eBt at h
 unfold hbt
 split at h<;>(try rw[jR] at h)<;>cases h<;>exact hk
/-- A number and itself. -/
def eSm:BinOp→Option HV
 | .eql | .leq | .geq=>some (.bool true)
 | .neq | .lss | .gtr=>some (.bool false)
 | _=>none
/-! ### Named numbers -/
/-- Two numbers,each between two:what is known of their order. -/
def iv (op:BinOp) (l1 h1 l2 h2:Int):Option Bool:=
 match op with
 | .lss=>bif iLt h1 l2 then some true else bif iLe h2 l1 then some false else none
 | .leq=>bif iLe h1 l2 then some true else bif iLt h2 l1 then some false else none
 | .gtr=>bif iLt h2 l1 then some true else bif iLe h1 l2 then some false else none
 | .geq=>bif iLe h2 l1 then some true else bif iLt h1 l2 then some false else none
 | .eql=>bif iLt h1 l2 then some false else bif iLt h2 l1 then some false else none
 | .neq=>bif iLt h1 l2 then some true else bif iLt h2 l1 then some true else none
 | _=>none
def jy (op:BinOp) (a b:Int) (r:Bool):Prop:=
 match op with
 | .lss=>decide (a<b)=r
 | .leq=>decide (a≤b)=r
 | .gtr=>decide (b<a)=r
 | .geq=>decide (b≤a)=r
 | .eql=>decide (a=b)=r
 | .neq=>(!decide (a=b))=r
 | _=>False
theorem zPE {a b:Int} (h:iLt a b=true):a<b:=by rw[←KH] at h;exact of_decide_eq_true h
theorem QD {op:BinOp} {l1 h1 l2 h2 a b:Int} {r:Bool} (ha:l1≤a∧a≤h1) (hb:l2≤b∧b≤h2) (h:iv op l1 h1 l2 h2=some r):jy op a b r:=by
 have two:∀{x y:Bool} {u v:Bool},(bif x then some u else bif y then some v else none)=some r→(x=true∧r=u)∨(y=true∧r=v):=by
  intro x y u v h
  cases x
  ·cases y
   ·cases h
   ·cases h;exact .inr ⟨rfl,rfl⟩
  ·cases h;exact .inl ⟨rfl,rfl⟩
 cases op<;>simp only[iv] at h<;>first
  | (cases h;done)
  | (simp only[jy];rcases two h with ⟨h',rfl⟩ | ⟨h',rfl⟩<;>first | (have:=zPE h';simp;omega) | (have:=uQ h';simp;omega))
theorem Jr {op:BinOp} {k k':IntKind} {a b:Int} {r:Bool} {f:Option Nat} (hf:f=none) (hkk:k=k') (h:jy op a b r) (hk:K (.bool r)):hint op k a k' b (rename f K):=by
 subst hf
 cases op<;>simp only[jy] at h<;>first | exact h.elim | (subst h;exact⟨hkk,hk⟩)
def kM (n:Int):Bool:=
 match n with
 | .ofNat a=>Nat.ble a 18446744073709551615
 | .negSucc _=>false
theorem JU {n:Int} (h:kM n=true):Zv n:=by
 unfold kM at h
 split at h
 ·have:=yk.1 h;rename_i a;exact⟨Int.natCast_nonneg a,by show (a:Int)≤_;omega⟩
 ·cases h
theorem zFp {l a h:Int} (h1:gU l=true) (h2:gU h=true) (ha:l≤a∧a≤h):Zw a:=by
 have a1:=Vn h1
 have a2:=Vn h2
 exact⟨Int.le_trans a1.1 ha.1,Int.le_trans ha.2 a2.2⟩
theorem zA7 {l a h:Int} (h1:kM l=true) (h2:kM h=true) (ha:l≤a∧a≤h):Zv a:=by
 have a1:=JU h1
 have a2:=JU h2
 exact⟨Int.le_trans a1.1 ha.1,Int.le_trans ha.2 a2.2⟩
theorem zPr {n:Int} (h:Zv n):IntKind.u64.wrap n=n:=by
 show n % 18446744073709551616=n
 exact Int.emod_eq_of_lt h.1 (by have:=h.2;omega)
theorem zPk {n:Int} (h:0≤n∧n≤255):IntKind.u8.wrap n=n:=by
 show n % 256=n
 exact Int.emod_eq_of_lt h.1 (by omega)
/-- A number by its name. -/
def eNm (k:IntKind) (f:Option Nat):Option HV:=
 match f with
 | some j=>fN j fun j=>(match k with
  | .i64=>on (gU (zB.lo j)&&gU (zB.hi j)) (some (.tok .i64 j))
  | .u64=>on (kM (zB.lo j)&&kM (zB.hi j)) (some (.tok .u64 j))
  | _=>none)
 | none=>none
theorem Yk {k:IntKind} {f:Option Nat} {n:Int} {y:HV} (h:eNm k f=some y) (hn:∀j,f=some j→zB.num j=n) (hk:K y):wN k n (rename f K):=by
 unfold eNm at h
 split at h
 ·rename_i j
  rw[yT] at h
  have:=hn j rfl
  subst this
  split at h
  ·simp only[zS,Bool.and_eq_true,Option.some.injEq] at h
   obtain⟨⟨h1,h2⟩,rfl⟩:=h
   exact⟨zFp h1 h2 (zB.rng j),rfl,hk⟩
  ·simp only[zS,Bool.and_eq_true,Option.some.injEq] at h
   obtain⟨⟨h1,h2⟩,rfl⟩:=h
   exact⟨zPr (zA7 h1 h2 (zB.rng j)),hk⟩
  ·cases h
 ·cases h
def eCp (op:BinOp) (l1 h1 l2 h2:Int):Option HV:=bnd (iv op l1 h1 l2 h2) fun r=>fB r fun r=>some (.bool r)
theorem Kj {op:BinOp} {k k':IntKind} {l1 h1 l2 h2 a b:Int} {y:HV} {f:Option Nat} (hf:∀r,jy op a b r→f=none) (hkk:k=k') (ha:l1≤a∧a≤h1) (hb:l2≤b∧b≤h2) (h:eCp op l1 h1 l2 h2=some y) (hk:K y):hint op k a k' b (rename f K):=by
 simp only[eCp,zZ,jR,Option.some.injEq] at h
 obtain⟨r,h1,rfl⟩:=h
 have:=QD ha hb h1
 exact Jr (hf r this) hkk this hk
def zC3:BinOp→Bool
 | .shr=>true
 | _=>false
def zMz:IntKind→Bool
 | .u64=>true
 | _=>false
def eTI (op:BinOp) (k:IntKind) (i:Nat) (k':IntKind) (b:Int):Option HV:=
 on (kEq k k' || zC3 op) (match op with
  | .add=>eNm k (zB.plus i b)
  | .sub=>eNm k (zB.plus i (-b))
  | .rem=>on (!iEq b 0) (bnd (zB.rem i b) fun r=>fI r fun r=>some (.int k r))
  | .shr=>on (iEq b 8&&iLe 0 (zB.lo i)&&iLe (zB.hi i) 255&&zMz k) (some (.int k (.ofNat 0)))
  | op=>eCp op (zB.lo i) (zB.hi i) b b)
theorem zHD {op:BinOp} {k k':IntKind} {i:Nat} {b:Int} {y:HV} (h:eTI op k i k' b=some y) (hk:K y):hint op k (zB.num i) k' b (rename (zBa op i b) K):=by
 unfold eTI at h
 rw[zS,Bool.or_eq_true] at h
 obtain⟨h1,h⟩:=h
 have hkk:zC3 op=false→k=k':=fun hs=>by
  rcases h1 with h1 | h1
  ·exact yc h1
  ·rw[hs] at h1;cases h1
 cases op
 case add=>exact⟨hkk rfl,Yk (n:=zB.num i+b) h (fun j hj=>zB.plus_ok i b j hj) hk⟩
 case sub=>exact⟨hkk rfl,Yk (n:=zB.num i - b) h (fun j hj=>by have:=zB.plus_ok i (-b) j hj;omega) hk⟩
 case shr=>
  simp only[zS,Bool.and_eq_true,Option.some.injEq] at h
  obtain⟨⟨⟨⟨h2,h3⟩,h4⟩,h5⟩,rfl⟩:=h
  cases k<;>try (cases h5;done)
  have e8:b=8:=by rw[←gq] at h2;exact of_decide_eq_true h2
  subst e8
  have:=zB.rng i
  have b1:=uQ h3
  have b2:=uQ h4
  refine⟨by omega,?_⟩
  have e:(zB.num i).fdiv (2 ^ (min (8:Int).toNat (IntKind.u64.bits)))=0:=by
   show (zB.num i).fdiv 256=0
   rw[Int.fdiv_eq_ediv_of_nonneg _ (by omega)]
   omega
  show K (.int .u64 _)
  rw[e];exact hk
 case rem=>
  simp only[zS,zZ,kh,Option.some.injEq] at h
  obtain⟨h2,r,h3,rfl⟩:=h
  exact⟨hkk rfl,JB h2,by rw[zB.rem_ok i b r h3];exact hk⟩
 all_goals exact Kj (fun r hr=>by first | rfl | exact hr.elim) (hkk rfl) (zB.rng i) ⟨Int.le_refl _,Int.le_refl _⟩ h hk
def eIT (op:BinOp) (k:IntKind) (a:Int) (k':IntKind) (j:Nat):Option HV:=
 on (kEq k k') (match op with
  | .add=>eNm k (zB.plus j a)
  | .mul=>on (iEq a 2) (eNm k (zB.sum j j))
  | op=>eCp op a a (zB.lo j) (zB.hi j))
theorem zLu {op:BinOp} {k k':IntKind} {j:Nat} {a:Int} {y:HV} (h:eIT op k a k' j=some y) (hk:K y):hint op k a k' (zB.num j) (rename (zCT op a j) K):=by
 unfold eIT at h
 rw[zS] at h
 obtain⟨h1,h⟩:=h
 have hkk:=yc h1
 cases op
 case add=>
  exact⟨hkk,Yk (n:=a+zB.num j) h (fun l hl=>by have:=zB.plus_ok j a l hl;omega) hk⟩
 case mul=>
  rw[zS] at h
  obtain⟨h2,h⟩:=h
  have e2:a=2:=by rw[←gq] at h2;exact of_decide_eq_true h2
  subst e2
  exact⟨hkk,Yk (n:=2*zB.num j) h (fun l hl=>by have:=zB.sum_ok j j l hl;omega) hk⟩
 all_goals exact Kj (fun r hr=>by first | rfl | exact hr.elim) hkk ⟨Int.le_refl _,Int.le_refl _⟩ (zB.rng j) h hk
/-- Which of two is less,by what is told. -/
def Wu (op:BinOp) (o:Ordering):Option Bool:=
 match op with
 | .lss=>some (match o with | .lt=>true | _=>false)
 | .leq=>some (match o with | .gt=>false | _=>true)
 | .gtr=>some (match o with | .gt=>true | _=>false)
 | .geq=>some (match o with | .lt=>false | _=>true)
 | .eql=>some (match o with | .eq=>true | _=>false)
 | .neq=>some (match o with | .eq=>false | _=>true)
 | _=>none
theorem zDC {op:BinOp} {o:Ordering} {a b:Int} {r:Bool} (ho:compare a b=o) (h:Wu op o=some r):jy op a b r:=by
 have h3:(o=.lt∧a<b)∨(o=.eq∧a=b)∨(o=.gt∧b<a):=by
  subst ho
  show (compareOfLessAndEq a b=_∧_)∨(compareOfLessAndEq a b=_∧_)∨(compareOfLessAndEq a b=_∧_)
  unfold compareOfLessAndEq
  by_cases h1:a<b
  ·simp[h1]
  ·by_cases h2:a=b
   ·simp[h2]
   ·simp[h1,h2];omega
 cases op<;>simp only[Wu] at h<;>first
  | (cases h;done)
  | (cases h;simp only[jy];rcases h3 with ⟨rfl,h3⟩ | ⟨rfl,h3⟩ | ⟨rfl,h3⟩<;>simp<;>omega)
def KP (op:BinOp) (i j:Nat):Option HV:=
 bif Nat.beq i j then eSm op else match zB.ord i j with
  | some o=>bnd (Wu op o) fun r=>fB r fun r=>some (.bool r)
  | none=>eCp op (zB.lo i) (zB.hi i) (zB.lo j) (zB.hi j)
def eTT (op:BinOp) (k:IntKind) (i:Nat) (k':IntKind) (j:Nat):Option HV:=
 on (kEq k k') (match op with
  | .add=>eNm k (zB.sum i j)
  | op=>KP op i j)
theorem zOZ {op:BinOp} {k k':IntKind} {i j:Nat} {y:HV} (h:eTT op k i k' j=some y) (hk:K y):hint op k (zB.num i) k' (zB.num j) (rename (VQ op i j) K):=by
 unfold eTT at h
 rw[zS] at h
 obtain⟨h1,h⟩:=h
 have hkk:=yc h1
 have main:KP op i j=some y→(∀r,jy op (zB.num i) (zB.num j) r→VQ op i j=none)→hint op k (zB.num i) k' (zB.num j) (rename (VQ op i j) K):=by
  intro h hf
  unfold KP at h
  cases hb:Nat.beq i j
  ·rw[hb] at h
   simp only[cond_false] at h
   split at h
   ·rename_i o ho
    simp only[zZ,jR,Option.some.injEq] at h
    obtain⟨r,h2,rfl⟩:=h
    have:=zDC (zB.ord_ok i j o ho) h2
    exact Jr (hf r this) hkk this hk
   ·exact Kj hf hkk (zB.rng i) (zB.rng j) h hk
  ·rw[hb] at h
   rw[zX] at hb
   subst hb
   have hs:∃r,y=.bool r∧jy op (zB.num i) (zB.num i) r:=by
    cases op<;>simp only[cond_true,eSm] at h<;>first | (cases h;done) | (cases h;exact⟨_,rfl,by simp[jy]⟩)
   obtain⟨r,rfl,hr⟩:=hs
   exact Jr (hf r hr) hkk hr hk
 cases op
 case add=>
  exact⟨hkk,Yk (n:=zB.num i+zB.num j) h (fun l hl=>zB.sum_ok i j l hl) hk⟩
 all_goals exact main h (fun r hr=>by first | rfl | exact hr.elim)
/-- Numbers alike,as far as is known. -/
def Ua (i j:Nat):Option Bool:=
 bif Nat.beq i j then some true else match zB.ord i j with
  | some o=>Wu .eql o
  | none=>iv .eql (zB.lo i) (zB.hi i) (zB.lo j) (zB.hi j)
theorem zCt {i j:Nat} {r:Bool} (h:Ua i j=some r):decide (zB.num i=zB.num j)=r:=by
 unfold Ua at h
 cases hb:Nat.beq i j
 ·rw[hb] at h
  simp only[cond_false] at h
  split at h
  ·rename_i o ho;exact zDC (op:=.eql) (zB.ord_ok i j o ho) h
  ·exact QD (op:=.eql) (zB.rng i) (zB.rng j) h
 ·rw[hb] at h
  rw[zX] at hb
  subst hb
  cases h;simp
def zAJ:Nat→HV→HV→Bool
 | 0,.bool _,.bool _=>true
 | 1,.int k _,.int k' _=>kEq k k'
 | 2,.str _,.str _=>true
 | 1,.tok k _,.int k' _=>kEq k k'
 | 1,.int k _,.tok k' _=>kEq k k'
 | 1,.tok k _,.tok k' _=>kEq k k'
 | 2,.stok _,.str _=>true
 | 2,.str _,.stok _=>true
 | 2,.stok _,.stok _=>true
 | _,_,_=>false
theorem zQn {n:Nat} {x y:HV} (h:zAJ n x y=true):ku n x y:=by
 unfold zAJ at h
 split at h<;>first | trivial | exact yc h | cases h
/-- Are they alike,as far as is known. -/
def Qk:HV→HV→Option Bool
 | .bool a,.bool b=>some (a == b)
 | .int _ a,.int _ b=>some (iEq a b)
 | .str a,.str b=>some (sEq a b)
 | .tok _ i,.tok _ j=>Ua i j
 | .stok i,.stok j=>on (Nat.beq i j) (some true)
 | .tok _ i,.int _ b=>iv .eql (zB.lo i) (zB.hi i) b b
 | .int _ a,.tok _ j=>iv .eql a a (zB.lo j) (zB.hi j)
 | .stok _,.str _=>none
 | .str _,.stok _=>none
 | _,_=>some false
theorem zC4 {x y:HV} {r:Bool} (h:Qk x y=some r):vu x y=r:=by
 cases x<;>cases y<;>first
  | (cases h;done)
  | (cases h;rfl)
  | (cases h;exact gq _ _)
  | (cases h;exact Gf _ _)
  | (simp only[Qk,zS,zX] at h;obtain⟨rfl,h⟩:=h;cases h;simp[vu])
  | exact zCt h
  | exact QD (op:=.eql) (zB.rng _) ⟨Int.le_refl _,Int.le_refl _⟩ h
  | exact QD (op:=.eql) ⟨Int.le_refl _,Int.le_refl _⟩ (zB.rng _) h
def XV (a b:List HV):Cells→Option Bool
 | []=>some true
 | p::ps=>match Qk (get a p.1) (get b p.1) with
  | some true=>XV a b ps
  | some false=>some false
  | none=>match XV a b ps with
   | some false=>some false
   | _=>none
theorem Qp {a b:List HV}:∀{ps:Cells} {r:Bool},XV a b ps=some r→uU ps a b=r
 | [],r,h=>by cases h;rfl
 | p::ps,r,h=>by
  unfold XV at h
  show (vu (get a p.1) (get b p.1)&&uU ps a b)=r
  split at h
  ·rename_i h1;rw[zC4 h1,Qp h];simp
  ·rename_i h1;cases h;rw[zC4 h1];simp
  ·split at h
   ·rename_i h2;cases h;rw[Qp h2];simp
   ·cases h
def Jk (a b:List HV) (op:BinOp):Option Cells→Option HV
 | some ps=>on (ps.all fun p=>zAJ p.2 (get a p.1) (get b p.1)) (bnd (XV a b ps) fun r=>eBt op r)
 | none=>none
theorem zIe {a b:List HV} {op:BinOp} {o:Option Cells} {y:HV} (h:Jk a b op o=some y) (hk:K y):kz a b op K o:=by
 unfold Jk at h
 split at h
 ·rename_i ps
  rw[zS,zZ] at h
  obtain⟨h1,r,h2,h3⟩:=h
  refine⟨fun p hp=>zQn (List.all_eq_true.1 h1 p hp),?_⟩
  rw[Qp h2]
  exact xI h3 hk
 ·cases h
def Xo (P:Program) (t:TypeId):Bool:=match P.underlying t with | some (.pointer _)=>true | _=>false
theorem Ju {t:TypeId} (h:Xo P t=true):∃s,P.underlying t=some (.pointer s):=by
 unfold Xo at h
 split at h
 ·rename_i s hs;exact⟨s,hs⟩
 ·cases h
def isBool (P:Program) (t:TypeId):Bool:=match P.underlying t with | some .bool=>true | _=>false
theorem zOg {t:TypeId} (h:isBool P t=true):P.underlying t=some .bool:=by
 unfold isBool at h
 split at h
 ·assumption
 ·cases h
def Jl (q:zC) (ver k k':Nat):Bool:=
 match q with
 | .arr v sz E opn=>Nat.beq ver v&&(!opn || (match E with | []=>false | _=>true))&&Nat.blt k sz&&Nat.blt k' sz
 | _=>false
theorem zLv {q:zC} {ver k k':Nat} (h:Jl q ver k k'=true):xY q ver k k':=by
 unfold Jl at h
 unfold xY
 split at h
 ·simp only[Bool.and_eq_true,Bool.or_eq_true,zX,Nat.blt_eq] at h
  obtain⟨⟨⟨h1,h2⟩,h3⟩,h4⟩:=h
  refine⟨h1,?_,h3,h4⟩
  rcases h2 with h2 | h2
  ·left;simpa using h2
  ·right;rintro rfl;cases h2
 ·cases h
def qx (P:Program) (m:Mem) (op:BinOp) (t:TypeId) (x y:HV):Option HV:=
 match x,y with
 | .str a,.str b=>Jx op a b
 | .bool a,.bool b=>on (isBool P t) (eBt op (a == b))
 | .ptr n ver _ _,.cst (.pointer none)=>on (gP (m.get n) ver&&Xo P t) (eBt op false)
 | .iptr _ _,.cst (.pointer none)=>on (Xo P t) (eBt op false)
 | .cst (.pointer none),.cst (.pointer none)=>on (Xo P t) (eBt op true)
 | .ptr n ver i k,.ptr n' ver' i' k'=>on (Nat.beq n n'&&Nat.beq ver ver'&&Jl (m.get n) ver k k'&&psz P t) (eBt op (Nat.beq i i'&&Nat.beq k k'))
 | .agg a,.agg b=>Jk a b op (eqO P t)
 | .tok k i,.tok k' j=>eTT op k i k' j
 | .tok k i,.int k' b=>eTI op k i k' b
 | .stok i,.stok j=>on (Nat.beq i j) (eBt op true)
 | _,_=>none
/-- Numbers by themselves. -/
def zIs (op:BinOp) (y:HV):IntKind→Int→Option HV:=
 HV.rec (motive_1:=fun _=>IntKind→Int→Option HV) (motive_2:=fun _=>Unit) (motive_3:=fun _=>Unit) (fun _ _ _=>none) (fun k' b k a=>Uf op k a k' b) (fun _ _ _=>none) (fun _ _ _=>none) (fun _ _ _ _ _=>none) (fun _ _ _ _ _=>none) (fun _ _ _ _ _ _=>none) (fun _ _ _ _ _ _ _=>none) (fun _ _ _ _ _ _ _ _=>none) (fun _ _ _ _=>none) (fun _ _ _ _=>none) (fun _ _ _ _=>none) (fun _ _ _ _ _ _ _=>none) (fun _ _ _ _ _=>none) (fun _ _ _ _ _=>none) (fun _ _=>none) (fun k' j k a=>eIT op k a k' j) (fun _ _ _=>none) (fun _ _ _=>none) (fun _ _=>none) () (fun _ _ _ _=>()) () (fun _ _ _ _=>()) y
def XK (P:Program) (m:Mem) (op:BinOp) (t:TypeId) (x y:HV):Option HV:=
 HV.rec (motive_1:=fun _=>Option HV) (motive_2:=fun _=>Unit) (motive_3:=fun _=>Unit) (fun _=>qx P m op t x y) (zIs op y) (fun _=>qx P m op t x y) (fun _=>qx P m op t x y) (fun _ _ _=>qx P m op t x y) (fun _ _ _=>qx P m op t x y) (fun _ _ _ _=>qx P m op t x y) (fun _ _ _ _ _=>qx P m op t x y) (fun _ _ _ _ _ _=>qx P m op t x y) (fun _ _=>qx P m op t x y) (fun _ _=>qx P m op t x y) (fun _ _=>qx P m op t x y) (fun _ _ _ _ _=>qx P m op t x y) (fun _ _ _=>qx P m op t x y) (fun _ _ _=>qx P m op t x y) (qx P m op t x y) (fun _ _=>qx P m op t x y) (fun _=>qx P m op t x y) (fun _=>qx P m op t x y) (qx P m op t x y) () (fun _ _ _ _=>()) () (fun _ _ _ _=>()) x
theorem zDk {op:BinOp} {t:TypeId} {x y z:HV} (h:XK P m op t x y=some z) (hk:K z):qu P m.pl op t x y K:=by
 replace h:(∃k a k' b,x=.int k a∧y=.int k' b∧Uf op k a k' b=some z)∨(∃k a k' j,x=.int k a∧y=.tok k' j∧eIT op k a k' j=some z)∨qx P m op t x y=some z:=by
  cases x with
  | int k a=>
   cases y with
   | int k' b=>exact .inl ⟨k,a,k',b,rfl,rfl,h⟩
   | tok k' j=>exact .inr (.inl ⟨k,a,k',j,rfl,rfl,h⟩)
   | _=>cases h
  | _=>exact .inr (.inr h)
 rcases h with ⟨k,a,k',b,rfl,rfl,h⟩ | ⟨k,a,k',j,rfl,rfl,h⟩ | h
 ·exact zM0 h hk
 ·exact zLu h hk
 unfold qx at h
 split at h
 ·exact zI8 h hk
 ·rw[zS] at h;exact⟨zOg h.1,xI h.2 hk⟩
 ·rw[zS,Bool.and_eq_true] at h;exact⟨by rw[Mem.get_eq];exact xS h.1.1,Ju h.1.2,xI h.2 hk⟩
 ·rw[zS] at h;exact⟨Ju h.1,xI h.2 hk⟩
 ·rw[zS] at h;exact⟨Ju h.1,xI h.2 hk⟩
 ·rename_i n ver i k n' ver' i' k'
  simp only[zS,Bool.and_eq_true,zX] at h
  obtain⟨⟨⟨⟨h1,h2⟩,h3⟩,h4⟩,h5⟩:=h
  refine⟨h1,h2,by rw[Mem.get_eq];exact zLv h3,h4,?_⟩
  have:(decide (i=i')&&decide (k=k'))=(Nat.beq i i'&&Nat.beq k k'):=by
   rw[Bool.eq_iff_iff];simp
  rw[this]
  exact xI h5 hk
 ·exact zIe h hk
 ·exact zOZ h hk
 ·exact zHD h hk
 ·rw[zS,zX] at h
  obtain⟨rfl,h2⟩:=h
  cases op<;>simp only[eBt,jR,Option.some.injEq] at h2<;>first | (subst h2;simpa [qu,vP] using hk) | cases h2
 ·cases h
def eUn (op:UnOp) (x:HV):Option HV:=
 match op,x with
 | .neg,.int k n=>fI (0 - n) fun n=>ZP k n
 | .xor,.int k n=>fI (yZ .xor k (if k.signed then -1 else k.max) n) fun n=>some (.int k n)
 | .not,.bool b=>fB (!b) fun b=>some (.bool b)
 | _,_=>none
theorem zRz {op:UnOp} {x y:HV} (h:eUn op x=some y) (hk:K y):hun op x K:=by
 unfold eUn at h
 split at h
 ·rw[kh] at h;exact XA h hk
 ·rw[kh] at h;cases h;exact hk
 ·rw[jR] at h;cases h;exact hk
 ·cases h
/-! ### Addresses -/
def WK (m:Mem) (x:HV):Option (Nat×Nat)→Option HV
 | some (off,_)=>(match x with
  | .ptr n ver i k=>on (gP (m.get n) ver) (fN (k+off) fun k=>some (.ptr n ver i k))
  | .iptr l k=>fN (k+off) fun k=>some (.iptr l k)
  | _=>none)
 | none=>none
theorem zJk {x y:HV} {o:Option (Nat×Nat)} (h:WK m x o=some y) (hk:K y):qd m.pl x K o:=by
 unfold WK at h
 split at h
 ·unfold qd
  split at h
  ·rw[zS,yT] at h;obtain⟨h1,h2⟩:=h;cases h2;exact⟨by rw[Mem.get_eq];exact xS h1,hk⟩
  ·rw[yT] at h;cases h;exact hk
  ·cases h
 ·cases h
def jM (i:Int):Option Nat:=
 match i with
 | .ofNat a=>some a
 | .negSucc _=>none
theorem gV {i:Int} {a:Nat} (h:jM i=some a):0≤i∧i.toNat=a∧i=(a:Int):=by
 unfold jM at h
 split at h
 ·cases h;exact⟨Int.natCast_nonneg a,rfl,rfl⟩
 ·cases h
def Jp (m:Mem) (x i:HV):Option (TypeId×Nat)→Option HV
 | some (_,s)=>(match x,i with
  | .imm _ E,.int _ i=>bnd (jM i) fun a=>bnd (lg E a) fun l=>on (ZN l s) (some (.iptr l 0))
  | .sl n ver i0 len _,.int _ i=>bnd (jM i) fun a=>on (Nat.blt a len) (fN (i0+a) fun j=>bnd (Zz (m.get n) ver j) fun l=>on (ZN l s) (some (.ptr n ver j 0)))
  | .isl n ver i0 k len _,.int _ i=>bnd (jM i) fun a=>on (Nat.blt a len&&gP (m.get n) ver) (fN (k+a*s) fun k=>some (.ptr n ver i0 k))
  | _,_=>none)
 | none=>none
theorem zHY {x i y:HV} {o:Option (TypeId×Nat)} (h:Jp m x i o=some y) (hk:K y):vO m.pl x i K o:=by
 unfold Jp at h
 split at h
 ·unfold vO
  split at h
  ·simp only[zZ,zS,jj,ZL,zX,Option.some.injEq] at h
   obtain⟨a,h1,l,h2,h3,rfl⟩:=h
   obtain⟨h4,h5,h6⟩:=gV h1
   exact⟨h4,l,by rw[h5];exact h2,h3,hk⟩
  ·simp only[zZ,zS,yT,ZL,zX,Nat.blt_eq,Option.some.injEq] at h
   obtain⟨a,h1,h2,l,h3,h4,rfl⟩:=h
   obtain⟨h5,h6,h7⟩:=gV h1
   refine⟨h5,by omega,?_⟩
   rw[h6,Mem.get_eq]
   exact UQ h3 ⟨h4,hk⟩
  ·simp only[zZ,zS,yT,Bool.and_eq_true,Nat.blt_eq,Option.some.injEq] at h
   obtain⟨a,h1,⟨h2,h3⟩,rfl⟩:=h
   obtain⟨h5,h6,h7⟩:=gV h1
   refine⟨h5,by omega,by rw[Mem.get_eq];exact xS h3,?_⟩
   rw[h6];exact hk
  ·cases h
 ·cases h
def KG (m:Mem) (x i:HV):Option (Nat×TypeId×Nat)→Option HV
 | some (N,_,s)=>(match x,i with
  | .ptr n ver i0 k,.int _ i=>bnd (jM i) fun a=>on (Nat.blt a N&&gP (m.get n) ver) (fN (k+a*s) fun k=>some (.ptr n ver i0 k))
  | .iptr l k,.int _ i=>bnd (jM i) fun a=>on (Nat.blt a N) (fN (k+a*s) fun k=>some (.iptr l k))
  | _,_=>none)
 | none=>none
theorem zK3 {x i y:HV} {o:Option (Nat×TypeId×Nat)} (h:KG m x i o=some y) (hk:K y):ve m.pl x i K o:=by
 unfold KG at h
 split at h
 ·unfold ve
  split at h
  ·simp only[zZ,zS,yT,Bool.and_eq_true,Nat.blt_eq,Option.some.injEq] at h
   obtain⟨a,h1,⟨h2,h3⟩,rfl⟩:=h
   obtain⟨h5,h6,h7⟩:=gV h1
   refine⟨h5,by omega,by rw[Mem.get_eq];exact xS h3,?_⟩
   rw[h6];exact hk
  ·simp only[zZ,zS,yT,Nat.blt_eq,Option.some.injEq] at h
   obtain⟨a,h1,h2,rfl⟩:=h
   obtain⟨h5,h6,h7⟩:=gV h1
   refine⟨h5,by omega,?_⟩
   rw[h6];exact hk
  ·cases h
 ·cases h
def WO (P:Program) (m:Mem) (t:TypeId) (x i:HV):Option HV:=
 match qO P t with
 | some r=>Jp m x i (some r)
 | none=>KG m x i (wR P t)
theorem zQZ {t:TypeId} {x i y:HV} (h:WO P m t x i=some y) (hk:K y):wi P m.pl t x i K:=by
 unfold WO at h
 unfold wi
 cases hs:qO P t with
 | some r=>rw[hs] at h;exact zHY h hk
 | none=>rw[hs] at h;exact zK3 h hk
def Vo (x:Option HV) (d:Int):Option Int:=
 match x with
 | none=>some d
 | some (.int _ n)=>some n
 | some _=>none
theorem zCM {x:Option HV} {d n:Int} {C:Int→Prop} (h:Vo x d=some n) (hk:C n):vH x d C:=by
 unfold Vo at h
 unfold vH
 split at h
 ·cases h;exact hk
 ·cases h;exact hk
 ·cases h
def xO (len lim:Nat) (low high max:Option HV):Option (Nat×Nat×Option Nat):=
 bnd (Vo low 0) fun l=>bnd (Vo high len) fun h=>match max with
  | none=>on (iLe 0 l&&iLe l h&&iLe h lim) (fN l.toNat fun l=>fN h.toNat fun h=>some (l,h,none))
  | some (.int _ m)=>on (high.isSome&&iLe 0 l&&iLe l h&&iLe h m&&iLe m lim) (fN l.toNat fun l=>fN h.toNat fun h=>fN m.toNat fun m=>some (l,h,some m))
  | some _=>none
theorem YU {len lim:Nat} {low high max:Option HV} {l h:Nat} {m:Option Nat} {C:Nat→Nat→Option Nat→Prop} (he:xO len lim low high max=some (l,h,m)) (hk:C l h m):qV len lim low high max C:=by
 unfold xO at he
 rw[zZ] at he
 obtain⟨l',h1,he⟩:=he
 rw[zZ] at he
 obtain⟨h',h2,he⟩:=he
 unfold qV
 refine zCM h1 (zCM h2 ?_)
 split at he
 ·simp only[zS,yT,Bool.and_eq_true,Option.some.injEq,Prod.mk.injEq] at he
  obtain⟨⟨⟨h3,h4⟩,h5⟩,rfl,rfl,rfl⟩:=he
  exact⟨uQ h3,uQ h4,uQ h5,hk⟩
 ·simp only[zS,yT,Bool.and_eq_true,Option.some.injEq,Prod.mk.injEq] at he
  obtain⟨⟨⟨⟨⟨h0,h3⟩,h4⟩,h5⟩,h6⟩,rfl,rfl,rfl⟩:=he
  exact⟨h0,uQ h3,uQ h4,uQ h5,uQ h6,hk⟩
 ·cases he
def eSz (q:zC) (s:Nat):Bool:=
 match q with
 | .arr _ sz _ _=>Nat.beq sz s
 | _=>false
theorem zGM {q:zC} {s:Nat} (h:eSz q s=true):hsz q s:=by
 unfold eSz at h
 unfold hsz
 split at h
 ·exact zX.1 h
 ·cases h
def JC (q:zC) (i len:Nat) (cp:Option Nat):Nat:=
 match cp with
 | some c=>c
 | none=>(match q with
  | .arr _ _ E _=>fN (wb E) fun k=>fN (k - i) fun k=>bif Nat.ble len k then k else len
  | _=>len)
theorem zIv (q:zC) (i len:Nat) (cp:Option Nat):JC q i len cp=uN q i len cp:=by
 cases cp with
 | some c=>rfl
 | none=>
  cases q<;>simp only[JC,uN,uy,yT,wk]
  rename_i E _
  cases h:Nat.ble len (E.length - i)
  ·have:¬len≤E.length - i:=fun hh=>by rw[←Nat.ble_eq,h] at hh;cases hh
   simp only[cond_false];omega
  ·have:=yk.1 h
   simp only[cond_true];omega
def Qg (m:Mem) (s:Nat) (x:HV) (low high max:Option HV):Option HV:=
 match x with
 | .imm t E=>on (gN (fun r=>ZN r s) E) (bnd (xO E.length E.length low high max) fun r=>match r with
  | (l,h,some m)=>fB (Nat.beq m h) fun t=>fL (jQ l (uF h E)) fun E=>some (.imm t E)
  | (l,h,none)=>fB (t&&(high.isNone || Nat.beq h E.length)) fun t=>fL (jQ l (uF h E)) fun E=>some (.imm t E))
 | .sl n ver i len cp=>on (gP (m.get n) ver&&eSz (m.get n) s) (bnd (xO len (JC (m.get n) i len cp) low high max) fun r=>match r with
  | (l,h,some m)=>fN (i+l) fun i=>fN (h - l) fun h=>fN (m - l) fun m=>some (.sl n ver i h (some m))
  | (l,h,none)=>fN (i+l) fun i=>fN (h - l) fun h=>fO (cp.map (· - l)) fun c=>some (.sl n ver i h c))
 | .isl n ver i k len cp=>on (gP (m.get n) ver) (bnd (xO len cp low high max) fun r=>match r with
  | (l,h,some m)=>fN (k+l*s) fun k=>fN (h - l) fun h=>fN (m - l) fun m=>some (.isl n ver i k h m)
  | (l,h,none)=>fN (k+l*s) fun k=>fN (h - l) fun h=>fN (cp - l) fun m=>some (.isl n ver i k h m))
 | _=>none
theorem GI (a b:Nat):decide (a=b)=Nat.beq a b:=by rw[Bool.eq_iff_iff];simp
theorem zPs {s:Nat} {x y:HV} {low high max:Option HV} (h:Qg m s x low high max=some y) (hk:K y):wh m.pl s x low high max K:=by
 unfold Qg at h
 unfold wh
 split at h
 ·simp only[zS,zZ] at h
  obtain⟨h1,⟨l,h',mm⟩,h2,h3⟩:=h
  refine⟨fun r hr=>(by have:=List.all_eq_true.1 ((xM _ _).symm.trans h1) r hr;rw[ZL] at this;exact zX.1 this),YU h2 ?_⟩
  cases mm with
  | some mm=>simp only[jR,yn,uz,uW] at h3;cases h3;simp only[GI];exact hk
  | none=>simp only[jR,yn,uz,uW] at h3;cases h3;simp only[GI];exact hk
 ·simp only[zS,zZ,Bool.and_eq_true] at h
  obtain⟨⟨h1,h1'⟩,⟨l,h',mm⟩,h2,h3⟩:=h
  rw[zIv] at h2
  simp only[Mem.get_eq]
  refine⟨xS h1,zGM h1',YU h2 ?_⟩
  cases mm<;>(simp only[yT,zCR] at h3;cases h3;exact hk)
 ·simp only[zS,zZ] at h
  obtain⟨h1,⟨l,h',mm⟩,h2,h3⟩:=h
  refine⟨by rw[Mem.get_eq];exact xS h1,YU h2 ?_⟩
  cases mm<;>(simp only[yT,zCR] at h3;cases h3;exact hk)
 ·cases h
def VT (m:Mem) (N s:Nat) (x:HV) (low high max:Option HV):Option HV:=
 match x with
 | .ptr n ver i k=>on (Nat.ble N 65536&&gP (m.get n) ver) (bnd (xO N N low high max) fun r=>match r with
  | (l,h,mm)=>fN (k+l*s) fun k=>fN (h - l) fun h=>fN (mm.getD N - l) fun c=>some (.isl n ver i k h c))
 | .iptr c k=>on (Nat.ble N 65536&&Nat.beq s 1&&Nat.ble (k+N) (wb c)) (bnd (xO N N low high max) fun r=>match r with
  | (l,h,mm)=>fB (Nat.beq (mm.getD N) h) fun t=>fLL ((uF (h - l) (jQ (k+l) c)).map fun y=>[y]) fun E=>some (.imm t E))
 | _=>none
theorem zFb {N s:Nat} {x y:HV} {low high max:Option HV} (h:VT m N s x low high max=some y) (hk:K y):wT m.pl N s x low high max K:=by
 unfold VT at h
 unfold wT
 split at h
 ·simp only[zS,zZ,Bool.and_eq_true,yk] at h
  obtain⟨⟨h1,h1'⟩,⟨l,h',mm⟩,h2,h3⟩:=h
  simp only[yT] at h3
  cases h3
  exact⟨h1,by rw[Mem.get_eq];exact xS h1',YU h2 hk⟩
 ·simp only[zS,zZ,Bool.and_eq_true,yk,zX] at h
  obtain⟨⟨⟨h1,h1'⟩,h1''⟩,⟨l,h',mm⟩,h2,h3⟩:=h
  rw[wk] at h1''
  simp only[jR,zEW,uz,uW] at h3
  cases h3
  refine⟨h1,h1',h1'',YU h2 ?_⟩
  simp only[GI];exact hk
 ·cases h
def Qi (x:HV) (low high max:Option HV):Option HV:=
 match x with
 | .str s=>on max.isNone (bnd (xO s.length s.length low high none) fun r=>match r with
  | (l,h,_)=>fL (jQ l (uF h s)) fun l=>some (.str l))
 | _=>none
theorem zOr {x y:HV} {low high max:Option HV} (h:Qi x low high max=some y) (hk:K y):jh x low high max K:=by
 unfold Qi at h
 unfold jh
 split at h
 ·simp only[zS,zZ] at h
  obtain⟨h1,⟨l,h',mm⟩,h2,h3⟩:=h
  simp only[yn,uz,uW] at h3
  cases h3
  exact⟨h1,YU h2 hk⟩
 ·cases h
def UX (P:Program) (m:Mem) (t:TypeId) (x:HV) (low high max:Option HV):Option HV:=
 match P.underlying t with
 | some .string=>Qi x low high max
 | some (.slice _)=>bnd (qO P t) fun r=>Qg m r.2 x low high max
 | some (.array _ _)=>bnd (wR P t) fun r=>VT m r.1 r.2.2 x low high max
 | some (.pointer ar)=>bnd (wR P ar) fun r=>VT m r.1 r.2.2 x low high max
 | _=>none
theorem zL9 {t:TypeId} {x y:HV} {low high max:Option HV} (h:UX P m t x low high max=some y) (hk:K y):wm P m.pl t x low high max K:=by
 unfold UX at h
 unfold wm
 split at h<;>rename_i hu<;>simp only[hu]
 ·exact zOr h hk
 ·rw[zZ] at h;obtain⟨⟨a,b⟩,h1,h2⟩:=h;rw[h1];exact zPs h2 hk
 ·rw[zZ] at h;obtain⟨⟨a,b,c⟩,h1,h2⟩:=h;rw[h1];exact zFb h2 hk
 ·rw[zZ] at h;obtain⟨⟨a,b,c⟩,h1,h2⟩:=h;rw[h1];exact zFb h2 hk
 ·cases h
def Xw (q:zC) (ver:Nat):Bool:=
 match q with
 | .arr ver' _ _ _=>Nat.beq ver ver'
 | _=>false
theorem Jg {q:zC} {ver:Nat} (h:Xw q ver=true):qM q ver:=by
 unfold Xw at h
 unfold qM
 split at h
 ·exact zX.1 h
 ·cases h
def Wa (P:Program) (m:Mem) (t:TypeId) (x:HV):Option HV:=
 match P.underlying t with
 | some .string=>(match x with | .str s=>fN (wb s) fun n=>some (.int .i64 (.ofNat n)) | .stok i=>bnd (zB.slen i) fun j=>fN j fun j=>some (.tok .i64 j) | _=>none)
 | some (.slice _)=>(match x with
  | .imm _ E=>fN (wb E) fun n=>some (.int .i64 (.ofNat n))
  | .sl n ver _ len _=>on (Xw (m.get n) ver) (some (.int .i64 (.ofNat len)))
  | .isl n ver _ _ len _=>on (Xw (m.get n) ver) (some (.int .i64 (.ofNat len)))
  | .nam i=>bnd (zB.rlen i) fun j=>fN j fun j=>some (.tok .i64 j)
  | _=>none)
 | some (.array n _)=>some (.int .i64 (.ofNat n))
 | some (.pointer ar)=>(match P.underlying ar with | some (.array n _)=>some (.int .i64 (.ofNat n)) | _=>none)
 | _=>none
theorem zHH {t:TypeId} {x y:HV} (h:Wa P m t x=some y) (hk:K y):vD P m.pl t x K:=by
 unfold Wa at h
 unfold vD
 split at h<;>rename_i hu<;>simp only[hu]
 ·split at h
  ·rw[yT,wk] at h;cases h;exact hk
  ·simp only[zZ,yT,Option.some.injEq] at h
   obtain⟨j,hj,rfl⟩:=h
   simp only[hj];exact hk
  ·cases h
 ·split at h
  ·rw[yT,wk] at h;cases h;exact hk
  ·rw[zS] at h;obtain⟨h1,h2⟩:=h;cases h2;exact⟨by rw[Mem.get_eq];exact Jg h1,hk⟩
  ·rw[zS] at h;obtain⟨h1,h2⟩:=h;cases h2;exact⟨by rw[Mem.get_eq];exact Jg h1,hk⟩
  ·simp only[zZ,yT,Option.some.injEq] at h
   obtain⟨j,hj,rfl⟩:=h
   show uO _ K
   unfold uO
   rw[hj];exact hk
  ·cases h
 ·cases h;exact hk
 ·split at h
  ·rename_i hv;simp only[hv];cases h;exact hk
  ·cases h
 ·cases h
def QF (x:HV) (i:Nat):Option HV:=
 match x with
 | .tup l=>lg l i
 | _=>none
theorem zHJ {x y:HV} {i:Nat} (h:QF x i=some y) (hk:K y):wy x i K:=by
 unfold QF at h
 unfold wy
 split at h
 ·rw[jj] at h;exact⟨y,h,hk⟩
 ·cases h
def ZK (b:Bool) (s off:Nat) (l:List HV):Option HV:=bif b then bnd (XR l off s) fun c=>some (.agg c) else lg l off
theorem zBO {b:Bool} {s off:Nat} {l:List HV} {y:HV} (h:ZK b s off l=some y) (hk:K y):uB b s off l K:=by
 unfold ZK at h
 unfold uB
 cases b
 ·simp only[cond_false,jj] at h;exact⟨y,h,hk⟩
 ·simp only[cond_true,zZ] at h
  obtain⟨c,h1,h2⟩:=h
  cases h2
  obtain⟨h3,rfl⟩:=QQ h1
  exact⟨h3,hk⟩
def Wv (P:Program) (t:TypeId) (x:HV) (f:Nat):Option HV:=
 match P.underlying t,x with
 | some (.struct fs),.agg l=>(match fs[f]? with
  | some g=>bnd (tsz P g.type) fun r=>ZK r.1 r.2 g.offset l
  | none=>none)
 | _,_=>none
theorem zQK {t:TypeId} {x y:HV} {f:Nat} (h:Wv P t x f=some y) (hk:K y):jI P t x f K:=by
 unfold Wv at h
 unfold jI
 split at h
 ·rename_i hu;simp only[hu]
  split at h
  ·rename_i hf;simp only[hf]
   rw[zZ] at h;obtain⟨⟨a,b⟩,h1,h2⟩:=h;rw[h1];exact zBO h2 hk
  ·cases h
 ·cases h
def VG (P:Program) (t:TypeId) (x i:HV):Option HV:=
 match P.underlying t with
 | some .string=>(match x,i with
  | .str s,.int _ n=>bnd (jM n) fun a=>bnd (lg s a) fun b=>fN b.toNat fun b=>some (.int .u8 (.ofNat b))
  | _,_=>none)
 | some (.array N e)=>(match x,i with
  | .agg l,.int _ n=>bnd (jM n) fun a=>on (Nat.blt a N) (bnd (tsz P e) fun r=>ZK r.1 r.2 (a*r.2) l)
  | _,_=>none)
 | _=>none
theorem zKY {t:TypeId} {x i y:HV} (h:VG P t x i=some y) (hk:K y):vc P t x i K:=by
 unfold VG at h
 unfold vc
 split at h<;>rename_i hu<;>simp only[hu]
 ·split at h
  ·simp only[zZ,jj,yT,Option.some.injEq] at h
   obtain⟨a,h1,b,h2,rfl⟩:=h
   obtain⟨h3,h4,h5⟩:=gV h1
   exact⟨h3,b,by rw[h4];exact h2,hk⟩
  ·cases h
 ·split at h
  ·simp only[zZ,zS,Nat.blt_eq] at h
   obtain⟨a,h1,h2,⟨b,s⟩,h6,h7⟩:=h
   obtain⟨h3,h4,h5⟩:=gV h1
   refine⟨h3,by omega,?_⟩
   rw[h6,h4]
   exact zBO h7 hk
  ·cases h
 ·cases h
def WW (m:Mem) (x:HV):Option HV:=
 match x with
 | .ptr n ver i k=>on (gP (m.get n) ver) (some (.ptr n ver i k))
 | .iptr l k=>some (.iptr l k)
 | .func (.func f) a b=>some (.func (.func f) a b)
 | .cst (.func (.func f) a b)=>some (.cst (.func (.func f) a b))
 | .iface t y=>some (.iface t y)
 | _=>none
theorem zL0 {x y:HV} (h:WW m x=some y) (hk:K y):wg m.pl x K:=by
 unfold WW at h
 unfold wg
 split at h
 ·rw[zS] at h;obtain⟨h1,h2⟩:=h;cases h2;exact⟨by rw[Mem.get_eq];exact xS h1,hk⟩
 ·cases h;exact hk
 ·cases h;exact hk
 ·cases h;exact hk
 ·cases h;exact hk
 ·cases h
def Ux (c a b:HV):Option HV:=
 match c with
 | .bool true=>some a
 | .bool false=>some b
 | _=>none
theorem zHg {c a b y:HV} (h:Ux c a b=some y) (hk:K y):vt c a b K:=by
 unfold Ux at h
 split at h
 ·cases h;exact⟨fun _=>hk,fun e=>(by cases e)⟩
 ·cases h;exact⟨fun e=>(by cases e),fun _=>hk⟩
 ·cases h
def GR (k:IntKind) (n:Int):Option HV:=
 match k with
 | .i64=>on (gU n) (some (.int .i64 n))
 | .u64=>on (kM n) (some (.int .u64 n))
 | k=>fI (k.wrap n) fun n=>some (.int k n)
theorem zR3 {k:IntKind} {n:Int} {y:HV} (h:GR k n=some y) (hk:K y):vg k n K:=by
 unfold GR at h
 unfold vg
 cases k
 case i64=>simp only[zS,Option.some.injEq] at h;obtain⟨h1,rfl⟩:=h;exact⟨Vn h1,hk⟩
 case u64=>simp only[zS,Option.some.injEq] at h;obtain⟨h1,rfl⟩:=h;exact⟨JU h1,hk⟩
 all_goals (simp only[kh] at h;cases h;exact hk)
/-- A named number,of another kind. -/
def eTk (k:IntKind) (i:Nat):Option HV:=
 bnd (zB.conv i k) fun j=>fN j fun j=>(match k with
  | .i64=>on (gU (zB.lo i)&&gU (zB.hi i)) (some (.tok .i64 j))
  | .u64=>on (kM (zB.lo i)&&kM (zB.hi i)) (some (.tok .u64 j))
  | .u8=>on (iLe 0 (zB.lo i)&&iLe (zB.hi i) 255) (some (.tok .u8 j))
  | _=>none)
theorem zLe {k:IntKind} {i:Nat} {y:HV} (h:eTk k i=some y) (hk:K y):vg k (zB.num i) (rename (zB.conv i k) K):=by
 simp only[eTk,zZ,yT] at h
 obtain⟨j,hj,h⟩:=h
 have e:=zB.conv_ok i k j hj
 rw[hj]
 split at h
 ·simp only[zS,Bool.and_eq_true,Option.some.injEq] at h
  obtain⟨⟨h1,h2⟩,rfl⟩:=h
  exact⟨zFp h1 h2 (zB.rng i),e.symm,hk⟩
 ·simp only[zS,Bool.and_eq_true,Option.some.injEq] at h
  obtain⟨⟨h1,h2⟩,rfl⟩:=h
  exact⟨zA7 h1 h2 (zB.rng i),e.symm,hk⟩
 ·simp only[zS,Bool.and_eq_true,Option.some.injEq] at h
  obtain⟨⟨h1,h2⟩,rfl⟩:=h
  have:=zB.rng i
  have b1:=uQ h1
  have b2:=uQ h2
  exact⟨by rw[zPk ⟨by omega,by omega⟩];exact e.symm,hk⟩
 ·cases h
def VN (m:Mem) (s:Nat) (x:HV):Option (List (List HV)):=
 match x with
 | .imm _ E=>on (gN (fun r=>ZN r s) E) (some E)
 | .sl n ver i len _=>(match m.get n with
  | .arr ver' sz E _=>on (Nat.beq ver ver'&&(Nat.beq len 0 || Nat.beq sz s)&&Nat.ble (i+len) (wb E)) (some (uF len (jQ i E)))
  | _=>none)
 | .isl n ver i k len _=>on (Nat.beq s 1) (bnd (Zz (m.get n) ver i) fun l=>on (Nat.ble (k+len) (wb l)) (some ((uF len (jQ k l)).map fun y=>[y])))
 | _=>none
theorem zFy {s:Nat} {x:HV} {E:List (List HV)} {C:List (List HV)→Prop} (h:VN m s x=some E) (hk:C E):zz m.pl s x C:=by
 unfold VN at h
 unfold zz
 split at h
 ·rw[zS] at h;obtain⟨h1,h2⟩:=h;cases h2
  exact⟨fun r hr=>(by have:=List.all_eq_true.1 ((xM _ _).symm.trans h1) r hr;rw[ZL] at this;exact zX.1 this),hk⟩
 ·simp only[Mem.get_eq]
  split at h
  ·rename_i hg;rw[hg]
   simp only[zS,wk,uz,uW,Bool.and_eq_true,Bool.or_eq_true,zX,yk,Option.some.injEq] at h
   obtain⟨⟨⟨h1,h2⟩,h3⟩,rfl⟩:=h
   exact⟨h1,h2,h3,hk⟩
  ·cases h
 ·simp only[zS,wk,uz,uW,zZ,zX,yk,Option.some.injEq] at h
  obtain⟨h1,l,h2,h3,rfl⟩:=h
  exact⟨h1,by rw[Mem.get_eq];exact UQ h2 ⟨h3,hk⟩⟩
 ·cases h
def isKind (P:Program) (t:TypeId) (k:IntKind):Bool:=match P.underlying t with | some (.int k')=>kEq k' k | _=>false
theorem zDl {t:TypeId} {k:IntKind} (h:isKind P t k=true):P.underlying t=some (.int k):=by
 unfold isKind at h
 split at h
 ·rename_i k' hk;rw[hk,yc h]
 ·cases h
def XC (P:Program) (m:Mem) (src dst:TypeId) (x:HV):Option HV:=
 match P.underlying src with
 | none=>none
 | some s=>match P.underlying dst with
  | some (.int k)=>(match x with | .int _ n=>GR k n | .tok _ i=>eTk k i | _=>none)
  | some .string=>(match s,x with
   | .string,.str l=>some (.str l)
   | .slice e,x=>on (isKind P e .u8) (bnd (VN m 1 x) fun E=>bnd (bytesOf E) fun l=>fL l fun l=>some (.str l))
   | _,_=>none)
  | _=>none
theorem zRT {s d:TypeId} {x y:HV} (h:XC P m s d x=some y) (hk:K y):wc P m.pl s d x K:=by
 unfold XC at h
 unfold wc
 split at h
 ·cases h
 ·rename_i st hs
  simp only[hs]
  split at h
  ·rename_i k hd;simp only[hd]
   split at h
   ·exact zR3 h hk
   ·exact zLe h hk
   ·cases h
  ·rename_i hd;simp only[hd]
   split at h
   ·cases h;exact hk
   ·rename_i e x
    simp only[zS,zZ,yn,Option.some.injEq] at h
    obtain⟨h1,E,h2,l,h3,rfl⟩:=h
    exact⟨zDl h1,zFy h2 ⟨l,h3,hk⟩⟩
   ·cases h
  ·cases h
def zAe (P:Program) (src dst:TypeId) (l:List UInt8):Option HV:=
 match P.underlying dst with
 | some (.slice e)=>(match P.underlying src with
  | some .string=>on (isKind P e .u8&&Nat.ble l.length 140737488355328) (fBR l fun E=>some (.imm false E))
  | _=>none)
 | _=>none
def WB (P:Program) (m:Mem) (s d:TypeId) (x:HV):Option HV:=
 match x with
 | .str l=>(match P.underlying d with
  | some (.slice _)=>zAe P s d l
  | _=>XC P m s d (.str l))
 | x=>XC P m s d x
theorem zGG {s d:TypeId} {x y:HV} (h:WB P m s d x=some y) (hk:K y):wV P m.pl s d x K:=by
 have main:∀x,XC P m s d x=some y→wc P m.pl s d x K:=fun x h=>zRT h hk
 cases x with
 | str l=>
  simp only[WB] at h
  simp only[wV]
  split at h
  ·rename_i e hd;simp only[hd]
   unfold zAe at h
   unfold ZG
   rw[hd] at h ⊢
   simp only at h ⊢
   split at h
   ·rename_i hs
    simp only[zS,Bool.and_eq_true,yk,Ki,Option.some.injEq] at h
    obtain⟨⟨h1,h2⟩,rfl⟩:=h
    exact⟨hs,zDl h1,h2,hk⟩
   ·cases h
  ·rename_i hd
   split
   ·rename_i e hd';exact absurd hd' (hd e)
   ·exact main _ h
 | _=>simp only[WB] at h;exact main _ h
end
end Go.Eng
end
