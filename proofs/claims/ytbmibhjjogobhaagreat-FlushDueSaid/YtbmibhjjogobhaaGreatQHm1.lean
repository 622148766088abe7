/-
The data of the document: keys, values, messages, entries, nodes; what is computed of them. No program in sight.
No conditions.
-/
import Derived.Test.YtbmibhjjogobhaaGreatQEngZ
import Derived.Test.YtbmibhjjogobhaaGreatQFactsA
import Derived.Test.YtbmibhjjogobhaaGreatQStrA
set_option linter.unusedSectionVars false
set_option linter.unusedSimpArgs false
set_option linter.unusedVariables false
noncomputable section
namespace Go.Mo
open Go Go.Eng
variable [zB]
abbrev Bs:=List UInt8
structure Ms where
 kind:Int
 seq:Nat
 key:Bs
 val:Bs
 by_:Nat
 deriving DecidableEq
structure Nd where
 leaf:Bool
 ents:List (Bs×Bs)
 kids:List Int
 pivs:List Bs
 msgs:List Ms
 deriving DecidableEq
/-- Bytes,and 0 behind them. -/
def pad (n:Nat) (b:Bs):Bs:=(b++List.replicate n 0).take n
def u8s (b:Bs):List HV:=b.map fun x=>.int .u8 x.toNat
def zJ (k:Bs):List HV:=.int .i64 k.length::u8s (pad 8 k)
def zK (v:Bs):List HV:=.int .i64 v.length::u8s (pad 16 v)
def zR (e:Bs×Bs):List HV:=zJ e.1++zK e.2
def zM (m:Ms):List HV:=.int .i64 m.kind:: .int .u64 m.seq::(zJ m.key++(zK m.val++[.int .u64 m.by_]))
def zY (i:Int):List HV:=[.int .i64 i]
structure Fl where
 a:Bool
 b:Bool
 c:Bool
 d:Bool
def ze (t:Fl) (n:Nd):List HV:=[.bool n.leaf,.imm t.a (n.ents.map zR),.imm t.b (n.kids.map zY),.imm t.c (n.pivs.map zJ),.imm t.d (n.msgs.map zM)]
def Nd.none:Nd:=⟨false,[],[],[],[]⟩
/-- Right sizes. -/
def okK (k:Bs):Prop:=k.length≤8
def okV (v:Bs):Prop:=v.length≤16
structure okM (m:Ms):Prop where
 kind: -9223372036854775808≤m.kind∧m.kind≤9223372036854775807
 seq:m.seq<18446744073709551616
 key:okK m.key
 val:okV m.val
 by_:m.by_<18446744073709551616
structure okN (n:Nd):Prop where
 ents:∀e∈n.ents,okK e.1∧okV e.2
 pivs:∀k∈n.pivs,okK k
 msgs:∀m∈n.msgs,okM m
 few:n.ents.length≤1000∧n.kids.length≤1000∧n.pivs.length≤1000∧n.msgs.length≤1000
section
variable {b k v:Bs}
theorem wC (n:Nat) (b:Bs):(pad n b).length=n:=by simp[pad]
theorem ug {n:Nat} (h:b.length≤n):pad n b=b++List.replicate (n - b.length) 0:=by
 unfold pad
 rw[List.take_append,List.take_of_length_le h,List.take_replicate,Nat.min_eq_left (by omega)]
theorem qo (b:Bs):(u8s b).length=b.length:=by simp[u8s]
@[go_sem ↓,go_sem] theorem zh (k:Bs):(zJ k).length=9:=by simp[zJ,qo,wC]
@[go_sem ↓,go_sem] theorem yD (v:Bs):(zK v).length=17:=by simp[zK,qo,wC]
theorem zEE {n:Nat} {a b:Bs} (ha:a.length≤n) (hl:a.length=b.length) (h:pad n a=pad n b):a=b:=by
 rw[ug ha,ug (hl▸ha)] at h
 exact(List.append_inj h hl).1
theorem zB3 {a b:Bs} (h:u8s a=u8s b):a=b:=by
 induction a generalizing b with
 | nil=>cases b<;>simp[u8s] at h ⊢
 | cons x a ih=>
  cases b with
  | nil=>simp[u8s] at h
  | cons y b=>
   simp only[u8s,List.map_cons,List.cons.injEq,HV.int.injEq,true_and] at h
   obtain⟨h1,h2⟩:=h
   have:x=y:=UInt8.toNat_inj.1 (by omega)
   rw[this,ih (by simpa [u8s] using h2)]
@[go_sem ↓,go_sem] theorem zFm (k:Bs) (r:List HV):(zJ k++r).take 9=zJ k:=by rw[List.take_append_of_le_length (by rw[zh];omega),List.take_of_length_le (by rw[zh];omega)]
@[go_sem ↓,go_sem] theorem VE (k:Bs) (r:List HV):(zJ k++r).drop 9=r:=by rw[List.drop_append_of_le_length (by rw[zh];omega),List.drop_of_length_le (by rw[zh];omega),List.nil_append]
@[go_sem ↓,go_sem] theorem zHu (v:Bs) (r:List HV):(zK v++r).take 17=zK v:=by rw[List.take_append_of_le_length (by rw[yD];omega),List.take_of_length_le (by rw[yD];omega)]
@[go_sem ↓,go_sem] theorem zJP (v:Bs) (r:List HV):(zK v++r).drop 17=r:=by rw[List.drop_append_of_le_length (by rw[yD];omega),List.drop_of_length_le (by rw[yD];omega),List.nil_append]
@[go_sem ↓,go_sem] theorem zW8 (k:Bs):(zJ k).take 9=zJ k:=List.take_of_length_le (by rw[zh];omega)
@[go_sem ↓,go_sem] theorem zF6 (v:Bs):(zK v).take 17=zK v:=List.take_of_length_le (by rw[yD];omega)
@[go_sem ↓,go_sem] theorem zbl (k:Bs):(zJ k).take 1=[.int .i64 k.length]:=_root_.id rfl
@[go_sem ↓,go_sem] theorem zS6 (k:Bs):(zK k).take 1=[.int .i64 k.length]:=_root_.id rfl
@[go_sem ↓,go_sem] theorem zdF (k:Bs):(zJ k).drop 1=u8s (pad 8 k):=_root_.id rfl
@[go_sem ↓,go_sem] theorem zbj (k:Bs):(zK k).drop 1=u8s (pad 16 k):=_root_.id rfl
@[go_sem ↓,go_sem] theorem zY1 (k:Bs):(u8s (pad 8 k)).take 8=u8s (pad 8 k):=List.take_of_length_le (by simp[qo,wC])
@[go_sem ↓,go_sem] theorem zZ8 (k:Bs):(u8s (pad 16 k)).take 16=u8s (pad 16 k):=List.take_of_length_le (by simp[qo,wC])
@[go_sem ↓,go_sem] theorem zAc (n:Nat) (k:Bs):(u8s (pad n k)).length=n:=by simp[qo,wC]
theorem QZ {b:Bs} {i:Nat} {x:UInt8} (h:b[i]? =some x):(u8s b)[i]? =some (.int .u8 x.toNat):=by simp[u8s,h]
@[go_sem ↓,go_sem] theorem yi (e:Bs×Bs):(zR e).length=26:=by simp[zR,zh,yD]
@[go_sem ↓,go_sem] theorem zV1 (e:Bs×Bs):(zR e).take 26=zR e:=List.take_of_length_le (by rw[yi];omega)
@[go_sem ↓,go_sem] theorem qL (m:Ms):(zM m).length=29:=by simp[zM,zh,yD]
@[go_sem ↓,go_sem] theorem zbs (e:Ms):(zM e).take 29=zM e:=List.take_of_length_le (by rw[qL];omega)
end
theorem KB (b:Bs):∀y∈u8s b,HV.one y=true:=by intro y hy;simp[u8s] at hy;obtain⟨a,_,rfl⟩:=hy;rfl
theorem gX (b:Bs):∀y∈zJ b,HV.one y=true:=by intro y hy;simp only[zJ,List.mem_cons] at hy;rcases hy with rfl | hy;rfl;exact KB _ y hy
theorem kU (b:Bs):∀y∈zK b,HV.one y=true:=by intro y hy;simp only[zK,List.mem_cons] at hy;rcases hy with rfl | hy;rfl;exact KB _ y hy
theorem zRL (e:Bs×Bs):∀y∈zR e,HV.one y=true:=by intro y hy;simp only[zR,List.mem_append] at hy;rcases hy with hy | hy;exact gX _ y hy;exact kU _ y hy
theorem zB5 (m:Ms):∀y∈zM m,HV.one y=true:=by
 intro y hy
 simp only[zM,List.mem_cons,List.mem_append,List.not_mem_nil,or_false] at hy
 rcases hy with rfl | rfl | hy | hy | rfl
 ·rfl
 ·rfl
 ·exact gX _ y hy
 ·exact kU _ y hy
 ·rfl
@[go_sem ↓,go_sem] theorem zCC (b:Bs):qS (u8s b)=True:=eq_true ((qy _).2 (KB b))
@[go_sem ↓,go_sem] theorem zUK (b:Bs):qS (zJ b)=True:=eq_true ((qy _).2 (gX b))
@[go_sem ↓,go_sem] theorem zc8 (b:Bs):qS (zK b)=True:=eq_true ((qy _).2 (kU b))
@[go_sem ↓,go_sem] theorem zST (b:Bs×Bs):qS (zR b)=True:=eq_true ((qy _).2 (zRL b))
@[go_sem ↓,go_sem] theorem zch (b:Ms):qS (zM b)=True:=eq_true ((qy _).2 (zB5 b))
@[go_sem ↓,go_sem] theorem zaq (m:Ms):(zM m).take 1=[.int .i64 m.kind]:=_root_.id rfl
@[go_sem ↓,go_sem] theorem zcr (m:Ms):((zM m).drop 1).take 1=[.int .u64 m.seq]:=_root_.id rfl
@[go_sem ↓,go_sem] theorem zWS (m:Ms):((zM m).drop 2).take 9=zJ m.key:=by
 have:(zM m).drop 2=zJ m.key++(zK m.val++[HV.int .u64 m.by_]):=rfl
 rw[this,zFm]
theorem Wx (m:Ms):(zM m).drop 11=zK m.val++[HV.int .u64 m.by_]:=by
 have:(zM m).drop 11=(zJ m.key++(zK m.val++[HV.int .u64 m.by_])).drop 9:=rfl
 rw[this,VE]
@[go_sem ↓,go_sem] theorem zZ5 (m:Ms):((zM m).drop 11).take 17=zK m.val:=by rw[Wx,zHu]
@[go_sem ↓,go_sem] theorem zYC (m:Ms):((zM m).drop 28).take 1=[HV.int .u64 m.by_]:=by
 have:(zM m).drop 28=((zM m).drop 11).drop 17:=by rw[List.drop_drop]
 rw[this,Wx,zJP];rfl
@[go_sem ↓,go_sem] theorem zYy (m:Ms):((zM m).drop 2).take 1=[.int .i64 m.key.length]:=_root_.id rfl
@[go_sem ↓,go_sem] theorem zW0 (m:Ms):((zM m).drop 11).take 1=[.int .i64 m.val.length]:=by rw[Wx];rfl
@[go_sem ↓,go_sem] theorem zWu (e:Bs×Bs):(zR e).take 1=[.int .i64 e.1.length]:=_root_.id rfl
@[go_sem ↓,go_sem] theorem zX0 (e:Bs×Bs):((zR e).drop 9).take 1=[.int .i64 e.2.length]:=by rw[zR,VE];rfl
@[go_sem ↓,go_sem] theorem zVj (e:Bs×Bs):(zR e).take 9=zJ e.1:=zFm _ _
@[go_sem ↓,go_sem] theorem zaV (e:Bs×Bs):((zR e).drop 9).take 17=zK e.2:=by rw[zR,VE,zF6]
/-- The nodes' slots that name no piece. -/
theorem zKw (n:Nat) (k:Bs):∀x∈zJ k,zc n x:=by intro x hx;simp[zJ,u8s] at hx;rcases hx with rfl | ⟨a,_,rfl⟩<;>exact .int _ _
theorem zLi (n:Nat) (k:Bs):∀x∈zK k,zc n x:=by intro x hx;simp[zK,u8s] at hx;rcases hx with rfl | ⟨a,_,rfl⟩<;>exact .int _ _
end Go.Mo
namespace Go.Eng
open Go
variable [zB]
theorem zo (l:List UInt8):(zD l).length=l.length:=by simp[zD]
theorem zCd (l:List UInt8):∀r∈zD l,r.length=1:=by intro r hr;simp[zD] at hr;obtain⟨b,_,rfl⟩:=hr;rfl
@[go_sem ↓,go_sem] theorem zYD (l:List UInt8):(∀r∈zD l,r.length=1)=True:=eq_true (zCd l)
theorem JO (k:Nat) (t:Bool) (l:List UInt8):zc k (.imm t (zD l)):=by
 rw[xe];intro r hr x hx;simp[zD] at hr;obtain⟨b,_,rfl⟩:=hr;simp at hx;subst hx;exact .int _ _
@[go_sem ↓,go_sem] theorem zGI (l:List UInt8):bytesOf (zD l)=some l:=by
 induction l with
 | nil=>rfl
 | cons a l ih=>
  have:zD (a::l)=[HV.int .u8 a.toNat]::zD l:=rfl
  rw[this]
  simp[bytesOf,ih]
end Go.Eng
namespace Go.Eng
open Go
variable [zB]
attribute [go_sem] List.length_replicate
/-- Nothing stands behind a variable that is all zero. -/
@[go_sem ↓,go_sem] theorem zV4:List.drop 25 (List.replicate 8 (HV.int .u8 0)++[HV.int .i64 0]++List.replicate 16 (HV.int .u8 0))=[]:=_root_.id rfl
@[go_sem ↓,go_sem] theorem zZL:List.drop 26 (List.replicate 8 (HV.int .u8 0)++[HV.int .i64 0]++List.replicate 16 (HV.int .u8 0)++[HV.int .u64 0])=[]:=_root_.id rfl
/-- x holds the rows N,each of s slots. -/
def wJ (PS:PL) (s:Nat) (x:HV) (N:List (List HV)):Prop:=∀K,yA PS s x K=K N
/-- One new piece,that nobody else names. -/
def Xg (PS:PL) (s:Nat) (N:List (List HV)) (r:HV) (PS':PL):Prop:=∃ver,r=.sl PS.length ver 0 N.length none∧PS'=PS++[.arr ver s N true]
theorem wJ.app {PS:PL} {s:Nat} {y:HV} {N:List (List HV)} (h:wJ PS s y N) (x:HV) (A B:Prop) (L:HV→PL→Prop) (b:Nat) (z:List HV):uf PS x A B L s b z y=(A∧qa PS s b x N L):=by
 have main:(A∧yA PS s y fun N=>qa PS s b x N L)=(A∧qa PS s b x N L):=by rw[h]
 cases y
 case int k n=>
  exfalso
  have:=h fun _=>True
  simp[yA,zz] at this
 all_goals exact main
theorem wJ.imm {PS:PL} {s:Nat} {t:Bool} {N:List (List HV)} (h:∀r∈N,r.length=s):wJ PS s (.imm t N) N:=by
 intro K;simp only[yA,zz,eq_iff_iff];exact⟨fun h=>by first | exact h.2 | exact h,fun k=>by first | exact⟨h,k⟩ | exact k⟩
theorem wJ.bytes {PS:PL} {t:Bool} (b:List UInt8):wJ PS 1 (.imm t (zD b)) (zD b):=wJ.imm (by intro r hr;simp[zD] at hr;obtain⟨a,_,rfl⟩:=hr;rfl)
theorem wJ.open {PS:PL} {s n ver:Nat} {N:List (List HV)} {o:Bool} (h:zA PS n=.arr ver s N o):wJ PS s (.sl n ver 0 N.length none) N:=by
 intro K;simp[yA,zz,h]
theorem Xg.frz {P:Program} {f:FuncId} {args:List HV} {PS:PL} {s:Nat} {N:List (List HV)} (h:zI P f args PS fun r PS'=>Xg PS s N r PS'):zI P f args PS fun r PS'=>r=.imm false N∧Ext [] PS PS':=by
 refine zI.frz (h.mono ?_)
 rintro r PS' ⟨ver,rfl,rfl⟩
 refine⟨_,_,_,_,_,_,PS++[.dead],zt _ _,.sl 0 _ none (by omega),wD.QO,?_,Ext.app _ _⟩
 simp
end Go.Eng
namespace Go.Mo
open Go Go.Eng
variable [zB]
/-! Numbers as bytes. -/
def za (n:Nat):Nat→Bs
 | 0=>[]
 | w+1=>UInt8.ofNat n::za (n / 256) w
theorem yd (n w:Nat):(za n w).length=w:=by induction w generalizing n with | zero=>rfl | succ w ih=>simp[za,ih]
theorem zDT (n w:Nat):za n (w+1)=za n w++[UInt8.ofNat (n / 256 ^ w)]:=by
 induction w generalizing n with
 | zero=>simp[za]
 | succ w ih=>rw[za,ih,za,List.cons_append,Nat.div_div_eq_div_mul,Nat.pow_succ,Nat.mul_comm 256]
theorem va (a b:Bs):zD (a++b)=zD a++zD b:=by simp[zD]
theorem wA (n:Nat):((UInt8.ofNat n).toNat:Int)=IntKind.u8.wrap n:=by
 show _=(n:Int) % 256
 simp
end Go.Mo
namespace Go.Proofs.YtbmibhjjogobhaaGreat
open Go Go.Eng Go.Mo
variable [zB]
set_option maxRecDepth 20000
attribute [local irreducible] hvc zf hop zg yI zb zu yQ
/-! Numbers as bytes. -/
theorem zE6 (w:Int):Pure Tryz.prog 258 [.int .i64 w] (.bool (decide (1≤w∧w≤8))):=by
 intro PS
 refine zNH (by unfold Tryz.f258;exact rfl) ?_
 by_cases h1:1≤w
 ·simp only[go_sem,seval, -List.reduceReplicate,h1]
 ·simp only[go_sem,seval, -List.reduceReplicate,h1]
theorem zLj (a b:Nat) (ha:a<18446744073709551616) (hb:b<18446744073709551616):yZ .and .u64 a b=((a&&& b:Nat):Int):=by
 have:=Nat.and_le_left (n:=a) (m:=b)
 have e:(BitVec.ofInt 64 (a:Int)&&& BitVec.ofInt 64 (b:Int)).toNat=a&&& b:=by
  rw[BitVec.ofInt_natCast,BitVec.ofInt_natCast,BitVec.toNat_and,BitVec.toNat_ofNat,BitVec.toNat_ofNat,Nat.mod_eq_of_lt (by omega),Nat.mod_eq_of_lt (by omega)]
 show (((BitVec.ofInt 64 (a:Int)&&& BitVec.ofInt 64 (b:Int)).toNat:Nat):Int) % 18446744073709551616=_
 rw[e]
 omega
theorem zJF (a:Nat) (ha:a<18446744073709551616):yZ .and .u64 a 255=((a % 256:Nat):Int):=by
 have:=zLj a 255 ha (by omega)
 rw[show ((255:Nat):Int)=255 from rfl] at this
 rw[this,show (255:Nat)=2 ^ 8 - 1 from rfl,Nat.and_two_pow_sub_one_eq_mod]
theorem zId (n:Nat):IntKind.u8.wrap ((n % 256:Nat):Int)=IntKind.u8.wrap n:=by
 show ((n % 256:Nat):Int) % 256=(n:Int) % 256
 omega
theorem zCG (n:Nat):((n / 256:Nat):Int)=(n:Int).fdiv (2 ^ min 8 64):=by
 rw[show min 8 64=8 from rfl,show (2:Int) ^ 8=256 from rfl,Int.fdiv_eq_ediv_of_nonneg _ (by omega)];simp
theorem Vt (PS:PL) (x:HV) (b:Bs) (n w:Nat) (hx:wJ PS 1 x (zD b)) (hb:b.length≤1000) (hn:n<18446744073709551616) (h1:1≤w) (h2:w≤8):
  zI Tryz.prog 213 [x,.int .u64 n,.int .i64 w] PS fun r PS'=>Xg PS 1 (zD (b++za n w)) r PS':=by
 refine zK9 (by unfold Tryz.f213;exact rfl) ?_
 have hx':=hx.app
 simp only[go_sem,seval, -List.reduceReplicate,zo,hx']
 refine⟨?_,?_,zG ((zE6 w).call ?_)⟩
 ·simp
 ·omega
 have hm:decide (1≤(w:Int)∧(w:Int)≤8)=true:=decide_eq_true (by omega)
 rw[hm]
 simp only[go_sem,seval, -List.reduceReplicate]
 refine zG (zq (α:=Nat×Nat) [false,false,false,false,false,false,false,false,false,false,false,false,false,false,false,false,true,true,true,true,true,true,true,true,true] (fun a=>[(15,.int .i64 a.1),(7,.sl PS.length a.2 0 (b.length+a.1) none),(1,.int .u64 ((n / 256 ^ a.1:Nat):Int))]) (fun a=>w - a.1) (fun a PS'=>a.1≤w∧PS'=PS++[.arr a.2 1 (zD (b++za n a.1)) true]) (0,0) ⟨Nat.zero_le _,by simp[za]⟩ ?_ ?_)
 ·simp only[go_sem,seval, -List.reduceReplicate,Int.natCast_zero]
  simp[zo]
 ·intro a PS' h
  have hi:=h.1
  have he:=h.2
  obtain⟨i,ver⟩:=a
  subst he
  clear h
  simp only at hi
  have hl:(zD (b++za n i)).length=b.length+i:=by simp[zo,yd]
  by_cases hlt:i<w
  ·simp only[go_sem,seval, -List.reduceReplicate,zt,YJ,hlt]
   refine⟨by simp,.inl ⟨hl.symm,by omega,by omega,(i+1,ver+1),?_⟩⟩
   simp only
   have e:(n / 256 ^ (i+1):Nat)=n / 256 ^ i / 256:=by rw[Nat.div_div_eq_div_mul,Nat.pow_succ]
   refine⟨by omega,⟨by omega,?_⟩,?_,rfl,by simp⟩
   ·congr 3
    rw[zDT,←List.append_assoc,va _ [_]]
    simp only[zD,List.map_cons,List.map_nil,wA]
   ·rw[e,zCG]
  ·simp only[go_sem,seval, -List.reduceReplicate,zt,YJ,hlt]
   have:i=w:=by omega
   subst this
   exact⟨ver,by rw[hl],rfl⟩
theorem Ko (PS:PL) (x:HV) (b:Bs) (n w:Nat) (hx:wJ PS 1 x (zD b)) (hb:b.length≤1000) (hn:n<18446744073709551616) (h1:1≤w) (h2:w≤8):
  zI Tryz.prog 73 [x,.int .u64 n,.int .i64 w] PS fun r PS'=>Xg PS 1 (zD (b++za n w)) r PS':=by
 refine zHQ (by unfold Tryz.f73;exact rfl) ?_
 have hx':=hx.app
 have e1:¬(w:Int)<1:=by omega
 have e2:¬8<(w:Int):=by omega
 simp only[go_sem,seval, -List.reduceReplicate,zo,e1,e2,hx']
 refine⟨?_,?_⟩
 ·simp
 refine⟨by omega,?_⟩
 refine zG (zq (α:=Nat×Nat) [false,false,false,false,false,false,false,false,false,false,false,false,false,false,false,false,false,false,false,true,true,true,true,true,true,true,true,true,true,true,true,true] (fun a=>[(8,.int .i64 a.1),(7,.sl PS.length a.2 0 (b.length+a.1) none),(1,.int .u64 ((n / 256 ^ a.1:Nat):Int))]) (fun a=>w - a.1) (fun a PS'=>a.1≤w∧PS'=PS++[.arr a.2 1 (zD (b++za n a.1)) true]) (0,0) ⟨Nat.zero_le _,by simp[za]⟩ ?_ ?_)
 ·simp only[go_sem,seval, -List.reduceReplicate,Int.natCast_zero]
  simp[zo]
 ·intro a PS' h
  have hi:=h.1
  have he:=h.2
  obtain⟨i,ver⟩:=a
  subst he
  clear h
  simp only at hi
  have hl:(zD (b++za n i)).length=b.length+i:=by simp[zo,yd]
  by_cases hlt:i<w
  ·simp only[go_sem,seval, -List.reduceReplicate,zt,YJ,hlt]
   refine⟨by simp,.inl ⟨hl.symm,by omega,by omega,(i+1,ver+1),?_⟩⟩
   simp only
   have e:(n / 256 ^ (i+1):Nat)=n / 256 ^ i / 256:=by rw[Nat.div_div_eq_div_mul,Nat.pow_succ]
   refine⟨by omega,⟨by omega,?_⟩,?_,rfl,by simp⟩
   ·congr 3
    rw[zDT,←List.append_assoc,va _ [_]]
    have hq:n / 256 ^ i<18446744073709551616:=Nat.lt_of_le_of_lt (Nat.div_le_self _ _) hn
    simp only[zD,List.map_cons,List.map_nil,wA,zJF _ hq,zId]
   ·rw[e,zCG]
  ·simp only[go_sem,seval, -List.reduceReplicate,zt,YJ,hlt]
   have:i=w:=by omega
   subst this
   exact⟨ver,by rw[hl],rfl⟩
end Go.Proofs.YtbmibhjjogobhaaGreat
namespace Go.Mo
open Go Go.Eng
variable [zB]
abbrev zU:Bs→Bs→Int:=Lib.compareBytes
theorem zAf {n:Nat} {k:Bs} {i:Nat} (h:k.length≤i) (hi:i<n):(pad n k)[i]? =some 0:=by
 rw[ug (by omega),List.getElem?_append_right h,List.getElem?_replicate];simp;omega
theorem zCB {n:Nat} {k:Bs} {i:Nat} (h:i<k.length) (hn:k.length≤n):(pad n k)[i]? =some k[i]:=by
 rw[ug hn,List.getElem?_append_left h];simp[h]
theorem ZV {n:Nat} {k:Bs} (h:k.length≤n):(u8s (pad n k)).take k.length=u8s k:=by
 rw[ug h];simp only[u8s,List.map_append];rw[List.take_append_of_le_length (by simp),List.take_of_length_le (by simp)]
theorem zEX {n:Nat} {k:Bs} (h:k.length≤n):u8s k++List.replicate (n - k.length) (HV.int .u8 0)=u8s (pad n k):=by
 rw[ug h];simp[u8s]
theorem Jq {k:Bs} {i:Nat} {x:UInt8} (h:(pad 8 k)[i]? =some x):List.take 1 (List.drop (1+i) (zJ k))=[.int .u8 x.toNat]:=by
 have hi:=(List.getElem?_eq_some_iff.1 h).1
 have e:List.drop (1+i) (zJ k)=(u8s (pad 8 k)).drop i:=by rw[←List.drop_drop];rfl
 rw[e,List.take_one,List.head?_drop,QZ h];rfl
theorem JN {k:Bs} {i:Nat} {x:UInt8} (h:(pad 16 k)[i]? =some x):List.take 1 (List.drop (1+i) (zK k))=[.int .u8 x.toNat]:=by
 have e:List.drop (1+i) (zK k)=(u8s (pad 16 k)).drop i:=by rw[←List.drop_drop];rfl
 rw[e,List.take_one,List.head?_drop,QZ h];rfl
/-- A key,a value,in the making:the length,some bytes. -/
def uD (n:Nat) (k:Bs):List HV:=.int .i64 n::u8s (pad 8 k)
def uA (n:Nat) (k:Bs):List HV:=.int .i64 n::u8s (pad 16 k)
@[go_sem ↓,go_sem] theorem zEY (n:Nat) (k:Bs):(uD n k).length=9:=by simp[uD,zAc]
@[go_sem ↓,go_sem] theorem zCl (n:Nat) (k:Bs):(uA n k).length=17:=by simp[uA,zAc]
@[go_sem ↓,go_sem] theorem zbP (n:Nat) (k:Bs):qS (uD n k)=True:=by simp[uD,qS,HV.one,zCC]
@[go_sem ↓,go_sem] theorem zWO (n:Nat) (k:Bs):qS (uA n k)=True:=by simp[uA,qS,HV.one,zCC]
@[go_sem ↓,go_sem] theorem zWE (n:Nat) (k:Bs):(uD n k).take 9=uD n k:=List.take_of_length_le (by rw[zEY];omega)
@[go_sem ↓,go_sem] theorem zah (n:Nat) (k:Bs):(uA n k).take 17=uA n k:=List.take_of_length_le (by rw[zCl];omega)
@[go_sem ↓,go_sem] theorem zcV (n:Nat) (k:Bs):(uD n k).drop 9=[]:=List.drop_of_length_le (by rw[zEY];omega)
@[go_sem ↓,go_sem] theorem zZi (n:Nat) (k:Bs):(uA n k).drop 17=[]:=List.drop_of_length_le (by rw[zCl];omega)
theorem zJa {α:Type} (A R:List α) (z x:α):zP A.length [x] (A++z::R)=A++x::R:=by simp[zP]
theorem zDi {m:Nat} {s:Bs} {i:Nat} (hi:i<s.length) (hm:s.length≤m):zP i [HV.int .u8 s[i].toNat] (u8s (pad m (s.take i)))=u8s (pad m (s.take (i+1))):=by
 have l1:(s.take i).length=i:=by simp;omega
 have l2:(s.take (i+1)).length=i+1:=by simp;omega
 rw[ug (by omega),ug (by omega),l1,l2]
 obtain⟨q,hq⟩:∃q,m - i=q+1:=⟨m - i - 1,by omega⟩
 have hq':m - (i+1)=q:=by omega
 rw[hq,hq',List.replicate_succ,List.take_succ_eq_append_getElem hi]
 have:=zJa (u8s (s.take i)) (u8s (List.replicate q 0)) (.int .u8 0) (.int .u8 s[i].toNat)
 rw[qo,l1] at this
 simp only[u8s,List.map_append,List.map_cons,List.map_nil,List.append_assoc,List.cons_append,List.nil_append] at this ⊢
 exact this
theorem zJ4 {n:Nat} {s:Bs} {i:Nat} (hi:i<s.length) (hm:s.length≤8):zP (1+i) [HV.int .u8 s[i].toNat] (uD n (s.take i))=uD n (s.take (i+1)):=by
 rw[uD,uD,←zDi hi hm,Nat.add_comm];simp[zP,Nat.add_right_comm]
theorem zG2 {n:Nat} {s:Bs} {i:Nat} (hi:i<s.length) (hm:s.length≤16):zP (1+i) [HV.int .u8 s[i].toNat] (uA n (s.take i))=uA n (s.take (i+1)):=by
 rw[uA,uA,←zDi hi hm,Nat.add_comm];simp[zP,Nat.add_right_comm]
theorem zDI (l:List HV):(l.map fun y=>[y]).flatten=l:=by induction l with | nil=>rfl | cons a l ih=>simp[ih]
end Go.Mo
namespace Go.Proofs.YtbmibhjjogobhaaGreat
open Go Go.Eng Go.Mo
variable [zB]
set_option maxRecDepth 20000
attribute [local irreducible] hvc zf hop zg yI zb zu yQ
theorem gC (k:Bs) (hk:okK k):Pure Tryz.prog 192 [.agg (zJ k)] (.bool true):=by
 refine Pure.zp (.bool _) fun PS=>?_
 refine zNd (by unfold Tryz.f192;exact rfl) ?_
 have hk':k.length≤8:=hk
 have e1:¬(k.length:Int)<0:=by omega
 have e2:¬(8:Int)<(k.length:Int):=by omega
 simp only[go_sem,seval, -List.reduceReplicate,e1,e2]
 refine zG (zq (α:=Nat) [false,false,true,false,false,false,false,false,false,false,false,false,false,false,true,true,true,true,true,true,true,true,true] (fun i=>[(3,.int .i64 i)]) (fun i=>8 - i) (fun i PS'=>k.length≤i∧i≤8∧PS'=PS++[.arr 0 9 [zJ k] false]) k.length ⟨Nat.le_refl _,hk',rfl⟩ ?_ ?_)
 ·simp only[go_sem,seval, -List.reduceReplicate]
 ·intro i PS' h
  obtain⟨h1,h2,he⟩:=h
  subst he
  by_cases hlt:(i:Int)<8
  ·have hg:=Jq (zAf h1 (by omega))
   simp only[go_sem,seval, -List.reduceReplicate,hlt,zt,hg,UInt8.toNat_zero]
   exact⟨by omega,by omega,i+1,by omega,by omega,by simp⟩
  ·simp only[go_sem,seval, -List.reduceReplicate,hlt,zt]
   exact Ext.app _ _
theorem ke (a b:Bs) (ha:okK a) (hb:okK b):Pure Tryz.prog 89 [.agg (zJ a),.agg (zJ b)] (.int .i64 (zU a b)):=by
 refine Pure.zp (.int _ _) fun PS=>?_
 refine zHj (by unfold Tryz.f89;exact rfl) ?_
 have ha':a.length≤8:=ha
 have hb':b.length≤8:=hb
 simp only[go_sem,seval, -List.reduceReplicate]
 refine zG (zq (α:=Nat) [false,false,false,false,true,false,true,true,true,true,true,true,true,true,true,true,true,true,true,true,true,true,true,true,true,true,true,true,true,true,true,true,true,true,true,true,true,true,true,true,true,true,true,true,true,true,true,true,true,true,true] (fun i=>[(5,.int .i64 i)]) (fun i=>8 - i) (fun i PS'=>(i≤a.length∧i≤b.length∧zU a b=zU (a.drop i) (b.drop i))∧PS'=PS++[.arr 0 9 [zJ a] false,.arr 0 9 [zJ b] false]) 0 ⟨⟨by omega,by omega,rfl⟩,rfl⟩ ?_ ?_)
 ·simp only[go_sem,seval, -List.reduceReplicate,Int.natCast_zero]
 ·intro i PS' h
  obtain⟨⟨h1,h2,h3⟩,he⟩:=h
  subst he
  by_cases hlt:(i:Int)<8
  ·by_cases hia:i<a.length
   ·by_cases hib:i<b.length
    ·have ga:=Jq (zCB hia ha')
     have gb:=Jq (zCB hib hb')
     have ca:¬(a.length:Int)≤i:=by omega
     have cb:¬(b.length:Int)≤i:=by omega
     rw[List.drop_eq_getElem_cons hia,List.drop_eq_getElem_cons hib] at h3
     simp only[go_sem,seval, -List.reduceReplicate,hlt,zt,ga,gb,ca,cb]
     refine⟨by omega,by omega,?_⟩
     split
     ·rename_i hx
      rw[h3]
      exact⟨by simp[zU,Lib.compareBytes,UInt8.lt_iff_toNat_lt,hx],Ext.app _ _⟩
     ·rename_i hx
      refine⟨by omega,by omega,?_⟩
      split
      ·rename_i hy
       rw[h3]
       exact⟨by simp[zU,Lib.compareBytes,UInt8.lt_iff_toNat_lt,hx,hy],Ext.app _ _⟩
      ·rename_i hy
       refine⟨by omega,i+1,by omega,⟨by omega,by omega,?_⟩,by simp⟩
       rw[h3]
       simp[zU,Lib.compareBytes,UInt8.lt_iff_toNat_lt,hx,hy]
    ·have eb:b.drop i=[]:=by rw[List.drop_eq_nil_iff];omega
     have ca:¬(a.length:Int)≤i:=by omega
     have cb:(b.length:Int)≤i:=by omega
     rw[List.drop_eq_getElem_cons hia,eb] at h3
     simp only[go_sem,seval, -List.reduceReplicate,hlt,zt,ca,cb]
     rw[h3]
     exact⟨rfl,Ext.app _ _⟩
   ·have ea:a.drop i=[]:=by rw[List.drop_eq_nil_iff];omega
    have ca:(a.length:Int)≤i:=by omega
    by_cases hib:i<b.length
    ·have cb:¬(b.length:Int)≤i:=by omega
     rw[List.drop_eq_getElem_cons hib,ea] at h3
     simp only[go_sem,seval, -List.reduceReplicate,hlt,zt,ca,cb]
     rw[h3]
     exact⟨rfl,Ext.app _ _⟩
    ·have cb:(b.length:Int)≤i:=by omega
     have eb:b.drop i=[]:=by rw[List.drop_eq_nil_iff];omega
     rw[ea,eb] at h3
     simp only[go_sem,seval, -List.reduceReplicate,hlt,zt,ca,cb]
     rw[h3]
     exact⟨rfl,Ext.app _ _⟩
  ·have ea:a.drop i=[]:=by rw[List.drop_eq_nil_iff];omega
   have eb:b.drop i=[]:=by rw[List.drop_eq_nil_iff];omega
   rw[ea,eb] at h3
   simp only[go_sem,seval, -List.reduceReplicate,hlt,zt]
   rw[h3]
   exact⟨rfl,Ext.app _ _⟩
theorem zI6 (n:Nat) (k:Bs):zc n (.agg (zJ k)):=.agg _ fun i x hx=>zKw n k x (List.mem_of_getElem? hx)
theorem zC8 (n:Nat) (k:Bs):zc n (.agg (zK k)):=.agg _ fun i x hx=>zLi n k x (List.mem_of_getElem? hx)
theorem VR {n:Nat} {a b:HV} (ha:zc n a) (hb:zc n b):zc n (.tup [a,b]):=.tup _ fun i x hx=>by
 match i,hx with
 | 0,hx=>simp at hx;exact hx▸ha
 | 1,hx=>simp at hx;exact hx▸hb
theorem kd (s:Bs) (h:s.length≤8):Pure Tryz.prog 135 [.str s] (.tup [.agg (zJ s),.int .i64 0]):=by
 refine Pure.zp (VR (zI6 _ _) (.int _ _)) fun PS=>?_
 refine zLO (by unfold Tryz.f135;exact rfl) ?_
 have e2:¬(8:Int)<(s.length:Int):=by omega
 simp only[go_sem,seval, -List.reduceReplicate,e2,List.length_replicate]
 refine⟨by simp[qy,HV.one],zG (zq (α:=Nat) [false,false,false,false,false,false,false,false,false,false,false,false,false,false,true,true,true,true,true,true,true,true,true,true,true,true] (fun i=>[(5,.int .i64 i)]) (fun i=>s.length - i) (fun i PS'=>i≤s.length∧PS'=PS++[.arr 0 9 [uD 0 []] false,.arr 0 9 [uD s.length (s.take i)] false]) 0 ⟨by omega,by simp[uD,pad,u8s]⟩ ?_ ?_)⟩
 ·simp only[go_sem,seval, -List.reduceReplicate,Int.natCast_zero]
 ·intro i PS' hh
  obtain⟨h1,he⟩:=hh
  subst he
  by_cases hlt:i<s.length
  ·have hg:s[i]? =some s[i]:=by simp[hlt]
   have hi:(i:Int)<8:=by omega
   simp only[go_sem,seval, -List.reduceReplicate,hlt,zt,YJ,hg,hi,zJ4 hlt h]
   exact⟨by omega,by omega,i+1,by omega,⟨by omega,rfl⟩,by simp⟩
  ·simp only[go_sem,seval, -List.reduceReplicate,hlt,zt]
   rw[List.take_of_length_le (by omega)]
   exact⟨rfl,Ext.app _ _⟩
theorem zJs (s:Bs) (h:s.length≤16):Pure Tryz.prog 136 [.str s] (.tup [.agg (zK s),.int .i64 0]):=by
 refine Pure.zp (VR (zC8 _ _) (.int _ _)) fun PS=>?_
 refine zND (by unfold Tryz.f136;exact rfl) ?_
 have e2:¬(16:Int)<(s.length:Int):=by omega
 simp only[go_sem,seval, -List.reduceReplicate,e2,List.length_replicate]
 refine⟨by simp[qy,HV.one],zG (zq (α:=Nat) [false,false,false,false,false,false,false,false,false,false,false,false,false,false,true,true,true,true,true,true,true,true,true,true,true,true] (fun i=>[(5,.int .i64 i)]) (fun i=>s.length - i) (fun i PS'=>i≤s.length∧PS'=PS++[.arr 0 17 [uA 0 []] false,.arr 0 17 [uA s.length (s.take i)] false]) 0 ⟨by omega,by simp[uA,pad,u8s]⟩ ?_ ?_)⟩
 ·simp only[go_sem,seval, -List.reduceReplicate,Int.natCast_zero]
 ·intro i PS' hh
  obtain⟨h1,he⟩:=hh
  subst he
  by_cases hlt:i<s.length
  ·have hg:s[i]? =some s[i]:=by simp[hlt]
   have hi:(i:Int)<16:=by omega
   simp only[go_sem,seval, -List.reduceReplicate,hlt,zt,YJ,hg,hi,zG2 hlt h]
   exact⟨by omega,by omega,i+1,by omega,⟨by omega,rfl⟩,by simp⟩
  ·simp only[go_sem,seval, -List.reduceReplicate,hlt,zt]
   rw[List.take_of_length_le (by omega)]
   exact⟨rfl,Ext.app _ _⟩
end Go.Proofs.YtbmibhjjogobhaaGreat
namespace Go.Mo
open Go Go.Eng
variable [zB]
inductive vA:List HV→List HV→Prop where
 | nil:vA [] []
 | cons (k:IntKind) (u v:Int) {a b:List HV} (h:vA a b):vA (.int k u::a) (.int k v::b)
theorem vA.u8s {a b:Bs} (h:a.length=b.length):vA (u8s a) (u8s b):=by
 induction a generalizing b with
 | nil=>cases b with | nil=>exact .nil | cons y b=>simp at h
 | cons x a ih=>
  cases b with
  | nil=>simp at h
  | cons y b=>exact .cons _ _ _ (ih (by simpa using h))
theorem vA.cells {a b:List HV} (h:vA a b) (off:Nat) (A B:List HV) (hA:A.length=off) (hB:B.length=off):
  xA ((List.range a.length).map fun i=>(off+i,1)) (A++a) (B++b)∧(uU ((List.range a.length).map fun i=>(off+i,1)) (A++a) (B++b)=true↔a=b):=by
 induction h generalizing off A B with
 | nil=>simp[xA,uU]
 | cons k u v h ih=>
  rename_i a b
  have:=ih (off+1) (A++[.int k u]) (B++[.int k v]) (by simp[hA]) (by simp[hB])
  rw[List.append_assoc,List.append_assoc] at this
  simp only[List.cons_append,List.nil_append] at this
  have e:(List.range (List.length (HV.int k u::a))).map (fun i=>(off+i,1))=(off,1)::(List.range a.length).map fun i=>(off+1+i,1):=by
   rw[List.length_cons,List.range_succ_eq_map,List.map_cons,List.map_map]
   simp only[Nat.add_zero,List.cons.injEq,true_and]
   refine List.map_congr_left fun i _=>?_
   simp[Nat.add_comm,Nat.add_left_comm]
  rw[e]
  have ga:Go.Eng.get (A++HV.int k u::a) off=.int k u:=by simp[Go.Eng.get,←hA]
  have gb:Go.Eng.get (B++HV.int k v::b) off=.int k v:=by simp[Go.Eng.get,←hB]
  constructor
  ·intro p hp
   rcases List.mem_cons.1 hp with rfl | hp
   ·simp only[ga,gb,ku]
   ·exact this.1 p hp
  ·unfold uU at this ⊢
   rw[List.all_cons,Bool.and_eq_true,this.2]
   simp only[ga,gb]
   simp[vu]
theorem vA.eq {a b:List HV} (h:vA a b) {ps:Cells} (hp:ps=(List.range a.length).map fun i=>(i,1)):xA ps a b∧(uU ps a b=true↔a=b):=by
 subst hp
 simpa using h.cells 0 [] [] rfl rfl
theorem vA.key (a b:Bs):vA (zJ a) (zJ b):=.cons _ _ _ (.u8s (by rw[wC,wC]))
theorem vA.val (a b:Bs):vA (zK a) (zK b):=.cons _ _ _ (.u8s (by rw[wC,wC]))
theorem zH0 {a b:Bs} (ha:okK a) (h:zJ a=zJ b):a=b:=by
 simp only[zJ,List.cons.injEq,HV.int.injEq,true_and] at h
 exact zEE (n:=8) ha (by omega) (zB3 h.2)
theorem zJG {a b:Bs} (ha:okV a) (h:zK a=zK b):a=b:=by
 simp only[zK,List.cons.injEq,HV.int.injEq,true_and] at h
 exact zEE (n:=16) ha (by omega) (zB3 h.2)
@[go_sem ↓,go_sem] theorem zbZ (a b:Bs):xA [(0,1),(1,1),(2,1),(3,1),(4,1),(5,1),(6,1),(7,1),(8,1)] (zJ a) (zJ b)=True:=eq_true ((vA.key a b).eq (by rw[zh];rfl)).1
theorem jJ {a b:Bs} (ha:okK a):uU [(0,1),(1,1),(2,1),(3,1),(4,1),(5,1),(6,1),(7,1),(8,1)] (zJ a) (zJ b)=decide (a=b):=by
 have:=((vA.key a b).eq (ps:=[(0,1),(1,1),(2,1),(3,1),(4,1),(5,1),(6,1),(7,1),(8,1)]) (by rw[zh];rfl)).2
 by_cases h:a=b
 ·rw[decide_eq_true h,this,h]
 ·rw[decide_eq_false h,Bool.eq_false_iff,ne_eq,this]
  exact fun hh=>h (zH0 ha hh)
@[go_sem ↓,go_sem] theorem zWA (a b:Bs):xA [(0,1),(1,1),(2,1),(3,1),(4,1),(5,1),(6,1),(7,1),(8,1),(9,1),(10,1),(11,1),(12,1),(13,1),(14,1),(15,1),(16,1)] (zK a) (zK b)=True:=eq_true ((vA.val a b).eq (by rw[yD];rfl)).1
theorem jV {a b:Bs} (ha:okV a):uU [(0,1),(1,1),(2,1),(3,1),(4,1),(5,1),(6,1),(7,1),(8,1),(9,1),(10,1),(11,1),(12,1),(13,1),(14,1),(15,1),(16,1)] (zK a) (zK b)=decide (a=b):=by
 have:=((vA.val a b).eq (ps:=[(0,1),(1,1),(2,1),(3,1),(4,1),(5,1),(6,1),(7,1),(8,1),(9,1),(10,1),(11,1),(12,1),(13,1),(14,1),(15,1),(16,1)]) (by rw[yD];rfl)).2
 by_cases h:a=b
 ·rw[decide_eq_true h,this,h]
 ·rw[decide_eq_false h,Bool.eq_false_iff,ne_eq,this]
  exact fun hh=>h (zJG ha hh)
end Go.Mo
namespace Go.Mo
open Go Go.Eng
variable [zB]
/-- A proposition as a truth value. -/
def tt (p:Prop):Bool:=@decide p (Classical.propDecidable p)
theorem yN {p:Prop} (h:p):tt p=true:=by simp[tt,h]
theorem zm {p:Prop} (h:¬p):tt p=false:=by simp[tt,h]
structure yC (m:Ms):Prop where
 lo:1≤m.kind
 hi:m.kind≤3
 val:m.kind≠1→m.val=[]
 by_:m.kind≠3→m.by_=0
def yq (m:Ms):Nat:=if tt (yC m) then (if m.kind=1 then 11+m.key.length+m.val.length else if m.kind=3 then 18+m.key.length else 10+m.key.length) else 0
def yw (e:Bs×Bs):Nat:=2+e.1.length+e.2.length
def jL (l:List Ms):Nat:=(l.map yq).sum
def ye (l:List (Bs×Bs)):Nat:=(l.map yw).sum
/-- Rising. -/
def rising (l:List Bs):Prop:=∀(i:Nat) (a b:Bs),0<i→l[i - 1]? =some a→l[i]? =some b→zU a b<0
def qh (l:List Ms):Prop:=(∀m∈l,yC m)∧rising (l.map Ms.key)
def vG (l:List (Bs×Bs)):Prop:=rising (l.map Prod.fst)
structure yz (k:List Int) (p:List Bs):Prop where
 few:2≤k.length
 many:k.length≤4
 len:p.length+1=k.length
 is:∀(i:Nat) (x:Int),k[i]? =some x→1≤x∧x<256∧∀j:Nat,j<i→k[j]? ≠some x
 up:rising p
def yh (n:Nd):Prop:=if n.leaf then vG n.ents∧n.kids=[]∧n.pivs=[]∧n.msgs=[] else n.ents=[]∧yz n.kids n.pivs∧qh n.msgs
def wH (n:Nd):Nat:=if n.leaf then ye n.ents else jL n.msgs
def yf (n:Nd):Prop:=yh n∧wH n≤if n.leaf then 248 else 205
theorem VH {m:Ms} (h:okM m):yq m≤40:=by
 have h1:=h.key
 have h2:=h.val
 unfold okK at h1
 unfold okV at h2
 unfold yq
 repeat' split
 all_goals omega
theorem Xz {α:Type} (f:α→Nat) (c:Nat) (l:List α) (h:∀a∈l,f a≤c):(l.map f).sum≤c*l.length:=by
 induction l with
 | nil=>simp
 | cons a l ih=>
  have:=h a (List.mem_cons_self ..)
  have:=ih (fun b hb=>h b (List.mem_cons_of_mem _ hb))
  rw[List.map_cons,List.sum_cons,List.length_cons,Nat.mul_succ]
  omega
theorem WD {α:Type} (f:α→Nat) (l:List α) (i:Nat) (h:i<l.length):((l.take (i+1)).map f).sum=((l.take i).map f).sum+f l[i]:=by
 rw[List.take_succ_eq_append_getElem h,List.map_append,List.sum_append,List.map_cons,List.map_nil,List.sum_cons,List.sum_nil,Nat.add_zero]
end Go.Mo
namespace Go.Proofs.YtbmibhjjogobhaaGreat
open Go Go.Eng Go.Mo
variable [zB]
set_option maxRecDepth 20000
attribute [local irreducible] hvc zf hop zg yI zb zu yQ
theorem JF (k:Bs) (hk:okV k):Pure Tryz.prog 193 [.agg (zK k)] (.bool true):=by
 refine Pure.zp (.bool _) fun PS=>?_
 refine zGp (by unfold Tryz.f193;exact rfl) ?_
 have hk':k.length≤16:=hk
 have e1:¬(k.length:Int)<0:=by omega
 have e2:¬(16:Int)<(k.length:Int):=by omega
 simp only[go_sem,seval, -List.reduceReplicate,e1,e2]
 refine zG (zq (α:=Nat) [false,false,true,false,false,false,false,false,false,false,false,false,false,false,true,true,true,true,true,true,true,true,true] (fun i=>[(3,.int .i64 i)]) (fun i=>16 - i) (fun i PS'=>k.length≤i∧i≤16∧PS'=PS++[.arr 0 17 [zK k] false]) k.length ⟨Nat.le_refl _,hk',rfl⟩ ?_ ?_)
 ·simp only[go_sem,seval, -List.reduceReplicate]
 ·intro i PS' h
  obtain⟨h1,h2,he⟩:=h
  subst he
  by_cases hlt:(i:Int)<16
  ·have hg:=JN (zAf h1 (by omega))
   simp only[go_sem,seval, -List.reduceReplicate,hlt,zt,hg,UInt8.toNat_zero]
   exact⟨by omega,by omega,i+1,by omega,by omega,by simp⟩
  ·simp only[go_sem,seval, -List.reduceReplicate,hlt,zt]
   exact Ext.app _ _
theorem zLn {k:Bs} (hk:okK k):HV.int .i64 k.length::(u8s k++List.replicate (8 - k.length) (.int .u8 0))=zJ k:=by rw[zEX hk];rfl
theorem xK (k:Bs) (hk:okK k):Pure Tryz.prog 297 [.agg (zJ k)] (.bool true):=by
 refine Pure.zp (.bool _) fun PS=>?_
 refine zOC (by unfold Tryz.f297;exact rfl) ?_
 have hk':k.length≤8:=hk
 have e1:¬(k.length:Int)<0:=by omega
 have e2:¬(8:Int)<(k.length:Int):=by omega
 have e3:List.take k.length (List.map (fun y=>[y]) (u8s (pad 8 k)))=(u8s k).map fun y=>[y]:=by rw[←List.map_take,ZV hk']
 simp only[go_sem,seval, -List.reduceReplicate,e1,e2,List.length_replicate,e3,zDI,qo,List.drop_replicate,List.replicate_zero,List.append_nil,zLn hk,jJ hk]
 exact⟨by simp[qy,HV.one],by omega,by omega,Ext.app _ _⟩
theorem zP9 (b:Bs):bytesOf ((u8s b).map fun y=>[y])=some b:=by
 have:(u8s b).map (fun y=>[y])=zD b:=by simp[u8s,zD]
 rw[this];exact zGI b
theorem zFH (k:Bs) (hk:okK k):Pure Tryz.prog 300 [.agg (zJ k)] (.str k):=by
 refine Pure.zp (.str _) fun PS=>?_
 refine zJY (by unfold Tryz.f300;exact rfl) ?_
 simp only[go_sem,seval, -List.reduceReplicate]
 refine zG ((xK k hk).call ?_)
 have hk':k.length≤8:=hk
 simp only[go_sem,seval, -List.reduceReplicate,ZV hk',zP9]
 exact⟨by omega,by omega,Ext.app _ _⟩
theorem Uz (a b:Bs) (ha:okK a) (hb:okK b):Pure Tryz.prog 293 [.agg (zJ a),.agg (zJ b)] (.int .i64 (zU a b)):=by
 refine Pure.zp (.int _ _) fun PS=>?_
 refine zR6 (by unfold Tryz.f293;exact rfl) ?_
 simp only[go_sem,seval, -List.reduceReplicate]
 refine zG ((zFH a ha).to ?_)
 simp only[go_sem,seval, -List.reduceReplicate]
 refine zG ((zFH b hb).to ?_)
 simp only[go_sem,seval, -List.reduceReplicate]
 refine zG ((zBR a b).to ?_)
 simp only[go_sem,seval, -List.reduceReplicate]
 exact Ext.app _ _
theorem zIu (PS:PL) (n ver c:Nat) (k:Bs) (hk:okV k) (h:zA PS n=.arr ver 17 [zK k] false):zI Tryz.prog 304 [.isl n ver 0 1 k.length c] PS fun r PS'=>r=.agg (zK k)∧PS'=PS:=by
 refine zI.data (zC8 _ _) ?_
 refine zKi (by unfold Tryz.f304;exact rfl) ?_
 have hk':k.length≤16:=hk
 have hx:∀l,zA (PS++l) n=.arr ver 17 [zK k] false:=fun l=>by rw[zMa l (yB h),h]
 have e3:(u8s k).take 16=u8s k:=List.take_of_length_le (by simp[qo,hk'])
 have e4:∀n m x,List.drop n (List.replicate m x:List HV)=List.replicate (m - n) x:=fun _ _ _=>List.drop_replicate
 simp only[go_sem,seval, -List.reduceReplicate,hx,List.length_replicate,ZV hk',←List.map_take,e3,zDI,qo,e4,List.replicate_zero,List.append_nil,zEX hk']
 intro _
 have:HV.int .i64 k.length::u8s (pad 16 k)=zK k:=_root_.id rfl
 rw[this]
 exact⟨by simp[qy,HV.one],by omega,rfl,Ext.app _ _⟩
theorem Gb (k:Bs) (hk:okV k):Pure Tryz.prog 298 [.agg (zK k)] (.bool true):=by
 refine Pure.zp (.bool _) fun PS=>?_
 refine zRG (by unfold Tryz.f298;exact rfl) ?_
 have hk':k.length≤16:=hk
 have e1:(k.length:Int)≤16:=by omega
 simp only[go_sem,seval, -List.reduceReplicate,e1]
 have hr:Reads Tryz.prog 304 [.isl PS.length 0 0 1 k.length 16] (PS++[.arr 0 17 [zK k] false]) (.agg (zK k)):=fun PS' hp=>zIu PS' _ _ _ k hk (hp.arr (zt _ _))
 refine zG (hr.to ?_)
 simp only[go_sem,seval, -List.reduceReplicate,jV hk]
 exact Ext.app _ _
end Go.Proofs.YtbmibhjjogobhaaGreat
namespace Go.Proofs.YtbmibhjjogobhaaGreat
open Go Go.Eng Go.Mo
variable [zB]
set_option maxRecDepth 20000
attribute [local irreducible] hvc zf hop zg yI zb zu yQ
end Go.Proofs.YtbmibhjjogobhaaGreat
namespace Go.Mo
open Go Go.Eng
variable [zB]
theorem zEc {k:Nat} (b:Bs):∀x∈u8s b,zc k x:=by
 intro x hx;obtain⟨y,_,rfl⟩:=List.mem_map.1 hx;exact .int _ _
theorem uL {k:Nat} (b:Bs):∀x∈zJ b,zc k x:=by
 intro x hx;rcases List.mem_cons.1 hx with rfl | hx
 ·exact .int _ _
 ·exact zEc _ x hx
theorem ZH {k:Nat} (b:Bs):∀x∈zK b,zc k x:=by
 intro x hx;rcases List.mem_cons.1 hx with rfl | hx
 ·exact .int _ _
 ·exact zEc _ x hx
theorem Zb {k:Nat} (e:Bs×Bs):∀x∈zR e,zc k x:=by
 intro x hx;rcases List.mem_append.1 hx with hx | hx
 ·exact uL _ x hx
 ·exact ZH _ x hx
theorem ki {k:Nat} (m:Ms):∀x∈zM m,zc k x:=by
 intro x hx
 rcases List.mem_cons.1 hx with rfl | hx
 ·exact .int _ _
 rcases List.mem_cons.1 hx with rfl | hx
 ·exact .int _ _
 rcases List.mem_append.1 hx with hx | hx
 ·exact uL _ x hx
 rcases List.mem_append.1 hx with hx | hx
 ·exact ZH _ x hx
 ·simp at hx;subst hx;exact .int _ _
theorem xu {α:Type} {k:Nat} (t:Bool) (f:α→List HV) (l:List α) (h:∀a,∀x∈f a,zc k x):zc k (.imm t (l.map f)):=by
 rw[xe]
 intro r hr x hx
 obtain⟨a,_,rfl⟩:=List.mem_map.1 hr
 exact h a x hx
theorem QT {k:Nat} (t:Fl) (n:Nd):zc k (.agg (ze t n)):=by
 rw[wE]
 intro x hx
 simp only[ze,List.mem_cons,List.not_mem_nil,or_false] at hx
 rcases hx with rfl | rfl | rfl | rfl | rfl
 ·exact .bool _
 ·exact xu _ _ _ Zb
 ·exact xu _ _ _ fun a x hx=>by simp[zY] at hx;subst hx;exact .int _ _
 ·exact xu _ _ _ uL
 ·exact xu _ _ _ ki
end Go.Mo
end
