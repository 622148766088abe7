/-
The sum of bytes: what the program computes is a plain function.
No conditions.
-/
import Derived.Test.YtbmibhjjogobhaaGreatQRunH
set_option linter.unusedSectionVars false
set_option linter.unusedSimpArgs false
set_option linter.unusedVariables false
namespace Go.Eng
open Go
variable [zB]
/-- One bit of a sum;so many;the sum of bytes. -/
def wF (x:Nat):Nat:=if x % 2=1 then (x / 2) ^^^ 3988292384 else x / 2
def yR:Nat→Nat→Nat
 | 0,x=>x
 | n+1,x=>wF (yR n x)
def qj (x:Nat):List UInt8→Nat
 | []=>x
 | c::l=>qj (yR 8 ((x % 256) ^^^ c.toNat) ^^^ (x / 256)) l
def qE (l:List UInt8):Nat:=qj 4294967295 l ^^^ 4294967295
theorem zQL {x:Nat} (h:x<4294967296):wF x<4294967296:=by
 unfold wF
 split
 ·exact Nat.xor_lt_two_pow (n:=32) (by omega) (by omega)
 ·omega
theorem YS:∀(n:Nat) {x:Nat},x<4294967296→yR n x<4294967296
 | 0,_,h=>h
 | n+1,_,h=>zQL (YS n h)
theorem xC:∀(l:List UInt8) {x:Nat},x<4294967296→qj x l<4294967296
 | [],_,h=>h
 | c::l,x,h=>by
  refine xC l (Nat.xor_lt_two_pow (n:=32) (YS 8 ?_) (by omega))
  have hc:=c.toNat_lt
  exact Nat.lt_of_lt_of_le (Nat.xor_lt_two_pow (n:=8) (by omega) (by omega)) (by omega)
theorem zEs (x:Nat) (a b:List UInt8):qj x (a++b)=qj (qj x a) b:=by
 induction a generalizing x with
 | nil=>rfl
 | cons c a ih=>simp only[List.cons_append,qj,ih]
theorem zD2 (a b:Nat) (ha:a<4294967296) (hb:b<4294967296):yZ .and .u32 a b=((a&&& b:Nat):Int):=by
 have:=Nat.and_le_left (n:=a) (m:=b)
 have e:(BitVec.ofInt 32 (a:Int)&&& BitVec.ofInt 32 (b:Int)).toNat=a&&& b:=by
  rw[BitVec.ofInt_natCast,BitVec.ofInt_natCast,BitVec.toNat_and,BitVec.toNat_ofNat,BitVec.toNat_ofNat,Nat.mod_eq_of_lt (by omega),Nat.mod_eq_of_lt (by omega)]
 show (((BitVec.ofInt 32 (a:Int)&&& BitVec.ofInt 32 (b:Int)).toNat:Nat):Int) % 4294967296=_
 rw[e]
 omega
theorem Zc (a b:Nat) (ha:a<4294967296) (hb:b<4294967296):yZ .xor .u32 a b=((a ^^^ b:Nat):Int):=by
 have:=Nat.xor_lt_two_pow (n:=32) (by omega:a<2 ^ 32) (by omega:b<2 ^ 32)
 have e:(BitVec.ofInt 32 (a:Int) ^^^ BitVec.ofInt 32 (b:Int)).toNat=a ^^^ b:=by
  rw[BitVec.ofInt_natCast,BitVec.ofInt_natCast,BitVec.toNat_xor,BitVec.toNat_ofNat,BitVec.toNat_ofNat,Nat.mod_eq_of_lt (by omega),Nat.mod_eq_of_lt (by omega)]
 show (((BitVec.ofInt 32 (a:Int) ^^^ BitVec.ofInt 32 (b:Int)).toNat:Nat):Int) % 4294967296=_
 rw[e]
 omega
theorem zE5 (a b:Nat) (ha:a<256) (hb:b<256):yZ .xor .u8 a b=((a ^^^ b:Nat):Int):=by
 have:=Nat.xor_lt_two_pow (n:=8) (by omega:a<2 ^ 8) (by omega:b<2 ^ 8)
 have e:(BitVec.ofInt 8 (a:Int) ^^^ BitVec.ofInt 8 (b:Int)).toNat=a ^^^ b:=by
  rw[BitVec.ofInt_natCast,BitVec.ofInt_natCast,BitVec.toNat_xor,BitVec.toNat_ofNat,BitVec.toNat_ofNat,Nat.mod_eq_of_lt (by omega),Nat.mod_eq_of_lt (by omega)]
 show (((BitVec.ofInt 8 (a:Int) ^^^ BitVec.ofInt 8 (b:Int)).toNat:Nat):Int) % 256=_
 rw[e]
 omega
theorem Jb (n:Nat):(n:Int).fdiv (2 ^ min 1 32)=((n / 2:Nat):Int):=by
 rw[show min 1 32=1 from rfl,show (2:Int) ^ 1=2 from rfl,Int.fdiv_eq_ediv_of_nonneg _ (by omega)];simp
theorem zDO (n:Nat):(n:Int).fdiv (2 ^ min 8 32)=((n / 256:Nat):Int):=by
 rw[show min 8 32=8 from rfl,show (2:Int) ^ 8=256 from rfl,Int.fdiv_eq_ediv_of_nonneg _ (by omega)];simp
/-- The table,so far. -/
def wa (i:Nat):List HV:=((List.range i).map fun j=>HV.int .u32 (yR 8 j:Nat))++List.replicate (256 - i) (.int .u32 0)
theorem kC {i:Nat} (h:i≤256):(wa i).length=256:=by simp[wa];omega
theorem zNV {i:Nat} (h:i<256):zP i [HV.int .u32 (yR 8 i:Nat)] (wa i)=wa (i+1):=by
 obtain⟨q,hq⟩:∃q,256 - i=q+1:=⟨256 - i - 1,by omega⟩
 have hq':256 - (i+1)=q:=by omega
 unfold wa
 rw[hq,hq',List.replicate_succ,List.range_succ,List.map_append]
 have hl:((List.range i).map fun j=>HV.int .u32 (yR 8 j:Nat)).length=i:=by simp
 unfold zP
 rw[List.take_append_of_le_length (by omega),List.take_of_length_le (by omega)]
 rw[List.drop_append,List.drop_of_length_le (by simp)]
 simp[hl,List.append_assoc]
theorem zBX {i:Nat} (h:i<256):(wa 256)[i]? =some (.int .u32 (yR 8 i:Nat)):=by
 unfold wa
 rw[List.getElem?_append_left (by simp;omega)]
 simp[h]
theorem zGA (i:Nat):∀y∈wa i,HV.one y=true:=by
 intro y hy
 simp only[wa,List.mem_append,List.mem_map,List.mem_replicate] at hy
 rcases hy with ⟨j,_,rfl⟩ | ⟨_,rfl⟩<;>rfl
@[go_sem ↓,go_sem] theorem zOt (i:Nat):qS (wa i)=True:=eq_true ((qy _).2 (zGA i))
end Go.Eng
namespace Go.Proofs.YtbmibhjjogobhaaGreat
open Go Go.Eng
variable [zB]
set_option maxRecDepth 20000
attribute [local irreducible] hvc zf hop zg yI zb zu yQ
theorem zBN:Pure Tryz.prog 277 [] (.agg (wa 256)):=by
 refine Pure.zp (wE.2 fun x hx=>?_) fun PS=>?_
 ·simp only[wa,List.mem_append,List.mem_map,List.mem_replicate] at hx
  rcases hx with ⟨j,_,rfl⟩ | ⟨_,rfl⟩<;>exact .int _ _
 refine zPB (by unfold Tryz.f277;exact rfl) ?_
 simp only[go_sem,seval, -List.reduceReplicate]
 refine zG (zq (α:=Nat) [false,false,true,true,true,false,true,true,true,true,true,true,true,true,true,true,true,true,true,true,true,true,true,true,true] (fun i=>[(5,.int .i64 i)]) (fun i=>256 - i) (fun i PS'=>i≤256∧PS'=PS++[.arr 0 256 [List.replicate 256 (.int .u32 0)] false,.arr 0 256 [wa i] false]) 0 ⟨by omega,rfl⟩ ?_ ?_)
 ·simp only[go_sem,seval, -List.reduceReplicate,Int.natCast_zero]
 ·intro i PS' hr
  obtain⟨hi,rfl⟩:=hr
  by_cases hlt:i<256
  ·have hlt':(i:Int)<256:=by omega
   simp only[go_sem,seval, -List.reduceReplicate,hlt']
   refine zG (zq (α:=Nat) [false,false,false,false,true,false,false,false,false,false,false,true,true,true,true,true,true,true,true,true,true] (fun k=>[(10,.int .i64 k),(3,.int .u32 (yR k i:Nat))]) (fun k=>8 - k) (fun k PS'=>k≤8∧PS'=PS++[.arr 0 256 [List.replicate 256 (.int .u32 0)] false,.arr 0 256 [wa i] false]) 0 ⟨by omega,rfl⟩ ?_ ?_)
   ·simp only[go_sem,seval, -List.reduceReplicate,Int.natCast_zero]
    have e:IntKind.u32.wrap (i:Int)=(yR 0 i:Nat):=by
     show (i:Int) % 4294967296=(i:Int)
     omega
    rw[e]
   ·intro k PS' hr
    obtain⟨hk,rfl⟩:=hr
    have hx:=YS k (x:=i) (by omega)
    by_cases hkt:k<8
    ·have hkt':(k:Int)<8:=by omega
     have e1:yZ .and .u32 (yR k i:Nat) 1=((yR k i % 2:Nat):Int):=by
      have:=zD2 (yR k i) 1 hx (by omega)
      rw[Nat.and_one_is_mod] at this
      exact this
     by_cases hb:yR k i % 2=1
     ·simp only[go_sem,seval, -List.reduceReplicate,hkt',e1,hb,Jb]
      have e2:=Zc (yR k i / 2) 3988292384 (by omega) (by omega)
      refine⟨by omega,k+1,by omega,by omega,?_,by simp⟩
      have e3:yR (k+1) i=(yR k i / 2) ^^^ 3988292384:=by
       show wF (yR k i)=_
       rw[wF,if_pos hb]
      rw[e3]
      exact congrArg (HV.int .u32) e2.symm
     ·have hb0:yR k i % 2=0:=by omega
      have hb1:¬((yR k i % 2:Nat):Int)=1:=by omega
      simp only[go_sem,seval, -List.reduceReplicate,hkt',e1,hb1,Jb]
      refine⟨by omega,k+1,by omega,by omega,?_,by simp⟩
      have e3:yR (k+1) i=yR k i / 2:=by
       show wF (yR k i)=_
       rw[wF,if_neg hb]
      rw[e3]
    ·have hkt':¬(k:Int)<8:=by omega
     have:k=8:=by omega
     subst this
     simp only[go_sem,seval, -List.reduceReplicate,hkt',kC hi]
     exact⟨by omega,by omega,by omega,i+1,by omega,⟨by omega,by rw[zNV hlt]⟩,by simp⟩
  ·have hlt':¬(i:Int)<256:=by omega
   have:i=256:=by omega
   subst this
   simp only[go_sem,seval, -List.reduceReplicate,hlt',kC (Nat.le_refl 256)]
   have e:List.take 256 (wa 256)=wa 256:=List.take_of_length_le (by rw[kC (Nat.le_refl 256)];omega)
   rw[e,kC (Nat.le_refl 256),zOt]
   refine⟨trivial,rfl,by simp,by simp,?_,Ext.app _ _⟩
   simp[e,kC (Nat.le_refl 256)]
theorem ja (l:List UInt8) (i:Nat) (h:i<l.length):(zD l)[i]? =some [HV.int .u8 l[i].toNat]:=by simp[zD,h]
theorem zAz (a:Nat) (l:List UInt8) (i:Nat) (h:i<l.length):qj a (l.take (i+1))=yR 8 ((qj a (l.take i) % 256) ^^^ l[i].toNat) ^^^ (qj a (l.take i) / 256):=by
 rw[List.take_succ_eq_append_getElem h,zEs];rfl
theorem YB (l:List UInt8):(zD l).length=l.length:=by simp[zD]
theorem xQ (n:Nat) (h:n<4294967296):yZ .xor .u32 (IntKind.u32.max) n=((n ^^^ 4294967295:Nat):Int):=by
 rw[show IntKind.u32.max=((4294967295:Nat):Int) from rfl,Zc _ _ (by omega) h,Nat.xor_comm]
theorem zJJ {E:List (List HV)} {i0:Nat} {l:List UInt8} (h:(E.drop i0).take l.length=zD l) (i:Nat) (hi:i<l.length):E[i0+i]? =some [HV.int .u8 l[i].toNat]:=by
 have:=congrArg (fun r=>r[i]?) h
 simp only[List.getElem?_take,hi,if_true,List.getElem?_drop] at this
 rw[this,ja l i hi]
/-- The sum of what has a sum,with bytes behind it. -/
theorem zGO (PS:PL) (a:Nat) (l:List UInt8) (ha:a<4294967296) (hl:l.length≤1000000) (t:Bool):
  zI Tryz.prog 259 [.int .u32 a,.imm t (zD l)] PS fun r PS'=>r=.int .u32 (qj (a ^^^ 4294967295) l ^^^ 4294967295:Nat)∧PS'=PS:=by
 refine zI.data (.int _ _) ?_
 refine zCu (by unfold Tryz.f259;exact rfl) ?_
 simp only[go_sem,seval, -List.reduceReplicate]
 refine zG (zBN.call ?_)
 skip
 have hm:a ^^^ 4294967295<4294967296:=Nat.xor_lt_two_pow (n:=32) (by omega) (by omega)
 simp only[go_sem,seval, -List.reduceReplicate,kC (Nat.le_refl 256),YB,xQ a ha]
 refine⟨by simp,fun hml=>zG (zq (α:=Nat) [false,false,false,false,false,false,false,false,true,false,false,false,false,false,false,true,true,true,true,true,true,true,true,true,true,true,true,true] (fun i=>[(14,.int .i64 i),(6,.int .u32 (qj (a ^^^ 4294967295) (l.take i):Nat))]) (fun i=>l.length - i) (fun i PS'=>i≤l.length∧PS'=PS++[.arr 0 256 [wa 256] false]) 0 ⟨by omega,?_⟩ ?_ ?_)⟩
 ·rw[List.drop_of_length_le (by simp),List.append_nil,List.length_replicate]
 ·simp only[go_sem,seval, -List.reduceReplicate,Int.natCast_zero]
  exact congrArg (HV.int .u32) (xQ a ha).symm
 ·intro i PS' hr
  obtain⟨hi,rfl⟩:=hr
  have hx:=xC (l.take i) hm
  by_cases hlt:i<l.length
  ·have hc:=l[i].toNat_lt
   generalize hM:qj (a ^^^ 4294967295) (l.take i)=M at hx
   have hq:(M % 256) ^^^ l[i].toNat<256:=Nat.xor_lt_two_pow (n:=8) (by omega) (by omega)
   have e1:IntKind.u8.wrap (M:Int)=((M % 256:Nat):Int):=by
    show (M:Int) % 256=_
    omega
   have e2:=zE5 (M % 256) l[i].toNat (by omega) (by omega)
   have e3:=(QA (zBX hq)).2
   have hb:=YS 8 (x:=(M % 256) ^^^ l[i].toNat) (by omega)
   have e5:=Zc (yR 8 ((M % 256) ^^^ l[i].toNat)) (M / 256) hb (by omega)
   simp only[go_sem,seval, -List.reduceReplicate,hlt,ja l i hlt,YB,hM,e1,e2,e3,e5,zDO]
   have e6:=kC (Nat.le_refl 256)
   exact⟨by omega,by omega,by omega,i+1,by omega,by omega,by rw[zAz _ _ _ hlt,hM],by simp⟩
  ·have:i=l.length:=by omega
   subst this
   simp only[go_sem,seval, -List.reduceReplicate,Nat.lt_irrefl,YB]
   rw[List.take_of_length_le (Nat.le_refl _)]
   exact⟨congrArg (HV.int .u32) (xQ _ (xC l hm)),Ext.app _ _⟩
/-- The sum of what has a sum,with bytes behind it. -/
theorem zRU (PS:PL) (a:Nat) (l:List UInt8) (ha:a<4294967296) (hl:l.length≤1000000) (n ver i0:Nat) (c:Option Nat) (E:List (List HV)) (o:Bool) (hg:zA PS n=.arr ver 1 E o) (hE:(E.drop i0).take l.length=zD l):
  zI Tryz.prog 259 [.int .u32 a,.sl n ver i0 l.length c] PS fun r PS'=>r=.int .u32 (qj (a ^^^ 4294967295) l ^^^ 4294967295:Nat)∧PS'=PS:=by
 refine zI.data (.int _ _) ?_
 refine zCu (by unfold Tryz.f259;exact rfl) ?_
 simp only[go_sem,seval, -List.reduceReplicate]
 refine zG (zBN.call ?_)
 have gA:∀L,zA (PS++L) n=.arr ver 1 E o:=fun L=>zx L hg
 have hm:a ^^^ 4294967295<4294967296:=Nat.xor_lt_two_pow (n:=32) (by omega) (by omega)
 simp only[go_sem,seval, -List.reduceReplicate,kC (Nat.le_refl 256),YB,xQ a ha,gA]
 refine⟨by simp,fun hml=>zG (zq (α:=Nat) [false,false,false,false,false,false,false,false,true,false,false,false,false,false,false,true,true,true,true,true,true,true,true,true,true,true,true,true] (fun i=>[(14,.int .i64 i),(6,.int .u32 (qj (a ^^^ 4294967295) (l.take i):Nat))]) (fun i=>l.length - i) (fun i PS'=>i≤l.length∧PS'=PS++[.arr 0 256 [wa 256] false]) 0 ⟨by omega,?_⟩ ?_ ?_)⟩
 ·rw[List.drop_of_length_le (by simp),List.append_nil,List.length_replicate]
 ·simp only[go_sem,seval, -List.reduceReplicate,Int.natCast_zero]
  exact congrArg (HV.int .u32) (xQ a ha).symm
 ·intro i PS' hr
  obtain⟨hi,rfl⟩:=hr
  have hx:=xC (l.take i) hm
  by_cases hlt:i<l.length
  ·have hc:=l[i].toNat_lt
   generalize hM:qj (a ^^^ 4294967295) (l.take i)=M at hx
   have hq:(M % 256) ^^^ l[i].toNat<256:=Nat.xor_lt_two_pow (n:=8) (by omega) (by omega)
   have e1:IntKind.u8.wrap (M:Int)=((M % 256:Nat):Int):=by
    show (M:Int) % 256=_
    omega
   have e2:=zE5 (M % 256) l[i].toNat (by omega) (by omega)
   have e3:=(QA (zBX hq)).2
   have hb:=YS 8 (x:=(M % 256) ^^^ l[i].toNat) (by omega)
   have e5:=Zc (yR 8 ((M % 256) ^^^ l[i].toNat)) (M / 256) hb (by omega)
   simp only[go_sem,seval, -List.reduceReplicate,hlt,zJJ hE i hlt,YB,hM,e1,e2,e3,e5,zDO,gA]
   have e6:=kC (Nat.le_refl 256)
   exact⟨by omega,by omega,by omega,i+1,by omega,by omega,by rw[zAz _ _ _ hlt,hM],by simp⟩
  ·have:i=l.length:=by omega
   subst this
   simp only[go_sem,seval, -List.reduceReplicate,Nat.lt_irrefl,YB,gA]
   rw[List.take_of_length_le (Nat.le_refl _)]
   exact⟨congrArg (HV.int .u32) (xQ _ (xC l hm)),Ext.app _ _⟩
theorem zPW (PS:PL) (l:List UInt8) (hl:l.length≤1000000) (t:Bool):zI Tryz.prog 214 [.imm t (zD l)] PS fun r PS'=>r=.int .u32 (qE l:Nat)∧PS'=PS:=by
 refine zCJ (by unfold Tryz.f214;exact rfl) ?_
 simp only[go_sem,seval, -List.reduceReplicate]
 refine zG ((zGO PS 0 l (by omega) hl t).mono ?_)
 rintro _ _ ⟨rfl,rfl⟩
 simp only[go_sem,seval, -List.reduceReplicate]
 rfl
theorem zCk (PS:PL) (l:List UInt8) (hl:l.length≤1000000) (n ver i0:Nat) (c:Option Nat) (E:List (List HV)) (o:Bool) (hg:zA PS n=.arr ver 1 E o) (hE:(E.drop i0).take l.length=zD l):zI Tryz.prog 214 [.sl n ver i0 l.length c] PS fun r PS'=>r=.int .u32 (qE l:Nat)∧PS'=PS:=by
 refine zCJ (by unfold Tryz.f214;exact rfl) ?_
 simp only[go_sem,seval, -List.reduceReplicate]
 refine zG ((zRU PS 0 l (by omega) hl n ver i0 c E o hg hE).mono ?_)
 rintro _ _ ⟨rfl,rfl⟩
 simp only[go_sem,seval, -List.reduceReplicate]
 rfl
end Go.Proofs.YtbmibhjjogobhaaGreat
