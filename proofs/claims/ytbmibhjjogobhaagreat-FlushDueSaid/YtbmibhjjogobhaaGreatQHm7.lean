/-
Hm7
No conditions.
-/
import Derived.Test.YtbmibhjjogobhaaGreatQHm6
set_option linter.unusedSectionVars false
set_option linter.unusedSimpArgs false
set_option linter.unusedVariables false
namespace Go.Proofs.YtbmibhjjogobhaaGreat
open Go Go.Eng Go.Mo
variable [zB]
set_option maxRecDepth 20000
attribute [local irreducible] hvc zf hop zg yI zb zu yQ
theorem ZX (PS:PL) (q:Nat) (t:Bool) (l:Bs) (a w n:Nat) (hl:l.length≤1000) (hq:zA PS q=rdP t l a) (h:za n w<+:l.drop a) (h1:1≤w) (h2:w≤8) (hn:n<256 ^ w):
  zI Tryz.prog 175 [.ptr q 0 0 0,.int .i64 w] PS fun r PS'=>r=.int .u64 n∧PS'=PS.set q (rdP t l (a+w)):=by
 obtain⟨e1,e2⟩:=Gi h h1 hn
 rw[rdP] at hq
 have hy:∀Q,zA (PS.set q Q) q=Q:=fun Q=>zk Q hq
 refine zKC (by unfold Tryz.f175;exact rfl) ?_
 simp only[go_sem,seval, -List.reduceReplicate,hq]
 refine zG (Reads.to (Pure.reads (zDw t l a w hl h1 h2 e2) _) ?_)
 rw[e1]
 simp only[go_sem,seval, -List.reduceReplicate,hq,hy,List.set_set]
 exact⟨by omega,rfl⟩
theorem zB0 (PS:PL) (q:Nat) (t:Bool) (l:Bs) (a:Nat) (s:Bs) (N:Nat) (hl:l.length≤1000) (hq:zA PS q=rdP t l a) (h:txt s<+:l.drop a) (hs:s.length≤N) (hN:N≤100):
  zI Tryz.prog 243 [.ptr q 0 0 0,.int .i64 N] PS fun r PS'=>(∃t',r=.imm t' (zD s))∧PS'=PS.set q (rdP t l (a+1+s.length)):=by
 obtain⟨h1,h2⟩:=zAn h (by omega)
 have hl2:=h.length_le
 rw[yl,List.length_drop] at hl2
 have hy:∀Q,zA (PS.set q Q) q=Q:=fun Q=>zk Q hq
 refine zLT (by unfold Tryz.f243;exact rfl) ?_
 simp only[go_sem,seval, -List.reduceReplicate]
 refine zG ((ZX PS q t l a 1 s.length hl hq h1 (by omega) (by omega) (by omega)).mono ?_)
 rintro _ _ ⟨rfl,rfl⟩
 have hc1:¬(N:Int)<(s.length:Int):=by omega
 have hc2:¬((l.length:Int) - ((a+1:Nat):Int))<(s.length:Int):=by omega
 have hz:(((a+1:Nat):Int)+(s.length:Int)).toNat=a+1+s.length:=by omega
 have ht:List.drop (a+1) (List.take (a+1+s.length) (zD l))=zD s:=by
  unfold zD
  rw[←List.map_take,←List.map_drop,←List.take_drop,←List.prefix_iff_eq_take.mp h2]
 simp only[go_sem,seval, -List.reduceReplicate,hy,rdP,hc1,hc2,zo,hz,ht,List.set_set]
 exact⟨by omega,by omega,by omega,by omega,by omega,by omega,⟨_,rfl⟩,rfl⟩
theorem zEC (n:Nat) (s:Bs) (i:Nat) (hi:i<s.length) (hs:s.length≤n) (a:HV):zP (1+i) [HV.int .u8 (s[i]'hi).toNat] (a::u8s (pad n (s.take i)))=a::u8s (pad n (s.take (i+1))):=by
 have l1:(s.take i).length=i:=by rw[List.length_take];omega
 have l2:(s.take (i+1)).length=i+1:=by rw[List.length_take];omega
 rw[ug (by omega),ug (by omega),l1,l2,List.take_succ_eq_append_getElem hi]
 have e:n - i=(n - (i+1))+1:=by omega
 rw[e,List.replicate_succ]
 have l3:(u8s (s.take i)).length=i:=by rw[qo,l1]
 have h1:u8s (s.take i++0::List.replicate (n - (i+1)) 0)=u8s (s.take i)++HV.int .u8 0::u8s (List.replicate (n - (i+1)) 0):=by simp[u8s]
 have h2:u8s (s.take i++[s[i]'hi]++List.replicate (n - (i+1)) 0)=u8s (s.take i)++HV.int .u8 (s[i]'hi).toNat::u8s (List.replicate (n - (i+1)) 0):=by
  unfold u8s;rw[List.map_append,List.map_append,List.append_assoc];rfl
 rw[h1,h2,Nat.add_comm 1 i]
 unfold zP
 rw[List.take_succ_cons,List.take_left' l3,List.length_singleton,show i+1+1=(i+1)+1 from rfl,List.drop_succ_cons,←List.drop_drop,List.drop_left' l3]
 rfl
theorem Xl (PS:PL) (q:Nat) (t:Bool) (l:Bs) (a:Nat) (s:Bs) (hl:l.length≤1000) (hq:zA PS q=rdP t l a) (h:txt s<+:l.drop a) (hs:s.length≤8):
  zI Tryz.prog 173 [.ptr q 0 0 0] PS fun r PS'=>r=.agg (zJ s)∧Ext [q] PS PS'∧zA PS' q=rdP t l (a+1+s.length):=by
 have hlt:=yB hq
 refine zGc (by unfold Tryz.f173;exact rfl) ?_
 have hz0:List.replicate 8 (HV.int .u8 0)=u8s (pad 8 []):=rfl
 have hz1:List.drop 8 (u8s (pad 8 []))=[]:=List.drop_of_length_le (by rw[qo,wC];exact Nat.le_refl _)
 simp only[go_sem,seval, -List.reduceReplicate,hz0,hz1,List.append_nil]
 obtain⟨k,hk⟩:∃k,k=PS.length+1:=⟨_,rfl⟩
 rw[←hk]
 have hP:=Ext.app PS [zC.arr 0 (8+1) [HV.int .i64 0::u8s (pad 8 [])] false,zC.arr 0 (8+1) [HV.int .i64 0::u8s (pad 8 [])] false]
 have hqP:=zx [zC.arr 0 (8+1) [HV.int .i64 0::u8s (pad 8 [])] false,zC.arr 0 (8+1) [HV.int .i64 0::u8s (pad 8 [])] false] hq
 have hkP:zA (PS++[zC.arr 0 (8+1) [HV.int .i64 0::u8s (pad 8 [])] false,zC.arr 0 (8+1) [HV.int .i64 0::u8s (pad 8 [])] false]) k=zC.arr 0 (8+1) [HV.int .i64 0::u8s (pad 8 [])] false:=by
  subst hk;simp[zA,List.getElem?_append_right]
 have hrP:zA (PS++[zC.arr 0 (8+1) [HV.int .i64 0::u8s (pad 8 [])] false,zC.arr 0 (8+1) [HV.int .i64 0::u8s (pad 8 [])] false]) PS.length=zC.arr 0 (8+1) [HV.int .i64 0::u8s (pad 8 [])] false:=by
  simp[zA]
 simp only[Nat.reduceAdd] at hP hqP hkP hrP
 generalize PS++[zC.arr 0 _ [HV.int .i64 0::u8s (pad 8 [])] false,zC.arr 0 _ [HV.int .i64 0::u8s (pad 8 [])] false]=PS1 at hP hqP hkP hrP ⊢
 refine zG ((zB0 PS1 q t l a s 8 hl hqP h hs (by omega)).mono ?_)
 rintro _ PS2 ⟨⟨t',rfl⟩,hE⟩
 have hq2:zA PS2 q=rdP t l (a+1+s.length):=by rw[hE];exact zk _ hqP
 have hk2:=(zO (rdP t l (a+1+s.length)) (by omega:q≠k)).trans hkP
 have hr2:=(zO (rdP t l (a+1+s.length)) (by omega:q≠PS.length)).trans hrP
 have hP2:Ext [q] PS PS2:=by rw[hE];exact(hP.mono (by simp)).since (Ext.set _ q _) (by simp)
 rw[←hE] at hk2 hr2
 clear hE hP hqP hkP hrP
 have hy2:∀Q,zA (PS2.set k Q) k=Q:=fun Q=>zk Q hk2
 simp only[go_sem,seval, -List.reduceReplicate,hk2,hy2,zo]
 intro _
 refine zG (zq (α:=Nat) [false,false,false,false,false,false,false,false,false,false,false,false,true,true,true,true,true,true,true,true,true,true,true,true,true] (fun i=>[(5,.int .i64 i)]) (fun i=>s.length - i) (fun i PS'=>i≤s.length∧Ext [q] PS PS'∧zA PS' q=rdP t l (a+1+s.length)∧zA PS' PS.length=zC.arr 0 (8+1) [HV.int .i64 0::u8s (pad 8 [])] false∧zA PS' k=zC.arr 0 (8+1) [HV.int .i64 s.length::u8s (pad 8 (s.take i))] false) 0 ⟨Nat.zero_le _,hP2.since (Ext.set PS2 k _) (by intro m hm;simp at hm;subst hm;right;omega),(zO _ (by omega)).trans hq2,(zO _ (by omega)).trans hr2,hy2 _⟩ ?_ ?_)
 ·simp only[go_sem,seval, -List.reduceReplicate,Int.natCast_zero]
 rintro i PS3 ⟨hi,hP3,hq3,hr3,hk3⟩
 have hp1:(u8s (pad 8 (s.take i))).length=8:=by rw[qo,wC]
 by_cases hil:i<s.length
 ·have ha:(zD s)[i]? =some [.int .u8 (s[i]'hil).toNat]:=ja s i hil
  have hps:=zEC 8 s i hil hs (.int .i64 s.length)
  simp only[go_sem,seval, -List.reduceReplicate,hil,hk3,ha,zo,hp1,hps]
  intro _
  exact⟨by omega,by omega,by omega,i+1,by omega,⟨by omega,hP3.since (Ext.set PS3 k _) (by intro m hm;simp at hm;subst hm;right;omega),(zO _ (by omega)).trans hq3,(zO _ (by omega)).trans hr3,zk _ hk3⟩,rfl⟩
 ·have hi:i=s.length:=by omega
  subst hi
  rw[List.take_length] at hk3 hp1
  have hy3:∀Q,zA (PS3.set PS.length Q) PS.length=Q:=fun Q=>zk Q hr3
  simp only[go_sem,seval, -List.reduceReplicate,hil,hk3,hr3,hy3,zo,hp1,hz1,List.append_nil]
  intro _
  exact⟨rfl,hP3.since (Ext.set _ PS.length _) (by simp),(zO _ (by omega)).trans hq3⟩
theorem zAL (PS:PL) (q:Nat) (t:Bool) (l:Bs) (a:Nat) (s:Bs) (hl:l.length≤1000) (hq:zA PS q=rdP t l a) (h:txt s<+:l.drop a) (hs:s.length≤16):
  zI Tryz.prog 174 [.ptr q 0 0 0] PS fun r PS'=>r=.agg (zK s)∧Ext [q] PS PS'∧zA PS' q=rdP t l (a+1+s.length):=by
 have hlt:=yB hq
 refine zIq (by unfold Tryz.f174;exact rfl) ?_
 have hz0:List.replicate 16 (HV.int .u8 0)=u8s (pad 16 []):=rfl
 have hz1:List.drop 16 (u8s (pad 16 []))=[]:=List.drop_of_length_le (by rw[qo,wC];exact Nat.le_refl _)
 simp only[go_sem,seval, -List.reduceReplicate,hz0,hz1,List.append_nil]
 obtain⟨k,hk⟩:∃k,k=PS.length+1:=⟨_,rfl⟩
 rw[←hk]
 have hP:=Ext.app PS [zC.arr 0 (16+1) [HV.int .i64 0::u8s (pad 16 [])] false,zC.arr 0 (16+1) [HV.int .i64 0::u8s (pad 16 [])] false]
 have hqP:=zx [zC.arr 0 (16+1) [HV.int .i64 0::u8s (pad 16 [])] false,zC.arr 0 (16+1) [HV.int .i64 0::u8s (pad 16 [])] false] hq
 have hkP:zA (PS++[zC.arr 0 (16+1) [HV.int .i64 0::u8s (pad 16 [])] false,zC.arr 0 (16+1) [HV.int .i64 0::u8s (pad 16 [])] false]) k=zC.arr 0 (16+1) [HV.int .i64 0::u8s (pad 16 [])] false:=by
  subst hk;simp[zA,List.getElem?_append_right]
 have hrP:zA (PS++[zC.arr 0 (16+1) [HV.int .i64 0::u8s (pad 16 [])] false,zC.arr 0 (16+1) [HV.int .i64 0::u8s (pad 16 [])] false]) PS.length=zC.arr 0 (16+1) [HV.int .i64 0::u8s (pad 16 [])] false:=by
  simp[zA]
 simp only[Nat.reduceAdd] at hP hqP hkP hrP
 generalize PS++[zC.arr 0 _ [HV.int .i64 0::u8s (pad 16 [])] false,zC.arr 0 _ [HV.int .i64 0::u8s (pad 16 [])] false]=PS1 at hP hqP hkP hrP ⊢
 refine zG ((zB0 PS1 q t l a s 16 hl hqP h hs (by omega)).mono ?_)
 rintro _ PS2 ⟨⟨t',rfl⟩,hE⟩
 have hq2:zA PS2 q=rdP t l (a+1+s.length):=by rw[hE];exact zk _ hqP
 have hk2:=(zO (rdP t l (a+1+s.length)) (by omega:q≠k)).trans hkP
 have hr2:=(zO (rdP t l (a+1+s.length)) (by omega:q≠PS.length)).trans hrP
 have hP2:Ext [q] PS PS2:=by rw[hE];exact(hP.mono (by simp)).since (Ext.set _ q _) (by simp)
 rw[←hE] at hk2 hr2
 clear hE hP hqP hkP hrP
 have hy2:∀Q,zA (PS2.set k Q) k=Q:=fun Q=>zk Q hk2
 simp only[go_sem,seval, -List.reduceReplicate,hk2,hy2,zo]
 intro _
 refine zG (zq (α:=Nat) [false,false,false,false,false,false,false,false,false,false,false,false,true,true,true,true,true,true,true,true,true,true,true,true,true] (fun i=>[(5,.int .i64 i)]) (fun i=>s.length - i) (fun i PS'=>i≤s.length∧Ext [q] PS PS'∧zA PS' q=rdP t l (a+1+s.length)∧zA PS' PS.length=zC.arr 0 (16+1) [HV.int .i64 0::u8s (pad 16 [])] false∧zA PS' k=zC.arr 0 (16+1) [HV.int .i64 s.length::u8s (pad 16 (s.take i))] false) 0 ⟨Nat.zero_le _,hP2.since (Ext.set PS2 k _) (by intro m hm;simp at hm;subst hm;right;omega),(zO _ (by omega)).trans hq2,(zO _ (by omega)).trans hr2,hy2 _⟩ ?_ ?_)
 ·simp only[go_sem,seval, -List.reduceReplicate,Int.natCast_zero]
 rintro i PS3 ⟨hi,hP3,hq3,hr3,hk3⟩
 have hp1:(u8s (pad 16 (s.take i))).length=16:=by rw[qo,wC]
 by_cases hil:i<s.length
 ·have ha:(zD s)[i]? =some [.int .u8 (s[i]'hil).toNat]:=ja s i hil
  have hps:=zEC 16 s i hil hs (.int .i64 s.length)
  simp only[go_sem,seval, -List.reduceReplicate,hil,hk3,ha,zo,hp1,hps]
  intro _
  exact⟨by omega,by omega,by omega,i+1,by omega,⟨by omega,hP3.since (Ext.set PS3 k _) (by intro m hm;simp at hm;subst hm;right;omega),(zO _ (by omega)).trans hq3,(zO _ (by omega)).trans hr3,zk _ hk3⟩,rfl⟩
 ·have hi:i=s.length:=by omega
  subst hi
  rw[List.take_length] at hk3 hp1
  have hy3:∀Q,zA (PS3.set PS.length Q) PS.length=Q:=fun Q=>zk Q hr3
  simp only[go_sem,seval, -List.reduceReplicate,hil,hk3,hr3,hy3,zo,hp1,hz1,List.append_nil]
  intro _
  exact⟨rfl,hP3.since (Ext.set _ PS.length _) (by simp),(zO _ (by omega)).trans hq3⟩
end Go.Proofs.YtbmibhjjogobhaaGreat
namespace Go.Mo
open Go Go.Eng
variable [zB]
def wX (k:Int) (seq:Nat) (key val:Bs) (by_:Nat):List HV:=.int .i64 k:: .int .u64 seq::(zJ key++(zK val++[.int .u64 by_]))
/-- A message being read:its piece,the reader,the result's piece. -/
structure RM (PS:PL) (q:Nat) (t:Bool) (l:Bs) (m:Nat) (PS':PL) (row:List HV) (a:Nat):Prop where
 ext:Ext [q] PS PS'
 rd:zA PS' q=rdP t l a
 res:zA PS' PS.length=.arr 0 29 [wX 0 0 [] [] 0] false
 at_:zA PS' m=.arr 0 29 [row] false
 lo:PS.length<m
 hi:q<PS.length
theorem RM.call {PS:PL} {q:Nat} {t:Bool} {l:Bs} {m:Nat} {PS1 PS2:PL} {row:List HV} {a a':Nat} (h:RM PS q t l m PS1 row a) (hx:Ext [q] PS1 PS2) (hq:zA PS2 q=rdP t l a'):RM PS q t l m PS2 row a':=
 ⟨h.ext.since hx (by simp),hq,hx.get h.res (by have:=h.hi;simp;omega),hx.get h.at_ (by have:=h.lo;have:=h.hi;simp;omega),h.lo,h.hi⟩
theorem RM.put {PS:PL} {q:Nat} {t:Bool} {l:Bs} {m:Nat} {PS1:PL} {row:List HV} {a:Nat} (h:RM PS q t l m PS1 row a) (row':List HV):RM PS q t l m (PS1.set m (.arr 0 29 [row'] false)) row' a:=
 ⟨h.ext.since (Ext.set PS1 m _) (by have:=h.lo;intro x hx;simp at hx;subst hx;right;omega),(zO _ (by have:=h.lo;have:=h.hi;omega)).trans h.rd,(zO _ (by have:=h.lo;omega)).trans h.res,zk _ h.at_,h.lo,h.hi⟩
theorem RM.Yw {PS:PL} {q:Nat} {t:Bool} {l:Bs} {m:Nat} {PS1:PL} {row:List HV} {a:Nat} (h:RM PS q t l m PS1 row a) (Q:zC):zA (PS1.set m Q) m=Q:=zk Q h.at_
end Go.Mo
namespace Go.Proofs.YtbmibhjjogobhaaGreat
open Go Go.Eng Go.Mo
variable [zB]
set_option maxRecDepth 20000
attribute [local irreducible] hvc zf hop zg yI zb zu yQ
theorem zEI (PS:PL) (q:Nat) (t:Bool) (l:Bs) (a:Nat) (m:Ms) (hl:l.length≤1000) (hq:zA PS q=rdP t l a) (h:yH m<+:l.drop a) (om:yC m) (h1:m.key.length≤8) (h2:m.val.length≤16) (os:m.seq<18446744073709551616) (ob:m.by_<18446744073709551616):
  zI Tryz.prog 176 [.ptr q 0 0 0] PS fun r PS'=>r=.agg (zM m)∧Ext [q] PS PS'∧zA PS' q=rdP t l (a+(yH m).length):=by
 have hlt:=yB hq
 have m1:=om.lo
 have m2:=om.hi
 have m3:=om.val
 have m4:=om.by_
 obtain⟨kind,seq,key,val,by_⟩:=m
 simp only at m1 m2 m3 m4 h1 h2 os ob
 obtain⟨k,rfl⟩:∃k:Nat,kind=k:=⟨kind.toNat,by omega⟩
 have hh:za k 1++(za seq 8++(txt key++(if (k:Int)=1 then txt val else if (k:Int)=3 then za by_ 8 else [])))<+:l.drop a:=h
 have p1:=qQ hh
 have r1:=uC hh
 rw[yd] at r1
 have p2:=qQ r1
 have r2:=uC r1
 rw[yd] at r2
 have p3:=qQ r2
 have r3:=uC r2
 rw[yl] at r3
 refine zPy (by unfold Tryz.f176;exact rfl) ?_
 have hzt:HV.int .i64 0::(List.replicate 8 (HV.int .u8 0)++[HV.int .i64 0]++List.replicate 16 (HV.int .u8 0)++[HV.int .u64 0])=zJ []++(zK []++[HV.int .u64 0]):=rfl
 have ho:∀u v n,qS (zJ u++(zK v++[HV.int .u64 n]))=True:=fun u v n=>eq_true ((qy _).2 (by intro y hy;rcases List.mem_append.1 hy with hy | hy;exact gX _ y hy;rcases List.mem_append.1 hy with hy | hy;exact kU _ y hy;simp at hy;subst hy;rfl))
 have ht:∀u v n,List.take 27 (zJ u++(zK v++[HV.int .u64 n]))=zJ u++(zK v++[HV.int .u64 n]):=fun u v n=>List.take_of_length_le (by simp[zh,yD])
 have hd:∀u v n,List.drop 27 (zJ u++(zK v++[HV.int .u64 n]))=[]:=fun u v n=>List.drop_of_length_le (by simp[zh,yD])
 simp only[go_sem,seval, -List.reduceReplicate,hzt]
 have hrP:=zt PS (zC.arr 0 29 [HV.int .i64 0::HV.int .u64 0::(zJ []++(zK []++[HV.int .u64 0]))] false)
 have hP:=Ext.app PS [zC.arr 0 29 [HV.int .i64 0::HV.int .u64 0::(zJ []++(zK []++[HV.int .u64 0]))] false]
 have hqP:=zx [zC.arr 0 29 [HV.int .i64 0::HV.int .u64 0::(zJ []++(zK []++[HV.int .u64 0]))] false] hq
 generalize PS++[zC.arr 0 29 [HV.int .i64 0::HV.int .u64 0::(zJ []++(zK []++[HV.int .u64 0]))] false]=PSa at hrP hP hqP ⊢
 refine zG ((ZX PSa q t l a 1 k hl hqP p1 (by omega) (by omega) (by omega)).mono ?_)
 rintro _ PS1 ⟨rfl,hE⟩
 have hqA:zA PS1 q=rdP t l (a+1):=by rw[hE];exact zk _ hqP
 have hxA:Ext [q] PS PS1:=by rw[hE];exact(hP.mono (T:=[q]) (by simp)).since (Ext.set _ q _) (by simp)
 have hrA:=(zO (rdP t l (a+1)) (by omega:q≠PS.length)).trans hrP
 rw[←hE] at hrA
 clear hE hrP hP hqP
 have hlA:=yB hrA
 have hz:∀Q Q',(PS1++[Q]).set PS1.length Q'=PS1++[Q']:=fun Q Q'=>by simp
 have hgl:∀Q,zA (PS1++[Q]) PS1.length=Q:=fun Q=>zt _ _
 simp only[go_sem,seval, -List.reduceReplicate,hzt,hz,hgl,ho,ht,hd,List.append_nil,List.length_append,zh,yD]
 have hM:RM PS q t l PS1.length (PS1++[zC.arr 0 29 [wX k 0 [] [] 0] false]) (wX k 0 [] [] 0) (a+1):=
  ⟨hxA.since (Ext.app PS1 _) (by simp),zx _ hqA,zx _ hrA,zt _ _,hlA,hlt⟩
 refine⟨by omega,zG ?_⟩
 change zI _ _ _ (PS1++[zC.arr 0 29 [wX k 0 [] [] 0] false]) _
 obtain⟨mm,hmm⟩:∃mm,mm=PS1.length:=⟨_,rfl⟩
 rw[←hmm] at hM ⊢
 generalize PS1++[zC.arr 0 29 [wX k 0 [] [] 0] false]=PSb at hM ⊢
 clear hxA hqA hrA hlA hz hgl hmm
 refine(ZX PSb q t l (a+1) 8 seq hl hM.rd p2 (by omega) (by omega) (by omega)).mono ?_
 rintro _ PS2 ⟨rfl,hE⟩
 replace hM:=hM.call (hE▸Ext.set PSb q (rdP t l (a+1+8))) (by rw[hE];exact zk _ hM.rd)
 clear hE
 have hy:=hM.Yw
 have hg:=hM.at_
 rw[wX] at hg
 simp only[go_sem,seval, -List.reduceReplicate,hg,hy,ho,ht,hd,List.append_nil,List.length_append,zh,yD]
 refine zG ?_
 replace hM:=hM.put (wX k seq [] [] 0)
 change zI _ _ _ (PS2.set mm (zC.arr 0 29 [wX k seq [] [] 0] false)) _
 generalize PS2.set mm (zC.arr 0 29 [wX k seq [] [] 0] false)=PSc at hM ⊢
 clear hy hg
 refine(Xl PSc q t l (a+1+8) key hl hM.rd p3 h1).mono ?_
 rintro _ PS3 ⟨rfl,hx3,hq3⟩
 replace hM:=hM.call hx3 hq3
 clear hx3 hq3
 have hy:=hM.Yw
 have hg:=hM.at_
 have hdk:List.drop 9 (zJ []++(zK []++[HV.int .u64 0]))=zK []++[HV.int .u64 0]:=List.drop_left' (zh _)
 have hc3:a+1+8+1+key.length=a+1+8+(key.length+1):=by omega
 rw[←hc3] at r3
 rw[wX] at hg
 have hkk:k=1∨k=2∨k=3:=by omega
 rcases hkk with rfl | rfl | rfl
 ·obtain rfl:=m4 (by omega)
  simp only[go_sem,seval, -List.reduceReplicate,hg,hy,hdk,ho,ht,hd,List.append_nil,List.length_append,zh,yD]
  refine zG ?_
  replace hM:=hM.put (wX 1 seq key [] 0)
  change zI _ _ _ (PS3.set mm (zC.arr 0 29 [wX 1 seq key [] 0] false)) _
  generalize PS3.set mm (zC.arr 0 29 [wX 1 seq key [] 0] false)=PSd at hM ⊢
  clear hy hg
  refine(zAL PSd q t l _ val hl hM.rd r3 h2).mono ?_
  rintro _ PS4 ⟨rfl,hx4,hq4⟩
  replace hM:=hM.call hx4 hq4
  clear hx4 hq4
  have hy:=hM.Yw
  have hg:=hM.at_
  have hsp:zP 9 (zK val) (zJ key++(zK []++[HV.int .u64 0]))=zJ key++(zK val++[HV.int .u64 0]):=by
   rw[zP,List.take_left' (zh _),yD,←List.drop_drop,List.drop_left' (zh _),List.drop_left' (yD _)]
  rw[wX] at hg
  have hr7:∀Q,zA (PS4.set mm Q) PS.length=zC.arr 0 29 [HV.int .i64 0::HV.int .u64 0::(zJ []++(zK []++[HV.int .u64 0]))] false:=fun Q=>(zO Q (by have:=hM.lo;omega)).trans hM.res
  have hr8:∀Q Q',zA ((PS4.set mm Q).set PS.length Q') PS.length=Q':=fun Q Q'=>zk Q' (hr7 Q)
  have hq8:∀Q Q',zA ((PS4.set mm Q).set PS.length Q') q=rdP t l _:=fun Q Q'=>(zO _ (by omega)).trans ((zO _ (by have:=hM.lo;omega)).trans hM.rd)
  have hx8:∀Q Q',Ext [q] PS ((PS4.set mm Q).set PS.length Q'):=fun Q Q'=>(hM.ext.since (Ext.set PS4 mm Q) (by have:=hM.lo;intro x hx;simp at hx;subst hx;right;omega)).since (Ext.set _ PS.length Q') (by simp)
  simp only[go_sem,seval, -List.reduceReplicate,hg,hy,hsp,hr7,hr8,ho,ht,hd,List.append_nil,List.length_append,zh,yD]
  have hlen:a+(yH {kind:=1,seq:=seq,key:=key,val:=val,by_:=0}).length=a+1+8+1+key.length+1+val.length:=by simp[yH,yd,yl];omega
  exact⟨rfl,hx8 _ _,by rw[hlen];exact hq8 _ _⟩
 ·obtain rfl:=m3 (by omega)
  obtain rfl:=m4 (by omega)
  have hr7:∀Q,zA (PS3.set mm Q) PS.length=zC.arr 0 29 [HV.int .i64 0::HV.int .u64 0::(zJ []++(zK []++[HV.int .u64 0]))] false:=fun Q=>(zO Q (by have:=hM.lo;omega)).trans hM.res
  have hr8:∀Q Q',zA ((PS3.set mm Q).set PS.length Q') PS.length=Q':=fun Q Q'=>zk Q' (hr7 Q)
  have hq8:∀Q Q',zA ((PS3.set mm Q).set PS.length Q') q=rdP t l _:=fun Q Q'=>(zO _ (by omega)).trans ((zO _ (by have:=hM.lo;omega)).trans hM.rd)
  have hx8:∀Q Q',Ext [q] PS ((PS3.set mm Q).set PS.length Q'):=fun Q Q'=>(hM.ext.since (Ext.set PS3 mm Q) (by have:=hM.lo;intro x hx;simp at hx;subst hx;right;omega)).since (Ext.set _ PS.length Q') (by simp)
  simp only[go_sem,seval, -List.reduceReplicate,hg,hy,hdk,hr7,hr8,ho,ht,hd,List.append_nil,List.length_append,zh,yD]
  have hlen:a+(yH {kind:=2,seq:=seq,key:=key,val:=[],by_:=0}).length=a+1+8+1+key.length:=by simp[yH,yd,yl];omega
  exact⟨rfl,hx8 _ _,by rw[hlen];exact hq8 _ _⟩
 ·obtain rfl:=m3 (by omega)
  simp only[go_sem,seval, -List.reduceReplicate,hg,hy,hdk,ho,ht,hd,List.append_nil,List.length_append,zh,yD]
  refine zG ?_
  replace hM:=hM.put (wX 3 seq key [] 0)
  change zI _ _ _ (PS3.set mm (zC.arr 0 29 [wX 3 seq key [] 0] false)) _
  generalize PS3.set mm (zC.arr 0 29 [wX 3 seq key [] 0] false)=PSd at hM ⊢
  clear hy hg
  refine(ZX PSd q t l _ 8 by_ hl hM.rd r3 (by omega) (by omega) (by omega)).mono ?_
  rintro _ PS4 ⟨rfl,hE⟩
  replace hM:=hM.call (hE▸Ext.set PSd q (rdP t l (a+1+8+1+key.length+8))) (by rw[hE];exact zk _ hM.rd)
  clear hE
  have hy:=hM.Yw
  have hg:=hM.at_
  rw[wX] at hg
  have hsp:zP 26 [HV.int .u64 by_] (zJ key++(zK []++[HV.int .u64 0]))=zJ key++(zK []++[HV.int .u64 by_]):=by
   have h26:(zJ key++zK []).length=26:=by rw[List.length_append,zh,yD]
   rw[zP,show zJ key++(zK []++[HV.int .u64 0])=(zJ key++zK [])++[HV.int .u64 0] from (List.append_assoc ..).symm,List.take_left' h26,List.drop_of_length_le (by rw[List.length_append,h26];exact Nat.le_refl _),List.append_nil,List.append_assoc]
  have hr7:∀Q,zA (PS4.set mm Q) PS.length=zC.arr 0 29 [HV.int .i64 0::HV.int .u64 0::(zJ []++(zK []++[HV.int .u64 0]))] false:=fun Q=>(zO Q (by have:=hM.lo;omega)).trans hM.res
  have hr8:∀Q Q',zA ((PS4.set mm Q).set PS.length Q') PS.length=Q':=fun Q Q'=>zk Q' (hr7 Q)
  have hq8:∀Q Q',zA ((PS4.set mm Q).set PS.length Q') q=rdP t l _:=fun Q Q'=>(zO _ (by omega)).trans ((zO _ (by have:=hM.lo;omega)).trans hM.rd)
  have hx8:∀Q Q',Ext [q] PS ((PS4.set mm Q).set PS.length Q'):=fun Q Q'=>(hM.ext.since (Ext.set PS4 mm Q) (by have:=hM.lo;intro x hx;simp at hx;subst hx;right;omega)).since (Ext.set _ PS.length Q') (by simp)
  simp only[go_sem,seval, -List.reduceReplicate,hg,hy,hsp,hr7,hr8,ho,ht,hd,List.append_nil,List.length_append,zh,yD]
  have hlen:a+(yH {kind:=3,seq:=seq,key:=key,val:=[],by_:=by_}).length=a+1+8+1+key.length+8:=by simp[yH,yd,yl];omega
  exact⟨rfl,hx8 _ _,by rw[hlen];exact hq8 _ _⟩
end Go.Proofs.YtbmibhjjogobhaaGreat
namespace Go.Mo
open Go Go.Eng
variable [zB]
theorem LAt.dead {B PS:PL} {sz sz' p ver:Nat} {x:HV} {R R':List (List HV)} (h:LAt B sz PS x R) (hg:zA PS p=.arr ver sz' R' true) (hs:sz≠sz'):LAt B sz (PS.set p .dead) x R:=by
 rcases h with h | ⟨hn,q,v,hx,hb,hq⟩
 ·exact .inl h
 ·refine .inr ⟨hn,q,v,hx,hb,(zO _ ?_).trans hq⟩
  rintro rfl
  rw[hg] at hq
  injection hq with _ h2
  exact hs h2.symm
theorem zI.UB {P:Program} {f:FuncId} {args:List HV} {PS:PL} {sz:Nat} {R:List (List HV)} {K:(HV→HV)→PL→Prop}
  (hk:∀F PS' p ver,PS.length≤p→zA PS' p=.arr ver sz R true→K F PS'→K F (PS'.set p .dead))
  (h:zI P f args PS fun r PS'=>∃x F,r=F x∧(∀p ver,qG p ver R (F (.sl p ver 0 R.length none)) (F (.imm false R)))∧LAt PS sz PS' x R∧K F PS'):
  zI P f args PS fun r PS'=>∃F,r=F (.imm (decide (R=[])) R)∧K F PS':=by
 by_cases hR:R=[]
 ·refine h.mono ?_
  rintro r PS' ⟨x,F,h0,_,h1,h3⟩
  rcases h1 with ⟨_,rfl⟩ | ⟨hn,_⟩
  ·exact⟨F,by rw[h0];simp[hR],h3⟩
  ·exact absurd hR hn
 ·refine zI.frz (h.mono ?_)
  rintro r PS' ⟨x,F,h0,hF,h1,h3⟩
  rcases h1 with ⟨hn,_⟩ | ⟨_,p,ver,rfl,hp,hg⟩
  ·exact absurd hn hR
  ·rw[h0]
   exact⟨p,ver,sz,R,true,_,_,hg,hF p ver,wD.only (yB hg),F,by simp[hR],hk F _ p ver hp hg h3⟩
theorem Wi {p ver:Nat} {R:List (List HV)} {a b c d e a' b' c' d' e':HV} (h1:qG p ver R a a') (h2:qG p ver R b b') (h3:qG p ver R c c') (h4:qG p ver R d d') (h5:qG p ver R e e'):qG p ver R (.agg [a,b,c,d,e]) (.agg [a',b',c',d',e']):=by
 refine .agg _ _ rfl fun i x y hx hy=>?_
 match i with
 | 0=>cases hx;cases hy;exact h1
 | 1=>cases hx;cases hy;exact h2
 | 2=>cases hx;cases hy;exact h3
 | 3=>cases hx;cases hy;exact h4
 | 4=>cases hx;cases hy;exact h5
 | i+5=>simp at hx
theorem UW {p ver:Nat} {R:List (List HV)}:qG p ver R (.sl p ver 0 R.length none) (.imm false R):=by
 have:=qG.sl (n:=p) (ver:=ver) (E:=R) 0 R.length none (by omega)
 simpa using this
theorem zMi {P:Program} {f:FuncId} {args:List HV} {PS:PL} {b:HV} {E Kd Pv M:List (List HV)}
  (h:zI P f args PS fun r PS'=>∃x1 x2 x3 x4,r=.agg [b,x1,x2,x3,x4]∧LAt PS 26 PS' x1 E∧LAt PS 1 PS' x2 Kd∧LAt PS 9 PS' x3 Pv∧LAt PS 29 PS' x4 M∧Ext [] PS PS'):
  zI P f args PS fun r PS'=>r=.agg [b,.imm (decide (E=[])) E,.imm (decide (Kd=[])) Kd,.imm (decide (Pv=[])) Pv,.imm (decide (M=[])) M]∧Ext [] PS PS':=by
 have hd:∀{PS':PL} {p:Nat},PS.length≤p→Ext [] PS PS'→Ext [] PS (PS'.set p .dead):=fun hp hx=>hx.since (Ext.set _ _ _) (by intro m hm;simp at hm;subst hm;exact .inr hp)
 have h1:=zI.UB (sz:=26) (R:=E) (K:=fun F PS'=>∃x2 x3 x4,(∀x,F x=.agg [b,x,x2,x3,x4])∧LAt PS 1 PS' x2 Kd∧LAt PS 9 PS' x3 Pv∧LAt PS 29 PS' x4 M∧Ext [] PS PS')
  (by rintro F PS' p ver hp hg ⟨x2,x3,x4,hF,k2,k3,k4,kx⟩;exact⟨x2,x3,x4,hF,k2.dead hg (by decide),k3.dead hg (by decide),k4.dead hg (by decide),hd hp kx⟩)
  (h.mono (by rintro r PS' ⟨x1,x2,x3,x4,rfl,k1,k2,k3,k4,kx⟩;exact⟨x1,fun x=>.agg [b,x,x2,x3,x4],rfl,fun p ver=>Wi (.same _) UW (.same _) (.same _) (.same _),k1,x2,x3,x4,fun _=>rfl,k2,k3,k4,kx⟩))
 have h2:=zI.UB (sz:=1) (R:=Kd) (K:=fun F PS'=>∃x3 x4,(∀x,F x=.agg [b,.imm (decide (E=[])) E,x,x3,x4])∧LAt PS 9 PS' x3 Pv∧LAt PS 29 PS' x4 M∧Ext [] PS PS')
  (by rintro F PS' p ver hp hg ⟨x3,x4,hF,k3,k4,kx⟩;exact⟨x3,x4,hF,k3.dead hg (by decide),k4.dead hg (by decide),hd hp kx⟩)
  (h1.mono (by rintro r PS' ⟨F,h0,x2,x3,x4,hF,k2,k3,k4,kx⟩;rw[hF] at h0;subst h0;exact⟨x2,fun x=>.agg [b,.imm (decide (E=[])) E,x,x3,x4],rfl,fun p ver=>Wi (.same _) (.same _) UW (.same _) (.same _),k2,x3,x4,fun _=>rfl,k3,k4,kx⟩))
 have h3:=zI.UB (sz:=9) (R:=Pv) (K:=fun F PS'=>∃x4,(∀x,F x=.agg [b,.imm (decide (E=[])) E,.imm (decide (Kd=[])) Kd,x,x4])∧LAt PS 29 PS' x4 M∧Ext [] PS PS')
  (by rintro F PS' p ver hp hg ⟨x4,hF,k4,kx⟩;exact⟨x4,hF,k4.dead hg (by decide),hd hp kx⟩)
  (h2.mono (by rintro r PS' ⟨F,h0,x3,x4,hF,k3,k4,kx⟩;rw[hF] at h0;subst h0;exact⟨x3,fun x=>.agg [b,.imm (decide (E=[])) E,.imm (decide (Kd=[])) Kd,x,x4],rfl,fun p ver=>Wi (.same _) (.same _) (.same _) UW (.same _),k3,x4,fun _=>rfl,k4,kx⟩))
 have h4:=zI.UB (sz:=29) (R:=M) (K:=fun F PS'=>(∀x,F x=.agg [b,.imm (decide (E=[])) E,.imm (decide (Kd=[])) Kd,.imm (decide (Pv=[])) Pv,x])∧Ext [] PS PS')
  (by rintro F PS' p ver hp hg ⟨hF,kx⟩;exact⟨hF,hd hp kx⟩)
  (h3.mono (by rintro r PS' ⟨F,h0,x4,hF,k4,kx⟩;rw[hF] at h0;subst h0;exact⟨x4,fun x=>.agg [b,.imm (decide (E=[])) E,.imm (decide (Kd=[])) Kd,.imm (decide (Pv=[])) Pv,x],rfl,fun p ver=>Wi (.same _) (.same _) (.same _) (.same _) UW,k4,fun _=>rfl,kx⟩))
 exact h4.mono (by rintro r PS' ⟨F,h0,hF,kx⟩;rw[hF] at h0;exact⟨h0,kx⟩)
end Go.Mo
namespace Go.Mo
open Go Go.Eng
variable [zB]
/-- A node being read:the result's piece,the reader,the node's piece. -/
structure RN (PS:PL) (t:Bool) (l:Bs) (PS':PL) (row:List HV) (a:Nat):Prop where
 ext:Ext [] PS PS'
 rd:zA PS' (PS.length+1)=rdP t l a
 res:zA PS' PS.length=.arr 0 5 [[.bool false,.imm true [],.imm true [],.imm true [],.imm true []]] false
 at_:zA PS' (PS.length+2)=.arr 0 5 [row] false
theorem RN.call {PS:PL} {t:Bool} {l:Bs} {PS1 PS2:PL} {row:List HV} {a a':Nat} (h:RN PS t l PS1 row a) (hx:Ext [PS.length+1] PS1 PS2) (hq:zA PS2 (PS.length+1)=rdP t l a'):RN PS t l PS2 row a':=
 ⟨h.ext.since hx (by simp),hq,hx.get h.res (by simp),hx.get h.at_ (by simp)⟩
theorem RN.put {PS:PL} {t:Bool} {l:Bs} {PS1:PL} {row:List HV} {a:Nat} (h:RN PS t l PS1 row a) (row':List HV):RN PS t l (PS1.set (PS.length+2) (.arr 0 5 [row'] false)) row' a:=
 ⟨h.ext.since (Ext.set PS1 _ _) (by simp),(zO _ (by omega)).trans h.rd,(zO _ (by omega)).trans h.res,zk _ h.at_⟩
theorem RN.app {PS:PL} {t:Bool} {l:Bs} {PS1:PL} {row:List HV} {a:Nat} (h:RN PS t l PS1 row a) (L:PL):RN PS t l (PS1++L) row a:=
 ⟨h.ext.trans (Ext.app _ _),zx _ h.rd,zx _ h.res,zx _ h.at_⟩
theorem RN.set {PS:PL} {t:Bool} {l:Bs} {PS1:PL} {row:List HV} {a:Nat} (h:RN PS t l PS1 row a) (p:Nat) (Q:zC) (hp:PS.length+2<p):RN PS t l (PS1.set p Q) row a:=
 ⟨h.ext.since (Ext.set PS1 p Q) (by intro x hx;simp at hx;subst hx;right;omega),(zO _ (by omega)).trans h.rd,(zO _ (by omega)).trans h.res,(zO _ (by omega)).trans h.at_⟩
theorem LAt.out {B B' PS1:PL} {sz m:Nat} {x:HV} {R:List (List HV)} (h:LAt B sz PS1 x R) (Q:zC) (hm:m<B.length) (hb:B'.length≤B.length):LAt B' sz (PS1.set m Q) x R:=
 h.imp id fun⟨hn,p,v,hx,hp,hg⟩=>⟨hn,p,v,hx,by omega,(zO _ (by omega)).trans hg⟩
theorem LAt.call {B PS1 PS2:PL} {sz m:Nat} {x:HV} {R:List (List HV)} (h:LAt B sz PS1 x R) (hx:Ext [m] PS1 PS2) (hm:m<B.length):LAt B sz PS2 x R:=
 h.imp id fun⟨hn,p,v,h1,hp,hg⟩=>⟨hn,p,v,h1,hp,hx.get hg (by simp;omega)⟩
theorem LAt.app {B PS1:PL} {sz:Nat} {x:HV} {R:List (List HV)} (h:LAt B sz PS1 x R) (L:PL):LAt B sz (PS1++L) x R:=
 h.imp id fun⟨hn,p,v,hx,hp,hg⟩=>⟨hn,p,v,hx,hp,zx _ hg⟩
theorem LAt.other {B PS:PL} {sz sz' p ver:Nat} {x:HV} {R R':List (List HV)} (h:LAt B sz PS x R) (Q:zC) (hg:zA PS p=.arr ver sz' R' true) (hs:sz≠sz'):LAt B sz (PS.set p Q) x R:=by
 rcases h with h | ⟨hn,q,v,hx,hb,hq⟩
 ·exact .inl h
 ·refine .inr ⟨hn,q,v,hx,hb,(zO _ ?_).trans hq⟩
  rintro rfl
  rw[hg] at hq
  injection hq with _ h2
  exact hs h2.symm
theorem LAt.get {B PS:PL} {sz p v n:Nat} {R:List (List HV)} (h:LAt B sz PS (.sl p v 0 n none) R):zA PS p=.arr v sz R true∧B.length≤p:=by
 rcases h with ⟨_,h⟩ | ⟨_,q,w,hx,hb,hq⟩
 ·cases h
 ·cases hx;exact⟨hq,hb⟩
theorem LAt.one {B PS:PL} {sz:Nat} {x:HV} {R:List (List HV)} (h:LAt B sz PS x R):HV.one x=true:=by
 rcases h with ⟨_,rfl⟩ | ⟨_,p,ver,rfl,_⟩<;>rfl
theorem LAt.new {B PS3:PL} {sz m:Nat} (r:List HV) (Q:zC) (hb:B.length≤PS3.length) (hm:m<PS3.length):LAt B sz ((PS3++[zC.arr 0 sz [r] true]).set m Q) (.sl PS3.length 0 0 1 none) [r]:=
 .inr ⟨by simp,PS3.length,0,rfl,hb,(zO _ (by omega)).trans (zt _ _)⟩
theorem LAt.grow {B PS3:PL} {sz m p ver ver':Nat} {E:List (List HV)} (r:List HV) (Q:zC) (hg:zA PS3 p=.arr ver sz E true) (hb:B.length≤p) (hm:m≠p):LAt B sz ((PS3.set p (.arr ver' sz (E++[r]) true)).set m Q) (.sl p ver' 0 (E.length+1) none) (E++[r]):=
 .inr ⟨by simp,p,ver',by simp,hb,(zO _ hm).trans (zk _ hg)⟩
end Go.Mo
namespace Go.Proofs.YtbmibhjjogobhaaGreat
open Go Go.Eng Go.Mo
variable [zB]
set_option maxRecDepth 20000
attribute [local irreducible] hvc zf hop zg yI zb zu yQ
theorem zEt:List.drop 8 (List.replicate 8 (HV.int .u8 0)++[HV.int .i64 0]++List.replicate 16 (HV.int .u8 0))=HV.int .i64 0::List.replicate 16 (HV.int .u8 0):=_root_.id rfl
theorem zEM (e:Bs×Bs):zP 9 (zK e.2) (zJ e.1++HV.int .i64 0::List.replicate 16 (HV.int .u8 0))=zR e:=by
 rw[zP,List.take_left' (zh _),yD,List.drop_of_length_le (by simp[zh]),List.append_nil];rfl
theorem zNa (t:Bool) (n:Nd) (ok:okN n) (hf:yf n):∃u,Pure Tryz.prog 103 [.imm t (zD (zN n))] (.agg (ze u n)):=by
 refine⟨⟨decide (n.ents.map zR=[]),decide (n.kids.map zY=[]),decide (n.pivs.map zJ=[]),decide (n.msgs.map zM=[])⟩,?_⟩
 refine Pure.zp (QT _ _) fun PS=>?_
 have hl:=kN ok hf
 have hlr:(zD (zN n)).length=256:=by rw[zo,hl]
 have hbl:=xW ok hf
 simp only[yM,List.length_append] at hbl
 have g1:=ZT qF n.ents (fun e=>by simp[qF,yl];omega)
 have g2:=ZT qN n.kids (fun e=>by simp[qN,yd])
 have g4:=ZT yH n.msgs (fun e=>by simp[yH])
 change _≤(yP n.ents).length at g1
 change _≤(yO n.kids).length at g2
 change _≤(yt n.msgs).length at g4
 have hbd:yM n<+:(zN n).drop 8:=⟨List.replicate (248 - (yM n).length) 0,by
  rw[zN,List.append_assoc _ (yM n),List.drop_left' (by rw[List.length_append,uE,yd])]⟩
 have hb2:(zD (zN n))[2]? =some [.int .u8 (n.msgs.length:Nat)]:=by
  have:(UInt8.ofNat n.msgs.length).toNat=n.msgs.length:=by simp;omega
  rw[←this];rfl
 have hne:¬zD (zN n)=[]:=by intro h;rw[h] at hlr;simp at hlr
 obtain⟨f1,f2,f3,f4⟩:=ok.few
 refine zMi (b:=.bool n.leaf) (E:=n.ents.map zR) (Kd:=n.kids.map zY) (Pv:=n.pivs.map zJ) (M:=n.msgs.map zM) ?_
 refine zGe (by unfold Tryz.f103;exact rfl) ?_
 by_cases hlf:n.leaf=true
 ·have hb0:(zD (zN n))[0]? =some [.int .u8 1]:=by simp[zN,yG,hlf,zD]
  have hb1:(zD (zN n))[1]? =some [.int .u8 (n.ents.length:Nat)]:=by
   have h:(UInt8.ofNat n.ents.length).toNat=n.ents.length:=by simp;omega
   rw[←h];simp[zN,yG,hlf,zD]
  obtain⟨hnk,hnp,hnm⟩:n.kids=[]∧n.pivs=[]∧n.msgs=[]:=by
   have:=hf.1
   unfold yh at this
   rw[if_pos hlf] at this
   exact this.2
  simp only[go_sem,seval, -List.reduceReplicate,hlr,hb0,hb1,hb2]
  have hR:RN PS t (zN n) (PS++[zC.arr 0 5 [[HV.bool false,HV.imm true [],HV.imm true [],HV.imm true [],HV.imm true []]] false,zC.arr 0 3 [[HV.imm t (zD (zN n)),HV.int .i64 8,HV.bool false]] false,zC.arr 0 5 [[HV.bool true,HV.imm true [],HV.imm true [],HV.imm true [],HV.imm true []]] false]) [HV.bool true,HV.imm true [],HV.imm true [],HV.imm true [],HV.imm true []] 8:=
   ⟨Ext.app _ _,by simp[zA,rdP,List.getElem?_append_right],by simp[zA],by simp[zA,List.getElem?_append_right]⟩
  have hpl:PS.length+3≤(PS++[zC.arr 0 5 [[HV.bool false,HV.imm true [],HV.imm true [],HV.imm true [],HV.imm true []]] false,zC.arr 0 3 [[HV.imm t (zD (zN n)),HV.int .i64 8,HV.bool false]] false,zC.arr 0 5 [[HV.bool true,HV.imm true [],HV.imm true [],HV.imm true [],HV.imm true []]] false]).length:=by simp
  generalize (PS++[zC.arr 0 5 [[HV.bool false,HV.imm true [],HV.imm true [],HV.imm true [],HV.imm true []]] false,zC.arr 0 3 [[HV.imm t (zD (zN n)),HV.int .i64 8,HV.bool false]] false,zC.arr 0 5 [[HV.bool true,HV.imm true [],HV.imm true [],HV.imm true [],HV.imm true []]] false])=PSa at hR hpl ⊢
  have hpe:(n.ents.map qF).flatten<+:(zN n).drop 8:=qQ (qQ (qQ hbd))
  refine zG (zq (α:=Nat×HV) [false,false,false,false,false,false,false,false,false,false,false,false,false,false,false,false,true,true,true,true,true,true,true,true,true,true,true,true,true,true,true,true,true,true,true,true,true,true,true,true,true,true,true,true,true,true,true,true,true,true,true] (fun b=>[(5,.int .i64 b.1)]) (fun b=>n.ents.length - b.1) (fun b PS'=>b.1≤n.ents.length∧RN PS t (zN n) PS' [.bool true,b.2,.imm true [],.imm true [],.imm true []] (8+((n.ents.take b.1).map qF).flatten.length)∧LAt PSa 26 PS' b.2 ((n.ents.take b.1).map zR)∧PSa.length≤PS'.length) (0,.imm true []) ⟨Nat.zero_le _,hR,.inl ⟨rfl,rfl⟩,Nat.le_refl _⟩ ?_ ?_)
  ·simp only[go_sem,seval, -List.reduceReplicate,Int.natCast_zero]
  rintro⟨i,x⟩ PS1 ⟨hi,h,hx,hbs⟩
  simp only at hi h hx hbs
  by_cases hlt:i<n.ents.length
  ·have hp:=kZ _ n.ents hpe i hlt
   have hfs:=kg qF n.ents i hlt
   have hrs:(n.ents.take (i+1)).map zR=(n.ents.take i).map zR++[zR n.ents[i]]:=by rw[List.take_succ_eq_append_getElem hlt,List.map_append];rfl
   have hrl:((n.ents.take i).map zR).length=i:=by simp;omega
   have oe:=ok.ents _ (List.getElem_mem hlt)
   have hp2:=uC (x:=txt n.ents[i].1) (y:=txt n.ents[i].2) hp
   have hen:=zFF n.ents[i]
   rcases hx with ⟨hn,rfl⟩ | ⟨_,p,ver,rfl,hpp,hg⟩
   ·have hi0:i=0:=by rw[hn] at hrl;exact hrl.symm
    have ha:=h.at_
    have hr:=h.rd
    rw[rdP] at hr
    simp only[go_sem,seval, -List.reduceReplicate,hlr,hb1,hlt,hr,ha]
    refine⟨by omega,zG ((Xl PS1 (PS.length+1) t (zN n) _ n.ents[i].1 (by omega) h.rd (qQ (y:=txt n.ents[i].2) hp) oe.1).mono ?_)⟩
    rintro _ PS2 ⟨rfl,hx2,hq2⟩
    replace h:=h.call hx2 hq2
    have ha2:=h.at_
    simp only[go_sem,seval, -List.reduceReplicate,ha2]
    rw[yl,show ∀z:Nat,z+(n.ents[i].1.length+1)=z+1+n.ents[i].1.length by intro z;omega] at hp2
    refine zG ((zAL PS2 (PS.length+1) t (zN n) _ n.ents[i].2 (by omega) h.rd hp2 oe.2).mono ?_)
    rintro _ PS3 ⟨rfl,hx3,hq3⟩
    replace h:=h.call hx3 hq3
    have hb3:=hx2.1
    have hb4:=hx3.1
    have ha:=h.at_
    have hal:=yB ha
    have hadr:8+((n.ents.take (i+1)).map qF).flatten.length=8+((n.ents.take i).map qF).flatten.length+1+n.ents[i].1.length+1+n.ents[i].2.length:=by rw[hfs,List.length_append,hen,yw];omega
    have hgl:∀Q,zA (PS3++[Q]) (PS.length+2)=_:=fun Q=>zx _ ha
    simp only[go_sem,seval, -List.reduceReplicate,ha,hgl,zEt,zEM,yi]
    refine⟨by simp[yi],by simp,by omega,(i+1,.sl PS3.length 0 0 1 none),by simp only;omega,⟨by simp only;omega,?_,?_,?_⟩,rfl⟩
    ·simp only;rw[hadr];exact(h.app _).put _
    ·simp only;rw[hrs,hn];exact LAt.new _ _ (by omega) (by omega)
    ·simp;omega
   ·have ha:=h.at_
    have hr:=h.rd
    rw[rdP] at hr
    simp only[go_sem,seval, -List.reduceReplicate,hlr,hb1,hlt,hr,ha]
    refine⟨by omega,zG ((Xl PS1 (PS.length+1) t (zN n) _ n.ents[i].1 (by omega) h.rd (qQ (y:=txt n.ents[i].2) hp) oe.1).mono ?_)⟩
    rintro _ PS2 ⟨rfl,hx2,hq2⟩
    replace h:=h.call hx2 hq2
    have ha2:=h.at_
    simp only[go_sem,seval, -List.reduceReplicate,ha2]
    rw[yl,show ∀z:Nat,z+(n.ents[i].1.length+1)=z+1+n.ents[i].1.length by intro z;omega] at hp2
    refine zG ((zAL PS2 (PS.length+1) t (zN n) _ n.ents[i].2 (by omega) h.rd hp2 oe.2).mono ?_)
    rintro _ PS3 ⟨rfl,hx3,hq3⟩
    replace h:=h.call hx3 hq3
    have hb3:=hx2.1
    have hb4:=hx3.1
    have ha:=h.at_
    have hal:=yB ha
    have hadr:8+((n.ents.take (i+1)).map qF).flatten.length=8+((n.ents.take i).map qF).flatten.length+1+n.ents[i].1.length+1+n.ents[i].2.length:=by rw[hfs,List.length_append,hen,yw];omega
    have hg2:=hx3.get (hx2.get hg (by simp;omega)) (by simp;omega)
    have hgl:∀Q,zA (PS3.set p Q) (PS.length+2)=_:=fun Q=>(zO Q (by omega)).trans ha
    have htl:(n.ents.take i).length=i:=by rw[List.length_take];omega
    simp only[go_sem,seval, -List.reduceReplicate,ha,hg2,hgl,zEt,zEM,yi,htl]
    refine⟨by simp[yi],.inl ⟨by omega,by omega,(i+1,.sl p (ver+1) 0 (i+1) none),by simp only;omega,⟨by simp only;omega,?_,?_,?_⟩,rfl⟩⟩
    ·simp only;rw[hadr];exact(h.set p _ (by omega)).put _
    ·simp only;rw[hrs];have:=LAt.grow (m:=PS.length+2) (ver':=ver+1) (zR n.ents[i]) (.arr 0 5 [[HV.bool true,HV.sl p (ver+1) 0 (i+1) none,HV.imm true [],HV.imm true [],HV.imm true []]] false) hg2 hpp (by omega);rwa [hrl] at this
    ·simp;omega
  have hi:i=n.ents.length:=by omega
  subst hi
  rw[List.take_length] at h hx
  have hr:=h.rd
  have ha:=h.at_
  rw[rdP] at hr
  have yE:=hx.one
  simp only[go_sem,seval, -List.reduceReplicate,hlr,hb1,hlt,hr,ha]
  refine⟨by omega,zG (zq (α:=Nat) [false,false,false,false,false,false,false,false,false,false,false,false,false,false,false,false,false,false,false,false,false,false,false,false,false,false,false,false,false,false,false,false,false,false,false,false,false,false,false,false,false,false,false,false,false,false,false,false,false,false,false,true,true,true,true,true,true,true,true,true,true,true,true,true,true,true,true,true,true,true,true,true,true] (fun i=>[(6,.int .i64 i)]) (fun _=>0) (fun i PS'=>i=0∧PS'=PS1) 0 ⟨rfl,rfl⟩ ?_ ?_)⟩
  ·simp only[go_sem,seval, -List.reduceReplicate,Int.natCast_zero]
  rintro i PS1 ⟨rfl,rfl⟩
  simp only[go_sem,seval, -List.reduceReplicate,hlr,hr,ha,yE]
  intro _
  refine zG (zq (α:=Nat) [false,false,false,false,false,false,false,false,false,false,false,false,false,false,false,false,false,false,false,false,false,false,false,false,false,false,false,false,false,false,false,false,false,false,false,false,false,false,false,false,false,false,false,false,false,false,false,false,false,false,false,false,false,false,false,false,false,false,false,false,false,false,false,false,false,false,false,false,false,false,false,false,false,true,true,true,true,true,true,true,true,true,true,true,true,true,true,true,true,true,true,true,true,true,true] (fun i=>[(7,.int .i64 i)]) (fun _=>0) (fun i PS'=>i=0∧PS'=PS1) 0 ⟨rfl,rfl⟩ ?_ ?_)
  ·simp only[go_sem,seval, -List.reduceReplicate,Int.natCast_zero]
  rintro i PS1 ⟨rfl,rfl⟩
  rw[hnm] at hb2
  have uX:=h.res
  have hy:∀Q,zA (PS1.set PS.length Q) PS.length=Q:=fun Q=>zk Q uX
  simp only[go_sem,seval, -List.reduceReplicate,hlr,hb2,hr,ha,yE,uX,hy,List.length_nil]
  exact⟨x,_,_,_,by rw[hlf],hx.out _ (by omega) (by omega),.inl ⟨by rw[hnk];rfl,rfl⟩,.inl ⟨by rw[hnp];rfl,rfl⟩,.inl ⟨by rw[hnm];rfl,rfl⟩,h.ext.since (Ext.set _ PS.length _) (by simp)⟩
 ·have hlf':n.leaf=false:=by simpa using hlf
  have hb0:(zD (zN n))[0]? =some [.int .u8 2]:=by simp[zN,yG,hlf',zD]
  have hb1:(zD (zN n))[1]? =some [.int .u8 (n.kids.length:Nat)]:=by
   have h:(UInt8.ofNat n.kids.length).toNat=n.kids.length:=by simp;omega
   rw[←h];simp[zN,yG,hlf',zD]
  obtain⟨hen,hki,hmi⟩:n.ents=[]∧yz n.kids n.pivs∧qh n.msgs:=by
   have:=hf.1
   unfold yh at this
   rw[if_neg hlf] at this
   exact this
  have hkl:=hki.len
  have hkpos:∀y∈n.kids,1≤y∧y<256:=fun y hy=>by
   obtain⟨i,hi⟩:=List.mem_iff_getElem?.1 hy
   exact VA hf hi
  have hpe:(n.kids.map qN).flatten<+:(zN n).drop 8:=by
   have:=qQ (qQ hbd)
   rw[hen] at this
   simpa [yP,yO] using this
  simp only[go_sem,seval, -List.reduceReplicate,hlr,hb0,hb1,hb2]
  have hR:RN PS t (zN n) (PS++[zC.arr 0 5 [[HV.bool false,HV.imm true [],HV.imm true [],HV.imm true [],HV.imm true []]] false,zC.arr 0 3 [[HV.imm t (zD (zN n)),HV.int .i64 8,HV.bool false]] false,zC.arr 0 5 [[HV.bool false,HV.imm true [],HV.imm true [],HV.imm true [],HV.imm true []]] false]) [HV.bool false,HV.imm true [],HV.imm true [],HV.imm true [],HV.imm true []] 8:=
   ⟨Ext.app _ _,by simp[zA,rdP,List.getElem?_append_right],by simp[zA],by simp[zA,List.getElem?_append_right]⟩
  have hpl:PS.length+3≤(PS++[zC.arr 0 5 [[HV.bool false,HV.imm true [],HV.imm true [],HV.imm true [],HV.imm true []]] false,zC.arr 0 3 [[HV.imm t (zD (zN n)),HV.int .i64 8,HV.bool false]] false,zC.arr 0 5 [[HV.bool false,HV.imm true [],HV.imm true [],HV.imm true [],HV.imm true []]] false]).length:=by simp
  generalize (PS++[zC.arr 0 5 [[HV.bool false,HV.imm true [],HV.imm true [],HV.imm true [],HV.imm true []]] false,zC.arr 0 3 [[HV.imm t (zD (zN n)),HV.int .i64 8,HV.bool false]] false,zC.arr 0 5 [[HV.bool false,HV.imm true [],HV.imm true [],HV.imm true [],HV.imm true []]] false])=PSa at hR hpl ⊢
  refine zG (zq (α:=Nat×HV) [false,false,false,false,false,false,false,false,false,false,false,false,false,false,false,false,true,true,true,true,true,true,true,true,true,true,true,true,true,true,true,true,true,true,true,true,true,true,true,true,true,true,true,true,true,true,true,true,true,true,true] (fun b=>[(5,.int .i64 b.1)]) (fun b=>n.kids.length - b.1) (fun b PS'=>b.1≤n.kids.length∧RN PS t (zN n) PS' [.bool false,.imm true [],b.2,.imm true [],.imm true []] (8+((n.kids.take b.1).map qN).flatten.length)∧LAt PSa 1 PS' b.2 ((n.kids.take b.1).map zY)∧PSa.length≤PS'.length) (0,.imm true []) ⟨Nat.zero_le _,hR,.inl ⟨rfl,rfl⟩,Nat.le_refl _⟩ ?_ ?_)
  ·simp only[go_sem,seval, -List.reduceReplicate,Int.natCast_zero]
  rintro⟨i,x⟩ PS1 ⟨hi,h,hx,hbs⟩
  simp only at hi h hx hbs
  by_cases hlt:i<n.kids.length
  ·have hp:=kZ _ n.kids hpe i hlt
   have hfs:=kg qN n.kids i hlt
   have hrs:(n.kids.take (i+1)).map zY=(n.kids.take i).map zY++[zY n.kids[i]]:=by rw[List.take_succ_eq_append_getElem hlt,List.map_append];rfl
   have hrl:((n.kids.take i).map zY).length=i:=by simp;omega
   have oe:=hkpos _ (List.getElem_mem hlt)
   have hadr:8+((n.kids.take (i+1)).map qN).flatten.length=8+((n.kids.take i).map qN).flatten.length+4:=by rw[hfs,List.length_append,qN,yd];omega
   obtain⟨m,hm⟩:∃m:Nat,n.kids[i]=m:=⟨n.kids[i].toNat,by omega⟩
   have htl:(n.kids.take i).length=i:=by rw[List.length_take];omega
   rw[hm] at hp hrs oe
   have yE:=hx.one
   have ha:=h.at_
   have hr:=h.rd
   rw[rdP] at hr
   rcases hx with ⟨hn,rfl⟩ | ⟨hn,p,ver,rfl,hpp,hg⟩
   ·have hi0:i=0:=by rw[hn] at hrl;exact hrl.symm
    simp only[go_sem,seval, -List.reduceReplicate,hlr,hb1,hlt,hr,ha]
    refine⟨by omega,zG ((ZX PS1 (PS.length+1) t (zN n) _ 4 m (by omega) h.rd hp (by omega) (by omega) (by omega)).mono ?_)⟩
    rintro _ PS2 ⟨rfl,hE⟩
    have hx2:Ext [PS.length+1] PS1 PS2:=by rw[hE];exact Ext.set _ _ _
    replace h:=h.call hx2 (by rw[hE];exact zk _ h.rd)
    have hb3:=hx2.1
    clear hE
    replace ha:=h.at_
    have hal:=yB ha
    have hgl:∀Q,zA (PS2++[Q]) (PS.length+2)=_:=fun Q=>zx _ ha
    simp only[go_sem,seval, -List.reduceReplicate,ha,hgl]
    refine⟨by omega,by simp,by simp,by omega,(i+1,.sl PS2.length 0 0 1 none),by simp only;omega,⟨by simp only;omega,?_,?_,?_⟩,rfl⟩
    ·simp only;rw[hadr];exact(h.app _).put _
    ·simp only;rw[hrs,hn];exact LAt.new _ _ (by omega) (by omega)
    ·simp;omega
   ·simp only[go_sem,seval, -List.reduceReplicate,hlr,hb1,hlt,hr,ha]
    refine⟨by omega,zG ((ZX PS1 (PS.length+1) t (zN n) _ 4 m (by omega) h.rd hp (by omega) (by omega) (by omega)).mono ?_)⟩
    rintro _ PS2 ⟨rfl,hE⟩
    have hx2:Ext [PS.length+1] PS1 PS2:=by rw[hE];exact Ext.set _ _ _
    replace h:=h.call hx2 (by rw[hE];exact zk _ h.rd)
    have hb3:=hx2.1
    clear hE
    replace ha:=h.at_
    have hal:=yB ha
    have hg2:=hx2.get hg (by simp;omega)
    have hgl:∀Q,zA (PS2.set p Q) (PS.length+2)=_:=fun Q=>(zO Q (by omega)).trans ha
    simp only[go_sem,seval, -List.reduceReplicate,ha,hg2,hgl,htl]
    refine⟨by omega,by simp,.inl ⟨by omega,by omega,(i+1,.sl p (ver+1) 0 (i+1) none),by simp only;omega,⟨by simp only;omega,?_,?_,?_⟩,rfl⟩⟩
    ·simp only;rw[hadr];exact(h.set p _ (by omega)).put _
    ·simp only;rw[hrs];have:=LAt.grow (m:=PS.length+2) (ver':=ver+1) (zY m) (.arr 0 5 [[HV.bool false,HV.imm true [],HV.sl p (ver+1) 0 (i+1) none,HV.imm true [],HV.imm true []]] false) hg2 hpp (by omega);rwa [hrl] at this
    ·simp;omega
  have hi:i=n.kids.length:=by omega
  subst hi
  rw[List.take_length] at h hx
  have hr:=h.rd
  have ha:=h.at_
  rw[rdP] at hr
  have yE:=hx.one
  have hpp:(n.pivs.map txt).flatten<+:(zN n).drop (8+(n.kids.map qN).flatten.length):=by
   have:=uC (x:=yP n.ents++yO n.kids) (qQ hbd)
   rw[hen] at this
   simpa [yP,yS,yO] using this
  rcases hx with ⟨hn,_⟩ | ⟨hn,pk,vk,rfl,hpk,hgk⟩
  ·exact absurd (congrArg List.length hn) (by rw[List.length_map];simp;intro h0;rw[h0] at hkl;simp at hkl)
  rw[List.length_map] at h ha yE
  have hy:LAt PSa 1 PS1 (.sl pk vk 0 n.kids.length none) (n.kids.map zY):=.inr ⟨hn,pk,vk,by rw[List.length_map],hpk,hgk⟩
  clear hpk hgk hn
  simp only[go_sem,seval, -List.reduceReplicate,hlr,hb1,hlt,hr,ha,List.length_map]
  refine⟨by omega,zG (zq (α:=Nat×HV) [false,false,false,false,false,false,false,false,false,false,false,false,false,false,false,false,false,false,false,false,false,false,false,false,false,false,false,false,false,false,false,false,false,false,false,false,false,false,false,false,false,false,false,false,false,false,false,false,false,false,false,true,true,true,true,true,true,true,true,true,true,true,true,true,true,true,true,true,true,true,true,true,true] (fun b=>[(6,.int .i64 b.1)]) (fun b=>n.pivs.length - b.1) (fun b PS'=>b.1≤n.pivs.length∧RN PS t (zN n) PS' [.bool false,.imm true [],.sl pk vk 0 n.kids.length none,b.2,.imm true []] (8+(n.kids.map qN).flatten.length+((n.pivs.take b.1).map txt).flatten.length)∧LAt PSa 9 PS' b.2 ((n.pivs.take b.1).map zJ)∧LAt PSa 1 PS' (.sl pk vk 0 n.kids.length none) (n.kids.map zY)∧PSa.length≤PS'.length) (0,.imm true []) ⟨Nat.zero_le _,h,.inl ⟨rfl,rfl⟩,hy,hbs⟩ ?_ ?_)⟩
  ·simp only[go_sem,seval, -List.reduceReplicate,Int.natCast_zero]
  clear h hy hr ha yE hbs
  rintro⟨i,x⟩ PS1 ⟨hi,h,hx,hy,hbs⟩
  simp only at hi h hx hy hbs
  have hr:=h.rd
  have ha:=h.at_
  rw[rdP] at hr
  have yE:=hx.one
  by_cases hlt:i<n.pivs.length
  ·have hlt':(i:Int)+1<(n.kids.length:Int):=by omega
   have hp:=kZ _ n.pivs hpp i hlt
   have hfs:=kg txt n.pivs i hlt
   have hrs:(n.pivs.take (i+1)).map zJ=(n.pivs.take i).map zJ++[zJ n.pivs[i]]:=by rw[List.take_succ_eq_append_getElem hlt,List.map_append];rfl
   have hrl:((n.pivs.take i).map zJ).length=i:=by simp;omega
   have oe:=ok.pivs _ (List.getElem_mem hlt)
   have htl:(n.pivs.take i).length=i:=by rw[List.length_take];omega
   have hadr:8+(n.kids.map qN).flatten.length+((n.pivs.take (i+1)).map txt).flatten.length=8+(n.kids.map qN).flatten.length+((n.pivs.take i).map txt).flatten.length+1+n.pivs[i].length:=by rw[hfs,List.length_append,yl];omega
   obtain⟨hgk,hbk⟩:=hy.get
   rcases hx with ⟨hn,rfl⟩ | ⟨hn,p,ver,rfl,hpp,hg⟩
   ·simp only[go_sem,seval, -List.reduceReplicate,hlr,hlt',hr,ha,hgk]
    refine⟨by omega,fun _=>zG ((Xl PS1 (PS.length+1) t (zN n) _ n.pivs[i] (by omega) h.rd hp oe).mono ?_)⟩
    rintro _ PS2 ⟨rfl,hx2,hq2⟩
    replace h:=h.call hx2 hq2
    replace hy:=hy.call hx2 (by omega)
    have hb3:=hx2.1
    replace ha:=h.at_
    have hal:=yB ha
    have hgl:∀Q,zA (PS2++[Q]) (PS.length+2)=_:=fun Q=>zx _ ha
    simp only[go_sem,seval, -List.reduceReplicate,ha,hgl,zh]
    refine⟨by simp[zh],by simp,by omega,(i+1,.sl PS2.length 0 0 1 none),by simp only;omega,⟨by simp only;omega,?_,?_,?_,?_⟩,rfl⟩
    ·simp only;rw[hadr];exact(h.app _).put _
    ·simp only;rw[hrs,hn];exact LAt.new _ _ (by omega) (by omega)
    ·exact(hy.app _).out _ (by omega) (by omega)
    ·simp;omega
   ·simp only[go_sem,seval, -List.reduceReplicate,hlr,hlt',hr,ha,hgk]
    refine⟨by omega,fun _=>zG ((Xl PS1 (PS.length+1) t (zN n) _ n.pivs[i] (by omega) h.rd hp oe).mono ?_)⟩
    rintro _ PS2 ⟨rfl,hx2,hq2⟩
    replace h:=h.call hx2 hq2
    replace hy:=hy.call hx2 (by omega)
    have hb3:=hx2.1
    replace ha:=h.at_
    have hal:=yB ha
    have hg2:=hx2.get hg (by simp;omega)
    have hgl:∀Q,zA (PS2.set p Q) (PS.length+2)=_:=fun Q=>(zO Q (by omega)).trans ha
    simp only[go_sem,seval, -List.reduceReplicate,ha,hg2,hgl,htl,zh]
    refine⟨by simp[zh],.inl ⟨by omega,by omega,(i+1,.sl p (ver+1) 0 (i+1) none),by simp only;omega,⟨by simp only;omega,?_,?_,?_,?_⟩,rfl⟩⟩
    ·simp only;rw[hadr];exact(h.set p _ (by omega)).put _
    ·simp only;rw[hrs];have:=LAt.grow (m:=PS.length+2) (ver':=ver+1) (zJ n.pivs[i]) (.arr 0 5 [[HV.bool false,HV.imm true [],HV.sl pk vk 0 n.kids.length none,HV.sl p (ver+1) 0 (i+1) none,HV.imm true []]] false) hg2 hpp (by omega);rwa [hrl] at this
    ·exact(hy.other _ hg2 (by decide)).out _ (by omega) (by omega)
    ·simp;omega
  have hlt':¬(i:Int)+1<(n.kids.length:Int):=by omega
  have hi:i=n.pivs.length:=by omega
  subst hi
  rw[List.take_length] at h hx
  obtain⟨hgk,hbk⟩:=hy.get
  simp only[go_sem,seval, -List.reduceReplicate,hlr,hlt',hr,ha,yE,hgk]
  have hpm:(n.msgs.map yH).flatten<+:(zN n).drop (8+(n.kids.map qN).flatten.length+(n.pivs.map txt).flatten.length):=by
   have:=uC (x:=yP n.ents++yO n.kids++yS n.pivs) hbd
   rw[hen] at this
   simpa [yP,yS,yO,yt,Nat.add_assoc] using this
  refine⟨by omega,fun _=>zG (zq (α:=Nat×HV) [false,false,false,false,false,false,false,false,false,false,false,false,false,false,false,false,false,false,false,false,false,false,false,false,false,false,false,false,false,false,false,false,false,false,false,false,false,false,false,false,false,false,false,false,false,false,false,false,false,false,false,false,false,false,false,false,false,false,false,false,false,false,false,false,false,false,false,false,false,false,false,false,false,true,true,true,true,true,true,true,true,true,true,true,true,true,true,true,true,true,true,true,true,true,true] (fun b=>[(7,.int .i64 b.1)]) (fun b=>n.msgs.length - b.1) (fun b PS'=>b.1≤n.msgs.length∧RN PS t (zN n) PS' [.bool false,.imm true [],.sl pk vk 0 n.kids.length none,x,b.2] (8+(n.kids.map qN).flatten.length+(n.pivs.map txt).flatten.length+((n.msgs.take b.1).map yH).flatten.length)∧LAt PSa 29 PS' b.2 ((n.msgs.take b.1).map zM)∧LAt PSa 9 PS' x (n.pivs.map zJ)∧LAt PSa 1 PS' (.sl pk vk 0 n.kids.length none) (n.kids.map zY)∧PSa.length≤PS'.length) (0,.imm true []) ⟨Nat.zero_le _,h,.inl ⟨rfl,rfl⟩,hx,hy,hbs⟩ ?_ ?_)⟩
  ·simp only[go_sem,seval, -List.reduceReplicate,Int.natCast_zero]
  have honez:=yE
  clear h hx hy hr ha yE hbs hgk hbk hlt'
  rintro⟨i,w⟩ PS1 ⟨hi,h,hx,hw,hy,hbs⟩
  simp only at hi h hx hw hy hbs
  have hr:=h.rd
  have ha:=h.at_
  rw[rdP] at hr
  have yE:=hx.one
  by_cases hlt:i<n.msgs.length
  ·have hp:=kZ _ n.msgs hpm i hlt
   have hfs:=kg yH n.msgs i hlt
   have hrs:(n.msgs.take (i+1)).map zM=(n.msgs.take i).map zM++[zM n.msgs[i]]:=by rw[List.take_succ_eq_append_getElem hlt,List.map_append];rfl
   have hrl:((n.msgs.take i).map zM).length=i:=by simp;omega
   have oe:=ok.msgs _ (List.getElem_mem hlt)
   have om:=XX hf (List.getElem_mem hlt)
   have htl:(n.msgs.take i).length=i:=by rw[List.length_take];omega
   have hadr:8+(n.kids.map qN).flatten.length+(n.pivs.map txt).flatten.length+((n.msgs.take (i+1)).map yH).flatten.length=8+(n.kids.map qN).flatten.length+(n.pivs.map txt).flatten.length+((n.msgs.take i).map yH).flatten.length+(yH n.msgs[i]).length:=by rw[hfs,List.length_append];omega
   rcases hx with ⟨hn,rfl⟩ | ⟨hn,p,ver,rfl,hpp,hg⟩
   ·simp only[go_sem,seval, -List.reduceReplicate,hlr,hb2,hlt,hr,ha,honez]
    refine⟨by omega,zG ((zEI PS1 (PS.length+1) t (zN n) _ n.msgs[i] (by omega) h.rd hp om oe.key oe.val oe.seq oe.by_).mono ?_)⟩
    rintro _ PS2 ⟨rfl,hx2,hq2⟩
    replace h:=h.call hx2 hq2
    replace hy:=hy.call hx2 (by omega)
    replace hw:=hw.call hx2 (by omega)
    have hb3:=hx2.1
    replace ha:=h.at_
    have hal:=yB ha
    have hgl:∀Q,zA (PS2++[Q]) (PS.length+2)=_:=fun Q=>zx _ ha
    simp only[go_sem,seval, -List.reduceReplicate,ha,hgl,qL,honez]
    refine⟨by simp[qL],by simp,by omega,(i+1,.sl PS2.length 0 0 1 none),by simp only;omega,⟨by simp only;omega,?_,?_,?_,?_,?_⟩,rfl⟩
    ·simp only;rw[hadr];exact(h.app _).put _
    ·simp only;rw[hrs,hn];exact LAt.new _ _ (by omega) (by omega)
    ·exact(hw.app _).out _ (by omega) (by omega)
    ·exact(hy.app _).out _ (by omega) (by omega)
    ·simp;omega
   ·simp only[go_sem,seval, -List.reduceReplicate,hlr,hb2,hlt,hr,ha,honez]
    refine⟨by omega,zG ((zEI PS1 (PS.length+1) t (zN n) _ n.msgs[i] (by omega) h.rd hp om oe.key oe.val oe.seq oe.by_).mono ?_)⟩
    rintro _ PS2 ⟨rfl,hx2,hq2⟩
    replace h:=h.call hx2 hq2
    replace hy:=hy.call hx2 (by omega)
    replace hw:=hw.call hx2 (by omega)
    have hb3:=hx2.1
    replace ha:=h.at_
    have hal:=yB ha
    have hg2:=hx2.get hg (by simp;omega)
    have hgl:∀Q,zA (PS2.set p Q) (PS.length+2)=_:=fun Q=>(zO Q (by omega)).trans ha
    simp only[go_sem,seval, -List.reduceReplicate,ha,hg2,hgl,htl,qL,honez]
    refine⟨by simp[qL],.inl ⟨by omega,by omega,(i+1,.sl p (ver+1) 0 (i+1) none),by simp only;omega,⟨by simp only;omega,?_,?_,?_,?_,?_⟩,rfl⟩⟩
    ·simp only;rw[hadr];exact(h.set p _ (by omega)).put _
    ·simp only;rw[hrs];have:=LAt.grow (m:=PS.length+2) (ver':=ver+1) (zM n.msgs[i]) (.arr 0 5 [[HV.bool false,HV.imm true [],HV.sl pk vk 0 n.kids.length none,x,HV.sl p (ver+1) 0 (i+1) none]] false) hg2 hpp (by omega);rwa [hrl] at this
    ·exact(hw.other _ hg2 (by decide)).out _ (by omega) (by omega)
    ·exact(hy.other _ hg2 (by decide)).out _ (by omega) (by omega)
    ·simp;omega
  have hi:i=n.msgs.length:=by omega
  subst hi
  rw[List.take_length] at h hx
  have uX:=h.res
  have hy7:∀Q,zA (PS1.set PS.length Q) PS.length=Q:=fun Q=>zk Q uX
  simp only[go_sem,seval, -List.reduceReplicate,hlr,hb2,hlt,hr,ha,yE,honez,uX,hy7]
  exact⟨by omega,_,_,_,_,by rw[hlf'],.inl ⟨by rw[hen];rfl,rfl⟩,hy.out _ (by omega) (by omega),hw.out _ (by omega) (by omega),hx.out _ (by omega) (by omega),h.ext.since (Ext.set _ PS.length _) (by simp)⟩
end Go.Proofs.YtbmibhjjogobhaaGreat
namespace Go.Proofs.YtbmibhjjogobhaaGreat
open Go Go.Eng Go.Mo
variable [zB]
set_option maxRecDepth 20000
attribute [local irreducible] hvc zf hop zg yI zb zu yQ
theorem zLo (t:Bool) (n:Nd) (ok:okN n) (hf:yf n):∃u,Pure Tryz.prog 52 [.imm t (zD (zN n))] (.tup [.agg (ze u n),.int .i64 0]):=by
 obtain⟨u,hu⟩:=zNa t n ok hf
 refine⟨u,Pure.zp (by rw[jn];intro x hx;simp at hx;rcases hx with rfl | rfl;exact QT _ _;exact .int _ _) fun PS=>?_⟩
 have hl:=kN ok hf
 have hrl:=Jf ok hf
 have hlr:(zD (zN n)).length=256:=by rw[zo,hl]
 have hne:¬zD (zN n)=[]:=by intro h;rw[h] at hlr;simp at hlr
 refine zMf (by unfold Tryz.f52;exact rfl) ?_
 obtain⟨c4,h4⟩:∃c:UInt8,(zD (zN n))[4]? =some [.int .u8 c.toNat]:=⟨_,rfl⟩
 obtain⟨c5,h5⟩:∃c:UInt8,((zD (zN n)).set 4 [.int .u8 0])[5]? =some [.int .u8 c.toNat]:=⟨_,rfl⟩
 obtain⟨c6,h6⟩:∃c:UInt8,(((zD (zN n)).set 4 [.int .u8 0]).set 5 [.int .u8 0])[6]? =some [.int .u8 c.toNat]:=⟨_,rfl⟩
 obtain⟨c7,h7⟩:∃c:UInt8,((((zD (zN n)).set 4 [.int .u8 0]).set 5 [.int .u8 0]).set 6 [.int .u8 0])[7]? =some [.int .u8 c.toNat]:=⟨_,rfl⟩
 have hset:((((zD (zN n)).set 4 [.int .u8 0]).set 5 [.int .u8 0]).set 6 [.int .u8 0]).set 7 [.int .u8 0]=zD (yF n):=rfl
 simp only[go_sem,seval, -List.reduceReplicate,hlr,hne,h4,h5,h6,h7,hset]
 have hcr:=JK (yF n)
 have hpre:za (qE (yF n)) 4<+:(zN n).drop 4:=⟨yM n++List.replicate (248 - (yM n).length) 0,by
  rw[zN,List.append_assoc,List.append_assoc,List.drop_left' (uE n)]⟩
 obtain⟨e1,e2⟩:=Gi hpre (by omega) (by omega)
 have hnum:=zDw t (zN n) 4 4 (by omega) (by omega) (by omega) e2
 rw[e1] at hnum
 intro _
 have hg:zA (PS++[zC.arr 0 5 [[HV.bool false,HV.imm true [],HV.imm true [],HV.imm true [],HV.imm true []]] false,zC.arr 0 1 (zD (yF n)) true]) (PS.length+1)=zC.arr 0 1 (zD (yF n)) true:=by simp[zA,List.getElem?_append_right]
 have uX:zA (PS++[zC.arr 0 5 [[HV.bool false,HV.imm true [],HV.imm true [],HV.imm true [],HV.imm true []]] false,zC.arr 0 1 (zD (yF n)) true]) PS.length=zC.arr 0 5 [[HV.bool false,HV.imm true [],HV.imm true [],HV.imm true [],HV.imm true []]] false:=by simp[zA]
 have hx:=Ext.app PS [zC.arr 0 5 [[HV.bool false,HV.imm true [],HV.imm true [],HV.imm true [],HV.imm true []]] false,zC.arr 0 1 (zD (yF n)) true]
 refine⟨by simp,zG ?_⟩
 generalize PS++[zC.arr 0 5 [[HV.bool false,HV.imm true [],HV.imm true [],HV.imm true [],HV.imm true []]] false,zC.arr 0 1 (zD (yF n)) true]=PS1 at hg uX hx ⊢
 refine hnum.call ?_
 simp only[go_sem,seval, -List.reduceReplicate]
 have hsum:=zCc PS1 (PS.length+1) 0 (yF n) none true hg (by omega)
 rw[hrl] at hsum
 refine zG (hsum.mono ?_)
 rintro _ PS1 ⟨rfl,rfl⟩
 simp only[go_sem,seval, -List.reduceReplicate]
 refine⟨by omega,zG (hu.call ?_)⟩
 have ho:qS (ze u n)=True:=eq_true (js u n)
 have htk:List.take 5 (ze u n)=ze u n:=List.take_of_length_le (by rw[zn];exact Nat.le_refl _)
 have hd5:List.drop 5 [HV.bool false,HV.imm true [],HV.imm true [],HV.imm true [],HV.imm true []]=[]:=rfl
 have hgl:∀Q,zA (PS1++[Q]) PS1.length=Q:=fun Q=>zt _ _
 have hz:∀Q Q',(PS1++[Q]).set PS1.length Q'=PS1++[Q']:=fun Q Q'=>by simp
 simp only[go_sem,seval, -List.reduceReplicate,ho,htk,hd5,zn,hgl,hz,List.append_nil]
 refine zG ((zBF u n ok hf).call ?_)
 have hxq:∀Q,zA (PS1++[Q]) PS.length=_:=fun Q=>zx _ uX
 have hy:∀Q Q',zA ((PS1++[Q]).set PS.length Q') PS.length=Q':=fun Q Q'=>zk Q' (hxq Q)
 simp only[go_sem,seval, -List.reduceReplicate,ho,htk,hd5,zn,hgl,hz,hxq,hy,List.append_nil]
 exact(hx.trans (Ext.app PS1 _)).since (Ext.set _ PS.length _) (by simp)
end Go.Proofs.YtbmibhjjogobhaaGreat
