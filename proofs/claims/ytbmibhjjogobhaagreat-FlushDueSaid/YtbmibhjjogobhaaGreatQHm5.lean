/-
Nodes as blocks: what the document says of their bytes. No program in sight.
No conditions.
-/
import Derived.Test.YtbmibhjjogobhaaGreatQHm1
import Derived.Test.YtbmibhjjogobhaaGreatQRunI
import Derived.Test.YtbmibhjjogobhaaGreatQHm2
import Derived.Test.YtbmibhjjogobhaaGreatQHm4
import Derived.Test.YtbmibhjjogobhaaGreatQHm3
set_option linter.unusedSectionVars false
set_option linter.unusedSimpArgs false
set_option linter.unusedVariables false
namespace Go.Mo
open Go Go.Eng
variable [zB]
theorem zL8 (a b:Nat):wF (a ^^^ b)=wF a ^^^ wF b:=by
 have h1:(a ^^^ b) % 2=(a+b) % 2:=by
  have h:=Nat.testBit_xor a b 0
  simp only[Nat.testBit_zero] at h
  rcases Nat.mod_two_eq_zero_or_one a with ha | ha<;>rcases Nat.mod_two_eq_zero_or_one b with hb | hb<;>rcases Nat.mod_two_eq_zero_or_one (a ^^^ b) with hc | hc<;>simp[ha,hb,hc] at h<;>omega
 have h2:(a ^^^ b) / 2=a / 2 ^^^ b / 2:=Nat.xor_div_two
 unfold wF
 rcases Nat.mod_two_eq_zero_or_one a with ha | ha<;>rcases Nat.mod_two_eq_zero_or_one b with hb | hb
 ·rw[if_neg (by omega),if_neg (by omega),if_neg (by omega),h2]
 ·rw[if_pos (by omega),if_neg (by omega),if_pos (by omega),h2,Nat.xor_assoc]
 ·rw[if_pos (by omega),if_pos (by omega),if_neg (by omega),h2,Nat.xor_assoc,Nat.xor_assoc,Nat.xor_comm (b / 2)]
 ·rw[if_neg (by omega),if_pos (by omega),if_pos (by omega),h2]
  have:∀x y c:Nat,x ^^^ y=(x ^^^ c) ^^^ (y ^^^ c):=fun x y c=>by
   rw[Nat.xor_assoc,Nat.xor_comm y c,←Nat.xor_assoc c,Nat.xor_self,Nat.zero_xor]
  exact this _ _ _
theorem zRK (n a b:Nat):yR n (a ^^^ b)=yR n a ^^^ yR n b:=by
 induction n with
 | zero=>rfl
 | succ n ih=>simp only[yR,ih,zL8]
theorem zMC (n h:Nat):yR n (2 ^ n*h)=h:=by
 have step:∀(n x:Nat),yR (n+1) x=yR n (wF x):=fun n x=>by
  induction n generalizing x with
  | zero=>rfl
  | succ n ih=>exact congrArg wF (ih x)
 induction n generalizing h with
 | zero=>simp[yR]
 | succ n ih=>
  rw[step]
  have e:wF (2 ^ (n+1)*h)=2 ^ n*h:=by
   have:2 ^ (n+1)*h=2*(2 ^ n*h):=by rw[Nat.pow_succ,Nat.mul_comm (2 ^ n) 2,Nat.mul_assoc]
   rw[this]
   unfold wF
   rw[if_neg (by omega)]
   omega
  rw[e,ih]
theorem zLY (x:Nat):x=(x % 256) ^^^ (256*(x / 256)):=by
 apply Nat.eq_of_testBit_eq
 intro i
 rw[Nat.testBit_xor,show (256:Nat)=2 ^ 8 from rfl,Nat.testBit_mod_two_pow,Nat.testBit_two_pow_mul,Nat.testBit_div_two_pow]
 by_cases h:i<8
 ·simp[h,show ¬8≤i by omega]
 ·simp[h,show 8≤i by omega,show i - 8+8=i by omega]
theorem zNF (x c:Nat):yR 8 (x ^^^ c)=yR 8 ((x % 256) ^^^ c) ^^^ (x / 256):=by
 have e:x ^^^ c=((x % 256) ^^^ c) ^^^ (256*(x / 256)):=by
  conv=>lhs;rw[zLY x]
  rw[Nat.xor_assoc,Nat.xor_comm _ c,←Nat.xor_assoc]
 rw[e,zRK,show (256:Nat)=2 ^ 8 from rfl,zMC]
def txt (s:Bs):Bs:=UInt8.ofNat s.length::s
def qF (e:Bs×Bs):Bs:=txt e.1++txt e.2
def qN (x:Int):Bs:=za x.toNat 4
def yH (m:Ms):Bs:=UInt8.ofNat m.kind.toNat::(za m.seq 8++(txt m.key++(if m.kind=1 then txt m.val else if m.kind=3 then za m.by_ 8 else [])))
def yP (l:List (Bs×Bs)):Bs:=(l.map qF).flatten
def yO (l:List Int):Bs:=(l.map qN).flatten
def yS (l:List Bs):Bs:=(l.map txt).flatten
def yt (l:List Ms):Bs:=(l.map yH).flatten
def yG (n:Nd):Bs:=[if n.leaf then 1 else 2,UInt8.ofNat (if n.leaf then n.ents.length else n.kids.length),UInt8.ofNat n.msgs.length,0]
def yM (n:Nd):Bs:=yP n.ents++yO n.kids++yS n.pivs++yt n.msgs
/-- The block whose sum is 0. -/
def yF (n:Nd):Bs:=yG n++[0,0,0,0]++yM n++List.replicate (248 - (yM n).length) 0
def zN (n:Nd):Bs:=yG n++za (qE (yF n)) 4++yM n++List.replicate (248 - (yM n).length) 0
theorem yl (s:Bs):(txt s).length=s.length+1:=rfl
theorem zFF (e:Bs×Bs):(qF e).length=yw e:=by simp[qF,yl,yw];omega
theorem zIc {m:Ms} (h:yC m):(yH m).length=yq m:=by
 have h1:=h.lo
 have h2:=h.hi
 unfold yH yq
 rw[yN h]
 simp only[List.length_cons,List.length_append,yd,yl,if_true]
 by_cases hk:m.kind=1
 ·simp[hk,yl];omega
 ·by_cases hk3:m.kind=3
  ·simp[hk3,yd];omega
  ·simp[hk,hk3];omega
theorem zBU {α:Type} (f:α→Bs) (c:α→Nat) (l:List α) (h:∀a∈l,(f a).length=c a):((l.map f).flatten).length=(l.map c).sum:=by
 induction l with
 | nil=>rfl
 | cons a l ih=>
  simp only[List.map_cons,List.flatten_cons,List.length_append,List.sum_cons]
  rw[h a (List.mem_cons_self ..),ih fun b hb=>h b (List.mem_cons_of_mem _ hb)]
theorem zIU (l:List (Bs×Bs)):(yP l).length=ye l:=zBU _ _ l fun _ _=>zFF _
theorem zP4 {l:List Ms} (h:∀m∈l,yC m):(yt l).length=jL l:=zBU _ _ l fun m hm=>zIc (h m hm)
theorem zRg (l:List Int):(yO l).length=4*l.length:=by
 induction l with
 | nil=>rfl
 | cons a l ih=>
  have:(yO (a::l)).length=(qN a).length+(yO l).length:=by simp[yO]
  rw[this,ih,qN,yd,List.length_cons];omega
theorem zL1 {l:List Bs} (h:∀k∈l,okK k):(yS l).length≤9*l.length:=by
 induction l with
 | nil=>simp[yS]
 | cons a l ih=>
  have:(yS (a::l)).length=(txt a).length+(yS l).length:=by simp[yS]
  have ha:a.length≤8:=h a (List.mem_cons_self ..)
  have:=ih fun k hk=>h k (List.mem_cons_of_mem _ hk)
  rw[‹(yS (a::l)).length=_›,yl,List.length_cons];omega
theorem xW {n:Nd} (ok:okN n) (h:yf n):(yM n).length≤248:=by
 obtain⟨h1,h2⟩:=h
 simp only[yM,List.length_append,zIU,zRg]
 unfold yh at h1
 unfold wH at h2
 by_cases hl:n.leaf=true
 ·rw[if_pos hl] at h1 h2
  rw[if_pos hl] at h2
  obtain⟨_,h3,h4,h5⟩:=h1
  rw[h3,h4,h5]
  simp only[yS,yt,List.map_nil,List.flatten_nil,List.length_nil]
  omega
 ·rw[if_neg hl] at h1 h2
  rw[if_neg hl] at h2
  obtain⟨h3,h4,h5⟩:=h1
  have h6:=zL1 ok.pivs
  have h7:=h4.many
  have h8:=h4.len
  rw[zP4 h5.1,h3]
  have:ye []=0:=rfl
  omega
theorem uE (n:Nd):(yG n).length=4:=rfl
theorem Jf {n:Nd} (ok:okN n) (h:yf n):(yF n).length=256:=by
 have:=xW ok h
 simp only[yF,List.length_append,uE,List.length_cons,List.length_nil,List.length_replicate]
 omega
theorem kN {n:Nd} (ok:okN n) (h:yf n):(zN n).length=256:=by
 have:=xW ok h
 simp only[zN,List.length_append,uE,yd,List.length_replicate]
 omega
end Go.Mo
namespace Go.Mo
open Go Go.Eng
variable [zB]
/-- Bytes in an open piece made since. -/
structure OB (PS0 PS:PL) (p ver:Nat) (b:Bs):Prop where
 new:PS0.length≤p
 at_:zA PS p=.arr ver 1 (zD b) true
 ext:Ext [] PS0 PS
end Go.Mo
namespace Go.Proofs.YtbmibhjjogobhaaGreat
open Go Go.Eng Go.Mo
variable [zB]
set_option maxRecDepth 20000
attribute [local irreducible] hvc zf hop zg yI zb zu yQ
theorem Ut (x:UInt8) (l:Bs):zD (x::l)=[.int .u8 x.toNat]::zD l:=rfl
theorem Vx (s:Bs):(u8s s).map (fun y=>[y])=zD s:=by simp[u8s,zD]
/-- Bytes behind how many there are. -/
theorem Xd (PS:PL) (p ver:Nat) (b s:Bs) (q vq i k c sz:Nat) (E:List (List HV)) (o:Bool) (row:List HV) (hb:zA PS p=.arr ver 1 (zD b) true) (hq:zA PS q=.arr vq sz E o) (hpq:q≠p)
  (hr:E[i]? =some row) (hk:k+s.length≤row.length) (hs:(row.drop k).take s.length=u8s s) (hsl:s.length≤255) (hbl:b.length≤1000):
  zI Tryz.prog 212 [.sl p ver 0 b.length none,.isl q vq i k s.length c] PS fun r PS'=>r=.sl p (ver+2) 0 (b++txt s).length none∧PS'=PS.set p (.arr (ver+2) 1 (zD (b++txt s)) true):=by
 refine zIS (by unfold Tryz.f212;exact rfl) ?_
 have hx:∀Q,zA (PS.set p Q) q=.arr vq sz E o:=fun Q=>(zO Q hpq.symm).trans hq
 have hy:∀Q,zA (PS.set p Q) p=Q:=fun Q=>zk Q hb
 simp only[go_sem,seval, -List.reduceReplicate,hb,zo,hq,hx,hy,hr,hs,Vx,List.set_set,List.drop_zero]
 intro _
 refine⟨by simp,.inl ⟨by omega,hk,?_⟩⟩
 refine .inl ⟨by omega,by rw[yl];congr 1;omega,?_⟩
 congr 2
 rw[va,txt,Ut,List.append_assoc,wA]
 rfl
theorem zQM (PS:PL) (p ver:Nat) (b s:Bs) (q vq i k c sz N:Nat) (E:List (List HV)) (o:Bool) (row:List HV) (hb:zA PS p=.arr ver 1 (zD b) true) (hq:zA PS q=.arr vq sz E o) (hpq:q≠p)
  (hr:E[i]? =some row) (hn:s.length≤N) (hc:N≤c) (hk:k+N≤row.length) (hs:(row.drop k).take s.length=u8s s) (hsl:s.length≤255) (hbl:b.length≤1000):
  zI Tryz.prog 72 [.sl p ver 0 b.length none,.int .i64 s.length,.isl q vq i k N c] PS fun r PS'=>r=.sl p (ver+2) 0 (b++txt s).length none∧PS'=PS.set p (.arr (ver+2) 1 (zD (b++txt s)) true):=by
 refine Wy (by unfold Tryz.f72;exact rfl) ?_
 have hx:∀Q,zA (PS.set p Q) q=.arr vq sz E o:=fun Q=>(zO Q hpq.symm).trans hq
 have hy:∀Q,zA (PS.set p Q) p=Q:=fun Q=>zk Q hb
 simp only[go_sem,seval, -List.reduceReplicate,hb,zo,hq,hx,hy,hr,hs,Vx,List.set_set,List.drop_zero]
 refine⟨by simp,.inl ⟨by omega,.inr (by rintro rfl;simp at hr),by omega,by omega,.inl ⟨by omega,by rw[yl];congr 1;omega,?_⟩⟩⟩
 congr 2
 rw[va,txt,Ut,List.append_assoc,wA]
 rfl
end Go.Proofs.YtbmibhjjogobhaaGreat
namespace Go.Mo
open Go Go.Eng
variable [zB]
theorem xH {α:Type} (f:α→Bs) (l:List α) {i:Nat} (h:i<l.length):((l.take (i+1)).map f).flatten=((l.take i).map f).flatten++f l[i]:=by
 rw[List.take_succ_eq_append_getElem h,List.map_append,List.flatten_append,List.map_cons,List.map_nil,List.flatten_cons,List.flatten_nil,List.append_nil]
theorem kc {α:Type} (f:α→Bs) (l:List α) (i:Nat):(((l.take i).map f).flatten).length≤((l.map f).flatten).length:=by
 conv=>rhs;rw[←List.take_append_drop i l,List.map_append,List.flatten_append,List.length_append]
 omega
theorem VA {n:Nd} (h:yf n) {i:Nat} {x:Int} (hx:n.kids[i]? =some x):1≤x∧x<256:=by
 have h1:=h.1
 unfold yh at h1
 split at h1
 ·rw[h1.2.1] at hx;simp at hx
 ·exact⟨(h1.2.1.is i x hx).1,(h1.2.1.is i x hx).2.1⟩
theorem XX {n:Nd} (h:yf n) {m:Ms} (hm:m∈n.msgs):yC m:=by
 have h1:=h.1
 unfold yh at h1
 split at h1
 ·rw[h1.2.2.2] at hm;simp at hm
 ·exact h1.2.2.1 m hm
@[go_sem ↓,go_sem] theorem zXF:List.drop 8 (List.replicate 8 (HV.int .u8 0))=[]:=_root_.id rfl
theorem Kw {n:Nat} {k:Bs} (h:k.length≤n) (R:List HV):((u8s (pad n k)++R).take k.length)=u8s k:=by
 rw[List.take_append_of_le_length (by rw[qo,wC];omega),ZV h]
theorem zBl (e:Bs×Bs) (h:okK e.1):((zR e).drop 1).take e.1.length=u8s e.1:=by
 show (u8s (pad 8 e.1)++zK e.2).take e.1.length=_
 exact Kw h _
theorem zCj (e:Bs×Bs) (h:okV e.2):((zR e).drop 10).take e.2.length=u8s e.2:=by
 have:(zR e).drop 10=((zR e).drop 9).drop 1:=by rw[List.drop_drop]
 rw[this,zR,VE]
 show (u8s (pad 16 e.2)).take e.2.length=_
 exact ZV h
theorem zIT (k:Bs) (h:okK k):((zJ k).drop 1).take k.length=u8s k:=by
 show (u8s (pad 8 k)).take k.length=_
 exact ZV h
theorem zEv (m:Ms) (h:okK m.key):((zM m).drop 3).take m.key.length=u8s m.key:=by
 show (u8s (pad 8 m.key)++_).take m.key.length=_
 exact Kw h _
theorem zDx (m:Ms) (h:okV m.val):((zM m).drop 12).take m.val.length=u8s m.val:=by
 have:(zM m).drop 12=((zM m).drop 11).drop 1:=by rw[List.drop_drop]
 rw[this,Wx]
 show (u8s (pad 16 m.val)++_).take m.val.length=_
 exact Kw h _
@[go_sem ↓,go_sem] theorem zZm (t:Fl) (n:Nd):((ze t n).drop 1).take 1=[.imm t.a (n.ents.map zR)]:=_root_.id rfl
@[go_sem ↓,go_sem] theorem zVF (t:Fl) (n:Nd):((ze t n).drop 2).take 1=[.imm t.b (n.kids.map zY)]:=_root_.id rfl
@[go_sem ↓,go_sem] theorem zWP (t:Fl) (n:Nd):((ze t n).drop 3).take 1=[.imm t.c (n.pivs.map zJ)]:=_root_.id rfl
@[go_sem ↓,go_sem] theorem zcZ (t:Fl) (n:Nd):((ze t n).drop 4).take 1=[.imm t.d (n.msgs.map zM)]:=_root_.id rfl
/-- The bytes so far:in an open piece,the node's own in its. -/
structure uH (PS:PL) (p0:Nat) (row:List HV) (PS':PL) (p ver:Nat) (b:Bs):Prop where
 at_:zA PS' p=.arr ver 1 (zD b) true
 own:zA PS' PS.length=.arr 0 5 [row] false
 ext:Ext [p0] PS PS'
 is:p=p0∨PS.length<p
theorem uH.ne {PS PS1:PL} {p0 p ver:Nat} {row:List HV} {b:Bs} (h:uH PS p0 row PS1 p ver b) (hp:p0<PS.length):p≠PS.length:=by
 rcases h.is with h | h<;>omega
theorem uH.le {PS PS1:PL} {p0 p ver:Nat} {row:List HV} {b:Bs} (h:uH PS p0 row PS1 p ver b):PS.length<PS1.length:=yB h.own
theorem uH.put {PS PS1:PL} {p0 p ver:Nat} {row:List HV} {b:Bs} (h:uH PS p0 row PS1 p ver b) (hp:p0<PS.length) (l:PL) (ver':Nat) (b':Bs):uH PS p0 row ((PS1++l).set p (.arr ver' 1 (zD b') true)) p ver' b':=by
 refine⟨zk _ (zx l h.at_),(zO _ (h.ne hp)).trans (zx l h.own),?_,h.is⟩
 refine h.ext.since ((Ext.app PS1 l).trans (Ext.set (PS1++l) p _)) fun n hn=>?_
 simp at hn
 subst hn
 rcases h.is with h | h
 ·left;simp[h]
 ·right;omega
theorem uH.new {PS PS1:PL} {p0 p ver:Nat} {row:List HV} {b:Bs} (h:uH PS p0 row PS1 p ver b) (l:PL) (ver':Nat) (b':Bs):uH PS p0 row (PS1++l++[.arr ver' 1 (zD b') true]) (PS1++l).length ver' b':=by
 have:=h.le
 refine⟨zt _ _,?_,?_,.inr (by simp;omega)⟩
 ·rw[List.append_assoc];exact zx _ h.own
 ·refine h.ext.since (T:=[]) (by rw[List.append_assoc];exact Ext.app _ _) fun n hn=>absurd hn (by simp)
end Go.Mo
namespace Go.Proofs.YtbmibhjjogobhaaGreat
open Go Go.Eng Go.Mo
variable [zB]
set_option maxRecDepth 20000
attribute [local irreducible] hvc zf hop zg yI zb zu yQ
theorem zIw (t:Fl) (n:Nd) (ok:okN n) (hf:yf n) (PS:PL) (p ver:Nat) (b:Bs) (hb:zA PS p=.arr ver 1 (zD b) true) (hbl:b.length≤8):
  zI Tryz.prog 125 [.sl p ver 0 b.length none,.agg (ze t n)] PS fun r PS'=>∃p' ver',r=.sl p' ver' 0 (b++yM n).length none∧zA PS' p'=.arr ver' 1 (zD (b++yM n)) true∧Ext [p] PS PS'∧(p'=p∨PS.length<p'):=by
 refine zK7 (by unfold Tryz.f125;exact rfl) ?_
 have hlen:=xW ok hf
 simp only[yM,List.length_append] at hlen
 have hp:=yB hb
 obtain⟨f1,f2,f3,f4⟩:=ok.few
 simp only[go_sem,seval, -List.reduceReplicate,zn,List.length_map]
 refine⟨js t n,fun _=>?_⟩
 refine zG (zq (α:=Nat×Nat×Nat) [false,false,false,false,false,false,true,false,false,false,false,false,false,false,false,false,false,true,true,true,true,true,true,true,true,true,true,true,true,true,true,true,true,true,true,true] (fun a=>[(16,.int .i64 a.1),(0,.sl a.2.1 a.2.2 0 (b++yP (n.ents.take a.1)).length none)]) (fun a=>n.ents.length - a.1) (fun a PS'=>a.1≤n.ents.length∧uH PS p (ze t n) PS' a.2.1 a.2.2 (b++yP (n.ents.take a.1))) (0,p,ver) ⟨Nat.zero_le _,?_⟩ ?_ ?_)
 ·refine⟨?_,zt _ _,(Ext.app _ _).mono (by simp),.inl rfl⟩
  rw[zx _ hb];simp[yP]
 ·simp only[go_sem,seval, -List.reduceReplicate,Int.natCast_zero,List.take_zero]
  simp[yP]
 rintro⟨i,q,vq⟩ PS1 ⟨hi,h⟩
 simp only at hi h
 by_cases hlt:i<n.ents.length
 ·have ha1:n.ents[i]? =some n.ents[i]:=by simp[hlt]
  have oi:=ok.ents _ (List.getElem_mem hlt)
  have o1:n.ents[i].1.length≤8:=oi.1
  have o2:n.ents[i].2.length≤16:=oi.2
  have hcur:(b++yP (n.ents.take i)).length≤300:=by have:(yP (n.ents.take i)).length≤(yP n.ents).length:=kc _ _ _;rw[List.length_append];omega
  generalize hc:b++yP (n.ents.take i)=cur at h hcur
  simp only[go_sem,seval, -List.reduceReplicate,hlt,List.getElem?_map,Option.map_some,ha1,List.length_map,h.own,zn]
  refine⟨by omega,by omega,zG ((Xd _ q vq cur n.ents[i].1 PS1.length 0 0 1 8 26 [zR n.ents[i]] false (zR n.ents[i]) (zx _ h.at_) (zt _ _) (by have:=yB h.at_;omega) rfl (by rw[yi];omega) (zBl _ oi.1) (by omega) (by omega)).mono ?_)⟩
  rintro _ _ ⟨rfl,rfl⟩
  have h2:=h.put hp [.arr 0 26 [zR n.ents[i]] false] (vq+2) (cur++txt n.ents[i].1)
  have hq:q≠PS1.length:=by have:=yB h.at_;omega
  have g1:=(zO (PS:=PS1++[.arr 0 26 [zR n.ents[i]] false]) (n:=PS1.length) (.arr (vq+2) 1 (zD (cur++txt n.ents[i].1)) true) hq).trans (zt _ _)
  generalize ((PS1++[zC.arr 0 26 [zR n.ents[i]] false]).set q (zC.arr (vq+2) 1 (zD (cur++txt n.ents[i].1)) true))=PS2 at h2 g1 ⊢
  simp only[go_sem,seval, -List.reduceReplicate,g1,h2.own,zn]
  refine⟨by omega,zG ?_⟩
  rw[←List.length_append]
  refine((Xd _ q _ _ n.ents[i].2 PS1.length 0 0 10 16 26 [zR n.ents[i]] false (zR n.ents[i]) h2.at_ g1 hq.symm rfl (by rw[yi];omega) (zCj _ oi.2) (by omega) (by simp[yl];omega)).mono ?_)
  rintro _ _ ⟨rfl,rfl⟩
  have h3:=h2.put hp [] (vq+4) (cur++txt n.ents[i].1++txt n.ents[i].2)
  rw[List.append_nil] at h3
  have g2:=(zO (.arr (vq+4) 1 (zD (cur++txt n.ents[i].1++txt n.ents[i].2)) true) hq).trans g1
  generalize (PS2.set q (zC.arr (vq+4) 1 (zD (cur++txt n.ents[i].1++txt n.ents[i].2)) true))=PS3 at h3 g2 ⊢
  simp only[go_sem,seval, -List.reduceReplicate,g2,h3.own,zn]
  have he:yP (n.ents.take (i+1))=yP (n.ents.take i)++qF n.ents[i]:=xH _ _ hlt
  have hcc:b++yP (n.ents.take (i+1))=cur++txt n.ents[i].1++txt n.ents[i].2:=by rw[he,←List.append_assoc,hc,qF,List.append_assoc]
  refine⟨by omega,(i+1,q,vq+4),?_⟩
  simp only
  refine⟨by omega,⟨by omega,by rw[hcc];exact h3⟩,?_,rfl⟩
  rw[←List.length_append,hcc,List.length_append,List.length_append]
 have hi:i=n.ents.length:=by omega
 subst hi
 rw[List.take_length] at h
 simp only[go_sem,seval, -List.reduceReplicate,hlt,List.length_map,h.own,zn]
 intro _
 clear hlt
 obtain⟨b1,hb1⟩:∃b1,b1=b++yP n.ents:=⟨_,rfl⟩
 have hl1:b1.length=b.length+(yP n.ents).length:=by rw[hb1,List.length_append]
 rw[←hb1] at h
 refine zG (zq (α:=Nat×Nat×Nat) [false,false,false,false,false,false,false,false,true,false,false,false,false,false,false,false,false,false,false,false,false,false,false,false,false,false,false,false,false,false,false,false,false,false,false,false,false,false,false,false,true,true,true,true,true,true,true,true] (fun a=>[(39,.int .i64 a.1),(0,.sl a.2.1 a.2.2 0 (b1++yO (n.kids.take a.1)).length none)]) (fun a=>n.kids.length - a.1) (fun a PS'=>a.1≤n.kids.length∧uH PS p (ze t n) PS' a.2.1 a.2.2 (b1++yO (n.kids.take a.1))) (0,q,vq) ⟨Nat.zero_le _,by simpa [yO] using h⟩ ?_ ?_)
 ·simp only[go_sem,seval, -List.reduceReplicate,Int.natCast_zero,List.take_zero]
  simp[yO,hl1]
 clear h
 rintro⟨i,q,vq⟩ PS1 ⟨hi,h⟩
 simp only at hi h
 by_cases hlt:i<n.kids.length
 ·have ha1:n.kids[i]? =some n.kids[i]:=by simp[hlt]
  have hcur:(b1++yO (n.kids.take i)).length≤600:=by have:(yO (n.kids.take i)).length≤(yO n.kids).length:=kc _ _ _;rw[List.length_append];omega
  generalize hc:b1++yO (n.kids.take i)=cur at h hcur
  have hpos:1≤n.kids[i]∧n.kids[i]<256:=VA hf ha1
  obtain⟨m,hm⟩:∃m:Nat,n.kids[i]=m:=⟨n.kids[i].toNat,by omega⟩
  simp only[go_sem,seval, -List.reduceReplicate,hlt,List.getElem?_map,Option.map_some,ha1,List.length_map,h.own,zn,zY,hm]
  refine⟨by omega,zG ((Vt _ _ cur m 4 (by have:=wJ.open h.at_;rwa [zo] at this) (by omega) (by omega) (by omega) (by omega)).mono ?_)⟩
  rintro _ _ ⟨v3,rfl,rfl⟩
  have h3:=h.new [] v3 (cur++za m 4)
  rw[List.append_nil] at h3
  have he:yO (n.kids.take (i+1))=yO (n.kids.take i)++qN n.kids[i]:=xH _ _ hlt
  have hcc:b1++yO (n.kids.take (i+1))=cur++za m 4:=by rw[he,←List.append_assoc,hc,qN,hm];rfl
  simp only[go_sem,seval, -List.reduceReplicate,h3.own,zn]
  refine⟨by omega,(i+1,PS1.length,v3),?_⟩
  simp only
  refine⟨by omega,⟨by omega,by rw[hcc];exact h3⟩,?_,rfl⟩
  rw[←List.length_append,hcc,zo]
 have hi:i=n.kids.length:=by omega
 subst hi
 rw[List.take_length] at h
 simp only[go_sem,seval, -List.reduceReplicate,hlt,List.length_map,h.own,zn]
 intro _
 clear hlt
 obtain⟨b2,hb2⟩:∃b2,b2=b1++yO n.kids:=⟨_,rfl⟩
 have hl2:b2.length=b1.length+(yO n.kids).length:=by rw[hb2,List.length_append]
 rw[←hb2] at h
 refine zG (zq (α:=Nat×Nat×Nat) [false,false,false,false,false,false,false,false,false,false,true,false,false,false,false,false,false,false,false,false,false,false,false,false,false,false,false,false,false,false,false,false,false,false,false,false,false,false,false,false,false,false,false,false,false,false,false,false,false,false,false,false,true,true,true,true,true,true,true,true,true,true] (fun a=>[(51,.int .i64 a.1),(0,.sl a.2.1 a.2.2 0 (b2++yS (n.pivs.take a.1)).length none)]) (fun a=>n.pivs.length - a.1) (fun a PS'=>a.1≤n.pivs.length∧uH PS p (ze t n) PS' a.2.1 a.2.2 (b2++yS (n.pivs.take a.1))) (0,q,vq) ⟨Nat.zero_le _,by simpa [yS] using h⟩ ?_ ?_)
 ·simp only[go_sem,seval, -List.reduceReplicate,Int.natCast_zero,List.take_zero]
  simp[yS,hl2]
 clear h
 rintro⟨i,q,vq⟩ PS1 ⟨hi,h⟩
 simp only at hi h
 by_cases hlt:i<n.pivs.length
 ·have ha1:n.pivs[i]? =some n.pivs[i]:=by simp[hlt]
  have oi:=ok.pivs _ (List.getElem_mem hlt)
  have o1:n.pivs[i].length≤8:=oi
  have hcur:(b2++yS (n.pivs.take i)).length≤300:=by have:(yS (n.pivs.take i)).length≤(yS n.pivs).length:=kc _ _ _;rw[List.length_append];omega
  generalize hc:b2++yS (n.pivs.take i)=cur at h hcur
  simp only[go_sem,seval, -List.reduceReplicate,hlt,List.getElem?_map,Option.map_some,ha1,List.length_map,h.own,zn,List.append_nil]
  refine⟨by omega,zG ((Xd _ q vq cur n.pivs[i] PS1.length 0 0 1 8 9 [zJ n.pivs[i]] false (zJ n.pivs[i]) (zx _ h.at_) (zt _ _) (by have:=yB h.at_;omega) rfl (by rw[zh];omega) (zIT _ oi) (by omega) (by omega)).mono ?_)⟩
  rintro _ _ ⟨rfl,rfl⟩
  have h2:=h.put hp [.arr 0 9 [zJ n.pivs[i]] false] (vq+2) (cur++txt n.pivs[i])
  have hq:q≠PS1.length:=by have:=yB h.at_;omega
  have g1:=(zO (PS:=PS1++[.arr 0 9 [zJ n.pivs[i]] false]) (n:=PS1.length) (.arr (vq+2) 1 (zD (cur++txt n.pivs[i])) true) hq).trans (zt _ _)
  generalize ((PS1++[zC.arr 0 9 [zJ n.pivs[i]] false]).set q (zC.arr (vq+2) 1 (zD (cur++txt n.pivs[i])) true))=PS2 at h2 g1 ⊢
  have he:yS (n.pivs.take (i+1))=yS (n.pivs.take i)++txt n.pivs[i]:=xH _ _ hlt
  have hcc:b2++yS (n.pivs.take (i+1))=cur++txt n.pivs[i]:=by rw[he,←List.append_assoc,hc]
  simp only[go_sem,seval, -List.reduceReplicate,g1,h2.own,zn]
  refine⟨by omega,(i+1,q,vq+2),?_⟩
  simp only
  refine⟨by omega,⟨by omega,by rw[hcc];exact h2⟩,?_,rfl⟩
  rw[←List.length_append,hcc,List.length_append]
 have hi:i=n.pivs.length:=by omega
 subst hi
 rw[List.take_length] at h
 simp only[go_sem,seval, -List.reduceReplicate,hlt,List.length_map,h.own,zn]
 intro _
 clear hlt
 obtain⟨b3,hb3⟩:∃b3,b3=b2++yS n.pivs:=⟨_,rfl⟩
 have hl3:b3.length=b2.length+(yS n.pivs).length:=by rw[hb3,List.length_append]
 rw[←hb3] at h
 refine zG (zq (α:=Nat×Nat×Nat) [false,false,false,false,false,false,false,false,false,false,false,false,true,false,false,false,false,false,false,false,false,false,false,false,false,false,false,false,false,false,false,false,false,false,false,false,false,false,false,false,false,false,false,false,false,false,false,false,false,false,false,false,false,false,false,false,false,false,false,false,false,false,false,false,false,false,true,true,true,true,true,true,true,true,true,true,true,true,true,true,true,true,true,true,true,true,true,true,true,true,true,true,true,true,true,true,true,true,true,true,true,true,true,true] (fun a=>[(65,.int .i64 a.1),(0,.sl a.2.1 a.2.2 0 (b3++yt (n.msgs.take a.1)).length none)]) (fun a=>n.msgs.length - a.1) (fun a PS'=>a.1≤n.msgs.length∧uH PS p (ze t n) PS' a.2.1 a.2.2 (b3++yt (n.msgs.take a.1))) (0,q,vq) ⟨Nat.zero_le _,by simpa [yt] using h⟩ ?_ ?_)
 ·simp only[go_sem,seval, -List.reduceReplicate,Int.natCast_zero,List.take_zero]
  simp[yt,hl3]
 clear h
 rintro⟨i,q,vq⟩ PS1 ⟨hi,h⟩
 simp only at hi h
 by_cases hlt:i<n.msgs.length
 ·have ha1:n.msgs[i]? =some n.msgs[i]:=by simp[hlt]
  have oi:=ok.msgs _ (List.getElem_mem hlt)
  have o1:n.msgs[i].key.length≤8:=oi.key
  have o2:n.msgs[i].val.length≤16:=oi.val
  have o3:=oi.seq
  have o4:=oi.by_
  have om:=XX hf (List.getElem_mem hlt)
  have m1:=om.lo
  have m2:=om.hi
  have hcur:(b3++yt (n.msgs.take i)).length≤300:=by have:(yt (n.msgs.take i)).length≤(yt n.msgs).length:=kc _ _ _;rw[List.length_append];omega
  generalize hc:b3++yt (n.msgs.take i)=cur at h hcur
  have he:yt (n.msgs.take (i+1))=yt (n.msgs.take i)++yH n.msgs[i]:=xH _ _ hlt
  have hcc:b3++yt (n.msgs.take (i+1))=cur++yH n.msgs[i]:=by rw[he,←List.append_assoc,hc]
  generalize hmm:n.msgs[i]=mm at ha1 oi o1 o2 o3 o4 om m1 m2 hcc
  have hx:∀Q,zA ((PS1++[zC.arr 0 29 [zM mm] false]).set q Q) PS1.length=zC.arr 0 29 [zM mm] false:=fun Q=>(zO Q (by have:=yB h.at_;omega)).trans (zt _ _)
  have ga:=zx [.arr 0 29 [zM mm] false] h.at_
  simp only[go_sem,seval, -List.reduceReplicate,hlt,List.getElem?_map,Option.map_some,ha1,List.length_map,h.own,zn,ga,hx,zo]
  refine⟨by omega,by simp,.inl ⟨by omega,by omega,zG ?_⟩⟩
  obtain⟨k,hk⟩:∃k:Nat,mm.kind=k:=⟨mm.kind.toNat,by omega⟩
  have zd:zD cur++[[HV.int .u8 (IntKind.u8.wrap mm.kind)]]=zD (cur++[UInt8.ofNat k]):=by
   rw[va,hk];simp only[zD,List.map_cons,List.map_nil,wA]
  have h2:=h.put hp [.arr 0 29 [zM mm] false] (vq+1) (cur++[UInt8.ofNat k])
  have g1:=hx (.arr (vq+1) 1 (zD (cur++[UInt8.ofNat k])) true)
  rw[List.drop_zero,zd]
  clear hx ga
  generalize ((PS1++[zC.arr 0 29 [zM mm] false]).set q (zC.arr (vq+1) 1 (zD (cur++[UInt8.ofNat k])) true))=PS2 at h2 g1 ⊢
  have hl4:(cur++[UInt8.ofNat k]).length=cur.length+1:=by simp
  refine(Vt PS2 _ (cur++[UInt8.ofNat k]) mm.seq 8 (by have:=wJ.open h2.at_;rwa [zo,hl4] at this) (by omega) (by omega) (by omega) (by omega)).mono ?_
  rintro _ _ ⟨v3,rfl,rfl⟩
  have h3:=h2.new [] v3 (cur++[UInt8.ofNat k]++za mm.seq 8)
  rw[List.append_nil] at h3
  have g2:=zx [.arr v3 1 (zD (cur++[UInt8.ofNat k]++za mm.seq 8)) true] g1
  have hne:PS1.length≠PS2.length:=by have:=yB g1;omega
  have hl5:(cur++[UInt8.ofNat k]++za mm.seq 8).length=cur.length+9:=by simp[yd]
  generalize PS2++[zC.arr v3 1 (zD (cur++[UInt8.ofNat k]++za mm.seq 8)) true]=PS3 at h3 g2 ⊢
  generalize hc3:cur++[UInt8.ofNat k]++za mm.seq 8=cur3 at h3 hl5 ⊢
  simp only[go_sem,seval, -List.reduceReplicate,g2,h3.own,zn,zo]
  refine⟨by omega,zG ?_⟩
  refine(Xd PS3 PS2.length v3 cur3 mm.key PS1.length 0 0 3 8 29 [zM mm] false (zM mm) h3.at_ g2 hne rfl (by rw[qL];omega) (zEv _ oi.key) (by omega) (by omega)).mono ?_
  rintro _ _ ⟨rfl,rfl⟩
  have h4:=h3.put hp [] (v3+2) (cur3++txt mm.key)
  rw[List.append_nil] at h4
  have g3:=(zO (.arr (v3+2) 1 (zD (cur3++txt mm.key)) true) hne.symm).trans g2
  have hl6:(cur3++txt mm.key).length=cur.length+10+mm.key.length:=by rw[List.length_append,hl5,yl];omega
  generalize (PS3.set PS2.length (zC.arr (v3+2) 1 (zD (cur3++txt mm.key)) true))=PS4 at h4 g3 ⊢
  have hkk:k=1∨k=2∨k=3:=by omega
  rcases hkk with rfl | rfl | rfl
  ·simp only[go_sem,seval, -List.reduceReplicate,g3,h4.own,zn,hk]
   refine⟨by omega,zG ?_⟩
   rw[←List.length_append]
   refine(Xd PS4 PS2.length (v3+2) _ mm.val PS1.length 0 0 12 16 29 [zM mm] false (zM mm) h4.at_ g3 hne rfl (by rw[qL];omega) (zDx _ oi.val) (by omega) (by omega)).mono ?_
   rintro _ _ ⟨rfl,rfl⟩
   have h5:=h4.put hp [] (v3+4) (cur3++txt mm.key++txt mm.val)
   rw[List.append_nil] at h5
   have g4:=(zO (.arr (v3+4) 1 (zD (cur3++txt mm.key++txt mm.val)) true) hne.symm).trans g3
   have hcm:cur++yH mm=cur3++txt mm.key++txt mm.val:=by
    rw[←hc3];simp[yH,hk]
   generalize (PS4.set PS2.length (zC.arr (v3+4) 1 (zD (cur3++txt mm.key++txt mm.val)) true))=PS5 at h5 g4 ⊢
   simp only[go_sem,seval, -List.reduceReplicate,g4,h5.own,zn,hk]
   refine⟨by omega,(i+1,PS2.length,v3+4),?_⟩
   simp only
   refine⟨by omega,⟨by omega,by rw[hcc,hcm];exact h5⟩,?_,rfl⟩
   rw[←List.length_append,hcc,hcm,List.length_append,List.length_append]
  ·have hcm:cur++yH mm=cur3++txt mm.key:=by
    rw[←hc3];simp[yH,hk]
   simp only[go_sem,seval, -List.reduceReplicate,g3,h4.own,zn,hk]
   refine⟨by omega,(i+1,PS2.length,v3+2),?_⟩
   simp only
   refine⟨by omega,⟨by omega,by rw[hcc,hcm];exact h4⟩,?_,rfl⟩
   rw[←List.length_append,hcc,hcm,List.length_append]
  ·simp only[go_sem,seval, -List.reduceReplicate,g3,h4.own,zn,hk]
   refine zG ?_
   rw[←List.length_append]
   refine(Vt PS4 _ (cur3++txt mm.key) mm.by_ 8 (by have:=wJ.open h4.at_;rwa [zo] at this) (by omega) (by omega) (by omega) (by omega)).mono ?_
   rintro _ _ ⟨v5,rfl,rfl⟩
   have h5:=h4.new [] v5 (cur3++txt mm.key++za mm.by_ 8)
   rw[List.append_nil] at h5
   have g4:=zx [.arr v5 1 (zD (cur3++txt mm.key++za mm.by_ 8)) true] g3
   have hcm:cur++yH mm=cur3++txt mm.key++za mm.by_ 8:=by
    rw[←hc3];simp[yH,hk]
   generalize PS4++[zC.arr v5 1 (zD (cur3++txt mm.key++za mm.by_ 8)) true]=PS5 at h5 g4 ⊢
   simp only[go_sem,seval, -List.reduceReplicate,g4,h5.own,zn,hk,zo]
   refine⟨by omega,(i+1,PS4.length,v5),?_⟩
   simp only
   refine⟨by omega,⟨by omega,by rw[hcc,hcm];exact h5⟩,?_,rfl⟩
   rw[←List.length_append,hcc,hcm]
   simp only[List.length_append]
 have hi:i=n.msgs.length:=by omega
 subst hi
 rw[List.take_length] at h
 simp only[go_sem,seval, -List.reduceReplicate,hlt,List.length_map,h.own,zn]
 refine⟨q,vq,?_,?_,h.ext,h.is⟩
 ·rw[List.take_length]
  congr 1
  simp only[yM,List.length_append]
  omega
 ·rw[h.at_]
  simp only[yM,hb3,hb2,hb1,List.append_assoc]
end Go.Proofs.YtbmibhjjogobhaaGreat
namespace Go.Proofs.YtbmibhjjogobhaaGreat
open Go Go.Eng Go.Mo
variable [zB]
set_option maxRecDepth 20000
attribute [local irreducible] hvc zf hop zg yI zb zu yQ
theorem JK (l:Bs):qE l<4294967296:=Nat.xor_lt_two_pow (n:=32) (xC l (by omega)) (by omega)
theorem zAw (PS:PL) (p ver:Nat) (l:Bs) (c:Option Nat) (o:Bool) (hb:zA PS p=.arr ver 1 (zD l) o) (hl:l.length≤1000):
  zI Tryz.prog 126 [.sl p ver 0 l.length c] PS fun r PS'=>r=.imm false (zD (za (qE l) 4))∧PS'=PS:=by
 refine zI.data (JO _ _ _) (Xg.frz (s:=1) ?_)
 refine zLE (by unfold Tryz.f126;exact rfl) ?_
 simp only[go_sem,seval, -List.reduceReplicate]
 refine zG ((zCk PS l (by omega) p ver 0 c _ o hb (by rw[List.drop_zero,List.take_of_length_le (by rw[zo];omega)])).mono ?_)
 rintro _ _ ⟨rfl,rfl⟩
 have:=JK l
 simp only[go_sem,seval, -List.reduceReplicate]
 refine⟨by omega,zG ((Vt _ _ [] (qE l) 4 (wJ.imm (N:=[]) (by simp)) (by simp) (by omega) (by omega) (by omega)).mono ?_)⟩
 rintro r PS' h
 simp only[go_sem,seval, -List.reduceReplicate]
 simpa using h
theorem zIB (n:Nd):zP 4 (List.take 252 (zD (za (qE (yF n)) 4))) (zD (yF n))=zD (zN n):=by
 rw[List.take_of_length_le (by rw[zo,yd];omega)]
 have e:zD (yF n)=zD (yG n)++(zD [0,0,0,0]++(zD (yM n)++zD (List.replicate (248 - (yM n).length) 0))):=by
  rw[yF];simp only[va,List.append_assoc]
 rw[zN]
 simp only[va,List.append_assoc]
 rw[e]
 unfold zP
 have h4:(zD (yG n)).length=4:=by rw[zo,uE]
 have h5:(zD (za (qE (yF n)) 4)).length=4:=by rw[zo,yd]
 rw[List.take_left' h4,h5,←List.drop_drop,List.drop_left' h4,List.drop_left' (by rfl)]
theorem GW (t:Fl) (n:Nd) (ok:okN n) (hf:yf n):Pure Tryz.prog 69 [.agg (ze t n)] (.tup [.imm false (zD (zN n)),.int .i64 0]):=by
 refine Pure.zp (by rw[jn];simp[JO,Zp]) fun PS=>zI.frz ?_
 refine zAg (by unfold Tryz.f69;exact rfl) ?_
 have hlen:=xW ok hf
 simp only[go_sem,seval, -List.reduceReplicate,zn]
 refine⟨js t n,zG ((JM t n ok).call ?_)⟩
 rw[yN hf]
 by_cases hl:n.leaf=true
 have eh:yG n=[1,UInt8.ofNat n.ents.length,UInt8.ofNat n.msgs.length,0]:=by simp[yG,hl]
 simp only[go_sem,seval, -List.reduceReplicate,zn,hl,List.length_map]
 refine⟨by kernel_rfl,by simp,zG ?_⟩
 have zd:[[HV.int .u8 1],[HV.int .u8 (IntKind.u8.wrap (n.ents.length:Nat))],[HV.int .u8 (IntKind.u8.wrap (n.msgs.length:Nat))],[HV.int .u8 0]]++List.replicate (Int.toNat 4) [HV.int .u8 0]=zD (yG n++[0,0,0,0]):=by
  rw[eh]
  simp only[zD,List.map_cons,List.map_nil,List.cons_append,List.nil_append,wA];rfl
 rotate_left
 have hl':n.leaf=false:=by simpa using hl
 have eh:yG n=[2,UInt8.ofNat n.kids.length,UInt8.ofNat n.msgs.length,0]:=by simp[yG,hl']
 simp only[go_sem,seval, -List.reduceReplicate,zn,hl',List.length_map]
 refine⟨by kernel_rfl,by simp,zG ?_⟩
 have zd:[[HV.int .u8 2],[HV.int .u8 (IntKind.u8.wrap (n.kids.length:Nat))],[HV.int .u8 (IntKind.u8.wrap (n.msgs.length:Nat))],[HV.int .u8 0]]++List.replicate (Int.toNat 4) [HV.int .u8 0]=zD (yG n++[0,0,0,0]):=by
  rw[eh]
  simp only[zD,List.map_cons,List.map_nil,List.cons_append,List.nil_append,wA];rfl
 all_goals
  rw[zd]
  have hg0:zA (PS++[zC.arr 0 5 [ze t n] false]++[zC.arr 0 1 (zD (yG n++[0,0,0,0])) true]) (PS++[zC.arr 0 5 [ze t n] false]).length=.arr 0 1 (zD (yG n++[0,0,0,0])) true:=zt _ _
  refine(zIw t n ok hf _ _ 0 (yG n++[0,0,0,0]) hg0 (by simp[uE])).mono ?_
  have hx0:Ext [] PS (PS++[zC.arr 0 5 [ze t n] false]++[zC.arr 0 1 (zD (yG n++[0,0,0,0])) true]):=by rw[List.append_assoc];exact Ext.app _ _
  have hn0:zA (PS++[zC.arr 0 5 [ze t n] false]++[zC.arr 0 1 (zD (yG n++[0,0,0,0])) true]) PS.length=.arr 0 5 [ze t n] false:=zx _ (zt _ _)
  generalize (PS++[zC.arr 0 5 [ze t n] false]++[zC.arr 0 1 (zD (yG n++[0,0,0,0])) true])=PS1 at hx0 hn0
  rintro _ PS2 ⟨p,vp,rfl,hp,hx,hpp⟩
  have hpl:PS.length<p:=by have:=hx0.1;simp at hpp;omega
  have hn2:=hx.get hn0 (by simp)
  have hx2:Ext [] PS PS2:=hx0.since hx (by intro m hm;simp at hm;subst hm;right;simp)
  have hl8:(yG n++[0,0,0,0]++yM n).length=8+(yM n).length:=by simp[uE];omega
  generalize hc:yG n++[0,0,0,0]++yM n=cur at hp hl8 ⊢
  have hy:∀Q,zA (PS2.set p Q) p=Q:=fun Q=>zk Q hp
  have hz:(256 - ((8+(yM n).length:Nat):Int)).toNat=248 - (yM n).length:=by omega
  have hraw:zD cur++List.replicate (248 - (yM n).length) [HV.int .u8 0]=zD (yF n):=by
   rw[yF,hc,va];simp[zD]
  have hw:8+(yM n).length+(248 - (yM n).length)=256:=by omega
  have hrl:=Jf ok hf
  simp only[go_sem,seval, -List.reduceReplicate,hn2,hp,hy,zn,hl,List.length_map,zo,hl8,hz,hraw,hw,List.drop_zero,List.length_replicate]
  intro _
  refine⟨by omega,by kernel_rfl,by omega,by omega,by omega,?_⟩
  have hne:¬zD (yF n)=[]:=by
   intro h;have:=congrArg List.length h;rw[zo,hrl] at this;simp at this
  refine .inl ⟨hne,by omega,zG ?_⟩
  have h3:=hy (.arr (vp+1) 1 (zD (yF n)) true)
  have hn3:=(zO (.arr (vp+1) 1 (zD (yF n)) true) (by omega:p≠PS.length)).trans hn2
  have hx3:Ext [] PS (PS2.set p (.arr (vp+1) 1 (zD (yF n)) true)):=hx2.since (Ext.set PS2 p _) (by intro m hm;simp at hm;subst hm;right;omega)
  have hlt3:p<(PS2.set p (.arr (vp+1) 1 (zD (yF n)) true)).length:=yB h3
  clear hy
  generalize PS2.set p (.arr (vp+1) 1 (zD (yF n)) true)=PS3 at h3 hn3 hx3 hlt3 ⊢
  have hr:Reads Tryz.prog 126 [.sl p (vp+1) 0 256 none] PS3 (.imm false (zD (za (qE (yF n)) 4))):=fun Q hq=>by
   have:=zAw Q p (vp+1) (yF n) none true (hq.arr h3) (by omega)
   rwa [hrl] at this
  refine hr.to ?_
  have hy:∀Q,zA (PS3.set p Q) p=Q:=fun Q=>zk Q h3
  simp only[go_sem,seval, -List.reduceReplicate,h3,hn3,hy,zn,hl,zo,hrl,yd]
  rw[zIB]
  refine⟨hne,p,vp+1,1,_,true,_,_,hy _,uw.tup (.cons (.sl 0 256 none (by rw[zo,kN ok hf];omega)) (.cons (.same _) (.nil ..))),wD.only (by simpa using hlt3),?_,?_⟩
  ·rw[List.drop_zero,List.take_of_length_le (by rw[zo,kN ok hf];omega)]
  ·rw[List.set_set]
   exact hx3.since (Ext.set PS3 p _) (by intro m hm;simp at hm;subst hm;right;omega)
end Go.Proofs.YtbmibhjjogobhaaGreat
namespace Go.Proofs.YtbmibhjjogobhaaGreat
open Go Go.Eng Go.Mo
variable [zB]
set_option maxRecDepth 20000
attribute [local irreducible] hvc zf hop zg yI zb zu yQ
theorem zJe (x c:Nat) (hx:x<4294967296) (hc:c<256):Pure Tryz.prog 218 [.int .u32 x,.int .u8 c] (.int .u32 ((yR 8 (x ^^^ c):Nat):Int)):=by
 refine Pure.zp (.int _ _) fun PS=>?_
 refine zRF (by unfold Tryz.f218;exact rfl) ?_
 have hz:x ^^^ c<4294967296:=Nat.xor_lt_two_pow (n:=32) (by omega) (by omega)
 have e0:yZ .xor .u32 (x:Int) (c:Int)=((x ^^^ c:Nat):Int):=Zc x c hx (by omega)
 have e1:IntKind.u32.wrap (c:Int)=(c:Int):=by show (c:Int) % 4294967296=_;omega
 simp only[go_sem,seval, -List.reduceReplicate,e0,e1]
 refine zG (zq (α:=Nat) [false,false,false,false,false,false,true,false,false,false,false,true,true,true,true,true,true,true,true,true,true,true,true] (fun i=>[(5,.int .i64 i),(0,.int .u32 (yR i (x ^^^ c):Nat))]) (fun i=>8 - i) (fun i PS'=>i≤8∧PS'=PS) 0 ⟨Nat.zero_le _,rfl⟩ ?_ ?_)
 ·simp only[go_sem,seval, -List.reduceReplicate,Int.natCast_zero,yR]
 ·rintro i PS' ⟨hi,rfl⟩
  by_cases hlt:(i:Int)<8
  ·have hy:=YS i hz
   have hb1:yR (i+1) (x ^^^ c)=wF (yR i (x ^^^ c)):=rfl
   generalize yR i (x ^^^ c)=y at hy hb1 ⊢
   have ea:yZ .and .u32 (y:Int) 1=((y % 2:Nat):Int):=by
    have:=zD2 y 1 hy (by omega)
    rw[show ((1:Nat):Int)=1 from rfl] at this
    rw[this,Nat.and_one_is_mod]
   have es:=Jb y
   by_cases ho:y % 2=1
   ·have ex:yZ .xor .u32 ((y / 2:Nat):Int) 3988292384=((y / 2 ^^^ 3988292384:Nat):Int):=Zc (y / 2) 3988292384 (by omega) (by omega)
    simp only[go_sem,seval, -List.reduceReplicate,hlt,ea,es,ho,ex]
    refine⟨by omega,i+1,by omega,by omega,?_,rfl⟩
    rw[hb1,wF,if_pos ho]
   ·have ho':y % 2=0:=by omega
    simp only[go_sem,seval, -List.reduceReplicate,hlt,ea,es,ho',Int.natCast_zero]
    refine⟨by omega,i+1,by omega,by omega,?_,rfl⟩
    rw[hb1,wF,if_neg ho]
  ·simp only[go_sem,seval, -List.reduceReplicate,hlt]
   have:i=8:=by omega
   subst this
   exact⟨rfl,Ext.refl _⟩
theorem zRf (PS:PL) (p ver:Nat) (l:Bs) (c:Option Nat) (o:Bool) (hb:zA PS p=.arr ver 1 (zD l) o) (hl:l.length≤1000):
  zI Tryz.prog 129 [.int .u32 0,.sl p ver 0 l.length c] PS fun r PS'=>r=.int .u32 (qE l:Nat)∧PS'=PS:=by
 refine zHM (by unfold Tryz.f129;exact rfl) ?_
 have e0:=xQ 0 (by omega)
 simp only[go_sem,seval, -List.reduceReplicate,e0]
 refine zG (zq (α:=Nat) [false,false,false,false,false,false,false,false,false,true,true,true,true,true,true,true,true,true,true,true,true] (fun i=>[(6,.int .i64 i),(5,.int .u32 (qj 4294967295 (l.take i):Nat))]) (fun i=>l.length - i) (fun i PS'=>i≤l.length∧PS'=PS) 0 ⟨Nat.zero_le _,rfl⟩ ?_ ?_)
 ·simp only[go_sem,seval, -List.reduceReplicate,Int.natCast_zero,List.take_zero,e0]
  rfl
 ·rintro i PS' ⟨hi,rfl⟩
  by_cases hlt:i<l.length
  ·have ha1:(zD l)[i]? =some [.int .u8 l[i].toNat]:=ja l i hlt
   have hy:=xC (l.take i) (x:=4294967295) (by omega)
   have hs:qj 4294967295 (l.take (i+1))=yR 8 (qj 4294967295 (l.take i) ^^^ l[i].toNat):=by
    rw[List.take_succ_eq_append_getElem hlt,zEs,zNF];rfl
   simp only[go_sem,seval, -List.reduceReplicate,hlt,hb,zo,ha1]
   intro _
   refine zG ((zJe _ _ hy l[i].toNat_lt).call ?_)
   simp only[go_sem,seval, -List.reduceReplicate]
   exact⟨by omega,i+1,by omega,by omega,by rw[hs],rfl⟩
  ·have e2:=xQ (qj 4294967295 (l.take i)) (xC _ (by omega))
   have:i=l.length:=by omega
   subst this
   rw[List.take_length] at e2
   simp only[go_sem,seval, -List.reduceReplicate,hlt,hb,zo,List.take_length,e2]
   intro _
   exact congrArg (HV.int .u32) e2
theorem zCc (PS:PL) (p ver:Nat) (l:Bs) (c:Option Nat) (o:Bool) (hb:zA PS p=.arr ver 1 (zD l) o) (hl:l.length≤1000):
  zI Tryz.prog 74 [.sl p ver 0 l.length c] PS fun r PS'=>r=.int .u32 (qE l:Nat)∧PS'=PS:=by
 refine zOz (by unfold Tryz.f74;exact rfl) ?_
 simp only[go_sem,seval, -List.reduceReplicate]
 refine zG ((zRf PS p ver l c o hb hl).mono ?_)
 rintro _ _ ⟨rfl,rfl⟩
 simp only[go_sem,seval, -List.reduceReplicate]
end Go.Proofs.YtbmibhjjogobhaaGreat
namespace Go.Mo
open Go Go.Eng
variable [zB]
/-- Bytes so far,at first a literal;the node's own piece. -/
structure RAt (PS:PL) (row:List HV) (PS':PL) (x:HV) (b:Bs):Prop where
 at_:(x=.imm true (zD b)∧b.length=8)∨∃p ver,x=.sl p ver 0 b.length none∧PS.length<p∧zA PS' p=.arr ver 1 (zD b) true
 own:zA PS' PS.length=.arr 0 5 [row] false
 ext:Ext [] PS PS'
theorem RAt.app {PS PS':PL} {row:List HV} {x:HV} {b:Bs} (h:RAt PS row PS' x b) (l:PL):RAt PS row (PS'++l) x b:=
 ⟨h.at_.imp id fun⟨p,ver,h1,h2,h3⟩=>⟨p,ver,h1,h2,zx l h3⟩,zx l h.own,h.ext.trans (Ext.app _ _)⟩
theorem RAt.lt {PS PS':PL} {row:List HV} {x:HV} {b:Bs} (h:RAt PS row PS' x b) {p ver len:Nat} {c:Option Nat} (hx:x=.sl p ver 0 len c):p<PS'.length:=by
 rcases h.at_ with ⟨h1,_⟩ | ⟨q,v,h1,_,h3⟩
 ·rw[h1] at hx;cases hx
 ·rw[h1] at hx;cases hx;exact yB h3
theorem RAt.from_ {PS PS':PL} {row:List HV} {x:HV} {b:Bs} (h:RAt PS row PS' x b):wJ PS' 1 x (zD b):=by
 rcases h.at_ with ⟨rfl,_⟩ | ⟨p,ver,rfl,_,h3⟩
 ·exact wJ.bytes b
 ·have:=wJ.open h3;rwa [zo] at this
theorem RAt.new {PS PS1:PL} {row:List HV} {x:HV} {b:Bs} (h:RAt PS row PS1 x b) (v:Nat) (b':Bs):RAt PS row (PS1++[.arr v 1 (zD b') true]) (.sl PS1.length v 0 b'.length none) b':=
 ⟨.inr ⟨_,v,rfl,yB h.own,zt _ _⟩,zx _ h.own,h.ext.trans (Ext.app _ _)⟩
theorem RAt.set {PS PS1:PL} {row:List HV} {x:HV} {b:Bs} (h:RAt PS row PS1 x b) {p v0:Nat} {E:List (List HV)} {o:Bool} (hp:zA PS1 p=.arr v0 1 E o) (hlt:PS.length<p) (v:Nat) (b':Bs):RAt PS row (PS1.set p (.arr v 1 (zD b') true)) (.sl p v 0 b'.length none) b':=
 ⟨.inr ⟨_,v,rfl,hlt,zk _ hp⟩,(zO _ (by omega)).trans h.own,h.ext.since (Ext.set PS1 p _) (by intro m hm;simp at hm;subst hm;right;omega)⟩
end Go.Mo
namespace Go.Proofs.YtbmibhjjogobhaaGreat
open Go Go.Eng Go.Mo
variable [zB]
set_option maxRecDepth 20000
attribute [local irreducible] hvc zf hop zg yI zb zu yQ
theorem Ul {PS PS1:PL} {nrow:List HV} {x:HV} {b:Bs} (h:RAt PS nrow PS1 x b) (s:Bs) (q vq i k c sz N:Nat) (E:List (List HV)) (o:Bool) (row:List HV) (hq:zA PS1 q=.arr vq sz E o) (hpq:∀p ver len c,x=.sl p ver 0 len c→q≠p)
  (hr:E[i]? =some row) (hn:s.length≤N) (hc:N≤c) (hk:k+N≤row.length) (hs:(row.drop k).take s.length=u8s s) (hsl:s.length≤255) (hbl:b.length≤1000):
  zI Tryz.prog 72 [x,.int .i64 s.length,.isl q vq i k N c] PS1 fun r PS'=>RAt PS nrow PS' r (b++txt s)∧zA PS' q=.arr vq sz E o∧∀p ver len c,r=.sl p ver 0 len c→q≠p:=by
 rcases h.at_ with ⟨rfl,_⟩ | ⟨p,ver,rfl,hlt,hb⟩
 ·refine Wy (by unfold Tryz.f72;exact rfl) ?_
  have hx:∀Q,zA (PS1++[Q]) q=.arr vq sz E o:=fun Q=>zx _ hq
  have hy:∀Q,zA (PS1++[Q]) PS1.length=Q:=fun Q=>zt _ _
  have hz:∀Q Q',(PS1++[Q]).set PS1.length Q'=PS1++[Q']:=fun Q Q'=>by simp
  simp only[go_sem,seval, -List.reduceReplicate,zo,hq,hx,hy,hz,hr,hs,Vx,List.drop_zero]
  have e:zD b++[[HV.int .u8 (IntKind.u8.wrap (s.length:Nat))]]++zD s=zD (b++txt s):=by
   rw[va,txt,Ut,List.append_assoc,wA];rfl
  refine⟨by simp,by omega,.inr (by rintro rfl;simp at hr),by omega,by omega,.inl ⟨by omega,?_⟩⟩
  rw[e]
  have:=h.new 1 (b++txt s)
  rw[show (b++txt s).length=b.length+1+s.length by rw[List.length_append,yl];omega] at this
  have hlq:=yB hq
  exact⟨this,fun p ver len c h1=>by cases h1;omega⟩
 ·refine(zQM PS1 p ver b s q vq i k c sz N E o row hb hq (hpq _ _ _ _ rfl) hr hn hc hk hs hsl hbl).mono ?_
  rintro _ _ ⟨rfl,rfl⟩
  exact⟨h.set hb hlt _ _,(zO _ (hpq _ _ _ _ rfl).symm).trans hq,fun p' ver' len c h1=>by cases h1;exact hpq _ _ _ _ rfl⟩
theorem zQc {PS PS1:PL} {nrow:List HV} {x:HV} {b:Bs} (h:RAt PS nrow PS1 x b) (s S:Bs) (t:Bool) (hn:s.length≤S.length) (hs:S.take s.length=s) (hsl:s.length≤255) (hbl:b.length≤1000):
  zI Tryz.prog 72 [x,.int .i64 s.length,.imm t (zD S)] PS1 fun r PS'=>RAt PS nrow PS' r (b++txt s)∧Ext [] PS PS':=by
 have hts:List.take s.length (zD S)=zD s:=by unfold zD;rw[←List.map_take,hs]
 have e:zD b++[[HV.int .u8 (IntKind.u8.wrap (s.length:Nat))]]++zD s=zD (b++txt s):=by
  rw[va,txt,Ut,List.append_assoc,wA];rfl
 rcases h.at_ with ⟨rfl,_⟩ | ⟨p,ver,rfl,hlt,hb⟩
 ·refine Wy (by unfold Tryz.f72;exact rfl) ?_
  have hy:∀Q,zA (PS1++[Q]) PS1.length=Q:=fun Q=>zt _ _
  have hz:∀Q Q',(PS1++[Q]).set PS1.length Q'=PS1++[Q']:=fun Q Q'=>by simp
  simp only[go_sem,seval, -List.reduceReplicate,zo,hy,hz,hts,List.drop_zero]
  refine⟨by simp,by omega,by omega,.inl ⟨by omega,?_⟩⟩
  rw[e]
  have:=h.new 1 (b++txt s)
  rw[show (b++txt s).length=b.length+1+s.length by rw[List.length_append,yl];omega] at this
  exact⟨this,this.ext⟩
 ·refine Wy (by unfold Tryz.f72;exact rfl) ?_
  have hy:∀Q,zA (PS1.set p Q) p=Q:=fun Q=>zk Q hb
  simp only[go_sem,seval, -List.reduceReplicate,hb,zo,hy,hts,List.set_set,List.drop_zero]
  refine⟨by simp,.inl ⟨by omega,by omega,.inl ⟨by omega,?_⟩⟩⟩
  rw[e]
  have:=h.set hb hlt (ver+1+1) (b++txt s)
  rw[show (b++txt s).length=b.length+1+s.length by rw[List.length_append,yl];omega] at this
  exact⟨this,this.ext⟩
theorem WJ {PS PS1:PL} {nrow:List HV} {x:HV} {b:Bs} (h:RAt PS nrow PS1 x b) (n w:Nat) (hb:b.length≤1000) (hn:n<18446744073709551616) (h1:1≤w) (h2:w≤8):
  zI Tryz.prog 73 [x,.int .u64 n,.int .i64 w] PS1 fun r PS'=>RAt PS nrow PS' r (b++za n w)∧(∃l,PS'=PS1++l)∧∀q,q<PS1.length→∀p ver len c,r=.sl p ver 0 len c→q≠p:=by
 refine(Ko PS1 x b n w h.from_ hb hn h1 h2).mono ?_
 rintro _ _ ⟨v,rfl,rfl⟩
 have:=h.new v (b++za n w)
 rw[zo]
 exact⟨this,⟨_,rfl⟩,fun q hq p ver len c h1=>by cases h1;omega⟩
theorem zHb (n:Nd) (S R:Bs) (hS:S.length=4) (i:Nat) (hi:i<4):(yG n++(S.take i++List.replicate (4 - i) 0)++R).set (4+i) (S[i]'(by omega))=yG n++(S.take (i+1)++List.replicate (4 - (i+1)) 0)++R:=by
 match S,hS with
 | [a,b,c,d],_=>
  rcases (by omega:i=0∨i=1∨i=2∨i=3) with rfl | rfl | rfl | rfl<;>rfl
set_option maxHeartbeats 2000000 in
theorem zBF (t:Fl) (n:Nd) (ok:okN n) (hf:yf n):Pure Tryz.prog 36 [.agg (ze t n)] (.tup [.imm false (zD (zN n)),.int .i64 0]):=by
 refine Pure.zp (by rw[jn];simp[JO,Zp]) fun PS=>zI.frz ?_
 refine zG9 (by unfold Tryz.f36;exact rfl) ?_
 have hlen:=xW ok hf
 simp only[yM,List.length_append] at hlen
 obtain⟨f1,f2,f3,f4⟩:=ok.few
 simp only[go_sem,seval, -List.reduceReplicate,zn]
 refine⟨js t n,zG ((zBj t n ok).call ?_)⟩
 rw[yN hf]
 by_cases hl:n.leaf=true
 have eh:zD (yG n++[0,0,0,0])=[[HV.int .u8 1],[HV.int .u8 (IntKind.u8.wrap (n.ents.length:Nat))],[HV.int .u8 (IntKind.u8.wrap (n.msgs.length:Nat))],[HV.int .u8 0],[HV.int .u8 0],[HV.int .u8 0],[HV.int .u8 0],[HV.int .u8 0]]:=by
  simp only[yG,hl,if_true,zD,List.map_cons,List.map_nil,List.cons_append,List.nil_append,wA];rfl
 simp only[go_sem,seval, -List.reduceReplicate,zn,hl,List.length_map]
 intro _
 rw[←eh]
 rotate_left
 have hl':n.leaf=false:=by simpa using hl
 have eh:zD (yG n++[0,0,0,0])=[[HV.int .u8 2],[HV.int .u8 (IntKind.u8.wrap (n.kids.length:Nat))],[HV.int .u8 (IntKind.u8.wrap (n.msgs.length:Nat))],[HV.int .u8 0],[HV.int .u8 0],[HV.int .u8 0],[HV.int .u8 0],[HV.int .u8 0]]:=by
  simp only[yG,hl',zD,List.map_cons,List.map_nil,List.cons_append,List.nil_append,wA];rfl
 simp only[go_sem,seval, -List.reduceReplicate,zn,hl',List.length_map]
 intro _
 rw[←eh]
 all_goals
  refine zG (zq (α:=Nat×HV) [false,false,false,false,false,false,false,false,true,false,false,false,false,false,false,false,false,false,false,false,false,false,false,false,false,false,false,false,false,false,false,false,false,false,false,true,true,true,true,true,true,true,true,true,true,true,true,true,true,true,true,true,true,true,true,true,true,true,true,true,true,true,true] (fun a=>[(7,.int .i64 a.1),(6,a.2)]) (fun a=>n.ents.length - a.1) (fun a PS'=>a.1≤n.ents.length∧RAt PS (ze t n) PS' a.2 (yG n++[0,0,0,0]++yP (n.ents.take a.1))) (0,.imm true (zD (yG n++[0,0,0,0]))) ⟨Nat.zero_le _,.inl ⟨by simp[yP],by simp[yP,uE]⟩,zt _ _,Ext.app _ _⟩ ?_ ?_)
  ·simp only[go_sem,seval, -List.reduceReplicate,Int.natCast_zero]
  rintro⟨i,x⟩ PS1 ⟨hi,h⟩
  simp only at hi h
  by_cases hlt:i<n.ents.length
  ·have ha1:n.ents[i]? =some n.ents[i]:=by simp[hlt]
   have oi:=ok.ents _ (List.getElem_mem hlt)
   have o1:n.ents[i].1.length≤8:=oi.1
   have o2:n.ents[i].2.length≤16:=oi.2
   have he:yP (n.ents.take (i+1))=yP (n.ents.take i)++qF n.ents[i]:=xH _ _ hlt
   have hcur:(yG n++[0,0,0,0]++yP (n.ents.take i)).length≤300:=by have:(yP (n.ents.take i)).length≤(yP n.ents).length:=kc _ _ _;simp[uE];omega
   generalize hc:yG n++[0,0,0,0]++yP (n.ents.take i)=cur at h hcur
   have hcc:yG n++[0,0,0,0]++yP (n.ents.take (i+1))=cur++txt n.ents[i].1++txt n.ents[i].2:=by rw[he,←List.append_assoc,hc,qF,List.append_assoc]
   simp only[go_sem,seval, -List.reduceReplicate,hlt,List.getElem?_map,Option.map_some,ha1,List.length_map,h.own,zn]
   intro _
   refine zG ?_
   have h1:=h.app [.arr 0 26 [zR n.ents[i]] false]
   refine(Ul h1 n.ents[i].1 PS1.length 0 0 1 8 26 8 [zR n.ents[i]] false (zR n.ents[i]) (zt _ _) (fun p ver len c hx=>by have:=h.lt hx;omega) rfl o1 (by omega) (by rw[yi];omega) (zBl _ oi.1) (by omega) (by omega)).mono ?_
   rintro x2 PS2 ⟨h2,g2,q2⟩
   simp only[go_sem,seval, -List.reduceReplicate,g2,h2.own,zn]
   refine zG ((Ul h2 n.ents[i].2 PS1.length 0 0 10 16 26 16 [zR n.ents[i]] false (zR n.ents[i]) g2 q2 rfl o2 (by omega) (by rw[yi];omega) (zCj _ oi.2) (by omega) (by simp[yl];omega)).mono ?_)
   rintro x3 PS3 ⟨h3,g3,_⟩
   simp only[go_sem,seval, -List.reduceReplicate,g3,h3.own,zn]
   exact⟨by omega,(i+1,x3),by simp only;omega,⟨by simp only;omega,by rw[hcc];exact h3⟩,.inl rfl,rfl⟩
  have hi:i=n.ents.length:=by omega
  subst hi
  rw[List.take_length] at h
  simp only[go_sem,seval, -List.reduceReplicate,hlt,List.length_map,h.own,zn]
  intro _
  clear hlt
  have hb1:(yG n++[0,0,0,0]++yP n.ents).length=8+(yP n.ents).length:=by simp[uE];omega
  obtain⟨b1,eb1⟩:∃b1,b1=yG n++[0,0,0,0]++yP n.ents:=⟨_,rfl⟩
  rw[←eb1] at h hb1
  refine zG (zq (α:=Nat×HV) [false,false,false,false,false,false,false,false,false,false,false,false,false,false,false,false,false,false,false,false,false,false,false,false,false,false,false,false,false,false,false,false,false,false,false,false,false,false,false,false,false,false,false,false,false,false,false,false,false,false,false,false,false,false,false,false,false,false,false,false,false,false,false,true,true,true,true,true,true,true,true,true,true,true,true,true,true,true] (fun a=>[(9,.int .i64 a.1),(6,a.2)]) (fun a=>n.kids.length - a.1) (fun a PS'=>a.1≤n.kids.length∧RAt PS (ze t n) PS' a.2 (b1++yO (n.kids.take a.1))) (0,x) ⟨Nat.zero_le _,by simpa [yO] using h⟩ ?_ ?_)
  ·simp only[go_sem,seval, -List.reduceReplicate,Int.natCast_zero]
  clear h
  rintro⟨i,x⟩ PS1 ⟨hi,h⟩
  simp only at hi h
  by_cases hlt:i<n.kids.length
  ·have ha1:n.kids[i]? =some n.kids[i]:=by simp[hlt]
   have hpos:1≤n.kids[i]∧n.kids[i]<256:=VA hf ha1
   obtain⟨m,hm⟩:∃m:Nat,n.kids[i]=m:=⟨n.kids[i].toNat,by omega⟩
   have he:yO (n.kids.take (i+1))=yO (n.kids.take i)++qN n.kids[i]:=xH _ _ hlt
   have hcur:(b1++yO (n.kids.take i)).length≤300:=by have:(yO (n.kids.take i)).length≤(yO n.kids).length:=kc _ _ _;rw[List.length_append];omega
   generalize hc:b1++yO (n.kids.take i)=cur at h hcur
   have hcc:b1++yO (n.kids.take (i+1))=cur++za m 4:=by rw[he,←List.append_assoc,hc,qN,hm];rfl
   simp only[go_sem,seval, -List.reduceReplicate,hlt,List.getElem?_map,Option.map_some,ha1,List.length_map,h.own,zn,zY,hm]
   intro _
   refine⟨by omega,zG ((WJ h m 4 (by omega) (by omega) (by omega) (by omega)).mono ?_)⟩
   rintro x2 PS2 ⟨h2,⟨l,rfl⟩,_⟩
   simp only[go_sem,seval, -List.reduceReplicate,h2.own,zn]
   exact⟨by omega,(i+1,x2),by simp only;omega,⟨by simp only;omega,by rw[hcc];exact h2⟩,.inl rfl,rfl⟩
  have hi:i=n.kids.length:=by omega
  subst hi
  rw[List.take_length] at h
  simp only[go_sem,seval, -List.reduceReplicate,hlt,List.length_map,h.own,zn]
  intro _
  clear hlt
  have hb2:(b1++yO n.kids).length=b1.length+(yO n.kids).length:=by rw[List.length_append]
  obtain⟨b2,eb2⟩:∃b2,b2=b1++yO n.kids:=⟨_,rfl⟩
  rw[←eb2] at h hb2
  refine zG (zq (α:=Nat×HV) [false,false,false,false,false,false,false,false,false,false,false,false,false,false,false,false,false,false,false,false,false,false,false,false,false,false,false,false,false,false,false,false,false,false,false,false,false,false,false,false,false,false,false,false,false,false,false,false,false,false,false,false,false,false,false,false,false,false,false,false,false,false,false,false,false,false,false,false,false,false,false,false,false,false,false,false,false,false,true,true,true,true,true,true,true,true,true,true,true,true,true,true,true,true,true,true,true,true,true] (fun a=>[(10,.int .i64 a.1),(6,a.2)]) (fun a=>n.pivs.length - a.1) (fun a PS'=>a.1≤n.pivs.length∧RAt PS (ze t n) PS' a.2 (b2++yS (n.pivs.take a.1))) (0,x) ⟨Nat.zero_le _,by simpa [yS] using h⟩ ?_ ?_)
  ·simp only[go_sem,seval, -List.reduceReplicate,Int.natCast_zero]
  clear h
  rintro⟨i,x⟩ PS1 ⟨hi,h⟩
  simp only at hi h
  by_cases hlt:i<n.pivs.length
  ·have ha1:n.pivs[i]? =some n.pivs[i]:=by simp[hlt]
   have oi:=ok.pivs _ (List.getElem_mem hlt)
   have o1:n.pivs[i].length≤8:=oi
   have he:yS (n.pivs.take (i+1))=yS (n.pivs.take i)++txt n.pivs[i]:=xH _ _ hlt
   have hcur:(b2++yS (n.pivs.take i)).length≤300:=by have:(yS (n.pivs.take i)).length≤(yS n.pivs).length:=kc _ _ _;rw[List.length_append];omega
   generalize hc:b2++yS (n.pivs.take i)=cur at h hcur
   have hcc:b2++yS (n.pivs.take (i+1))=cur++txt n.pivs[i]:=by rw[he,←List.append_assoc,hc]
   have hpt:(pad 8 n.pivs[i]).take n.pivs[i].length=n.pivs[i]:=by rw[ug o1,List.take_left' rfl]
   have hpl:(pad 8 n.pivs[i]).length=8:=wC _ _
   simp only[go_sem,seval, -List.reduceReplicate,hlt,List.getElem?_map,Option.map_some,ha1,List.length_map,h.own,zn,Vx]
   intro _
   refine zG ((zQc h n.pivs[i] (pad 8 n.pivs[i]) _ (by omega) hpt (by omega) (by omega)).mono ?_)
   rintro x2 PS2 ⟨h2,_⟩
   simp only[go_sem,seval, -List.reduceReplicate,h2.own,zn]
   exact⟨by omega,(i+1,x2),by simp only;omega,⟨by simp only;omega,by rw[hcc];exact h2⟩,.inl rfl,rfl⟩
  have hi:i=n.pivs.length:=by omega
  subst hi
  rw[List.take_length] at h
  simp only[go_sem,seval, -List.reduceReplicate,hlt,List.length_map,h.own,zn]
  intro _
  clear hlt
  have hb3:(b2++yS n.pivs).length=b2.length+(yS n.pivs).length:=by rw[List.length_append]
  obtain⟨b3,eb3⟩:∃b3,b3=b2++yS n.pivs:=⟨_,rfl⟩
  rw[←eb3] at h hb3
  refine zG (zq (α:=Nat×HV) [false,false,false,false,false,false,false,false,false,false,false,false,true,false,false,false,false,false,false,false,false,false,false,false,false,false,false,false,false,false,false,false,false,false,false,false,false,false,false,false,false,false,false,false,false,false,false,false,false,false,false,false,false,false,false,false,false,false,false,false,false,false,false,false,false,false,false,false,false,false,false,false,false,false,false,false,false,false,false,false,false,false,false,false,false,false,false,false,false,false,false,false,false,false,false,false,false,false,false,true,true,true,true,true,true,true,true,true,true,true,true,true,true,true,true,true,true,true,true,true,true,true,true,true,true,true,true,true,true,true,true,true,true,true,true,true,true,true,true,true,true,true,true,true,true,true,true] (fun a=>[(11,.int .i64 a.1),(6,a.2)]) (fun a=>n.msgs.length - a.1) (fun a PS'=>a.1≤n.msgs.length∧RAt PS (ze t n) PS' a.2 (b3++yt (n.msgs.take a.1))) (0,x) ⟨Nat.zero_le _,by simpa [yt] using h⟩ ?_ ?_)
  ·simp only[go_sem,seval, -List.reduceReplicate,Int.natCast_zero]
  clear h
  rintro⟨i,x⟩ PS1 ⟨hi,h⟩
  simp only at hi h
  by_cases hlt:i<n.msgs.length
  ·have ha1:n.msgs[i]? =some n.msgs[i]:=by simp[hlt]
   have oi:=ok.msgs _ (List.getElem_mem hlt)
   have o1:n.msgs[i].key.length≤8:=oi.key
   have o2:n.msgs[i].val.length≤16:=oi.val
   have o3:=oi.seq
   have o4:=oi.by_
   have om:=XX hf (List.getElem_mem hlt)
   have m1:=om.lo
   have m2:=om.hi
   have hcur:(b3++yt (n.msgs.take i)).length≤300:=by have:(yt (n.msgs.take i)).length≤(yt n.msgs).length:=kc _ _ _;rw[List.length_append];omega
   generalize hc:b3++yt (n.msgs.take i)=cur at h hcur
   have he:yt (n.msgs.take (i+1))=yt (n.msgs.take i)++yH n.msgs[i]:=xH _ _ hlt
   have hcc:b3++yt (n.msgs.take (i+1))=cur++yH n.msgs[i]:=by rw[he,←List.append_assoc,hc]
   generalize hmm:n.msgs[i]=mm at ha1 oi o1 o2 o3 o4 om m1 m2 hcc
   obtain⟨k,hk⟩:∃k:Nat,mm.kind=k:=⟨mm.kind.toNat,by omega⟩
   have g0:zA (PS1++[.arr 0 29 [zM mm] false]) PS1.length=.arr 0 29 [zM mm] false:=zt _ _
   have h1:=h.app [.arr 0 29 [zM mm] false]
   have zd:zD cur++[[HV.int .u8 (IntKind.u8.wrap mm.kind)]]=zD (cur++[UInt8.ofNat k]):=by
    rw[va,hk];simp only[zD,List.map_cons,List.map_nil,wA]
   have hl4:(cur++[UInt8.ofNat k]).length=cur.length+1:=by simp
   rcases h1.at_ with ⟨rfl,_⟩ | ⟨p,ver,rfl,hpl,hb⟩
   simp only[go_sem,seval, -List.reduceReplicate,hlt,List.getElem?_map,Option.map_some,ha1,List.length_map,h.own,zn,g0,zo]
   intro _
   refine⟨by simp,by omega,zG ?_⟩
   rw[zd]
   have h2:RAt PS (ze t n) (PS1++[zC.arr 0 29 [zM mm] false,zC.arr 0 1 (zD (cur++[UInt8.ofNat k])) true]) (.sl (PS1.length+1) 0 0 (cur.length+1) none) (cur++[UInt8.ofNat k]):=by
    have:=h1.new 0 (cur++[UInt8.ofNat k])
    rw[List.append_assoc,hl4,List.length_append] at this
    exact this
   have g2:zA (PS1++[zC.arr 0 29 [zM mm] false,zC.arr 0 1 (zD (cur++[UInt8.ofNat k])) true]) PS1.length=.arr 0 29 [zM mm] false:=by
    have:=zx [.arr 0 1 (zD (cur++[UInt8.ofNat k])) true] g0
    rw[List.append_assoc] at this
    exact this
   generalize PS1++[zC.arr 0 29 [zM mm] false,zC.arr 0 1 (zD (cur++[UInt8.ofNat k])) true]=PS2 at h2 g2 ⊢
   refine(WJ h2 mm.seq 8 (by omega) (by omega) (by omega) (by omega)).mono ?_
   rotate_left
   have hgx:∀Q,zA ((PS1++[zC.arr 0 29 [zM mm] false]).set p Q) PS1.length=zC.arr 0 29 [zM mm] false:=fun Q=>(zO Q (by have:=h.lt rfl;omega)).trans g0
   simp only[go_sem,seval, -List.reduceReplicate,hlt,List.getElem?_map,Option.map_some,ha1,List.length_map,h.own,zn,g0,hb,hgx,zo,List.drop_zero]
   intro _
   refine⟨by simp,.inl ⟨by omega,zG ?_⟩⟩
   rw[zd]
   have h2:=h1.set hb hpl (ver+1) (cur++[UInt8.ofNat k])
   rw[hl4] at h2
   have g2:=hgx (.arr (ver+1) 1 (zD (cur++[UInt8.ofNat k])) true)
   clear hgx
   generalize (PS1++[zC.arr 0 29 [zM mm] false]).set p (zC.arr (ver+1) 1 (zD (cur++[UInt8.ofNat k])) true)=PS2 at h2 g2 ⊢
   refine(WJ h2 mm.seq 8 (by omega) (by omega) (by omega) (by omega)).mono ?_
   all_goals
    rintro x3 PS3 ⟨h3,⟨l3,rfl⟩,q3⟩
    have g3:=zx l3 g2
    have hq3:=q3 _ (yB g2)
    have hl5:(cur++[UInt8.ofNat k]++za mm.seq 8).length=cur.length+9:=by simp[yd]
    generalize PS2++l3=PS3 at h3 g3 ⊢
    simp only[go_sem,seval, -List.reduceReplicate,g3,h3.own,zn]
    refine zG ((Ul h3 mm.key PS1.length 0 0 3 8 29 8 [zM mm] false (zM mm) g3 hq3 rfl o1 (by omega) (by rw[qL];omega) (zEv _ oi.key) (by omega) (by omega)).mono ?_)
    rintro x4 PS4 ⟨h4,g4,q4⟩
    have hl6:(cur++[UInt8.ofNat k]++za mm.seq 8++txt mm.key).length=cur.length+10+mm.key.length:=by rw[List.length_append,hl5,yl];omega
    have hkk:k=1∨k=2∨k=3:=by omega
    rcases hkk with rfl | rfl | rfl
    ·have hcm:cur++yH mm=cur++[UInt8.ofNat 1]++za mm.seq 8++txt mm.key++txt mm.val:=by
      simp[yH,hk]
     simp only[go_sem,seval, -List.reduceReplicate,g4,h4.own,zn,hk]
     refine zG ((Ul h4 mm.val PS1.length 0 0 12 16 29 16 [zM mm] false (zM mm) g4 q4 rfl o2 (by omega) (by rw[qL];omega) (zDx _ oi.val) (by omega) (by omega)).mono ?_)
     rintro x5 PS5 ⟨h5,g5,_⟩
     simp only[go_sem,seval, -List.reduceReplicate,g5,h5.own,zn,hk]
     exact⟨by omega,(i+1,x5),by simp only;omega,⟨by simp only;omega,by rw[hcc,hcm];exact h5⟩,.inl rfl,rfl⟩
    ·have hcm:cur++yH mm=cur++[UInt8.ofNat 2]++za mm.seq 8++txt mm.key:=by
      simp[yH,hk]
     simp only[go_sem,seval, -List.reduceReplicate,g4,h4.own,zn,hk]
     exact⟨by omega,(i+1,x4),by simp only;omega,⟨by simp only;omega,by rw[hcc,hcm];exact h4⟩,.inl rfl,rfl⟩
    ·have hcm:cur++yH mm=cur++[UInt8.ofNat 3]++za mm.seq 8++txt mm.key++za mm.by_ 8:=by
      simp[yH,hk]
     simp only[go_sem,seval, -List.reduceReplicate,g4,h4.own,zn,hk]
     refine zG ((WJ h4 mm.by_ 8 (by omega) (by omega) (by omega) (by omega)).mono ?_)
     rintro x5 PS5 ⟨h5,⟨l5,rfl⟩,_⟩
     simp only[go_sem,seval, -List.reduceReplicate,h5.own,zn]
     exact⟨by omega,(i+1,x5),by simp only;omega,⟨by simp only;omega,by rw[hcc,hcm];exact h5⟩,.inl rfl,rfl⟩
  have hi:i=n.msgs.length:=by omega
  subst hi
  rw[List.take_length] at h
  simp only[go_sem,seval, -List.reduceReplicate,hlt,List.length_map,h.own,zn]
  intro _
  clear hlt
  have hb4:(b3++yt n.msgs).length=b3.length+(yt n.msgs).length:=by rw[List.length_append]
  obtain⟨b4,eb4⟩:∃b4,b4=b3++yt n.msgs:=⟨_,rfl⟩
  rw[←eb4] at h hb4
  have hb5:b4.length≤256:=by omega
  refine zG (zq (α:=Nat×HV) [false,false,false,false,false,false,false,false,false,false,false,false,false,false,false,false,false,false,false,false,false,false,false,false,false,false,false,false,false,false,false,false,false,false,false,false,false,false,false,false,false,false,false,false,false,false,false,false,false,false,false,false,false,false,false,false,false,false,false,false,false,false,false,false,false,false,false,false,false,false,false,false,false,false,false,false,false,false,false,false,false,false,false,false,false,false,false,false,false,false,false,false,false,false,false,false,false,false,false,false,false,false,false,false,false,false,false,false,false,false,false,false,false,false,false,false,false,false,false,false,false,false,false,false,false,false,false,false,false,false,false,false,false,false,false,false,false,false,false,false,false,false,false,false,false,false,false,true,true,true,true,true,true] (fun a=>[(6,a.2)]) (fun a=>256 - a.1) (fun a PS'=>a.1≤256∧b4.length≤a.1∧RAt PS (ze t n) PS' a.2 (b4++List.replicate (a.1 - b4.length) 0)) (b4.length,x) ⟨hb5,Nat.le_refl _,by simpa using h⟩ ?_ ?_)
  ·simp only[go_sem,seval, -List.reduceReplicate]
  clear h
  rintro⟨i,x⟩ PS1 ⟨hi,hge,h⟩
  simp only at hi hge h
  have hcl:(b4++List.replicate (i - b4.length) 0).length=i:=by rw[List.length_append,List.length_replicate];omega
  have hcs:b4++List.replicate (i+1 - b4.length) 0=b4++List.replicate (i - b4.length) 0++[0]:=by
   rw[show i+1 - b4.length=i - b4.length+1 by omega,List.replicate_succ',List.append_assoc]
  generalize hc:b4++List.replicate (i - b4.length) 0=cur at h hcl hcs
  have h0r:zD cur++[[HV.int .u8 0]]=zD (cur++[0]):=by rw[va];rfl
  have hcl1:(cur++[0]).length=i+1:=by rw[List.length_append,hcl];rfl
  by_cases hlt:i<256
  ·have hlt':(i:Int)<256:=by omega
   rcases h.at_ with ⟨rfl,h8⟩ | ⟨p,ver,rfl,hpl,hb⟩
   ·simp only[go_sem,seval, -List.reduceReplicate,hlt,hlt',zo,hcl]
    intro _
    refine⟨by simp,⟨by omega,by omega⟩,(i+1,.sl PS1.length 0 0 (i+1) none),by simp only;omega,⟨by simp only;omega,by simp only;omega,?_⟩,.inl rfl⟩
    rw[h0r]
    simp only[hcs]
    have:=h.new 0 (cur++[0])
    rwa [hcl1] at this
   ·simp only[go_sem,seval, -List.reduceReplicate,hlt,hlt',hb,zo,hcl,List.drop_zero]
    intro _
    refine⟨by simp,.inl ⟨⟨by omega,by omega⟩,(i+1,.sl p (ver+1) 0 (i+1) none),by simp only;omega,⟨by simp only;omega,by simp only;omega,?_⟩,.inl rfl⟩⟩
    rw[h0r]
    simp only[hcs]
    have:=h.set hb hpl (ver+1) (cur++[0])
    rwa [hcl1] at this
  rcases h.at_ with ⟨rfl,h8⟩ | ⟨p,ver,rfl,hpl,hb⟩
  ·omega
  have hi:i=256:=by omega
  subst hi
  simp only[go_sem,seval, -List.reduceReplicate,hlt,hb,zo,hcl]
  intro _
  have hraw:cur=yF n:=by
   have hbody:(yM n).length=(yP n.ents).length+(yO n.kids).length+(yS n.pivs).length+(yt n.msgs).length:=by simp only[yM,List.length_append]
   have e:256 - b4.length=248 - (yM n).length:=by omega
   rw[←hc,yF,e,eb4,eb3,eb2,eb1]
   simp only[yM,List.append_assoc]
  subst hraw
  have hsum:=zCc PS1 p ver (yF n) none true hb (by omega)
  rw[hcl] at hsum
  refine zG (hsum.mono ?_)
  rintro _ PS1 ⟨rfl,rfl⟩
  have hcr:=JK (yF n)
  simp only[go_sem,seval, -List.reduceReplicate,hb]
  refine⟨by omega,zG ((Ko _ _ [] (qE (yF n)) 4 (wJ.imm (N:=[]) (by simp)) (by simp) (by omega) (by omega) (by omega)).mono ?_)⟩
  rintro r PS2 ⟨v2,rfl,rfl⟩
  have hx2:=h.ext.trans (Ext.app _ [zC.arr v2 1 (zD ([]++za (qE (yF n)) 4)) true])
  have hp2:=zx [zC.arr v2 1 (zD ([]++za (qE (yF n)) 4)) true] hb
  have hs2:=zt PS1 (zC.arr v2 1 (zD ([]++za (qE (yF n)) 4)) true)
  have hplt:=yB hb
  have hSl:=yd (qE (yF n)) 4
  have hEe:yG n++(za (qE (yF n)) 4++(yM n++List.replicate (248 - (yM n).length) 0))=zN n:=by simp only[zN,List.append_assoc]
  have hRl:(yM n++List.replicate (248 - (yM n).length) 0).length=248:=by have:=xW ok hf;rw[List.length_append,List.length_replicate];omega
  have hEr:zD (yF n)=zD (yG n++((za (qE (yF n)) 4).take 0++List.replicate (4 - 0) 0)++(yM n++List.replicate (248 - (yM n).length) 0)):=by
   congr 1
  rw[hEr] at hp2
  generalize za (qE (yF n)) 4=S at hx2 hp2 hs2 hSl hEe ⊢
  generalize yM n++List.replicate (248 - (yM n).length) 0=R at hp2 hEe hRl
  generalize PS1++[zC.arr v2 1 (zD ([]++S)) true]=PS2 at hx2 hp2 hs2
  simp only[go_sem,seval, -List.reduceReplicate]
  refine zG (zq (α:=Nat) [false,false,false,false,false,false,false,false,false,false,false,false,false,false,false,false,false,false,false,false,false,false,false,false,false,false,false,false,false,false,false,false,false,false,false,false,false,false,false,false,false,false,false,false,false,false,false,false,false,false,false,false,false,false,false,false,false,false,false,false,false,false,false,false,false,false,false,false,false,false,false,false,false,false,false,false,false,false,false,false,false,false,false,false,false,false,false,false,false,false,false,false,false,false,false,false,false,false,false,false,false,false,false,false,false,false,false,false,false,false,false,false,false,false,false,false,false,false,false,false,false,false,false,false,false,false,false,false,false,false,false,false,false,false,false,false,false,false,false,false,false,false,false,false,false,false,false,false,false,false,false,false,false,false,false,false,false,true,true,true,true,true,true,true,true,true,true,true,true] (fun i=>[(14,.int .i64 i)]) (fun i=>4 - i) (fun i PS'=>i≤4∧Ext [] PS PS'∧zA PS' p=.arr ver 1 (zD (yG n++(S.take i++List.replicate (4 - i) 0)++R)) true∧zA PS' PS1.length=.arr v2 1 (zD ([]++S)) true) 0 ⟨by omega,hx2,hp2,hs2⟩ ?_ ?_)
  ·simp only[go_sem,seval, -List.reduceReplicate,Int.natCast_zero]
  clear hx2 hp2 hs2
  rintro i PS3 ⟨hi,hx3,hp3,hs3⟩
  have hLl:(yG n++(S.take i++List.replicate (4 - i) 0)++R).length=256:=by simp[uE];omega
  by_cases hlt:i<4
  ·have hlt':(i:Int)<4:=by omega
   have ha:(zD S)[i]? =some [.int .u8 (S[i]'(by omega)).toNat]:=ja S i (by omega)
   have hset:(zD (yG n++(S.take i++List.replicate (4 - i) 0)++R)).set (4+i) [.int .u8 (S[i]'(by omega)).toNat]=zD (yG n++(S.take (i+1)++List.replicate (4 - (i+1)) 0)++R):=by
    rw[←zHb n S R hSl i hlt];simp only[zD,List.map_set]
   have h4:((4:Int)+(i:Int))=((4+i:Nat):Int):=by omega
   have hg:∃row,(zD (yG n++(S.take i++List.replicate (4 - i) 0)++R))[4+i]? =some [row]:=⟨_,ja _ _ (by omega)⟩
   obtain⟨row,hg⟩:=hg
   simp only[go_sem,seval, -List.reduceReplicate,hlt,hlt',hp3,hs3,zo,ha,hLl,h4,hg,hset]
   exact⟨by omega,by omega,by omega,by omega,i+1,by omega,⟨by omega,hx3.since (Ext.set PS3 p _) (by intro m hm;simp at hm;subst hm;right;omega),by first | exact zk _ hp3 | (rw[show 4 - (i+1)=3 - i by omega];exact zk _ hp3),(zO _ (by omega)).trans hs3⟩,by first | omega | rfl⟩
  ·have hlt':¬(i:Int)<4:=by omega
   have hi:i=4:=by omega
   subst hi
   simp only[go_sem,seval, -List.reduceReplicate,hlt',hp3,hs3,zo,hLl]
   rw[show yG n++(S.take 4++List.replicate (4 - 4) 0)++R=zN n by rw[List.take_of_length_le (by omega),←hEe];simp] at hp3
   refine⟨p,ver,1,_,true,_,_,hp3,uw.tup (.cons (.sl 0 256 none (by rw[zo,kN ok hf];omega)) (.cons (.same _) (.nil ..))),wD.only (yB hp3),?_,?_⟩
   ·rw[List.drop_zero,List.take_of_length_le (by rw[zo,kN ok hf];omega)]
   ·exact hx3.since (Ext.set PS3 p _) (by intro m hm;simp at hm;subst hm;right;omega)
end Go.Proofs.YtbmibhjjogobhaaGreat
namespace Go.Mo
open Go Go.Eng
variable [zB]
/-- The number that bytes are,the lowest first. -/
def yj:Bs→Nat
 | []=>0
 | c::l=>c.toNat+256*yj l
theorem zIz (n w:Nat):yj (za n w)=n % 256 ^ w:=by
 induction w generalizing n with
 | zero=>simp[za,yj,Nat.mod_one]
 | succ w ih=>
  have e:za n (w+1)=UInt8.ofNat n::za (n / 256) w:=rfl
  rw[e,yj,ih,Nat.pow_succ,Nat.mul_comm (256 ^ w) 256,Nat.mod_mul]
  have:(UInt8.ofNat n).toNat=n % 256:=by simp
  rw[this]
theorem Gk (l:Bs):yj l<256 ^ l.length:=by
 induction l with
 | nil=>simp[yj]
 | cons c l ih=>
  have:=c.toNat_lt
  rw[yj,List.length_cons,Nat.pow_succ]
  omega
theorem zAM (l:Bs) (i:Nat) (h:i<l.length) (n:Nat):yj ((l.drop i).take (n+1))=(l[i]).toNat+256*yj ((l.drop (i+1)).take n):=by
 rw[List.drop_eq_getElem_cons h,List.take_succ_cons,yj]
theorem Gv (n c:Nat) (hc:c<256):256*n ||| c=c+256*n:=by
 have:=Nat.two_pow_add_eq_or_of_lt (i:=8) (b:=c) (by omega) n
 rw[show (2:Nat) ^ 8=256 from rfl] at this
 omega
end Go.Mo
namespace Go.Proofs.YtbmibhjjogobhaaGreat
open Go Go.Eng Go.Mo
variable [zB]
set_option maxRecDepth 20000
attribute [local irreducible] hvc zf hop zg yI zb zu yQ
theorem zSS (t:Fl) (n:Nd) (ok:okN n) (hf:¬yf n):Pure Tryz.prog 69 [.agg (ze t n)] (.tup [.imm true [],.int .i64 4]):=by
 refine Pure.zp (by rw[jn];simp[xe,Zp]) fun PS=>?_
 refine zAg (by unfold Tryz.f69;exact rfl) ?_
 simp only[go_sem,seval, -List.reduceReplicate,zn]
 refine⟨js t n,zG ((JM t n ok).call ?_)⟩
 rw[zm hf]
 simp only[go_sem,seval, -List.reduceReplicate]
 exact Ext.app _ _
theorem QX (a b:Nat) (ha:a<18446744073709551616) (hb:b<18446744073709551616):yZ .or .u64 a b=((a ||| b:Nat):Int):=by
 have:=Nat.or_lt_two_pow (n:=64) (x:=a) (y:=b) (by omega) (by omega)
 have e:(BitVec.ofInt 64 (a:Int) ||| BitVec.ofInt 64 (b:Int)).toNat=a ||| b:=by
  rw[BitVec.ofInt_natCast,BitVec.ofInt_natCast,BitVec.toNat_or,BitVec.toNat_ofNat,BitVec.toNat_ofNat,Nat.mod_eq_of_lt (by omega),Nat.mod_eq_of_lt (by omega)]
 show (((BitVec.ofInt 64 (a:Int) ||| BitVec.ofInt 64 (b:Int)).toNat:Nat):Int) % 18446744073709551616=_
 rw[e]
 omega
theorem zQH (t:Bool) (l:Bs) (a w:Nat) (hl:l.length≤1000) (h1:1≤w) (h2:w≤8) (h:a+w≤l.length):Pure Tryz.prog 264 [.imm t (zD l),.int .i64 a,.int .i64 w] (.tup [.int .u64 (yj ((l.drop a).take w):Nat),.bool true]):=by
 refine Pure.zp (by rw[jn];simp[Zp,Ql]) fun PS=>?_
 refine zPA (by unfold Tryz.f264;exact rfl) ?_
 have hm:decide (1≤(w:Int)∧(w:Int)≤8)=true:=decide_eq_true (by omega)
 have hsub:(l.length:Int) - (w:Int)=((l.length - w:Nat):Int):=by omega
 have hle:¬((l.length - w:Nat):Int)<(a:Int):=by omega
 have hna:¬(a:Int)<0:=by omega
 have hw1:(w:Int) - 1=((w - 1:Nat):Int):=by omega
 simp only[go_sem,seval, -List.reduceReplicate]
 refine zG ((zE6 w).call ?_)
 rw[hm]
 simp only[go_sem,seval, -List.reduceReplicate,zo,hsub,hle,hna,hw1]
 intro _
 refine⟨by omega,by omega,?_⟩
 have hw:w=(w - 1)+1:=by omega
 refine zG (zq (α:=Nat) [false,false,false,false,false,false,false,false,false,false,false,false,false,false,false,false,false,false,false,false,false,false,false,false,false,false,false,true,true,true,true,true,true,true,true,true,true,true,true,true,true] (fun k=>[(9,.int .i64 ((w:Int) - 1 - k)),(8,.int .u64 (yj ((l.drop (a+(w - k))).take k):Nat))]) (fun k=>w - k) (fun k PS'=>k≤w∧PS'=PS) 0 ⟨Nat.zero_le _,rfl⟩ ?_ ?_)
 ·simp only[go_sem,seval, -List.reduceReplicate,Int.natCast_zero,List.take_zero,yj,hw1,Int.sub_zero]
 rintro k PS' ⟨hk,rfl⟩
 by_cases hlt:k<w
 ·have e1:(w:Int) - 1 - (k:Int)=((w - 1 - k:Nat):Int):=by omega
  have e2:((w - 1 - k:Nat):Int) - 1=(w:Int) - 1 - ((k+1:Nat):Int):=by omega
  obtain⟨j,hj⟩:∃j,j=a+(w - 1 - k):=⟨_,rfl⟩
  have e3:(a:Int)+((w - 1 - k:Nat):Int)=(j:Int):=by omega
  have hi:j<l.length:=by omega
  have hn:=zAM l j hi k
  have e4:a+(w - (k+1))=j:=by omega
  rw[show j+1=a+(w - k) by omega] at hn
  have hlt7:yj ((l.drop (a+(w - k))).take k)<256 ^ 7:=by
   refine Nat.lt_of_lt_of_le (Gk _) (Nat.pow_le_pow_right (by omega) ?_)
   rw[List.length_take];omega
  have ha:(zD l)[j]? =some [.int .u8 (l[j]'hi).toNat]:=ja l _ hi
  have hc:=(l[j]'hi).toNat_lt
  generalize yj ((l.drop (a+(w - k))).take k)=x at hn hlt7
  simp only[go_sem,seval, -List.reduceReplicate,e1,e3,zo,ha,hi]
  have e5:yZ .or .u64 (IntKind.u64.wrap ((x:Int)*2 ^ min 8 64)) ((l[j]'hi).toNat:Int)=(((l[j]'hi).toNat+256*x:Nat):Int):=by
   have:IntKind.u64.wrap ((x:Int)*2 ^ min 8 64)=((256*x:Nat):Int):=by
    show ((x:Int)*256) % 18446744073709551616=_
    omega
   rw[this,QX _ _ (by omega) (by omega),Gv _ _ hc]
  rw[e5]
  refine⟨by omega,by omega,by omega,k+1,by omega,by omega,by rw[e4,hn],by rw[e2]⟩
 ·have hk:k=w:=by omega
  subst hk
  have e1:(k:Int) - 1 - (k:Int)= -1:=by omega
  simp only[go_sem,seval, -List.reduceReplicate,e1,Nat.sub_self]
  exact Ext.refl _
theorem zDw (t:Bool) (l:Bs) (a w:Nat) (hl:l.length≤1000) (h1:1≤w) (h2:w≤8) (h:a+w≤l.length):Pure Tryz.prog 102 [.imm t (zD l),.int .i64 a,.int .i64 w] (.tup [.int .u64 (yj ((l.drop a).take w):Nat),.bool true]):=by
 refine Pure.zp (by rw[jn];simp[Zp,Ql]) fun PS=>?_
 refine zFQ (by unfold Tryz.f102;exact rfl) ?_
 have hw0:¬(w:Int)<1:=by omega
 have hw8:¬8<(w:Int):=by omega
 have hsub:(l.length:Int) - (w:Int)=((l.length - w:Nat):Int):=by omega
 have hle:¬((l.length - w:Nat):Int)<(a:Int):=by omega
 have hna:¬(a:Int)<0:=by omega
 have hw1:(w:Int) - 1=((w - 1:Nat):Int):=by omega
 simp only[go_sem,seval, -List.reduceReplicate,hw0,hw8,zo,hsub,hle,hna,hw1]
 intro _
 refine⟨by omega,by omega,?_⟩
 have hw:w=(w - 1)+1:=by omega
 refine zG (zq (α:=Nat) [false,false,false,false,false,false,false,false,false,false,false,false,false,false,false,false,false,false,false,false,false,false,false,false,false,false,false,false,false,false,true,true,true,true,true,true,true,true,true,true,true,true,true,true] (fun k=>[(9,.int .i64 ((w:Int) - 1 - k)),(8,.int .u64 (yj ((l.drop (a+(w - k))).take k):Nat))]) (fun k=>w - k) (fun k PS'=>k≤w∧PS'=PS) 0 ⟨Nat.zero_le _,rfl⟩ ?_ ?_)
 ·simp only[go_sem,seval, -List.reduceReplicate,Int.natCast_zero,List.take_zero,yj,hw1,Int.sub_zero]
 rintro k PS' ⟨hk,rfl⟩
 by_cases hlt:k<w
 ·have e1:(w:Int) - 1 - (k:Int)=((w - 1 - k:Nat):Int):=by omega
  have e2:((w - 1 - k:Nat):Int) - 1=(w:Int) - 1 - ((k+1:Nat):Int):=by omega
  obtain⟨j,hj⟩:∃j,j=a+(w - 1 - k):=⟨_,rfl⟩
  have e3:(a:Int)+((w - 1 - k:Nat):Int)=(j:Int):=by omega
  have hi:j<l.length:=by omega
  have hn:=zAM l j hi k
  have e4:a+(w - (k+1))=j:=by omega
  rw[show j+1=a+(w - k) by omega] at hn
  have hlt7:yj ((l.drop (a+(w - k))).take k)<256 ^ 7:=by
   refine Nat.lt_of_lt_of_le (Gk _) (Nat.pow_le_pow_right (by omega) ?_)
   rw[List.length_take];omega
  have ha:(zD l)[j]? =some [.int .u8 (l[j]'hi).toNat]:=ja l _ hi
  have hc:=(l[j]'hi).toNat_lt
  generalize yj ((l.drop (a+(w - k))).take k)=x at hn hlt7
  simp only[go_sem,seval, -List.reduceReplicate,e1,e3,zo,ha,hi]
  have e5:yZ .or .u64 (IntKind.u64.wrap ((x:Int)*2 ^ min 8 64)) ((l[j]'hi).toNat:Int)=(((l[j]'hi).toNat+256*x:Nat):Int):=by
   have:IntKind.u64.wrap ((x:Int)*2 ^ min 8 64)=((256*x:Nat):Int):=by
    show ((x:Int)*256) % 18446744073709551616=_
    omega
   rw[this,QX _ _ (by omega) (by omega),Gv _ _ hc]
  rw[e5]
  refine⟨by omega,by omega,by omega,k+1,by omega,by omega,by rw[e4,hn],by rw[e2]⟩
 ·have hk:k=w:=by omega
  subst hk
  have e1:(k:Int) - 1 - (k:Int)= -1:=by omega
  simp only[go_sem,seval, -List.reduceReplicate,e1,Nat.sub_self]
  exact Ext.refl _
end Go.Proofs.YtbmibhjjogobhaaGreat
namespace Go.Proofs.YtbmibhjjogobhaaGreat
open Go Go.Eng Go.Mo
variable [zB]
set_option maxRecDepth 20000
attribute [local irreducible] hvc zf hop zg yI zb zu yQ
theorem JN (v:Bs) (j:Nat) (hj:j<16):(zK v)[j+1]? =some (.int .u8 ((pad 16 v)[j]'(by rw[wC];exact hj)).toNat):=by
 show (u8s (pad 16 v))[j]? =_
 exact QZ (by simp[wC,hj])
theorem zM7 (PS:PL) (n ver c:Nat) (v:Bs) (h:zA PS n=.arr ver 17 [zK v] false):
  zI Tryz.prog 102 [.isl n ver 0 1 8 c,.int .i64 0,.int .i64 8] PS fun r PS'=>r=.tup [.int .u64 (yj ((pad 16 v).take 8):Nat),.bool true]∧PS'=PS:=by
 refine zI.data (by rw[jn];simp[Zp,Ql]) ?_
 refine zFQ (by unfold Tryz.f102;exact rfl) ?_
 simp only[go_sem,seval, -List.reduceReplicate,h]
 intro _
 have hp:(pad 16 v).length=16:=wC 16 v
 generalize hpv:pad 16 v=l at hp
 have hcell:∀j (hj:j<l.length),(zK v)[j+1]? =some (.int .u8 (l[j]'hj).toNat):=fun j hj=>by
  subst hpv
  exact JN v j (by rw[wC] at hj;exact hj)
 refine zG (zq (α:=Nat) [false,false,false,false,false,false,false,false,false,false,false,false,false,false,false,false,false,false,false,false,false,false,false,false,false,false,false,false,false,false,true,true,true,true,true,true,true,true,true,true,true,true,true,true] (fun k=>[(9,.int .i64 ((7:Int) - k)),(8,.int .u64 (yj ((l.drop (8 - k)).take k):Nat))]) (fun k=>8 - k) (fun k PS'=>k≤8∧PS'=PS) 0 ⟨Nat.zero_le _,rfl⟩ ?_ ?_)
 ·simp only[go_sem,seval, -List.reduceReplicate,Int.natCast_zero,List.take_zero,yj,Int.sub_zero]
 rintro k PS' ⟨hk,hPS⟩
 obtain rfl:PS=PS':=hPS.symm
 by_cases hlt:k<8
 ·have e1:(7:Int) - (k:Int)=((7 - k:Nat):Int):=by omega
  have e0:(0:Int)+((7 - k:Nat):Int)=((7 - k:Nat):Int):=by omega
  have e2:((7 - k:Nat):Int) - 1=(7:Int) - ((k+1:Nat):Int):=by omega
  have hi:7 - k<l.length:=by omega
  have hn:=zAM l (7 - k) hi k
  rw[show 7 - k+1=8 - k by omega] at hn
  have hlt7:yj ((l.drop (8 - k)).take k)<256 ^ 7:=by
   refine Nat.lt_of_lt_of_le (Gk _) (Nat.pow_le_pow_right (by omega) ?_)
   rw[List.length_take];omega
  have hc:=(l[7 - k]'hi).toNat_lt
  have hb:List.take 1 (List.drop (1+(7 - k)) (zK v))=[.int .u8 (l[7 - k]'hi).toNat]:=by rw[List.take_one,List.head?_drop,Nat.add_comm,hcell (7 - k) hi];rfl
  generalize yj ((l.drop (8 - k)).take k)=x at hn hlt7 ⊢
  simp only[go_sem,seval, -List.reduceReplicate,e1,e0,h,hb,hlt]
  have e5:yZ .or .u64 (IntKind.u64.wrap ((x:Int)*2 ^ min 8 64)) ((l[7 - k]'hi).toNat:Int)=(((l[7 - k]'hi).toNat+256*x:Nat):Int):=by
   have:IntKind.u64.wrap ((x:Int)*2 ^ min 8 64)=((256*x:Nat):Int):=by
    show ((x:Int)*256) % 18446744073709551616=_
    omega
   rw[this,QX _ _ (by omega) (by omega),Gv _ _ hc]
  rw[e5]
  exact⟨⟨by omega,by omega⟩,by omega,by omega,by omega,⟨by omega,by omega⟩,k+1,by omega,by omega,by rw[show 8 - (k+1)=7 - k by omega,hn],by rw[e2]⟩
 ·have hk:k=8:=by omega
  subst hk
  have e1:(7:Int) - ((8:Nat):Int)= -1:=by omega
  simp only[go_sem,seval, -List.reduceReplicate,e1,Nat.sub_self]
  exact Ext.refl _
/-- The value so far:the first bytes stand. -/
def jw (b:Bs) (i:Nat):List HV:=HV.int .i64 8::(u8s (b.take i)++List.replicate (16 - i) (HV.int .u8 0))
theorem zOf (b:Bs) (i:Nat) (hb:b.length=8) (hi:i≤8):(jw b i).length=17:=by
 simp[jw,qo,hb];omega
theorem zRs (b:Bs) (i:Nat) (hb:b.length=8) (hi:i<8):zP (1+i) [.int .u8 ((b[i]'(by omega)).toNat:Nat)] (jw b i)=jw b (i+1):=by
 have hl:(u8s (b.take i)).length=i:=by simp[qo,hb];omega
 have e:List.replicate (16 - i) (HV.int .u8 0)=HV.int .u8 0::List.replicate (16 - (i+1)) (HV.int .u8 0):=by rw[show 16 - i=(16 - (i+1))+1 by omega,List.replicate_succ]
 have e2:u8s (b.take (i+1))=u8s (b.take i)++[.int .u8 ((b[i]'(by omega)).toNat:Nat)]:=by rw[List.take_succ_eq_append_getElem (by omega)];simp only[u8s,List.map_append,List.map_cons,List.map_nil]
 unfold zP jw
 rw[e,e2,show 1+i=i+1 by omega,List.take_succ_cons,List.take_left' hl,show i+1+[HV.int .u8 ((b[i]'(by omega)).toNat:Nat)].length=(i+1)+1 from rfl,List.drop_succ_cons,←List.drop_drop,List.drop_left' hl]
 simp
theorem zIA (b:Bs) (hb:b.length=8):jw b 8=zK b:=by
 unfold jw zK
 rw[ug (by omega),hb,List.take_of_length_le (by omega)]
 simp[u8s]
theorem zA1 (n:Nat) (hn:n<18446744073709551616):Pure Tryz.prog 220 [.int .u64 n] (.agg (zK (za n 8))):=by
 refine Pure.zp (by rw[wE];exact ZH _) fun PS=>?_
 refine zME (by unfold Tryz.f220;exact rfl) ?_
 simp only[go_sem,seval, -List.reduceReplicate]
 refine⟨(qy _).2 fun y hy=>by rw[List.eq_of_mem_replicate hy];rfl,zG ((Ko _ _ [] n 8 (wJ.imm (N:=[]) (by simp)) (by simp) hn (by omega) (by omega)).mono ?_)⟩
 have hbl:(za n 8).length=8:=yd n 8
 rw[List.nil_append]
 generalize za n 8=b at hbl
 rintro _ PS' ⟨ver,rfl,rfl⟩
 simp only[go_sem,seval, -List.reduceReplicate]
 have h0:(HV.int .i64 8::List.replicate 16 (HV.int .u8 0))=jw b 0:=by simp[jw,u8s]
 refine zG (zq (α:=Nat) [false,false,false,false,false,false,false,false,false,true,true,true,true,true,true,true,true,true,true,true] (fun i=>[(5,.int .i64 i)]) (fun i=>8 - i) (fun i PS'=>i≤8∧Ext [] PS PS'∧zA PS' PS.length=.arr 0 17 [HV.int .i64 0::List.replicate 16 (HV.int .u8 0)] false∧zA PS' (PS.length+1)=.arr 0 17 [jw b i] false∧zA PS' (PS.length+2)=.arr ver 1 (zD b) true) 0 ⟨Nat.zero_le _,Ext.app _ _,by simp[zA],by simp[zA,List.getElem?_append_right,←h0],by simp[zA,List.getElem?_append_right]⟩ ?_ ?_)
 ·simp only[go_sem,seval, -List.reduceReplicate,Int.natCast_zero]
 rintro i PS1 ⟨hi,hx,hz,hv,hg⟩
 by_cases hlt:i<8
 ·have hb1:(zD b)[i]? =some [.int .u8 (b[i]'(by omega)).toNat]:=ja b i (by omega)
  have hset:=zRs b i hbl hlt
  have hlen:=zOf b i hbl hi
  have hlt':(i:Int)<8:=by omega
  simp only[go_sem,seval, -List.reduceReplicate,hlt,hlt',hv,hg,hb1,zo,hbl,hset,hlen]
  exact⟨by omega,by omega,⟨by omega,by omega⟩,i+1,by omega,⟨by omega,hx.since (Ext.set PS1 _ _) (by simp),(zO _ (by omega)).trans hz,zk _ hv,(zO _ (by omega)).trans hg⟩,rfl⟩
 ·have hi8:i=8:=by omega
  subst hi8
  rw[zIA b hbl] at hv
  have hy:∀Q,zA (PS1.set PS.length Q) PS.length=Q:=fun Q=>zk Q hz
  simp only[go_sem,seval, -List.reduceReplicate,hlt,hv,hg,hz,hy]
  exact⟨by omega,hx.since (Ext.set PS1 PS.length _) (by simp)⟩
theorem zIn (v:Bs):Pure Tryz.prog 260 [.agg (zK v)] (.int .u64 (yj ((pad 16 v).take 8):Nat)):=by
 refine Pure.zp (.int _ _) fun PS=>?_
 refine zPu (by unfold Tryz.f260;exact rfl) ?_
 simp only[go_sem,seval, -List.reduceReplicate]
 refine zG ((zM7 _ PS.length 0 16 v (by simp[zA])).mono ?_)
 rintro _ PS2 ⟨rfl,rfl⟩
 simp only[go_sem,seval, -List.reduceReplicate]
 exact Ext.app _ _
theorem zIr (v:Bs) (n:Nat) (hn:n<18446744073709551616):Pure Tryz.prog 221 [.agg (zK v),.int .u64 n] (.agg (zK (za ((yj ((pad 16 v).take 8)+n) % 18446744073709551616) 8))):=by
 refine Pure.zp (by rw[wE];exact ZH _) fun PS=>?_
 have hw:IntKind.u64.wrap (((yj ((pad 16 v).take 8):Nat):Int)+(n:Int))=(((yj ((pad 16 v).take 8)+n) % 18446744073709551616:Nat):Int):=by
  show (((yj ((pad 16 v).take 8):Nat):Int)+(n:Int)) % 18446744073709551616=_
  omega
 refine zGz (by unfold Tryz.f221;exact rfl) ?_
 simp only[go_sem,seval, -List.reduceReplicate]
 refine zG ((zIn v).call ?_)
 simp only[go_sem,seval, -List.reduceReplicate,hw]
 refine zG ((zA1 _ (by omega)).call ?_)
 simp only[go_sem,seval, -List.reduceReplicate]
 exact⟨by omega,Ext.app _ _⟩
end Go.Proofs.YtbmibhjjogobhaaGreat
namespace Go.Mo
open Go Go.Eng
variable [zB]
section
variable (comp:Ms→Ms→Ms)
/-- Messages with another one;p:it stands already. -/
def qb (m:Ms):Bool→List Ms→List Ms
 | p,[]=>if p then [] else [m]
 | p,e::l=>if zU e.key m.key=0 then comp e m::qb m true l else (if 0<zU e.key m.key∧p=false then [m] else [])++e::qb m (p || decide (0<zU e.key m.key)) l
end
def XQ (l:List Ms):Prop:=l.Pairwise fun a b=>zU a.key b.key<0
section
variable {comp:Ms→Ms→Ms} {m x:Ms} {l:List Ms}
theorem Uc:∀(l:List Ms) (p:Bool),(qb comp m p l).length≤l.length+if p then 0 else 1
 | [],p=>by cases p<;>simp[qb]
 | e::l,p=>by
  rw[qb]
  split
  ·have:=Uc l true
   simp at this ⊢
   split<;>omega
  ·have:=Uc l (p || decide (0<zU e.key m.key))
   cases p<;>by_cases h:0<zU e.key m.key<;>simp[h] at this ⊢<;>omega
theorem QN:∀(l:List Ms) (p:Bool),x∈qb comp m p l→x=m∨x∈l∨∃e∈l,zU e.key m.key=0∧x=comp e m
 | [],p,h=>by
  rw[qb] at h
  split at h<;>simp at h
  exact .inl h
 | e::l,p,h=>by
  rw[qb] at h
  split at h
  ·rename_i hc
   rcases List.mem_cons.1 h with rfl | h
   ·exact .inr (.inr ⟨e,by simp,hc,rfl⟩)
   ·rcases QN l _ h with h | h | ⟨e',h1,h2⟩
    ·exact .inl h
    ·exact .inr (.inl (by simp[h]))
    ·exact .inr (.inr ⟨e',by simp[h1],h2⟩)
  ·rcases List.mem_append.1 h with h | h
   ·split at h<;>simp at h
    exact .inl h
   ·rcases List.mem_cons.1 h with rfl | h
    ·exact .inr (.inl (by simp))
    ·rcases QN l _ h with h | h | ⟨e',h1,h2⟩
     ·exact .inl h
     ·exact .inr (.inl (by simp[h]))
     ·exact .inr (.inr ⟨e',by simp[h1],h2⟩)
/-- Behind it nothing has its key. -/
theorem KQ (hc:∀e,(comp e m).key=m.key):∀l:List Ms,(∀e∈l,zU e.key m.key≠0)→qb comp m true l=l
 | [],_=>rfl
 | e::l,h=>by
  rw[qb,if_neg (h e (by simp)),Bool.true_or,KQ hc l fun e' he=>h e' (by simp[he])]
  simp
theorem zFs (hc:∀e,(comp e m).key=m.key):∀l:List Ms,XQ l→XQ (qb comp m false l)
 | [],_=>by simp[qb,XQ]
 | e::l,h=>by
  obtain⟨h1,h2⟩:=List.pairwise_cons.1 h
  have above:0≤zU e.key m.key→∀y∈l,zU m.key y.key<0:=fun h0 y hy=>by
   rcases Int.lt_or_eq_of_le h0 with h | h
   ·exact Vh (Xq h) (h1 y hy)
   ·rw[←Ym h.symm];exact h1 y hy
  have other:0≤zU e.key m.key→∀y∈l,zU y.key m.key≠0:=fun h0 y hy h=>by
   have:=above h0 y hy
   rw[Ym h,Kt] at this
   omega
  rw[qb]
  split
  ·rename_i h0
   rw[KQ hc l (other (by omega))]
   exact List.pairwise_cons.2 ⟨fun y hy=>by rw[hc];exact above (by omega) y hy,h2⟩
  ·rename_i h0
   by_cases hp:0<zU e.key m.key
   ·rw[if_pos ⟨hp,rfl⟩,decide_eq_true hp,Bool.false_or,KQ hc l (other (by omega))]
    refine List.pairwise_cons.2 ⟨fun y hy=>?_,List.pairwise_cons.2 ⟨h1,h2⟩⟩
    rcases List.mem_cons.1 hy with rfl | hy
    ·exact Xq hp
    ·exact above (by omega) y hy
   ·rw[if_neg (fun h=>hp h.1),decide_eq_false hp,Bool.false_or,List.nil_append]
    refine List.pairwise_cons.2 ⟨fun y hy=>?_,zFs hc l h2⟩
    rcases QN l _ hy with rfl | hy | ⟨e',_,_,rfl⟩
    ·show zU e.key y.key<0;omega
    ·exact h1 y hy
    ·rw[hc];omega
theorem zM3 (h:XQ l):rising (l.map Ms.key):=by
 intro i a b hi ha hb
 simp only[List.getElem?_map,Option.map_eq_some_iff] at ha hb
 obtain⟨x,hx,rfl⟩:=ha
 obtain⟨y,hy,rfl⟩:=hb
 obtain⟨h1,rfl⟩:=List.getElem?_eq_some_iff.1 hx
 obtain⟨h2,rfl⟩:=List.getElem?_eq_some_iff.1 hy
 exact List.pairwise_iff_getElem.1 h (i - 1) i h1 h2 (by omega)
end
end Go.Mo
namespace Go.Proofs.YtbmibhjjogobhaaGreat
open Go Go.Eng Go.Mo
variable [zB]
set_option maxRecDepth 20000
attribute [local irreducible] hvc zf hop zg yI zb zu yQ
def qq (o n:Ms):Ms:=
 if n.kind=3∧o.key=n.key then (if o.kind=1 then ⟨1,n.seq,n.key,za ((yj ((pad 16 o.val).take 8)+n.by_) % 18446744073709551616) 8,0⟩ else if o.kind=2 then ⟨1,n.seq,n.key,za n.by_ 8,0⟩ else ⟨3,n.seq,n.key,[],(o.by_+n.by_) % 18446744073709551616⟩) else n
theorem zM6 (o n:Ms):(qq o n).key=n.key:=by
 unfold qq
 repeat' split
 all_goals rfl
theorem zMp (o n:Ms) (ho:okM o) (hn:okM n) (mo:yC o) (mn:yC n):okM (qq o n)∧yC (qq o n):=by
 have h8:∀x,okV (za x 8):=fun x=>by unfold okV;rw[yd];omega
 have hs:=hn.seq
 have hb:=hn.by_
 unfold qq
 split
 ·split
  ·exact⟨⟨by simp,hs,hn.key,h8 _,by simp⟩,⟨by simp,by simp,by simp,by simp⟩⟩
  ·split
   ·exact⟨⟨by simp,hs,hn.key,h8 _,by simp⟩,⟨by simp,by simp,by simp,by simp⟩⟩
   ·exact⟨⟨by simp,hs,hn.key,by simp[okV],by simp only;omega⟩,⟨by simp,by simp,by simp,by simp⟩⟩
 ·exact⟨hn,mn⟩
theorem zRC (key:Bs) (x y:HV):zP 26 [x] (zJ key++(zK []++[y]))=zJ key++(zK []++[x]):=by
 have h26:(zJ key++zK []).length=26:=by rw[List.length_append,zh,yD]
 rw[zP,show zJ key++(zK []++[y])=(zJ key++zK [])++[y] from (List.append_assoc ..).symm,List.take_left' h26,List.drop_of_length_le (by rw[List.length_append,h26];exact Nat.le_refl _),List.append_nil,List.append_assoc]
theorem zDP (key v:Bs) (y:HV):zP 9 (zK v) (zJ key++(zK []++[y]))=zJ key++(zK v++[y]):=by
 rw[zP,List.take_left' (zh _),yD,←List.drop_drop,List.drop_left' (zh _),List.drop_left' (yD _)]
theorem zLr (o n:Ms) (ho:okM o) (hn:okM n) (mo:yC o) (mn:yC n):Pure Tryz.prog 219 [.agg (zM o),.agg (zM n)] (.agg (zM (qq o n))):=by
 refine Pure.zp (by rw[wE];exact ki _) fun PS=>?_
 have hz1:List.drop 8 (List.replicate 8 (HV.int .u8 0)++[HV.int .i64 0]++List.replicate 16 (HV.int .u8 0)++[HV.int .u64 0])=zK []++[HV.int .u64 0]:=rfl
 have hon:∀v b,qS (zJ n.key++(zK v++[HV.int .u64 b]))=True:=fun v b=>eq_true ((qy _).2 (by intro y hy;rcases List.mem_append.1 hy with hy | hy;exact gX _ y hy;rcases List.mem_append.1 hy with hy | hy;exact kU _ y hy;simp at hy;subst hy;rfl))
 have htt:∀v b,List.take 27 (zJ n.key++(zK v++[HV.int .u64 b]))=zJ n.key++(zK v++[HV.int .u64 b]):=fun v b=>List.take_of_length_le (by simp[zh,yD])
 refine zHo (by unfold Tryz.f219;exact rfl) ?_
 by_cases h3:n.kind=3
 ·by_cases hk:o.key=n.key
  ·have hz2:List.drop 27 (HV.int .i64 0::(List.replicate 8 (HV.int .u8 0)++[HV.int .i64 0]++List.replicate 16 (HV.int .u8 0)++[HV.int .u64 0]))=[]:=rfl
   by_cases h1:o.kind=1
   ·simp only[go_sem,seval, -List.reduceReplicate,h3,jJ ho.key,jJ hn.key,hk,h1,hz1,hon,htt,List.length_append,zh,yD]
    refine zG ((zIr o.val n.by_ hn.by_).call ?_)
    simp only[go_sem,seval, -List.reduceReplicate,h3,hk,h1,hz1,hz2,hon,htt,zDP,List.append_nil,List.length_append,zh,yD]
    exact⟨by simp[qq,h3,hk,h1,zM],Ext.app _ _⟩
   ·by_cases h2:o.kind=2
    ·simp only[go_sem,seval, -List.reduceReplicate,h3,jJ ho.key,jJ hn.key,hk,h1,h2,hz1,hon,htt,List.length_append,zh,yD]
     refine zG ((zA1 n.by_ hn.by_).call ?_)
     simp only[go_sem,seval, -List.reduceReplicate,h3,hk,h1,h2,hz1,hz2,hon,htt,zDP,List.append_nil,List.length_append,zh,yD]
     exact⟨by simp[qq,h3,hk,h2,zM],Ext.app _ _⟩
    ·have hw:IntKind.u64.wrap ((o.by_:Int)+(n.by_:Int))=(((o.by_+n.by_) % 18446744073709551616:Nat):Int):=by
      show ((o.by_:Int)+(n.by_:Int)) % 18446744073709551616=_
      omega
     simp only[go_sem,seval, -List.reduceReplicate,h3,jJ ho.key,jJ hn.key,hk,h1,h2,hz1,hz2,hon,htt,hw,zRC,List.append_nil,List.length_append,zh,yD]
     exact⟨by simp[qq,h3,hk,h1,h2,zM],Ext.app _ _⟩
  ·simp only[go_sem,seval, -List.reduceReplicate,h3,jJ ho.key,hk]
   exact⟨by simp[qq,hk],Ext.app _ _⟩
 ·simp only[go_sem,seval, -List.reduceReplicate,h3]
  exact⟨by simp[qq,h3],Ext.app _ _⟩
end Go.Proofs.YtbmibhjjogobhaaGreat
namespace Go.Proofs.YtbmibhjjogobhaaGreat
open Go Go.Eng Go.Ow
open Go.Mo
variable [zB]
set_option maxRecDepth 20000
attribute [local irreducible] hvc zf hop zg yI zb zu yQ
theorem zMY (t:Bool) (l:List Ms) (m:Ms) (hm:okM m) (mm:yC m) (ok:∀e∈l,okM e∧yC e) (hl:l.length≤1000):
  Pure Tryz.prog 131 [.imm t (l.map zM),.agg (zM m)] (.imm (decide ((qb qq m false l).map zM=[])) ((qb qq m false l).map zM)):=by
 intro PS
 refine Bld.done (s:=29) (by intro x hx y hy;simp at hx;obtain⟨a,_,rfl⟩:=hx;exact ki _ y hy) ?_
 have hmx:maxLen=9223372036854775807:=rfl
 refine zRy (by unfold Tryz.f131;exact rfl) ?_
 simp only[go_sem,seval, -List.reduceReplicate]
 have hx0:Ext [] PS (PS++[zC.arr 0 29 [zM m] false]):=Ext.app _ _
 have g0:zA (PS++[zC.arr 0 29 [zM m] false]) PS.length=.arr 0 29 [zM m] false:=zt _ _
 have hlen:(PS++[zC.arr 0 29 [zM m] false]).length=PS.length+1:=by simp
 generalize PS++[zC.arr 0 29 [zM m] false]=PA at hx0 g0 hlen ⊢
 refine zG (zq (α:=Nat×Bool×HV) [false,false,false,false,false,false,false,false,true,true,true,true,true,true,true,true,true,true,true,true,true,true,true,true,true,true,true,true,true,true,true,true,true,true,true,true,true,true,true,true,true,true,true,true,true,true,true,true,true,true,true] (fun b=>[(7,.int .i64 b.1),(5,b.2.2),(6,.bool b.2.1)]) (fun b=>l.length - b.1) (fun b PS'=>b.1≤l.length∧∃R,R.length≤2*b.1∧R++qb qq m b.2.1 (l.drop b.1)=qb qq m false l∧Bld PA PS' 29 b.2.2 (R.map zM)) (0,false,.imm true []) ⟨Nat.zero_le _,[],by simp,rfl,Bld.nil 29 (Ext.refl _)⟩ ?_ ?_)
 ·simp only[go_sem,seval, -List.reduceReplicate,Int.natCast_zero]
 ·rintro⟨i,p,y⟩ PS1 ⟨hi,R,hR,hE,hb⟩
  simp only at hi hR hE hb
  have h0:=(hb.ext.2 PS.length (by omega) (by simp)).trans g0
  by_cases hlt:i<l.length
  ·have ha1:l[i]? =some l[i]:=by simp[hlt]
   have oi:=ok _ (List.getElem_mem hlt)
   have hdr:l.drop i=l[i]::l.drop (i+1):=List.drop_eq_getElem_cons hlt
   rw[hdr,qb] at hE
   simp only[go_sem,seval, -List.reduceReplicate,hlt,List.getElem?_map,Option.map_some,ha1,List.length_map,h0]
   intro _
   refine zG ((ke _ _ oi.1.key hm.key).to ?_)
   by_cases hc:zU l[i].key m.key=0
   ·rw[if_pos hc] at hE
    simp only[go_sem,seval, -List.reduceReplicate,hc,hlt,List.getElem?_map,Option.map_some,ha1,List.length_map,h0]
    refine zG ((zLr _ m oi.1 hm oi.2 mm).to ?_)
    simp only[go_sem,seval, -List.reduceReplicate,hlt,List.getElem?_map,Option.map_some,ha1,List.length_map,h0]
    refine⟨by simp[qL],hb.app (by simp[qL]) (by simp) (by simp[zr];omega) fun v PS2 hb2=>?_⟩
    exact⟨⟨by omega,by omega⟩,(i+1,true,v),by simp only;omega,⟨by simp only;omega,R++[qq l[i] m],by simp;omega,by simpa using hE,by simpa using hb2⟩,.inl rfl,rfl,rfl⟩
   ·rw[if_neg hc] at hE
    by_cases hp:0<zU l[i].key m.key∧p=false
    ·obtain⟨hp,rfl⟩:=hp
     rw[if_pos ⟨hp,rfl⟩,decide_eq_true hp,Bool.or_true] at hE
     simp only[go_sem,seval, -List.reduceReplicate,hc,hp,hlt,List.getElem?_map,Option.map_some,ha1,List.length_map,h0]
     refine⟨by simp[qL],hb.app (by simp[qL]) (by simp) (by simp[zr];omega) fun v PS2 hb2=>?_⟩
     have hb2:Bld PA PS2 29 v ((R++[m]).map zM):=by simpa using hb2
     refine⟨by simp[qL],hb2.app (by simp[qL]) (by simp) (by simp[zr];omega) fun v PS3 hb3=>?_⟩
     exact⟨⟨by omega,by omega⟩,(i+1,true,v),by simp only;omega,⟨by simp only;omega,R++[m]++[l[i]],by simp;omega,by simpa using hE,by simpa using hb3⟩,.inl rfl,rfl,rfl⟩
    ·rw[if_neg hp,List.nil_append] at hE
     have hpp:(p || decide (0<zU l[i].key m.key))=p:=by
      cases p with
      | true=>rfl
      | false=>simpa using hp
     rw[hpp] at hE
     cases p with
     | true=>
      by_cases hp':0<zU l[i].key m.key
      ·simp only[go_sem,seval, -List.reduceReplicate,hc,hp',hlt,List.getElem?_map,Option.map_some,ha1,List.length_map,h0]
       refine⟨by simp[qL],hb.app (by simp[qL]) (by simp) (by simp[zr];omega) fun v PS2 hb2=>?_⟩
       exact⟨⟨by omega,by omega⟩,(i+1,true,v),by simp only;omega,⟨by simp only;omega,R++[l[i]],by simp;omega,by simpa using hE,by simpa using hb2⟩,.inl rfl,rfl,rfl⟩
      ·simp only[go_sem,seval, -List.reduceReplicate,hc,hp',hlt,List.getElem?_map,Option.map_some,ha1,List.length_map,h0]
       refine⟨by simp[qL],hb.app (by simp[qL]) (by simp) (by simp[zr];omega) fun v PS2 hb2=>?_⟩
       exact⟨⟨by omega,by omega⟩,(i+1,true,v),by simp only;omega,⟨by simp only;omega,R++[l[i]],by simp;omega,by simpa using hE,by simpa using hb2⟩,.inl rfl,rfl,rfl⟩
     | false=>
      have hp':¬0<zU l[i].key m.key:=fun h=>hp ⟨h,rfl⟩
      simp only[go_sem,seval, -List.reduceReplicate,hc,hp',hlt,List.getElem?_map,Option.map_some,ha1,List.length_map,h0]
      refine⟨by simp[qL],hb.app (by simp[qL]) (by simp) (by simp[zr];omega) fun v PS2 hb2=>?_⟩
      exact⟨⟨by omega,by omega⟩,(i+1,false,v),by simp only;omega,⟨by simp only;omega,R++[l[i]],by simp;omega,by simpa using hE,by simpa using hb2⟩,.inl rfl,rfl,rfl⟩
  ·rw[List.drop_of_length_le (by omega)] at hE
   have hw:∀{v:HV} {PS3:PL} {R:List (List HV)},Bld PA PS3 29 v R→Bld PS PS3 29 v R:=fun h=>by
    refine⟨?_,h.2.1,hx0.trans h.2.2⟩
    rcases h.1 with h | ⟨h1,p,ver,h2,h3,h4⟩
    ·exact .inl h
    ·exact .inr ⟨h1,p,ver,h2,Nat.le_trans hx0.1 h3,h4⟩
   cases p with
   | false=>
    simp only[go_sem,seval, -List.reduceReplicate,hlt,List.length_map,h0]
    intro _
    refine⟨by simp[qL],hb.app (by simp[qL]) (by simp) (by simp[zr];omega) fun v PS2 hb2=>?_⟩
    rw[←hE]
    exact hw (by simpa [qb] using hb2)
   | true=>
    simp only[go_sem,seval, -List.reduceReplicate,hlt,List.length_map]
    intro _
    rw[←hE]
    exact hw (by simpa [qb] using hb)
end Go.Proofs.YtbmibhjjogobhaaGreat
namespace Go.Proofs.YtbmibhjjogobhaaGreat
open Go Go.Eng Go.Ow
open Go.Mo
variable [zB]
set_option maxRecDepth 20000
attribute [local irreducible] hvc zf hop zg yI zb zu yQ
noncomputable def gm (v s:Int):Ms:=Classical.choose (Uk v s)
theorem zE9 (v s:Int):okM (gm v s)∧yC (gm v s):=⟨(Classical.choose_spec (Uk v s)).1,(Classical.choose_spec (Uk v s)).2.1⟩
theorem zQJ (v s:Int):Pure Tryz.prog 132 [.int .i64 v,.int .i64 s] (.agg (zM (gm v s))):=(Classical.choose_spec (Uk v s)).2.2.2
/-- One more message,if there is room. -/
noncomputable def YG (b:Nat) (out:List Ms) (p:Int×Nat):List Ms:=
 if jL (qb qq (gm p.1 ((p.2:Int)+1)) false out)≤b then qb qq (gm p.1 ((p.2:Int)+1)) false out else out
noncomputable def jY (b:Nat) (l:List Int):List Ms:=l.zipIdx.foldl (YG b) []
structure ZB (b n:Nat) (L:List Ms):Prop where
 ok:∀e∈L,okM e∧yC e
 up:XQ L
 by_:jL L≤b
 few:L.length≤n
theorem zFV {L:List Ms} {m:Ms} (hL:∀e∈L,okM e∧yC e) (hm:okM m∧yC m):∀e∈qb qq m false L,okM e∧yC e:=fun e he=>by
 rcases QN L false he with rfl | he | ⟨e',h1,_,rfl⟩
 ·exact hm
 ·exact hL e he
 ·exact zMp e' m (hL e' h1).1 hm.1 (hL e' h1).2 hm.2
theorem zKF {b n:Nat} {L:List Ms} (h:ZB b n L) (p:Int×Nat):ZB b (n+1) (YG b L p):=by
 unfold YG
 split
 ·rename_i hb
  refine⟨zFV h.ok (zE9 _ _),zFs (fun e=>zM6 e _) _ h.up,hb,?_⟩
  have:=Uc (comp:=qq) (m:=gm p.1 ((p.2:Int)+1)) L false
  have:=h.few
  simp at*;omega
 ·exact⟨h.ok,h.up,h.by_,by have:=h.few;omega⟩
theorem zFw (b:Nat) (l:List Int):ZB b l.length (jY b l):=by
 have:∀(l:List (Int×Nat)) (n:Nat) (L:List Ms),ZB b n L→ZB b (n+l.length) (l.foldl (YG b) L):=by
  intro l
  induction l with
  | nil=>intro n L h;exact h
  | cons x l ih=>intro n L h;have:=ih _ _ (zKF h x);rw[List.foldl_cons,List.length_cons];rwa [Nat.add_assoc,Nat.add_comm 1] at this
 have:=this l.zipIdx 0 [] ⟨by simp,List.Pairwise.nil,by simp[jL],by simp⟩
 rwa [Nat.zero_add,List.length_zipIdx] at this
theorem zIN {b:Nat} {l:List Int} {i:Nat} (h:i<l.length):jY b (l.take (i+1))=YG b (jY b (l.take i)) (l[i],i):=by
 unfold jY
 rw[List.take_succ_eq_append_getElem h,List.zipIdx_append,List.foldl_append]
 have:(l.take i).length=i:=by simp;omega
 simp[this]
theorem zAU (t:Bool) (l:List Int) (b:Nat) (hb1:b≤100000):Pure Tryz.prog 77 [.imm t (l.map zY),.int .i64 b] (.imm (decide ((jY b (l.take 60)).map zM=[])) ((jY b (l.take 60)).map zM)):=by
 refine Pure.zp (xu _ zM _ ki) fun PS=>?_
 have hmx:maxLen=9223372036854775807:=rfl
 refine zO2 (by unfold Tryz.f77;exact rfl) ?_
 simp only[go_sem,seval, -List.reduceReplicate]
 refine zG (zq (α:=Nat) [false,false,false,false,false,false,false,true,true,true,true,true,true,true,true,true,true,true,true,true,true,true,true,true,true,true,true,true,true,true,true,true] (fun i=>[(6,.int .i64 i),(5,.imm (decide ((jY b (l.take i)).map zM=[])) ((jY b (l.take i)).map zM))]) (fun i=>l.length - i) (fun i PS'=>(i≤l.length∧i≤60)∧Ext [] PS PS') 0 ⟨⟨Nat.zero_le _,Nat.zero_le _⟩,Ext.refl _⟩ ?_ ?_)
 ·simp only[go_sem,seval, -List.reduceReplicate,Int.natCast_zero]
  rfl
 ·rintro i PS1 ⟨hi,hx⟩
  by_cases hlt:i<l.length
  ·have ha1:l[i]? =some l[i]:=by simp[hlt]
   by_cases hq:(i:Int)<60
   ·have ok:=zFw b (l.take i)
    have hst:=zIN (b:=b) hlt
    have hfew:(jY b (l.take i)).length≤i:=Nat.le_trans ok.few (List.length_take_le ..)
    unfold YG at hst
    simp only at hst
    generalize jY b (l.take i)=out at hst ok hfew ⊢
    simp only[go_sem,seval, -List.reduceReplicate,hlt,List.getElem?_map,Option.map_some,ha1,List.length_map,hq,zY]
    intro _
    refine⟨⟨by omega,by omega⟩,zG ((zQJ _ _).call ?_)⟩
    simp only[go_sem,seval, -List.reduceReplicate]
    have hg:=zE9 l[i] ((i:Int)+1)
    refine zG ((zMY (decide (List.map zM out=[])) out (gm l[i] ((i:Int)+1)) hg.1 hg.2 ok.ok (by omega)).call ?_)
    have hmo:=zFV ok.ok hg
    have hml:=Uc (comp:=qq) (m:=gm l[i] ((i:Int)+1)) out false
    simp only[Bool.false_eq_true,if_false] at hml
    generalize qb qq (gm l[i] ((i:Int)+1)) false out=more at hst hmo hml ⊢
    simp only[go_sem,seval, -List.reduceReplicate]
    have hbt:=zFi (decide (List.map zM more=[])) more (by omega) (fun e he=>(hmo e he).1)
    change Pure _ _ _ (.int .i64 (jL more:Nat)) at hbt
    refine zG (hbt.call ?_)
    by_cases hb:jL more≤b
    ·rw[if_pos hb] at hst
     have hb':((jL more:Nat):Int)≤(b:Int):=by omega
     simp only[go_sem,seval, -List.reduceReplicate,hb']
     exact⟨⟨by omega,by omega⟩,i+1,by omega,⟨⟨by omega,by omega⟩,hx⟩,by rw[hst],rfl⟩
    ·rw[if_neg hb] at hst
     have hb':¬((jL more:Nat):Int)≤(b:Int):=by omega
     simp only[go_sem,seval, -List.reduceReplicate,hb']
     exact⟨⟨by omega,by omega⟩,i+1,by omega,⟨⟨by omega,by omega⟩,hx⟩,by rw[hst],rfl⟩
   ·simp only[go_sem,seval, -List.reduceReplicate,hlt,List.getElem?_map,List.length_map,hq]
    intro _
    have h60:i=60:=by omega
    subst h60
    exact⟨rfl,hx⟩
  ·simp only[go_sem,seval, -List.reduceReplicate,hlt,List.length_map]
   intro _
   rw[List.take_of_length_le (show l.length≤i by omega),List.take_of_length_le (show l.length≤60 by omega)]
   exact⟨rfl,hx⟩
end Go.Proofs.YtbmibhjjogobhaaGreat
