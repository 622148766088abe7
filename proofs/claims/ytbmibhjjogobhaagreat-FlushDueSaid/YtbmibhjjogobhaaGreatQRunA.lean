/-
A run of code over abstract values, worked out by the kernel: memory as a trie, operations.
No conditions.
-/
import Derived.Test.YtbmibhjjogobhaaGreatQEngZ
import Derived.Test.YtbmibhjjogobhaaGreatQEngWd
set_option linter.unusedSectionVars false
set_option linter.unusedSimpArgs false
set_option linter.unusedVariables false
noncomputable section
namespace Go.Eng
open Go
variable [zB]
theorem vM {a b:Nat}:Nat.blt a b=true↔a<b:=by rw[Nat.blt_eq]
/-! ### Tries -/
inductive BT (α:Type) where
 | emp
 | nd (l:BT α) (v:α) (r:BT α)
def BT.get {α:Type} (z:α) (t:BT α):Nat→α:=
 BT.rec (motive:=fun _=>Nat→α) (fun _=>z) (fun _ v _ ihl ihr n=>Nat.rec (motive:=fun _=>α) v (fun n _=>Bool.rec (motive:=fun _=>α) (ihr (n / 2)) (ihl (n / 2)) (Nat.beq (n % 2) 0)) n) t
theorem BT.QM {α:Type} (z:α) (n:Nat):BT.get z .emp n=z:=rfl
theorem BT.xf {α:Type} (z:α) (l:BT α) (v:α) (r:BT α):BT.get z (.nd l v r) 0=v:=rfl
theorem BT.xn {α:Type} (z:α) (l:BT α) (v:α) (r:BT α) (n:Nat):BT.get z (.nd l v r) (n+1)=bif Nat.beq (n % 2) 0 then BT.get z l (n / 2) else BT.get z r (n / 2):=by
 show Bool.rec (motive:=fun _=>α) _ _ (Nat.beq (n % 2) 0)=_
 cases Nat.beq (n % 2) 0<;>rfl
/-- A way to a place,all else empty. -/
def BT.path {α:Type} (z:α):Nat→Nat→α→BT α
 | 0,_,_=>.emp
 | _+1,0,a=>.nd .emp a .emp
 | d+1,n+1,a=>bif Nat.beq (n % 2) 0 then .nd (BT.path z d (n / 2) a) z .emp else .nd .emp z (BT.path z d (n / 2) a)
theorem Ue {n m:Nat} (h:n % 2=m % 2) (h2:n / 2=m / 2):n=m:=by omega
theorem BT.GZ {α:Type} (z:α):∀(d n m:Nat) (a:α),n+1<2 ^ d→BT.get z (BT.path z d n a) m=if m=n then a else z
 | 0,n,m,a,hn=>by simp at hn
 | d+1,0,m,a,hn=>by cases m<;>simp[BT.path,BT.xf,BT.xn,BT.QM]
 | d+1,n+1,m,a,hn=>by
  have hn2:n / 2+1<2 ^ d:=by rw[Nat.pow_succ] at hn;omega
  simp only[BT.path]
  cases hb:Nat.beq (n % 2) 0
  ·have hn1:n % 2≠0:=fun e=>by rw[e] at hb;exact absurd hb (by decide)
   cases m with
   | zero=>simp[BT.xf]
   | succ m=>
    simp only[cond_false,BT.xn,BT.QM,Nat.add_right_cancel_iff]
    cases hc:Nat.beq (m % 2) 0
    ·have hm1:m % 2≠0:=fun e=>by rw[e] at hc;exact absurd hc (by decide)
     simp only[cond_false]
     rw[BT.GZ z d _ _ a hn2]
     by_cases h:m / 2=n / 2
     ·rw[if_pos h,if_pos (Ue (by omega) h)]
     ·rw[if_neg h,if_neg (fun e=>h (by rw[e]))]
    ·have hm1:m % 2=0:=Nat.eq_of_beq_eq_true hc
     simp only[cond_true]
     rw[if_neg (fun e=>by subst e;exact hn1 hm1)]
  ·have hn1:n % 2=0:=Nat.eq_of_beq_eq_true hb
   cases m with
   | zero=>simp[BT.xf]
   | succ m=>
    simp only[cond_true,BT.xn,BT.QM,Nat.add_right_cancel_iff]
    cases hc:Nat.beq (m % 2) 0
    ·have hm1:m % 2≠0:=fun e=>by rw[e] at hc;exact absurd hc (by decide)
     simp only[cond_false]
     rw[if_neg (fun e=>by subst e;exact hm1 hn1)]
    ·have hm1:m % 2=0:=Nat.eq_of_beq_eq_true hc
     simp only[cond_true]
     rw[BT.GZ z d _ _ a hn2]
     by_cases h:m / 2=n / 2
     ·rw[if_pos h,if_pos (Ue (by omega) h)]
     ·rw[if_neg h,if_neg (fun e=>h (by rw[e]))]
/-- Set,and go on with the whole worked out along the way. -/
def BT.set {α β:Type} (z:α) (d:Nat) (t:BT α):Nat→α→(BT α→β)→β:=
 BT.rec (motive:=fun _=>Nat→α→(BT α→β)→β) (fun n a K=>K (BT.path z d n a)) (fun l v r ihl ihr n a K=>Nat.rec (motive:=fun _=>β) (K (.nd l a r)) (fun n _=>Bool.rec (motive:=fun _=>β) (ihr (n / 2) a fun r=>K (.nd l v r)) (ihl (n / 2) a fun l=>K (.nd l v r)) (Nat.beq (n % 2) 0)) n) t
theorem BT.Jj {α β:Type} (z:α) (d:Nat) (l:BT α) (v:α) (r:BT α) (n:Nat) (a:α) (K:BT α→β):BT.set z d (.nd l v r) (n+1) a K=bif Nat.beq (n % 2) 0 then BT.set z d l (n / 2) a fun l=>K (.nd l v r) else BT.set z d r (n / 2) a fun r=>K (.nd l v r):=by
 show Bool.rec (motive:=fun _=>β) _ _ (Nat.beq (n % 2) 0)=_
 cases Nat.beq (n % 2) 0<;>rfl
theorem BT.jE {α β:Type} (z:α) (d:Nat):∀(t:BT α) (n:Nat) (a:α) (K:BT α→β),BT.set z d t n a K=K (BT.set z d t n a id)
 | .emp,_,_,_=>rfl
 | .nd _ _ _,0,_,_=>rfl
 | .nd l v r,n+1,a,K=>by
  rw[BT.Jj,BT.Jj]
  cases Nat.beq (n % 2) 0
  ·exact(BT.jE z d r _ a fun r'=>K (BT.nd l v r')).trans (congrArg K (BT.jE z d r _ a fun r'=>id (BT.nd l v r')).symm)
  ·exact(BT.jE z d l _ a fun r'=>K (BT.nd r' v r)).trans (congrArg K (BT.jE z d l _ a fun r'=>id (BT.nd r' v r)).symm)
theorem BT.YL {α:Type} (z:α) (d:Nat):∀(t:BT α) (n m:Nat) (a:α),n+1<2 ^ d→BT.get z (BT.set z d t n a id) m=if m=n then a else BT.get z t m
 | .emp,n,m,a,hn=>by
  show BT.get z (BT.path z d n a) m=_
  rw[BT.GZ z d n m a hn];rfl
 | .nd l v r,0,m,a,hn=>by
  show BT.get z (BT.nd l a r) m=_
  cases m<;>simp[BT.xf,BT.xn]
 | .nd l v r,n+1,m,a,hn=>by
  have hn2:n / 2+1<2 ^ d:=by omega
  rw[BT.Jj]
  cases hb:Nat.beq (n % 2) 0
  ·have hn1:n % 2≠0:=fun e=>by rw[e] at hb;exact absurd hb (by decide)
   simp only[cond_false]
   rw[BT.jE]
   cases m with
   | zero=>simp[BT.xf]
   | succ m=>
    simp only[id_eq,BT.xn,Nat.add_right_cancel_iff]
    cases hc:Nat.beq (m % 2) 0
    ·have hm1:m % 2≠0:=fun e=>by rw[e] at hc;exact absurd hc (by decide)
     simp only[cond_false]
     rw[BT.YL z d r _ _ a hn2]
     by_cases h:m / 2=n / 2
     ·rw[if_pos h,if_pos (Ue (by omega) h)]
     ·rw[if_neg h,if_neg (fun e=>h (by rw[e]))]
    ·have hm1:m % 2=0:=Nat.eq_of_beq_eq_true hc
     simp only[cond_true]
     rw[if_neg (fun e=>by subst e;exact hn1 hm1)]
  ·have hn1:n % 2=0:=Nat.eq_of_beq_eq_true hb
   simp only[cond_true]
   rw[BT.jE]
   cases m with
   | zero=>simp[BT.xf]
   | succ m=>
    simp only[id_eq,BT.xn,Nat.add_right_cancel_iff]
    cases hc:Nat.beq (m % 2) 0
    ·have hm1:m % 2≠0:=fun e=>by rw[e] at hc;exact absurd hc (by decide)
     simp only[cond_false]
     rw[if_neg (fun e=>by subst e;exact hm1 hn1)]
    ·have hm1:m % 2=0:=Nat.eq_of_beq_eq_true hc
     simp only[cond_true]
     rw[BT.YL z d l _ _ a hn2]
     by_cases h:m / 2=n / 2
     ·rw[if_pos h,if_pos (Ue (by omega) h)]
     ·rw[if_neg h,if_neg (fun e=>h (by rw[e]))]
/-- A trie as a list. -/
def BT.list {α:Type} (z:α) (t:BT α) (n:Nat):List α:=(List.range n).map (BT.get z t)
theorem BT.zRX {α:Type} (z:α) (t:BT α) (n:Nat):(BT.list z t n).length=n:=by simp[BT.list]
theorem BT.zDV {α:Type} (z:α) (t:BT α) (n i:Nat) (h:i<n):(BT.list z t n).getD i z=BT.get z t i:=by
 simp[BT.list,List.getD,h]
theorem BT.zDQ {α:Type} (z:α) (d:Nat) (t:BT α) (n i:Nat) (a:α) (h:i<n) (hn:n<2 ^ d):BT.list z (BT.set z d t i a id) n=(BT.list z t n).set i a:=by
 apply List.ext_getElem?
 intro j
 rw[List.getElem?_set]
 simp only[BT.list,List.getElem?_map,List.length_map,List.length_range]
 by_cases hj:j<n
 ·rw[List.getElem?_range hj,Option.map_some,BT.YL z d t i j a (by omega)]
  by_cases hij:i=j
  ·subst hij;simp[h]
  ·rw[if_neg hij,if_neg (Ne.symm hij)];simp
 ·rw[List.getElem?_eq_none (by simp;omega)]
  by_cases hij:i=j
  ·subst hij;exact absurd h hj
  ·rw[if_neg hij];rfl
theorem BT.zG4 {α:Type} (z:α) (d:Nat) (t:BT α) (n:Nat) (a:α) (h:n+1<2 ^ d):BT.list z (BT.set z d t n a id) (n+1)=BT.list z t n++[a]:=by
 simp only[BT.list,List.range_succ,List.map_append,List.map_cons,List.map_nil]
 congr 1
 ·refine List.map_congr_left fun j hj=>?_
  have:=List.mem_range.1 hj
  rw[BT.YL z d t n j a h,if_neg (by omega)]
 ·rw[BT.YL z d t n n a h,if_pos rfl]
/-! ### Values worked out -/
section
variable {α:Type}
def fN (n:Nat) (K:Nat→α):α:=Nat.rec (motive:=fun _=>α) (K 0) (fun n _=>K (Nat.succ n)) n
@[simp] theorem yT (n:Nat) (K:Nat→α):fN n K=K n:=by cases n<;>rfl
def fI (n:Int) (K:Int→α):α:=Int.rec (motive:=fun _=>α) (fun a=>fN a fun a=>K (.ofNat a)) (fun a=>fN a fun a=>K (.negSucc a)) n
@[simp] theorem kh (n:Int) (K:Int→α):fI n K=K n:=by cases n<;>simp[fI]
def fB (b:Bool) (K:Bool→α):α:=Bool.rec (motive:=fun _=>α) (K false) (K true) b
@[simp] theorem jR (n:Bool) (K:Bool→α):fB n K=K n:=by cases n<;>rfl
def fL {β:Type} (l:List β):(List β→α)→α:=List.rec (motive:=fun _=>(List β→α)→α) (fun K=>K []) (fun x _ ih K=>ih fun l=>K (x::l)) l
@[simp] theorem yn {β:Type}:∀(l:List β) (K:List β→α),fL l K=K l
 | [],_=>rfl
 | x::l,K=>yn l fun l=>K (x::l)
def fO (o:Option Nat) (K:Option Nat→α):α:=
 match o with
 | none=>K none
 | some n=>fN n fun n=>K (some n)
@[simp] theorem zCR (n:Option Nat) (K:Option Nat→α):fO n K=K n:=by cases n<;>simp[fO]
/-- Its head worked out. -/
def fH (v:HV):(HV→α)→α:=
 HV.rec (motive_1:=fun _=>(HV→α)→α) (motive_2:=fun _=>Unit) (motive_3:=fun _=>Unit) (fun b K=>K (.bool b)) (fun k n K=>K (.int k n)) (fun s K=>K (.str s)) (fun v K=>K (.cst v)) (fun t E _ K=>K (.imm t E)) (fun c k _ K=>K (.iptr c k)) (fun n ver i k K=>K (.ptr n ver i k)) (fun n ver i len c K=>K (.sl n ver i len c)) (fun n ver i k len c K=>K (.isl n ver i k len c)) (fun n ver K=>K (.ref n ver)) (fun c _ K=>K (.agg c)) (fun c _ K=>K (.tup c)) (fun f a c _ _ K=>K (.func f a c)) (fun t x _ K=>K (.iface t x)) (fun k q r K=>K (.any k q r)) (fun K=>K .anyb) (fun k i K=>K (.tok k i)) (fun i K=>K (.stok i)) (fun i K=>K (.nam i)) (fun K=>K .junk) () (fun _ _ _ _=>()) () (fun _ _ _ _=>()) v
@[simp] theorem uc (v:HV) (K:HV→α):fH v K=K v:=by cases v<;>rfl
def fLH (l:List HV):(List HV→α)→α:=List.rec (motive:=fun _=>(List HV→α)→α) (fun K=>K []) (fun x _ ih K=>fH x fun x=>ih fun l=>K (x::l)) l
@[simp] theorem kJ:∀(l:List HV) (K:List HV→α),fLH l K=K l
 | [],_=>rfl
 | x::l,K=>(uc x fun x=>fLH l fun l=>K (x::l)).trans (kJ l fun l=>K (x::l))
/-- Bytes as rows,worked out. -/
def fBR (l:List UInt8):(List (List HV)→α)→α:=List.rec (motive:=fun _=>(List (List HV)→α)→α) (fun K=>K []) (fun b _ ih K=>fN b.toNat fun n=>ih fun l=>K ([.int .u8 (.ofNat n)]::l)) l
@[simp] theorem Ki:∀(l:List UInt8) (K:List (List HV)→α),fBR l K=K (l.map fun b=>[HV.int .u8 b.toNat])
 | [],_=>rfl
 | x::l,K=>(yT x.toNat fun n=>fBR l fun l=>K ([.int .u8 (.ofNat n)]::l)).trans (Ki l _)
def fLL (l:List (List HV)):(List (List HV)→α)→α:=List.rec (motive:=fun _=>(List (List HV)→α)→α) (fun K=>K []) (fun x _ ih K=>fL x fun x=>ih fun l=>K (x::l)) l
@[simp] theorem zEW:∀(l:List (List HV)) (K:List (List HV)→α),fLL l K=K l
 | [],_=>rfl
 | x::l,K=>(yn x fun x=>fLL l fun l=>K (x::l)).trans (zEW l fun l=>K (x::l))
end
/-! ### Memory and frames -/
structure Mem where
 t:BT zC
 n:Nat
def Mem.pl (m:Mem):PL:=BT.list .dead m.t m.n
def Mem.get (m:Mem) (n:Nat):zC:=bif Nat.blt n m.n then BT.get .dead m.t n else .dead
theorem Mem.get_eq (m:Mem) (n:Nat):zA m.pl n=m.get n:=by
 unfold zA Mem.get Mem.pl
 cases h:Nat.blt n m.n
 ·have hn:¬n<m.n:=fun e=>by rw[vM.2 e] at h;cases h
  simp only[cond_false]
  simp[List.getD,BT.list,hn]
 ·simp only[cond_true]
  rw[BT.zDV _ _ _ _ (vM.1 h)]
theorem Mem.len (m:Mem):m.pl.length=m.n:=BT.zRX _ _ _
def Mem.push {α:Type} (m:Mem) (q:zC) (K:Mem→Option α):Option α:=
 bif Nat.blt m.n 65000 then BT.set .dead 17 m.t m.n q fun t=>fN (m.n+1) fun n=>K ⟨t,n⟩ else none
def Mem.set {α:Type} (m:Mem) (n:Nat) (q:zC) (K:Mem→Option α):Option α:=
 bif Nat.blt n m.n&&Nat.blt m.n 65001 then BT.set .dead 17 m.t n q fun t=>K ⟨t,m.n⟩ else none
theorem Mem.kF {α:Type} {m:Mem} {q:zC} {K:Mem→Option α} {r:α} (h:m.push q K=some r):∃m':Mem,m'.pl=m.pl++[q]∧K m'=some r:=by
 unfold Mem.push at h
 cases hb:Nat.blt m.n 65000 with
 | false=>rw[hb] at h;cases h
 | true=>
  rw[hb] at h
  simp only[cond_true,yT] at h
  rw[BT.jE] at h
  have e:(2:Nat) ^ 17=131072:=rfl
  have hlt:=vM.1 hb
  exact⟨⟨BT.set .dead 17 m.t m.n q id,m.n+1⟩,by unfold Mem.pl;exact BT.zG4 zC.dead 17 m.t m.n q (by omega),h⟩
theorem Mem.ua {α:Type} {m:Mem} {n:Nat} {q:zC} {K:Mem→Option α} {r:α} (h:m.set n q K=some r):∃m':Mem,m'.pl=m.pl.set n q∧K m'=some r:=by
 unfold Mem.set at h
 cases hb:Nat.blt n m.n&&Nat.blt m.n 65001 with
 | false=>rw[hb] at h;cases h
 | true=>
  rw[hb] at h
  simp only[Bool.and_eq_true] at hb
  have h1:=vM.1 hb.1
  have h2:=vM.1 hb.2
  simp only[cond_true] at h
  rw[BT.jE] at h
  have e:(2:Nat) ^ 17=131072:=rfl
  exact⟨⟨BT.set .dead 17 m.t n q id,m.n⟩,by unfold Mem.pl;exact BT.zDQ zC.dead 17 m.t m.n n q h1 (by omega),h⟩
/-- A frame:slots,how many. -/
structure FT where
 t:BT HV
 n:Nat
def FT.fr (f:FT):Fr:=BT.list .junk f.t f.n
def FT.get (f:FT) (i:Nat):HV:=bif Nat.blt i f.n then BT.get .junk f.t i else .junk
theorem FT.get_eq (f:FT) (i:Nat):Go.Eng.get f.fr i=f.get i:=by
 unfold Go.Eng.get FT.get FT.fr
 cases h:Nat.blt i f.n
 ·have hn:¬i<f.n:=fun e=>by rw[vM.2 e] at h;cases h
  simp only[cond_false]
  simp[List.getD,BT.list,hn]
 ·simp only[cond_true]
  rw[BT.zDV _ _ _ _ (vM.1 h)]
def FT.put {α:Type} (f:FT) (d:Option Tmp) (v:HV) (K:FT→Option α):Option α:=
 match d with
 | none=>K f
 | some d=>bif Nat.blt d f.n&&Nat.blt f.n 900 then fH v fun v=>BT.set .junk 10 f.t d v fun t=>K ⟨t,f.n⟩ else none
theorem FT.kW {α:Type} {f:FT} {d:Option Tmp} {v:HV} {K:FT→Option α} {r:α} (h:f.put d v K=some r):∃f':FT,f'.fr=zV f.fr d v∧K f'=some r:=by
 cases d with
 | none=>exact⟨f,rfl,h⟩
 | some d=>
  simp only[FT.put] at h
  cases hb:Nat.blt d f.n&&Nat.blt f.n 900 with
  | false=>rw[hb] at h;cases h
  | true=>
   rw[hb] at h
   simp only[Bool.and_eq_true] at hb
   have h1:=vM.1 hb.1
   have h2:=vM.1 hb.2
   simp only[cond_true,uc] at h
   rw[BT.jE] at h
   have e:(2:Nat) ^ 10=1024:=rfl
   exact⟨⟨BT.set .junk 10 f.t d v id,f.n⟩,by unfold FT.fr;exact BT.zDQ HV.junk 10 f.t f.n d v h1 (by omega),h⟩
def FT.start {α:Type}:List HV→Nat→BT HV→(BT HV→Option α)→Option α
 | [],_,t,K=>K t
 | x::l,i,t,K=>BT.set .junk 10 t i x fun t=>FT.start l (i+1) t K
def FT.of {α:Type} (n:Nat) (args:List HV) (K:FT→Option α):Option α:=
 bif Nat.ble args.length n&&Nat.blt n 900 then FT.start args 0 .emp fun t=>K ⟨t,n⟩ else none
theorem FT.zBh {α:Type}:∀(l:List HV) (i:Nat) (t:BT HV) (K:BT HV→Option α) (r:α),i+l.length≤900→FT.start l i t K=some r→
  ∃t',(∀j,BT.get .junk t' j=if i≤j∧j<i+l.length then l.getD (j - i) .junk else BT.get .junk t j)∧K t'=some r
 | [],i,t,K,r,_,h=>⟨t,fun j=>by rw[if_neg (by simp only[List.length_nil];omega)],h⟩
 | x::l,i,t,K,r,hl,h=>by
  simp only[FT.start] at h
  rw[BT.jE] at h
  have hl':i+(l.length+1)≤900:=by simpa using hl
  obtain⟨t',h1,h2⟩:=FT.zBh l (i+1) _ K r (by omega) h
  refine⟨t',fun j=>?_,h2⟩
  rw[h1 j]
  have e:(2:Nat) ^ 10=1024:=rfl
  rw[BT.YL _ _ _ i j x (by omega)]
  by_cases ha:i+1≤j∧j<i+1+l.length
  ·rw[if_pos ha,if_pos (by simp;omega)]
   have:j - i=j - (i+1)+1:=by omega
   rw[this];simp
  ·rw[if_neg ha]
   by_cases hji:j=i
   ·subst hji;rw[if_pos rfl,if_pos (by simp)];simp
   ·rw[if_neg hji,if_neg (by simp;omega)]
theorem FT.zP8 {α:Type} {n:Nat} {args:List HV} {K:FT→Option α} {r:α} (h:FT.of n args K=some r):∃f:FT,f.fr=vE n args∧K f=some r:=by
 unfold FT.of at h
 cases hb:Nat.ble args.length n&&Nat.blt n 900 with
 | false=>rw[hb] at h;cases h
 | true=>
  rw[hb] at h
  simp only[Bool.and_eq_true] at hb
  have h1:=Nat.le_of_ble_eq_true hb.1
  have h2:=vM.1 hb.2
  obtain⟨t',h3,h4⟩:=FT.zBh _ _ _ _ _ (by omega) h
  refine⟨⟨t',n⟩,?_,h4⟩
  apply List.ext_getElem?
  intro j
  unfold FT.fr vE BT.list
  simp only[List.getElem?_map]
  by_cases hj:j<n
  ·rw[List.getElem?_range hj,Option.map_some,h3 j,BT.QM]
   by_cases ha:j<args.length
   ·rw[if_pos ⟨Nat.zero_le _,by omega⟩,List.getElem?_append_left ha];simp[ha]
   ·rw[if_neg (by omega),List.getElem?_append_right (by omega),List.getElem?_replicate,if_pos (by omega)]
  ·rw[List.getElem?_eq_none (by simp;omega),List.getElem?_eq_none (by simp;omega)];rfl
end Go.Eng
end
