/-
The calls that runs know by their contracts: sums of bytes, copies, numbers by rest.
No conditions.
-/
import Derived.Test.YtbmibhjjogobhaaGreatQRunI
import Derived.Test.YtbmibhjjogobhaaGreatQRunP
import Derived.Test.YtbmibhjjogobhaaGreatQStrA
set_option linter.unusedSectionVars false
set_option linter.unusedSimpArgs false
set_option linter.unusedVariables false
noncomputable section
namespace Go.Eng
open Go
variable [zB]
/-! ### Sums,worked out with few steps -/
def jz {α:Type} (x:Nat) (K:Nat→α):α:=fN (Nat.rec (motive:=fun _=>Nat) (x / 2) (fun _ _=>Nat.xor (x / 2) 3988292384) (x % 2)) K
theorem zMd {α:Type} (x:Nat) (K:Nat→α):jz x K=K (wF x):=by
 unfold jz wF
 rw[yT]
 rcases Nat.mod_two_eq_zero_or_one x with h | h<;>rw[h]<;>rfl
def UG {α:Type} (x c:Nat) (K:Nat→α):α:=
 jz (Nat.xor (x % 256) c) fun y=>jz y fun y=>jz y fun y=>jz y fun y=>jz y fun y=>jz y fun y=>jz y fun y=>jz y fun y=>fN (Nat.xor y (x / 256)) K
theorem zP3 {α:Type} (x c:Nat) (K:Nat→α):UG x c K=K (yR 8 ((x % 256) ^^^ c) ^^^ (x / 256)):=by
 simp only[UG,zMd,yT];rfl
/-- Rows of one byte each:their sum so far;none:they are none. -/
def zBM (v:HV):Option Nat:=
 match v with
 | .int .u8 (.ofNat n)=>on (Nat.blt n 256) (some n)
 | _=>none
def QL (r:List HV):Option Nat:=
 match r with
 | [v]=>zBM v
 | _=>none
def KM (E:List (List HV)):Nat→Option Nat:=
 List.rec (motive:=fun _=>Nat→Option Nat) (fun x=>some x) (fun r _ ih x=>bnd (QL r) fun c=>UG x c ih) E
theorem zQ5 {r:List HV} {n:Nat} (h:QL r=some n):n<256∧r=[.int .u8 n]:=by
 unfold QL at h
 split at h
 ·rename_i v
  unfold zBM at h
  split at h
  ·rw[zS] at h
   obtain⟨h1,h2⟩:=h
   cases h2
   exact⟨vM.1 h1,rfl⟩
  ·cases h
 ·cases h
theorem zFD:∀(E:List (List HV)) (x y:Nat),KM E x=some y→∃l:List UInt8,E=zD l∧y=qj x l
 | [],x,y,h=>by cases h;exact⟨[],rfl,rfl⟩
 | r::E,x,y,h=>by
  have h':(bnd (QL r) fun c=>UG x c (KM E))=some y:=h
  rw[zZ] at h'
  obtain⟨c,h1,h2⟩:=h'
  obtain⟨h3,rfl⟩:=zQ5 h1
  rw[zP3] at h2
  obtain⟨l,rfl,rfl⟩:=zFD E _ y h2
  have e:(UInt8.ofNat c).toNat=c:=by simp;omega
  refine⟨UInt8.ofNat c::l,?_,?_⟩
  ·simp[zD];omega
  ·simp only[qj,e]
def VW (E:List (List HV)) (m:Mem):Option (List RM):=on (Nat.ble (wb E) 1000000) (bnd (KM E 4294967295) fun y=>fN (Nat.xor y 4294967295) fun y=>some [(.int .u32 (.ofNat y),m)])
theorem zFd {E:List (List HV)} {m:Mem} {L:List RM} (h:VW E m=some L):∃l:List UInt8,l.length≤1000000∧E=zD l∧L=[(.int .u32 (qE l:Nat),m)]:=by
 simp only[VW,zS,zZ,yT,wk] at h
 obtain⟨h1,y,h2,h3⟩:=h
 obtain⟨l,rfl,rfl⟩:=zFD _ _ _ h2
 have:=yk.1 h1
 refine⟨l,by simpa [zD] using this,rfl,?_⟩
 cases h3;rfl
def Kf (args:List HV) (m:Mem):Option (List RM):=
 match args with
 | [.imm _ E]=>VW E m
 | [.sl n ver i len _]=>(match m.get n with
  | .arr ver' sz E _=>on (Nat.beq ver ver'&&Nat.beq sz 1&&Nat.ble (i+len) (wb E)) (fL (uF len (jQ i E)) fun E=>VW E m)
  | _=>none)
 | _=>none
/-- A copy. -/
def xB (s b:Nat) (args:List HV) (m:Mem):Option (List RM):=
 match args with
 | [.imm _ E]=>on (gN (fun r=>ZN r s) E) (fN (wb E) fun len=>on (Nat.ble len 140737488355328&&Nat.ble (len*b) 140737488355328) (m.push (.arr 0 s E true) fun m'=>some [(.sl m.n 0 0 len none,m')]))
 | [.sl n ver i len _]=>(match m.get n with
  | .arr ver' sz E _=>on (Nat.beq ver ver'&&(Nat.beq len 0 || Nat.beq sz s)&&Nat.ble (i+len) (wb E)&&(Nat.ble len 140737488355328&&Nat.ble (len*b) 140737488355328)) (fL (uF len (jQ i E)) fun N=>m.push (.arr 0 s N true) fun m'=>some [(.sl m.n 0 0 len none,m')])
  | _=>none)
 | _=>none
section
variable {P:Program} {g:FuncId} {m:Mem} {args:List HV} {L:List RM}
theorem zHy (h1:∀(PS:PL) (l:List UInt8),l.length≤1000000→∀t:Bool,zI P g [.imm t (zD l)] PS fun r PS'=>r=.int .u32 (qE l:Nat)∧PS'=PS)
  (h2:∀(PS:PL) (l:List UInt8),l.length≤1000000→∀(n ver i0:Nat) (c:Option Nat) (E:List (List HV)) (o:Bool),zA PS n=.arr ver 1 E o→(E.drop i0).take l.length=zD l→zI P g [.sl n ver i0 l.length c] PS fun r PS'=>r=.int .u32 (qE l:Nat)∧PS'=PS)
  (h:Kf args m=some L):zI P g args m.pl fun v PS=>∃x∈L,v=x.1∧PS=x.2.pl:=by
 unfold Kf at h
 split at h
 ·obtain⟨l,hl,rfl,rfl⟩:=zFd h
  exact(h1 m.pl l hl _).mono fun v PS ⟨e1,e2⟩=>⟨_,List.mem_singleton.2 rfl,e1,e2⟩
 ·rename_i n ver i len c
  split at h
  ·rename_i ver' sz E o hg
   simp only[zS,Bool.and_eq_true,zX,yk,yn,uW,uz,wk] at h
   obtain⟨⟨⟨rfl,rfl⟩,hle⟩,h⟩:=h
   obtain⟨l,hl,he,rfl⟩:=zFd h
   have hlen:l.length=len:=by
    have:=congrArg List.length he
    simp[zD] at this
    omega
   subst hlen
   exact(h2 m.pl l hl n ver i c E o (by rw[Mem.get_eq];exact hg) he).mono fun v PS ⟨e1,e2⟩=>⟨_,List.mem_singleton.2 rfl,e1,e2⟩
  ·cases h
 ·cases h
theorem YY {s b:Nat} (h1:∀(PS:PL) (t:Bool) (E:List (List HV)),(∀r∈E,r.length=s)→zr E.length b→zI P g [.imm t E] PS fun r PS'=>r=.sl PS.length 0 0 E.length none∧PS'=PS++[.arr 0 s E true])
  (h2:∀(PS:PL) (n ver i len:Nat) (c:Option Nat) (sz:Nat) (E:List (List HV)) (o:Bool),zA PS n=.arr ver sz E o→(len=0∨sz=s)→i+len≤E.length→zr len b→zI P g [.sl n ver i len c] PS fun r PS'=>r=.sl PS.length 0 0 len none∧PS'=PS++[.arr 0 s ((E.drop i).take len) true])
  (h:xB s b args m=some L):zI P g args m.pl fun v PS=>∃x∈L,v=x.1∧PS=x.2.pl:=by
 unfold xB at h
 split at h
 ·rename_i t E
  simp only[zS,Bool.and_eq_true,yk,yT,wk] at h
  obtain⟨ha,⟨hb,hc⟩,h⟩:=h
  obtain⟨m',h3,h4⟩:=Mem.kF h
  cases h4
  refine(h1 m.pl t E (fun r hr=>by have:=List.all_eq_true.1 ((xM _ _).symm.trans ha) r hr;rw[ZL] at this;exact zX.1 this) ⟨hb,hc⟩).mono fun v PS ⟨e1,e2⟩=>⟨_,List.mem_singleton.2 rfl,?_,?_⟩
  ·rw[e1,Mem.len]
  ·rw[e2,h3]
 ·rename_i n ver i len c
  split at h
  ·rename_i ver' sz E o hg
   simp only[zS,Bool.and_eq_true,Bool.or_eq_true,zX,yk,yn,uW,uz,wk] at h
   obtain⟨⟨⟨⟨rfl,hs⟩,hle⟩,hb,hc⟩,h⟩:=h
   obtain⟨m',h3,h4⟩:=Mem.kF h
   cases h4
   refine(h2 m.pl n ver i len c sz E o (by rw[Mem.get_eq];exact hg) hs hle ⟨hb,hc⟩).mono fun v PS ⟨e1,e2⟩=>⟨_,List.mem_singleton.2 rfl,?_,?_⟩
   ·rw[e1,Mem.len]
   ·rw[e2,h3]
  ·cases h
 ·cases h
end
end Go.Eng
namespace Go.Proofs.YtbmibhjjogobhaaGreat
open Go Go.Eng
variable [zB]
def orc:EC:=fun g args m=>
 bif Nat.beq g 214 then Kf args m else
 bif Nat.beq g 179 then xB 1 8 args m else
 bif Nat.beq g 195 then xB 2 16 args m else
 bif Nat.beq g 178 then xB 26 40 args m else
 bif Nat.beq g 180 then xB 9 16 args m else
 bif Nat.beq g 181 then xB 29 64 args m else
 bif Nat.beq g 182 then xB 1 1 args m else
 none
theorem xR {α:Type} {b:Bool} {x y:Option α} {r:α} (h:(bif b then x else y)=some r):(b=true∧x=some r)∨y=some r:=by
 cases b
 ·exact .inr h
 ·exact .inl ⟨rfl,h⟩
theorem zMU:qe Tryz.prog orc:=by
 intro g args m L h
 unfold orc at h
 rcases xR h with ⟨hg,h⟩ | h
 ·rw[zX.1 hg];exact zHy zPW zCk h
 rcases xR h with ⟨hg,h⟩ | h
 ·rw[zX.1 hg];exact YY zRu zQD h
 rcases xR h with ⟨hg,h⟩ | h
 ·rw[zX.1 hg];exact YY zRl zRc h
 rcases xR h with ⟨hg,h⟩ | h
 ·rw[zX.1 hg];exact YY zBY zOY h
 rcases xR h with ⟨hg,h⟩ | h
 ·rw[zX.1 hg];exact YY zEV zIm h
 rcases xR h with ⟨hg,h⟩ | h
 ·rw[zX.1 hg];exact YY zC2 zMg h
 rcases xR h with ⟨hg,h⟩ | h
 ·rw[zX.1 hg];exact YY zEo zJt h
 cases h
end Go.Proofs.YtbmibhjjogobhaaGreat
namespace Go.Proofs.YtbmibhjjogobhaaGreat
open Go Go.Eng
variable [zB]
set_option maxRecDepth 100000
def isTrue (r:RM):Bool:=
 match r with
 | (.bool b,_)=>b
 | _=>false
def zBJ (l:Option (List RM)):Bool:=Option.rec (motive:=fun _=>Bool) false (fun l=>gN isTrue l) l
end Go.Proofs.YtbmibhjjogobhaaGreat
namespace Go.Eng
open Go
variable [zB]
def Wo:List UInt8→List UInt8→Int
 | [],[]=>0
 | [],_::_=> -1
 | _::_,[]=>1
 | a::l,b::r=>bif Nat.blt a.toNat b.toNat then -1 else bif Nat.blt b.toNat a.toNat then 1 else Wo l r
theorem zCP:∀a b:List UInt8,Wo a b=Lib.compareBytes a b
 | [],[]=>rfl
 | [],_::_=>rfl
 | _::_,[]=>rfl
 | a::l,b::r=>by
  rw[Wo,Lib.compareBytes,zCP l r]
  have e1:Nat.blt a.toNat b.toNat=decide (a<b):=by rw[Bool.eq_iff_iff];simp[UInt8.lt_iff_toNat_lt]
  have e2:Nat.blt b.toNat a.toNat=decide (b<a):=by rw[Bool.eq_iff_iff];simp[UInt8.lt_iff_toNat_lt]
  rw[e1,e2]
  by_cases h1:a<b
  ·simp[h1]
  ·by_cases h2:b<a
   ·simp[h1,h2]
   ·simp[h1,h2]
def Qb (args:List HV) (m:Mem):Option (List RM):=
 match args with
 | [.str a,.str b]=>fI (Wo a b) fun n=>some [(.int .i64 n,m)]
 | _=>none
end Go.Eng
namespace Go.Proofs.YtbmibhjjogobhaaGreat
open Go Go.Eng
variable [zB]
theorem zLp {args:List HV} {m:Mem} {L:List RM} (h:Qb args m=some L):zI Tryz.prog 299 args m.pl fun v PS=>∃x∈L,v=x.1∧PS=x.2.pl:=by
 unfold Qb at h
 split at h
 ·rename_i a b
  rw[kh,zCP] at h
  cases h
  exact(zBR a b).way
 ·cases h
def Jy:EC:=fun g args m=>
 bif Nat.beq g 299 then Qb args m else orc g args m
theorem zE4:qe Tryz.prog Jy:=by
 intro g args m L h
 unfold Jy at h
 rcases xR h with ⟨hg,h⟩ | h
 ·rw[zX.1 hg];exact zLp h
 ·exact zMU _ _ _ _ h
end Go.Proofs.YtbmibhjjogobhaaGreat
end
