/-
The calls that runs know by their contracts: sums of bytes, copies, numbers by rest.
What a law begins with, run: its examples hold.
Runs that know the comparing of strings; a law's examples.
No conditions.
-/
import Derived.Test.YtajjhaidpagflaaGreatQRunI
import Derived.Test.YtajjhaidpagflaaGreatQRunP
import Derived.Test.YtajjhaidpagflaaGreatQStrA
set_option linter.unusedSectionVars false
set_option linter.unusedSimpArgs false
set_option linter.unusedVariables false
namespace Go.Eng
open Go
variable [Toks]
/-! ### Sums,worked out with few steps -/
noncomputable def cBit {α:Type} (x:Nat) (K:Nat→α):α:=fN (Nat.rec (motive:=fun _=>Nat) (x / 2) (fun _ _=>Nat.xor (x / 2) 3988292384) (x % 2)) K
theorem cBit_eq {α:Type} (x:Nat) (K:Nat→α):cBit x K=K (crcBit x):=by
  unfold cBit crcBit
  rw[fN_eq]
  rcases Nat.mod_two_eq_zero_or_one x with h | h<;>rw[h]<;>rfl
noncomputable def cStep {α:Type} (x c:Nat) (K:Nat→α):α:=
  cBit (Nat.xor (x % 256) c) fun y=>cBit y fun y=>cBit y fun y=>cBit y fun y=>cBit y fun y=>cBit y fun y=>cBit y fun y=>cBit y fun y=>fN (Nat.xor y (x / 256)) K
theorem cStep_eq {α:Type} (x c:Nat) (K:Nat→α):cStep x c K=K (crcBits 8 ((x % 256) ^^^ c) ^^^ (x / 256)):=by
  simp only[cStep,cBit_eq,fN_eq];rfl
/-- Rows of one byte each:their sum so far;none:they are none. -/
noncomputable def cByte (v:HV):Option Nat:=
  match v with
  | .int .u8 (.ofNat n)=>on (Nat.blt n 256) (some n)
  | _=>none
noncomputable def cRow (r:List HV):Option Nat:=
  match r with
  | [v]=>cByte v
  | _=>none
noncomputable def cRows (E:List (List HV)):Nat→Option Nat:=
  List.rec (motive:=fun _=>Nat→Option Nat) (fun x=>some x) (fun r _ ih x=>bnd (cRow r) fun c=>cStep x c ih) E
theorem cRow_h {r:List HV} {n:Nat} (h:cRow r=some n):n<256∧r=[.int .u8 n]:=by
  unfold cRow at h
  split at h
  · rename_i v
    unfold cByte at h
    split at h
    · rw[on_some] at h
      obtain⟨h1,h2⟩:=h
      cases h2
      exact⟨blt_lt.1 h1,rfl⟩
    · cases h
  · cases h
theorem cRows_h:∀(E:List (List HV)) (x y:Nat),cRows E x=some y→∃l:List UInt8,E=bytesRows l∧y=crcMore x l
  | [],x,y,h=>by cases h;exact⟨[],rfl,rfl⟩
  | r::E,x,y,h=>by
    have h':(bnd (cRow r) fun c=>cStep x c (cRows E))=some y:=h
    rw[bnd_some] at h'
    obtain⟨c,h1,h2⟩:=h'
    obtain⟨h3,rfl⟩:=cRow_h h1
    rw[cStep_eq] at h2
    obtain⟨l,rfl,rfl⟩:=cRows_h E _ y h2
    have e:(UInt8.ofNat c).toNat=c:=by simp;omega
    refine⟨UInt8.ofNat c::l,?_,?_⟩
    · simp[bytesRows];omega
    · simp only[crcMore,e]
noncomputable def oSumE (E:List (List HV)) (m:Mem):Option (List RM):=on (Nat.ble (rLen E) 1000000) (bnd (cRows E 4294967295) fun y=>fN (Nat.xor y 4294967295) fun y=>some [(.int .u32 (.ofNat y),m)])
theorem oSumE_h {E:List (List HV)} {m:Mem} {L:List RM} (h:oSumE E m=some L):∃l:List UInt8,l.length≤1000000∧E=bytesRows l∧L=[(.int .u32 (crcSum l:Nat),m)]:=by
  simp only[oSumE,on_some,bnd_some,fN_eq,rLen_eq] at h
  obtain⟨h1,y,h2,h3⟩:=h
  obtain⟨l,rfl,rfl⟩:=cRows_h _ _ _ h2
  have:=ble_le.1 h1
  refine⟨l,by simpa [bytesRows] using this,rfl,?_⟩
  cases h3;rfl
noncomputable def oSum (args:List HV) (m:Mem):Option (List RM):=
  match args with
  | [.imm _ E]=>oSumE E m
  | [.sl n ver i len _]=>(match m.get n with
    | .arr ver' sz E _=>on (Nat.beq ver ver'&&Nat.beq sz 1&&Nat.ble (i+len) (rLen E)) (fL (rTake len (rDrop i E)) fun E=>oSumE E m)
    | _=>none)
  | _=>none
/-- A copy. -/
noncomputable def oCopy (s b:Nat) (args:List HV) (m:Mem):Option (List RM):=
  match args with
  | [.imm _ E]=>on (rAll (fun r=>rHas r s) E) (fN (rLen E) fun len=>on (Nat.ble len 140737488355328&&Nat.ble (len*b) 140737488355328) (m.push (.arr 0 s E true) fun m'=>some [(.sl m.n 0 0 len none,m')]))
  | [.sl n ver i len _]=>(match m.get n with
    | .arr ver' sz E _=>on (Nat.beq ver ver'&&(Nat.beq len 0 || Nat.beq sz s)&&Nat.ble (i+len) (rLen E)&&(Nat.ble len 140737488355328&&Nat.ble (len*b) 140737488355328)) (fL (rTake len (rDrop i E)) fun N=>m.push (.arr 0 s N true) fun m'=>some [(.sl m.n 0 0 len none,m')])
    | _=>none)
  | _=>none
section
variable {P:Program} {g:FuncId} {m:Mem} {args:List HV} {L:List RM}
theorem oSum_h (h1:∀(PS:PL) (l:List UInt8),l.length≤1000000→∀t:Bool,HCall P g [.imm t (bytesRows l)] PS fun r PS'=>r=.int .u32 (crcSum l:Nat)∧PS'=PS)
    (h2:∀(PS:PL) (l:List UInt8),l.length≤1000000→∀(n ver i0:Nat) (c:Option Nat) (E:List (List HV)) (o:Bool),getP PS n=.arr ver 1 E o→(E.drop i0).take l.length=bytesRows l→HCall P g [.sl n ver i0 l.length c] PS fun r PS'=>r=.int .u32 (crcSum l:Nat)∧PS'=PS)
    (h:oSum args m=some L):HCall P g args m.pl fun v PS=>∃x∈L,v=x.1∧PS=x.2.pl:=by
  unfold oSum at h
  split at h
  · obtain⟨l,hl,rfl,rfl⟩:=oSumE_h h
    exact(h1 m.pl l hl _).mono fun v PS ⟨e1,e2⟩=>⟨_,List.mem_singleton.2 rfl,e1,e2⟩
  · rename_i n ver i len c
    split at h
    · rename_i ver' sz E o hg
      simp only[on_some,Bool.and_eq_true,beq_eq',ble_le,fL_eq,rTake_eq,rDrop_eq,rLen_eq] at h
      obtain⟨⟨⟨rfl,rfl⟩,hle⟩,h⟩:=h
      obtain⟨l,hl,he,rfl⟩:=oSumE_h h
      have hlen:l.length=len:=by
        have:=congrArg List.length he
        simp[bytesRows] at this
        omega
      subst hlen
      exact(h2 m.pl l hl n ver i c E o (by rw[Mem.get_eq];exact hg) he).mono fun v PS ⟨e1,e2⟩=>⟨_,List.mem_singleton.2 rfl,e1,e2⟩
    · cases h
  · cases h
theorem oCopy_h {s b:Nat} (h1:∀(PS:PL) (t:Bool) (E:List (List HV)),(∀r∈E,r.length=s)→hroom E.length b→HCall P g [.imm t E] PS fun r PS'=>r=.sl PS.length 0 0 E.length none∧PS'=PS++[.arr 0 s E true])
    (h2:∀(PS:PL) (n ver i len:Nat) (c:Option Nat) (sz:Nat) (E:List (List HV)) (o:Bool),getP PS n=.arr ver sz E o→(len=0∨sz=s)→i+len≤E.length→hroom len b→HCall P g [.sl n ver i len c] PS fun r PS'=>r=.sl PS.length 0 0 len none∧PS'=PS++[.arr 0 s ((E.drop i).take len) true])
    (h:oCopy s b args m=some L):HCall P g args m.pl fun v PS=>∃x∈L,v=x.1∧PS=x.2.pl:=by
  unfold oCopy at h
  split at h
  · rename_i t E
    simp only[on_some,Bool.and_eq_true,ble_le,fN_eq,rLen_eq] at h
    obtain⟨ha,⟨hb,hc⟩,h⟩:=h
    obtain⟨m',h3,h4⟩:=Mem.push_some h
    cases h4
    refine(h1 m.pl t E (fun r hr=>by have:=List.all_eq_true.1 ((rAll_eq _ _).symm.trans ha) r hr;rw[rHas_eq] at this;exact beq_eq'.1 this) ⟨hb,hc⟩).mono fun v PS ⟨e1,e2⟩=>⟨_,List.mem_singleton.2 rfl,?_,?_⟩
    · rw[e1,Mem.len]
    · rw[e2,h3]
  · rename_i n ver i len c
    split at h
    · rename_i ver' sz E o hg
      simp only[on_some,Bool.and_eq_true,Bool.or_eq_true,beq_eq',ble_le,fL_eq,rTake_eq,rDrop_eq,rLen_eq] at h
      obtain⟨⟨⟨⟨rfl,hs⟩,hle⟩,hb,hc⟩,h⟩:=h
      obtain⟨m',h3,h4⟩:=Mem.push_some h
      cases h4
      refine(h2 m.pl n ver i len c sz E o (by rw[Mem.get_eq];exact hg) hs hle ⟨hb,hc⟩).mono fun v PS ⟨e1,e2⟩=>⟨_,List.mem_singleton.2 rfl,?_,?_⟩
      · rw[e1,Mem.len]
      · rw[e2,h3]
    · cases h
  · cases h
end
end Go.Eng
namespace Go.Proofs.YtajjhaidpagflaaGreat
open Go Go.Eng
variable [Toks]
noncomputable def orc:EC:=fun g args m=>
  bif Nat.beq g 203 then oSum args m else
  bif Nat.beq g 153 then oCopy 1 8 args m else
  bif Nat.beq g 92 then oCopy 2 16 args m else
  bif Nat.beq g 152 then oCopy 26 40 args m else
  bif Nat.beq g 154 then oCopy 9 16 args m else
  bif Nat.beq g 155 then oCopy 29 64 args m else
  bif Nat.beq g 141 then oCopy 1 1 args m else
  none
theorem cond_some {α:Type} {b:Bool} {x y:Option α} {r:α} (h:(bif b then x else y)=some r):(b=true∧x=some r)∨y=some r:=by
  cases b
  · exact .inr h
  · exact .inl ⟨rfl,h⟩
theorem orc_ok:ECOk Tryz.prog orc:=by
  intro g args m L h
  unfold orc at h
  rcases cond_some h with ⟨hg,h⟩ | h
  · rw[beq_eq'.1 hg];exact oSum_h crc_sum_imm crc_sum_sl h
  rcases cond_some h with ⟨hg,h⟩ | h
  · rw[beq_eq'.1 hg];exact oCopy_h cl_int_imm cl_int_sl h
  rcases cond_some h with ⟨hg,h⟩ | h
  · rw[beq_eq'.1 hg];exact oCopy_h cl_want_imm cl_want_sl h
  rcases cond_some h with ⟨hg,h⟩ | h
  · rw[beq_eq'.1 hg];exact oCopy_h cl_ent_imm cl_ent_sl h
  rcases cond_some h with ⟨hg,h⟩ | h
  · rw[beq_eq'.1 hg];exact oCopy_h cl_key_imm cl_key_sl h
  rcases cond_some h with ⟨hg,h⟩ | h
  · rw[beq_eq'.1 hg];exact oCopy_h cl_msg_imm cl_msg_sl h
  rcases cond_some h with ⟨hg,h⟩ | h
  · rw[beq_eq'.1 hg];exact oCopy_h cl_byte_imm cl_byte_sl h
  cases h
end Go.Proofs.YtajjhaidpagflaaGreat
namespace Go.Proofs.YtajjhaidpagflaaGreat
open Go Go.Eng
variable [Toks]
set_option maxRecDepth 100000
noncomputable def isTrue (r:RM):Bool:=
  match r with
  | (.bool b,_)=>b
  | _=>false
noncomputable def allTrue (l:Option (List RM)):Bool:=Option.rec (motive:=fun _=>Bool) false (fun l=>rAll isTrue l) l
end Go.Proofs.YtajjhaidpagflaaGreat
namespace Go.Eng
open Go
variable [Toks]
def cmpE:List UInt8→List UInt8→Int
  | [],[]=>0
  | [],_::_=> -1
  | _::_,[]=>1
  | a::l,b::r=>bif Nat.blt a.toNat b.toNat then -1 else bif Nat.blt b.toNat a.toNat then 1 else cmpE l r
theorem cmpE_eq:∀a b:List UInt8,cmpE a b=Lib.compareBytes a b
  | [],[]=>rfl
  | [],_::_=>rfl
  | _::_,[]=>rfl
  | a::l,b::r=>by
    rw[cmpE,Lib.compareBytes,cmpE_eq l r]
    have e1:Nat.blt a.toNat b.toNat=decide (a<b):=by rw[Bool.eq_iff_iff];simp[UInt8.lt_iff_toNat_lt]
    have e2:Nat.blt b.toNat a.toNat=decide (b<a):=by rw[Bool.eq_iff_iff];simp[UInt8.lt_iff_toNat_lt]
    rw[e1,e2]
    by_cases h1:a<b
    · simp[h1]
    · by_cases h2:b<a
      · simp[h1,h2]
      · simp[h1,h2]
noncomputable def oCmp (args:List HV) (m:Mem):Option (List RM):=
  match args with
  | [.str a,.str b]=>fI (cmpE a b) fun n=>some [(.int .i64 n,m)]
  | _=>none
end Go.Eng
namespace Go.Proofs.YtajjhaidpagflaaGreat
open Go Go.Eng
variable [Toks]
theorem oCmp_h {args:List HV} {m:Mem} {L:List RM} (h:oCmp args m=some L):HCall Tryz.prog 209 args m.pl fun v PS=>∃x∈L,v=x.1∧PS=x.2.pl:=by
  unfold oCmp at h
  split at h
  · rename_i a b
    rw[fI_eq,cmpE_eq] at h
    cases h
    exact(strings_compare a b).way
  · cases h
noncomputable def orcS:EC:=fun g args m=>
  bif Nat.beq g 209 then oCmp args m else orc g args m
theorem orcS_ok:ECOk Tryz.prog orcS:=by
  intro g args m L h
  unfold orcS at h
  rcases cond_some h with ⟨hg,h⟩ | h
  · rw[beq_eq'.1 hg];exact oCmp_h h
  · exact orc_ok _ _ _ _ h
end Go.Proofs.YtajjhaidpagflaaGreat
