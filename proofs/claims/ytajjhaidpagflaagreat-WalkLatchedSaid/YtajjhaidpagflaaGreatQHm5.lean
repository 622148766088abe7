/-
Nodes as blocks: what the document says of their bytes. No program in sight.
Values as numbers, on the document's side.
A message put into a row of messages that rises: it rises still. No program in sight.
Two messages as one, on the document's side.
A message put into a buffer, on the document's side.
A buffer of messages by numbers.
Where a key's message is, or would be: the library's binary search.
A key's message, a key's entry, what a message makes of a value: both sides the same.
No conditions.
-/
import Derived.Test.YtajjhaidpagflaaGreatQHm1
import Derived.Test.YtajjhaidpagflaaGreatQRunI
import Derived.Test.YtajjhaidpagflaaGreatQHm2
import Derived.Test.YtajjhaidpagflaaGreatQHm4
import Derived.Test.YtajjhaidpagflaaGreatQHm3
set_option linter.unusedSectionVars false
set_option linter.unusedSimpArgs false
set_option linter.unusedVariables false
namespace Go.Mo
open Go Go.Eng
variable [Toks]
end Go.Mo
namespace Go.Mo
open Go Go.Eng
variable [Toks]
/-- Bytes in an open piece made since. -/
structure OB (PS0 PS:PL) (p ver:Nat) (b:Bs):Prop where
  new:PS0.length≤p
  at_:getP PS p=.arr ver 1 (bytesRows b) true
  ext:Ext [] PS0 PS
end Go.Mo
namespace Go.Proofs.YtajjhaidpagflaaGreat
open Go Go.Eng Go.Mo
variable [Toks]
set_option maxRecDepth 20000
attribute [local irreducible] hvc hops hop hplan hdrawP hval1 hopD HLoop
end Go.Proofs.YtajjhaidpagflaaGreat
namespace Go.Mo
open Go Go.Eng
variable [Toks]
@[go_sem ↓,go_sem] theorem zeroK:List.drop 8 (List.replicate 8 (HV.int .u8 0))=[]:=_root_.id rfl
/-- The bytes so far:in an open piece,the node's own in its. -/
structure PutAt (PS:PL) (p0:Nat) (row:List HV) (PS':PL) (p ver:Nat) (b:Bs):Prop where
  at_:getP PS' p=.arr ver 1 (bytesRows b) true
  own:getP PS' PS.length=.arr 0 5 [row] false
  ext:Ext [p0] PS PS'
  is:p=p0∨PS.length<p
end Go.Mo
namespace Go.Proofs.YtajjhaidpagflaaGreat
open Go Go.Eng Go.Mo
variable [Toks]
set_option maxRecDepth 20000
attribute [local irreducible] hvc hops hop hplan hdrawP hval1 hopD HLoop
end Go.Proofs.YtajjhaidpagflaaGreat
namespace Go.Proofs.YtajjhaidpagflaaGreat
open Go Go.Eng Go.Mo
variable [Toks]
set_option maxRecDepth 20000
attribute [local irreducible] hvc hops hop hplan hdrawP hval1 hopD HLoop
end Go.Proofs.YtajjhaidpagflaaGreat
namespace Go.Proofs.YtajjhaidpagflaaGreat
open Go Go.Eng Go.Mo
variable [Toks]
set_option maxRecDepth 20000
attribute [local irreducible] hvc hops hop hplan hdrawP hval1 hopD HLoop
end Go.Proofs.YtajjhaidpagflaaGreat
namespace Go.Mo
open Go Go.Eng
variable [Toks]
/-- Bytes so far,at first a literal;the node's own piece. -/
structure RAt (PS:PL) (row:List HV) (PS':PL) (x:HV) (b:Bs):Prop where
  at_:(x=.imm true (bytesRows b)∧b.length=8)∨∃p ver,x=.sl p ver 0 b.length none∧PS.length<p∧getP PS' p=.arr ver 1 (bytesRows b) true
  own:getP PS' PS.length=.arr 0 5 [row] false
  ext:Ext [] PS PS'
end Go.Mo
namespace Go.Proofs.YtajjhaidpagflaaGreat
open Go Go.Eng Go.Mo
variable [Toks]
set_option maxRecDepth 20000
attribute [local irreducible] hvc hops hop hplan hdrawP hval1 hopD HLoop
end Go.Proofs.YtajjhaidpagflaaGreat
namespace Go.Mo
open Go Go.Eng
variable [Toks]
/-- The number that bytes are,the lowest first. -/
def numLE:Bs→Nat
  | []=>0
  | c::l=>c.toNat+256*numLE l
theorem numLE_lt (l:Bs):numLE l<256 ^ l.length:=by
  induction l with
  | nil=>simp[numLE]
  | cons c l ih=>
    have:=c.toNat_lt
    rw[numLE,List.length_cons,Nat.pow_succ]
    omega
theorem numLE_step (l:Bs) (i:Nat) (h:i<l.length) (n:Nat):numLE ((l.drop i).take (n+1))=(l[i]).toNat+256*numLE ((l.drop (i+1)).take n):=by
  rw[List.drop_eq_getElem_cons h,List.take_succ_cons,numLE]
theorem or256 (n c:Nat) (hc:c<256):256*n ||| c=c+256*n:=by
  have:=Nat.two_pow_add_eq_or_of_lt (i:=8) (b:=c) (by omega) n
  rw[show (2:Nat) ^ 8=256 from rfl] at this
  omega
end Go.Mo
namespace Go.Proofs.YtajjhaidpagflaaGreat
open Go Go.Eng Go.Mo
variable [Toks]
set_option maxRecDepth 20000
attribute [local irreducible] hvc hops hop hplan hdrawP hval1 hopD HLoop
theorem hbits_or64 (a b:Nat) (ha:a<18446744073709551616) (hb:b<18446744073709551616):hbits .or .u64 a b=((a ||| b:Nat):Int):=by
  have:=Nat.or_lt_two_pow (n:=64) (x:=a) (y:=b) (by omega) (by omega)
  have e:(BitVec.ofInt 64 (a:Int) ||| BitVec.ofInt 64 (b:Int)).toNat=a ||| b:=by
    rw[BitVec.ofInt_natCast,BitVec.ofInt_natCast,BitVec.toNat_or,BitVec.toNat_ofNat,BitVec.toNat_ofNat,Nat.mod_eq_of_lt (by omega),Nat.mod_eq_of_lt (by omega)]
  show (((BitVec.ofInt 64 (a:Int) ||| BitVec.ofInt 64 (b:Int)).toNat:Nat):Int) % 18446744073709551616=_
  rw[e]
  omega
end Go.Proofs.YtajjhaidpagflaaGreat
namespace Go.Proofs.YtajjhaidpagflaaGreat
open Go Go.Eng Go.Mo
variable [Toks]
set_option maxRecDepth 20000
attribute [local irreducible] hvc hops hop hplan hdrawP hval1 hopD HLoop
theorem val_cell (v:Bs) (j:Nat) (hj:j<16):(valL v)[j+1]? =some (.int .u8 ((pad 16 v)[j]'(by rw[pad_len];exact hj)).toNat):=by
  show (u8s (pad 16 v))[j]? =_
  exact u8s_get (by simp[pad_len,hj])
theorem ref_num_part (PS:PL) (n ver c:Nat) (v:Bs) (h:getP PS n=.arr ver 17 [valL v] false):
    HCall Tryz.prog 200 [.isl n ver 0 1 8 c,.int .i64 0,.int .i64 8] PS fun r PS'=>r=.tup [.int .u64 (numLE ((pad 16 v).take 8):Nat),.bool true]∧PS'=PS:=by
  refine HCall.data (by rw[scoped_tup];simp[scoped_int,scoped_bool]) ?_
  refine enter_200 (by unfold Tryz.f200;exact rfl) ?_
  simp only[go_sem,seval, -List.reduceReplicate,h]
  intro _
  have hp:(pad 16 v).length=16:=pad_len 16 v
  generalize hpv:pad 16 v=l at hp
  have hcell:∀j (hj:j<l.length),(valL v)[j+1]? =some (.int .u8 (l[j]'hj).toNat):=fun j hj=>by
    subst hpv
    exact val_cell v j (by rw[pad_len] at hj;exact hj)
  refine pend_intro (loop_rule (α:=Nat) [false,false,false,false,false,false,false,false,false,false,false,false,false,false,false,false,false,false,false,false,false,false,false,false,false,false,false,false,false,false,true,true,true,true,true,true,true,true,true,true,true,true,true,true] (fun k=>[(9,.int .i64 ((7:Int) - k)),(8,.int .u64 (numLE ((l.drop (8 - k)).take k):Nat))]) (fun k=>8 - k) (fun k PS'=>k≤8∧PS'=PS) 0 ⟨Nat.zero_le _,rfl⟩ ?_ ?_)
  · simp only[go_sem,seval, -List.reduceReplicate,Int.natCast_zero,List.take_zero,numLE,Int.sub_zero]
  rintro k PS' ⟨hk,hPS⟩
  obtain rfl:PS=PS':=hPS.symm
  by_cases hlt:k<8
  · have e1:(7:Int) - (k:Int)=((7 - k:Nat):Int):=by omega
    have e0:(0:Int)+((7 - k:Nat):Int)=((7 - k:Nat):Int):=by omega
    have e2:((7 - k:Nat):Int) - 1=(7:Int) - ((k+1:Nat):Int):=by omega
    have hi:7 - k<l.length:=by omega
    have hn:=numLE_step l (7 - k) hi k
    rw[show 7 - k+1=8 - k by omega] at hn
    have hlt7:numLE ((l.drop (8 - k)).take k)<256 ^ 7:=by
      refine Nat.lt_of_lt_of_le (numLE_lt _) (Nat.pow_le_pow_right (by omega) ?_)
      rw[List.length_take];omega
    have hc:=(l[7 - k]'hi).toNat_lt
    have hb:List.take 1 (List.drop (1+(7 - k)) (valL v))=[.int .u8 (l[7 - k]'hi).toNat]:=by rw[List.take_one,List.head?_drop,Nat.add_comm,hcell (7 - k) hi];rfl
    generalize numLE ((l.drop (8 - k)).take k)=x at hn hlt7 ⊢
    simp only[go_sem,seval, -List.reduceReplicate,e1,e0,h,hb,hlt]
    have e5:hbits .or .u64 (IntKind.u64.wrap ((x:Int)*2 ^ min 8 64)) ((l[7 - k]'hi).toNat:Int)=(((l[7 - k]'hi).toNat+256*x:Nat):Int):=by
      have:IntKind.u64.wrap ((x:Int)*2 ^ min 8 64)=((256*x:Nat):Int):=by
        show ((x:Int)*256) % 18446744073709551616=_
        omega
      rw[this,hbits_or64 _ _ (by omega) (by omega),or256 _ _ hc]
    rw[e5]
    exact⟨⟨by omega,by omega⟩,by omega,by omega,by omega,⟨by omega,by omega⟩,k+1,by omega,by omega,by rw[show 8 - (k+1)=7 - k by omega,hn],by rw[e2]⟩
  · have hk:k=8:=by omega
    subst hk
    have e1:(7:Int) - ((8:Nat):Int)= -1:=by omega
    simp only[go_sem,seval, -List.reduceReplicate,e1,Nat.sub_self]
    exact Ext.refl _
/-- The value so far:the first bytes stand. -/
def frRow (b:Bs) (i:Nat):List HV:=HV.int .i64 8::(u8s (b.take i)++List.replicate (16 - i) (HV.int .u8 0))
theorem frRow_len (b:Bs) (i:Nat) (hb:b.length=8) (hi:i≤8):(frRow b i).length=17:=by
  simp[frRow,u8s_len,hb];omega
theorem frRow_set (b:Bs) (i:Nat) (hb:b.length=8) (hi:i<8):hsplice (1+i) [.int .u8 ((b[i]'(by omega)).toNat:Nat)] (frRow b i)=frRow b (i+1):=by
  have hl:(u8s (b.take i)).length=i:=by simp[u8s_len,hb];omega
  have e:List.replicate (16 - i) (HV.int .u8 0)=HV.int .u8 0::List.replicate (16 - (i+1)) (HV.int .u8 0):=by rw[show 16 - i=(16 - (i+1))+1 by omega,List.replicate_succ]
  have e2:u8s (b.take (i+1))=u8s (b.take i)++[.int .u8 ((b[i]'(by omega)).toNat:Nat)]:=by rw[List.take_succ_eq_append_getElem (by omega)];simp only[u8s,List.map_append,List.map_cons,List.map_nil]
  unfold hsplice frRow
  rw[e,e2,show 1+i=i+1 by omega,List.take_succ_cons,List.take_left' hl,show i+1+[HV.int .u8 ((b[i]'(by omega)).toNat:Nat)].length=(i+1)+1 from rfl,List.drop_succ_cons,←List.drop_drop,List.drop_left' hl]
  simp
theorem frRow_end (b:Bs) (hb:b.length=8):frRow b 8=valL b:=by
  unfold frRow valL
  rw[pad_eq (by omega),hb,List.take_of_length_le (by omega)]
  simp[u8s]
theorem ref_from (n:Nat) (hn:n<18446744073709551616):Pure Tryz.prog 105 [.int .u64 n] (.agg (valL (putLE n 8))):=by
  refine Pure.of_ext (by rw[scoped_agg];exact sc_val _) fun PS=>?_
  refine enter_105 (by unfold Tryz.f105;exact rfl) ?_
  simp only[go_sem,seval, -List.reduceReplicate]
  refine⟨(ones_iff _).2 fun y hy=>by rw[List.eq_of_mem_replicate hy];rfl,pend_intro ((ref_put _ _ [] n 8 (From_.imm (N:=[]) (by simp)) (by simp) hn (by omega) (by omega)).mono ?_)⟩
  have hbl:(putLE n 8).length=8:=putLE_len n 8
  rw[List.nil_append]
  generalize putLE n 8=b at hbl
  rintro _ PS' ⟨ver,rfl,rfl⟩
  simp only[go_sem,seval, -List.reduceReplicate]
  have h0:(HV.int .i64 8::List.replicate 16 (HV.int .u8 0))=frRow b 0:=by simp[frRow,u8s]
  refine pend_intro (loop_rule (α:=Nat) [false,false,false,false,false,false,false,false,false,true,true,true,true,true,true,true,true,true,true,true] (fun i=>[(5,.int .i64 i)]) (fun i=>8 - i) (fun i PS'=>i≤8∧Ext [] PS PS'∧getP PS' PS.length=.arr 0 17 [HV.int .i64 0::List.replicate 16 (HV.int .u8 0)] false∧getP PS' (PS.length+1)=.arr 0 17 [frRow b i] false∧getP PS' (PS.length+2)=.arr ver 1 (bytesRows b) true) 0 ⟨Nat.zero_le _,Ext.app _ _,by simp[getP],by simp[getP,List.getElem?_append_right,←h0],by simp[getP,List.getElem?_append_right]⟩ ?_ ?_)
  · simp only[go_sem,seval, -List.reduceReplicate,Int.natCast_zero]
  rintro i PS1 ⟨hi,hx,hz,hv,hg⟩
  by_cases hlt:i<8
  · have hb1:(bytesRows b)[i]? =some [.int .u8 (b[i]'(by omega)).toNat]:=bytesRows_get b i (by omega)
    have hset:=frRow_set b i hbl hlt
    have hlen:=frRow_len b i hbl hi
    have hlt':(i:Int)<8:=by omega
    simp only[go_sem,seval, -List.reduceReplicate,hlt,hlt',hv,hg,hb1,bytesRows_len,hbl,hset,hlen]
    exact⟨by omega,by omega,⟨by omega,by omega⟩,i+1,by omega,⟨by omega,hx.since (Ext.set PS1 _ _) (by simp),(getP_set_ne _ (by omega)).trans hz,getP_set_eq _ hv,(getP_set_ne _ (by omega)).trans hg⟩,rfl⟩
  · have hi8:i=8:=by omega
    subst hi8
    rw[frRow_end b hbl] at hv
    have hy:∀Q,getP (PS1.set PS.length Q) PS.length=Q:=fun Q=>getP_set_eq Q hz
    simp only[go_sem,seval, -List.reduceReplicate,hlt,hv,hg,hz,hy]
    exact⟨by omega,hx.since (Ext.set PS1 PS.length _) (by simp)⟩
theorem ref_number (v:Bs):Pure Tryz.prog 164 [.agg (valL v)] (.int .u64 (numLE ((pad 16 v).take 8):Nat)):=by
  refine Pure.of_ext (.int _ _) fun PS=>?_
  refine enter_164 (by unfold Tryz.f164;exact rfl) ?_
  simp only[go_sem,seval, -List.reduceReplicate]
  refine pend_intro ((ref_num_part _ PS.length 0 16 v (by simp[getP])).mono ?_)
  rintro _ PS2 ⟨rfl,rfl⟩
  simp only[go_sem,seval, -List.reduceReplicate]
  exact Ext.app _ _
theorem ref_plus (v:Bs) (n:Nat) (hn:n<18446744073709551616):Pure Tryz.prog 106 [.agg (valL v),.int .u64 n] (.agg (valL (putLE ((numLE ((pad 16 v).take 8)+n) % 18446744073709551616) 8))):=by
  refine Pure.of_ext (by rw[scoped_agg];exact sc_val _) fun PS=>?_
  have hw:IntKind.u64.wrap (((numLE ((pad 16 v).take 8):Nat):Int)+(n:Int))=(((numLE ((pad 16 v).take 8)+n) % 18446744073709551616:Nat):Int):=by
    show (((numLE ((pad 16 v).take 8):Nat):Int)+(n:Int)) % 18446744073709551616=_
    omega
  refine enter_106 (by unfold Tryz.f106;exact rfl) ?_
  simp only[go_sem,seval, -List.reduceReplicate]
  refine pend_intro ((ref_number v).call ?_)
  simp only[go_sem,seval, -List.reduceReplicate,hw]
  refine pend_intro ((ref_from _ (by omega)).call ?_)
  simp only[go_sem,seval, -List.reduceReplicate]
  exact⟨by omega,Ext.app _ _⟩
end Go.Proofs.YtajjhaidpagflaaGreat
namespace Go.Mo
open Go Go.Eng
variable [Toks]
section
variable (comp:Ms→Ms→Ms)
/-- Messages with another one;p:it stands already. -/
def addGo (m:Ms):Bool→List Ms→List Ms
  | p,[]=>if p then [] else [m]
  | p,e::l=>if cmpB e.key m.key=0 then comp e m::addGo m true l else (if 0<cmpB e.key m.key∧p=false then [m] else [])++e::addGo m (p || decide (0<cmpB e.key m.key)) l
end
def risesM (l:List Ms):Prop:=l.Pairwise fun a b=>cmpB a.key b.key<0
section
variable {comp:Ms→Ms→Ms} {m x:Ms} {l:List Ms}
theorem addGo_len:∀(l:List Ms) (p:Bool),(addGo comp m p l).length≤l.length+if p then 0 else 1
  | [],p=>by cases p<;>simp[addGo]
  | e::l,p=>by
    rw[addGo]
    split
    · have:=addGo_len l true
      simp at this ⊢
      split<;>omega
    · have:=addGo_len l (p || decide (0<cmpB e.key m.key))
      cases p<;>by_cases h:0<cmpB e.key m.key<;>simp[h] at this ⊢<;>omega
theorem addGo_mem:∀(l:List Ms) (p:Bool),x∈addGo comp m p l→x=m∨x∈l∨∃e∈l,cmpB e.key m.key=0∧x=comp e m
  | [],p,h=>by
    rw[addGo] at h
    split at h<;>simp at h
    exact .inl h
  | e::l,p,h=>by
    rw[addGo] at h
    split at h
    · rename_i hc
      rcases List.mem_cons.1 h with rfl | h
      · exact .inr (.inr ⟨e,by simp,hc,rfl⟩)
      · rcases addGo_mem l _ h with h | h | ⟨e',h1,h2⟩
        · exact .inl h
        · exact .inr (.inl (by simp[h]))
        · exact .inr (.inr ⟨e',by simp[h1],h2⟩)
    · rcases List.mem_append.1 h with h | h
      · split at h<;>simp at h
        exact .inl h
      · rcases List.mem_cons.1 h with rfl | h
        · exact .inr (.inl (by simp))
        · rcases addGo_mem l _ h with h | h | ⟨e',h1,h2⟩
          · exact .inl h
          · exact .inr (.inl (by simp[h]))
          · exact .inr (.inr ⟨e',by simp[h1],h2⟩)
/-- Behind it nothing has its key. -/
theorem addGo_true (hc:∀e,(comp e m).key=m.key):∀l:List Ms,(∀e∈l,cmpB e.key m.key≠0)→addGo comp m true l=l
  | [],_=>rfl
  | e::l,h=>by
    rw[addGo,if_neg (h e (by simp)),Bool.true_or,addGo_true hc l fun e' he=>h e' (by simp[he])]
    simp
theorem addGo_rises (hc:∀e,(comp e m).key=m.key):∀l:List Ms,risesM l→risesM (addGo comp m false l)
  | [],_=>by simp[addGo,risesM]
  | e::l,h=>by
    obtain⟨h1,h2⟩:=List.pairwise_cons.1 h
    have above:0≤cmpB e.key m.key→∀y∈l,cmpB m.key y.key<0:=fun h0 y hy=>by
      rcases Int.lt_or_eq_of_le h0 with h | h
      · exact cmpB_trans (cmpB_gt h) (h1 y hy)
      · rw[←cmpB_eq h.symm];exact h1 y hy
    have other:0≤cmpB e.key m.key→∀y∈l,cmpB y.key m.key≠0:=fun h0 y hy h=>by
      have:=above h0 y hy
      rw[cmpB_eq h,cmpB_self] at this
      omega
    rw[addGo]
    split
    · rename_i h0
      rw[addGo_true hc l (other (by omega))]
      exact List.pairwise_cons.2 ⟨fun y hy=>by rw[hc];exact above (by omega) y hy,h2⟩
    · rename_i h0
      by_cases hp:0<cmpB e.key m.key
      · rw[if_pos ⟨hp,rfl⟩,decide_eq_true hp,Bool.false_or,addGo_true hc l (other (by omega))]
        refine List.pairwise_cons.2 ⟨fun y hy=>?_,List.pairwise_cons.2 ⟨h1,h2⟩⟩
        rcases List.mem_cons.1 hy with rfl | hy
        · exact cmpB_gt hp
        · exact above (by omega) y hy
      · rw[if_neg (fun h=>hp h.1),decide_eq_false hp,Bool.false_or,List.nil_append]
        refine List.pairwise_cons.2 ⟨fun y hy=>?_,addGo_rises hc l h2⟩
        rcases addGo_mem l _ hy with rfl | hy | ⟨e',_,_,rfl⟩
        · show cmpB e.key y.key<0;omega
        · exact h1 y hy
        · rw[hc];omega
theorem risesM_rising (h:risesM l):rising (l.map Ms.key):=by
  intro i a b hi ha hb
  simp only[List.getElem?_map,Option.map_eq_some_iff] at ha hb
  obtain⟨x,hx,rfl⟩:=ha
  obtain⟨y,hy,rfl⟩:=hb
  obtain⟨h1,rfl⟩:=List.getElem?_eq_some_iff.1 hx
  obtain⟨h2,rfl⟩:=List.getElem?_eq_some_iff.1 hy
  exact List.pairwise_iff_getElem.1 h (i - 1) i h1 h2 (by omega)
end
end Go.Mo
namespace Go.Proofs.YtajjhaidpagflaaGreat
open Go Go.Eng Go.Mo
variable [Toks]
set_option maxRecDepth 20000
attribute [local irreducible] hvc hops hop hplan hdrawP hval1 hopD HLoop
def rcomp (o n:Ms):Ms:=
  if n.kind=3∧o.key=n.key then (if o.kind=1 then ⟨1,n.seq,n.key,putLE ((numLE ((pad 16 o.val).take 8)+n.by_) % 18446744073709551616) 8,0⟩ else if o.kind=2 then ⟨1,n.seq,n.key,putLE n.by_ 8,0⟩ else ⟨3,n.seq,n.key,[],(o.by_+n.by_) % 18446744073709551616⟩) else n
theorem rcomp_key (o n:Ms):(rcomp o n).key=n.key:=by
  unfold rcomp
  repeat' split
  all_goals rfl
theorem rcomp_ok (o n:Ms) (ho:okM o) (hn:okM n) (mo:msgOk o) (mn:msgOk n):okM (rcomp o n)∧msgOk (rcomp o n):=by
  have h8:∀x,okV (putLE x 8):=fun x=>by unfold okV;rw[putLE_len];omega
  have hs:=hn.seq
  have hb:=hn.by_
  unfold rcomp
  split
  · split
    · exact⟨⟨by simp,hs,hn.key,h8 _,by simp⟩,⟨by simp,by simp,by simp,by simp⟩⟩
    · split
      · exact⟨⟨by simp,hs,hn.key,h8 _,by simp⟩,⟨by simp,by simp,by simp,by simp⟩⟩
      · exact⟨⟨by simp,hs,hn.key,by simp[okV],by simp only;omega⟩,⟨by simp,by simp,by simp,by simp⟩⟩
  · exact⟨hn,mn⟩
theorem by_splice2 (key:Bs) (x y:HV):hsplice 26 [x] (keyL key++(valL []++[y]))=keyL key++(valL []++[x]):=by
  have h26:(keyL key++valL []).length=26:=by rw[List.length_append,keyL_len,valL_len]
  rw[hsplice,show keyL key++(valL []++[y])=(keyL key++valL [])++[y] from (List.append_assoc ..).symm,List.take_left' h26,List.drop_of_length_le (by rw[List.length_append,h26];exact Nat.le_refl _),List.append_nil,List.append_assoc]
theorem val_splice (key v:Bs) (y:HV):hsplice 9 (valL v) (keyL key++(valL []++[y]))=keyL key++(valL v++[y]):=by
  rw[hsplice,List.take_left' (keyL_len _),valL_len,←List.drop_drop,List.drop_left' (keyL_len _),List.drop_left' (valL_len _)]
theorem rcompose (o n:Ms) (ho:okM o) (hn:okM n) (mo:msgOk o) (mn:msgOk n):Pure Tryz.prog 224 [.agg (msgL o),.agg (msgL n)] (.agg (msgL (rcomp o n))):=by
  refine Pure.of_ext (by rw[scoped_agg];exact sc_msg _) fun PS=>?_
  have hz1:List.drop 8 (List.replicate 8 (HV.int .u8 0)++[HV.int .i64 0]++List.replicate 16 (HV.int .u8 0)++[HV.int .u64 0])=valL []++[HV.int .u64 0]:=rfl
  have hon:∀v b,ones (keyL n.key++(valL v++[HV.int .u64 b]))=True:=fun v b=>eq_true ((ones_iff _).2 (by intro y hy;rcases List.mem_append.1 hy with hy | hy;exact keyL_one _ y hy;rcases List.mem_append.1 hy with hy | hy;exact valL_one _ y hy;simp at hy;subst hy;rfl))
  have htt:∀v b,List.take 27 (keyL n.key++(valL v++[HV.int .u64 b]))=keyL n.key++(valL v++[HV.int .u64 b]):=fun v b=>List.take_of_length_le (by simp[keyL_len,valL_len])
  refine enter_224 (by unfold Tryz.f224;exact rfl) ?_
  by_cases h3:n.kind=3
  · by_cases hk:o.key=n.key
    · have hz2:List.drop 27 (HV.int .i64 0::(List.replicate 8 (HV.int .u8 0)++[HV.int .i64 0]++List.replicate 16 (HV.int .u8 0)++[HV.int .u64 0]))=[]:=rfl
      by_cases h1:o.kind=1
      · simp only[go_sem,seval, -List.reduceReplicate,h3,hcmp_key ho.key,hcmp_key hn.key,hk,h1,hz1,hon,htt,List.length_append,keyL_len,valL_len]
        refine pend_intro ((ref_plus o.val n.by_ hn.by_).call ?_)
        simp only[go_sem,seval, -List.reduceReplicate,h3,hk,h1,hz1,hz2,hon,htt,val_splice,List.append_nil,List.length_append,keyL_len,valL_len]
        exact⟨by simp[rcomp,h3,hk,h1,msgL],Ext.app _ _⟩
      · by_cases h2:o.kind=2
        · simp only[go_sem,seval, -List.reduceReplicate,h3,hcmp_key ho.key,hcmp_key hn.key,hk,h1,h2,hz1,hon,htt,List.length_append,keyL_len,valL_len]
          refine pend_intro ((ref_from n.by_ hn.by_).call ?_)
          simp only[go_sem,seval, -List.reduceReplicate,h3,hk,h1,h2,hz1,hz2,hon,htt,val_splice,List.append_nil,List.length_append,keyL_len,valL_len]
          exact⟨by simp[rcomp,h3,hk,h2,msgL],Ext.app _ _⟩
        · have hw:IntKind.u64.wrap ((o.by_:Int)+(n.by_:Int))=(((o.by_+n.by_) % 18446744073709551616:Nat):Int):=by
            show ((o.by_:Int)+(n.by_:Int)) % 18446744073709551616=_
            omega
          simp only[go_sem,seval, -List.reduceReplicate,h3,hcmp_key ho.key,hcmp_key hn.key,hk,h1,h2,hz1,hz2,hon,htt,hw,by_splice2,List.append_nil,List.length_append,keyL_len,valL_len]
          exact⟨by simp[rcomp,h3,hk,h1,h2,msgL],Ext.app _ _⟩
    · simp only[go_sem,seval, -List.reduceReplicate,h3,hcmp_key ho.key,hk]
      exact⟨by simp[rcomp,hk],Ext.app _ _⟩
  · simp only[go_sem,seval, -List.reduceReplicate,h3]
    exact⟨by simp[rcomp,h3],Ext.app _ _⟩
end Go.Proofs.YtajjhaidpagflaaGreat
namespace Go.Proofs.YtajjhaidpagflaaGreat
open Go Go.Eng Go.Ow
open Go.Mo
variable [Toks]
set_option maxRecDepth 20000
attribute [local irreducible] hvc hops hop hplan hdrawP hval1 hopD HLoop
theorem radd (t:Bool) (l:List Ms) (m:Ms) (hm:okM m) (mm:msgOk m) (ok:∀e∈l,okM e∧msgOk e) (hl:l.length≤1000):
    Pure Tryz.prog 171 [.imm t (l.map msgL),.agg (msgL m)] (.imm (decide ((addGo rcomp m false l).map msgL=[])) ((addGo rcomp m false l).map msgL)):=by
  intro PS
  refine Bld.done (s:=29) (by intro x hx y hy;simp at hx;obtain⟨a,_,rfl⟩:=hx;exact sc_msg _ y hy) ?_
  have hmx:maxLen=9223372036854775807:=rfl
  refine enter_171 (by unfold Tryz.f171;exact rfl) ?_
  simp only[go_sem,seval, -List.reduceReplicate]
  have hx0:Ext [] PS (PS++[Piece.arr 0 29 [msgL m] false]):=Ext.app _ _
  have g0:getP (PS++[Piece.arr 0 29 [msgL m] false]) PS.length=.arr 0 29 [msgL m] false:=getP_last _ _
  have hlen:(PS++[Piece.arr 0 29 [msgL m] false]).length=PS.length+1:=by simp
  generalize PS++[Piece.arr 0 29 [msgL m] false]=PA at hx0 g0 hlen ⊢
  refine pend_intro (loop_rule (α:=Nat×Bool×HV) [false,false,false,false,false,false,false,false,true,true,true,true,true,true,true,true,true,true,true,true,true,true,true,true,true,true,true,true,true,true,true,true,true,true,true,true,true,true,true,true,true,true,true,true,true,true,true,true,true,true,true] (fun b=>[(7,.int .i64 b.1),(5,b.2.2),(6,.bool b.2.1)]) (fun b=>l.length - b.1) (fun b PS'=>b.1≤l.length∧∃R,R.length≤2*b.1∧R++addGo rcomp m b.2.1 (l.drop b.1)=addGo rcomp m false l∧Bld PA PS' 29 b.2.2 (R.map msgL)) (0,false,.imm true []) ⟨Nat.zero_le _,[],by simp,rfl,Bld.nil 29 (Ext.refl _)⟩ ?_ ?_)
  · simp only[go_sem,seval, -List.reduceReplicate,Int.natCast_zero]
  · rintro⟨i,p,y⟩ PS1 ⟨hi,R,hR,hE,hb⟩
    simp only at hi hR hE hb
    have h0:=(hb.ext.2 PS.length (by omega) (by simp)).trans g0
    by_cases hlt:i<l.length
    · have ha1:l[i]? =some l[i]:=by simp[hlt]
      have oi:=ok _ (List.getElem_mem hlt)
      have hdr:l.drop i=l[i]::l.drop (i+1):=List.drop_eq_getElem_cons hlt
      rw[hdr,addGo] at hE
      simp only[go_sem,seval, -List.reduceReplicate,hlt,List.getElem?_map,Option.map_some,ha1,List.length_map,h0]
      intro _
      refine pend_intro ((rkey_cmp _ _ oi.1.key hm.key).to ?_)
      by_cases hc:cmpB l[i].key m.key=0
      · rw[if_pos hc] at hE
        simp only[go_sem,seval, -List.reduceReplicate,hc,hlt,List.getElem?_map,Option.map_some,ha1,List.length_map,h0]
        refine pend_intro ((rcompose _ m oi.1 hm oi.2 mm).to ?_)
        simp only[go_sem,seval, -List.reduceReplicate,hlt,List.getElem?_map,Option.map_some,ha1,List.length_map,h0]
        refine⟨by simp[msgL_len],hb.app (by simp[msgL_len]) (by simp) (by simp[hroom];omega) fun v PS2 hb2=>?_⟩
        exact⟨⟨by omega,by omega⟩,(i+1,true,v),by simp only;omega,⟨by simp only;omega,R++[rcomp l[i] m],by simp;omega,by simpa using hE,by simpa using hb2⟩,.inl rfl,rfl,rfl⟩
      · rw[if_neg hc] at hE
        by_cases hp:0<cmpB l[i].key m.key∧p=false
        · obtain⟨hp,rfl⟩:=hp
          rw[if_pos ⟨hp,rfl⟩,decide_eq_true hp,Bool.or_true] at hE
          simp only[go_sem,seval, -List.reduceReplicate,hc,hp,hlt,List.getElem?_map,Option.map_some,ha1,List.length_map,h0]
          refine⟨by simp[msgL_len],hb.app (by simp[msgL_len]) (by simp) (by simp[hroom];omega) fun v PS2 hb2=>?_⟩
          have hb2:Bld PA PS2 29 v ((R++[m]).map msgL):=by simpa using hb2
          refine⟨by simp[msgL_len],hb2.app (by simp[msgL_len]) (by simp) (by simp[hroom];omega) fun v PS3 hb3=>?_⟩
          exact⟨⟨by omega,by omega⟩,(i+1,true,v),by simp only;omega,⟨by simp only;omega,R++[m]++[l[i]],by simp;omega,by simpa using hE,by simpa using hb3⟩,.inl rfl,rfl,rfl⟩
        · rw[if_neg hp,List.nil_append] at hE
          have hpp:(p || decide (0<cmpB l[i].key m.key))=p:=by
            cases p with
            | true=>rfl
            | false=>simpa using hp
          rw[hpp] at hE
          cases p with
          | true=>
            by_cases hp':0<cmpB l[i].key m.key
            · simp only[go_sem,seval, -List.reduceReplicate,hc,hp',hlt,List.getElem?_map,Option.map_some,ha1,List.length_map,h0]
              refine⟨by simp[msgL_len],hb.app (by simp[msgL_len]) (by simp) (by simp[hroom];omega) fun v PS2 hb2=>?_⟩
              exact⟨⟨by omega,by omega⟩,(i+1,true,v),by simp only;omega,⟨by simp only;omega,R++[l[i]],by simp;omega,by simpa using hE,by simpa using hb2⟩,.inl rfl,rfl,rfl⟩
            · simp only[go_sem,seval, -List.reduceReplicate,hc,hp',hlt,List.getElem?_map,Option.map_some,ha1,List.length_map,h0]
              refine⟨by simp[msgL_len],hb.app (by simp[msgL_len]) (by simp) (by simp[hroom];omega) fun v PS2 hb2=>?_⟩
              exact⟨⟨by omega,by omega⟩,(i+1,true,v),by simp only;omega,⟨by simp only;omega,R++[l[i]],by simp;omega,by simpa using hE,by simpa using hb2⟩,.inl rfl,rfl,rfl⟩
          | false=>
            have hp':¬0<cmpB l[i].key m.key:=fun h=>hp ⟨h,rfl⟩
            simp only[go_sem,seval, -List.reduceReplicate,hc,hp',hlt,List.getElem?_map,Option.map_some,ha1,List.length_map,h0]
            refine⟨by simp[msgL_len],hb.app (by simp[msgL_len]) (by simp) (by simp[hroom];omega) fun v PS2 hb2=>?_⟩
            exact⟨⟨by omega,by omega⟩,(i+1,false,v),by simp only;omega,⟨by simp only;omega,R++[l[i]],by simp;omega,by simpa using hE,by simpa using hb2⟩,.inl rfl,rfl,rfl⟩
    · rw[List.drop_of_length_le (by omega)] at hE
      have hw:∀{v:HV} {PS3:PL} {R:List (List HV)},Bld PA PS3 29 v R→Bld PS PS3 29 v R:=fun h=>by
        refine⟨?_,h.2.1,hx0.trans h.2.2⟩
        rcases h.1 with h | ⟨h1,p,ver,h2,h3,h4⟩
        · exact .inl h
        · exact .inr ⟨h1,p,ver,h2,Nat.le_trans hx0.1 h3,h4⟩
      cases p with
      | false=>
        simp only[go_sem,seval, -List.reduceReplicate,hlt,List.length_map,h0]
        intro _
        refine⟨by simp[msgL_len],hb.app (by simp[msgL_len]) (by simp) (by simp[hroom];omega) fun v PS2 hb2=>?_⟩
        rw[←hE]
        exact hw (by simpa [addGo] using hb2)
      | true=>
        simp only[go_sem,seval, -List.reduceReplicate,hlt,List.length_map]
        intro _
        rw[←hE]
        exact hw (by simpa [addGo] using hb)
end Go.Proofs.YtajjhaidpagflaaGreat
namespace Go.Proofs.YtajjhaidpagflaaGreat
open Go Go.Eng Go.Ow
open Go.Mo
variable [Toks]
set_option maxRecDepth 20000
attribute [local irreducible] hvc hops hop hplan hdrawP hval1 hopD HLoop
noncomputable def gm (v s:Int):Ms:=Classical.choose (gen_msg v s)
theorem gm_ok (v s:Int):okM (gm v s)∧msgOk (gm v s):=⟨(Classical.choose_spec (gen_msg v s)).1,(Classical.choose_spec (gen_msg v s)).2.1⟩
theorem gm_gen (v s:Int):Pure Tryz.prog 172 [.int .i64 v,.int .i64 s] (.agg (msgL (gm v s))):=(Classical.choose_spec (gen_msg v s)).2.2.2
/-- One more message,if there is room. -/
noncomputable def mStep (b:Nat) (out:List Ms) (p:Int×Nat):List Ms:=
  if msgsBytes (addGo rcomp (gm p.1 ((p.2:Int)+1)) false out)≤b then addGo rcomp (gm p.1 ((p.2:Int)+1)) false out else out
noncomputable def msgsOf (b:Nat) (l:List Int):List Ms:=l.zipIdx.foldl (mStep b) []
structure MsOk (b n:Nat) (L:List Ms):Prop where
  ok:∀e∈L,okM e∧msgOk e
  up:risesM L
  by_:msgsBytes L≤b
  few:L.length≤n
theorem add_ok {L:List Ms} {m:Ms} (hL:∀e∈L,okM e∧msgOk e) (hm:okM m∧msgOk m):∀e∈addGo rcomp m false L,okM e∧msgOk e:=fun e he=>by
  rcases addGo_mem L false he with rfl | he | ⟨e',h1,_,rfl⟩
  · exact hm
  · exact hL e he
  · exact rcomp_ok e' m (hL e' h1).1 hm.1 (hL e' h1).2 hm.2
theorem mStep_ok {b n:Nat} {L:List Ms} (h:MsOk b n L) (p:Int×Nat):MsOk b (n+1) (mStep b L p):=by
  unfold mStep
  split
  · rename_i hb
    refine⟨add_ok h.ok (gm_ok _ _),addGo_rises (fun e=>rcomp_key e _) _ h.up,hb,?_⟩
    have:=addGo_len (comp:=rcomp) (m:=gm p.1 ((p.2:Int)+1)) L false
    have:=h.few
    simp at*;omega
  · exact⟨h.ok,h.up,h.by_,by have:=h.few;omega⟩
theorem msgsOf_ok (b:Nat) (l:List Int):MsOk b l.length (msgsOf b l):=by
  have:∀(l:List (Int×Nat)) (n:Nat) (L:List Ms),MsOk b n L→MsOk b (n+l.length) (l.foldl (mStep b) L):=by
    intro l
    induction l with
    | nil=>intro n L h;exact h
    | cons x l ih=>intro n L h;have:=ih _ _ (mStep_ok h x);rw[List.foldl_cons,List.length_cons];rwa [Nat.add_assoc,Nat.add_comm 1] at this
  have:=this l.zipIdx 0 [] ⟨by simp,List.Pairwise.nil,by simp[msgsBytes],by simp⟩
  rwa [Nat.zero_add,List.length_zipIdx] at this
theorem msgsOf_succ {b:Nat} {l:List Int} {i:Nat} (h:i<l.length):msgsOf b (l.take (i+1))=mStep b (msgsOf b (l.take i)) (l[i],i):=by
  unfold msgsOf
  rw[List.take_succ_eq_append_getElem h,List.zipIdx_append,List.foldl_append]
  have:(l.take i).length=i:=by simp;omega
  simp[this]
theorem gen_msgs (t:Bool) (l:List Int) (b:Nat) (hb1:b≤100000):Pure Tryz.prog 117 [.imm t (l.map kidL),.int .i64 b] (.imm (decide ((msgsOf b (l.take 60)).map msgL=[])) ((msgsOf b (l.take 60)).map msgL)):=by
  refine Pure.of_ext (sc_rows _ msgL _ sc_msg) fun PS=>?_
  have hmx:maxLen=9223372036854775807:=rfl
  refine enter_117 (by unfold Tryz.f117;exact rfl) ?_
  simp only[go_sem,seval, -List.reduceReplicate]
  refine pend_intro (loop_rule (α:=Nat) [false,false,false,false,false,false,false,true,true,true,true,true,true,true,true,true,true,true,true,true,true,true,true,true,true,true,true,true,true,true,true,true] (fun i=>[(6,.int .i64 i),(5,.imm (decide ((msgsOf b (l.take i)).map msgL=[])) ((msgsOf b (l.take i)).map msgL))]) (fun i=>l.length - i) (fun i PS'=>(i≤l.length∧i≤60)∧Ext [] PS PS') 0 ⟨⟨Nat.zero_le _,Nat.zero_le _⟩,Ext.refl _⟩ ?_ ?_)
  · simp only[go_sem,seval, -List.reduceReplicate,Int.natCast_zero]
    rfl
  · rintro i PS1 ⟨hi,hx⟩
    by_cases hlt:i<l.length
    · have ha1:l[i]? =some l[i]:=by simp[hlt]
      by_cases hq:(i:Int)<60
      · have ok:=msgsOf_ok b (l.take i)
        have hst:=msgsOf_succ (b:=b) hlt
        have hfew:(msgsOf b (l.take i)).length≤i:=Nat.le_trans ok.few (List.length_take_le ..)
        unfold mStep at hst
        simp only at hst
        generalize msgsOf b (l.take i)=out at hst ok hfew ⊢
        simp only[go_sem,seval, -List.reduceReplicate,hlt,List.getElem?_map,Option.map_some,ha1,List.length_map,hq,kidL]
        intro _
        refine⟨⟨by omega,by omega⟩,pend_intro ((gm_gen _ _).call ?_)⟩
        simp only[go_sem,seval, -List.reduceReplicate]
        have hg:=gm_ok l[i] ((i:Int)+1)
        refine pend_intro ((radd (decide (List.map msgL out=[])) out (gm l[i] ((i:Int)+1)) hg.1 hg.2 ok.ok (by omega)).call ?_)
        have hmo:=add_ok ok.ok hg
        have hml:=addGo_len (comp:=rcomp) (m:=gm l[i] ((i:Int)+1)) out false
        simp only[Bool.false_eq_true,if_false] at hml
        generalize addGo rcomp (gm l[i] ((i:Int)+1)) false out=more at hst hmo hml ⊢
        simp only[go_sem,seval, -List.reduceReplicate]
        have hbt:=rmsgs_bytes (decide (List.map msgL more=[])) more (by omega) (fun e he=>(hmo e he).1)
        change Pure _ _ _ (.int .i64 (msgsBytes more:Nat)) at hbt
        refine pend_intro (hbt.call ?_)
        by_cases hb:msgsBytes more≤b
        · rw[if_pos hb] at hst
          have hb':((msgsBytes more:Nat):Int)≤(b:Int):=by omega
          simp only[go_sem,seval, -List.reduceReplicate,hb']
          exact⟨⟨by omega,by omega⟩,i+1,by omega,⟨⟨by omega,by omega⟩,hx⟩,by rw[hst],rfl⟩
        · rw[if_neg hb] at hst
          have hb':¬((msgsBytes more:Nat):Int)≤(b:Int):=by omega
          simp only[go_sem,seval, -List.reduceReplicate,hb']
          exact⟨⟨by omega,by omega⟩,i+1,by omega,⟨⟨by omega,by omega⟩,hx⟩,by rw[hst],rfl⟩
      · simp only[go_sem,seval, -List.reduceReplicate,hlt,List.getElem?_map,List.length_map,hq]
        intro _
        have h60:i=60:=by omega
        subst h60
        exact⟨rfl,hx⟩
    · simp only[go_sem,seval, -List.reduceReplicate,hlt,List.length_map]
      intro _
      rw[List.take_of_length_le (show l.length≤i by omega),List.take_of_length_le (show l.length≤60 by omega)]
      exact⟨rfl,hx⟩
end Go.Proofs.YtajjhaidpagflaaGreat
namespace Go.Proofs.YtajjhaidpagflaaGreat
open Go Go.Eng Go.Mo
variable [Toks]
set_option maxRecDepth 20000
attribute [local irreducible] hvc hops hop hplan hdrawP hval1 hopD HLoop
theorem place_1 (PS:PL) (h q1 q2:Nat) (t:Bool) (l:List Ms) (k:Bs) (hk:okK k) (ok:∀m∈l,okM m) (hh:h<l.length) (g1:getP PS q1=.arr 0 1 [[.imm t (l.map msgL)]] false) (g2:getP PS q2=.arr 0 9 [keyL k] false):
    HCall Tryz.prog 212 [.int .i64 h,.ptr q1 0 0 0,.ptr q2 0 0 0] PS fun r PS'=>r=.bool (decide (0≤cmpB l[h].key k))∧PS'=PS:=by
  refine HCall.data (.bool _) ?_
  have ha:l[h]? =some l[h]:=by simp[hh]
  have om:=(ok _ (List.getElem_mem hh)).key
  refine enter_212 (by unfold Tryz.f212;exact rfl) ?_
  simp only[go_sem,seval, -List.reduceReplicate,g1,g2,hh,List.getElem?_map,Option.map_some,ha,List.length_map]
  refine pend_intro ((key_cmp _ _ om hk).to ?_)
  simp only[go_sem,seval, -List.reduceReplicate]
  exact Ext.refl _
theorem sort_search (PS:PL) (n:Nat) (hn:n≤1000) (g:Nat) (hg:callable Tryz.prog g=true) (cs:List HV) (Q:Nat→Bool) (hf:∀h,h<n→HCall Tryz.prog g (.int .i64 h::cs) PS fun r PS'=>r=.bool (Q h)∧PS'=PS) (at_:Nat) (hat:at_≤n) (hlo:∀h,h<at_→Q h=false) (hhi:∀h,at_≤h→h<n→Q h=true):
    HCall Tryz.prog 211 [.int .i64 n,.func (.func g) [] cs] PS fun r PS'=>r=.int .i64 at_∧PS'=PS:=by
  refine HCall.data (.int _ _) ?_
  refine enter_211 (by unfold Tryz.f211;exact rfl) ?_
  simp only[go_sem,seval, -List.reduceReplicate]
  refine pend_intro (loop_rule (α:=Nat×Nat) [false,false,false,false,false,false,false,true,false,true,true,true,true,true,true,true,true,true,true,true,true,true,true,true,true] (fun b=>[(5,.int .i64 b.1),(6,.int .i64 b.2)]) (fun b=>b.2 - b.1) (fun b PS'=>(b.1≤at_∧at_≤b.2∧b.2≤n)∧PS'=PS) (0,n) ⟨⟨Nat.zero_le _,hat,Nat.le_refl _⟩,rfl⟩ ?_ ?_)
  · simp only[go_sem,seval, -List.reduceReplicate,Int.natCast_zero]
  rintro⟨i,j⟩ PS2 ⟨⟨h1,h2,h3⟩,hPS⟩
  obtain rfl:PS=PS2:=hPS.symm
  simp only at h1 h2 h3
  by_cases hlt:i<j
  · have hm:((i:Int)+(j:Int)).fdiv (2 ^ min 1 64)=(((i+j) / 2:Nat):Int):=by
      show ((i:Int)+(j:Int)).fdiv 2=_
      rw[Int.fdiv_eq_ediv_of_nonneg _ (by omega)]
      omega
    have hq:=hf ((i+j) / 2) (by omega)
    simp only[go_sem,seval, -List.reduceReplicate,hlt,hm]
    refine⟨⟨by omega,by omega⟩,⟨by omega,by omega⟩,⟨by omega,by omega⟩,?_⟩
    generalize hh:(i+j) / 2=h at hq
    refine⟨hg,hq.mono ?_⟩
    rintro _ PS3 ⟨rfl,hP3⟩
    obtain rfl:PS=PS3:=hP3.symm
    by_cases hc:h<at_
    · have:=hlo h hc
      simp only[go_sem,seval, -List.reduceReplicate,this]
      exact⟨⟨by omega,by omega⟩,(h+1,j),by simp only;omega,⟨by simp only;omega,by simp only;omega,by simp only;omega⟩,rfl,rfl⟩
    · have:=hhi h (by omega) (by omega)
      simp only[go_sem,seval, -List.reduceReplicate,this]
      exact⟨(i,h),by simp only;omega,⟨by simp only;omega,by simp only;omega,by simp only;omega⟩,rfl,rfl⟩
  · have:i=at_:=by omega
    subst this
    simp only[go_sem,seval, -List.reduceReplicate,hlt]
    exact Ext.refl _
/-- How many keys are below one. -/
def mbelow (l:List Ms) (k:Bs):Nat:=(l.takeWhile fun m=>decide (cmpB m.key k<0)).length
theorem mbelow_le (l:List Ms) (k:Bs):mbelow l k≤l.length:=(List.takeWhile_sublist _).length_le
theorem mbelow_lt {k:Bs}:∀{l:List Ms} {j:Nat},j<mbelow l k→∃q,l[j]? =some q∧cmpB q.key k<0
  | [],j,h=>by simp[mbelow] at h
  | x::l,j,h=>by
    unfold mbelow at h
    rw[List.takeWhile_cons] at h
    split at h
    · rename_i hx
      cases j with
      | zero=>exact⟨x,rfl,of_decide_eq_true hx⟩
      | succ j=>exact mbelow_lt (l:=l) (by simpa [mbelow] using h)
    · simp at h
theorem mbelow_ge {k:Bs}:∀{l:List Ms},risesM l→∀{j:Nat} {q:Ms},mbelow l k≤j→l[j]? =some q→0≤cmpB q.key k
  | [],_,j,q,_,h=>by simp at h
  | x::l,hr,j,q,hj,h=>by
    obtain⟨h1,h2⟩:=List.pairwise_cons.1 hr
    unfold mbelow at hj
    rw[List.takeWhile_cons] at hj
    split at hj
    · cases j with
      | zero=>simp at hj
      | succ j=>exact mbelow_ge h2 (j:=j) (by simpa [mbelow] using hj) (by simpa using h)
    · rename_i hx
      have hx:0≤cmpB x.key k:=by simpa using hx
      cases j with
      | zero=>simp at h;subst h;exact hx
      | succ j=>
        have hq:=List.mem_of_getElem? (by simpa using h:l[j]? =some q)
        have h3:=h1 q hq
        rcases Int.lt_or_eq_of_le hx with h4 | h4
        · by_cases h5:0≤cmpB q.key k
          · exact h5
          · have:=cmpB_trans h3 (show cmpB q.key k<0 by omega)
            omega
        · rw[←cmpB_eq h4.symm]
          by_cases h5:0≤cmpB q.key x.key
          · exact h5
          · have:=cmpB_trans h3 (show cmpB q.key x.key<0 by omega)
            rw[cmpB_self] at this
            omega
def mhas (l:List Ms) (k:Bs):Bool:=decide (l[mbelow l k]?.map Ms.key=some k)
theorem buf_place (t:Bool) (l:List Ms) (k:Bs) (hk:okK k) (ok:∀m∈l,okM m) (hl:l.length≤1000) (hr:risesM l) (PS:PL):HCall Tryz.prog 158 [.imm t (l.map msgL),.agg (keyL k)] PS fun r PS'=>r=.tup [.int .i64 (mbelow l k),.bool (mhas l k)]∧Ext [] PS PS':=by
  unfold mhas
  have hmx:maxLen=9223372036854775807:=rfl
  refine enter_158 (by unfold Tryz.f158;exact rfl) ?_
  simp only[go_sem,seval, -List.reduceReplicate]
  intro _
  have g1:getP (PS++[Piece.arr 0 1 [[HV.imm t (List.map msgL l)]] false,Piece.arr 0 9 [keyL k] false]) PS.length=.arr 0 1 [[.imm t (l.map msgL)]] false:=by simp[getP]
  have g2:getP (PS++[Piece.arr 0 1 [[HV.imm t (List.map msgL l)]] false,Piece.arr 0 9 [keyL k] false]) (PS.length+1)=.arr 0 9 [keyL k] false:=by simp[getP,List.getElem?_append_right]
  have hx:Ext [] PS (PS++[Piece.arr 0 1 [[HV.imm t (List.map msgL l)]] false,Piece.arr 0 9 [keyL k] false]):=Ext.app _ _
  refine pend_intro ?_
  generalize PS++[Piece.arr 0 1 [[HV.imm t (List.map msgL l)]] false,Piece.arr 0 9 [keyL k] false]=PA at g1 g2 hx ⊢
  have hs:=sort_search PA l.length hl 212 (by kernel_rfl) [.ptr PS.length 0 0 0,.ptr (PS.length+1) 0 0 0] (fun h=>match l[h]? with | some m=>decide (0≤cmpB m.key k) | none=>true) (fun h hh=>by
    have:=place_1 PA h PS.length (PS.length+1) t l k hk ok hh g1 g2
    simpa [hh] using this) (mbelow l k) (mbelow_le l k) (fun h hh=>by
    obtain⟨q,h1,h2⟩:=mbelow_lt hh
    simp only[h1]
    exact decide_eq_false (by omega)) (fun h h1 h2=>by
    have hq:l[h]? =some l[h]:=by simp[h2]
    simp only[hq]
    exact decide_eq_true (mbelow_ge hr h1 hq))
  refine hs.mono ?_
  rintro _ PS2 ⟨rfl,hP2⟩
  obtain rfl:PA=PS2:=hP2.symm
  have hle:=mbelow_le l k
  by_cases hlt:mbelow l k<l.length
  · have ha:l[mbelow l k]? =some l[mbelow l k]:=by simp[hlt]
    have om:=(ok _ (List.getElem_mem hlt)).key
    simp only[go_sem,seval, -List.reduceReplicate,g1,g2,hlt,List.getElem?_map,Option.map_some,ha,List.length_map,hcmp_key om]
    exact⟨by simp,hx⟩
  · have ha:l[mbelow l k]? =none:=List.getElem?_eq_none (by omega)
    simp only[go_sem,seval, -List.reduceReplicate,g1,g2,hlt,List.getElem?_map,ha,List.length_map]
    exact hx
theorem buf_place' (t:Bool) (l:List Ms) (k:Bs) (hk:okK k) (ok:∀m∈l,okM m) (hl:l.length≤1000) (hr:risesM l):Pure Tryz.prog 158 [.imm t (l.map msgL),.agg (keyL k)] (.tup [.int .i64 (mbelow l k),.bool (mhas l k)]):=Pure.of_ext (tup2_scoped (.int _ _) (.bool _)) (buf_place t l k hk ok hl hr)
end Go.Proofs.YtajjhaidpagflaaGreat
namespace Go.Mo
open Go Go.Eng
variable [Toks]
def m0:Ms:=⟨0,0,[],[],0⟩
def fndM (l:List Ms) (k:Bs):Ms×Bool:=((l.find? fun m=>decide (m.key=k)).getD m0,(l.find? fun m=>decide (m.key=k)).isSome)
/-- What a message makes of a value. -/
noncomputable def appM (v:Bs) (b:Bool) (m:Ms):Bs×Bool:=
  if m.kind=1 then (m.val,true) else if m.kind=3 then (putLE ((numLE ((pad 16 (if b then v else [])).take 8)+m.by_) % 18446744073709551616) 8,true) else ([],false)
end Go.Mo
namespace Go.Proofs.YtajjhaidpagflaaGreat
open Go Go.Eng Go.Ow
open Go.Mo
variable [Toks]
set_option maxRecDepth 20000
attribute [local irreducible] hvc hops hop hplan hdrawP hval1 hopD HLoop
theorem fndM_has {l:List Ms} {k:Bs} (hr:risesM l) (h:mhas l k=true):∃a,l[mbelow l k]? =some a∧fndM l k=(a,true):=by
  unfold mhas at h
  rw[decide_eq_true_eq,Option.map_eq_some_iff] at h
  obtain⟨a,h1,h2⟩:=h
  refine⟨a,h1,?_⟩
  obtain⟨hlt,h3⟩:=List.getElem?_eq_some_iff.1 h1
  have hf:l.find? (fun m=>decide (m.key=k))=some a:=by
    rw[List.find?_eq_some_iff_getElem]
    refine⟨by simpa using h2,_,hlt,h3,fun j hj=>?_⟩
    obtain⟨q,g1,g2⟩:=mbelow_lt hj
    have hjl:j<l.length:=by omega
    have:l[j]=q:=by rw[List.getElem?_eq_getElem hjl] at g1;exact Option.some.inj g1
    rw[this]
    have:q.key≠k:=fun e=>by rw[e,cmpB_self] at g2;omega
    simpa using this
  unfold fndM
  rw[hf];rfl
theorem fndM_not {l:List Ms} {k:Bs} (hr:risesM l) (h:¬mhas l k=true):fndM l k=(m0,false):=by
  have hf:l.find? (fun m=>decide (m.key=k))=none:=List.find?_eq_none.2 fun e he=>by
    intro hk
    have hk:e.key=k:=by simpa using hk
    obtain⟨j,hj⟩:=List.getElem?_of_mem he
    rcases Nat.lt_trichotomy j (mbelow l k) with h1 | h1 | h1
    · obtain⟨q,g1,g2⟩:=mbelow_lt h1
      rw[hj] at g1
      cases g1
      rw[hk,cmpB_self] at g2;omega
    · subst h1
      exact h (by unfold mhas;rw[hj];simp[hk])
    · have hjl:=(List.getElem?_eq_some_iff.1 hj).1
      have hml:mbelow l k<l.length:=by omega
      have g1:=mbelow_ge (k:=k) hr (Nat.le_refl _) (List.getElem?_eq_getElem hml)
      have g2:=List.pairwise_iff_getElem.1 hr (mbelow l k) j hml hjl h1
      rw[(List.getElem?_eq_some_iff.1 hj).2,hk] at g2
      omega
  unfold fndM
  rw[hf];rfl
theorem rmfind (t:Bool) (l:List Ms) (k:Bs) (ok:∀m∈l,okM m):Pure Tryz.prog 42 [.imm t (l.map msgL),.agg (keyL k)] (.tup [.agg (msgL (fndM l k).1),.bool (fndM l k).2]):=by
  refine Pure.of_ext (tup2_scoped (scoped_agg.2 (sc_msg _)) (.bool _)) fun PS=>?_
  unfold fndM
  refine enter_42 (by unfold Tryz.f42;exact rfl) ?_
  simp only[go_sem,seval, -List.reduceReplicate]
  refine pend_intro (loop_rule (α:=Nat) [false,false,false,false,false,true,false,true,true,true,true,true,true,true,true,true,true,true,true,true,true,true,true,true] (fun i=>[(6,.int .i64 i)]) (fun i=>l.length - i) (fun i PS'=>(i≤l.length∧∀m∈l.take i,m.key≠k)∧PS'=PS++[.arr 0 9 [keyL k] false,.arr 0 29 [HV.int .i64 0::HV.int .u64 0::HV.int .i64 0::(List.replicate 8 (HV.int .u8 0)++[HV.int .i64 0]++List.replicate 16 (HV.int .u8 0)++[HV.int .u64 0])] false]) 0 ⟨⟨Nat.zero_le _,by simp⟩,rfl⟩ ?_ ?_)
  · simp only[go_sem,seval, -List.reduceReplicate,Int.natCast_zero]
  · rintro i _ ⟨⟨hi,hu⟩,rfl⟩
    by_cases hlt:i<l.length
    · have ha1:l[i]? =some l[i]:=by simp[hlt]
      have oi:=ok _ (List.getElem_mem hlt)
      simp only[go_sem,seval, -List.reduceReplicate,hlt,List.getElem?_map,Option.map_some,ha1,List.length_map,msgL,hcmp_key oi.key]
      intro hm
      have hmx:maxLen=9223372036854775807:=rfl
      split
      · rename_i he
        have hf:l.find? (fun m=>decide (m.key=k))=some l[i]:=by
          have h1:(l.take i).find? (fun m=>decide (m.key=k))=none:=List.find?_eq_none.2 fun e he2=>by simpa using hu e he2
          have h2:l.find? (fun m=>decide (m.key=k))=(l.take i++l.drop i).find? (fun m=>decide (m.key=k)):=by rw[List.take_append_drop]
          rw[h2,List.find?_append,h1,List.drop_eq_getElem_cons hlt,Option.none_or,List.find?_cons]
          simp only[decide_eq_true he]
        rw[hf]
        have h27:(keyL l[i].key++(valL l[i].val++[HV.int IntKind.u64 (l[i].by_:Nat)])).length=27:=by simp[keyL_len,valL_len]
        have hz:List.drop 27 (HV.int IntKind.i64 0::(List.replicate 8 (HV.int IntKind.u8 0)++[HV.int IntKind.i64 0]++List.replicate 16 (HV.int IntKind.u8 0)++[HV.int IntKind.u64 0]))=[]:=rfl
        simp only[List.take_of_length_le (Nat.le_of_eq h27),h27,hz,List.append_nil]
        exact⟨(ones_iff _).2 fun y hy=>msgL_one l[i] y (by simp only[msgL,List.mem_cons];exact .inr (.inr hy)),by decide,by decide,rfl,Ext.app _ _⟩
      · rename_i hne
        refine⟨⟨by omega,by omega⟩,i+1,by omega,⟨by omega,fun e he=>?_⟩,rfl⟩
        rw[List.take_succ_eq_append_getElem hlt] at he
        rcases List.mem_append.1 he with he | he
        · exact hu e he
        · simp at he;subst he;exact hne
    · simp only[go_sem,seval, -List.reduceReplicate,hlt,List.length_map]
      intro hm
      have hf:l.find? (fun m=>decide (m.key=k))=none:=List.find?_eq_none.2 fun e he=>by
        have:=hu e (by rw[List.take_of_length_le (by omega)];exact he)
        simpa using this
      rw[hf]
      exact⟨(ones_iff _).2 fun y hy=>by
        simp only[List.mem_append,List.mem_replicate,List.mem_cons,List.not_mem_nil,or_false] at hy
        rcases hy with ((⟨_,rfl⟩ | rfl) | ⟨_,rfl⟩) | rfl<;>rfl,rfl,Ext.app _ _⟩
theorem num_part (PS:PL) (n ver c:Nat) (v:Bs) (h:getP PS n=.arr ver 17 [valL v] false):
    HCall Tryz.prog 243 [.isl n ver 0 1 16 c,.int .i64 0,.int .i64 8] PS fun r PS'=>r=.tup [.int .u64 (numLE ((pad 16 v).take 8):Nat),.bool true]∧PS'=PS:=by
  refine HCall.data (by rw[scoped_tup];simp[scoped_int,scoped_bool]) ?_
  refine enter_243 (by unfold Tryz.f243;exact rfl) ?_
  simp only[go_sem,seval, -List.reduceReplicate]
  refine pend_intro ((bits_may 8).call ?_)
  simp only[go_sem,seval, -List.reduceReplicate,h]
  intro _
  have hp:(pad 16 v).length=16:=pad_len 16 v
  generalize hpv:pad 16 v=l at hp
  have hcell:∀j (hj:j<l.length),(valL v)[j+1]? =some (.int .u8 (l[j]'hj).toNat):=fun j hj=>by
    subst hpv
    exact val_cell v j (by rw[pad_len] at hj;exact hj)
  refine pend_intro (loop_rule (α:=Nat) [false,false,false,false,false,false,false,false,false,false,false,false,false,false,false,false,false,false,false,false,false,false,false,false,false,false,false,true,true,true,true,true,true,true,true,true,true,true,true,true,true] (fun k=>[(9,.int .i64 ((7:Int) - k)),(8,.int .u64 (numLE ((l.drop (8 - k)).take k):Nat))]) (fun k=>8 - k) (fun k PS'=>k≤8∧PS'=PS) 0 ⟨Nat.zero_le _,rfl⟩ ?_ ?_)
  · simp only[go_sem,seval, -List.reduceReplicate,Int.natCast_zero,List.take_zero,numLE,Int.sub_zero]
  rintro k PS' ⟨hk,hPS⟩
  obtain rfl:PS=PS':=hPS.symm
  by_cases hlt:k<8
  · have e1:(7:Int) - (k:Int)=((7 - k:Nat):Int):=by omega
    have e0:(0:Int)+((7 - k:Nat):Int)=((7 - k:Nat):Int):=by omega
    have e2:((7 - k:Nat):Int) - 1=(7:Int) - ((k+1:Nat):Int):=by omega
    have hi:7 - k<l.length:=by omega
    have hn:=numLE_step l (7 - k) hi k
    rw[show 7 - k+1=8 - k by omega] at hn
    have hlt7:numLE ((l.drop (8 - k)).take k)<256 ^ 7:=by
      refine Nat.lt_of_lt_of_le (numLE_lt _) (Nat.pow_le_pow_right (by omega) ?_)
      rw[List.length_take];omega
    have hc:=(l[7 - k]'hi).toNat_lt
    have hb:List.take 1 (List.drop (1+(7 - k)) (valL v))=[.int .u8 (l[7 - k]'hi).toNat]:=by rw[List.take_one,List.head?_drop,Nat.add_comm,hcell (7 - k) hi];rfl
    generalize numLE ((l.drop (8 - k)).take k)=x at hn hlt7 ⊢
    simp only[go_sem,seval, -List.reduceReplicate,e1,e0,h,hb,hlt]
    have e5:hbits .or .u64 (IntKind.u64.wrap ((x:Int)*2 ^ min 8 64)) ((l[7 - k]'hi).toNat:Int)=(((l[7 - k]'hi).toNat+256*x:Nat):Int):=by
      have:IntKind.u64.wrap ((x:Int)*2 ^ min 8 64)=((256*x:Nat):Int):=by
        show ((x:Int)*256) % 18446744073709551616=_
        omega
      rw[this,hbits_or64 _ _ (by omega) (by omega),or256 _ _ hc]
    rw[e5]
    exact⟨⟨by omega,by omega⟩,by omega,by omega,by omega,⟨by omega,by omega⟩,k+1,by omega,by omega,by rw[show 8 - (k+1)=7 - k by omega,hn],by rw[e2]⟩
  · have hk:k=8:=by omega
    subst hk
    have e1:(7:Int) - ((8:Nat):Int)= -1:=by omega
    simp only[go_sem,seval, -List.reduceReplicate,e1,Nat.sub_self]
    exact Ext.refl _
theorem val_number (v:Bs):Pure Tryz.prog 214 [.agg (valL v)] (.int .u64 (numLE ((pad 16 v).take 8):Nat)):=by
  refine Pure.of_ext (.int _ _) fun PS=>?_
  refine enter_214 (by unfold Tryz.f214;exact rfl) ?_
  simp only[go_sem,seval, -List.reduceReplicate]
  refine pend_intro ((num_part _ _ _ _ v (getP_last _ _)).mono ?_)
  rintro _ PS' ⟨rfl,rfl⟩
  simp only[go_sem,seval, -List.reduceReplicate]
  exact Ext.app _ _
theorem value_of_sl (PS:PL) (n ver m:Nat) (k:Bs) (hm:m=k.length) (hk:okV k) (h:getP PS n=.arr ver 1 (bytesRows k) true):HCall Tryz.prog 250 [.sl n ver 0 m none] PS fun r PS'=>r=.agg (valL k)∧PS'=PS:=by
  subst hm
  refine HCall.data (valL_scoped _ _) ?_
  refine enter_250 (by unfold Tryz.f250;exact rfl) ?_
  have hk':k.length≤16:=hk
  have e5:List.take k.length (bytesRows k)=bytesRows k:=List.take_of_length_le (by rw[bytesRows_len];exact Nat.le_refl _)
  have e6:List.take 16 (bytesRows k)=bytesRows k:=List.take_of_length_le (by rw[bytesRows_len];exact hk')
  have e7:(bytesRows k).flatten=u8s k:=by
    unfold bytesRows u8s
    rw[show (k.map fun b=>[HV.int .u8 (b.toNat:Nat)])=(k.map fun b=>HV.int .u8 (b.toNat:Nat)).map (fun y=>[y]) from by simp]
    exact flat1 _
  have hx:∀l,getP (PS++l) n=.arr ver 1 (bytesRows k) true:=fun l=>by rw[getP_app' l (getP_lt h),h]
  have e3:(u8s k).take 16=u8s k:=List.take_of_length_le (by simp[u8s_len,hk'])
  have e4:∀n m x,List.drop n (List.replicate m x:List HV)=List.replicate (m - n) x:=fun _ _ _=>List.drop_replicate
  simp only[go_sem,seval, -List.reduceReplicate,hx,List.length_replicate,bytesRows_len,e3,e5,e6,e7,u8s_len,e4,List.replicate_zero,List.append_nil,pad_full hk']
  intro _
  exact⟨by simp[ones_iff,HV.one],rfl,Ext.app _ _⟩
theorem val_from (n:Nat) (hn:n<18446744073709551616):Pure Tryz.prog 213 [.int .u64 n] (.agg (valL (putLE n 8))):=by
  refine Pure.of_ext (by rw[scoped_agg];exact sc_val _) fun PS=>?_
  refine enter_213 (by unfold Tryz.f213;exact rfl) ?_
  simp only[go_sem,seval, -List.reduceReplicate]
  refine pend_intro ((bits_put _ _ [] n 8 (From_.bytes (t:=true) []) (by simp) hn (by omega) (by omega)).mono ?_)
  rintro _ _ ⟨ver,rfl,rfl⟩
  simp only[go_sem,seval, -List.reduceReplicate]
  refine pend_intro ((value_of_sl (PS++[.arr 0 17 [HV.int IntKind.i64 0::List.replicate 16 (HV.int IntKind.u8 0)] false,.arr ver 1 (bytesRows (putLE n 8)) true]) (PS.length+1) ver (bytesRows (putLE n 8)).length (putLE n 8) (bytesRows_len _) (by unfold okV;rw[putLE_len];omega) (by simp[getP,List.getElem?_append_right])).mono ?_)
  rintro _ PS' ⟨rfl,rfl⟩
  simp only[go_sem,seval, -List.reduceReplicate]
  exact⟨by omega,Ext.app _ _⟩
theorem fan_kid (t:Bool) (p:List Bs) (k:Bs) (hp:∀q∈p,okK q) (hk:okK k) (hl:p.length≤1000):Pure Tryz.prog 86 [.imm t (p.map keyL),.agg (keyL k)] (.int .i64 (kidOf p k)):=by
  refine Pure.of_ext (.int _ _) fun PS=>?_
  have hmx:maxLen=9223372036854775807:=rfl
  refine enter_86 (by unfold Tryz.f86;exact rfl) ?_
  simp only[go_sem,seval, -List.reduceReplicate]
  intro _
  refine pend_intro (loop_rule (α:=Nat) [false,false,false,false,false,false,false,true,false,false,false,true,true,true,true,true,true,true,true,true,true] (fun i=>[(10,.int .i64 i),(5,.int .i64 (kidOf (p.take i) k))]) (fun i=>p.length - i) (fun i PS'=>i≤p.length∧Ext [] PS PS'∧getP PS' PS.length=.arr 0 9 [keyL k] false) 0 ⟨Nat.zero_le _,Ext.app _ _,by simp[getP]⟩ ?_ ?_)
  · simp only[go_sem,seval, -List.reduceReplicate,Int.natCast_zero]
    rfl
  · rintro i PS1 ⟨hi,hx,hg⟩
    by_cases hlt:i<p.length
    · have ha1:p[i]? =some p[i]:=by simp[hlt]
      have hf:=kidOf_succ (k:=k) hlt
      have hle:kidOf (p.take i) k≤i:=by
        unfold kidOf
        exact Nat.le_trans (List.length_filter_le ..) (List.length_take_le ..)
      have hgl:=getP_lt hg
      have hg':∀X,getP (PS1++X) PS.length=.arr 0 9 [keyL k] false:=fun X=>(getP_app' X hgl).trans hg
      simp only[go_sem,seval, -List.reduceReplicate,hlt,List.getElem?_map,Option.map_some,ha1,List.length_map,hg']
      refine pend_intro ((key_cmp _ _ (hp _ (List.getElem_mem hlt)) hk).call ?_)
      by_cases hc:cmpB p[i] k≤0
      · rw[if_pos hc] at hf
        simp only[go_sem,seval, -List.reduceReplicate,hc]
        exact⟨⟨by omega,by omega⟩,⟨by omega,by omega⟩,i+1,by omega,⟨by omega,hx.trans (Ext.app _ _),hg' _⟩,by rw[hf,Int.natCast_add,Int.natCast_one],rfl⟩
      · rw[if_neg hc] at hf
        simp only[go_sem,seval, -List.reduceReplicate,hc]
        exact⟨⟨by omega,by omega⟩,i+1,by omega,⟨by omega,hx.trans (Ext.app _ _),hg' _⟩,by rw[hf,Nat.add_zero],rfl⟩
    · simp only[go_sem,seval, -List.reduceReplicate,hlt,List.length_map]
      rw[List.take_of_length_le (by omega)]
      exact⟨rfl,hx⟩
theorem val_plus (v:Bs) (n:Nat) (hn:n<18446744073709551616):Pure Tryz.prog 159 [.agg (valL v),.int .u64 n] (.agg (valL (putLE ((numLE ((pad 16 v).take 8)+n) % 18446744073709551616) 8))):=by
  refine Pure.of_ext (by rw[scoped_agg];exact sc_val _) fun PS=>?_
  have hw:IntKind.u64.wrap ((numLE ((pad 16 v).take 8):Int)+(n:Int))=(((numLE ((pad 16 v).take 8)+n) % 18446744073709551616:Nat):Int):=by
    show ((numLE ((pad 16 v).take 8):Int)+(n:Int)) % 18446744073709551616=_
    omega
  refine enter_159 (by unfold Tryz.f159;exact rfl) ?_
  simp only[go_sem,seval, -List.reduceReplicate]
  refine pend_intro ((val_number v).call ?_)
  simp only[go_sem,seval, -List.reduceReplicate,hw]
  refine pend_intro ((val_from _ (Nat.mod_lt _ (by omega))).call ?_)
  simp only[go_sem,seval, -List.reduceReplicate]
  exact⟨by omega,Ext.app _ _⟩
theorem apply_is (v:Bs) (b:Bool) (m:Ms) (hm:okM m) (mk:msgOk m):Pure Tryz.prog 90 [.agg (valL v),.bool b,.agg (msgL m)] (.tup [.agg (valL (appM v b m).1),.bool (appM v b m).2]):=by
  refine Pure.of_ext (tup2_scoped (scoped_agg.2 (sc_val _)) (.bool _)) fun PS=>?_
  unfold appM
  have hon:ones (keyL m.key++(valL m.val++[HV.int .u64 (m.by_:Nat)]))=True:=eq_true ((ones_iff _).2 fun y hy=>msgL_one m y (by simp only[msgL,List.mem_cons];exact .inr (.inr hy)))
  have hz:ones (List.replicate 16 (HV.int IntKind.u8 0))=True:=eq_true (by simp[ones_iff,HV.one])
  have hby:List.take 1 (List.drop 26 (keyL m.key++(valL m.val++[HV.int IntKind.u64 (m.by_:Nat)])))=[HV.int IntKind.u64 (m.by_:Nat)]:=by
    rw[←List.append_assoc,List.drop_left' (by simp[keyL_len,valL_len])];rfl
  refine enter_90 (by unfold Tryz.f90;exact rfl) ?_
  by_cases h1:m.kind=1
  · simp only[go_sem,seval, -List.reduceReplicate,h1,msgL,hon]
    exact⟨by omega,Ext.app _ _⟩
  · by_cases h3:m.kind=3
    · cases b
      · simp only[go_sem,seval, -List.reduceReplicate,h1,h3,msgL,hon,hz,hby]
        refine pend_intro ((val_plus [] m.by_ hm.by_).call ?_)
        simp only[go_sem,seval, -List.reduceReplicate,h1,h3]
        exact⟨by omega,Ext.app _ _⟩
      · simp only[go_sem,seval, -List.reduceReplicate,h1,h3,msgL,hon,hz,hby]
        refine pend_intro ((val_plus v m.by_ hm.by_).call ?_)
        simp only[go_sem,seval, -List.reduceReplicate,h1,h3]
        exact⟨by omega,Ext.app _ _⟩
    · simp only[go_sem,seval, -List.reduceReplicate,h1,h3,msgL,hon,hz]
      exact⟨by omega,rfl,Ext.app _ _⟩
theorem rapply_is (v:Bs) (b:Bool) (m:Ms) (hm:okM m) (mk:msgOk m):Pure Tryz.prog 43 [.agg (valL v),.bool b,.agg (msgL m)] (.tup [.agg (valL (appM v b m).1),.bool (appM v b m).2]):=by
  refine Pure.of_ext (tup2_scoped (scoped_agg.2 (sc_val _)) (.bool _)) fun PS=>?_
  unfold appM
  have hon:ones (keyL m.key++(valL m.val++[HV.int .u64 (m.by_:Nat)]))=True:=eq_true ((ones_iff _).2 fun y hy=>msgL_one m y (by simp only[msgL,List.mem_cons];exact .inr (.inr hy)))
  have hz:ones (List.replicate 16 (HV.int IntKind.u8 0))=True:=eq_true (by simp[ones_iff,HV.one])
  have hby:List.take 1 (List.drop 26 (keyL m.key++(valL m.val++[HV.int IntKind.u64 (m.by_:Nat)])))=[HV.int IntKind.u64 (m.by_:Nat)]:=by
    rw[←List.append_assoc,List.drop_left' (by simp[keyL_len,valL_len])];rfl
  refine enter_43 (by unfold Tryz.f43;exact rfl) ?_
  by_cases h1:m.kind=1
  · simp only[go_sem,seval, -List.reduceReplicate,h1,msgL,hon]
    exact⟨by omega,Ext.app _ _⟩
  · by_cases h2:m.kind=2
    · simp only[go_sem,seval, -List.reduceReplicate,h1,h2,msgL,hon,hz]
      exact⟨by omega,rfl,Ext.app _ _⟩
    · have h3:m.kind=3:=by have:=mk.lo;have:=mk.hi;omega
      cases b
      · have hn0:numLE ((pad 16 ([]:Bs)).take 8)=0:=by decide
        have hmod:(0+m.by_) % 18446744073709551616=m.by_:=by have:=hm.by_;omega
        simp only[go_sem,seval, -List.reduceReplicate,h1,h2,h3,msgL,hon,hz,hby]
        refine pend_intro ((ref_from m.by_ hm.by_).call ?_)
        simp only[go_sem,seval, -List.reduceReplicate,h1,h3,hn0,hmod]
        exact⟨by omega,by rw[Nat.mod_eq_of_lt hm.by_],Ext.app _ _⟩
      · simp only[go_sem,seval, -List.reduceReplicate,h1,h2,h3,msgL,hon,hz,hby]
        refine pend_intro ((ref_plus v m.by_ hm.by_).call ?_)
        simp only[go_sem,seval, -List.reduceReplicate,h1,h3]
        exact⟨by omega,Ext.app _ _⟩
theorem bmfind (t:Bool) (l:List Ms) (k:Bs) (hk:okK k) (ok:∀m∈l,okM m) (hl:l.length≤1000) (hr:risesM l):Pure Tryz.prog 87 [.imm t (l.map msgL),.agg (keyL k)] (.tup [.agg (msgL (fndM l k).1),.bool (fndM l k).2]):=by
  refine Pure.of_ext (tup2_scoped (scoped_agg.2 (sc_msg _)) (.bool _)) fun PS=>?_
  refine enter_87 (by unfold Tryz.f87;exact rfl) ?_
  simp only[go_sem,seval, -List.reduceReplicate]
  refine pend_intro ((buf_place' t l k hk ok hl hr).call ?_)
  by_cases hh:mhas l k=true
  · obtain⟨a,h1,h2⟩:=fndM_has hr hh
    rw[h2]
    have h27:(keyL a.key++(valL a.val++[HV.int IntKind.u64 (a.by_:Nat)])).length=27:=by simp[keyL_len,valL_len]
    have hz:List.drop 27 (HV.int IntKind.i64 0::(List.replicate 8 (HV.int IntKind.u8 0)++[HV.int IntKind.i64 0]++List.replicate 16 (HV.int IntKind.u8 0)++[HV.int IntKind.u64 0]))=[]:=rfl
    simp only[go_sem,seval, -List.reduceReplicate,hh,h1,List.getElem?_map,Option.map_some,List.length_map,msgL]
    simp only[List.take_of_length_le (Nat.le_of_eq h27),h27,hz,List.append_nil]
    exact⟨(ones_iff _).2 fun y hy=>msgL_one a y (by simp only[msgL,List.mem_cons];exact .inr (.inr hy)),trivial,by decide,trivial,Ext.app _ _⟩
  · have h2:=fndM_not hr hh
    rw[h2]
    have hh:mhas l k=false:=by simpa using hh
    simp only[go_sem,seval, -List.reduceReplicate,hh]
    exact⟨(ones_iff _).2 fun y hy=>by
      simp only[List.mem_append,List.mem_replicate,List.mem_cons,List.not_mem_nil,or_false] at hy
      rcases hy with ((⟨_,rfl⟩ | rfl) | ⟨_,rfl⟩) | rfl<;>rfl,rfl,Ext.app _ _⟩
def ebelow (l:List (Bs×Bs)) (k:Bs):Nat:=kbelow k (l.map Prod.fst)
theorem ebelow_le (l:List (Bs×Bs)) (k:Bs):ebelow l k≤l.length:=by have:=kbelow_le k (l.map Prod.fst);rwa [List.length_map] at this
theorem ebelow_lt {l:List (Bs×Bs)} {k:Bs} {j:Nat} (h:j<ebelow l k) (hj:j<l.length):cmpB l[j].1 k<0:=by
  obtain⟨q,h1,h2⟩:=kbelow_lt h
  rw[List.getElem?_map,List.getElem?_eq_getElem hj] at h1
  cases h1
  exact h2
theorem ebelow_ge {l:List (Bs×Bs)} {k:Bs} (hr:rises l) {j:Nat} (h:ebelow l k≤j) (hj:j<l.length):0≤cmpB l[j].1 k:=by
  have hb:ebelow l k<l.length:=by omega
  have h0:0≤cmpB l[ebelow l k].1 k:=kbelow_ge (out:=l.map Prod.fst) (by rw[List.getElem?_map];show (l[ebelow l k]?).map _=_;rw[List.getElem?_eq_getElem hb];rfl)
  rcases Nat.lt_or_ge (ebelow l k) j with h1 | h1
  · have h2:=List.pairwise_iff_getElem.1 hr _ _ hb hj h1
    by_cases h3:0≤cmpB l[j].1 k
    · exact h3
    · have:=cmpB_trans h2 (show cmpB l[j].1 k<0 by omega)
      omega
  · obtain rfl:j=ebelow l k:=by omega
    exact h0
def ehas (l:List (Bs×Bs)) (k:Bs):Bool:=decide (l[ebelow l k]?.map Prod.fst=some k)
theorem fndE_has {l:List (Bs×Bs)} {k:Bs} (h:ehas l k=true):∃a,l[ebelow l k]? =some a∧fndE l k=(a.2,true):=by
  unfold ehas at h
  rw[decide_eq_true_eq,Option.map_eq_some_iff] at h
  obtain⟨a,h1,h2⟩:=h
  refine⟨a,h1,?_⟩
  obtain⟨hlt,h3⟩:=List.getElem?_eq_some_iff.1 h1
  have hf:l.find? (fun e=>decide (e.1=k))=some a:=by
    rw[List.find?_eq_some_iff_getElem]
    refine⟨by simpa using h2,_,hlt,h3,fun j hj=>?_⟩
    have g:=ebelow_lt hj (by omega)
    have:(l[j]'(by omega)).1≠k:=fun e=>by rw[e,cmpB_self] at g;omega
    simpa using this
  unfold fndE
  rw[hf];rfl
theorem fndE_not {l:List (Bs×Bs)} {k:Bs} (hr:rises l) (h:¬ehas l k=true):fndE l k=([],false):=by
  have hf:l.find? (fun e=>decide (e.1=k))=none:=List.find?_eq_none.2 fun e he=>by
    intro hk
    have hk:e.1=k:=by simpa using hk
    obtain⟨j,hj⟩:=List.getElem?_of_mem he
    obtain⟨hjl,hj2⟩:=List.getElem?_eq_some_iff.1 hj
    rcases Nat.lt_trichotomy j (ebelow l k) with h1 | h1 | h1
    · have g:=ebelow_lt h1 hjl
      rw[hj2,hk,cmpB_self] at g;omega
    · subst h1
      exact h (by unfold ehas;rw[hj];simp[hk])
    · have hml:ebelow l k<l.length:=by omega
      have g1:=ebelow_ge (k:=k) hr (Nat.le_refl _) hml
      have g2:=List.pairwise_iff_getElem.1 hr (ebelow l k) j hml hjl h1
      rw[hj2,hk] at g2
      omega
  unfold fndE
  rw[hf];rfl
theorem leaf_place (t:Bool) (l:List (Bs×Bs)) (k:Bs) (hk:okK k) (ok:∀e∈l,okK e.1∧okV e.2) (hl:l.length≤1000) (hr:rises l):Pure Tryz.prog 160 [.imm t (l.map entL),.agg (keyL k)] (.tup [.int .i64 (ebelow l k),.bool (ehas l k)]):=by
  refine Pure.of_ext (tup2_scoped (.int _ _) (.bool _)) fun PS=>?_
  have hmx:maxLen=9223372036854775807:=rfl
  have hb:=ebelow_le l k
  refine enter_160 (by unfold Tryz.f160;exact rfl) ?_
  simp only[go_sem,seval, -List.reduceReplicate,List.length_map]
  intro _
  refine pend_intro (loop_rule (α:=Nat×Nat) [false,false,false,false,false,false,false,true,true,false,false,false,false,true,true,true,true,true,true,true,true,true,true,true,true,true,true,true,true,true,true,true,true,true,true,true,true] (fun _=>[]) (fun b=>b.2 - b.1) (fun b PS'=>(b.1≤ebelow l k∧ebelow l k≤b.2∧b.2≤l.length)∧PS'=PS++[.arr 0 9 [keyL k] false,.arr 0 2 [[.int .i64 b.1,.int .i64 b.2]] false]) (0,l.length) ⟨⟨Nat.zero_le _,hb,Nat.le_refl _⟩,rfl⟩ ?_ ?_)
  · simp only[go_sem,seval, -List.reduceReplicate,Int.natCast_zero]
  · rintro⟨lo,hi⟩ _ ⟨⟨h1,h2,h3⟩,rfl⟩
    simp only at h1 h2 h3
    by_cases hlt:lo<hi
    · have hm:((lo:Int)+(hi:Int)).tdiv 2=(((lo+hi) / 2:Nat):Int):=by rw[Int.tdiv_eq_ediv_of_nonneg (by omega)];omega
      have hlm:(lo+hi) / 2<l.length:=by omega
      have ha1:l[(lo+hi) / 2]? =some l[(lo+hi) / 2]:=by simp[hlm]
      simp only[go_sem,seval, -List.reduceReplicate,hlt,hm,hlm,List.length_map,List.getElem?_map,Option.map_some,ha1,entL_len]
      refine⟨⟨by omega,by omega⟩,⟨by omega,by omega⟩,?_⟩
      refine pend_intro ((key_cmp _ _ (ok _ (List.getElem_mem hlm)).1 hk).to ?_)
      by_cases hc:cmpB l[(lo+hi) / 2].1 k<0
      · have hg:(lo+hi) / 2<ebelow l k:=by
          rcases Nat.lt_or_ge ((lo+hi) / 2) (ebelow l k) with h | h
          · exact h
          · have:=ebelow_ge hr h hlm;omega
        simp only[go_sem,seval, -List.reduceReplicate,hc]
        exact⟨⟨by omega,by omega⟩,((lo+hi) / 2+1,hi),by simp only;omega,⟨by simp only;omega,h2,h3⟩,by simp⟩
      · have hg:ebelow l k≤(lo+hi) / 2:=by
          rcases Nat.lt_or_ge ((lo+hi) / 2) (ebelow l k) with h | h
          · exact absurd (ebelow_lt h hlm) hc
          · exact h
        simp only[go_sem,seval, -List.reduceReplicate,hc]
        exact⟨(lo,(lo+hi) / 2),by simp only;omega,⟨h1,hg,by simp only;omega⟩,rfl⟩
    · have he:lo=ebelow l k:=by omega
      subst he
      by_cases hl2:ebelow l k<l.length
      · have ha1:l[ebelow l k]? =some l[ebelow l k]:=by simp[hl2]
        have oi:=ok _ (List.getElem_mem hl2)
        simp only[go_sem,seval, -List.reduceReplicate,hlt,hl2,List.length_map,List.getElem?_map,Option.map_some,ha1,entL_len,entL,hcmp_key oi.1]
        exact⟨by simp[ehas,ha1],Ext.app _ _⟩
      · have ha1:l[ebelow l k]? =none:=List.getElem?_eq_none (by omega)
        simp only[go_sem,seval, -List.reduceReplicate,hlt,hl2,List.length_map,ha1]
        exact⟨by simp[ehas,ha1],Ext.app _ _⟩
theorem leaf_find (t:Bool) (l:List (Bs×Bs)) (k:Bs) (hk:okK k) (ok:∀e∈l,okK e.1∧okV e.2) (hl:l.length≤1000) (hr:rises l):Pure Tryz.prog 89 [.imm t (l.map entL),.agg (keyL k)] (.tup [.agg (valL (fndE l k).1),.bool (fndE l k).2]):=by
  refine Pure.of_ext (tup2_scoped (scoped_agg.2 (sc_val _)) (.bool _)) fun PS=>?_
  refine enter_89 (by unfold Tryz.f89;exact rfl) ?_
  simp only[go_sem,seval, -List.reduceReplicate]
  refine pend_intro ((leaf_place t l k hk ok hl hr).call ?_)
  by_cases hh:ehas l k=true
  · obtain⟨a,h1,h2⟩:=fndE_has hh
    rw[h2]
    simp only[go_sem,seval, -List.reduceReplicate,hh,h1,List.getElem?_map,Option.map_some,List.length_map,entL]
    exact⟨by omega,Ext.app _ _⟩
  · have h2:=fndE_not hr hh
    rw[h2]
    have hh:ehas l k=false:=by simpa using hh
    simp only[go_sem,seval, -List.reduceReplicate,hh]
    exact⟨by simp[ones_iff,HV.one],by omega,rfl,Ext.app _ _⟩
end Go.Proofs.YtajjhaidpagflaaGreat
