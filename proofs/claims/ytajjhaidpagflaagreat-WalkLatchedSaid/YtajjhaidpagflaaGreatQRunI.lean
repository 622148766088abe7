/-
The sum of bytes: what the program computes is a plain function.
No conditions.
-/
import Derived.Test.YtajjhaidpagflaaGreatQRunH
set_option linter.unusedSectionVars false
set_option linter.unusedSimpArgs false
set_option linter.unusedVariables false
namespace Go.Eng
open Go
variable [Toks]
/-- One bit of a sum;so many;the sum of bytes. -/
def crcBit (x:Nat):Nat:=if x % 2=1 then (x / 2) ^^^ 3988292384 else x / 2
def crcBits:Nat→Nat→Nat
  | 0,x=>x
  | n+1,x=>crcBit (crcBits n x)
def crcMore (x:Nat):List UInt8→Nat
  | []=>x
  | c::l=>crcMore (crcBits 8 ((x % 256) ^^^ c.toNat) ^^^ (x / 256)) l
def crcSum (l:List UInt8):Nat:=crcMore 4294967295 l ^^^ 4294967295
theorem crcBit_lt {x:Nat} (h:x<4294967296):crcBit x<4294967296:=by
  unfold crcBit
  split
  · exact Nat.xor_lt_two_pow (n:=32) (by omega) (by omega)
  · omega
theorem crcBits_lt:∀(n:Nat) {x:Nat},x<4294967296→crcBits n x<4294967296
  | 0,_,h=>h
  | n+1,_,h=>crcBit_lt (crcBits_lt n h)
theorem crcMore_lt:∀(l:List UInt8) {x:Nat},x<4294967296→crcMore x l<4294967296
  | [],_,h=>h
  | c::l,x,h=>by
    refine crcMore_lt l (Nat.xor_lt_two_pow (n:=32) (crcBits_lt 8 ?_) (by omega))
    have hc:=c.toNat_lt
    exact Nat.lt_of_lt_of_le (Nat.xor_lt_two_pow (n:=8) (by omega) (by omega)) (by omega)
theorem crcMore_app (x:Nat) (a b:List UInt8):crcMore x (a++b)=crcMore (crcMore x a) b:=by
  induction a generalizing x with
  | nil=>rfl
  | cons c a ih=>simp only[List.cons_append,crcMore,ih]
theorem hbits_and32 (a b:Nat) (ha:a<4294967296) (hb:b<4294967296):hbits .and .u32 a b=((a&&& b:Nat):Int):=by
  have:=Nat.and_le_left (n:=a) (m:=b)
  have e:(BitVec.ofInt 32 (a:Int)&&& BitVec.ofInt 32 (b:Int)).toNat=a&&& b:=by
    rw[BitVec.ofInt_natCast,BitVec.ofInt_natCast,BitVec.toNat_and,BitVec.toNat_ofNat,BitVec.toNat_ofNat,Nat.mod_eq_of_lt (by omega),Nat.mod_eq_of_lt (by omega)]
  show (((BitVec.ofInt 32 (a:Int)&&& BitVec.ofInt 32 (b:Int)).toNat:Nat):Int) % 4294967296=_
  rw[e]
  omega
theorem hbits_xor32 (a b:Nat) (ha:a<4294967296) (hb:b<4294967296):hbits .xor .u32 a b=((a ^^^ b:Nat):Int):=by
  have:=Nat.xor_lt_two_pow (n:=32) (by omega:a<2 ^ 32) (by omega:b<2 ^ 32)
  have e:(BitVec.ofInt 32 (a:Int) ^^^ BitVec.ofInt 32 (b:Int)).toNat=a ^^^ b:=by
    rw[BitVec.ofInt_natCast,BitVec.ofInt_natCast,BitVec.toNat_xor,BitVec.toNat_ofNat,BitVec.toNat_ofNat,Nat.mod_eq_of_lt (by omega),Nat.mod_eq_of_lt (by omega)]
  show (((BitVec.ofInt 32 (a:Int) ^^^ BitVec.ofInt 32 (b:Int)).toNat:Nat):Int) % 4294967296=_
  rw[e]
  omega
theorem hbits_xor8 (a b:Nat) (ha:a<256) (hb:b<256):hbits .xor .u8 a b=((a ^^^ b:Nat):Int):=by
  have:=Nat.xor_lt_two_pow (n:=8) (by omega:a<2 ^ 8) (by omega:b<2 ^ 8)
  have e:(BitVec.ofInt 8 (a:Int) ^^^ BitVec.ofInt 8 (b:Int)).toNat=a ^^^ b:=by
    rw[BitVec.ofInt_natCast,BitVec.ofInt_natCast,BitVec.toNat_xor,BitVec.toNat_ofNat,BitVec.toNat_ofNat,Nat.mod_eq_of_lt (by omega),Nat.mod_eq_of_lt (by omega)]
  show (((BitVec.ofInt 8 (a:Int) ^^^ BitVec.ofInt 8 (b:Int)).toNat:Nat):Int) % 256=_
  rw[e]
  omega
theorem fdiv_two (n:Nat):(n:Int).fdiv (2 ^ min 1 32)=((n / 2:Nat):Int):=by
  rw[show min 1 32=1 from rfl,show (2:Int) ^ 1=2 from rfl,Int.fdiv_eq_ediv_of_nonneg _ (by omega)];simp
theorem fdiv_256 (n:Nat):(n:Int).fdiv (2 ^ min 8 32)=((n / 256:Nat):Int):=by
  rw[show min 8 32=8 from rfl,show (2:Int) ^ 8=256 from rfl,Int.fdiv_eq_ediv_of_nonneg _ (by omega)];simp
/-- The table,so far. -/
def crcTab (i:Nat):List HV:=((List.range i).map fun j=>HV.int .u32 (crcBits 8 j:Nat))++List.replicate (256 - i) (.int .u32 0)
theorem crcTab_len {i:Nat} (h:i≤256):(crcTab i).length=256:=by simp[crcTab];omega
theorem crcTab_set {i:Nat} (h:i<256):hsplice i [HV.int .u32 (crcBits 8 i:Nat)] (crcTab i)=crcTab (i+1):=by
  obtain⟨q,hq⟩:∃q,256 - i=q+1:=⟨256 - i - 1,by omega⟩
  have hq':256 - (i+1)=q:=by omega
  unfold crcTab
  rw[hq,hq',List.replicate_succ,List.range_succ,List.map_append]
  have hl:((List.range i).map fun j=>HV.int .u32 (crcBits 8 j:Nat)).length=i:=by simp
  unfold hsplice
  rw[List.take_append_of_le_length (by omega),List.take_of_length_le (by omega)]
  rw[List.drop_append,List.drop_of_length_le (by simp)]
  simp[hl,List.append_assoc]
theorem crcTab_get {i:Nat} (h:i<256):(crcTab 256)[i]? =some (.int .u32 (crcBits 8 i:Nat)):=by
  unfold crcTab
  rw[List.getElem?_append_left (by simp;omega)]
  simp[h]
theorem crcTab_one (i:Nat):∀y∈crcTab i,HV.one y=true:=by
  intro y hy
  simp only[crcTab,List.mem_append,List.mem_map,List.mem_replicate] at hy
  rcases hy with ⟨j,_,rfl⟩ | ⟨_,rfl⟩<;>rfl
@[go_sem ↓,go_sem] theorem ones_crcTab (i:Nat):ones (crcTab i)=True:=eq_true ((ones_iff _).2 (crcTab_one i))
end Go.Eng
namespace Go.Proofs.YtajjhaidpagflaaGreat
open Go Go.Eng
variable [Toks]
set_option maxRecDepth 20000
attribute [local irreducible] hvc hops hop hplan hdrawP hval1 hopD HLoop
theorem crc_steps:Pure Tryz.prog 259 [] (.agg (crcTab 256)):=by
  refine Pure.of_ext (scoped_agg.2 fun x hx=>?_) fun PS=>?_
  · simp only[crcTab,List.mem_append,List.mem_map,List.mem_replicate] at hx
    rcases hx with ⟨j,_,rfl⟩ | ⟨_,rfl⟩<;>exact .int _ _
  refine enter_259 (by unfold Tryz.f259;exact rfl) ?_
  simp only[go_sem,seval, -List.reduceReplicate]
  refine pend_intro (loop_rule (α:=Nat) [false,false,true,true,true,false,true,true,true,true,true,true,true,true,true,true,true,true,true,true,true,true,true,true,true] (fun i=>[(5,.int .i64 i)]) (fun i=>256 - i) (fun i PS'=>i≤256∧PS'=PS++[.arr 0 256 [List.replicate 256 (.int .u32 0)] false,.arr 0 256 [crcTab i] false]) 0 ⟨by omega,rfl⟩ ?_ ?_)
  · simp only[go_sem,seval, -List.reduceReplicate,Int.natCast_zero]
  · intro i PS' hr
    obtain⟨hi,rfl⟩:=hr
    by_cases hlt:i<256
    · have hlt':(i:Int)<256:=by omega
      simp only[go_sem,seval, -List.reduceReplicate,hlt']
      refine pend_intro (loop_rule (α:=Nat) [false,false,false,false,true,false,false,false,false,false,false,true,true,true,true,true,true,true,true,true,true] (fun k=>[(10,.int .i64 k),(3,.int .u32 (crcBits k i:Nat))]) (fun k=>8 - k) (fun k PS'=>k≤8∧PS'=PS++[.arr 0 256 [List.replicate 256 (.int .u32 0)] false,.arr 0 256 [crcTab i] false]) 0 ⟨by omega,rfl⟩ ?_ ?_)
      · simp only[go_sem,seval, -List.reduceReplicate,Int.natCast_zero]
        have e:IntKind.u32.wrap (i:Int)=(crcBits 0 i:Nat):=by
          show (i:Int) % 4294967296=(i:Int)
          omega
        rw[e]
      · intro k PS' hr
        obtain⟨hk,rfl⟩:=hr
        have hx:=crcBits_lt k (x:=i) (by omega)
        by_cases hkt:k<8
        · have hkt':(k:Int)<8:=by omega
          have e1:hbits .and .u32 (crcBits k i:Nat) 1=((crcBits k i % 2:Nat):Int):=by
            have:=hbits_and32 (crcBits k i) 1 hx (by omega)
            rw[Nat.and_one_is_mod] at this
            exact this
          by_cases hb:crcBits k i % 2=1
          · simp only[go_sem,seval, -List.reduceReplicate,hkt',e1,hb,fdiv_two]
            have e2:=hbits_xor32 (crcBits k i / 2) 3988292384 (by omega) (by omega)
            refine⟨by omega,k+1,by omega,by omega,?_,by simp⟩
            have e3:crcBits (k+1) i=(crcBits k i / 2) ^^^ 3988292384:=by
              show crcBit (crcBits k i)=_
              rw[crcBit,if_pos hb]
            rw[e3]
            exact congrArg (HV.int .u32) e2.symm
          · have hb0:crcBits k i % 2=0:=by omega
            have hb1:¬((crcBits k i % 2:Nat):Int)=1:=by omega
            simp only[go_sem,seval, -List.reduceReplicate,hkt',e1,hb1,fdiv_two]
            refine⟨by omega,k+1,by omega,by omega,?_,by simp⟩
            have e3:crcBits (k+1) i=crcBits k i / 2:=by
              show crcBit (crcBits k i)=_
              rw[crcBit,if_neg hb]
            rw[e3]
        · have hkt':¬(k:Int)<8:=by omega
          have:k=8:=by omega
          subst this
          simp only[go_sem,seval, -List.reduceReplicate,hkt',crcTab_len hi]
          exact⟨by omega,by omega,by omega,i+1,by omega,⟨by omega,by rw[crcTab_set hlt]⟩,by simp⟩
    · have hlt':¬(i:Int)<256:=by omega
      have:i=256:=by omega
      subst this
      simp only[go_sem,seval, -List.reduceReplicate,hlt',crcTab_len (Nat.le_refl 256)]
      have e:List.take 256 (crcTab 256)=crcTab 256:=List.take_of_length_le (by rw[crcTab_len (Nat.le_refl 256)];omega)
      rw[e,crcTab_len (Nat.le_refl 256),ones_crcTab]
      refine⟨trivial,rfl,by simp,by simp,?_,Ext.app _ _⟩
      simp[e,crcTab_len (Nat.le_refl 256)]
theorem bytesRows_get (l:List UInt8) (i:Nat) (h:i<l.length):(bytesRows l)[i]? =some [HV.int .u8 l[i].toNat]:=by simp[bytesRows,h]
theorem crcMore_take (a:Nat) (l:List UInt8) (i:Nat) (h:i<l.length):crcMore a (l.take (i+1))=crcBits 8 ((crcMore a (l.take i) % 256) ^^^ l[i].toNat) ^^^ (crcMore a (l.take i) / 256):=by
  rw[List.take_succ_eq_append_getElem h,crcMore_app];rfl
theorem bytesRows_len' (l:List UInt8):(bytesRows l).length=l.length:=by simp[bytesRows]
theorem not_u32 (n:Nat) (h:n<4294967296):hbits .xor .u32 (IntKind.u32.max) n=((n ^^^ 4294967295:Nat):Int):=by
  rw[show IntKind.u32.max=((4294967295:Nat):Int) from rfl,hbits_xor32 _ _ (by omega) h,Nat.xor_comm]
theorem rows_at {E:List (List HV)} {i0:Nat} {l:List UInt8} (h:(E.drop i0).take l.length=bytesRows l) (i:Nat) (hi:i<l.length):E[i0+i]? =some [HV.int .u8 l[i].toNat]:=by
  have:=congrArg (fun r=>r[i]?) h
  simp only[List.getElem?_take,hi,if_true,List.getElem?_drop] at this
  rw[this,bytesRows_get l i hi]
/-- The sum of what has a sum,with bytes behind it. -/
theorem crc_more_imm (PS:PL) (a:Nat) (l:List UInt8) (ha:a<4294967296) (hl:l.length≤1000000) (t:Bool):
    HCall Tryz.prog 242 [.int .u32 a,.imm t (bytesRows l)] PS fun r PS'=>r=.int .u32 (crcMore (a ^^^ 4294967295) l ^^^ 4294967295:Nat)∧PS'=PS:=by
  refine HCall.data (.int _ _) ?_
  refine enter_242 (by unfold Tryz.f242;exact rfl) ?_
  simp only[go_sem,seval, -List.reduceReplicate]
  refine pend_intro (crc_steps.call ?_)
  skip
  have hm:a ^^^ 4294967295<4294967296:=Nat.xor_lt_two_pow (n:=32) (by omega) (by omega)
  simp only[go_sem,seval, -List.reduceReplicate,crcTab_len (Nat.le_refl 256),bytesRows_len',not_u32 a ha]
  refine⟨by simp,fun hml=>pend_intro (loop_rule (α:=Nat) [false,false,false,false,false,false,false,false,true,false,false,false,false,false,false,true,true,true,true,true,true,true,true,true,true,true,true,true] (fun i=>[(14,.int .i64 i),(6,.int .u32 (crcMore (a ^^^ 4294967295) (l.take i):Nat))]) (fun i=>l.length - i) (fun i PS'=>i≤l.length∧PS'=PS++[.arr 0 256 [crcTab 256] false]) 0 ⟨by omega,?_⟩ ?_ ?_)⟩
  · rw[List.drop_of_length_le (by simp),List.append_nil,List.length_replicate]
  · simp only[go_sem,seval, -List.reduceReplicate,Int.natCast_zero]
    exact congrArg (HV.int .u32) (not_u32 a ha).symm
  · intro i PS' hr
    obtain⟨hi,rfl⟩:=hr
    have hx:=crcMore_lt (l.take i) hm
    by_cases hlt:i<l.length
    · have hc:=l[i].toNat_lt
      generalize hM:crcMore (a ^^^ 4294967295) (l.take i)=M at hx
      have hq:(M % 256) ^^^ l[i].toNat<256:=Nat.xor_lt_two_pow (n:=8) (by omega) (by omega)
      have e1:IntKind.u8.wrap (M:Int)=((M % 256:Nat):Int):=by
        show (M:Int) % 256=_
        omega
      have e2:=hbits_xor8 (M % 256) l[i].toNat (by omega) (by omega)
      have e3:=(drop_take1 (crcTab_get hq)).2
      have hb:=crcBits_lt 8 (x:=(M % 256) ^^^ l[i].toNat) (by omega)
      have e5:=hbits_xor32 (crcBits 8 ((M % 256) ^^^ l[i].toNat)) (M / 256) hb (by omega)
      simp only[go_sem,seval, -List.reduceReplicate,hlt,bytesRows_get l i hlt,bytesRows_len',hM,e1,e2,e3,e5,fdiv_256]
      have e6:=crcTab_len (Nat.le_refl 256)
      exact⟨by omega,by omega,by omega,i+1,by omega,by omega,by rw[crcMore_take _ _ _ hlt,hM],by simp⟩
    · have:i=l.length:=by omega
      subst this
      simp only[go_sem,seval, -List.reduceReplicate,Nat.lt_irrefl,bytesRows_len']
      rw[List.take_of_length_le (Nat.le_refl _)]
      exact⟨congrArg (HV.int .u32) (not_u32 _ (crcMore_lt l hm)),Ext.app _ _⟩
/-- The sum of what has a sum,with bytes behind it. -/
theorem crc_more_sl (PS:PL) (a:Nat) (l:List UInt8) (ha:a<4294967296) (hl:l.length≤1000000) (n ver i0:Nat) (c:Option Nat) (E:List (List HV)) (o:Bool) (hg:getP PS n=.arr ver 1 E o) (hE:(E.drop i0).take l.length=bytesRows l):
    HCall Tryz.prog 242 [.int .u32 a,.sl n ver i0 l.length c] PS fun r PS'=>r=.int .u32 (crcMore (a ^^^ 4294967295) l ^^^ 4294967295:Nat)∧PS'=PS:=by
  refine HCall.data (.int _ _) ?_
  refine enter_242 (by unfold Tryz.f242;exact rfl) ?_
  simp only[go_sem,seval, -List.reduceReplicate]
  refine pend_intro (crc_steps.call ?_)
  have gA:∀L,getP (PS++L) n=.arr ver 1 E o:=fun L=>getP_app L hg
  have hm:a ^^^ 4294967295<4294967296:=Nat.xor_lt_two_pow (n:=32) (by omega) (by omega)
  simp only[go_sem,seval, -List.reduceReplicate,crcTab_len (Nat.le_refl 256),bytesRows_len',not_u32 a ha,gA]
  refine⟨by simp,fun hml=>pend_intro (loop_rule (α:=Nat) [false,false,false,false,false,false,false,false,true,false,false,false,false,false,false,true,true,true,true,true,true,true,true,true,true,true,true,true] (fun i=>[(14,.int .i64 i),(6,.int .u32 (crcMore (a ^^^ 4294967295) (l.take i):Nat))]) (fun i=>l.length - i) (fun i PS'=>i≤l.length∧PS'=PS++[.arr 0 256 [crcTab 256] false]) 0 ⟨by omega,?_⟩ ?_ ?_)⟩
  · rw[List.drop_of_length_le (by simp),List.append_nil,List.length_replicate]
  · simp only[go_sem,seval, -List.reduceReplicate,Int.natCast_zero]
    exact congrArg (HV.int .u32) (not_u32 a ha).symm
  · intro i PS' hr
    obtain⟨hi,rfl⟩:=hr
    have hx:=crcMore_lt (l.take i) hm
    by_cases hlt:i<l.length
    · have hc:=l[i].toNat_lt
      generalize hM:crcMore (a ^^^ 4294967295) (l.take i)=M at hx
      have hq:(M % 256) ^^^ l[i].toNat<256:=Nat.xor_lt_two_pow (n:=8) (by omega) (by omega)
      have e1:IntKind.u8.wrap (M:Int)=((M % 256:Nat):Int):=by
        show (M:Int) % 256=_
        omega
      have e2:=hbits_xor8 (M % 256) l[i].toNat (by omega) (by omega)
      have e3:=(drop_take1 (crcTab_get hq)).2
      have hb:=crcBits_lt 8 (x:=(M % 256) ^^^ l[i].toNat) (by omega)
      have e5:=hbits_xor32 (crcBits 8 ((M % 256) ^^^ l[i].toNat)) (M / 256) hb (by omega)
      simp only[go_sem,seval, -List.reduceReplicate,hlt,rows_at hE i hlt,bytesRows_len',hM,e1,e2,e3,e5,fdiv_256,gA]
      have e6:=crcTab_len (Nat.le_refl 256)
      exact⟨by omega,by omega,by omega,i+1,by omega,by omega,by rw[crcMore_take _ _ _ hlt,hM],by simp⟩
    · have:i=l.length:=by omega
      subst this
      simp only[go_sem,seval, -List.reduceReplicate,Nat.lt_irrefl,bytesRows_len',gA]
      rw[List.take_of_length_le (Nat.le_refl _)]
      exact⟨congrArg (HV.int .u32) (not_u32 _ (crcMore_lt l hm)),Ext.app _ _⟩
theorem crc_sum_imm (PS:PL) (l:List UInt8) (hl:l.length≤1000000) (t:Bool):HCall Tryz.prog 203 [.imm t (bytesRows l)] PS fun r PS'=>r=.int .u32 (crcSum l:Nat)∧PS'=PS:=by
  refine enter_203 (by unfold Tryz.f203;exact rfl) ?_
  simp only[go_sem,seval, -List.reduceReplicate]
  refine pend_intro ((crc_more_imm PS 0 l (by omega) hl t).mono ?_)
  rintro _ _ ⟨rfl,rfl⟩
  simp only[go_sem,seval, -List.reduceReplicate]
  rfl
theorem crc_sum_sl (PS:PL) (l:List UInt8) (hl:l.length≤1000000) (n ver i0:Nat) (c:Option Nat) (E:List (List HV)) (o:Bool) (hg:getP PS n=.arr ver 1 E o) (hE:(E.drop i0).take l.length=bytesRows l):HCall Tryz.prog 203 [.sl n ver i0 l.length c] PS fun r PS'=>r=.int .u32 (crcSum l:Nat)∧PS'=PS:=by
  refine enter_203 (by unfold Tryz.f203;exact rfl) ?_
  simp only[go_sem,seval, -List.reduceReplicate]
  refine pend_intro ((crc_more_sl PS 0 l (by omega) hl n ver i0 c E o hg hE).mono ?_)
  rintro _ _ ⟨rfl,rfl⟩
  simp only[go_sem,seval, -List.reduceReplicate]
  rfl
end Go.Proofs.YtajjhaidpagflaaGreat
