/-
Hm3
No conditions.
-/
import Derived.Test.YtajjhaidpagflaaGreatQHm2
import Derived.Test.YtajjhaidpagflaaGreatQHm1
import Derived.Test.YtajjhaidpagflaaGreatQRunI
set_option linter.unusedSectionVars false
set_option linter.unusedSimpArgs false
set_option linter.unusedVariables false
namespace Go.Proofs.YtajjhaidpagflaaGreat
open Go Go.Eng Go.Mo
set_option maxRecDepth 20000
attribute [local irreducible] hvc hops hop hplan hdrawP hval1 hopD HLoop
theorem gen_key (v:Int):∃k,okK k∧(∀j:Nat,j<5→v=8*j→k=[UInt8.ofNat (97+j)])∧∀[Toks],Pure Tryz.prog 5 [.int .i64 v] (.agg (keyL k)):=by
  obtain⟨n,hn⟩:∃n:Nat,v % 1099511627776=n:=⟨(v % 1099511627776).toNat,by omega⟩
  have hb:n<1099511627776:=by omega
  have zj:∀j:Nat,j<5→v=8*j→n=8*j:=fun j hj h=>by omega
  have h8:n % 8=0∨n % 8=1∨n % 8=2∨n % 8=3∨n % 8=4∨n % 8=5∨n % 8=6∨n % 8=7:=by omega
  have ht:(n:Int).tmod 8=((n % 8:Nat):Int):=by rw[Int.tmod_eq_emod_of_nonneg (by omega)];omega
  rcases h8 with h | h | h | h | h | h | h | h
  · refine⟨([UInt8.ofNat (97+n / 8 % 6)]:Bs),by simp[okK],fun j hj hv=>by rw[zj j hj hv,show 8*j / 8 % 6=j by omega],?_⟩
    intro _
    refine Pure.of_ext (by rw[scoped_agg];exact sc_key _) fun PS=>?_
    have hp:=place_ v 1099511627776 (by omega) (by omega)
    rw[hn] at hp
    refine enter_5 (by unfold Tryz.f5;exact rfl) ?_
    simp only[go_sem,seval, -List.reduceReplicate]
    refine pend_intro (hp.call ?_)
    rw[h] at ht
    have d8:(n:Int).tdiv 8=((n / 8:Nat):Int):=rfl
    have d24:(n:Int).tdiv 24=((n / 24:Nat):Int):=rfl
    have d32:(n:Int).tdiv 32=((n / 32:Nat):Int):=rfl
    have d40:(n:Int).tdiv 40=((n / 40:Nat):Int):=rfl
    have d2048:(n:Int).tdiv 2048=((n / 2048:Nat):Int):=rfl
    have d8192:(n:Int).tdiv 8192=((n / 8192:Nat):Int):=rfl
    have d32768:(n:Int).tdiv 32768=((n / 32768:Nat):Int):=rfl
    have d524288:(n:Int).tdiv 524288=((n / 524288:Nat):Int):=rfl
    have m3:∀x:Nat,(x:Int).tmod 3=((x % 3:Nat):Int):=fun _=>rfl
    have m4:∀x:Nat,(x:Int).tmod 4=((x % 4:Nat):Int):=fun _=>rfl
    have m5:∀x:Nat,(x:Int).tmod 5=((x % 5:Nat):Int):=fun _=>rfl
    have m6:∀x:Nat,(x:Int).tmod 6=((x % 6:Nat):Int):=fun _=>rfl
    have m9:∀x:Nat,(x:Int).tmod 9=((x % 9:Nat):Int):=fun _=>rfl
    have m256:∀x:Nat,(x:Int).tmod 256=((x % 256:Nat):Int):=fun _=>rfl
    have a97:∀x:Nat,97+(x:Int)=((97+x:Nat):Int):=fun _=>by omega
    have a98:∀x:Nat,98+(x:Int)=((98+x:Nat):Int):=fun _=>by omega
    have a48:∀x:Nat,48+(x:Int)=((48+x:Nat):Int):=fun _=>by omega
    have hw:∀x:Nat,IntKind.u8.wrap (x:Int)=(UInt8.ofNat x).toNat:=fun x=>by
      have:=u8_of_nat x
      exact this.symm
    have hrow:[[HV.int .u8 (UInt8.ofNat (97+n / 8 % 6)).toNat]]=bytesRows ([UInt8.ofNat (97+n / 8 % 6)]:Bs):=rfl
    simp only[go_sem,seval, -List.reduceReplicate,ht,d8,d24,d32,d40,d2048,d8192,d32768,d524288,m3,m4,m5,m6,m9,m256,a97,a98,a48,hw,hrow]
    repeat (refine⟨by omega,?_⟩)
    refine pend_intro ((rkey_of ([UInt8.ofNat (97+n / 8 % 6)]:Bs) (by simp)).call ?_)
    simp only[go_sem,seval, -List.reduceReplicate]
    exact⟨by omega,by omega,Ext.app _ _⟩
  · refine⟨([UInt8.ofNat (97+n / 8 % 6)]:Bs),by simp[okK],fun j hj hv=>by have:=zj j hj hv;omega,?_⟩
    intro _
    refine Pure.of_ext (by rw[scoped_agg];exact sc_key _) fun PS=>?_
    have hp:=place_ v 1099511627776 (by omega) (by omega)
    rw[hn] at hp
    refine enter_5 (by unfold Tryz.f5;exact rfl) ?_
    simp only[go_sem,seval, -List.reduceReplicate]
    refine pend_intro (hp.call ?_)
    rw[h] at ht
    have d8:(n:Int).tdiv 8=((n / 8:Nat):Int):=rfl
    have d24:(n:Int).tdiv 24=((n / 24:Nat):Int):=rfl
    have d32:(n:Int).tdiv 32=((n / 32:Nat):Int):=rfl
    have d40:(n:Int).tdiv 40=((n / 40:Nat):Int):=rfl
    have d2048:(n:Int).tdiv 2048=((n / 2048:Nat):Int):=rfl
    have d8192:(n:Int).tdiv 8192=((n / 8192:Nat):Int):=rfl
    have d32768:(n:Int).tdiv 32768=((n / 32768:Nat):Int):=rfl
    have d524288:(n:Int).tdiv 524288=((n / 524288:Nat):Int):=rfl
    have m3:∀x:Nat,(x:Int).tmod 3=((x % 3:Nat):Int):=fun _=>rfl
    have m4:∀x:Nat,(x:Int).tmod 4=((x % 4:Nat):Int):=fun _=>rfl
    have m5:∀x:Nat,(x:Int).tmod 5=((x % 5:Nat):Int):=fun _=>rfl
    have m6:∀x:Nat,(x:Int).tmod 6=((x % 6:Nat):Int):=fun _=>rfl
    have m9:∀x:Nat,(x:Int).tmod 9=((x % 9:Nat):Int):=fun _=>rfl
    have m256:∀x:Nat,(x:Int).tmod 256=((x % 256:Nat):Int):=fun _=>rfl
    have a97:∀x:Nat,97+(x:Int)=((97+x:Nat):Int):=fun _=>by omega
    have a98:∀x:Nat,98+(x:Int)=((98+x:Nat):Int):=fun _=>by omega
    have a48:∀x:Nat,48+(x:Int)=((48+x:Nat):Int):=fun _=>by omega
    have hw:∀x:Nat,IntKind.u8.wrap (x:Int)=(UInt8.ofNat x).toNat:=fun x=>by
      have:=u8_of_nat x
      exact this.symm
    have hrow:[[HV.int .u8 (UInt8.ofNat (97+n / 8 % 6)).toNat]]=bytesRows ([UInt8.ofNat (97+n / 8 % 6)]:Bs):=rfl
    simp only[go_sem,seval, -List.reduceReplicate,ht,d8,d24,d32,d40,d2048,d8192,d32768,d524288,m3,m4,m5,m6,m9,m256,a97,a98,a48,hw,hrow]
    repeat (refine⟨by omega,?_⟩)
    refine pend_intro ((rkey_of ([UInt8.ofNat (97+n / 8 % 6)]:Bs) (by simp)).call ?_)
    simp only[go_sem,seval, -List.reduceReplicate]
    exact⟨by omega,by omega,Ext.app _ _⟩
  · refine⟨([UInt8.ofNat (97+n / 8 % 6)]:Bs),by simp[okK],fun j hj hv=>by have:=zj j hj hv;omega,?_⟩
    intro _
    refine Pure.of_ext (by rw[scoped_agg];exact sc_key _) fun PS=>?_
    have hp:=place_ v 1099511627776 (by omega) (by omega)
    rw[hn] at hp
    refine enter_5 (by unfold Tryz.f5;exact rfl) ?_
    simp only[go_sem,seval, -List.reduceReplicate]
    refine pend_intro (hp.call ?_)
    rw[h] at ht
    have d8:(n:Int).tdiv 8=((n / 8:Nat):Int):=rfl
    have d24:(n:Int).tdiv 24=((n / 24:Nat):Int):=rfl
    have d32:(n:Int).tdiv 32=((n / 32:Nat):Int):=rfl
    have d40:(n:Int).tdiv 40=((n / 40:Nat):Int):=rfl
    have d2048:(n:Int).tdiv 2048=((n / 2048:Nat):Int):=rfl
    have d8192:(n:Int).tdiv 8192=((n / 8192:Nat):Int):=rfl
    have d32768:(n:Int).tdiv 32768=((n / 32768:Nat):Int):=rfl
    have d524288:(n:Int).tdiv 524288=((n / 524288:Nat):Int):=rfl
    have m3:∀x:Nat,(x:Int).tmod 3=((x % 3:Nat):Int):=fun _=>rfl
    have m4:∀x:Nat,(x:Int).tmod 4=((x % 4:Nat):Int):=fun _=>rfl
    have m5:∀x:Nat,(x:Int).tmod 5=((x % 5:Nat):Int):=fun _=>rfl
    have m6:∀x:Nat,(x:Int).tmod 6=((x % 6:Nat):Int):=fun _=>rfl
    have m9:∀x:Nat,(x:Int).tmod 9=((x % 9:Nat):Int):=fun _=>rfl
    have m256:∀x:Nat,(x:Int).tmod 256=((x % 256:Nat):Int):=fun _=>rfl
    have a97:∀x:Nat,97+(x:Int)=((97+x:Nat):Int):=fun _=>by omega
    have a98:∀x:Nat,98+(x:Int)=((98+x:Nat):Int):=fun _=>by omega
    have a48:∀x:Nat,48+(x:Int)=((48+x:Nat):Int):=fun _=>by omega
    have hw:∀x:Nat,IntKind.u8.wrap (x:Int)=(UInt8.ofNat x).toNat:=fun x=>by
      have:=u8_of_nat x
      exact this.symm
    have hrow:[[HV.int .u8 (UInt8.ofNat (97+n / 8 % 6)).toNat]]=bytesRows ([UInt8.ofNat (97+n / 8 % 6)]:Bs):=rfl
    simp only[go_sem,seval, -List.reduceReplicate,ht,d8,d24,d32,d40,d2048,d8192,d32768,d524288,m3,m4,m5,m6,m9,m256,a97,a98,a48,hw,hrow]
    repeat (refine⟨by omega,?_⟩)
    refine pend_intro ((rkey_of ([UInt8.ofNat (97+n / 8 % 6)]:Bs) (by simp)).call ?_)
    simp only[go_sem,seval, -List.reduceReplicate]
    exact⟨by omega,by omega,Ext.app _ _⟩
  · refine⟨([UInt8.ofNat (97+n / 8 % 5),UInt8.ofNat (97+n / 40 % 4)]:Bs),by simp[okK],fun j hj hv=>by have:=zj j hj hv;omega,?_⟩
    intro _
    refine Pure.of_ext (by rw[scoped_agg];exact sc_key _) fun PS=>?_
    have hp:=place_ v 1099511627776 (by omega) (by omega)
    rw[hn] at hp
    refine enter_5 (by unfold Tryz.f5;exact rfl) ?_
    simp only[go_sem,seval, -List.reduceReplicate]
    refine pend_intro (hp.call ?_)
    rw[h] at ht
    have d8:(n:Int).tdiv 8=((n / 8:Nat):Int):=rfl
    have d24:(n:Int).tdiv 24=((n / 24:Nat):Int):=rfl
    have d32:(n:Int).tdiv 32=((n / 32:Nat):Int):=rfl
    have d40:(n:Int).tdiv 40=((n / 40:Nat):Int):=rfl
    have d2048:(n:Int).tdiv 2048=((n / 2048:Nat):Int):=rfl
    have d8192:(n:Int).tdiv 8192=((n / 8192:Nat):Int):=rfl
    have d32768:(n:Int).tdiv 32768=((n / 32768:Nat):Int):=rfl
    have d524288:(n:Int).tdiv 524288=((n / 524288:Nat):Int):=rfl
    have m3:∀x:Nat,(x:Int).tmod 3=((x % 3:Nat):Int):=fun _=>rfl
    have m4:∀x:Nat,(x:Int).tmod 4=((x % 4:Nat):Int):=fun _=>rfl
    have m5:∀x:Nat,(x:Int).tmod 5=((x % 5:Nat):Int):=fun _=>rfl
    have m6:∀x:Nat,(x:Int).tmod 6=((x % 6:Nat):Int):=fun _=>rfl
    have m9:∀x:Nat,(x:Int).tmod 9=((x % 9:Nat):Int):=fun _=>rfl
    have m256:∀x:Nat,(x:Int).tmod 256=((x % 256:Nat):Int):=fun _=>rfl
    have a97:∀x:Nat,97+(x:Int)=((97+x:Nat):Int):=fun _=>by omega
    have a98:∀x:Nat,98+(x:Int)=((98+x:Nat):Int):=fun _=>by omega
    have a48:∀x:Nat,48+(x:Int)=((48+x:Nat):Int):=fun _=>by omega
    have hw:∀x:Nat,IntKind.u8.wrap (x:Int)=(UInt8.ofNat x).toNat:=fun x=>by
      have:=u8_of_nat x
      exact this.symm
    have hrow:[[HV.int .u8 (UInt8.ofNat (97+n / 8 % 5)).toNat],[HV.int .u8 (UInt8.ofNat (97+n / 40 % 4)).toNat]]=bytesRows ([UInt8.ofNat (97+n / 8 % 5),UInt8.ofNat (97+n / 40 % 4)]:Bs):=rfl
    simp only[go_sem,seval, -List.reduceReplicate,ht,d8,d24,d32,d40,d2048,d8192,d32768,d524288,m3,m4,m5,m6,m9,m256,a97,a98,a48,hw,hrow]
    repeat (refine⟨by omega,?_⟩)
    refine pend_intro ((rkey_of ([UInt8.ofNat (97+n / 8 % 5),UInt8.ofNat (97+n / 40 % 4)]:Bs) (by simp)).call ?_)
    simp only[go_sem,seval, -List.reduceReplicate]
    exact⟨by omega,by omega,Ext.app _ _⟩
  · refine⟨([UInt8.ofNat (97+n / 8 % 5),UInt8.ofNat (97+n / 40 % 4)]:Bs),by simp[okK],fun j hj hv=>by have:=zj j hj hv;omega,?_⟩
    intro _
    refine Pure.of_ext (by rw[scoped_agg];exact sc_key _) fun PS=>?_
    have hp:=place_ v 1099511627776 (by omega) (by omega)
    rw[hn] at hp
    refine enter_5 (by unfold Tryz.f5;exact rfl) ?_
    simp only[go_sem,seval, -List.reduceReplicate]
    refine pend_intro (hp.call ?_)
    rw[h] at ht
    have d8:(n:Int).tdiv 8=((n / 8:Nat):Int):=rfl
    have d24:(n:Int).tdiv 24=((n / 24:Nat):Int):=rfl
    have d32:(n:Int).tdiv 32=((n / 32:Nat):Int):=rfl
    have d40:(n:Int).tdiv 40=((n / 40:Nat):Int):=rfl
    have d2048:(n:Int).tdiv 2048=((n / 2048:Nat):Int):=rfl
    have d8192:(n:Int).tdiv 8192=((n / 8192:Nat):Int):=rfl
    have d32768:(n:Int).tdiv 32768=((n / 32768:Nat):Int):=rfl
    have d524288:(n:Int).tdiv 524288=((n / 524288:Nat):Int):=rfl
    have m3:∀x:Nat,(x:Int).tmod 3=((x % 3:Nat):Int):=fun _=>rfl
    have m4:∀x:Nat,(x:Int).tmod 4=((x % 4:Nat):Int):=fun _=>rfl
    have m5:∀x:Nat,(x:Int).tmod 5=((x % 5:Nat):Int):=fun _=>rfl
    have m6:∀x:Nat,(x:Int).tmod 6=((x % 6:Nat):Int):=fun _=>rfl
    have m9:∀x:Nat,(x:Int).tmod 9=((x % 9:Nat):Int):=fun _=>rfl
    have m256:∀x:Nat,(x:Int).tmod 256=((x % 256:Nat):Int):=fun _=>rfl
    have a97:∀x:Nat,97+(x:Int)=((97+x:Nat):Int):=fun _=>by omega
    have a98:∀x:Nat,98+(x:Int)=((98+x:Nat):Int):=fun _=>by omega
    have a48:∀x:Nat,48+(x:Int)=((48+x:Nat):Int):=fun _=>by omega
    have hw:∀x:Nat,IntKind.u8.wrap (x:Int)=(UInt8.ofNat x).toNat:=fun x=>by
      have:=u8_of_nat x
      exact this.symm
    have hrow:[[HV.int .u8 (UInt8.ofNat (97+n / 8 % 5)).toNat],[HV.int .u8 (UInt8.ofNat (97+n / 40 % 4)).toNat]]=bytesRows ([UInt8.ofNat (97+n / 8 % 5),UInt8.ofNat (97+n / 40 % 4)]:Bs):=rfl
    simp only[go_sem,seval, -List.reduceReplicate,ht,d8,d24,d32,d40,d2048,d8192,d32768,d524288,m3,m4,m5,m6,m9,m256,a97,a98,a48,hw,hrow]
    repeat (refine⟨by omega,?_⟩)
    refine pend_intro ((rkey_of ([UInt8.ofNat (97+n / 8 % 5),UInt8.ofNat (97+n / 40 % 4)]:Bs) (by simp)).call ?_)
    simp only[go_sem,seval, -List.reduceReplicate]
    exact⟨by omega,by omega,Ext.app _ _⟩
  · refine⟨([UInt8.ofNat (97+n / 8 % 4),0,UInt8.ofNat (n / 32 % 256),UInt8.ofNat (n / 8192 % 4),255,120,121,UInt8.ofNat (97+n / 32768 % 3)]:Bs),by simp[okK],fun j hj hv=>by have:=zj j hj hv;omega,?_⟩
    intro _
    refine Pure.of_ext (by rw[scoped_agg];exact sc_key _) fun PS=>?_
    have hp:=place_ v 1099511627776 (by omega) (by omega)
    rw[hn] at hp
    refine enter_5 (by unfold Tryz.f5;exact rfl) ?_
    simp only[go_sem,seval, -List.reduceReplicate]
    refine pend_intro (hp.call ?_)
    rw[h] at ht
    have d8:(n:Int).tdiv 8=((n / 8:Nat):Int):=rfl
    have d24:(n:Int).tdiv 24=((n / 24:Nat):Int):=rfl
    have d32:(n:Int).tdiv 32=((n / 32:Nat):Int):=rfl
    have d40:(n:Int).tdiv 40=((n / 40:Nat):Int):=rfl
    have d2048:(n:Int).tdiv 2048=((n / 2048:Nat):Int):=rfl
    have d8192:(n:Int).tdiv 8192=((n / 8192:Nat):Int):=rfl
    have d32768:(n:Int).tdiv 32768=((n / 32768:Nat):Int):=rfl
    have d524288:(n:Int).tdiv 524288=((n / 524288:Nat):Int):=rfl
    have m3:∀x:Nat,(x:Int).tmod 3=((x % 3:Nat):Int):=fun _=>rfl
    have m4:∀x:Nat,(x:Int).tmod 4=((x % 4:Nat):Int):=fun _=>rfl
    have m5:∀x:Nat,(x:Int).tmod 5=((x % 5:Nat):Int):=fun _=>rfl
    have m6:∀x:Nat,(x:Int).tmod 6=((x % 6:Nat):Int):=fun _=>rfl
    have m9:∀x:Nat,(x:Int).tmod 9=((x % 9:Nat):Int):=fun _=>rfl
    have m256:∀x:Nat,(x:Int).tmod 256=((x % 256:Nat):Int):=fun _=>rfl
    have a97:∀x:Nat,97+(x:Int)=((97+x:Nat):Int):=fun _=>by omega
    have a98:∀x:Nat,98+(x:Int)=((98+x:Nat):Int):=fun _=>by omega
    have a48:∀x:Nat,48+(x:Int)=((48+x:Nat):Int):=fun _=>by omega
    have hw:∀x:Nat,IntKind.u8.wrap (x:Int)=(UInt8.ofNat x).toNat:=fun x=>by
      have:=u8_of_nat x
      exact this.symm
    have hrow:[[HV.int .u8 (UInt8.ofNat (97+n / 8 % 4)).toNat],[HV.int .u8 0],[HV.int .u8 (UInt8.ofNat (n / 32 % 256)).toNat],[HV.int .u8 (UInt8.ofNat (n / 8192 % 4)).toNat],[HV.int .u8 255],[HV.int .u8 120],[HV.int .u8 121],[HV.int .u8 (UInt8.ofNat (97+n / 32768 % 3)).toNat]]=bytesRows ([UInt8.ofNat (97+n / 8 % 4),0,UInt8.ofNat (n / 32 % 256),UInt8.ofNat (n / 8192 % 4),255,120,121,UInt8.ofNat (97+n / 32768 % 3)]:Bs):=rfl
    simp only[go_sem,seval, -List.reduceReplicate,ht,d8,d24,d32,d40,d2048,d8192,d32768,d524288,m3,m4,m5,m6,m9,m256,a97,a98,a48,hw,hrow]
    repeat (refine⟨by omega,?_⟩)
    refine pend_intro ((rkey_of ([UInt8.ofNat (97+n / 8 % 4),0,UInt8.ofNat (n / 32 % 256),UInt8.ofNat (n / 8192 % 4),255,120,121,UInt8.ofNat (97+n / 32768 % 3)]:Bs) (by simp)).call ?_)
    simp only[go_sem,seval, -List.reduceReplicate]
    exact⟨by omega,by omega,Ext.app _ _⟩
  · refine⟨([UInt8.ofNat (98+n / 8 % 3),108,111,110,103,101,114,UInt8.ofNat (48+n / 24 % 9)]:Bs),by simp[okK],fun j hj hv=>by have:=zj j hj hv;omega,?_⟩
    intro _
    refine Pure.of_ext (by rw[scoped_agg];exact sc_key _) fun PS=>?_
    have hp:=place_ v 1099511627776 (by omega) (by omega)
    rw[hn] at hp
    refine enter_5 (by unfold Tryz.f5;exact rfl) ?_
    simp only[go_sem,seval, -List.reduceReplicate]
    refine pend_intro (hp.call ?_)
    rw[h] at ht
    have d8:(n:Int).tdiv 8=((n / 8:Nat):Int):=rfl
    have d24:(n:Int).tdiv 24=((n / 24:Nat):Int):=rfl
    have d32:(n:Int).tdiv 32=((n / 32:Nat):Int):=rfl
    have d40:(n:Int).tdiv 40=((n / 40:Nat):Int):=rfl
    have d2048:(n:Int).tdiv 2048=((n / 2048:Nat):Int):=rfl
    have d8192:(n:Int).tdiv 8192=((n / 8192:Nat):Int):=rfl
    have d32768:(n:Int).tdiv 32768=((n / 32768:Nat):Int):=rfl
    have d524288:(n:Int).tdiv 524288=((n / 524288:Nat):Int):=rfl
    have m3:∀x:Nat,(x:Int).tmod 3=((x % 3:Nat):Int):=fun _=>rfl
    have m4:∀x:Nat,(x:Int).tmod 4=((x % 4:Nat):Int):=fun _=>rfl
    have m5:∀x:Nat,(x:Int).tmod 5=((x % 5:Nat):Int):=fun _=>rfl
    have m6:∀x:Nat,(x:Int).tmod 6=((x % 6:Nat):Int):=fun _=>rfl
    have m9:∀x:Nat,(x:Int).tmod 9=((x % 9:Nat):Int):=fun _=>rfl
    have m256:∀x:Nat,(x:Int).tmod 256=((x % 256:Nat):Int):=fun _=>rfl
    have a97:∀x:Nat,97+(x:Int)=((97+x:Nat):Int):=fun _=>by omega
    have a98:∀x:Nat,98+(x:Int)=((98+x:Nat):Int):=fun _=>by omega
    have a48:∀x:Nat,48+(x:Int)=((48+x:Nat):Int):=fun _=>by omega
    have hw:∀x:Nat,IntKind.u8.wrap (x:Int)=(UInt8.ofNat x).toNat:=fun x=>by
      have:=u8_of_nat x
      exact this.symm
    have hrow:[[HV.int .u8 (UInt8.ofNat (98+n / 8 % 3)).toNat],[HV.int .u8 108],[HV.int .u8 111],[HV.int .u8 110],[HV.int .u8 103],[HV.int .u8 101],[HV.int .u8 114],[HV.int .u8 (UInt8.ofNat (48+n / 24 % 9)).toNat]]=bytesRows ([UInt8.ofNat (98+n / 8 % 3),108,111,110,103,101,114,UInt8.ofNat (48+n / 24 % 9)]:Bs):=rfl
    simp only[go_sem,seval, -List.reduceReplicate,ht,d8,d24,d32,d40,d2048,d8192,d32768,d524288,m3,m4,m5,m6,m9,m256,a97,a98,a48,hw,hrow]
    repeat (refine⟨by omega,?_⟩)
    refine pend_intro ((rkey_of ([UInt8.ofNat (98+n / 8 % 3),108,111,110,103,101,114,UInt8.ofNat (48+n / 24 % 9)]:Bs) (by simp)).call ?_)
    simp only[go_sem,seval, -List.reduceReplicate]
    exact⟨by omega,by omega,Ext.app _ _⟩
  · refine⟨List.take (n / 524288 % 3) ([UInt8.ofNat (n / 8 % 256),UInt8.ofNat (n / 2048 % 256)]:Bs),by simp[okK];omega,fun j hj hv=>by have:=zj j hj hv;omega,?_⟩
    intro _
    refine Pure.of_ext (by rw[scoped_agg];exact sc_key _) fun PS=>?_
    have hp:=place_ v 1099511627776 (by omega) (by omega)
    rw[hn] at hp
    refine enter_5 (by unfold Tryz.f5;exact rfl) ?_
    simp only[go_sem,seval, -List.reduceReplicate]
    refine pend_intro (hp.call ?_)
    rw[h] at ht
    have d8:(n:Int).tdiv 8=((n / 8:Nat):Int):=rfl
    have d24:(n:Int).tdiv 24=((n / 24:Nat):Int):=rfl
    have d32:(n:Int).tdiv 32=((n / 32:Nat):Int):=rfl
    have d40:(n:Int).tdiv 40=((n / 40:Nat):Int):=rfl
    have d2048:(n:Int).tdiv 2048=((n / 2048:Nat):Int):=rfl
    have d8192:(n:Int).tdiv 8192=((n / 8192:Nat):Int):=rfl
    have d32768:(n:Int).tdiv 32768=((n / 32768:Nat):Int):=rfl
    have d524288:(n:Int).tdiv 524288=((n / 524288:Nat):Int):=rfl
    have m3:∀x:Nat,(x:Int).tmod 3=((x % 3:Nat):Int):=fun _=>rfl
    have m4:∀x:Nat,(x:Int).tmod 4=((x % 4:Nat):Int):=fun _=>rfl
    have m5:∀x:Nat,(x:Int).tmod 5=((x % 5:Nat):Int):=fun _=>rfl
    have m6:∀x:Nat,(x:Int).tmod 6=((x % 6:Nat):Int):=fun _=>rfl
    have m9:∀x:Nat,(x:Int).tmod 9=((x % 9:Nat):Int):=fun _=>rfl
    have m256:∀x:Nat,(x:Int).tmod 256=((x % 256:Nat):Int):=fun _=>rfl
    have a97:∀x:Nat,97+(x:Int)=((97+x:Nat):Int):=fun _=>by omega
    have a98:∀x:Nat,98+(x:Int)=((98+x:Nat):Int):=fun _=>by omega
    have a48:∀x:Nat,48+(x:Int)=((48+x:Nat):Int):=fun _=>by omega
    have hw:∀x:Nat,IntKind.u8.wrap (x:Int)=(UInt8.ofNat x).toNat:=fun x=>by
      have:=u8_of_nat x
      exact this.symm
    have hrow:[[HV.int .u8 (UInt8.ofNat (n / 8 % 256)).toNat],[HV.int .u8 (UInt8.ofNat (n / 2048 % 256)).toNat]]=bytesRows ([UInt8.ofNat (n / 8 % 256),UInt8.ofNat (n / 2048 % 256)]:Bs):=rfl
    simp only[go_sem,seval, -List.reduceReplicate,ht,d8,d24,d32,d40,d2048,d8192,d32768,d524288,m3,m4,m5,m6,m9,m256,a97,a98,a48,hw,hrow]
    repeat (refine⟨by omega,?_⟩)
    refine pend_intro ((rkey_of (List.take (n / 524288 % 3) ([UInt8.ofNat (n / 8 % 256),UInt8.ofNat (n / 2048 % 256)]:Bs)) (by simp;omega)).call ?_)
    simp only[go_sem,seval, -List.reduceReplicate]
    exact⟨by omega,by omega,Ext.app _ _⟩
end Go.Proofs.YtajjhaidpagflaaGreat
namespace Go.Mo
open Go Go.Eng
def vb (k i:Nat):UInt8:=UInt8.ofNat (k / 17+i*(k / 4352))
def vbs (k i m:Nat):Bs:=(List.range i).map (vb k)++List.replicate (m - i) 0
theorem vbs_len (k i m:Nat) (h:i≤m):(vbs k i m).length=m:=by simp[vbs];omega
theorem vbs_step (k i m:Nat) (h:i<m):(vbs k i m).set i (vb k i)=vbs k (i+1) m:=by
  have e:m - i=(m - (i+1))+1:=by omega
  rw[vbs,vbs,e,List.replicate_succ,List.range_succ,List.map_append]
  rw[List.set_append_right _ _ (by simp)]
  simp
end Go.Mo
namespace Go.Proofs.YtajjhaidpagflaaGreat
open Go Go.Eng Go.Mo
set_option maxRecDepth 20000
attribute [local irreducible] hvc hops hop hplan hdrawP hval1 hopD HLoop
theorem gen_value (v:Int):∃k,okV k∧∀[Toks],Pure Tryz.prog 119 [.int .i64 v] (.agg (valL k)):=by
  obtain⟨n,hn⟩:∃n:Nat,v % 1099511627776=n:=⟨(v % 1099511627776).toNat,by omega⟩
  have hb:n<1099511627776:=by omega
  have hl:=vbs_len n (n % 17) (n % 17) (Nat.le_refl _)
  refine⟨vbs n (n % 17) (n % 17),by rw[okV,hl];omega,?_⟩
  intro _
  refine Pure.of_ext (by rw[scoped_agg];exact sc_val _) fun PS=>?_
  have hp:=place_ v 1099511627776 (by omega) (by omega)
  rw[hn] at hp
  refine enter_119 (by unfold Tryz.f119;exact rfl) ?_
  simp only[go_sem,seval, -List.reduceReplicate]
  refine pend_intro (hp.call ?_)
  have ht:(n:Int).tmod 17=((n % 17:Nat):Int):=rfl
  have d17:(n:Int).tdiv 17=((n / 17:Nat):Int):=rfl
  have d4352:(n:Int).tdiv 4352=((n / 4352:Nat):Int):=rfl
  simp only[go_sem,seval, -List.reduceReplicate,ht,d17,d4352,List.length_replicate]
  have h0:List.replicate (n % 17) [HV.int .u8 0]=bytesRows (vbs n 0 (n % 17)):=by simp[vbs,bytesRows]
  have hx0:=Ext.app PS [Piece.arr 0 17 [HV.int .i64 0::List.replicate 16 (HV.int .u8 0)] false,Piece.arr 0 1 (List.replicate (n % 17) [HV.int .u8 0]) false]
  have hr0:getP (PS++[Piece.arr 0 17 [HV.int .i64 0::List.replicate 16 (HV.int .u8 0)] false,Piece.arr 0 1 (List.replicate (n % 17) [HV.int .u8 0]) false]) PS.length=Piece.arr 0 17 [HV.int .i64 0::List.replicate 16 (HV.int .u8 0)] false:=by simp[getP]
  have hg0:getP (PS++[Piece.arr 0 17 [HV.int .i64 0::List.replicate 16 (HV.int .u8 0)] false,Piece.arr 0 1 (List.replicate (n % 17) [HV.int .u8 0]) false]) (PS.length+1)=Piece.arr 0 1 (bytesRows (vbs n 0 (n % 17))) false:=by rw[←h0];simp[getP,List.getElem?_append_right]
  refine⟨by omega,by omega,pend_intro (loop_rule (α:=Nat) [false,false,false,false,false,false,false,false,false,false,false,false,false,false,false,true,true,true,true,true,true,true,true,true,true,true,true,true,true,true,true] (fun i=>[(6,.int .i64 i)]) (fun i=>n % 17 - i) (fun i PS'=>i≤n % 17∧Ext [] PS PS'∧getP PS' PS.length=Piece.arr 0 17 [HV.int .i64 0::List.replicate 16 (HV.int .u8 0)] false∧getP PS' (PS.length+1)=.arr 0 1 (bytesRows (vbs n i (n % 17))) false) 0 ⟨Nat.zero_le _,hx0,hr0,hg0⟩ ?_ ?_)⟩
  · simp only[go_sem,seval, -List.reduceReplicate,Int.natCast_zero]
  rintro i PS' ⟨hi,hx,hr,hg⟩
  have hvl:=vbs_len n i (n % 17) hi
  by_cases hlt:i<n % 17
  · have hm1:(i:Int)*((n / 4352:Nat):Int)=((i*(n / 4352):Nat):Int):=by push_cast;rfl
    have hm2:((n / 17:Nat):Int)+((i*(n / 4352):Nat):Int)=((n / 17+i*(n / 4352):Nat):Int):=by push_cast;rfl
    have hw:IntKind.u8.wrap ((n / 17+i*(n / 4352):Nat):Int)=((vb n i).toNat:Int):=(u8_of_nat _).symm
    have hmb:i*(n / 4352)≤16*(n / 4352):=Nat.mul_le_mul_right _ (by omega)
    have hget:∃c:UInt8,(bytesRows (vbs n i (n % 17)))[i]? =some [.int .u8 c.toNat]:=⟨_,bytesRows_get _ i (by omega)⟩
    obtain⟨c,hget⟩:=hget
    have hset:(bytesRows (vbs n i (n % 17))).set i [.int .u8 (vb n i).toNat]=bytesRows (vbs n (i+1) (n % 17)):=by
      rw[←vbs_step n i _ hlt];simp only[bytesRows,List.map_set]
    simp only[go_sem,seval, -List.reduceReplicate,d17,d4352,hlt,hg,hm1,hm2,hw,hget,hset,bytesRows_len,hvl]
    exact⟨by omega,by omega,by omega,by omega,by omega,i+1,by omega,⟨by omega,hx.since (Ext.set PS' _ _) (by simp),(getP_set_ne _ (by omega)).trans hr,getP_set_eq _ hg⟩,rfl⟩
  · have hi:i=n % 17:=by omega
    subst hi
    have htk:List.take (n % 17) (bytesRows (vbs n (n % 17) (n % 17)))=bytesRows (vbs n (n % 17) (n % 17)):=List.take_of_length_le (by rw[bytesRows_len,hl];exact Nat.le_refl _)
    simp only[go_sem,seval, -List.reduceReplicate,hlt,hg,hr,htk,bytesRows_len,hvl]
    refine pend_intro ((rval_of (vbs n (n % 17) (n % 17)) (by omega)).call ?_)
    have hy:∀Q,getP (PS'.set PS.length Q) PS.length=Q:=fun Q=>getP_set_eq Q hr
    have hz:∀Q,getP (PS'++[Q]) PS.length=_:=fun Q=>getP_app _ hr
    have hzz:∀Q Q',getP ((PS'++[Q]).set PS.length Q') PS.length=Q':=fun Q Q'=>getP_set_eq Q' (hz Q)
    have hd16:List.drop 16 (List.replicate 16 (HV.int .u8 0))=[]:=rfl
    simp only[go_sem,seval, -List.reduceReplicate,hr,hy,hz,hzz,hd16,List.append_nil]
    exact(hx.trans (Ext.app PS' _)).since (Ext.set _ PS.length _) (by simp)
end Go.Proofs.YtajjhaidpagflaaGreat
namespace Go.Proofs.YtajjhaidpagflaaGreat
open Go Go.Eng Go.Mo
set_option maxRecDepth 20000
attribute [local irreducible] hvc hops hop hplan hdrawP hval1 hopD HLoop
theorem by_splice [Toks] (key:Bs) (x y:HV):hsplice 26 [x] (keyL key++(valL []++[y]))=keyL key++(valL []++[x]):=by
  have h26:(keyL key++valL []).length=26:=by rw[List.length_append,keyL_len,valL_len]
  rw[hsplice,show keyL key++(valL []++[y])=(keyL key++valL [])++[y] from (List.append_assoc ..).symm,List.take_left' h26,List.drop_of_length_le (by rw[List.length_append,h26];exact Nat.le_refl _),List.append_nil,List.append_assoc]
theorem gen_msg (v sq:Int):∃m,okM m∧msgOk m∧m.seq=(sq % 1099511627776).toNat∧∀[Toks],Pure Tryz.prog 172 [.int .i64 v,.int .i64 sq] (.agg (msgL m)):=by
  obtain⟨n,hn⟩:∃n:Nat,v % 1099511627776=n:=⟨(v % 1099511627776).toNat,by omega⟩
  have hb:n<1099511627776:=by omega
  obtain⟨s,hs⟩:∃n:Nat,sq % 1099511627776=n:=⟨(sq % 1099511627776).toNat,by omega⟩
  obtain⟨key,k1,_,k2⟩:=gen_key ((n / 4:Nat):Int)
  obtain⟨val,v1,v2⟩:=gen_value ((n / 64:Nat):Int)
  have h3:n % 3=0∨n % 3=1∨n % 3=2:=by omega
  have ht:(n:Int).tmod 3=((n % 3:Nat):Int):=rfl
  have d4:(n:Int).tdiv 4=((n / 4:Nat):Int):=rfl
  have d64:(n:Int).tdiv 64=((n / 64:Nat):Int):=rfl
  have d1024:(n:Int).tdiv 1024=((n / 1024:Nat):Int):=rfl
  rcases h3 with h | h | h
  · refine⟨⟨1,s,key,val,0⟩,⟨by simp,by simp only;omega,k1,v1,by simp⟩,⟨by simp,by simp,by simp,by simp⟩,by simp only;omega,?_⟩
    intro _
    refine Pure.of_ext (by rw[scoped_agg];exact sc_msg _) fun PS=>?_
    have hp:=place_ v 1099511627776 (by omega) (by omega)
    rw[hn] at hp
    have hq:=place_ sq 1099511627776 (by omega) (by omega)
    rw[hs] at hq
    refine enter_172 (by unfold Tryz.f172;exact rfl) ?_
    simp only[go_sem,seval, -List.reduceReplicate]
    refine pend_intro (hp.call ?_)
    rw[h] at ht
    simp only[go_sem,seval, -List.reduceReplicate,ht,d4,d64,d1024]
    refine pend_intro (hq.call ?_)
    simp only[go_sem,seval, -List.reduceReplicate,ht,d4,d64,d1024]
    repeat (refine⟨by omega,?_⟩)
    refine pend_intro (k2.call ?_)
    have hz1:List.drop 8 (List.replicate 8 (HV.int .u8 0)++[HV.int .i64 0]++List.replicate 16 (HV.int .u8 0)++[HV.int .u64 0])=valL []++[HV.int .u64 0]:=rfl
    have hz2:List.drop 27 (HV.int .i64 0::(List.replicate 8 (HV.int .u8 0)++[HV.int .i64 0]++List.replicate 16 (HV.int .u8 0)++[HV.int .u64 0]))=[]:=rfl
    have ho:∀v n,ones (keyL key++(valL v++[HV.int .u64 n]))=True:=fun v n=>eq_true ((ones_iff _).2 (by intro y hy;rcases List.mem_append.1 hy with hy | hy;exact keyL_one _ y hy;rcases List.mem_append.1 hy with hy | hy;exact valL_one _ y hy;simp at hy;subst hy;rfl))
    have htt:∀v n,List.take 27 (keyL key++(valL v++[HV.int .u64 n]))=keyL key++(valL v++[HV.int .u64 n]):=fun v n=>List.take_of_length_le (by simp[keyL_len,valL_len])
    have hg:∀Q Q',getP (PS++[Q,Q']) PS.length=Q:=fun Q Q'=>by simp[getP]
    have hg1:∀Q v s E o,getP (PS++[Q,.arr v s E o]) (PS.length+1)=.arr v s E o:=fun Q v s E o=>by simp[getP,List.getElem?_append_right]
    have hs1:∀Q Q' Q'',(PS++[Q,Q']).set (PS.length+1) Q''=PS++[Q,Q'']:=fun Q Q' Q''=>by simp[List.set_append_right]
    have hs0:∀Q Q' Q'',(PS++[Q,Q']).set PS.length Q''=PS++[Q'',Q']:=fun Q Q' Q''=>by simp[List.set_append_right]
    simp only[go_sem,seval, -List.reduceReplicate,ht,d4,d64,d1024,hz1,hz2,ho,htt,hg,hg1,hs1,hs0,h,List.append_nil,List.length_append,keyL_len,valL_len]
    repeat (refine⟨by omega,?_⟩)
    refine pend_intro ?_
    refine v2.call ?_
    have hsp:hsplice 9 (valL val) (keyL key++(valL []++[HV.int .u64 0]))=keyL key++(valL val++[HV.int .u64 0]):=by
      rw[hsplice,List.take_left' (keyL_len _),valL_len,←List.drop_drop,List.drop_left' (keyL_len _),List.drop_left' (valL_len _)]
    simp only[go_sem,seval, -List.reduceReplicate,hg,hg1,hs1,hs0,hsp,hz2,ho,htt,List.append_nil,List.length_append,keyL_len,valL_len]
    exact⟨rfl,Ext.app _ _⟩
  · refine⟨⟨2,s,key,[],0⟩,⟨by simp,by simp only;omega,k1,by simp[okV],by simp⟩,⟨by simp,by simp,by simp,by simp⟩,by simp only;omega,?_⟩
    intro _
    refine Pure.of_ext (by rw[scoped_agg];exact sc_msg _) fun PS=>?_
    have hp:=place_ v 1099511627776 (by omega) (by omega)
    rw[hn] at hp
    have hq:=place_ sq 1099511627776 (by omega) (by omega)
    rw[hs] at hq
    refine enter_172 (by unfold Tryz.f172;exact rfl) ?_
    simp only[go_sem,seval, -List.reduceReplicate]
    refine pend_intro (hp.call ?_)
    rw[h] at ht
    simp only[go_sem,seval, -List.reduceReplicate,ht,d4,d64,d1024]
    refine pend_intro (hq.call ?_)
    simp only[go_sem,seval, -List.reduceReplicate,ht,d4,d64,d1024]
    repeat (refine⟨by omega,?_⟩)
    refine pend_intro (k2.call ?_)
    have hz1:List.drop 8 (List.replicate 8 (HV.int .u8 0)++[HV.int .i64 0]++List.replicate 16 (HV.int .u8 0)++[HV.int .u64 0])=valL []++[HV.int .u64 0]:=rfl
    have hz2:List.drop 27 (HV.int .i64 0::(List.replicate 8 (HV.int .u8 0)++[HV.int .i64 0]++List.replicate 16 (HV.int .u8 0)++[HV.int .u64 0]))=[]:=rfl
    have ho:∀v n,ones (keyL key++(valL v++[HV.int .u64 n]))=True:=fun v n=>eq_true ((ones_iff _).2 (by intro y hy;rcases List.mem_append.1 hy with hy | hy;exact keyL_one _ y hy;rcases List.mem_append.1 hy with hy | hy;exact valL_one _ y hy;simp at hy;subst hy;rfl))
    have htt:∀v n,List.take 27 (keyL key++(valL v++[HV.int .u64 n]))=keyL key++(valL v++[HV.int .u64 n]):=fun v n=>List.take_of_length_le (by simp[keyL_len,valL_len])
    have hg:∀Q Q',getP (PS++[Q,Q']) PS.length=Q:=fun Q Q'=>by simp[getP]
    have hg1:∀Q v s E o,getP (PS++[Q,.arr v s E o]) (PS.length+1)=.arr v s E o:=fun Q v s E o=>by simp[getP,List.getElem?_append_right]
    have hs1:∀Q Q' Q'',(PS++[Q,Q']).set (PS.length+1) Q''=PS++[Q,Q'']:=fun Q Q' Q''=>by simp[List.set_append_right]
    have hs0:∀Q Q' Q'',(PS++[Q,Q']).set PS.length Q''=PS++[Q'',Q']:=fun Q Q' Q''=>by simp[List.set_append_right]
    simp only[go_sem,seval, -List.reduceReplicate,ht,d4,d64,d1024,hz1,hz2,ho,htt,hg,hg1,hs1,hs0,h,List.append_nil,List.length_append,keyL_len,valL_len]
    exact⟨rfl,Ext.app _ _⟩
  · refine⟨⟨3,s,key,[],n / 1024*65537⟩,⟨by simp,by simp only;omega,k1,by simp[okV],by simp only;omega⟩,⟨by simp,by simp,by simp,by simp⟩,by simp only;omega,?_⟩
    intro _
    refine Pure.of_ext (by rw[scoped_agg];exact sc_msg _) fun PS=>?_
    have hp:=place_ v 1099511627776 (by omega) (by omega)
    rw[hn] at hp
    have hq:=place_ sq 1099511627776 (by omega) (by omega)
    rw[hs] at hq
    have hmul:IntKind.u64.wrap (((n / 1024:Nat):Int)*65537)=((n / 1024*65537:Nat):Int):=by
      show (((n / 1024:Nat):Int)*65537) % 18446744073709551616=_
      omega
    refine enter_172 (by unfold Tryz.f172;exact rfl) ?_
    simp only[go_sem,seval, -List.reduceReplicate]
    refine pend_intro (hp.call ?_)
    rw[h] at ht
    simp only[go_sem,seval, -List.reduceReplicate,ht,d4,d64,d1024]
    refine pend_intro (hq.call ?_)
    simp only[go_sem,seval, -List.reduceReplicate,ht,d4,d64,d1024]
    repeat (refine⟨by omega,?_⟩)
    refine pend_intro (k2.call ?_)
    have hz1:List.drop 8 (List.replicate 8 (HV.int .u8 0)++[HV.int .i64 0]++List.replicate 16 (HV.int .u8 0)++[HV.int .u64 0])=valL []++[HV.int .u64 0]:=rfl
    have hz2:List.drop 27 (HV.int .i64 0::(List.replicate 8 (HV.int .u8 0)++[HV.int .i64 0]++List.replicate 16 (HV.int .u8 0)++[HV.int .u64 0]))=[]:=rfl
    have ho:∀v n,ones (keyL key++(valL v++[HV.int .u64 n]))=True:=fun v n=>eq_true ((ones_iff _).2 (by intro y hy;rcases List.mem_append.1 hy with hy | hy;exact keyL_one _ y hy;rcases List.mem_append.1 hy with hy | hy;exact valL_one _ y hy;simp at hy;subst hy;rfl))
    have htt:∀v n,List.take 27 (keyL key++(valL v++[HV.int .u64 n]))=keyL key++(valL v++[HV.int .u64 n]):=fun v n=>List.take_of_length_le (by simp[keyL_len,valL_len])
    have hg:∀Q Q',getP (PS++[Q,Q']) PS.length=Q:=fun Q Q'=>by simp[getP]
    have hg1:∀Q v s E o,getP (PS++[Q,.arr v s E o]) (PS.length+1)=.arr v s E o:=fun Q v s E o=>by simp[getP,List.getElem?_append_right]
    have hs1:∀Q Q' Q'',(PS++[Q,Q']).set (PS.length+1) Q''=PS++[Q,Q'']:=fun Q Q' Q''=>by simp[List.set_append_right]
    have hs0:∀Q Q' Q'',(PS++[Q,Q']).set PS.length Q''=PS++[Q'',Q']:=fun Q Q' Q''=>by simp[List.set_append_right]
    simp only[go_sem,seval, -List.reduceReplicate,ht,d4,d64,d1024,hz1,hz2,ho,htt,hg,hg1,hs1,hs0,hmul,by_splice,List.append_nil,List.length_append,keyL_len,valL_len]
    exact⟨by omega,by omega,rfl,Ext.app _ _⟩
end Go.Proofs.YtajjhaidpagflaaGreat
