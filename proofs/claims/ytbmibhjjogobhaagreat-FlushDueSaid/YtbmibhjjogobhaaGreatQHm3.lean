/-
Hm3
No conditions.
-/
import Derived.Test.YtbmibhjjogobhaaGreatQHm2
import Derived.Test.YtbmibhjjogobhaaGreatQHm1
import Derived.Test.YtbmibhjjogobhaaGreatQRunI
set_option linter.unusedSectionVars false
set_option linter.unusedSimpArgs false
set_option linter.unusedVariables false
namespace Go.Proofs.YtbmibhjjogobhaaGreat
open Go Go.Eng Go.Mo
set_option maxRecDepth 20000
attribute [local irreducible] hvc zf hop zg yI zb zu yQ
theorem WM (v:Int):∃k,okK k∧(∀j:Nat,j<5→v=8*j→k=[UInt8.ofNat (97+j)])∧∀[zB],Pure Tryz.prog 79 [.int .i64 v] (.agg (zJ k)):=by
 obtain⟨n,hn⟩:∃n:Nat,v % 1099511627776=n:=⟨(v % 1099511627776).toNat,by omega⟩
 have hb:n<1099511627776:=by omega
 have zj:∀j:Nat,j<5→v=8*j→n=8*j:=fun j hj h=>by omega
 have h8:n % 8=0∨n % 8=1∨n % 8=2∨n % 8=3∨n % 8=4∨n % 8=5∨n % 8=6∨n % 8=7:=by omega
 have ht:(n:Int).tmod 8=((n % 8:Nat):Int):=by rw[Int.tmod_eq_emod_of_nonneg (by omega)];omega
 rcases h8 with h | h | h | h | h | h | h | h
 ·refine⟨([UInt8.ofNat (97+n / 8 % 6)]:Bs),by simp[okK],fun j hj hv=>by rw[zj j hj hv,show 8*j / 8 % 6=j by omega],?_⟩
  intro _
  refine Pure.zp (by rw[wE];exact uL _) fun PS=>?_
  have hp:=vN v 1099511627776 (by omega) (by omega)
  rw[hn] at hp
  refine kY (by unfold Tryz.f79;exact rfl) ?_
  simp only[go_sem,seval, -List.reduceReplicate]
  refine zG (hp.call ?_)
  rw[h] at ht
  have d8:(n:Int).tdiv 8=((n / 8:Nat):Int):=rfl
  have d24:(n:Int).tdiv 24=((n / 24:Nat):Int):=rfl
  have d32:(n:Int).tdiv 32=((n / 32:Nat):Int):=rfl
  have d40:(n:Int).tdiv 40=((n / 40:Nat):Int):=rfl
  have d2048:(n:Int).tdiv 2048=((n / 2048:Nat):Int):=rfl
  have d8192:(n:Int).tdiv 8192=((n / 8192:Nat):Int):=rfl
  have d32768:(n:Int).tdiv 32768=((n / 32768:Nat):Int):=rfl
  have d524288:(n:Int).tdiv 524288=((n / 524288:Nat):Int):=rfl
  have m3:∀x:Nat,(x:Int).tmod 3=((x % 3:Nat):Int):=fun _=>rfl
  have m4:∀x:Nat,(x:Int).tmod 4=((x % 4:Nat):Int):=fun _=>rfl
  have m5:∀x:Nat,(x:Int).tmod 5=((x % 5:Nat):Int):=fun _=>rfl
  have m6:∀x:Nat,(x:Int).tmod 6=((x % 6:Nat):Int):=fun _=>rfl
  have m9:∀x:Nat,(x:Int).tmod 9=((x % 9:Nat):Int):=fun _=>rfl
  have m256:∀x:Nat,(x:Int).tmod 256=((x % 256:Nat):Int):=fun _=>rfl
  have a97:∀x:Nat,97+(x:Int)=((97+x:Nat):Int):=fun _=>by omega
  have a98:∀x:Nat,98+(x:Int)=((98+x:Nat):Int):=fun _=>by omega
  have a48:∀x:Nat,48+(x:Int)=((48+x:Nat):Int):=fun _=>by omega
  have hw:∀x:Nat,IntKind.u8.wrap (x:Int)=(UInt8.ofNat x).toNat:=fun x=>by
   have:=wA x
   exact this.symm
  have zd:[[HV.int .u8 (UInt8.ofNat (97+n / 8 % 6)).toNat]]=zD ([UInt8.ofNat (97+n / 8 % 6)]:Bs):=rfl
  simp only[go_sem,seval, -List.reduceReplicate,ht,d8,d24,d32,d40,d2048,d8192,d32768,d524288,m3,m4,m5,m6,m9,m256,a97,a98,a48,hw,zd]
  repeat (refine⟨by omega,?_⟩)
  refine zG ((kd ([UInt8.ofNat (97+n / 8 % 6)]:Bs) (by simp)).call ?_)
  simp only[go_sem,seval, -List.reduceReplicate]
  exact⟨by omega,by omega,Ext.app _ _⟩
 ·refine⟨([UInt8.ofNat (97+n / 8 % 6)]:Bs),by simp[okK],fun j hj hv=>by have:=zj j hj hv;omega,?_⟩
  intro _
  refine Pure.zp (by rw[wE];exact uL _) fun PS=>?_
  have hp:=vN v 1099511627776 (by omega) (by omega)
  rw[hn] at hp
  refine kY (by unfold Tryz.f79;exact rfl) ?_
  simp only[go_sem,seval, -List.reduceReplicate]
  refine zG (hp.call ?_)
  rw[h] at ht
  have d8:(n:Int).tdiv 8=((n / 8:Nat):Int):=rfl
  have d24:(n:Int).tdiv 24=((n / 24:Nat):Int):=rfl
  have d32:(n:Int).tdiv 32=((n / 32:Nat):Int):=rfl
  have d40:(n:Int).tdiv 40=((n / 40:Nat):Int):=rfl
  have d2048:(n:Int).tdiv 2048=((n / 2048:Nat):Int):=rfl
  have d8192:(n:Int).tdiv 8192=((n / 8192:Nat):Int):=rfl
  have d32768:(n:Int).tdiv 32768=((n / 32768:Nat):Int):=rfl
  have d524288:(n:Int).tdiv 524288=((n / 524288:Nat):Int):=rfl
  have m3:∀x:Nat,(x:Int).tmod 3=((x % 3:Nat):Int):=fun _=>rfl
  have m4:∀x:Nat,(x:Int).tmod 4=((x % 4:Nat):Int):=fun _=>rfl
  have m5:∀x:Nat,(x:Int).tmod 5=((x % 5:Nat):Int):=fun _=>rfl
  have m6:∀x:Nat,(x:Int).tmod 6=((x % 6:Nat):Int):=fun _=>rfl
  have m9:∀x:Nat,(x:Int).tmod 9=((x % 9:Nat):Int):=fun _=>rfl
  have m256:∀x:Nat,(x:Int).tmod 256=((x % 256:Nat):Int):=fun _=>rfl
  have a97:∀x:Nat,97+(x:Int)=((97+x:Nat):Int):=fun _=>by omega
  have a98:∀x:Nat,98+(x:Int)=((98+x:Nat):Int):=fun _=>by omega
  have a48:∀x:Nat,48+(x:Int)=((48+x:Nat):Int):=fun _=>by omega
  have hw:∀x:Nat,IntKind.u8.wrap (x:Int)=(UInt8.ofNat x).toNat:=fun x=>by
   have:=wA x
   exact this.symm
  have zd:[[HV.int .u8 (UInt8.ofNat (97+n / 8 % 6)).toNat]]=zD ([UInt8.ofNat (97+n / 8 % 6)]:Bs):=rfl
  simp only[go_sem,seval, -List.reduceReplicate,ht,d8,d24,d32,d40,d2048,d8192,d32768,d524288,m3,m4,m5,m6,m9,m256,a97,a98,a48,hw,zd]
  repeat (refine⟨by omega,?_⟩)
  refine zG ((kd ([UInt8.ofNat (97+n / 8 % 6)]:Bs) (by simp)).call ?_)
  simp only[go_sem,seval, -List.reduceReplicate]
  exact⟨by omega,by omega,Ext.app _ _⟩
 ·refine⟨([UInt8.ofNat (97+n / 8 % 6)]:Bs),by simp[okK],fun j hj hv=>by have:=zj j hj hv;omega,?_⟩
  intro _
  refine Pure.zp (by rw[wE];exact uL _) fun PS=>?_
  have hp:=vN v 1099511627776 (by omega) (by omega)
  rw[hn] at hp
  refine kY (by unfold Tryz.f79;exact rfl) ?_
  simp only[go_sem,seval, -List.reduceReplicate]
  refine zG (hp.call ?_)
  rw[h] at ht
  have d8:(n:Int).tdiv 8=((n / 8:Nat):Int):=rfl
  have d24:(n:Int).tdiv 24=((n / 24:Nat):Int):=rfl
  have d32:(n:Int).tdiv 32=((n / 32:Nat):Int):=rfl
  have d40:(n:Int).tdiv 40=((n / 40:Nat):Int):=rfl
  have d2048:(n:Int).tdiv 2048=((n / 2048:Nat):Int):=rfl
  have d8192:(n:Int).tdiv 8192=((n / 8192:Nat):Int):=rfl
  have d32768:(n:Int).tdiv 32768=((n / 32768:Nat):Int):=rfl
  have d524288:(n:Int).tdiv 524288=((n / 524288:Nat):Int):=rfl
  have m3:∀x:Nat,(x:Int).tmod 3=((x % 3:Nat):Int):=fun _=>rfl
  have m4:∀x:Nat,(x:Int).tmod 4=((x % 4:Nat):Int):=fun _=>rfl
  have m5:∀x:Nat,(x:Int).tmod 5=((x % 5:Nat):Int):=fun _=>rfl
  have m6:∀x:Nat,(x:Int).tmod 6=((x % 6:Nat):Int):=fun _=>rfl
  have m9:∀x:Nat,(x:Int).tmod 9=((x % 9:Nat):Int):=fun _=>rfl
  have m256:∀x:Nat,(x:Int).tmod 256=((x % 256:Nat):Int):=fun _=>rfl
  have a97:∀x:Nat,97+(x:Int)=((97+x:Nat):Int):=fun _=>by omega
  have a98:∀x:Nat,98+(x:Int)=((98+x:Nat):Int):=fun _=>by omega
  have a48:∀x:Nat,48+(x:Int)=((48+x:Nat):Int):=fun _=>by omega
  have hw:∀x:Nat,IntKind.u8.wrap (x:Int)=(UInt8.ofNat x).toNat:=fun x=>by
   have:=wA x
   exact this.symm
  have zd:[[HV.int .u8 (UInt8.ofNat (97+n / 8 % 6)).toNat]]=zD ([UInt8.ofNat (97+n / 8 % 6)]:Bs):=rfl
  simp only[go_sem,seval, -List.reduceReplicate,ht,d8,d24,d32,d40,d2048,d8192,d32768,d524288,m3,m4,m5,m6,m9,m256,a97,a98,a48,hw,zd]
  repeat (refine⟨by omega,?_⟩)
  refine zG ((kd ([UInt8.ofNat (97+n / 8 % 6)]:Bs) (by simp)).call ?_)
  simp only[go_sem,seval, -List.reduceReplicate]
  exact⟨by omega,by omega,Ext.app _ _⟩
 ·refine⟨([UInt8.ofNat (97+n / 8 % 5),UInt8.ofNat (97+n / 40 % 4)]:Bs),by simp[okK],fun j hj hv=>by have:=zj j hj hv;omega,?_⟩
  intro _
  refine Pure.zp (by rw[wE];exact uL _) fun PS=>?_
  have hp:=vN v 1099511627776 (by omega) (by omega)
  rw[hn] at hp
  refine kY (by unfold Tryz.f79;exact rfl) ?_
  simp only[go_sem,seval, -List.reduceReplicate]
  refine zG (hp.call ?_)
  rw[h] at ht
  have d8:(n:Int).tdiv 8=((n / 8:Nat):Int):=rfl
  have d24:(n:Int).tdiv 24=((n / 24:Nat):Int):=rfl
  have d32:(n:Int).tdiv 32=((n / 32:Nat):Int):=rfl
  have d40:(n:Int).tdiv 40=((n / 40:Nat):Int):=rfl
  have d2048:(n:Int).tdiv 2048=((n / 2048:Nat):Int):=rfl
  have d8192:(n:Int).tdiv 8192=((n / 8192:Nat):Int):=rfl
  have d32768:(n:Int).tdiv 32768=((n / 32768:Nat):Int):=rfl
  have d524288:(n:Int).tdiv 524288=((n / 524288:Nat):Int):=rfl
  have m3:∀x:Nat,(x:Int).tmod 3=((x % 3:Nat):Int):=fun _=>rfl
  have m4:∀x:Nat,(x:Int).tmod 4=((x % 4:Nat):Int):=fun _=>rfl
  have m5:∀x:Nat,(x:Int).tmod 5=((x % 5:Nat):Int):=fun _=>rfl
  have m6:∀x:Nat,(x:Int).tmod 6=((x % 6:Nat):Int):=fun _=>rfl
  have m9:∀x:Nat,(x:Int).tmod 9=((x % 9:Nat):Int):=fun _=>rfl
  have m256:∀x:Nat,(x:Int).tmod 256=((x % 256:Nat):Int):=fun _=>rfl
  have a97:∀x:Nat,97+(x:Int)=((97+x:Nat):Int):=fun _=>by omega
  have a98:∀x:Nat,98+(x:Int)=((98+x:Nat):Int):=fun _=>by omega
  have a48:∀x:Nat,48+(x:Int)=((48+x:Nat):Int):=fun _=>by omega
  have hw:∀x:Nat,IntKind.u8.wrap (x:Int)=(UInt8.ofNat x).toNat:=fun x=>by
   have:=wA x
   exact this.symm
  have zd:[[HV.int .u8 (UInt8.ofNat (97+n / 8 % 5)).toNat],[HV.int .u8 (UInt8.ofNat (97+n / 40 % 4)).toNat]]=zD ([UInt8.ofNat (97+n / 8 % 5),UInt8.ofNat (97+n / 40 % 4)]:Bs):=rfl
  simp only[go_sem,seval, -List.reduceReplicate,ht,d8,d24,d32,d40,d2048,d8192,d32768,d524288,m3,m4,m5,m6,m9,m256,a97,a98,a48,hw,zd]
  repeat (refine⟨by omega,?_⟩)
  refine zG ((kd ([UInt8.ofNat (97+n / 8 % 5),UInt8.ofNat (97+n / 40 % 4)]:Bs) (by simp)).call ?_)
  simp only[go_sem,seval, -List.reduceReplicate]
  exact⟨by omega,by omega,Ext.app _ _⟩
 ·refine⟨([UInt8.ofNat (97+n / 8 % 5),UInt8.ofNat (97+n / 40 % 4)]:Bs),by simp[okK],fun j hj hv=>by have:=zj j hj hv;omega,?_⟩
  intro _
  refine Pure.zp (by rw[wE];exact uL _) fun PS=>?_
  have hp:=vN v 1099511627776 (by omega) (by omega)
  rw[hn] at hp
  refine kY (by unfold Tryz.f79;exact rfl) ?_
  simp only[go_sem,seval, -List.reduceReplicate]
  refine zG (hp.call ?_)
  rw[h] at ht
  have d8:(n:Int).tdiv 8=((n / 8:Nat):Int):=rfl
  have d24:(n:Int).tdiv 24=((n / 24:Nat):Int):=rfl
  have d32:(n:Int).tdiv 32=((n / 32:Nat):Int):=rfl
  have d40:(n:Int).tdiv 40=((n / 40:Nat):Int):=rfl
  have d2048:(n:Int).tdiv 2048=((n / 2048:Nat):Int):=rfl
  have d8192:(n:Int).tdiv 8192=((n / 8192:Nat):Int):=rfl
  have d32768:(n:Int).tdiv 32768=((n / 32768:Nat):Int):=rfl
  have d524288:(n:Int).tdiv 524288=((n / 524288:Nat):Int):=rfl
  have m3:∀x:Nat,(x:Int).tmod 3=((x % 3:Nat):Int):=fun _=>rfl
  have m4:∀x:Nat,(x:Int).tmod 4=((x % 4:Nat):Int):=fun _=>rfl
  have m5:∀x:Nat,(x:Int).tmod 5=((x % 5:Nat):Int):=fun _=>rfl
  have m6:∀x:Nat,(x:Int).tmod 6=((x % 6:Nat):Int):=fun _=>rfl
  have m9:∀x:Nat,(x:Int).tmod 9=((x % 9:Nat):Int):=fun _=>rfl
  have m256:∀x:Nat,(x:Int).tmod 256=((x % 256:Nat):Int):=fun _=>rfl
  have a97:∀x:Nat,97+(x:Int)=((97+x:Nat):Int):=fun _=>by omega
  have a98:∀x:Nat,98+(x:Int)=((98+x:Nat):Int):=fun _=>by omega
  have a48:∀x:Nat,48+(x:Int)=((48+x:Nat):Int):=fun _=>by omega
  have hw:∀x:Nat,IntKind.u8.wrap (x:Int)=(UInt8.ofNat x).toNat:=fun x=>by
   have:=wA x
   exact this.symm
  have zd:[[HV.int .u8 (UInt8.ofNat (97+n / 8 % 5)).toNat],[HV.int .u8 (UInt8.ofNat (97+n / 40 % 4)).toNat]]=zD ([UInt8.ofNat (97+n / 8 % 5),UInt8.ofNat (97+n / 40 % 4)]:Bs):=rfl
  simp only[go_sem,seval, -List.reduceReplicate,ht,d8,d24,d32,d40,d2048,d8192,d32768,d524288,m3,m4,m5,m6,m9,m256,a97,a98,a48,hw,zd]
  repeat (refine⟨by omega,?_⟩)
  refine zG ((kd ([UInt8.ofNat (97+n / 8 % 5),UInt8.ofNat (97+n / 40 % 4)]:Bs) (by simp)).call ?_)
  simp only[go_sem,seval, -List.reduceReplicate]
  exact⟨by omega,by omega,Ext.app _ _⟩
 ·refine⟨([UInt8.ofNat (97+n / 8 % 4),0,UInt8.ofNat (n / 32 % 256),UInt8.ofNat (n / 8192 % 4),255,120,121,UInt8.ofNat (97+n / 32768 % 3)]:Bs),by simp[okK],fun j hj hv=>by have:=zj j hj hv;omega,?_⟩
  intro _
  refine Pure.zp (by rw[wE];exact uL _) fun PS=>?_
  have hp:=vN v 1099511627776 (by omega) (by omega)
  rw[hn] at hp
  refine kY (by unfold Tryz.f79;exact rfl) ?_
  simp only[go_sem,seval, -List.reduceReplicate]
  refine zG (hp.call ?_)
  rw[h] at ht
  have d8:(n:Int).tdiv 8=((n / 8:Nat):Int):=rfl
  have d24:(n:Int).tdiv 24=((n / 24:Nat):Int):=rfl
  have d32:(n:Int).tdiv 32=((n / 32:Nat):Int):=rfl
  have d40:(n:Int).tdiv 40=((n / 40:Nat):Int):=rfl
  have d2048:(n:Int).tdiv 2048=((n / 2048:Nat):Int):=rfl
  have d8192:(n:Int).tdiv 8192=((n / 8192:Nat):Int):=rfl
  have d32768:(n:Int).tdiv 32768=((n / 32768:Nat):Int):=rfl
  have d524288:(n:Int).tdiv 524288=((n / 524288:Nat):Int):=rfl
  have m3:∀x:Nat,(x:Int).tmod 3=((x % 3:Nat):Int):=fun _=>rfl
  have m4:∀x:Nat,(x:Int).tmod 4=((x % 4:Nat):Int):=fun _=>rfl
  have m5:∀x:Nat,(x:Int).tmod 5=((x % 5:Nat):Int):=fun _=>rfl
  have m6:∀x:Nat,(x:Int).tmod 6=((x % 6:Nat):Int):=fun _=>rfl
  have m9:∀x:Nat,(x:Int).tmod 9=((x % 9:Nat):Int):=fun _=>rfl
  have m256:∀x:Nat,(x:Int).tmod 256=((x % 256:Nat):Int):=fun _=>rfl
  have a97:∀x:Nat,97+(x:Int)=((97+x:Nat):Int):=fun _=>by omega
  have a98:∀x:Nat,98+(x:Int)=((98+x:Nat):Int):=fun _=>by omega
  have a48:∀x:Nat,48+(x:Int)=((48+x:Nat):Int):=fun _=>by omega
  have hw:∀x:Nat,IntKind.u8.wrap (x:Int)=(UInt8.ofNat x).toNat:=fun x=>by
   have:=wA x
   exact this.symm
  have zd:[[HV.int .u8 (UInt8.ofNat (97+n / 8 % 4)).toNat],[HV.int .u8 0],[HV.int .u8 (UInt8.ofNat (n / 32 % 256)).toNat],[HV.int .u8 (UInt8.ofNat (n / 8192 % 4)).toNat],[HV.int .u8 255],[HV.int .u8 120],[HV.int .u8 121],[HV.int .u8 (UInt8.ofNat (97+n / 32768 % 3)).toNat]]=zD ([UInt8.ofNat (97+n / 8 % 4),0,UInt8.ofNat (n / 32 % 256),UInt8.ofNat (n / 8192 % 4),255,120,121,UInt8.ofNat (97+n / 32768 % 3)]:Bs):=rfl
  simp only[go_sem,seval, -List.reduceReplicate,ht,d8,d24,d32,d40,d2048,d8192,d32768,d524288,m3,m4,m5,m6,m9,m256,a97,a98,a48,hw,zd]
  repeat (refine⟨by omega,?_⟩)
  refine zG ((kd ([UInt8.ofNat (97+n / 8 % 4),0,UInt8.ofNat (n / 32 % 256),UInt8.ofNat (n / 8192 % 4),255,120,121,UInt8.ofNat (97+n / 32768 % 3)]:Bs) (by simp)).call ?_)
  simp only[go_sem,seval, -List.reduceReplicate]
  exact⟨by omega,by omega,Ext.app _ _⟩
 ·refine⟨([UInt8.ofNat (98+n / 8 % 3),108,111,110,103,101,114,UInt8.ofNat (48+n / 24 % 9)]:Bs),by simp[okK],fun j hj hv=>by have:=zj j hj hv;omega,?_⟩
  intro _
  refine Pure.zp (by rw[wE];exact uL _) fun PS=>?_
  have hp:=vN v 1099511627776 (by omega) (by omega)
  rw[hn] at hp
  refine kY (by unfold Tryz.f79;exact rfl) ?_
  simp only[go_sem,seval, -List.reduceReplicate]
  refine zG (hp.call ?_)
  rw[h] at ht
  have d8:(n:Int).tdiv 8=((n / 8:Nat):Int):=rfl
  have d24:(n:Int).tdiv 24=((n / 24:Nat):Int):=rfl
  have d32:(n:Int).tdiv 32=((n / 32:Nat):Int):=rfl
  have d40:(n:Int).tdiv 40=((n / 40:Nat):Int):=rfl
  have d2048:(n:Int).tdiv 2048=((n / 2048:Nat):Int):=rfl
  have d8192:(n:Int).tdiv 8192=((n / 8192:Nat):Int):=rfl
  have d32768:(n:Int).tdiv 32768=((n / 32768:Nat):Int):=rfl
  have d524288:(n:Int).tdiv 524288=((n / 524288:Nat):Int):=rfl
  have m3:∀x:Nat,(x:Int).tmod 3=((x % 3:Nat):Int):=fun _=>rfl
  have m4:∀x:Nat,(x:Int).tmod 4=((x % 4:Nat):Int):=fun _=>rfl
  have m5:∀x:Nat,(x:Int).tmod 5=((x % 5:Nat):Int):=fun _=>rfl
  have m6:∀x:Nat,(x:Int).tmod 6=((x % 6:Nat):Int):=fun _=>rfl
  have m9:∀x:Nat,(x:Int).tmod 9=((x % 9:Nat):Int):=fun _=>rfl
  have m256:∀x:Nat,(x:Int).tmod 256=((x % 256:Nat):Int):=fun _=>rfl
  have a97:∀x:Nat,97+(x:Int)=((97+x:Nat):Int):=fun _=>by omega
  have a98:∀x:Nat,98+(x:Int)=((98+x:Nat):Int):=fun _=>by omega
  have a48:∀x:Nat,48+(x:Int)=((48+x:Nat):Int):=fun _=>by omega
  have hw:∀x:Nat,IntKind.u8.wrap (x:Int)=(UInt8.ofNat x).toNat:=fun x=>by
   have:=wA x
   exact this.symm
  have zd:[[HV.int .u8 (UInt8.ofNat (98+n / 8 % 3)).toNat],[HV.int .u8 108],[HV.int .u8 111],[HV.int .u8 110],[HV.int .u8 103],[HV.int .u8 101],[HV.int .u8 114],[HV.int .u8 (UInt8.ofNat (48+n / 24 % 9)).toNat]]=zD ([UInt8.ofNat (98+n / 8 % 3),108,111,110,103,101,114,UInt8.ofNat (48+n / 24 % 9)]:Bs):=rfl
  simp only[go_sem,seval, -List.reduceReplicate,ht,d8,d24,d32,d40,d2048,d8192,d32768,d524288,m3,m4,m5,m6,m9,m256,a97,a98,a48,hw,zd]
  repeat (refine⟨by omega,?_⟩)
  refine zG ((kd ([UInt8.ofNat (98+n / 8 % 3),108,111,110,103,101,114,UInt8.ofNat (48+n / 24 % 9)]:Bs) (by simp)).call ?_)
  simp only[go_sem,seval, -List.reduceReplicate]
  exact⟨by omega,by omega,Ext.app _ _⟩
 ·refine⟨List.take (n / 524288 % 3) ([UInt8.ofNat (n / 8 % 256),UInt8.ofNat (n / 2048 % 256)]:Bs),by simp[okK];omega,fun j hj hv=>by have:=zj j hj hv;omega,?_⟩
  intro _
  refine Pure.zp (by rw[wE];exact uL _) fun PS=>?_
  have hp:=vN v 1099511627776 (by omega) (by omega)
  rw[hn] at hp
  refine kY (by unfold Tryz.f79;exact rfl) ?_
  simp only[go_sem,seval, -List.reduceReplicate]
  refine zG (hp.call ?_)
  rw[h] at ht
  have d8:(n:Int).tdiv 8=((n / 8:Nat):Int):=rfl
  have d24:(n:Int).tdiv 24=((n / 24:Nat):Int):=rfl
  have d32:(n:Int).tdiv 32=((n / 32:Nat):Int):=rfl
  have d40:(n:Int).tdiv 40=((n / 40:Nat):Int):=rfl
  have d2048:(n:Int).tdiv 2048=((n / 2048:Nat):Int):=rfl
  have d8192:(n:Int).tdiv 8192=((n / 8192:Nat):Int):=rfl
  have d32768:(n:Int).tdiv 32768=((n / 32768:Nat):Int):=rfl
  have d524288:(n:Int).tdiv 524288=((n / 524288:Nat):Int):=rfl
  have m3:∀x:Nat,(x:Int).tmod 3=((x % 3:Nat):Int):=fun _=>rfl
  have m4:∀x:Nat,(x:Int).tmod 4=((x % 4:Nat):Int):=fun _=>rfl
  have m5:∀x:Nat,(x:Int).tmod 5=((x % 5:Nat):Int):=fun _=>rfl
  have m6:∀x:Nat,(x:Int).tmod 6=((x % 6:Nat):Int):=fun _=>rfl
  have m9:∀x:Nat,(x:Int).tmod 9=((x % 9:Nat):Int):=fun _=>rfl
  have m256:∀x:Nat,(x:Int).tmod 256=((x % 256:Nat):Int):=fun _=>rfl
  have a97:∀x:Nat,97+(x:Int)=((97+x:Nat):Int):=fun _=>by omega
  have a98:∀x:Nat,98+(x:Int)=((98+x:Nat):Int):=fun _=>by omega
  have a48:∀x:Nat,48+(x:Int)=((48+x:Nat):Int):=fun _=>by omega
  have hw:∀x:Nat,IntKind.u8.wrap (x:Int)=(UInt8.ofNat x).toNat:=fun x=>by
   have:=wA x
   exact this.symm
  have zd:[[HV.int .u8 (UInt8.ofNat (n / 8 % 256)).toNat],[HV.int .u8 (UInt8.ofNat (n / 2048 % 256)).toNat]]=zD ([UInt8.ofNat (n / 8 % 256),UInt8.ofNat (n / 2048 % 256)]:Bs):=rfl
  simp only[go_sem,seval, -List.reduceReplicate,ht,d8,d24,d32,d40,d2048,d8192,d32768,d524288,m3,m4,m5,m6,m9,m256,a97,a98,a48,hw,zd]
  repeat (refine⟨by omega,?_⟩)
  refine zG ((kd (List.take (n / 524288 % 3) ([UInt8.ofNat (n / 8 % 256),UInt8.ofNat (n / 2048 % 256)]:Bs)) (by simp;omega)).call ?_)
  simp only[go_sem,seval, -List.reduceReplicate]
  exact⟨by omega,by omega,Ext.app _ _⟩
end Go.Proofs.YtbmibhjjogobhaaGreat
namespace Go.Mo
open Go Go.Eng
def vb (k i:Nat):UInt8:=UInt8.ofNat (k / 17+i*(k / 4352))
def vbs (k i m:Nat):Bs:=(List.range i).map (vb k)++List.replicate (m - i) 0
theorem zCf (k i m:Nat) (h:i≤m):(vbs k i m).length=m:=by simp[vbs];omega
theorem zKe (k i m:Nat) (h:i<m):(vbs k i m).set i (vb k i)=vbs k (i+1) m:=by
 have e:m - i=(m - (i+1))+1:=by omega
 rw[vbs,vbs,e,List.replicate_succ,List.range_succ,List.map_append]
 rw[List.set_append_right _ _ (by simp)]
 simp
end Go.Mo
namespace Go.Proofs.YtbmibhjjogobhaaGreat
open Go Go.Eng Go.Mo
set_option maxRecDepth 20000
attribute [local irreducible] hvc zf hop zg yI zb zu yQ
theorem Vw (v:Int):∃k,okV k∧∀[zB],Pure Tryz.prog 80 [.int .i64 v] (.agg (zK k)):=by
 obtain⟨n,hn⟩:∃n:Nat,v % 1099511627776=n:=⟨(v % 1099511627776).toNat,by omega⟩
 have hb:n<1099511627776:=by omega
 have hl:=zCf n (n % 17) (n % 17) (Nat.le_refl _)
 refine⟨vbs n (n % 17) (n % 17),by rw[okV,hl];omega,?_⟩
 intro _
 refine Pure.zp (by rw[wE];exact ZH _) fun PS=>?_
 have hp:=vN v 1099511627776 (by omega) (by omega)
 rw[hn] at hp
 refine zIV (by unfold Tryz.f80;exact rfl) ?_
 simp only[go_sem,seval, -List.reduceReplicate]
 refine zG (hp.call ?_)
 have ht:(n:Int).tmod 17=((n % 17:Nat):Int):=rfl
 have d17:(n:Int).tdiv 17=((n / 17:Nat):Int):=rfl
 have d4352:(n:Int).tdiv 4352=((n / 4352:Nat):Int):=rfl
 simp only[go_sem,seval, -List.reduceReplicate,ht,d17,d4352,List.length_replicate]
 have h0:List.replicate (n % 17) [HV.int .u8 0]=zD (vbs n 0 (n % 17)):=by simp[vbs,zD]
 have hx0:=Ext.app PS [zC.arr 0 17 [HV.int .i64 0::List.replicate 16 (HV.int .u8 0)] false,zC.arr 0 1 (List.replicate (n % 17) [HV.int .u8 0]) false]
 have hr0:zA (PS++[zC.arr 0 17 [HV.int .i64 0::List.replicate 16 (HV.int .u8 0)] false,zC.arr 0 1 (List.replicate (n % 17) [HV.int .u8 0]) false]) PS.length=zC.arr 0 17 [HV.int .i64 0::List.replicate 16 (HV.int .u8 0)] false:=by simp[zA]
 have hg0:zA (PS++[zC.arr 0 17 [HV.int .i64 0::List.replicate 16 (HV.int .u8 0)] false,zC.arr 0 1 (List.replicate (n % 17) [HV.int .u8 0]) false]) (PS.length+1)=zC.arr 0 1 (zD (vbs n 0 (n % 17))) false:=by rw[←h0];simp[zA,List.getElem?_append_right]
 refine⟨by omega,by omega,zG (zq (α:=Nat) [false,false,false,false,false,false,false,false,false,false,false,false,false,false,false,true,true,true,true,true,true,true,true,true,true,true,true,true,true,true,true] (fun i=>[(6,.int .i64 i)]) (fun i=>n % 17 - i) (fun i PS'=>i≤n % 17∧Ext [] PS PS'∧zA PS' PS.length=zC.arr 0 17 [HV.int .i64 0::List.replicate 16 (HV.int .u8 0)] false∧zA PS' (PS.length+1)=.arr 0 1 (zD (vbs n i (n % 17))) false) 0 ⟨Nat.zero_le _,hx0,hr0,hg0⟩ ?_ ?_)⟩
 ·simp only[go_sem,seval, -List.reduceReplicate,Int.natCast_zero]
 rintro i PS' ⟨hi,hx,hr,hg⟩
 have hvl:=zCf n i (n % 17) hi
 by_cases hlt:i<n % 17
 ·have hm1:(i:Int)*((n / 4352:Nat):Int)=((i*(n / 4352):Nat):Int):=by push_cast;rfl
  have hm2:((n / 17:Nat):Int)+((i*(n / 4352):Nat):Int)=((n / 17+i*(n / 4352):Nat):Int):=by push_cast;rfl
  have hw:IntKind.u8.wrap ((n / 17+i*(n / 4352):Nat):Int)=((vb n i).toNat:Int):=(wA _).symm
  have hmb:i*(n / 4352)≤16*(n / 4352):=Nat.mul_le_mul_right _ (by omega)
  have hget:∃c:UInt8,(zD (vbs n i (n % 17)))[i]? =some [.int .u8 c.toNat]:=⟨_,ja _ i (by omega)⟩
  obtain⟨c,hget⟩:=hget
  have hset:(zD (vbs n i (n % 17))).set i [.int .u8 (vb n i).toNat]=zD (vbs n (i+1) (n % 17)):=by
   rw[←zKe n i _ hlt];simp only[zD,List.map_set]
  simp only[go_sem,seval, -List.reduceReplicate,d17,d4352,hlt,hg,hm1,hm2,hw,hget,hset,zo,hvl]
  exact⟨by omega,by omega,by omega,by omega,by omega,i+1,by omega,⟨by omega,hx.since (Ext.set PS' _ _) (by simp),(zO _ (by omega)).trans hr,zk _ hg⟩,rfl⟩
 ·have hi:i=n % 17:=by omega
  subst hi
  have htk:List.take (n % 17) (zD (vbs n (n % 17) (n % 17)))=zD (vbs n (n % 17) (n % 17)):=List.take_of_length_le (by rw[zo,hl];exact Nat.le_refl _)
  simp only[go_sem,seval, -List.reduceReplicate,hlt,hg,hr,htk,zo,hvl]
  refine zG ((zJs (vbs n (n % 17) (n % 17)) (by omega)).call ?_)
  have hy:∀Q,zA (PS'.set PS.length Q) PS.length=Q:=fun Q=>zk Q hr
  have hz:∀Q,zA (PS'++[Q]) PS.length=_:=fun Q=>zx _ hr
  have hzz:∀Q Q',zA ((PS'++[Q]).set PS.length Q') PS.length=Q':=fun Q Q'=>zk Q' (hz Q)
  have hd16:List.drop 16 (List.replicate 16 (HV.int .u8 0))=[]:=rfl
  simp only[go_sem,seval, -List.reduceReplicate,hr,hy,hz,hzz,hd16,List.append_nil]
  exact(hx.trans (Ext.app PS' _)).since (Ext.set _ PS.length _) (by simp)
end Go.Proofs.YtbmibhjjogobhaaGreat
namespace Go.Proofs.YtbmibhjjogobhaaGreat
open Go Go.Eng Go.Mo
set_option maxRecDepth 20000
attribute [local irreducible] hvc zf hop zg yI zb zu yQ
theorem zGy [zB] (key:Bs) (x y:HV):zP 26 [x] (zJ key++(zK []++[y]))=zJ key++(zK []++[x]):=by
 have h26:(zJ key++zK []).length=26:=by rw[List.length_append,zh,yD]
 rw[zP,show zJ key++(zK []++[y])=(zJ key++zK [])++[y] from (List.append_assoc ..).symm,List.take_left' h26,List.drop_of_length_le (by rw[List.length_append,h26];exact Nat.le_refl _),List.append_nil,List.append_assoc]
theorem Uk (v sq:Int):∃m,okM m∧yC m∧m.seq=(sq % 1099511627776).toNat∧∀[zB],Pure Tryz.prog 132 [.int .i64 v,.int .i64 sq] (.agg (zM m)):=by
 obtain⟨n,hn⟩:∃n:Nat,v % 1099511627776=n:=⟨(v % 1099511627776).toNat,by omega⟩
 have hb:n<1099511627776:=by omega
 obtain⟨s,hs⟩:∃n:Nat,sq % 1099511627776=n:=⟨(sq % 1099511627776).toNat,by omega⟩
 obtain⟨key,k1,_,k2⟩:=WM ((n / 4:Nat):Int)
 obtain⟨val,v1,v2⟩:=Vw ((n / 64:Nat):Int)
 have h3:n % 3=0∨n % 3=1∨n % 3=2:=by omega
 have ht:(n:Int).tmod 3=((n % 3:Nat):Int):=rfl
 have d4:(n:Int).tdiv 4=((n / 4:Nat):Int):=rfl
 have d64:(n:Int).tdiv 64=((n / 64:Nat):Int):=rfl
 have d1024:(n:Int).tdiv 1024=((n / 1024:Nat):Int):=rfl
 rcases h3 with h | h | h
 ·refine⟨⟨1,s,key,val,0⟩,⟨by simp,by simp only;omega,k1,v1,by simp⟩,⟨by simp,by simp,by simp,by simp⟩,by simp only;omega,?_⟩
  intro _
  refine Pure.zp (by rw[wE];exact ki _) fun PS=>?_
  have hp:=vN v 1099511627776 (by omega) (by omega)
  rw[hn] at hp
  have hq:=vN sq 1099511627776 (by omega) (by omega)
  rw[hs] at hq
  refine Kh (by unfold Tryz.f132;exact rfl) ?_
  simp only[go_sem,seval, -List.reduceReplicate]
  refine zG (hp.call ?_)
  rw[h] at ht
  simp only[go_sem,seval, -List.reduceReplicate,ht,d4,d64,d1024]
  refine zG (hq.call ?_)
  simp only[go_sem,seval, -List.reduceReplicate,ht,d4,d64,d1024]
  repeat (refine⟨by omega,?_⟩)
  refine zG (k2.call ?_)
  have hz1:List.drop 8 (List.replicate 8 (HV.int .u8 0)++[HV.int .i64 0]++List.replicate 16 (HV.int .u8 0)++[HV.int .u64 0])=zK []++[HV.int .u64 0]:=rfl
  have hz2:List.drop 27 (HV.int .i64 0::(List.replicate 8 (HV.int .u8 0)++[HV.int .i64 0]++List.replicate 16 (HV.int .u8 0)++[HV.int .u64 0]))=[]:=rfl
  have ho:∀v n,qS (zJ key++(zK v++[HV.int .u64 n]))=True:=fun v n=>eq_true ((qy _).2 (by intro y hy;rcases List.mem_append.1 hy with hy | hy;exact gX _ y hy;rcases List.mem_append.1 hy with hy | hy;exact kU _ y hy;simp at hy;subst hy;rfl))
  have htt:∀v n,List.take 27 (zJ key++(zK v++[HV.int .u64 n]))=zJ key++(zK v++[HV.int .u64 n]):=fun v n=>List.take_of_length_le (by simp[zh,yD])
  have hg:∀Q Q',zA (PS++[Q,Q']) PS.length=Q:=fun Q Q'=>by simp[zA]
  have hg1:∀Q v s E o,zA (PS++[Q,.arr v s E o]) (PS.length+1)=.arr v s E o:=fun Q v s E o=>by simp[zA,List.getElem?_append_right]
  have hs1:∀Q Q' Q'',(PS++[Q,Q']).set (PS.length+1) Q''=PS++[Q,Q'']:=fun Q Q' Q''=>by simp[List.set_append_right]
  have hs0:∀Q Q' Q'',(PS++[Q,Q']).set PS.length Q''=PS++[Q'',Q']:=fun Q Q' Q''=>by simp[List.set_append_right]
  simp only[go_sem,seval, -List.reduceReplicate,ht,d4,d64,d1024,hz1,hz2,ho,htt,hg,hg1,hs1,hs0,h,List.append_nil,List.length_append,zh,yD]
  repeat (refine⟨by omega,?_⟩)
  refine zG ?_
  refine v2.call ?_
  have hsp:zP 9 (zK val) (zJ key++(zK []++[HV.int .u64 0]))=zJ key++(zK val++[HV.int .u64 0]):=by
   rw[zP,List.take_left' (zh _),yD,←List.drop_drop,List.drop_left' (zh _),List.drop_left' (yD _)]
  simp only[go_sem,seval, -List.reduceReplicate,hg,hg1,hs1,hs0,hsp,hz2,ho,htt,List.append_nil,List.length_append,zh,yD]
  exact⟨rfl,Ext.app _ _⟩
 ·refine⟨⟨2,s,key,[],0⟩,⟨by simp,by simp only;omega,k1,by simp[okV],by simp⟩,⟨by simp,by simp,by simp,by simp⟩,by simp only;omega,?_⟩
  intro _
  refine Pure.zp (by rw[wE];exact ki _) fun PS=>?_
  have hp:=vN v 1099511627776 (by omega) (by omega)
  rw[hn] at hp
  have hq:=vN sq 1099511627776 (by omega) (by omega)
  rw[hs] at hq
  refine Kh (by unfold Tryz.f132;exact rfl) ?_
  simp only[go_sem,seval, -List.reduceReplicate]
  refine zG (hp.call ?_)
  rw[h] at ht
  simp only[go_sem,seval, -List.reduceReplicate,ht,d4,d64,d1024]
  refine zG (hq.call ?_)
  simp only[go_sem,seval, -List.reduceReplicate,ht,d4,d64,d1024]
  repeat (refine⟨by omega,?_⟩)
  refine zG (k2.call ?_)
  have hz1:List.drop 8 (List.replicate 8 (HV.int .u8 0)++[HV.int .i64 0]++List.replicate 16 (HV.int .u8 0)++[HV.int .u64 0])=zK []++[HV.int .u64 0]:=rfl
  have hz2:List.drop 27 (HV.int .i64 0::(List.replicate 8 (HV.int .u8 0)++[HV.int .i64 0]++List.replicate 16 (HV.int .u8 0)++[HV.int .u64 0]))=[]:=rfl
  have ho:∀v n,qS (zJ key++(zK v++[HV.int .u64 n]))=True:=fun v n=>eq_true ((qy _).2 (by intro y hy;rcases List.mem_append.1 hy with hy | hy;exact gX _ y hy;rcases List.mem_append.1 hy with hy | hy;exact kU _ y hy;simp at hy;subst hy;rfl))
  have htt:∀v n,List.take 27 (zJ key++(zK v++[HV.int .u64 n]))=zJ key++(zK v++[HV.int .u64 n]):=fun v n=>List.take_of_length_le (by simp[zh,yD])
  have hg:∀Q Q',zA (PS++[Q,Q']) PS.length=Q:=fun Q Q'=>by simp[zA]
  have hg1:∀Q v s E o,zA (PS++[Q,.arr v s E o]) (PS.length+1)=.arr v s E o:=fun Q v s E o=>by simp[zA,List.getElem?_append_right]
  have hs1:∀Q Q' Q'',(PS++[Q,Q']).set (PS.length+1) Q''=PS++[Q,Q'']:=fun Q Q' Q''=>by simp[List.set_append_right]
  have hs0:∀Q Q' Q'',(PS++[Q,Q']).set PS.length Q''=PS++[Q'',Q']:=fun Q Q' Q''=>by simp[List.set_append_right]
  simp only[go_sem,seval, -List.reduceReplicate,ht,d4,d64,d1024,hz1,hz2,ho,htt,hg,hg1,hs1,hs0,h,List.append_nil,List.length_append,zh,yD]
  exact⟨rfl,Ext.app _ _⟩
 ·refine⟨⟨3,s,key,[],n / 1024*65537⟩,⟨by simp,by simp only;omega,k1,by simp[okV],by simp only;omega⟩,⟨by simp,by simp,by simp,by simp⟩,by simp only;omega,?_⟩
  intro _
  refine Pure.zp (by rw[wE];exact ki _) fun PS=>?_
  have hp:=vN v 1099511627776 (by omega) (by omega)
  rw[hn] at hp
  have hq:=vN sq 1099511627776 (by omega) (by omega)
  rw[hs] at hq
  have hmul:IntKind.u64.wrap (((n / 1024:Nat):Int)*65537)=((n / 1024*65537:Nat):Int):=by
   show (((n / 1024:Nat):Int)*65537) % 18446744073709551616=_
   omega
  refine Kh (by unfold Tryz.f132;exact rfl) ?_
  simp only[go_sem,seval, -List.reduceReplicate]
  refine zG (hp.call ?_)
  rw[h] at ht
  simp only[go_sem,seval, -List.reduceReplicate,ht,d4,d64,d1024]
  refine zG (hq.call ?_)
  simp only[go_sem,seval, -List.reduceReplicate,ht,d4,d64,d1024]
  repeat (refine⟨by omega,?_⟩)
  refine zG (k2.call ?_)
  have hz1:List.drop 8 (List.replicate 8 (HV.int .u8 0)++[HV.int .i64 0]++List.replicate 16 (HV.int .u8 0)++[HV.int .u64 0])=zK []++[HV.int .u64 0]:=rfl
  have hz2:List.drop 27 (HV.int .i64 0::(List.replicate 8 (HV.int .u8 0)++[HV.int .i64 0]++List.replicate 16 (HV.int .u8 0)++[HV.int .u64 0]))=[]:=rfl
  have ho:∀v n,qS (zJ key++(zK v++[HV.int .u64 n]))=True:=fun v n=>eq_true ((qy _).2 (by intro y hy;rcases List.mem_append.1 hy with hy | hy;exact gX _ y hy;rcases List.mem_append.1 hy with hy | hy;exact kU _ y hy;simp at hy;subst hy;rfl))
  have htt:∀v n,List.take 27 (zJ key++(zK v++[HV.int .u64 n]))=zJ key++(zK v++[HV.int .u64 n]):=fun v n=>List.take_of_length_le (by simp[zh,yD])
  have hg:∀Q Q',zA (PS++[Q,Q']) PS.length=Q:=fun Q Q'=>by simp[zA]
  have hg1:∀Q v s E o,zA (PS++[Q,.arr v s E o]) (PS.length+1)=.arr v s E o:=fun Q v s E o=>by simp[zA,List.getElem?_append_right]
  have hs1:∀Q Q' Q'',(PS++[Q,Q']).set (PS.length+1) Q''=PS++[Q,Q'']:=fun Q Q' Q''=>by simp[List.set_append_right]
  have hs0:∀Q Q' Q'',(PS++[Q,Q']).set PS.length Q''=PS++[Q'',Q']:=fun Q Q' Q''=>by simp[List.set_append_right]
  simp only[go_sem,seval, -List.reduceReplicate,ht,d4,d64,d1024,hz1,hz2,ho,htt,hg,hg1,hs1,hs0,hmul,zGy,List.append_nil,List.length_append,zh,yD]
  exact⟨by omega,by omega,rfl,Ext.app _ _⟩
end Go.Proofs.YtbmibhjjogobhaaGreat
