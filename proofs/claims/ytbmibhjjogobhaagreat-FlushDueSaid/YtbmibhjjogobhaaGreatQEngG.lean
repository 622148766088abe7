/-
Conversions, nil checks, comparisons, aggregates that are built; all operations that only compute as one abstract meaning.
No conditions.
-/
import Derived.Test.YtbmibhjjogobhaaGreatQEngF
import Derived.Laws.StructEq
set_option linter.unusedSectionVars false
set_option linter.unusedSimpArgs false
set_option linter.unusedVariables false
namespace Go.Eng
open Go
variable [zB]
/-- Is it the value of one cell. -/
def HV.one:HV→Bool
 | .agg _ | .tup _ | .junk=>false
 | .cst v=>v.oneCell'
 | _=>true
def vi:HV→List HV
 | .agg l=>l
 | x=>[x]
def zP {α:Type} (off:Nat) (new l:List α):List α:=l.take off++(new++l.drop (off+new.length))
def qt (P:Program) (t:TypeId) (i:Nat):Option (Nat×Nat):=
 match P.underlying t with
 | some (.struct fs)=>match fs[i]? with
  | some f=>(P.info? f.type).map fun x=>(f.offset,x.size)
  | none=>none
 | some (.array _ e)=>(P.info? e).map fun x=>(i*x.size,x.size)
 | _=>none
/-- Are all fields' types known. -/
def jk (P:Program) (t:TypeId):Bool:=
 match P.underlying t with
 | some (.struct fs)=>fs.toList.all fun f=>(P.info? f.type).isSome
 | some (.array _ e)=>(P.info? e).isSome
 | _=>false
def qP (P:Program) (t:TypeId):Option (List HV):=
 match P.info? t with
 | some i=>match i.zero with
  | some z=>if z.cells.all (·.oneCell')=true then some (z.cells.toList.map ofV) else none
  | none=>none
 | none=>none
theorem QE {P:Program} {t:TypeId} {l:List HV} (h:qP P t=some l):∃i z,P.info? t=some i∧i.zero=some z∧l=z.cells.toList.map ofV∧∀v∈z.cells.toList,v.oneCell'=true:=by
 unfold qP at h
 cases hi:P.info? t with
 | none=>rw[hi] at h;cases h
 | some i=>
  rw[hi] at h
  cases hz:i.zero with
  | none=>simp only[hz] at h;cases h
  | some z=>
   simp only[hz] at h
   split at h
   ·rename_i ha
    cases h
    refine⟨i,z,rfl,hz,rfl,fun v hv=>?_⟩
    rw[Array.all_eq_true_iff_forall_mem] at ha
    exact ha v (Array.mem_toList_iff.1 hv)
   ·cases h
def qW (P:Program) (t:TypeId) (K:List HV→Prop):List HV→List (Nat×HV)→Prop
 | l,[]=>K l
 | l,(i,x)::r=>match qt P t i with
  | none=>False
  | some (off,s)=>(x.one=true∨∃c,x=.agg c)∧(vi x).length=s∧off+s≤l.length∧qW P t K (zP off (vi x) l) r
def uK (P:Program) (t:TypeId) (parts:List (Nat×HV)) (K:HV→Prop):Prop:=
 jk P t=true∧match qP P t with
  | some z=>qW P t (fun l=>K (.agg l)) z parts
  | none=>False
section
variable {P:Program} {F:Nat→Prop} {e:List Pos} {D:Nat→Nat→Prop} {PS:PL} {w:World}
theorem zC6 {M:Nat→Prop} {x:HV} {u:Value} (h:zH M e w x u) (h1:x.one=true):u.oneCell'=true:=by
 cases h<;>first | rfl | assumption | (simp[HV.one] at h1;done) | (rename_i h2;cases h2;rfl) | (simpa [HV.one] using h1)
theorem zPm {u:Value} (h:u.oneCell'=true):u.cells=#[u]:=by cases u<;>first | rfl | (simp[Value.oneCell'] at h)
/-- The cells of a value. -/
theorem zBz {M:Nat→Prop} {x:HV} {u:Value} (h:zH M e w x u) (h1:x.one=true∨∃c,x=.agg c):
  u.cells.size=(vi x).length∧∀(i:Nat) (y:HV) (v:Value),(vi x)[i]? =some y→u.cells[i]? =some v→zH M e w y v:=by
 rcases h1 with h1 | ⟨c,rfl⟩
 ·have ho:=zPm (zC6 h h1)
  have hx:vi x=[x]:=by cases x<;>first | rfl | (simp[HV.one] at h1)
  rw[ho,hx]
  refine⟨rfl,fun i y v hy hv=>?_⟩
  cases i with
  | zero=>simp at hy hv;subst hy;subst hv;exact h
  | succ i=>simp at hy
 ·cases h with
  | agg l vs hl hh=>exact⟨hl,hh⟩
theorem xd {α:Type} (off:Nat) (new l:List α) (h:off+new.length≤l.length) (i:Nat):
  (zP off new l)[i]? =if off≤i∧i<off+new.length then new[i - off]? else l[i]? :=by
 unfold zP
 by_cases h1:i<off
 ·rw[List.getElem?_append_left (by simp;omega),List.getElem?_take_of_lt h1,if_neg (by omega)]
 ·rw[List.getElem?_append_right (by simp;omega)]
  have ht:(l.take off).length=off:=by simp;omega
  rw[ht]
  by_cases h2:i<off+new.length
  ·rw[List.getElem?_append_left (by omega),if_pos ⟨by omega,h2⟩]
  ·rw[List.getElem?_append_right (by omega),if_neg (by omega),List.getElem?_drop]
   congr 1;omega
theorem kn {α:Type} (off:Nat) (new l:List α) (h:off+new.length≤l.length):(zP off new l).length=l.length:=by
 unfold zP;simp;omega
theorem zAa (vs:List Value):∀(off k:Nat) (cs:Array Value),off+k+vs.length≤cs.size→
  ((vs.zipIdx k).foldl (fun cs (c,j)=>cs.setIfInBounds (off+j) c) cs).size=cs.size∧
  ∀i:Nat,((vs.zipIdx k).foldl (fun cs (c,j)=>cs.setIfInBounds (off+j) c) cs)[i]? =if off+k≤i∧i<off+k+vs.length then vs[i - (off+k)]? else cs[i]? :=by
 induction vs with
 | nil=>intro off k cs h;simp;intro i h1 h2;omega
 | cons v vs ih=>
  intro off k cs h
  simp only[List.zipIdx_cons,List.foldl_cons]
  simp only[List.length_cons] at h
  obtain⟨h1,h2⟩:=ih off (k+1) (cs.setIfInBounds (off+k) v) (by simp;omega)
  refine⟨by rw[h1];simp,fun i=>?_⟩
  rw[h2 i]
  by_cases hi:i=off+k
  ·subst hi
   rw[if_neg (by omega),if_pos (by simp)]
   have:off+k<cs.size:=by omega
   simp[this]
  ·by_cases h3:off+(k+1)≤i∧i<off+(k+1)+vs.length
   ·rw[if_pos h3,if_pos (by simp;omega)]
    rw[show i - (off+k)=(i - (off+(k+1)))+1 from by omega]
    simp
   ·rw[if_neg h3,if_neg (by simp;omega)]
    rw[Array.getElem?_setIfInBounds_ne (by omega)]
theorem zEN {M:Nat→Prop} {t:TypeId} {K:List HV→Prop} {place:Nat→Option (Nat×Nat)} (hp:∀i r,qt P t i=some r→place i=some r):
  ∀(ps:List (Nat×HV)) (vs:List (Nat×Value)) (l:List HV) (cs:Array Value),cs.size=l.length→(∀(i:Nat) (y:HV) (v:Value),l[i]? =some y→cs[i]? =some v→zH M e w y v)→
   ps.length=vs.length→(∀(i:Nat) (p:Nat×HV) (q:Nat×Value),ps[i]? =some p→vs[i]? =some q→p.1=q.1∧zH M e w p.2 q.2)→qW P t K l ps→
   ∃l' cs',Instr.fill place cs vs=some cs'∧cs'.size=l'.length∧(∀(i:Nat) (y:HV) (v:Value),l'[i]? =some y→cs'[i]? =some v→zH M e w y v)∧K l':=by
 intro ps
 induction ps with
 | nil=>
  intro vs l cs hs hr hlen _ h
  obtain rfl:vs=[]:=List.eq_nil_of_length_eq_zero hlen.symm
  exact⟨l,cs,rfl,hs,hr,h⟩
 | cons p ps ih=>
  intro vs l cs hs hr hlen hps h
  obtain⟨i,x⟩:=p
  cases vs with
  | nil=>simp at hlen
  | cons q vs=>
   obtain⟨i',u⟩:=q
   obtain⟨h1,h2⟩:=hps 0 (i,x) (i',u) rfl rfl
   simp only at h1 h2
   subst h1
   simp only[qW] at h
   cases hb:qt P t i with
   | none=>rw[hb] at h;exact h.elim
   | some r=>
    obtain⟨off,s⟩:=r
    rw[hb] at h
    obtain⟨ha,hl,ho,hf⟩:=h
    obtain⟨hc1,hc2⟩:=zBz h2 ha
    have hfs:=zAa u.cells.toList off 0 cs (by simp;omega)
    have hz:u.cells.zipIdx.foldl (fun cs (c,j)=>cs.setIfInBounds (off+j) c) cs=(u.cells.toList.zipIdx 0).foldl (fun cs (c,j)=>cs.setIfInBounds (off+j) c) cs:=by
     rw[←Array.foldl_toList];simp
    obtain⟨l',cs',r1,r2,r3,r4⟩:=ih vs (zP off (vi x) l) (u.cells.zipIdx.foldl (fun cs (c,j)=>cs.setIfInBounds (off+j) c) cs)
     (by rw[hz,hfs.1,kn _ _ _ (by omega),hs]) (by
      intro j y v hy hv
      rw[hz,hfs.2 j] at hv
      rw[xd _ _ _ (by omega)] at hy
      simp only[Nat.add_zero,Array.length_toList] at hv
      rw[hc1] at hv
      split at hv
      ·rename_i hj
       rw[if_pos hj] at hy
       exact hc2 _ _ _ hy (by simpa using hv)
      ·rename_i hj
       rw[if_neg hj] at hy
       exact hr _ _ _ hy hv)
     (by simpa using hlen) (fun j p q hp hq=>hps (j+1) p q (by simpa using hp) (by simpa using hq)) hf
    refine⟨l',cs',?_,r2,r3,r4⟩
    simp only[Instr.fill,hp i (off,s) hb,hc1,hl]
    rw[if_neg (by simp;omega)]
    exact r1
theorem zKf (fs:Array Field) (h:fs.toList.all (fun f=>(P.info? f.type).isSome)=true):
  (fs.mapM fun f=>do pure (f.offset,←sizeOf f.type):Sem (Array (Nat×Nat))).run P w=.ok (fs.map fun f=>(f.offset,P.cellsOf f.type)) w:=by
 rw[Array.mapM_eq_mapM_toList]
 have:∀l:List Field,l.all (fun f=>(P.info? f.type).isSome)=true→
   (l.mapM fun f=>do pure (f.offset,←sizeOf f.type):Sem (List (Nat×Nat))).run P w=.ok (l.map fun f=>(f.offset,P.cellsOf f.type)) w:=by
  intro l
  induction l with
  | nil=>intro _;rfl
  | cons f l ih=>
   intro h
   simp only[List.all_cons,Bool.and_eq_true] at h
   obtain⟨i,hi⟩:=Option.isSome_iff_exists.1 h.1
   have ih:=ih h.2
   simp only[List.mapM_cons,Sem.run_bind,qC hi,Result.andThen_ok,Sem.run_pure,ih,List.map_cons,Program.cellsOf,hi,Option.map_some,Option.getD_some]
 have h2:=this fs.toList h
 show Sem.run P ((fs.toList.mapM fun f=>do pure (f.offset,←sizeOf f.type):Sem (List (Nat×Nat)))>>=fun a=>pure a.toArray) w=_
 rw[Sem.run_bind,h2]
 simp only[Result.andThen_ok,Sem.run_pure]
 rw[←Array.toList_map,Array.toArray_toList]
theorem zO6 {M:Nat→Prop} {t:TypeId} {ps:List (Nat×HV)} {vs:Array (Nat×Value)} {K:HV→Prop} (hlen:ps.length=vs.size)
  (hps:∀(i:Nat) (p:Nat×HV) (q:Nat×Value),ps[i]? =some p→vs[i]? =some q→p.1=q.1∧zH M e w p.2 q.2) (hc:uK P t ps K):
  ∃y v,(Instr.build t vs).run P w=.ok v w∧zH M e w y v∧K y:=by
 obtain⟨hk,hc⟩:=hc
 cases hzc:qP P t with
 | none=>rw[hzc] at hc;exact hc.elim
 | some zl=>
   obtain⟨i,z,hi,hz,rfl,_⟩:=QE hzc
   simp only[hzc] at hc
   have hzr:(zeroValue t).run P w=.ok z w:=by simp[zeroValue,typeInfo,hi,hz]
   have rel0:∀(i:Nat) (y:HV) (v:Value),(z.cells.toList.map ofV)[i]? =some y→z.cells[i]? =some v→zH M e w y v:=by
    intro i y v hy hv
    rw[List.getElem?_map] at hy
    have:z.cells.toList[i]? =some v:=by simpa using hv
    rw[this] at hy
    cases hy
    exact xc M e w v
   unfold jk at hk
   cases hu:P.underlying t with
   | none=>rw[hu] at hk;cases hk
   | some d=>
    cases d with
    | struct fs=>
     rw[hu] at hk
     have hm:=zKf (P:=P) (w:=w) fs hk
     obtain⟨l',cs',r1,r2,r3,r4⟩:=zEN (P:=P) (M:=M) (e:=e) (w:=w) (t:=t) (K:=fun l=>K (.agg l)) (place:=fun i=>(fs.map fun f=>(f.offset,P.cellsOf f.type))[i]?) (by
      intro j r hr
      unfold qt at hr
      rw[hu] at hr
      simp only at hr
      cases hf:fs[j]? with
      | none=>rw[hf] at hr;cases hr
      | some f=>
       rw[hf] at hr
       simp only at hr
       cases hif:P.info? f.type with
       | none=>rw[hif] at hr;cases hr
       | some x=>rw[hif] at hr;cases hr;simp[hf,Program.cellsOf,hif]) ps vs.toList _ z.cells (by simp) rel0 (by simpa using hlen) (by
      intro j p q hp hq;exact hps j p q hp (by simpa using hq)) hc
     refine⟨_,.agg cs',?_,.agg _ _ r2 r3,r4⟩
     simp only[Instr.build,Sem.run_bind,hzr,Result.andThen_ok,run_underlying hu,hm,r1,Sem.run_pure]
    | array N e'=>
     rw[hu] at hk
     obtain⟨ti,hti⟩:=Option.isSome_iff_exists.1 hk
     obtain⟨l',cs',r1,r2,r3,r4⟩:=zEN (P:=P) (M:=M) (e:=e) (w:=w) (t:=t) (K:=fun l=>K (.agg l)) (place:=fun i=>some (i*ti.size,ti.size)) (by
      intro j r hr
      unfold qt at hr
      rw[hu] at hr
      simp only[hti,Option.map_some] at hr
      exact hr) ps vs.toList _ z.cells (by simp) rel0 (by simpa using hlen) (by
      intro j p q hp hq;exact hps j p q hp (by simpa using hq)) hc
     refine⟨_,.agg cs',?_,.agg _ _ r2 r3,r4⟩
     simp only[Instr.build,Sem.run_bind,hzr,Result.andThen_ok,run_underlying hu,qC hti,r1,Sem.run_pure]
    | _=>rw[hu] at hk;cases hk
/-! ### nil,comparisons,conversions -/
theorem zI0 (h:Rel F e D PS w) {x:HV} {u:Value} {K:HV→Prop} (hx:zH (Mut F D) e w x u) (hc:wg PS x K) (ρ:Operand→Value) (o:Oper) (y:Operand) (ho:o.op=.nilCheck y) (hy:ρ y=u):
  ∃z v,(execOp ρ o).run P w=.ok (.value v) w∧zH (Mut F D) e w z v∧K z:=by
 cases x with
 | ptr n ver i k=>
  obtain⟨hl,hK⟩:=hc
  obtain⟨p,b,o',sz,cap,hp,hv,hkd,rfl⟩:=kr h hx hl
  exact⟨_,_,by simp[execOp,ho,hy],hx,hK⟩
 | iptr l k=>
  cases hx':u with
  | pointer a=>
   cases a with
   | none=>subst hx';cases hx
   | some a=>subst hx';exact⟨_,_,by simp[execOp,ho,hy],hx,hc⟩
  | _=>subst hx';cases hx
 | func fn a b=>
  cases fn with
  | func f=>
   cases hx with
   | func fn a b fs cs h1 h2 h3 h4=>exact⟨_,_,by simp[execOp,ho,hy],.func _ a b fs cs h1 h2 h3 h4,hc⟩
  | _=>exact hc.elim
 | cst v=>
  cases hx
  cases u with
  | func fn a b=>
   cases fn with
   | func f=>exact⟨_,_,by simp[execOp,ho,hy],.cst _,hc⟩
   | _=>exact hc.elim
  | _=>exact hc.elim
 | iface t x=>
  cases hx with
  | iface t x u h1=>exact⟨_,_,by simp[execOp,ho,hy],.iface t x u h1,hc⟩
 | _=>exact hc.elim
theorem toList_mk (s:List UInt8):(⟨s.toArray⟩:ByteArray).toList=s:=by rw[ByteArray.toList_eq]
theorem zH1 {op:UnOp} {x:HV} {u:Value} {K:HV→Prop} (hx:zH (Mut F D) e w x u) (hc:hun op x K):
  ∃y v,(Op.unary op u).run P w=.ok v w∧zH (Mut F D) e w y v∧K y:=by
 have hf:∀(k:IntKind) (n:Int),wN k n K→∃y v,(pure (Value.int k (k.wrap n)):Sem Value).run P w=.ok v w∧zH (Mut F D) e w y v∧K y:=by
  intro k n h
  cases k with
  | i64=>exact⟨_,_,rfl,by rw[wrap_i64 h.1];exact .int _ _,h.2⟩
  | _=>exact⟨_,_,rfl,.int _ _,h⟩
 unfold hun at hc
 split at hc
 ·cases hx;simpa [Op.unary,Op.intArith] using hf _ _ hc
 ·rename_i k n
  cases hx
  exact⟨_,.int k (yZ .xor k (if k.signed then -1 else k.max) n),by simp only[Op.unary,Op.intBits];rfl,.int _ _,hc⟩
 ·cases hx;exact⟨_,_,rfl,.bool _,hc⟩
 ·exact hc.elim
theorem Wt {op:BinOp} {a b:List UInt8} {K:HV→Prop} (hc:vP op a b K):
  ∃y v,(Op.stringOp op ⟨a.toArray⟩ ⟨b.toArray⟩).run P w=.ok v w∧zH (Mut F D) e w y v∧K y:=by
 have hs:∀l:List UInt8,(⟨l.toArray⟩:ByteArray).size=l.length:=fun l=>by simp[ByteArray.size]
 have hd:(a == b)=decide (a=b):=by by_cases h:a=b<;>simp[h]
 cases op<;>simp only[vP] at hc
 case add=>
  obtain⟨h1,h2⟩:=hc
  refine⟨_,.string ⟨(a++b).toArray⟩,?_,.str _,h2⟩
  have h3:¬(((a.length+b.length:Nat):Int)>IntKind.i64.max):=by
   simp only[maxLen] at h1
   simp only[IntKind.max,IntKind.signed,IntKind.bits,if_true]
   omega
  simp only[Op.stringOp,hs,if_neg h3,Sem.run_pure]
  congr 2
 case eql=>exact⟨_,.bool (decide (a=b)),by simp only[Op.stringOp,toList_mk,hd,Sem.run_pure],.bool _,hc⟩
 case neq=>exact⟨_,.bool (!decide (a=b)),by simp only[Op.stringOp,toList_mk,hd,Sem.run_pure],.bool _,hc⟩
 case lss=>exact⟨_,.bool (Op.bytesLess a b),by simp only[Op.stringOp,toList_mk,hd,Sem.run_pure],.bool _,hc⟩
 case leq=>exact⟨_,.bool (Op.bytesLess a b || decide (a=b)),by simp only[Op.stringOp,toList_mk,hd,Sem.run_pure],.bool _,hc⟩
 case gtr=>exact⟨_,.bool (!(Op.bytesLess a b || decide (a=b))),by simp only[Op.stringOp,toList_mk,hd,Sem.run_pure],.bool _,hc⟩
 case geq=>exact⟨_,.bool (!Op.bytesLess a b),by simp only[Op.stringOp,toList_mk,hd,Sem.run_pure],.bool _,hc⟩
theorem vW {op:BinOp} {t:TypeId} {x y:Operand} {u v:Value} (h1:u≠ .nilIface) (h2:∀c,u≠ .agg c):(eqGuard op t x y u v:Sem Unit).run P w=.ok () w:=by
 unfold eqGuard
 cases op<;>simp
 all_goals (split<;>first | rfl | (exfalso;simp_all))
theorem Ub {t s:TypeId} (hu:P.underlying t=some (.pointer s)) (a:Addr) (d:Nat):(Op.equalIn (d+1) t (.pointer (some a)) (.pointer none)).run P w=.ok false w:=by
 simp only[Op.equalIn,Sem.run_bind,run_underlying hu,Result.andThen_ok];rfl
theorem zBf {t s:TypeId} (hu:P.underlying t=some (.pointer s)) (d:Nat):(Op.equalIn (d+1) t (.pointer none) (.pointer none)).run P w=.ok true w:=by
 simp only[Op.equalIn,Sem.run_bind,run_underlying hu,Result.andThen_ok];rfl
theorem xG {op:BinOp} {t:TypeId} {u v:Value} {r:Bool} {K:HV→Prop} (px py:Operand) (hg:(eqGuard op t px py u v).run P w=.ok () w) (he:(binOp .eql t u v).run P w=.ok (.bool r) w) (hn:(binOp .neq t u v).run P w=.ok (.bool !r) w) (hc:hbt op r K):
  ∃z r,(do eqGuard op t px py u v;binOp op t u v:Sem Value).run P w=.ok r w∧zH (Mut F D) e w z r∧K z:=by
 rw[Sem.run_bind,hg]
 simp only[Result.andThen_ok]
 cases op<;>first | exact False.elim hc | skip
 ·exact⟨_,.bool r,he,.bool _,hc⟩
 ·exact⟨_,.bool (!r),hn,.bool _,hc⟩
theorem zNL {n:Nat} {y:HV} (h:ku n .junk y):False:=by unfold ku at h;split at h<;>simp_all
theorem zK6 {n:Nat} {y:HV} (h:ku n y .junk):False:=by unfold ku at h;split at h<;>simp_all
theorem zRM {t:TypeId} {ps:Cells} (h:eqO P t=some ps):P.eqGuardType P.depth t=false∧eqK P 40 t=some ps∧(match P.underlying t with | some (.struct _) | some (.array _ _)=>True | _=>False):=by
 unfold eqO at h
 split at h
 ·cases h
 ·rename_i hg
  split at h
  ·rename_i hu;exact⟨by simpa using hg,h,by rw[hu];trivial⟩
  ·rename_i hu;exact⟨by simpa using hg,h,by rw[hu];trivial⟩
  ·cases h
theorem Uh (a b:List UInt8):((⟨a.toArray⟩:ByteArray).toList == (⟨b.toArray⟩:ByteArray).toList)=decide (a=b):=by
 rw[ByteArray.toList_eq,ByteArray.toList_eq,Bool.eq_iff_iff]
 simp
theorem zHN {M:Nat→Prop} {a b:List HV} {xs ys:Array Value} (hx:zH M e w (.agg a) (.agg xs)) (hy:zH M e w (.agg b) (.agg ys)) (ps:Cells) (hf:xA ps a b):
  XN 0 ps xs ys∧wM 0 ps xs ys=uU ps a b:=by
 cases hx with
 | agg _ _ hl1 hv1=>
 cases hy with
 | agg _ _ hl2 hv2=>
 have one:∀p∈ps,p.1<xs.size∧p.1<ys.size∧Fits p.2 (vAt xs p.1) (vAt ys p.1)∧veq (vAt xs p.1) (vAt ys p.1)=vu (get a p.1) (get b p.1):=by
  intro p hp
  have hfp:=hf p hp
  have h1:p.1<a.length:=by
   rcases Nat.lt_or_ge p.1 a.length with h | h
   ·exact h
   ·have:get a p.1=.junk:=by unfold get;simp[List.getD,List.getElem?_eq_none h]
    rw[this] at hfp
    exact(zNL hfp).elim
  have h2:p.1<b.length:=by
   rcases Nat.lt_or_ge p.1 b.length with h | h
   ·exact h
   ·have:get b p.1=.junk:=by unfold get;simp[List.getD,List.getElem?_eq_none h]
    rw[this] at hfp
    exact(zK6 hfp).elim
  have h1':p.1<xs.size:=by omega
  have h2':p.1<ys.size:=by omega
  have r1:=hv1 p.1 a[p.1] xs[p.1] (by simp[h1]) (by simp[h1'])
  have r2:=hv2 p.1 b[p.1] ys[p.1] (by simp[h2]) (by simp[h2'])
  have e1:vAt xs p.1=xs[p.1]:=by simp[vAt,h1']
  have e2:vAt ys p.1=ys[p.1]:=by simp[vAt,h2']
  have e3:get a p.1=a[p.1]:=by simp[get,List.getD,h1]
  have e4:get b p.1=b[p.1]:=by simp[get,List.getD,h2]
  rw[e3,e4] at hfp
  rw[e1,e2,e3,e4]
  refine⟨h1',h2',?_⟩
  generalize a[p.1]=x at r1 hfp
  generalize b[p.1]=y at r2 hfp
  generalize xs[p.1]=u at r1
  generalize ys[p.1]=v at r2
  generalize p.2=k at hfp
  unfold ku at hfp
  split at hfp
  ·cases r1;cases r2;exact⟨trivial,rfl⟩
  ·cases r1;cases r2;exact⟨hfp,by simp only[veq,vu];rw[Bool.eq_iff_iff];simp⟩
  ·cases r1;cases r2;exact⟨trivial,by simp only[veq,vu];exact Uh _ _⟩
  ·cases r1;cases r2;exact⟨hfp,by simp only[veq,vu];rw[Bool.eq_iff_iff];simp⟩
  ·cases r1;cases r2;exact⟨hfp,by simp only[veq,vu];rw[Bool.eq_iff_iff];simp⟩
  ·cases r1;cases r2;exact⟨hfp,by simp only[veq,vu];rw[Bool.eq_iff_iff];simp⟩
  ·cases r1;cases r2;exact⟨trivial,by simp only[veq,vu];exact Uh _ _⟩
  ·cases r1;cases r2;exact⟨trivial,by simp only[veq,vu];exact Uh _ _⟩
  ·cases r1;cases r2;exact⟨trivial,by simp only[veq,vu];exact Uh _ _⟩
  ·exact hfp.elim
 refine⟨fun p hp=>?_,?_⟩
 ·obtain⟨a1,a2,a3,_⟩:=one p hp
  simpa using ⟨a1,a2,a3⟩
 ·unfold wM uU
  rw[Bool.eq_iff_iff,List.all_eq_true,List.all_eq_true]
  exact⟨fun H p hp=>(one p hp).2.2.2▸(by simpa using H p hp),fun H p hp=>by have:=(one p hp).2.2.2;simpa [this] using H p hp⟩
theorem zIL (h:Rel F e D PS w) {op:BinOp} {t:TypeId} {x y:HV} {u v:Value} {K:HV→Prop} (px py:Operand) (hx:zH (Mut F D) e w x u) (hy:zH (Mut F D) e w y v) (hc:qu P PS op t x y K):
  ∃z r,(do eqGuard op t px py u v;binOp op t u v:Sem Value).run P w=.ok r w∧zH (Mut F D) e w z r∧K z:=by
 unfold qu at hc
 split at hc
 ·rename_i k a k' b
  cases hx;cases hy
  obtain⟨r,h1,z,h2,h3⟩:=Ur (P:=P) (t:=t) (w:=w) hc
  rw[Sem.run_bind,vW (by simp) (by simp)] at h1 ⊢
  exact⟨z,r,h1,h2 _ _,h3⟩
 ·rename_i a b
  cases hx;cases hy
  rw[Sem.run_bind,vW (by simp) (by simp)]
  obtain⟨z,r,h1,h2,h3⟩:=Wt (P:=P) (F:=F) (e:=e) (D:=D) (w:=w) hc
  refine⟨z,r,?_,h2,h3⟩
  simp only[Result.andThen_ok]
  cases op<;>first | exact h1 | exact hc.elim
 ·rename_i a b
  cases hx;cases hy
  obtain⟨hu,hc⟩:=hc
  exact xG px py (vW (by simp) (by simp)) (by simp[binOp,Op.equal,Op.maxDepth,run_equalIn_bool' w 9999 t a b hu]) (by simp[binOp,Op.equal,Op.maxDepth,run_equalIn_bool' w 9999 t a b hu]) hc
 ·rename_i n ver i k
  cases hy
  obtain⟨hl,⟨s,hu⟩,hc⟩:=hc
  obtain⟨p,b,o,sz,cap,_,_,_,rfl⟩:=kr h hx hl
  exact xG px py (vW (by simp) (by simp)) (by simp[binOp,Op.equal,Op.maxDepth,Ub hu _ 9999]) (by simp[binOp,Op.equal,Op.maxDepth,Ub hu _ 9999]) hc
 ·rename_i l k
  cases hy
  obtain⟨⟨s,hu⟩,hc⟩:=hc
  cases hx with
  | iptr l k b o val hb h1c hcell zT=>exact xG px py (vW (by simp) (by simp)) (by simp[binOp,Op.equal,Op.maxDepth,Ub hu _ 9999]) (by simp[binOp,Op.equal,Op.maxDepth,Ub hu _ 9999]) hc
 ·cases hx;cases hy
  obtain⟨⟨s,hu⟩,hc⟩:=hc
  exact xG px py (vW (by simp) (by simp)) (by simp[binOp,Op.equal,Op.maxDepth,zBf hu 9999]) (by simp[binOp,Op.equal,Op.maxDepth,zBf hu 9999]) hc
 ·rename_i n ver i k n' ver' i' k'
  obtain⟨rfl,rfl,hs,hz,hc⟩:=hc
  have hl:qJ (zA PS n) ver:=by
   unfold xY at hs
   unfold qJ
   split at hs
   ·exact⟨hs.1,hs.2.1⟩
   ·exact hs.elim
  obtain⟨p,b,o,sz,cap,a1,a2,a3,rfl⟩:=kr h hx hl
  obtain⟨p',b',o',sz',cap',b1,b2,b3,rfl⟩:=kr h hy hl
  rw[a1] at b1;cases b1
  rw[a3] at b3;cases b3
  obtain⟨E,opn,p2,b2,o2,sz2,cap2,hq,c1,_,c3,_⟩:=h.live hl
  rw[a1] at c1;cases c1
  rw[a3] at c3;cases c3
  rw[hq] at hs
  obtain⟨_,_,hk1,hk2⟩:=hs
  unfold psz at hz
  split at hz
  ·rename_i s hu
   split at hz
   ·rename_i inf hinf
    have hne:inf.size≠0:=by simpa using hz
    have hda:decide ((⟨b,o+i*sz+k,none⟩:Addr)=⟨b,o+i'*sz+k',none⟩)=(decide (i=i')&&decide (k=k')):=by
     rw[Bool.eq_iff_iff]
     simp only[Bool.and_eq_true,decide_eq_true_eq,Addr.mk.injEq,true_and,and_true]
     constructor
     ·intro he
      have hii:i=i':=by
       rcases Nat.lt_trichotomy i i' with h | h | h
       ·have:(i+1)*sz≤i'*sz:=Nat.mul_le_mul_right _ h
        rw[Nat.add_mul] at this;omega
       ·exact h
       ·have:(i'+1)*sz≤i*sz:=Nat.mul_le_mul_right _ h
        rw[Nat.add_mul] at this;omega
      subst hii
      exact⟨rfl,by omega⟩
     ·rintro⟨rfl,rfl⟩;rfl
    have he:∀d,(Op.equalIn (d+1) t (.pointer (some ⟨b,o+i*sz+k,none⟩)) (.pointer (some ⟨b,o+i'*sz+k',none⟩))).run P w=.ok (decide (i=i')&&decide (k=k')) w:=by
     intro d
     rw[←hda]
     simp only[Op.equalIn,Sem.run_bind,run_underlying hu,Result.andThen_ok,qC hinf,hne,ne_eq,not_false_eq_true,if_true,sameAddr,beq_self_eq_true,Sem.run_pure]
     rfl
    exact xG px py (vW (by simp) (by simp)) (by simp[binOp,Op.equal,Op.maxDepth,he 9999]) (by simp[binOp,Op.equal,Op.maxDepth,he 9999]) hc
   ·cases hz
  ·cases hz
 ·rename_i a b
  cases hq:eqO P t with
  | none=>rw[hq] at hc;exact hc.elim
  | some ps=>
   rw[hq] at hc
   obtain⟨hf,hc⟩:=hc
   obtain⟨hg,hk,hw⟩:=zRM hq
   have hx':=hx
   have hy':=hy
   cases hx with
   | agg _ xs hl1 hv1=>
   cases hy with
   | agg _ ys hl2 hv2=>
   obtain⟨f1,f2⟩:=zHN hx' hy' ps hf
   have:=zEk P 40 9960 t ps w xs ys hk hw f1
   rw[f2] at this
   have this:(Op.equalIn 10000 t (.agg xs) (.agg ys)).run P w=.ok (uU ps a b) w:=this
   exact xG px py (run_eqGuard_agg w op t px py xs ys hg) (by rw[run_eql_struct,this];rfl) (by rw[run_neq_struct,this];rfl) hc
 ·cases hx;cases hy
  obtain⟨r,h1,z,h2,h3⟩:=Ur (P:=P) (t:=t) (w:=w) hc
  rw[Sem.run_bind,vW (by simp) (by simp)] at h1 ⊢
  obtain⟨z',h4,h5⟩:=Vm (h2 (Mut F D) e) h3
  exact⟨z',r,h1,h4,h5⟩
 ·cases hx;cases hy
  obtain⟨r,h1,z,h2,h3⟩:=Ur (P:=P) (t:=t) (w:=w) hc
  rw[Sem.run_bind,vW (by simp) (by simp)] at h1 ⊢
  obtain⟨z',h4,h5⟩:=Vm (h2 (Mut F D) e) h3
  exact⟨z',r,h1,h4,h5⟩
 ·cases hx;cases hy
  obtain⟨r,h1,z,h2,h3⟩:=Ur (P:=P) (t:=t) (w:=w) hc
  rw[Sem.run_bind,vW (by simp) (by simp)] at h1 ⊢
  obtain⟨z',h4,h5⟩:=Vm (h2 (Mut F D) e) h3
  exact⟨z',r,h1,h4,h5⟩
 ·cases hx;cases hy
  rw[Sem.run_bind,vW (by simp) (by simp)]
  obtain⟨z,r,h1,h2,h3⟩:=Wt (P:=P) (F:=F) (e:=e) (D:=D) (w:=w) hc
  refine⟨z,r,?_,h2,h3⟩
  simp only[Result.andThen_ok]
  cases op<;>first | exact h1 | exact hc.elim
 ·cases hx;cases hy
  rw[Sem.run_bind,vW (by simp) (by simp)]
  obtain⟨z,r,h1,h2,h3⟩:=Wt (P:=P) (F:=F) (e:=e) (D:=D) (w:=w) hc
  refine⟨z,r,?_,h2,h3⟩
  simp only[Result.andThen_ok]
  cases op<;>first | exact h1 | exact hc.elim
 ·cases hx;cases hy
  rw[Sem.run_bind,vW (by simp) (by simp)]
  obtain⟨z,r,h1,h2,h3⟩:=Wt (P:=P) (F:=F) (e:=e) (D:=D) (w:=w) hc
  refine⟨z,r,?_,h2,h3⟩
  simp only[Result.andThen_ok]
  cases op<;>first | exact h1 | exact hc.elim
 ·exact hc.elim
theorem zNn:∀(E:List (List HV)) (l:List UInt8) (vs:List Value),bytesOf E=some l→vs.length=E.length*1→
  (∀(i:Nat) (r:List HV) (k:Nat) (y:HV),E[i]? =some r→r[k]? =some y→∃v,vs[i*1+k]? =some v∧zH (Mut F D) e w y v)→
  ∃ns:List Int,vs=ns.map (Value.int .u8)∧∀s:ByteArray,ns.foldl (fun r n=>r.push (UInt8.ofNat n.toNat)) s=⟨s.data++l.toArray⟩:=by
 intro E
 induction E with
 | nil=>
  intro l vs h hl _
  simp[bytesOf] at h
  subst h
  obtain rfl:vs=[]:=List.eq_nil_of_length_eq_zero (by simpa using hl)
  exact⟨[],rfl,by intro s;simp⟩
 | cons r E ih=>
  intro l vs h hl hr
  match r,h with
  | [.int .u8 n],h=>
   simp only[bytesOf] at h
   cases hb:bytesOf E with
   | none=>rw[hb] at h;cases h
   | some l'=>
    rw[hb] at h
    cases h
    cases vs with
    | nil=>simp at hl
    | cons v vs=>
     obtain⟨v',hv',hrel⟩:=hr 0 [.int .u8 n] 0 (.int .u8 n) rfl rfl
     simp at hv'
     subst hv'
     cases hrel
     obtain⟨ns,rfl,h2⟩:=ih l' vs hb (by simpa using hl) (fun i r k y hi hk=>by
      obtain⟨v',hv',hrel⟩:=hr (i+1) r k y (by simpa using hi) hk
      refine⟨v',?_,hrel⟩
      rw[show (i+1)*1+k=(i*1+k)+1 from by omega] at hv'
      simpa using hv')
     refine⟨n::ns,rfl,?_⟩
     intro s
     simp only[List.foldl_cons]
     rw[h2]
     apply ByteArray.ext
     simp[ByteArray.push]
theorem zKc (h:Rel F e D PS w) {src dst:TypeId} {x:HV} {u:Value} {K:HV→Prop} (hx:zH (Mut F D) e w x u) (hc:wc P PS src dst x K):
  ∃y v,(convert src dst u).run P w=.ok v w∧zH (Mut F D) e w y v∧K y:=by
 unfold wc at hc
 cases hs:P.underlying src with
 | none=>rw[hs] at hc;exact hc.elim
 | some s=>
  rw[hs] at hc
  simp only at hc
  split at hc
  ·rename_i k hd
   cases x with
   | int k' n=>
    cases hx
    obtain⟨y,v,h1,h2,h3⟩:=zCz (P:=P) (F:=F) (e:=e) (D:=D) (w:=w) hc
    exact⟨y,v,by simp only[convert,Sem.run_bind,run_underlying hs,run_underlying hd,Result.andThen_ok];exact h1,h2,h3⟩
   | tok k' i=>
    cases hx
    obtain⟨y,v,h1,h2,h3⟩:=zCz (P:=P) (F:=F) (e:=e) (D:=D) (w:=w) hc
    obtain⟨z,h4,h5⟩:=Vm h2 h3
    exact⟨z,v,by simp only[convert,Sem.run_bind,run_underlying hs,run_underlying hd,Result.andThen_ok];exact h1,h4,h5⟩
   | _=>exact hc.elim
  ·rename_i hd
   cases s with
   | string=>
    cases x with
    | str l=>cases hx;exact⟨_,_,by simp[convert,run_underlying hs,run_underlying hd],.str l,hc⟩
    | _=>exact hc.elim
   | slice e'=>
    obtain⟨he,hc⟩:=hc
    obtain⟨E,a,c,vs,rfl,⟨l,hl,hK⟩,zd,hlen,hcell,h1,hrel⟩:=zAH h hx hc
    obtain⟨ns,rfl,hf⟩:=zNn (F:=F) (D:=D) (e:=e) (w:=w) E l vs hl hlen hrel
    refine⟨_,.string ⟨l.toArray⟩,?_,.str l,hK⟩
    rw[run_convert_bytes_string w src dst e' a _ c hs he hd]
    cases a with
    | none=>
     have:ns=[]:=by
      cases ns with
      | nil=>rfl
      | cons n ns=>obtain⟨ad,h1,_⟩:=hcell 0 (.int .u8 n) rfl;cases h1
     subst this
     have:=hf ByteArray.empty
     simp only[List.foldl_nil] at this
     have hl0:l=[]:=by
      have h2:=congrArg (fun s:ByteArray=>s.data) this
      simpa using h2.symm
     subst hl0
     rfl
    | some a=>
     have hlc:=run_loadCells_list (P:=P) w a (ns.map (Value.int .u8)) (fun j v hv=>by obtain⟨ad,h1,h2⟩:=hcell j v hv;cases h1;exact h2)
     rw[hlen,Nat.mul_one] at hlc
     rw[run_bytesToString w a E.length c ns hlc,hf]
     simp
   | _=>exact hc.elim
  ·exact hc.elim
end
end Go.Eng
