/-
The abstract meaning of the operations that only compute a value from slots and memory, and that it holds of the model.
No conditions.
-/
import Derived.Test.YtbmibhjjogobhaaGreatQEngCa
set_option linter.unusedSectionVars false
set_option linter.unusedSimpArgs false
set_option linter.unusedVariables false
namespace Go.Eng
open Go
variable [zB]
def Zw (n:Int):Prop:= -9223372036854775808≤n∧n≤9223372036854775807
def Zv (n:Int):Prop:=0≤n∧n≤18446744073709551615
theorem wrap_i64 {n:Int} (h:Zw n):IntKind.i64.wrap n=n:=by
 obtain⟨h1,h2⟩:=h
 simp only[IntKind.wrap,IntKind.bits,IntKind.signed]
 simp only[Bool.true_and,Bool.false_and,Nat.reduceSub,Int.reducePow,ge_iff_le,decide_eq_true_eq,Bool.false_eq_true,if_false]
 omega
theorem wrap_u64 {n:Int} (h:Zv n):IntKind.u64.wrap n=n:=by
 obtain⟨h1,h2⟩:=h
 simp only[IntKind.wrap,IntKind.bits,IntKind.signed]
 simp only[Bool.true_and,Bool.false_and,Nat.reduceSub,Int.reducePow,ge_iff_le,decide_eq_true_eq,Bool.false_eq_true,if_false]
 omega
/-- A sum of an int:it must fit;of the other kinds:it wraps. -/
def wN (k:IntKind) (n:Int) (K:HV→Prop):Prop:=
 match k with
 | .i64=>Zw n∧K (.int .i64 n)
 | k=>K (.int k (k.wrap n))
def yZ (op:BinOp) (k:IntKind) (x y:Int):Int:=
 let a:=BitVec.ofInt k.bits x
 let b:=BitVec.ofInt k.bits y
 match op with
 | .and=>k.wrap (a&&& b).toNat
 | .or=>k.wrap (a ||| b).toNat
 | .xor=>k.wrap (a ^^^ b).toNat
 | _=>k.wrap (a&&& ~~~b).toNat
def hint (op:BinOp) (k:IntKind) (a:Int) (k':IntKind) (b:Int) (K:HV→Prop):Prop:=
 match op with
 | .shl=>0≤b∧K (.int k (k.wrap (a*2 ^ (min b.toNat k.bits))))
 | .shr=>0≤b∧K (.int k (a.fdiv (2 ^ (min b.toNat k.bits))))
 | .add=>k=k'∧wN k (a+b) K
 | .sub=>k=k'∧wN k (a - b) K
 | .mul=>k=k'∧wN k (a*b) K
 | .quo=>k=k'∧b≠0∧wN k (a.tdiv b) K
 | .rem=>k=k'∧b≠0∧K (.int k (a.tmod b))
 | .and | .or | .xor | .andNot=>k=k'∧K (.int k (yZ op k a b))
 | .eql=>k=k'∧K (.bool (decide (a=b)))
 | .neq=>k=k'∧K (.bool (!decide (a=b)))
 | .lss=>k=k'∧K (.bool (decide (a<b)))
 | .leq=>k=k'∧K (.bool (decide (a≤b)))
 | .gtr=>k=k'∧K (.bool (decide (b<a)))
 | .geq=>k=k'∧K (.bool (decide (b≤a)))
def vP (op:BinOp) (a b:List UInt8) (K:HV→Prop):Prop:=
 match op with
 | .add=>a.length+b.length≤maxLen∧K (.str (a++b))
 | .eql=>K (.bool (decide (a=b)))
 | .neq=>K (.bool (!decide (a=b)))
 | .lss=>K (.bool (Op.bytesLess a b))
 | .leq=>K (.bool (Op.bytesLess a b || decide (a=b)))
 | .gtr=>K (.bool (!(Op.bytesLess a b || decide (a=b))))
 | .geq=>K (.bool (!Op.bytesLess a b))
 | _=>False
/-- Is a pointer to a row that lives. -/
def qJ (q:zC) (ver:Nat):Prop:=
 match q with
 | .arr ver' _ E opn=>ver=ver'∧(opn=false∨E≠[])
 | _=>False
/-- A test's outcome. -/
def hbt:BinOp→Bool→(HV→Prop)→Prop
 | .eql,r,K=>K (.bool r)
 | .neq,r,K=>K (.bool (!r))
 | _,_,_=>False
/-- Cells of two aggregates that may be compared,and whether they are alike. -/
def ku:Nat→HV→HV→Prop
 | 0,.bool _,.bool _=>True
 | 1,.int k _,.int k' _=>k=k'
 | 2,.str _,.str _=>True
 | 1,.tok k _,.int k' _=>k=k'
 | 1,.int k _,.tok k' _=>k=k'
 | 1,.tok k _,.tok k' _=>k=k'
 | 2,.stok _,.str _=>True
 | 2,.str _,.stok _=>True
 | 2,.stok _,.stok _=>True
 | _,_,_=>False
def vu:HV→HV→Bool
 | .bool a,.bool b=>a == b
 | .int _ a,.int _ b=>decide (a=b)
 | .str a,.str b=>decide (a=b)
 | .tok _ i,.int _ b=>decide (zB.num i=b)
 | .int _ a,.tok _ j=>decide (a=zB.num j)
 | .tok _ i,.tok _ j=>decide (zB.num i=zB.num j)
 | .stok i,.str b=>decide (zB.str i=b)
 | .str a,.stok j=>decide (a=zB.str j)
 | .stok i,.stok j=>decide (zB.str i=zB.str j)
 | _,_=>false
def xA (ps:Cells) (a b:List HV):Prop:=∀p∈ps,ku p.2 (get a p.1) (get b p.1)
def uU (ps:Cells) (a b:List HV):Bool:=ps.all fun p=>vu (get a p.1) (get b p.1)
def eqO (P:Program) (t:TypeId):Option Cells:=
 if P.eqGuardType P.depth t then none else
 match P.underlying t with
 | some (.struct _) | some (.array _ _)=>eqK P 40 t
 | _=>none
def kz (a b:List HV) (op:BinOp) (K:HV→Prop):Option Cells→Prop
 | some ps=>xA ps a b∧hbt op (uU ps a b) K
 | none=>False
/-- Pointers into one row. -/
def psz (P:Program) (t:TypeId):Bool:=
 match P.underlying t with
 | some (.pointer s)=>(match P.info? s with | some i=>i.size != 0 | none=>false)
 | _=>false
def xY (q:zC) (ver k k':Nat):Prop:=
 match q with
 | .arr v sz E opn=>ver=v∧(opn=false∨E≠[])∧k<sz∧k'<sz
 | _=>False
/-- A number told by its name. -/
def rename (f:Option Nat) (K:HV→Prop) (v:HV):Prop:=
 match f with
 | some j=>(match v with | .int k n=>n=zB.num j∧K (.tok k j) | _=>False)
 | none=>K v
theorem UK {f:Option Nat} {K K':HV→Prop} (hk:∀v,K v→K' v) {v:HV} (h:rename f K v):rename f K' v:=by
 unfold rename at*
 split at h
 ·split at h
  ·exact⟨h.1,hk _ h.2⟩
  ·exact h
 ·exact hk _ h
theorem QH {f:Option Nat} {K:HV→Prop} {v:HV} (h:rename f K v):∃z,rename f (fun u=>u=z) v∧K z:=by
 unfold rename at*
 split at h
 ·split at h
  ·exact⟨_,⟨h.1,rfl⟩,h.2⟩
  ·exact h.elim
 ·exact⟨v,rfl,h⟩
theorem Vm {M:Nat→Prop} {e:List Pos} {w:World} {f:Option Nat} {K:HV→Prop} {y:HV} {v:Value} (hv:zH M e w y v) (h:rename f K y):∃z,zH M e w z v∧K z:=by
 unfold rename at h
 split at h
 ·split at h
  ·obtain⟨rfl,h2⟩:=h
   cases hv;exact⟨_,.tok _ _,h2⟩
  ·exact h.elim
 ·exact⟨y,hv,h⟩
def zBa (op:BinOp) (i:Nat) (b:Int):Option Nat:=
 match op with
 | .add=>zB.plus i b
 | .sub=>zB.plus i (-b)
 | _=>none
def zCT (op:BinOp) (a:Int) (j:Nat):Option Nat:=
 match op with
 | .add=>zB.plus j a
 | .mul=>if a=2 then zB.sum j j else none
 | _=>none
def VQ (op:BinOp) (i j:Nat):Option Nat:=
 match op with
 | .add=>zB.sum i j
 | _=>none
def qu (P:Program) (PS:PL) (op:BinOp) (t:TypeId) (x y:HV) (K:HV→Prop):Prop:=
 match x,y with
 | .int k a,.int k' b=>hint op k a k' b K
 | .str a,.str b=>vP op a b K
 | .bool a,.bool b=>P.underlying t=some .bool∧hbt op (a == b) K
 | .ptr n ver _ _,.cst (.pointer none)=>qJ (zA PS n) ver∧(∃s,P.underlying t=some (.pointer s))∧hbt op false K
 | .iptr _ _,.cst (.pointer none)=>(∃s,P.underlying t=some (.pointer s))∧hbt op false K
 | .cst (.pointer none),.cst (.pointer none)=>(∃s,P.underlying t=some (.pointer s))∧hbt op true K
 | .ptr n ver i k,.ptr n' ver' i' k'=>n=n'∧ver=ver'∧xY (zA PS n) ver k k'∧psz P t=true∧hbt op (decide (i=i')&&decide (k=k')) K
 | .agg a,.agg b=>kz a b op K (eqO P t)
 | .tok k i,.int k' b=>hint op k (zB.num i) k' b (rename (zBa op i b) K)
 | .int k a,.tok k' j=>hint op k a k' (zB.num j) (rename (zCT op a j) K)
 | .tok k i,.tok k' j=>hint op k (zB.num i) k' (zB.num j) (rename (VQ op i j) K)
 | .stok i,.str b=>vP op (zB.str i) b K
 | .str a,.stok j=>vP op a (zB.str j) K
 | .stok i,.stok j=>vP op (zB.str i) (zB.str j) K
 | _,_=>False
def hun (op:UnOp) (x:HV) (K:HV→Prop):Prop:=
 match op,x with
 | .neg,.int k n=>wN k (0 - n) K
 | .xor,.int k n=>K (.int k (yZ .xor k (if k.signed then -1 else k.max) n))
 | .not,.bool b=>K (.bool !b)
 | _,_=>False
theorem Ur {P:Program} {op:BinOp} {t:TypeId} {k k':IntKind} {a b:Int} {K:HV→Prop} {w:World} (h:hint op k a k' b K):
  ∃y,(do eqGuard op t (.tmp 0) (.tmp 0) (.int k a) (.int k' b);binOp op t (.int k a) (.int k' b):Sem Value).run P w=.ok y w∧∃x,(∀M e,zH M e w x y)∧K x:=by
 have hfit':∀n:Int,wN k n K→∃y,Sem.run P (pure (Value.int k (k.wrap n)):Sem Value) w=.ok y w∧∃x,(∀M e,zH M e w x y)∧K x:=by
  intro n hn
  cases k with
  | i64=>obtain⟨h1,h2⟩:=hn;exact⟨_,rfl,_,fun _ _=>by rw[wrap_i64 h1];exact .int _ _,h2⟩
  | _=>exact⟨_,rfl,_,fun _ _=>.int _ _,hn⟩
 have hg:(eqGuard op t (.tmp 0) (.tmp 0) (.int k a) (.int k' b):Sem Unit).run P w=.ok () w:=by
  unfold eqGuard;cases op<;>simp
 rw[Sem.run_bind,hg]
 simp only[Result.andThen_ok]
 cases op<;>simp only[hint] at h
 case add=>obtain⟨rfl,h⟩:=h;simpa [binOp,Op.intArith] using hfit' _ h
 case sub=>obtain⟨rfl,h⟩:=h;simpa [binOp,Op.intArith] using hfit' _ h
 case mul=>obtain⟨rfl,h⟩:=h;simpa [binOp,Op.intArith] using hfit' _ h
 case quo=>obtain⟨rfl,h0,h⟩:=h;simpa [binOp,Op.intDiv,h0] using hfit' _ h
 case rem=>obtain⟨rfl,h0,h⟩:=h;exact⟨_,by first | (simp[binOp,Op.intDiv,h0];done) | (simp[binOp,Op.intDiv,h0];rfl),_,fun _ _=>.int _ _,h⟩
 case shl=>obtain⟨h0,h⟩:=h;exact⟨_,by first | (simp[binOp,Op.shift,Int.not_lt.2 h0];done) | (simp[binOp,Op.shift,Int.not_lt.2 h0];rfl),_,fun _ _=>.int _ _,h⟩
 case shr=>obtain⟨h0,h⟩:=h;exact⟨_,by first | (simp[binOp,Op.shift,Int.not_lt.2 h0];done) | (simp[binOp,Op.shift,Int.not_lt.2 h0];rfl),_,fun _ _=>.int _ _,h⟩
 case and=>obtain⟨rfl,h⟩:=h;exact⟨_,by first | (simp[binOp,Op.intBits];done) | (simp[binOp,Op.intBits];rfl),_,fun _ _=>.int _ _,h⟩
 case or=>obtain⟨rfl,h⟩:=h;exact⟨_,by first | (simp[binOp,Op.intBits];done) | (simp[binOp,Op.intBits];rfl),_,fun _ _=>.int _ _,h⟩
 case xor=>obtain⟨rfl,h⟩:=h;exact⟨_,by first | (simp[binOp,Op.intBits];done) | (simp[binOp,Op.intBits];rfl),_,fun _ _=>.int _ _,h⟩
 case andNot=>obtain⟨rfl,h⟩:=h;exact⟨_,by simp only[binOp,Op.intBits,ne_eq,not_true_eq_false,if_false];rfl,_,fun _ _=>.int _ _,h⟩
 case eql=>obtain⟨rfl,h⟩:=h;exact⟨_,by first | (simp[binOp,Op.intCmp];done) | (simp[binOp,Op.intCmp];rfl),_,fun _ _=>.bool _,h⟩
 case neq=>obtain⟨rfl,h⟩:=h;exact⟨.bool (!decide (a=b)),by first | (simp[binOp,Op.intCmp,bne];done) | (simp[binOp,Op.intCmp,bne];rfl),_,fun _ _=>.bool _,h⟩
 case lss=>obtain⟨rfl,h⟩:=h;exact⟨_,by first | (simp[binOp,Op.intCmp];done) | (simp[binOp,Op.intCmp];rfl),_,fun _ _=>.bool _,h⟩
 case leq=>obtain⟨rfl,h⟩:=h;exact⟨_,by first | (simp[binOp,Op.intCmp];done) | (simp[binOp,Op.intCmp];rfl),_,fun _ _=>.bool _,h⟩
 case gtr=>obtain⟨rfl,h⟩:=h;exact⟨_,by first | (simp[binOp,Op.intCmp];done) | (simp[binOp,Op.intCmp];rfl),_,fun _ _=>.bool _,h⟩
 case geq=>obtain⟨rfl,h⟩:=h;exact⟨_,by first | (simp[binOp,Op.intCmp];done) | (simp[binOp,Op.intCmp];rfl),_,fun _ _=>.bool _,h⟩
/-! ### Addresses -/
def qd (PS:PL) (x:HV) (K:HV→Prop):Option (Nat×Nat)→Prop
 | some (off,_)=>match x with
  | .ptr n ver i k=>qJ (zA PS n) ver∧K (.ptr n ver i (k+off))
  | .iptr l k=>K (.iptr l (k+off))
  | _=>False
 | none=>False
def vO (PS:PL) (x i:HV) (K:HV→Prop):Option (TypeId×Nat)→Prop
 | some (_,s)=>match x,i with
  | .imm _ E,.int _ i=>0≤i∧∃l,E[i.toNat]? =some l∧l.length=s∧K (.iptr l 0)
  | .sl n ver i0 len _,.int _ i=>0≤i∧i<len∧zd (zA PS n) ver (i0+i.toNat) fun l=>l.length=s∧K (.ptr n ver (i0+i.toNat) 0)
  | .isl n ver i0 k len _,.int _ i=>0≤i∧i<len∧qJ (zA PS n) ver∧K (.ptr n ver i0 (k+i.toNat*s))
  | _,_=>False
 | none=>False
def ve (PS:PL) (x i:HV) (K:HV→Prop):Option (Nat×TypeId×Nat)→Prop
 | some (N,_,s)=>match x,i with
  | .ptr n ver i0 k,.int _ i=>0≤i∧i<N∧qJ (zA PS n) ver∧K (.ptr n ver i0 (k+i.toNat*s))
  | .iptr l k,.int _ i=>0≤i∧i<N∧K (.iptr l (k+i.toNat*s))
  | _,_=>False
 | none=>False
def wi (P:Program) (PS:PL) (t:TypeId) (x i:HV) (K:HV→Prop):Prop:=
 match qO P t with
 | some r=>vO PS x i K (some r)
 | none=>ve PS x i K (wR P t)
theorem Rel.live {F:Nat→Prop} {e:List Pos} {D:Nat→Nat→Prop} {PS:PL} {w:World} (h:Rel F e D PS w) {n ver:Nat} (hl:qJ (zA PS n) ver):
  ∃E opn p b o sz cap,zA PS n=.arr ver sz E opn∧e[n]? =some p∧p.ver=ver∧p.kind=.arr b o sz cap∧(∀x,D n x↔x=b)∧uP (Mut F D) e w E opn b o sz cap:=by
 cases hq:zA PS n with
 | arr ver' sz E opn=>
  rw[hq] at hl
  obtain⟨rfl,hE⟩:=hl
  obtain⟨p,b,o,cap,h1,h2,h3,h4,h5⟩:=h.row hq hE
  exact⟨E,opn,p,b,o,sz,cap,rfl,h1,h2,h3,h4,h5⟩
 | dead=>rw[hq] at hl;exact hl.elim
 | map _ _ _ _=>rw[hq] at hl;exact hl.elim
 | mapT _ _ _ _=>rw[hq] at hl;exact hl.elim
 | iter _ _ _ _ _=>rw[hq] at hl;exact hl.elim
 | rnd _ _ _ _ _ _ _ _=>rw[hq] at hl;exact hl.elim
theorem zDu {q:zC} {ver i:Nat} {K:List HV→Prop} (h:zd q ver i K):qJ q ver:=by
 unfold zd at h;unfold qJ
 cases q with
 | arr ver' sz E opn=>obtain⟨h1,l,h2,_⟩:=h;exact⟨h1,.inr (by rintro rfl;simp at h2)⟩
 | _=>exact h.elim
section
variable {P:Program} {F:Nat→Prop} {e:List Pos} {D:Nat→Nat→Prop} {PS:PL} {w:World}
theorem kr (h:Rel F e D PS w) {n ver i k:Nat} {u:Value} (hx:zH (Mut F D) e w (.ptr n ver i k) u) (hl:qJ (zA PS n) ver):
  ∃p b o sz cap,e[n]? =some p∧p.ver=ver∧p.kind=.arr b o sz cap∧u=.pointer (some ⟨b,o+i*sz+k,none⟩):=by
 obtain⟨E,opn,p,b,o,sz,cap,_,hp,hv,hk,_⟩:=h.live hl
 cases hx with
 | ptr n ver i k u p' hp' hv' hh h1=>
  rw[hp] at hp';cases hp'
  have:=hh hv.symm
  rw[hk] at this
  exact⟨p,b,o,sz,cap,hp,hv,hk,this⟩
theorem zMw (h:Rel F e D PS w) {t:TypeId} {f:Nat} {x:HV} {u:Value} {K:HV→Prop} (hx:zH (Mut F D) e w x u) (hc:qd PS x K (yX P t f)):
  ∃y v,(Instr.fieldAt t u f).run P w=.ok v w∧zH (Mut F D) e w y v∧K y:=by
 unfold yX at hc
 cases hu:P.underlying t with
 | none=>simp[hu,qd] at hc
 | some d=>
  cases d with
  | struct fs=>
   cases hf:fs[f]? with
   | none=>simp[hu,hf,qd] at hc
   | some g=>
    cases hi:P.info? g.type with
    | none=>simp[hu,hf,hi,qd] at hc
    | some i=>
     by_cases hz:i.size=0
     ·simp[hu,hf,hi,hz,qd] at hc
     ·simp only[hu,hf,hi,hz,if_false] at hc
      have run:∀b o:Nat,(Instr.fieldAt t (.pointer (some ⟨b,o,none⟩)) f).run P w=.ok (.pointer (some ⟨b,o+g.offset,none⟩)) w:=by
       intro b o
       simp only[Instr.fieldAt,Sem.run_bind,run_underlying hu,Result.andThen_ok,hf,Instr.sureAddr,Sem.run_pure,fieldPlace,qC hi,hz,if_false,uT]
      cases x with
      | ptr n ver j k=>
       obtain⟨hl,hK⟩:=hc
       obtain⟨p,b,o,sz,cap,hp,hv,hkd,rfl⟩:=kr h hx hl
       refine⟨_,_,run _ _,.ptr n ver j (k+g.offset) _ p hp (by omega) (fun _=>?_) rfl,hK⟩
       rw[hkd];simp only[kq];congr 3;omega
      | iptr l k=>
       cases hx with
       | iptr l k b o val hb h1c hcell zT=>
        refine⟨_,_,run _ _,?_,hc⟩
        rw[Nat.add_assoc]
        exact .iptr l (k+g.offset) b o val hb h1c hcell zT
      | _=>exact hc.elim
  | _=>simp[hu,qd] at hc
theorem run_indexAt_slice {t e':TypeId} {i:TypeInfo} (hu:P.underlying t=some (.slice e')) (hi:P.info? e'=some i) (b o len c:Nat) (k:IntKind) (j:Int) (h0:0≤j) (h1:j<len) (w:World):
  (Instr.indexAt t (.slice (some ⟨b,o,none⟩) len c) (.int k j)).run P w=.ok (.pointer (some ⟨b,o+j.toNat*i.size,none⟩)) w:=by
 simp[Instr.indexAt,asIntOf,run_underlying hu,h0,h1,qC hi,uT]
theorem run_indexAt_array {t e':TypeId} {N:Nat} {i:TypeInfo} (hu:P.underlying t=some (.array N e')) (hi:P.info? e'=some i) (b o:Nat) (k:IntKind) (j:Int) (h0:0≤j) (h1:j<N) (w:World):
  (Instr.indexAt t (.pointer (some ⟨b,o,none⟩)) (.int k j)).run P w=.ok (.pointer (some ⟨b,o+j.toNat*i.size,none⟩)) w:=by
 simp[Instr.indexAt,asIntOf,run_underlying hu,h0,h1,qC hi,uT,Instr.sureAddr]
theorem zQ9 (h:Rel F e D PS w) {t:TypeId} {x i:HV} {u v:Value} {K:HV→Prop} (hx:zH (Mut F D) e w x u) (hiv:zH (Mut F D) e w i v)
  (hc:wi P PS t x i K):∃y z,(Instr.indexAt t u v).run P w=.ok z w∧zH (Mut F D) e w y z∧K y:=by
 unfold wi at hc
 unfold qO at hc
 cases hu:P.underlying t with
 | none=>simp[hu,wR,ve] at hc
 | some d=>
  cases d with
  | slice e'=>
   cases hi:P.info? e' with
   | none=>simp[hu,hi,wR,ve] at hc
   | some ti=>
    simp only[hu,hi] at hc
    cases x with
    | imm t' E=>
     cases i with
     | int k j=>
      obtain⟨h0,l,hl,hs,hK⟩:=hc
      cases hiv
      cases hx with
      | imm t' E a c b o sz val hcl hm ht hn ha hb hsz h1c hcell zT=>
       have hlt:j.toNat<E.length:=(List.getElem?_eq_some_iff.1 hl).1
       have hE:E≠[]:=by rintro rfl;simp at hl
       obtain rfl:=ha (by omega)
       have hsz':sz=ti.size:=by rw[←hs];exact(hsz l (List.mem_of_getElem? hl)).symm
       refine⟨_,_,run_indexAt_slice hu hi b o _ c k j h0 (by omega) w,?_,hK⟩
       have:=zH.iptr (M:=Mut F D) (e:=e) (w:=w) l 0 b (o+j.toNat*ti.size) (fun q=>val j.toNat q) (hb hE) (fun q=>h1c _ _)
        (fun q y hy=>by rw[←hsz'];exact hcell j.toNat l q y hl hy) (fun q y hy=>zT j.toNat l q y hl hy)
       simpa using this
     | _=>exact hc.elim
    | sl n ver i0 len cp=>
     cases i with
     | int k j=>
      obtain⟨h0,h1,hr⟩:=hc
      cases hiv
      have hl:=zDu hr
      obtain⟨E,opn,p,b,o,sz,cap,hq,hp,hv,hkd,_,zd⟩:=h.live hl
      rw[hq] at hr
      obtain⟨_,l,hl',hs,hK⟩:=hr
      obtain⟨cs,ty,_,_,hszs,_⟩:=zd.row
      have hsz':sz=ti.size:=by rw[←hs];exact(hszs l (List.mem_of_getElem? hl')).symm
      cases hx with
      | sl n ver i0 len cp u p' hp' hv' hh h1'=>
       rw[hp] at hp';cases hp'
       have:=hh hv.symm
       rw[hkd] at this
       obtain⟨a,c,rfl,hlc,_,_,ha,_⟩:=this
       obtain rfl:=ha (by omega)
       refine⟨_,_,run_indexAt_slice hu hi b _ len c k j h0 h1 w,.ptr n ver (i0+j.toNat) 0 _ p hp (by omega) (fun _=>?_) rfl,hK⟩
       rw[hkd];simp only[kq];rw[hsz',Nat.add_mul];congr 3;omega
     | _=>exact hc.elim
    | isl n ver i0 k0 len cp=>
     cases i with
     | int k j=>
      obtain⟨h0,h1,hl,hK⟩:=hc
      cases hiv
      obtain⟨E,opn,p,b,o,sz,cap,hq,hp,hv,hkd,_,zd⟩:=h.live hl
      cases hx with
      | isl n ver i0 k0 len cp u p' hp' hv' hh h1'=>
       rw[hp] at hp';cases hp'
       have:=hh hv.symm
       rw[hkd] at this
       obtain⟨a,c,rfl,hlc,_,_,ha,_⟩:=this
       obtain rfl:=ha (by omega)
       refine⟨_,_,run_indexAt_slice hu hi b _ len c k j h0 h1 w,.ptr n ver i0 (k0+j.toNat*ti.size) _ p hp (by omega) (fun _=>?_) rfl,hK⟩
       rw[hkd];simp only[kq];congr 3;omega
     | _=>exact hc.elim
    | _=>exact hc.elim
  | array N e'=>
   simp only[hu,wR] at hc
   cases hi:P.info? e' with
   | none=>simp[hi,ve] at hc
   | some ti=>
    simp only[hi] at hc
    cases x with
    | ptr n ver i0 k0=>
     cases i with
     | int k j=>
      obtain⟨h0,h1,hl,hK⟩:=hc
      cases hiv
      obtain⟨p,b,o,sz,cap,hp,hv,hkd,rfl⟩:=kr h hx hl
      refine⟨_,_,run_indexAt_array hu hi b _ k j h0 h1 w,.ptr n ver i0 (k0+j.toNat*ti.size) _ p hp (by omega) (fun _=>?_) rfl,hK⟩
      rw[hkd];simp only[kq];congr 3;omega
     | _=>exact hc.elim
    | iptr l k0=>
     cases i with
     | int k j=>
      obtain⟨h0,h1,hK⟩:=hc
      cases hiv
      cases hx with
      | iptr l k0 b o val hb h1c hcell zT=>
       refine⟨_,_,run_indexAt_array hu hi b _ k j h0 h1 w,?_,hK⟩
       rw[Nat.add_assoc]
       exact .iptr l (k0+j.toNat*ti.size) b o val hb h1c hcell zT
     | _=>exact hc.elim
    | _=>exact hc.elim
  | _=>simp[hu,wR,ve] at hc
end
end Go.Eng
namespace Go.Eng
open Go
variable [zB]
/-! ### Slices of slices,strings,arrays -/
/-- The bounds of a slice expression:(low,high,max),all within cap;the abstract high within lim. -/
def vH (x:Option HV) (d:Int) (K:Int→Prop):Prop:=
 match x with
 | none=>K d
 | some (.int _ n)=>K n
 | some _=>False
def qV (len lim:Nat) (low high max:Option HV) (K:Nat→Nat→Option Nat→Prop):Prop:=
 vH low 0 fun l=>vH high len fun h=>match max with
  | none=>0≤l∧l≤h∧h≤lim∧K l.toNat h.toNat none
  | some (.int _ m)=>high.isSome=true∧0≤l∧l≤h∧h≤m∧m≤lim∧K l.toNat h.toNat (some m.toNat)
  | some _=>False
/-- The cells of an element of a row. -/
def hsz (q:zC) (s:Nat):Prop:=
 match q with
 | .arr _ sz _ _=>sz=s
 | _=>False
/-- How far a slice may reach:as far as is known. -/
def uy (q:zC) (i len:Nat):Nat:=
 match q with
 | .arr _ _ E _=>max len (E.length - i)
 | _=>len
def uN (q:zC) (i len:Nat):Option Nat→Nat
 | some c=>c
 | none=>uy q i len
def wh (PS:PL) (s:Nat) (x:HV) (low high max:Option HV) (K:HV→Prop):Prop:=
 match x with
 | .imm t E=>(∀r∈E,r.length=s)∧qV E.length E.length low high max fun l h m=>match m with
  | some m=>K (.imm (decide (m=h)) ((E.take h).drop l))
  | none=>K (.imm (t&&(high.isNone || decide (h=E.length))) ((E.take h).drop l))
 | .sl n ver i len cp=>qJ (zA PS n) ver∧hsz (zA PS n) s∧qV len (uN (zA PS n) i len cp) low high max fun l h m=>match m with
  | some m=>K (.sl n ver (i+l) (h - l) (some (m - l)))
  | none=>K (.sl n ver (i+l) (h - l) (cp.map (· - l)))
 | .isl n ver i k len cp=>qJ (zA PS n) ver∧qV len cp low high max fun l h m=>match m with
  | some m=>K (.isl n ver i (k+l*s) (h - l) (m - l))
  | none=>K (.isl n ver i (k+l*s) (h - l) (cp - l))
 | _=>False
/-- Of an array in memory. -/
def wT (PS:PL) (N s:Nat) (x:HV) (low high max:Option HV) (K:HV→Prop):Prop:=
 match x with
 | .ptr n ver i k=>N≤65536∧qJ (zA PS n) ver∧qV N N low high max fun l h m=>K (.isl n ver i (k+l*s) (h - l) (m.getD N - l))
 | .iptr c k=>N≤65536∧s=1∧k+N≤c.length∧qV N N low high max fun l h m=>K (.imm (decide (m.getD N=h)) (((c.drop (k+l)).take (h - l)).map fun y=>[y]))
 | _=>False
def jh (x:HV) (low high max:Option HV) (K:HV→Prop):Prop:=
 match x with
 | .str s=>max.isNone=true∧qV s.length s.length low high none fun l h _=>K (.str ((s.take h).drop l))
 | _=>False
def wm (P:Program) (PS:PL) (t:TypeId) (x:HV) (low high max:Option HV) (K:HV→Prop):Prop:=
 match P.underlying t with
 | some .string=>jh x low high max K
 | some (.slice _)=>(match qO P t with | some (_,s)=>wh PS s x low high max K | none=>False)
 | some (.array _ _)=>(match wR P t with | some (N,_,s)=>wT PS N s x low high max K | none=>False)
 | some (.pointer ar)=>(match wR P ar with | some (N,_,s)=>wT PS N s x low high max K | none=>False)
 | _=>False
theorem zCU {M:Nat→Prop} {e:List Pos} {w:World} {x:Option HV} {u:Option Value} {d:Int} {K:Int→Prop} (h:vH x d K)
  (hr:∀y v,x=some y→u=some v→zH M e w y v) (hs:x.isSome=u.isSome):(x=none∧u=none∧K d)∨∃k n,x=some (.int k n)∧u=some (.int k n)∧K n:=by
 unfold vH at h
 split at h
 ·left;refine⟨rfl,?_,h⟩;cases u<;>simp_all
 ·rename_i k n
  right
  cases u with
  | none=>simp at hs
  | some v=>have:=hr _ _ rfl rfl;cases this;exact⟨k,n,rfl,rfl,h⟩
 ·exact h.elim
theorem run_sliceBound {P:Program} (k:IntKind) (n:Int) (y:Nat) (c:BoundsCode) (h0:0≤n) (h1:n≤y) (w:World):(Instr.sliceBound (.int k n) y c).run P w=.ok n.toNat w:=by
 simp[Instr.sliceBound,asIntOf,h0,h1]
/-- The bounds as the model reckons them. -/
theorem YI {P:Program} {M:Nat→Prop} {e:List Pos} {w:World} {len lim cap:Nat} {low high max:Option HV} {vl vh vm:Option Value} {K:Nat→Nat→Option Nat→Prop} (isS:Bool)
  (h:qV len lim low high max K) (hlen:len≤lim) (hcap:lim≤cap)
  (hl:∀y v,low=some y→vl=some v→zH M e w y v) (hl':low.isSome=vl.isSome)
  (hh:∀y v,high=some y→vh=some v→zH M e w y v) (hh':high.isSome=vh.isSome)
  (hm:∀y v,max=some y→vm=some v→zH M e w y v) (hm':max.isSome=vm.isSome):
  ∃(l h:Nat) (m:Option Nat),(Instr.sliceBounds isS len cap vl vh vm).run P w=.ok (l,h,m.getD cap) w∧l≤h∧h≤m.getD lim∧m.getD lim≤lim∧(high=none→h=len)∧K l h m:=by
 have hlow:∀(L:Int) (y:Nat) (c:BoundsCode),((low=none∧vl=none∧L=0)∨∃k,vl=some (.int k L))→0≤L→L≤y→
   (match vl with | some v=>Instr.sliceBound v y c | none=>pure 0:Sem Nat).run P w=.ok L.toNat w:=by
  intro L y c h h0 h1
  rcases h with ⟨_,rfl,rfl⟩ | ⟨k,rfl⟩
  ·rfl
  ·exact run_sliceBound k L y c h0 h1 w
 unfold qV at h
 rcases zCU h hl hl' with ⟨a1,a2,h⟩ | ⟨k,L,a1,a2,h⟩<;>rcases zCU h hh hh' with ⟨b1,b2,h⟩ | ⟨k',H,b1,b2,h⟩
 ·cases max with
  | none=>
   obtain rfl:vm=none:=by cases vm<;>simp_all
   obtain⟨c1,c2,c3,hK⟩:=h
   subst a2 b2
   refine⟨0,len,none,?_,Nat.zero_le _,hlen,Nat.le_refl _,fun _=>rfl,by simpa using hK⟩
   simp[Instr.sliceBounds]
  | some m=>cases m<;>first | exact h.elim | (obtain⟨c0,_⟩:=h;simp_all)
 ·cases max with
  | none=>
   obtain rfl:vm=none:=by cases vm<;>simp_all
   obtain⟨c1,c2,c3,hK⟩:=h
   subst a2 b2
   refine⟨0,H.toNat,none,?_,Nat.zero_le _,by simp;omega,Nat.le_refl _,fun q=>by simp_all,by simpa using hK⟩
   simp[Instr.sliceBounds,run_sliceBound k' H cap _ c2 (by omega) w]
  | some m=>
   cases m with
   | int km M'=>
    cases vm with
    | none=>simp at hm'
    | some v=>
     have:=hm _ _ rfl rfl;cases this
     obtain⟨_,c1,c2,c3,c4,hK⟩:=h
     subst a2 b2
     refine⟨0,H.toNat,some M'.toNat,?_,Nat.zero_le _,by simp;omega,by simp;omega,fun q=>by simp_all,by simpa using hK⟩
     have e1:=run_sliceBound (P:=P) km M' cap (if isS then .slice3Acap else .slice3Alen) (by omega) (by omega) w
     have e2:=run_sliceBound (P:=P) k' H M'.toNat .slice3B c2 (by omega) w
     simp[Instr.sliceBounds,e1,e2]
   | _=>exact h.elim
 ·cases max with
  | none=>
   obtain rfl:vm=none:=by cases vm<;>simp_all
   obtain⟨c1,c2,c3,hK⟩:=h
   subst a2 b2
   refine⟨L.toNat,len,none,?_,by omega,hlen,Nat.le_refl _,fun _=>rfl,by simpa using hK⟩
   simp[Instr.sliceBounds,run_sliceBound k L len _ c1 (by omega) w]
  | some m=>cases m<;>first | exact h.elim | (obtain⟨c0,_⟩:=h;simp_all)
 ·cases max with
  | none=>
   obtain rfl:vm=none:=by cases vm<;>simp_all
   obtain⟨c1,c2,c3,hK⟩:=h
   subst a2 b2
   refine⟨L.toNat,H.toNat,none,?_,by omega,by simp;omega,Nat.le_refl _,fun q=>by simp_all,by simpa using hK⟩
   have e2:=run_sliceBound (P:=P) k' H cap (if isS then .sliceAcap else .sliceAlen) (by omega) (by omega) w
   have e3:=run_sliceBound (P:=P) k L H.toNat .sliceB c1 (by omega) w
   simp[Instr.sliceBounds,e2,e3]
  | some m=>
   cases m with
   | int km M'=>
    cases vm with
    | none=>simp at hm'
    | some v=>
     have:=hm _ _ rfl rfl;cases this
     obtain⟨_,c1,c2,c3,c4,hK⟩:=h
     subst a2 b2
     refine⟨L.toNat,H.toNat,some M'.toNat,?_,by omega,by simp;omega,by simp;omega,fun q=>by simp_all,by simpa using hK⟩
     have e1:=run_sliceBound (P:=P) km M' cap (if isS then .slice3Acap else .slice3Alen) (by omega) (by omega) w
     have e2:=run_sliceBound (P:=P) k' H M'.toNat .slice3B (by omega) (by omega) w
     have e3:=run_sliceBound (P:=P) k L H.toNat .slice3C c1 (by omega) w
     simp[Instr.sliceBounds,e1,e2,e3]
   | _=>exact h.elim
section
variable {P:Program} {F:Nat→Prop} {e:List Pos} {D:Nat→Nat→Prop} {PS:PL} {w:World}
theorem zCy {M:Nat→Prop} {t:Bool} {E:List (List HV)} {a:Option Addr} {c s l h m:Nat} (hx:zH M e w (.imm t E) (.slice a E.length c)) (hs:∀r∈E,r.length=s)
  (h1:l≤h) (h2:h≤E.length) (h3:h≤m) (h4:m≤c) (t':Bool) (ht':t'=true→m=h):
  zH M e w (.imm t' ((E.take h).drop l)) (.slice (if m=l then a else a.map (·.add (l*s))) (h - l) (m - l)):=by
 cases hx with
 | imm t E a c b o sz val hc hm ht hn ha hb hsz h1c hcell zT=>
  have hlen:((E.take h).drop l).length=h - l:=by simp;omega
  have hszs:l*sz=l*s:=by
   by_cases hE:E=[]
   ·subst hE;simp at h2;obtain rfl:l=0:=by omega
    simp
   ·obtain⟨r,hr⟩:=List.exists_mem_of_ne_nil E hE
    rw[←hsz r hr,←hs r hr]
  have hget:∀(i:Nat) (r:List HV),((E.take h).drop l)[i]? =some r→E[l+i]? =some r:=by
   intro i r hr
   rw[List.getElem?_drop,List.getElem?_take] at hr
   split at hr
   ·exact hr
   ·cases hr
  have:=zH.imm (M:=M) (e:=e) (w:=w) t' ((E.take h).drop l) (if m=l then a else a.map (·.add (l*s))) (m - l) b (o+l*sz) sz (fun i k=>val (l+i) k)
   (by rw[hlen];omega) (by omega) (fun q=>by rw[hlen,ht' q]) (by
    intro q
    split at q
    ·omega
    ·cases a with
     | none=>have:=hn rfl;omega
     | some a=>simp at q) (by
    intro q
    rw[if_neg (by omega),ha (by omega)]
    simp[uT,hszs]) (by
    intro q
    refine hb ?_
    rintro rfl;simp at q) (by
    intro r hr
    exact hsz r (List.mem_of_mem_take (List.mem_of_mem_drop hr))) (fun _ _=>h1c _ _) (by
    intro i r k x hr hk
    rw[←hcell (l+i) r k x (hget i r hr) hk,Nat.add_mul];congr 2;omega) (by
    intro i r k x hr hk
    exact zT (l+i) r k x (hget i r hr) hk)
  rw[hlen] at this
  exact this
theorem Xb {b o sz cap i k len c l h m:Nat} {a:Option Addr} {cp:Option Nat} {s:Nat} {u:Value} (hu:u=.slice a len c) (hx:jv (.arr b o sz cap) i k len cp u)
  (h1:l≤h) (h3:h≤m) (h4:m≤c) (cp':Option Nat) (i' k':Nat) (hik:i'*sz+k'=i*sz+k+l*s) (hcp:match cp' with | some c'=>m - l=c' | none=>k'=0∧i'+(m - l)=cap):
  jv (.arr b o sz cap) i' k' (h - l) cp' (.slice (if m=l then a else a.map (·.add (l*s))) (h - l) (m - l)):=by
 obtain⟨a',c',hu',hlc,hm,hn,ha,hc⟩:=hx
 rw[hu] at hu'
 injection hu' with e1 e2 e3
 subst e1;subst e3
 refine⟨_,_,rfl,by omega,by omega,?_,?_,hcp⟩
 ·intro q
  split at q
  ·omega
  ·cases a with
   | none=>have:=hn rfl;omega
   | some a=>simp at q
 ·intro q
  rw[if_neg (by omega),ha (by omega)]
  simp only[Option.map_some,uT]
  congr 2;omega
theorem Zj {t e':TypeId} {ti:TypeInfo} (hu:P.underlying t=some (.slice e')) (hi:P.info? e'=some ti) {a:Option Addr} {len c:Nat} {vl vh vm:Option Value} {l h m:Nat}
  (hb:(Instr.sliceBounds true len c vl vh vm).run P w=.ok (l,h,m) w):
  (Instr.sliceAt t (.slice a len c) vl vh vm).run P w=.ok (.slice (if m=l then a else a.map (·.add (l*ti.size))) (h - l) (m - l)) w:=by
 simp[Instr.sliceAt,Instr.slice,run_underlying hu,hb,qC hi]
theorem zHr {t e':TypeId} {N:Nat} {ti:TypeInfo} (hu:P.underlying t=some (.array N e')) (hi:P.info? e'=some ti) {b o:Nat} {vl vh vm:Option Value} {l h m:Nat}
  (hb:(Instr.sliceBounds false N N vl vh vm).run P w=.ok (l,h,m) w):
  (Instr.sliceAt t (.pointer (some ⟨b,o,none⟩)) vl vh vm).run P w=.ok (.slice (if m=l then some ⟨b,o,none⟩ else (some ⟨b,o,none⟩:Option Addr).map (·.add (l*ti.size))) (h - l) (m - l)) w:=by
 simp[Instr.sliceAt,Instr.sureAddr,run_underlying hu,hb,qC hi]
 split<;>simp_all
theorem zK1 {t ar e':TypeId} {N:Nat} {ti:TypeInfo} (hp:P.underlying t=some (.pointer ar)) (hu:P.underlying ar=some (.array N e')) (hi:P.info? e'=some ti) {b o:Nat} {vl vh vm:Option Value} {l h m:Nat}
  (hb:(Instr.sliceBounds false N N vl vh vm).run P w=.ok (l,h,m) w):
  (Instr.sliceAt t (.pointer (some ⟨b,o,none⟩)) vl vh vm).run P w=.ok (.slice (if m=l then some ⟨b,o,none⟩ else (some ⟨b,o,none⟩:Option Addr).map (·.add (l*ti.size))) (h - l) (m - l)) w:=by
 simp[Instr.sliceAt,Instr.slice,asAddr,run_underlying hu,run_underlying hp,hb,qC hi]
 split<;>simp_all
/-- The array's part as a slice. -/
theorem zAY (h:Rel F e D PS w) {N s:Nat} {x:HV} {u:Value} {low high max:Option HV} {vl vh vm:Option Value} {K:HV→Prop} (hx:zH (Mut F D) e w x u)
  (hl:∀y v,low=some y→vl=some v→zH (Mut F D) e w y v) (hl':low.isSome=vl.isSome)
  (hh:∀y v,high=some y→vh=some v→zH (Mut F D) e w y v) (hh':high.isSome=vh.isSome)
  (hm:∀y v,max=some y→vm=some v→zH (Mut F D) e w y v) (hm':max.isSome=vm.isSome) (hc:wT PS N s x low high max K):
  ∃b o l h m y,u=.pointer (some ⟨b,o,none⟩)∧(Instr.sliceBounds false N N vl vh vm).run P w=.ok (l,h,m) w∧
   zH (Mut F D) e w y (.slice (if m=l then some ⟨b,o,none⟩ else (some ⟨b,o,none⟩:Option Addr).map (·.add (l*s))) (h - l) (m - l))∧K y:=by
 cases x with
 | ptr n ver i k=>
  obtain⟨hN,hlv,hc⟩:=hc
  have hN:N≤maxLen:=Nat.le_trans hN (by simp[maxLen])
  obtain⟨p,b,o,sz,cap,hp,hv,hkd,rfl⟩:=kr h hx hlv
  obtain⟨l,hi,m,hrun,h1,h2,h3,_,hK⟩:=YI (P:=P) (cap:=N) false hc (Nat.le_refl _) (Nat.le_refl _) hl hl' hh hh' hm hm'
  refine⟨b,_,l,hi,m.getD N,_,rfl,hrun,.isl n ver i (k+l*s) (hi - l) (m.getD N - l) _ p hp (by omega) (fun _=>?_) rfl,hK⟩
  rw[hkd]
  refine Xb (s:=s) (cp:=some N) (i:=i) (k:=k) (len:=N) (c:=N) rfl ⟨_,_,rfl,Nat.le_refl _,hN,by simp,fun _=>rfl,rfl⟩ h1 h2 h3 (some (m.getD N - l)) i (k+l*s) (by omega) rfl
 | iptr c k=>
  obtain⟨hN,rfl,hk,hc⟩:=hc
  have hN:N≤maxLen:=Nat.le_trans hN (by simp[maxLen])
  cases hx with
  | iptr c k b o val hb h1c hcell zT=>
   obtain⟨l,hi,m,hrun,h1,h2,h3,_,hK⟩:=YI (P:=P) (cap:=N) false hc (Nat.le_refl _) (Nat.le_refl _) hl hl' hh hh' hm hm'
   refine⟨b,_,l,hi,m.getD N,_,rfl,hrun,?_,hK⟩
   have hlen:(((c.drop (k+l)).take (hi - l)).map fun y=>[y]).length=hi - l:=by simp;omega
   have hget:∀(i:Nat) (r:List HV),(((c.drop (k+l)).take (hi - l)).map fun y=>[y])[i]? =some r→∃y,r=[y]∧c[k+l+i]? =some y:=by
    intro i r hr
    rw[List.getElem?_map,List.getElem?_take,List.getElem?_drop] at hr
    split at hr
    ·cases hy:c[k+l+i]? with
     | none=>rw[hy] at hr;cases hr
     | some y=>rw[hy] at hr;cases hr;exact⟨y,rfl,rfl⟩
    ·cases hr
   have:=zH.imm (M:=Mut F D) (e:=e) (w:=w) (decide (m.getD N=hi)) (((c.drop (k+l)).take (hi - l)).map fun y=>[y])
    (if m.getD N=l then some ⟨b,o+k,none⟩ else (some ⟨b,o+k,none⟩:Option Addr).map (·.add (l*1))) (m.getD N - l) b (o+k+l) 1 (fun i _=>val (k+l+i))
    (by rw[hlen];omega) (by omega) (fun q=>by rw[hlen];have:=of_decide_eq_true q;omega) (by intro q;split at q<;>simp at q) (by
     intro q
     rw[if_neg (by omega)]
     simp[uT]) (fun _=>hb) (by
     intro r hr
     obtain⟨y,_,rfl⟩:=List.mem_map.1 hr
     rfl) (fun _ _=>h1c _) (by
     intro i r j x hr hj
     obtain⟨y,rfl,hy⟩:=hget i r hr
     cases j with
     | zero=>rw[←hcell _ _ hy];congr 2;omega
     | succ j=>simp at hj) (by
     intro i r j x hr hj
     obtain⟨y,rfl,hy⟩:=hget i r hr
     cases j with
     | zero=>simp at hj;subst hj;exact zT _ _ hy
     | succ j=>simp at hj)
   rw[hlen] at this
   exact this
 | _=>exact hc.elim
theorem zLN (h:Rel F e D PS w) {t:TypeId} {x:HV} {u:Value} {low high max:Option HV} {vl vh vm:Option Value} {K:HV→Prop} (hx:zH (Mut F D) e w x u)
  (hl:∀y v,low=some y→vl=some v→zH (Mut F D) e w y v) (hl':low.isSome=vl.isSome)
  (hh:∀y v,high=some y→vh=some v→zH (Mut F D) e w y v) (hh':high.isSome=vh.isSome)
  (hm:∀y v,max=some y→vm=some v→zH (Mut F D) e w y v) (hm':max.isSome=vm.isSome) (hc:wm P PS t x low high max K):
  ∃y v,(Instr.sliceAt t u vl vh vm).run P w=.ok v w∧zH (Mut F D) e w y v∧K y:=by
 unfold wm at hc
 split at hc
 ·rename_i hu
  cases x with
  | str s=>?_
  | _=>exact hc.elim
  cases hx
  obtain⟨hn,hc⟩:=hc
  obtain rfl:vm=none:=by cases vm<;>simp_all
  obtain⟨l,hi,m,hrun,h1,h2,h3,_,hK⟩:=YI (P:=P) (cap:=s.length) (max:=none) (vm:=none) false hc (Nat.le_refl _) (Nat.le_refl _) hl hl' hh hh' (by simp) rfl
  refine⟨_,_,?_,.str _,hK⟩
  have:(⟨s.toArray⟩:ByteArray).size=s.length:=by simp[ByteArray.size]
  simp only[Instr.sliceAt,Instr.slice,Sem.run_bind,run_underlying hu,Result.andThen_ok,this,hrun,Option.isSome_none,Bool.false_eq_true,if_false,Sem.run_pure]
  congr 2
  apply ByteArray.ext
  simp[ByteArray.data_extract]
  rw[List.drop_take]
 ·rename_i e' hu
  simp only[qO,hu] at hc
  cases hi:P.info? e' with
  | none=>simp[hi] at hc
  | some ti=>
   simp only[hi] at hc
   cases x with
   | imm t' E=>
    obtain⟨hs,hc⟩:=hc
    cases hx':u with
    | slice a len c=>
     subst hx'
     have hlen:len=E.length:=by cases hx;rfl
     subst hlen
     have hcl:E.length≤c∧(t'=true→c=E.length):=by cases hx with | imm t E a c b o sz val hc hm ht=>exact⟨hc,ht⟩
     obtain⟨l,hh2,m,hrun,h1,h2,h3,h4,hK⟩:=YI (P:=P) (cap:=c) true hc (Nat.le_refl _) hcl.1 hl hl' hh hh' hm hm'
     cases m with
     | none=>
      refine⟨_,_,Zj hu hi hrun,zCy hx hs h1 (by simpa using h2) (by have:=hcl.1;simp only[Option.getD_none] at h2 ⊢;omega) (Nat.le_refl _) _ ?_,hK⟩
      intro q
      simp at q
      try rw[Option.getD_none]
      rw[hcl.2 q.1]
      rcases q.2 with q | q
      ·exact(h4 q).symm
      ·exact q.symm
     | some m=>
      simp at h2 h3
      refine⟨_,_,Zj hu hi hrun,zCy hx hs h1 (by omega) (by simpa using h2) (by simp;omega) _ ?_,hK⟩
      intro q
      simpa using q
    | _=>subst hx';cases hx
   | sl n ver i len cp=>
    obtain⟨hlv,hsz',hc⟩:=hc
    obtain⟨E,opn,p,b,o,sz,cap,hq,hp,hv,hkd,_,zd⟩:=h.live hlv
    rw[hq] at hsz'
    simp only[hsz] at hsz'
    subst hsz'
    cases hx with
    | sl n ver i len cp u p' hp' hv' hh2 h1'=>
     rw[hp] at hp';cases hp'
     have hsl:=hh2 hv.symm
     rw[hkd] at hsl
     obtain⟨a,c,rfl,hlc,hcm,hn,ha,hcc⟩:=id hsl
     have hrl:=zd.len
     have uN:len≤uN (zA PS n) i len cp∧uN (zA PS n) i len cp≤c:=by
      cases cp with
      | none=>rw[hq];simp only[Go.Eng.uN,uy];have:=hcc.2;exact⟨Nat.le_max_left _ _,by omega⟩
      | some c'=>simp only at hcc;subst hcc;exact⟨hlc,Nat.le_refl _⟩
     obtain⟨l,hi2,m,hrun,h1,h2,h3,h4,hK⟩:=YI (P:=P) (cap:=c) true hc uN.1 uN.2 hl hl' hh hh' hm hm'
     cases m with
     | none=>
      simp only[Option.getD_none] at h2 h3 hrun
      refine⟨_,_,Zj hu hi hrun,.sl n ver (i+l) (hi2 - l) (cp.map (· - l)) _ p hp (by omega) (fun _=>?_) rfl,hK⟩
      rw[hkd]
      refine Xb (s:=ti.size) rfl hsl h1 (by omega) (Nat.le_refl _) _ (i+l) 0 (by rw[Nat.add_mul];omega) ?_
      cases cp with
      | none=>exact⟨rfl,by have:=hcc.2;omega⟩
      | some c'=>simp only at hcc;subst hcc;rfl
     | some m=>
      simp only[Option.getD_some] at h2 h3 hrun
      refine⟨_,_,Zj hu hi hrun,.sl n ver (i+l) (hi2 - l) (some (m - l)) _ p hp (by omega) (fun _=>?_) rfl,hK⟩
      rw[hkd]
      exact Xb (s:=ti.size) rfl hsl h1 (by omega) (by omega) _ (i+l) 0 (by rw[Nat.add_mul];omega) rfl
   | isl n ver i k len cp=>
    obtain⟨hlv,hc⟩:=hc
    obtain⟨E,opn,p,b,o,sz,cap,hq,hp,hv,hkd,_,zd⟩:=h.live hlv
    cases hx with
    | isl n ver i k len cp u p' hp' hv' hh2 h1'=>
     rw[hp] at hp';cases hp'
     have hsl:=hh2 hv.symm
     rw[hkd] at hsl
     obtain⟨a,c,rfl,hlc,hcm,hn,ha,hcc⟩:=id hsl
     simp only at hcc
     subst hcc
     obtain⟨l,hi2,m,hrun,h1,h2,h3,h4,hK⟩:=YI (P:=P) (cap:=c) true hc hlc (Nat.le_refl _) hl hl' hh hh' hm hm'
     cases m with
     | none=>
      simp only[Option.getD_none] at h2 h3 hrun
      refine⟨_,_,Zj hu hi hrun,.isl n ver i (k+l*ti.size) (hi2 - l) (c - l) _ p hp (by omega) (fun _=>?_) rfl,hK⟩
      rw[hkd]
      exact Xb (s:=ti.size) rfl hsl h1 (by omega) (Nat.le_refl _) _ i _ (by omega) rfl
     | some m=>
      simp only[Option.getD_some] at h2 h3 hrun
      refine⟨_,_,Zj hu hi hrun,.isl n ver i (k+l*ti.size) (hi2 - l) (m - l) _ p hp (by omega) (fun _=>?_) rfl,hK⟩
      rw[hkd]
      exact Xb (s:=ti.size) rfl hsl h1 (by omega) (by omega) _ i _ (by omega) rfl
   | _=>exact hc.elim
 ·rename_i N e' hu
  simp only[wR,hu] at hc
  cases hi:P.info? e' with
  | none=>simp[hi] at hc
  | some ti=>
   simp only[hi] at hc
   obtain⟨b,o,l,h2,m,y,rfl,hrun,hv,hK⟩:=zAY (P:=P) h hx hl hl' hh hh' hm hm' hc
   exact⟨y,_,zHr hu hi hrun,hv,hK⟩
 ·rename_i ar hu
  unfold wR at hc
  cases hu2:P.underlying ar with
  | none=>simp[hu2] at hc
  | some d=>
   cases d with
   | array N e'=>
    cases hi:P.info? e' with
    | none=>simp[hu2,hi] at hc
    | some ti=>
     simp only[hu2,hi] at hc
     obtain⟨b,o,l,h2,m,y,rfl,hrun,hv,hK⟩:=zAY (P:=P) h hx hl hl' hh hh' hm hm' hc
     exact⟨y,_,zK1 hu hu2 hi hrun,hv,hK⟩
   | _=>simp[hu2] at hc
 ·exact hc.elim
end
end Go.Eng
