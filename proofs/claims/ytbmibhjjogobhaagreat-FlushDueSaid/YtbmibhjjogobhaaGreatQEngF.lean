/-
The rest of the operations that only compute; all of them as one abstract meaning.
No conditions.
-/
import Derived.Test.YtbmibhjjogobhaaGreatQEngE
set_option linter.unusedSectionVars false
set_option linter.unusedSimpArgs false
set_option linter.unusedVariables false
namespace Go.Eng
open Go
variable [zB]
/-- A row's name is not stale. -/
def qM (q:zC) (ver:Nat):Prop:=
 match q with
 | .arr ver' _ _ _=>ver=ver'
 | _=>False
/-- The length of a slice that is known by name. -/
def uO (i:Nat) (K:HV→Prop):Prop:=
 match zB.rlen i with
 | some j=>K (.tok .i64 j)
 | none=>False
theorem zBe {i:Nat} {K K':HV→Prop} (hk:∀v,K v→K' v) (h:uO i K):uO i K':=by
 unfold uO at*
 split at h
 ·exact hk _ h
 ·exact h
theorem zDN {i:Nat} {K:HV→Prop} (h:uO i K):∃z,uO i (fun v=>v=z)∧K z:=by
 unfold uO at*
 split at h
 ·exact⟨_,rfl,h⟩
 ·exact h.elim
def hlen (P:Program) (PS:PL) (t:TypeId) (x:HV) (K:HV→Prop):Prop:=
 match P.underlying t with
 | some .string=>(match x with | .str s=>K (.int .i64 s.length) | .stok i=>(match zB.slen i with | some j=>K (.tok .i64 j) | none=>False) | _=>False)
 | some (.slice _)=>(match x with
  | .imm _ E=>E.length≤maxLen→K (.int .i64 E.length)
  | .sl n ver _ len _=>qM (zA PS n) ver∧(len≤maxLen→K (.int .i64 len))
  | .isl n ver _ _ len _=>qM (zA PS n) ver∧(len≤maxLen→K (.int .i64 len))
  | .nam i=>uO i K
  | _=>False)
 | some (.array n _)=>K (.int .i64 n)
 | some (.pointer ar)=>(match P.underlying ar with | some (.array n _)=>K (.int .i64 n) | _=>False)
 | _=>False
def wy (x:HV) (i:Nat) (K:HV→Prop):Prop:=
 match x with
 | .tup l=>∃y,l[i]? =some y∧K y
 | _=>False
/-- A part of an aggregate. -/
def uB (b:Bool) (s off:Nat) (l:List HV) (K:HV→Prop):Prop:=
 if b then off+s≤l.length∧K (.agg ((l.drop off).take s)) else ∃y,l[off]? =some y∧K y
def jI (P:Program) (t:TypeId) (x:HV) (f:Nat) (K:HV→Prop):Prop:=
 match P.underlying t,x with
 | some (.struct fs),.agg l=>(match fs[f]? with
  | some g=>(match tsz P g.type with | some (b,s)=>uB b s g.offset l K | none=>False)
  | none=>False)
 | _,_=>False
def vc (P:Program) (t:TypeId) (x i:HV) (K:HV→Prop):Prop:=
 match P.underlying t with
 | some .string=>(match x,i with
  | .str s,.int _ n=>0≤n∧∃b,s[n.toNat]? =some b∧K (.int .u8 b.toNat)
  | _,_=>False)
 | some (.array N e)=>(match x,i with
  | .agg l,.int _ n=>0≤n∧n<N∧(match tsz P e with | some (b,s)=>uB b s (n.toNat*s) l K | none=>False)
  | _,_=>False)
 | _=>False
def wg (PS:PL) (x:HV) (K:HV→Prop):Prop:=
 match x with
 | .ptr n ver i k=>qJ (zA PS n) ver∧K (.ptr n ver i k)
 | .iptr l k=>K (.iptr l k)
 | .func (.func f) a b=>K (.func (.func f) a b)
 | .cst (.func (.func f) a b)=>K (.cst (.func (.func f) a b))
 | .iface t y=>K (.iface t y)
 | _=>False
def vt (c a b:HV) (K:HV→Prop):Prop:=
 match c with
 | .bool x=>(x=true→K a)∧(x=false→K b)
 | _=>False
def vg (k:IntKind) (n:Int) (K:HV→Prop):Prop:=
 match k with
 | .i64=>Zw n∧K (.int .i64 n)
 | .u64=>Zv n∧K (.int .u64 n)
 | k=>K (.int k (k.wrap n))
/-- Bytes out of rows of one cell. -/
def bytesOf:List (List HV)→Option (List UInt8)
 | []=>some []
 | [.int .u8 n]::r=>(bytesOf r).map (UInt8.ofNat n.toNat:: ·)
 | _=>none
/-- The rows of a slice,each of s cells. -/
def zz (PS:PL) (s:Nat) (x:HV) (K:List (List HV)→Prop):Prop:=
 match x with
 | .imm _ E=>(∀r∈E,r.length=s)∧K E
 | .sl n ver i len _=>(match zA PS n with
  | .arr ver' sz E _=>ver=ver'∧(len=0∨sz=s)∧i+len≤E.length∧K ((E.drop i).take len)
  | _=>False)
 | .isl n ver i k len _=>s=1∧zd (zA PS n) ver i fun l=>k+len≤l.length∧K (((l.drop k).take len).map fun y=>[y])
 | _=>False
def wc (P:Program) (PS:PL) (src dst:TypeId) (x:HV) (K:HV→Prop):Prop:=
 match P.underlying src with
 | none=>False
 | some s=>match P.underlying dst with
  | some (.int k)=>(match x with | .int _ n=>vg k n K | .tok _ i=>vg k (zB.num i) (rename (zB.conv i k) K) | _=>False)
  | some .string=>(match s,x with
   | .string,.str l=>K (.str l)
   | .slice e,x=>P.underlying e=some (.int .u8)∧zz PS 1 x fun E=>∃l,bytesOf E=some l∧K (.str l)
   | _,_=>False)
  | _=>False
section
variable {P:Program} {F:Nat→Prop} {e:List Pos} {D:Nat→Nat→Prop} {PS:PL} {w:World}
theorem Rel.Um (h:Rel F e D PS w) {n ver:Nat} (hl:qM (zA PS n) ver):
  ∃sz E opn p,zA PS n=.arr ver sz E opn∧e[n]? =some p∧p.ver=ver∧yK (Mut F D) e w (D n) (.arr ver sz E opn) p:=by
 cases hq:zA PS n with
 | arr ver' sz E opn=>
  rw[hq] at hl
  obtain rfl:=hl
  have hp:=xj hq (by simp)
  have hn:n<e.length:=by
   rw[h.len]
   rcases Nat.lt_or_ge n PS.length with h' | h'
   ·exact h'
   ·simp[List.getElem?_eq_none h'] at hp
  have hpos:e[n]? =some e[n]:=by simp[hn]
  have hh:=h.holds n _ _ hp hpos
  refine⟨sz,E,opn,e[n],rfl,hpos,?_,hh⟩
  unfold yK at hh
  cases hk:e[n].kind<;>simp only[hk] at hh
  ·exact hh.1.symm
  ·exact hh.1.symm
 | dead=>rw[hq] at hl;exact hl.elim
 | map _ _ _ _=>rw[hq] at hl;exact hl.elim
 | mapT _ _ _ _=>rw[hq] at hl;exact hl.elim
 | iter _ _ _ _ _=>rw[hq] at hl;exact hl.elim
 | rnd _ _ _ _ _ _ _ _=>rw[hq] at hl;exact hl.elim
/-- A slice's name,in the model. -/
theorem zBu (h:Rel F e D PS w) {n ver i len:Nat} {cp:Option Nat} {u:Value} (hx:zH (Mut F D) e w (.sl n ver i len cp) u) (hl:qM (zA PS n) ver):
  ∃a c,u=.slice a len c∧len≤c∧c≤maxLen:=by
 obtain⟨sz,E,opn,p,hq,hp,hv,hh⟩:=h.Um hl
 cases hx with
 | sl n ver i len cp u p' hp' hv' hs h1=>
  rw[hp] at hp';cases hp'
  have:=hs hv.symm
  unfold yK at hh
  unfold jv at this
  cases hk:p.kind<;>simp only[hk] at hh this
  ·obtain⟨a,c,h1,h2,h3,_⟩:=this;exact⟨a,c,h1,h2,h3⟩
  ·obtain⟨⟨a,rfl⟩,rfl,_⟩:=this;exact⟨a,0,rfl,Nat.le_refl _,Nat.zero_le _⟩
theorem zJ2 (h:Rel F e D PS w) {n ver i len:Nat} {cp:Option Nat} {u:Value} (hx:zH (Mut F D) e w (.sl n ver i len cp) u) (hl:qM (zA PS n) ver):
  ∃a c,u=.slice a len c∧len≤c∧(a=none→c=0):=by
 obtain⟨sz,E,opn,p,hq,hp,hv,hh⟩:=h.Um hl
 cases hx with
 | sl n ver i len cp u p' hp' hv' hs h1=>
  rw[hp] at hp';cases hp'
  have:=hs hv.symm
  unfold yK at hh
  unfold jv at this
  cases hk:p.kind<;>simp only[hk] at hh this
  ·obtain⟨a,c,h1,h2,h3,h4,_⟩:=this;exact⟨a,c,h1,h2,h4⟩
  ·obtain⟨⟨a,rfl⟩,rfl,_⟩:=this;exact⟨a,0,rfl,Nat.le_refl _,fun _=>rfl⟩
theorem zHU (h:Rel F e D PS w) {n ver i k len cp:Nat} {u:Value} (hx:zH (Mut F D) e w (.isl n ver i k len cp) u) (hl:qM (zA PS n) ver):
  ∃a c,u=.slice a len c∧len≤c∧c≤maxLen:=by
 obtain⟨sz,E,opn,p,hq,hp,hv,hh⟩:=h.Um hl
 cases hx with
 | isl n ver i k len cp u p' hp' hv' hs h1=>
  rw[hp] at hp';cases hp'
  have:=hs hv.symm
  unfold yK at hh
  unfold jv at this
  cases hk:p.kind<;>simp only[hk] at hh this
  ·obtain⟨a,c,h1,h2,h3,_⟩:=this;exact⟨a,c,h1,h2,h3⟩
  ·obtain⟨⟨a,rfl⟩,rfl,_⟩:=this;exact⟨a,0,rfl,Nat.le_refl _,Nat.zero_le _⟩
theorem zHT {t ty:TypeId} {x:HV} {u:Value} {K:HV→Prop} (h:Rel F e D PS w) (hx:zH (Mut F D) e w x u) (hc:hlen P PS t x K):
  ∃y v,(Builtin.len_ #[t] ty #[u]).run P w=.ok v w∧zH (Mut F D) e w y v∧K y:=by
 unfold hlen at hc
 split at hc
 ·rename_i hu
  cases x with
  | str s=>
   cases hx
   exact⟨_,_,by simp[Builtin.len_,run_underlying hu,goInt];rfl,by simpa [ByteArray.size] using zH.int (M:=Mut F D) (e:=e) (w:=w) .i64 s.length,hc⟩
  | stok i=>
   cases hx
   simp only at hc
   cases hj:zB.slen i with
   | none=>rw[hj] at hc;exact hc.elim
   | some j=>
    rw[hj] at hc
    have:=zH.tok (M:=Mut F D) (e:=e) (w:=w) .i64 j
    rw[zB.slen_ok i j hj] at this
    exact⟨_,_,by simp[Builtin.len_,run_underlying hu,goInt];rfl,by simpa [ByteArray.size] using this,hc⟩
  | _=>exact hc.elim
 ·rename_i e' hu
  cases x with
  | imm t' E=>
   cases hx with
   | imm t' E a c b o sz val h1 h2=>
    exact⟨_,.int .i64 E.length,by simp[Builtin.len_,run_underlying hu,goInt],.int _ _,hc (Nat.le_trans h1 h2)⟩
  | nam i=>
   cases hx with
   | nam i v h1=>
    cases h1 with
    | imm t' E a c b o sz val h1 h2=>
     have hc:uO i K:=hc
     unfold uO at hc
     cases hj:zB.rlen i with
     | none=>rw[hj] at hc;exact hc.elim
     | some j=>
      rw[hj] at hc
      have:=zH.tok (M:=Mut F D) (e:=e) (w:=w) .i64 j
      rw[zB.rlen_ok i j hj] at this
      exact⟨_,.int .i64 (zB.rows i).length,by simp[Builtin.len_,run_underlying hu,goInt],this,hc⟩
  | sl n ver i len cp=>
   obtain⟨hv,hc⟩:=hc
   obtain⟨a,c,rfl,h1,h2⟩:=zBu h hx hv
   exact⟨_,.int .i64 len,by simp[Builtin.len_,run_underlying hu,goInt],.int _ _,hc (Nat.le_trans h1 h2)⟩
  | isl n ver i k len cp=>
   obtain⟨hv,hc⟩:=hc
   obtain⟨a,c,rfl,h1,h2⟩:=zHU h hx hv
   exact⟨_,.int .i64 len,by simp[Builtin.len_,run_underlying hu,goInt],.int _ _,hc (Nat.le_trans h1 h2)⟩
  | _=>exact hc.elim
 ·rename_i n e' hu
  exact⟨_,.int .i64 n,by simp[Builtin.len_,run_underlying hu,goInt],.int _ _,hc⟩
 ·rename_i ar hu
  split at hc
  ·rename_i n e' hu2
   exact⟨_,.int .i64 n,by simp[Builtin.len_,run_underlying hu,run_underlying hu2,goInt],.int _ _,hc⟩
  ·exact hc.elim
 ·exact hc.elim
theorem zN5 {i:Nat} {x:HV} {u:Value} {K:HV→Prop} (hx:zH (Mut F D) e w x u) (hc:wy x i K):
  ∃y v,(Instr.extract u i).run P w=.ok v w∧zH (Mut F D) e w y v∧K y:=by
 cases x with
 | tup l=>
  obtain⟨y,hy,hK⟩:=hc
  cases hx with
  | tup l vs hl hh=>
   have hi:i<vs.size:=by rw[hl];exact(List.getElem?_eq_some_iff.1 hy).1
   exact⟨y,vs[i],by simp[Instr.extract,hi],hh i y vs[i] hy (by simp[hi]),hK⟩
 | _=>exact hc.elim
theorem zA5 {t:TypeId} {b:Bool} {s off:Nat} {l:List HV} {vs:Array Value} {K:HV→Prop} (ht:tsz P t=some (b,s)) (hx:zH (Mut F D) e w (.agg l) (.agg vs)) (hc:uB b s off l K):
  ∃y v,(part t vs off).run P w=.ok v w∧zH (Mut F D) e w y v∧K y:=by
 unfold tsz at ht
 cases hu:P.underlying t with
 | none=>simp[hu] at ht
 | some d=>
  cases hi:P.info? t with
  | none=>simp[hu,hi] at ht
  | some i=>
   simp only[hu,hi,Option.some.injEq,Prod.mk.injEq] at ht
   obtain⟨hb,rfl⟩:=ht
   cases hx with
   | agg l vs hl hh=>
    unfold uB at hc
    cases b with
    | true=>
     simp only[if_true] at hc
     refine⟨_,.agg (vs.extract off (off+i.size)),by simp[part,xL hu,hb,qC hi],.agg _ _ (by simp;omega) ?_,hc.2⟩
     intro j y v hy hv
     rw[List.getElem?_take] at hy
     split at hy
     ·rename_i hj
      rw[List.getElem?_drop] at hy
      rw[Array.getElem?_extract] at hv
      split at hv
      ·exact hh _ _ _ hy hv
      ·cases hv
     ·cases hy
    | false=>
     simp only[Bool.false_eq_true,if_false] at hc
     obtain⟨y,hy,hK⟩:=hc
     have ho:off<vs.size:=by rw[hl];exact(List.getElem?_eq_some_iff.1 hy).1
     exact⟨y,vs[off],by simp[part,xL hu,hb,ho],hh off y _ hy (by simp[ho]),hK⟩
theorem zMO {t:TypeId} {f:Nat} {x:HV} {u:Value} {K:HV→Prop} (hx:zH (Mut F D) e w x u) (hc:jI P t x f K):
  ∃y v,(Instr.field t u f).run P w=.ok v w∧zH (Mut F D) e w y v∧K y:=by
 unfold jI at hc
 cases hu:P.underlying t with
 | none=>rw[hu] at hc;exact hc.elim
 | some d=>
  cases d with
  | struct fs=>
   rw[hu] at hc
   cases x with
   | agg l=>
    simp only at hc
    cases hf:fs[f]? with
    | none=>rw[hf] at hc;exact hc.elim
    | some g=>
     rw[hf] at hc
     simp only at hc
     cases ht:tsz P g.type with
     | none=>rw[ht] at hc;exact hc.elim
     | some bs=>
      obtain⟨b,s⟩:=bs
      rw[ht] at hc
      cases hx':u with
      | agg vs=>
       subst hx'
       obtain⟨y,v,h1,h2,h3⟩:=zA5 ht hx hc
       exact⟨y,v,by simp[Instr.field,run_underlying hu,hf,asAgg,h1],h2,h3⟩
      | _=>subst hx';cases hx
   | _=>exact hc.elim
  | _=>rw[hu] at hc;exact hc.elim
theorem zRY {t:TypeId} {x i:HV} {u v:Value} {K:HV→Prop} (hx:zH (Mut F D) e w x u) (hiv:zH (Mut F D) e w i v) (hc:vc P t x i K):
  ∃y z,(Instr.index t u v).run P w=.ok z w∧zH (Mut F D) e w y z∧K y:=by
 unfold vc at hc
 split at hc
 ·rename_i hu
  split at hc
  ·rename_i s k n
   cases hx;cases hiv
   obtain⟨h0,b,hb,hK⟩:=hc
   refine⟨_,.int .u8 b.toNat,?_,.int _ _,hK⟩
   have hb':(⟨s.toArray⟩:ByteArray)[n.toNat]? =some b:=by
    have hlt:n.toNat<s.length:=(List.getElem?_eq_some_iff.1 hb).1
    have hv:s[n.toNat]=b:=(List.getElem?_eq_some_iff.1 hb).2
    rw[getElem?_pos _ _ (by simpa [ByteArray.size] using hlt)]
    congr 1
   simp[Instr.index,asIntOf,run_underlying hu,h0,hb']
  ·exact hc.elim
 ·rename_i N e' hu
  split at hc
  ·rename_i l k n
   cases hiv
   obtain⟨h0,h1,hc⟩:=hc
   cases ht:tsz P e' with
   | none=>rw[ht] at hc;exact hc.elim
   | some bs=>
    obtain⟨b,s⟩:=bs
    rw[ht] at hc
    cases hx':u with
    | agg vs=>
     subst hx'
     obtain⟨y,z,h2,h3,h4⟩:=zA5 ht hx hc
     have hs:∃ti,P.info? e'=some ti∧ti.size=s:=by
      unfold tsz at ht
      cases hu':P.underlying e'<;>cases hi:P.info? e'<;>simp[hu',hi] at ht
      exact⟨_,rfl,ht.2⟩
     obtain⟨ti,hi,rfl⟩:=hs
     exact⟨y,z,by simp[Instr.index,asIntOf,run_underlying hu,h0,h1,qC hi,h2],h3,h4⟩
    | _=>subst hx';cases hx
  ·exact hc.elim
 ·exact hc.elim
theorem zCz {k:IntKind} {n:Int} {K:HV→Prop} (hc:vg k n K):∃y v,(Conv.intToInt k n).run P w=.ok v w∧zH (Mut F D) e w y v∧K y:=by
 cases k with
 | i64=>exact⟨_,_,rfl,by rw[wrap_i64 hc.1];exact .int _ _,hc.2⟩
 | u64=>exact⟨_,_,rfl,by rw[wrap_u64 hc.1];exact .int _ _,hc.2⟩
 | _=>exact⟨_,_,rfl,.int _ _,hc⟩
/-- The cells of a slice's rows,in the model. -/
theorem zAH (h:Rel F e D PS w) {s:Nat} {x:HV} {u:Value} {K:List (List HV)→Prop} (hx:zH (Mut F D) e w x u) (hc:zz PS s x K):
  ∃(E:List (List HV)) (a:Option Addr) (c:Nat) (vs:List Value),u=.slice a E.length c∧K E∧(∀r∈E,r.length=s)∧vs.length=E.length*s∧
   (∀(j:Nat) (v:Value),vs[j]? =some v→∃ad,a=some ad∧w.cell? (ad.add j)=some v)∧(∀v∈vs,v.oneCell'=true)∧
   (∀(i:Nat) (r:List HV) (k:Nat) (y:HV),E[i]? =some r→r[k]? =some y→∃v,vs[i*s+k]? =some v∧zH (Mut F D) e w y v):=by
 have fin:∀(E:List (List HV)) (b o c:Nat) (a:Option Addr) (val:Nat→Nat→Value),K E→(∀r∈E,r.length=s)→(E≠[]→a=some ⟨b,o,none⟩)→(∀i k,(val i k).oneCell'=true)→
   (∀(i:Nat) (r:List HV) (k:Nat) (y:HV),E[i]? =some r→r[k]? =some y→w.cell? ⟨b,o+i*s+k,none⟩=some (val i k)∧zH (Mut F D) e w y (val i k))→u=.slice a E.length c→
   ∃(E:List (List HV)) (a:Option Addr) (c:Nat) (vs:List Value),u=.slice a E.length c∧K E∧(∀r∈E,r.length=s)∧vs.length=E.length*s∧
   (∀(j:Nat) (v:Value),vs[j]? =some v→∃ad,a=some ad∧w.cell? (ad.add j)=some v)∧(∀v∈vs,v.oneCell'=true)∧
   (∀(i:Nat) (r:List HV) (k:Nat) (y:HV),E[i]? =some r→r[k]? =some y→∃v,vs[i*s+k]? =some v∧zH (Mut F D) e w y v):=by
  intro E b o c a val hK hs ha h1 hcell hu
  refine⟨E,a,c,(List.range (E.length*s)).map fun j=>val (j / s) (j % s),hu,hK,hs,by simp,?_,?_,?_⟩
  ·intro j v hj
   rw[List.getElem?_map] at hj
   have hjl:j<E.length*s:=by
    rcases Nat.lt_or_ge j (E.length*s) with h' | h'
    ·exact h'
    ·rw[List.getElem?_eq_none (by simpa using h')] at hj;cases hj
   rw[List.getElem?_range hjl] at hj
   simp only[Option.map_some,Option.some.injEq] at hj
   have hs0:0<s:=Nat.pos_of_ne_zero (by rintro rfl;simp at hjl)
   have hi:j / s<E.length:=(Nat.div_lt_iff_lt_mul hs0).2 hjl
   have hE:E≠[]:=by rintro rfl;simp at hi
   refine⟨_,ha hE,?_⟩
   have hr:(E[j / s]).length=s:=hs _ (List.getElem_mem hi)
   have hk:j % s<(E[j / s]).length:=by rw[hr];exact Nat.mod_lt _ hs0
   have:=(hcell (j / s) E[j / s] (j % s) (E[j / s])[j % s] (by simp[hi]) (by simp[hk])).1
   rw[uT,←hj,←this]
   congr 2
   rw[Nat.add_assoc,Nat.mul_comm,Nat.div_add_mod]
  ·intro v hv
   obtain⟨j,_,rfl⟩:=List.mem_map.1 hv
   exact h1 _ _
  ·intro i r k y hi hk
   have hs':=hs r (List.mem_of_getElem? hi)
   have hkl:k<s:=by rw[←hs'];exact(List.getElem?_eq_some_iff.1 hk).1
   have hil:i<E.length:=(List.getElem?_eq_some_iff.1 hi).1
   have hs0:0<s:=by omega
   have hlt:i*s+k<E.length*s:=by
    calc i*s+k<i*s+s:=by omega
     _=(i+1)*s:=by rw[Nat.add_mul,Nat.one_mul]
     _≤E.length*s:=Nat.mul_le_mul_right _ hil
   refine⟨val i k,?_,(hcell i r k y hi hk).2⟩
   rw[List.getElem?_map,List.getElem?_range hlt]
   simp only[Option.map_some,Option.some.injEq]
   rw[show (i*s+k) / s=i from by rw[Nat.add_comm,Nat.mul_comm,Nat.add_mul_div_left _ _ hs0,Nat.div_eq_of_lt hkl,Nat.zero_add],
    show (i*s+k) % s=k from by rw[Nat.add_comm,Nat.mul_comm,Nat.add_mul_mod_self_left,Nat.mod_eq_of_lt hkl]]
 cases x with
 | imm t E=>
  obtain⟨hs,hK⟩:=hc
  cases hx with
  | imm t E a c b o sz val h1 hm ht hn ha hb hsz h1c hcell zT=>
   refine fin E b o c a val hK hs (fun hE=>ha ?_) h1c (fun i r k y hi hk=>⟨?_,zT i r k y hi hk⟩) rfl
   ·have:=List.length_pos_iff.2 hE;omega
   ·rw[←hcell i r k y hi hk]
    rw[←hs r (List.mem_of_getElem? hi),←hsz r (List.mem_of_getElem? hi)]
 | sl n ver i0 len cp=>
  simp only[zz] at hc
  cases hq:zA PS n with
  | arr ver' sz E opn=>
   rw[hq] at hc
   obtain⟨rfl,hsz,hle,hK⟩:=hc
   have hv:qM (zA PS n) ver:=by rw[hq];rfl
   obtain⟨a,c,rfl,hlc,hcm⟩:=zBu h hx hv
   have hlen:((E.drop i0).take len).length=len:=by simp;omega
   by_cases h0:len=0
   ·subst h0
    refine⟨_,a,c,[],by rw[hlen],hK,by simp,by simp,by simp,by simp,by simp⟩
   ·obtain rfl:sz=s:=by omega
    have hE:E≠[]:=by rintro rfl;simp at hle;omega
    obtain⟨p,b,o,cap,hp,hpv,hkd,_,zd⟩:=h.row hq (.inr hE)
    obtain⟨cs,ty,hheap,_,hszs,hcell⟩:=zd.row
    cases hx with
    | sl n ver i0 len cp u p' hp' hv' hh h1'=>
     rw[hp] at hp';cases hp'
     have:=hh hpv.symm
     rw[hkd] at this
     obtain⟨a',c',hu',_,_,_,ha,_⟩:=this
     injection hu' with e1 e2 e3
     subst e1;subst e3
     obtain rfl:=ha (by omega)
     have hget:∀(i:Nat) (r:List HV),((E.drop i0).take len)[i]? =some r→E[i0+i]? =some r:=by
      intro i r hr
      rw[List.getElem?_take] at hr
      split at hr
      ·rwa [List.getElem?_drop] at hr
      ·cases hr
     have hex:∀i k,∃u:Value,u.oneCell'=true∧∀(r:List HV) (y:HV),E[i0+i]? =some r→r[k]? =some y→w.cell? ⟨b,o+(i0+i)*sz+k,none⟩=some u∧zH (Mut F D) e w y u:=by
      intro i k
      by_cases hx:∃(r:List HV) (y:HV),E[i0+i]? =some r∧r[k]? =some y
      ·obtain⟨r,y,hr,hy⟩:=hx
       obtain⟨u,h1,h2,h3⟩:=hcell (i0+i) r k y hr hy
       refine⟨u,h2,fun r' y' hr' hy'=>?_⟩
       rw[hr] at hr';cases hr'
       rw[hy] at hy';cases hy'
       exact⟨by rw[cell_of_row w b _ cs ty (0,0) hheap];exact h1,h3⟩
      ·exact⟨.bool true,rfl,fun r y hr hy=>absurd ⟨r,y,hr,hy⟩ hx⟩
     refine fin _ b (o+i0*sz) c (some ⟨b,o+i0*sz+0,none⟩) (fun i k=>Classical.choose (hex i k)) hK (fun r hr=>hszs r (List.mem_of_mem_drop (List.mem_of_mem_take hr))) (fun _=>rfl) (fun i k=>(Classical.choose_spec (hex i k)).1) (fun i r k y hi hk=>?_) (by rw[hlen])
     have:=(Classical.choose_spec (hex i k)).2 r y (hget i r hi) hk
     refine⟨?_,this.2⟩
     rw[←this.1];congr 2;rw[Nat.add_mul];omega
  | dead=>rw[hq] at hc;exact hc.elim
  | map _ _ _ _=>rw[hq] at hc;exact hc.elim
  | mapT _ _ _ _=>rw[hq] at hc;exact hc.elim
  | iter _ _ _ _ _=>rw[hq] at hc;exact hc.elim
  | rnd _ _ _ _ _ _ _ _=>rw[hq] at hc;exact hc.elim
 | isl n ver i0 k0 len cp=>
  obtain⟨rfl,hr⟩:=hc
  have hlv:=zDu hr
  obtain⟨E,opn,p,b,o,sz,cap,hq,hp,hpv,hkd,_,zd⟩:=h.live hlv
  rw[hq] at hr
  obtain⟨_,l,hl,hkl,hK⟩:=hr
  obtain⟨cs,ty,hheap,_,hszs,hcell⟩:=zd.row
  cases hx with
  | isl n ver i0 k0 len cp u p' hp' hv' hh h1'=>
   rw[hp] at hp';cases hp'
   have:=hh hpv.symm
   rw[hkd] at this
   obtain⟨a,c,rfl,hlc,hcm,hn,ha,hcc⟩:=this
   have hlen:(((l.drop k0).take len).map fun y=>[y]).length=len:=by simp;omega
   have hget:∀(i:Nat) (r:List HV),(((l.drop k0).take len).map fun y=>[y])[i]? =some r→∃y,r=[y]∧l[k0+i]? =some y:=by
    intro i r hr
    rw[List.getElem?_map,List.getElem?_take,List.getElem?_drop] at hr
    split at hr
    ·cases hy:l[k0+i]? with
     | none=>rw[hy] at hr;cases hr
     | some y=>rw[hy] at hr;cases hr;exact⟨y,rfl,rfl⟩
    ·cases hr
   have hex:∀i,∃u:Value,u.oneCell'=true∧∀(y:HV),l[k0+i]? =some y→w.cell? ⟨b,o+i0*sz+(k0+i),none⟩=some u∧zH (Mut F D) e w y u:=by
    intro i
    by_cases hx:∃(y:HV),l[k0+i]? =some y
    ·obtain⟨y,hy⟩:=hx
     obtain⟨u,h1,h2,h3⟩:=hcell i0 l (k0+i) y hl hy
     refine⟨u,h2,fun y' hy'=>?_⟩
     rw[hy] at hy';cases hy'
     exact⟨by rw[cell_of_row w b _ cs ty (0,0) hheap];exact h1,h3⟩
    ·exact⟨.bool true,rfl,fun y hy=>absurd ⟨y,hy⟩ hx⟩
   refine fin _ b (o+i0*sz+k0) c a (fun i _=>Classical.choose (hex i)) hK (fun r hr=>?_) (fun hE=>?_) (fun i k=>(Classical.choose_spec (hex i)).1) (fun i r k y hi hk=>?_) (by rw[hlen])
   ·obtain⟨y,_,rfl⟩:=List.mem_map.1 hr;rfl
   ·have:=List.length_pos_iff.2 hE
    rw[hlen] at this
    exact ha (by omega)
   ·obtain⟨y',rfl,hy'⟩:=hget i r hi
    cases k with
    | zero=>
     simp at hk;subst hk
     have:=(Classical.choose_spec (hex i)).2 _ hy'
     refine⟨?_,this.2⟩
     rw[←this.1];congr 2;omega
    | succ k=>simp at hk
 | _=>exact hc.elim
end
end Go.Eng
