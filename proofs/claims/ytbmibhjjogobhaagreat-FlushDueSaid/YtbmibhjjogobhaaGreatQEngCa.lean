/-
The abstract values, pieces of memory and their relation to the model's worlds. No program in sight.
No conditions.
-/
import GoSem.Claim
import GoSem.ClaimJoined
import GoSem.ClaimMapViews
import Derived.JoinedTies
import Derived.KernelRfl
import Derived.WalkKit
import Derived.Orders
import Derived.DeepKeys
import Derived.Laws.StructEq
set_option linter.unusedSectionVars false
set_option linter.unusedSimpArgs false
set_option linter.unusedVariables false
namespace Go.Eng
open Go
/-- An abstract value:what a slot or a cell holds,said of data (slices of immutable memory by their contents) and of named pieces of memory. -/
inductive HV where
 | bool (b:Bool)
 | int (k:IntKind) (n:Int)
 | str (s:List UInt8)
 | cst (v:Value)
 | imm (t:Bool) (E:List (List HV))
 | iptr (c:List HV) (k:Nat)
 | ptr (n ver i k:Nat)
 | sl (n ver i len:Nat) (cap:Option Nat)
 | isl (n ver i k len cap:Nat)
 | ref (n ver:Nat)
 | agg (c:List HV)
 | tup (c:List HV)
 | func (fn:Fn) (first cap:List HV)
 | iface (t:TypeId) (x:HV)
 | any (k:IntKind) (q r:Int)
 | anyb
 | tok (k:IntKind) (i:Nat)
 | stok (i:Nat)
 | nam (i:Nat)
 | junk
/-- Values without names of memory. -/
inductive Flat:HV→Prop where
 | bool (b:Bool):Flat (.bool b)
 | int (k:IntKind) (n:Int):Flat (.int k n)
 | str (s:List UInt8):Flat (.str s)
 | imm (t:Bool) (E:List (List HV)) (h:∀(i:Nat) (l:List HV) (k:Nat) (x:HV),E[i]? =some l→l[k]? =some x→Flat x):Flat (.imm t E)
 | agg (l:List HV) (h:∀x∈l,Flat x):Flat (.agg l)
/-- Unknown numbers and strings,by their names;what is known of them:between which numbers they lie,the names of sums,of lengths,which of two is less. -/
class zB where
 num:Nat→Int
 str:Nat→List UInt8
 lo:Nat→Int
 hi:Nat→Int
 plus:Nat→Int→Option Nat
 sum:Nat→Nat→Option Nat
 conv:Nat→IntKind→Option Nat
 slen:Nat→Option Nat
 ord:Nat→Nat→Option Ordering
 rem:Nat→Int→Option Int
 dt:Nat→Bool:=fun _=>true
 rows:Nat→List (List HV):=fun _=>[]
 rlen:Nat→Option Nat:=fun _=>none
 cat:List (List HV)→Nat→Option Nat:=fun _ _=>none
 rng:∀i,lo i≤num i∧num i≤hi i
 plus_ok:∀i b j,plus i b=some j→num j=num i+b
 sum_ok:∀i j l,sum i j=some l→num l=num i+num j
 conv_ok:∀i k j,conv i k=some j→num j=num i
 slen_ok:∀i j,slen i=some j→num j=(str i).length
 ord_ok:∀i j o,ord i j=some o→compare (num i) (num j)=o
 rem_ok:∀i b r,rem i b=some r→(num i).tmod b=r
 flat:∀i,Flat (.imm (dt i) (rows i)):=by intro i;exact .imm _ _ fun i l k x h=>by cases h
 rlen_ok:∀i j,rlen i=some j→num j=(rows i).length:=by intro i j h;cases h
 cat_ok:∀E i j,cat E i=some j→dt j=false∧rows j=E++rows i∧rows i≠[]∧(∀r∈rows i,r.length=1)∧(E++rows i).length≤17592186044416:=by intro E i j h;cases h
/-- Numbers and strings of which nothing more is told. -/
abbrev zB.of (num:Nat→Int) (str:Nat→List UInt8):zB where
 num:=num
 str:=str
 lo:=num
 hi:=num
 plus _ _:=none
 sum _ _:=none
 conv _ _:=none
 slen _:=none
 ord _ _:=none
 rem _ _:=none
 rng _:=⟨Int.le_refl _,Int.le_refl _⟩
 plus_ok _ _ _ h:=by cases h
 sum_ok _ _ _ h:=by cases h
 conv_ok _ _ _ h:=by cases h
 slen_ok _ _ h:=by cases h
 ord_ok _ _ _ h:=by cases h
 rem_ok _ _ _ h:=by cases h
variable [zB]
/-- Where a piece lies. -/
inductive WI where
 | arr (b o sz cap:Nat)
 | nil
 | root (v:Value)
 | dead
structure Pos where
 ver:Nat
 kind:WI
def qv (e e':List Pos):Prop:=∀(n:Nat) (p:Pos),e[n]? =some p→∃p':Pos,e'[n]? =some p'∧(p'=p∨p.ver<p'.ver)
theorem qv.refl (e:List Pos):qv e e:=fun _ p h=>⟨p,h,.inl rfl⟩
theorem qv.trans {a b c:List Pos} (h:qv a b) (k:qv b c):qv a c:=by
 intro n p hp
 obtain⟨p',h1,h2⟩:=h n p hp
 obtain⟨p'',h3,h4⟩:=k n p' h1
 refine⟨p'',h3,?_⟩
 rcases h2 with rfl | h2<;>rcases h4 with rfl | h4
 ·exact .inl rfl
 ·exact .inr h4
 ·exact .inr h2
 ·exact .inr (Nat.lt_trans h2 h4)
theorem qv.snoc (e:List Pos) (p:Pos):qv e (e++[p]):=fun n q h=>by
 have hn:n<e.length:=by
  rcases Nat.lt_or_ge n e.length with h' | h'
  ·exact h'
  ·simp[List.getElem?_eq_none h'] at h
 exact⟨q,by rw[List.getElem?_append_left hn];exact h,.inl rfl⟩
theorem qv.set (e:List Pos) (n:Nat) (p q:Pos) (h:e[n]? =some p) (hv:p.ver<q.ver):qv e (e.set n q):=fun m r hr=>by
 by_cases hm:n=m
 ·subst hm
  rw[h] at hr;cases hr
  have hn:n<e.length:=by
   rcases Nat.lt_or_ge n e.length with h' | h'
   ·exact h'
   ·simp[List.getElem?_eq_none h'] at h
  exact⟨q,by simp[hn],.inr hv⟩
 ·exact⟨r,by simp[hm,hr],.inl rfl⟩
/-- The slice value of a row's part. -/
def jv (p:WI) (i k len:Nat) (cp:Option Nat) (v:Value):Prop:=
 match p with
 | .arr b o sz cap=>∃a c,v=.slice a len c∧len≤c∧c≤maxLen∧(a=none→c=0)∧(0<c→a=some ⟨b,o+i*sz+k,none⟩)∧
   (match cp with | some c'=>c=c' | none=>k=0∧i+c=cap)
 | .nil=>(∃a,v=.slice a 0 0)∧len=0∧(cp=none∨cp=some 0)
 | _=>True
def kq (p:WI) (i k:Nat) (v:Value):Prop:=
 match p with
 | .arr b o sz _=>v=.pointer (some ⟨b,o+i*sz+k,none⟩)
 | _=>True
def zPY (p:WI) (v:Value):Prop:=
 match p with
 | .root u=>v=u
 | _=>True
section
variable (M:Nat→Prop) (e:List Pos) (w:World)
/-- The abstract value x describes the value v of the model. -/
inductive zH:HV→Value→Prop where
 | bool (b:Bool):zH (.bool b) (.bool b)
 | int (k:IntKind) (n:Int):zH (.int k n) (.int k n)
 | str (s:List UInt8):zH (.str s) (.string ⟨s.toArray⟩)
 | cst (v:Value):zH (.cst v) v
 | junk (v:Value):zH .junk v
 | any (k:IntKind) (q r n:Int) (h:n % q=r):zH (.any k q r) (.int k n)
 | anyb (b:Bool):zH .anyb (.bool b)
 | tok (k:IntKind) (i:Nat):zH (.tok k i) (.int k (zB.num i))
 | stok (i:Nat):zH (.stok i) (.string ⟨(zB.str i).toArray⟩)
 | nam (i:Nat) (v:Value) (h:zH (.imm (zB.dt i) (zB.rows i)) v):zH (.nam i) v
 | imm (t:Bool) (E:List (List HV)) (a:Option Addr) (c:Nat) (b o sz:Nat) (val:Nat→Nat→Value)
   (hc:E.length≤c) (hm:c≤maxLen) (ht:t=true→c=E.length) (hn:a=none→c=0)
   (ha:0<c→a=some ⟨b,o,none⟩) (hb:E≠[]→¬M b∧b<w.heap.size)
   (hsz:∀l∈E,l.length=sz) (h1c:∀i k,(val i k).oneCell'=true)
   (hcell:∀(i:Nat) (l:List HV) (k:Nat) (x:HV),E[i]? =some l→l[k]? =some x→w.cell? ⟨b,o+i*sz+k,none⟩=some (val i k))
   (zT:∀(i:Nat) (l:List HV) (k:Nat) (x:HV),E[i]? =some l→l[k]? =some x→zH x (val i k)):zH (.imm t E) (.slice a E.length c)
 | iptr (l:List HV) (k:Nat) (b o:Nat) (val:Nat→Value) (hb:¬M b∧b<w.heap.size) (h1c:∀j,(val j).oneCell'=true)
   (hcell:∀(j:Nat) (x:HV),l[j]? =some x→w.cell? ⟨b,o+j,none⟩=some (val j))
   (zT:∀(j:Nat) (x:HV),l[j]? =some x→zH x (val j)):zH (.iptr l k) (.pointer (some ⟨b,o+k,none⟩))
 | ptr (n ver i k:Nat) (v:Value) (p:Pos) (hp:e[n]? =some p) (hv:ver≤p.ver) (h:ver=p.ver→kq p.kind i k v) (h1:v.oneCell'=true):zH (.ptr n ver i k) v
 | sl (n ver i len:Nat) (cp:Option Nat) (v:Value) (p:Pos) (hp:e[n]? =some p) (hv:ver≤p.ver) (h:ver=p.ver→jv p.kind i 0 len cp v) (h1:v.oneCell'=true):zH (.sl n ver i len cp) v
 | isl (n ver i k len cp:Nat) (v:Value) (p:Pos) (hp:e[n]? =some p) (hv:ver≤p.ver) (h:ver=p.ver→jv p.kind i k len (some cp) v) (h1:v.oneCell'=true):zH (.isl n ver i k len cp) v
 | ref (n ver:Nat) (v:Value) (p:Pos) (hp:e[n]? =some p) (hv:ver≤p.ver) (h:ver=p.ver→zPY p.kind v) (h1:v.oneCell'=true):zH (.ref n ver) v
 | agg (l:List HV) (vs:Array Value) (hl:vs.size=l.length) (h:∀(i:Nat) (x:HV) (u:Value),l[i]? =some x→vs[i]? =some u→zH x u):zH (.agg l) (.agg vs)
 | tup (l:List HV) (vs:Array Value) (hl:vs.size=l.length) (h:∀(i:Nat) (x:HV) (u:Value),l[i]? =some x→vs[i]? =some u→zH x u):zH (.tup l) (.tuple vs)
 | func (fn:Fn) (f c:List HV) (fs cs:Array Value) (hf:fs.size=f.length) (hc:cs.size=c.length)
   (h:∀(i:Nat) (x:HV) (u:Value),f[i]? =some x→fs[i]? =some u→zH x u) (h':∀(i:Nat) (x:HV) (u:Value),c[i]? =some x→cs[i]? =some u→zH x u):zH (.func fn f c) (.func fn fs cs)
 | iface (t:TypeId) (x:HV) (u:Value) (h:zH x u):zH (.iface t x) (.iface t u)
end
/-- What stays:what lies below the heap's size and is not mutable is as it was;nothing that was there becomes mutable. -/
structure vo (M:Nat→Prop) (w:World) (M':Nat→Prop) (w':World):Prop where
 size:w.heap.size≤w'.heap.size
 same:∀b,b<w.heap.size→¬M b→w'.heap[b]? =w.heap[b]?
 less:∀b,b<w.heap.size→M' b→M b
theorem vo.refl (M:Nat→Prop) (w:World):vo M w M w:=⟨Nat.le_refl _,fun _ _ _=>rfl,fun _ _ h=>h⟩
theorem zH.mono {M M':Nat→Prop} {e e':List Pos} {w w':World} (hs:vo M w M' w') (he:qv e e') {x:HV} {v:Value} (h:zH M e w x v):zH M' e' w' x v:=by
 induction h with
 | bool b=>exact .bool b
 | int k n=>exact .int k n
 | str s=>exact .str s
 | cst v=>exact .cst v
 | junk v=>exact .junk v
 | any k q r n h=>exact .any k q r n h
 | anyb b=>exact .anyb b
 | tok k i=>exact .tok k i
 | stok i=>exact .stok i
 | nam i v _ ih=>exact .nam i v ih
 | imm t E a c b o sz val hc hm ht hn ha hb hsz h1c hcell _ ih=>
  refine .imm t E a c b o sz val hc hm ht hn ha ?_ hsz h1c ?_ ih
  ·intro hE
   obtain⟨h1,h2⟩:=hb hE
   exact⟨fun h'=>h1 (hs.less b h2 h'),Nat.lt_of_lt_of_le h2 hs.size⟩
  ·intro i l k x hi hk
   have hE:E≠[]:=by rintro rfl;simp at hi
   obtain⟨h1,h2⟩:=hb hE
   rw[←hcell i l k x hi hk]
   exact World.cell?_of_block (hs.same b h2 h1)
 | iptr l k b o val hb h1c hcell _ ih=>
  refine .iptr l k b o val ⟨fun h'=>hb.1 (hs.less b hb.2 h'),Nat.lt_of_lt_of_le hb.2 hs.size⟩ h1c ?_ ih
  intro j x hj
  rw[←hcell j x hj]
  exact World.cell?_of_block (hs.same b hb.2 hb.1)
 | ptr n ver i k v p hp hv h h1'=>
  obtain⟨p',h1,h2⟩:=he n p hp
  rcases h2 with rfl | h2
  ·exact .ptr n ver i k v p' h1 hv h h1'
  ·exact .ptr n ver i k v p' h1 (by omega) (fun h'=>by omega) h1'
 | sl n ver i len cp v p hp hv h h1'=>
  obtain⟨p',h1,h2⟩:=he n p hp
  rcases h2 with rfl | h2
  ·exact .sl n ver i len cp v p' h1 hv h h1'
  ·exact .sl n ver i len cp v p' h1 (by omega) (fun h'=>by omega) h1'
 | isl n ver i k len cp v p hp hv h h1'=>
  obtain⟨p',h1,h2⟩:=he n p hp
  rcases h2 with rfl | h2
  ·exact .isl n ver i k len cp v p' h1 hv h h1'
  ·exact .isl n ver i k len cp v p' h1 (by omega) (fun h'=>by omega) h1'
 | ref n ver v p hp hv h h1'=>
  obtain⟨p',h1,h2⟩:=he n p hp
  rcases h2 with rfl | h2
  ·exact .ref n ver v p' h1 hv h h1'
  ·exact .ref n ver v p' h1 (by omega) (fun h'=>by omega) h1'
 | agg l vs hl _ ih=>exact .agg l vs hl ih
 | tup l vs hl _ ih=>exact .tup l vs hl ih
 | func fn f c fs cs hf hc _ _ ih ih'=>exact .func fn f c fs cs hf hc ih ih'
 | iface t x u _ ih=>exact .iface t x u ih
inductive zC where
 | dead
 | arr (ver sz:Nat) (E:List (List HV)) (opn:Bool)
 | map (ver clock:Nat) (k:IntKind) (E:List (Nat×Int×HV))
 | mapT (ver clock:Nat) (k:IntKind) (E:List (Nat×Nat×HV))
 | iter (ver:Nat) (x:HV) (since:Nat) (seen:List Nat) (last:Nat)
 | rnd (ver:Nat) (st:LoopState) (pd:Option Code) (fr:List HV) (ps:List Tmp) (c1 c2:Code) (gl:Nat)
/-- Row of a piece:the block's cells. -/
structure uP (M:Nat→Prop) (e:List Pos) (w:World) (E:List (List HV)) (opn:Bool) (b o sz cap:Nat):Prop where
 len:E.length≤cap
 shut:opn=false→E.length=cap
 most:cap≤maxLen
 row:∃cs ty,w.heap[b]? =some (.cells cs ty (0,0))∧o+cap*sz≤cs.size∧
  (∀l∈E,l.length=sz)∧∀(i:Nat) (l:List HV) (k:Nat) (x:HV),E[i]? =some l→l[k]? =some x→∃u,cs[o+i*sz+k]? =some u∧u.oneCell'=true∧zH M e w x u
/-- A map's entries,and the count of those that were made. -/
def gY (M:Nat→Prop) (e:List Pos) (w:World) (clock:Nat) (k:IntKind) (E:List (Nat×Int×HV)) (b:Nat):Prop:=
 ∃es:Array MapEntry,w.heap[b]? =some (.map es clock)∧es.size=E.length∧
  ∀(i:Nat) (n:Nat) (x:Int) (y:HV) (u:MapEntry),E[i]? =some (n,x,y)→es[i]? =some u→u.born=n∧n<clock∧u.key=.int k x∧zH M e w y u.val
/-- The entries of a map whose keys are known by name. -/
def wo (E:List (Nat×Nat×HV)):List (Nat×Int×HV):=E.map fun x=>(x.1,zB.num x.2.1,x.2.2)
def yK (M:Nat→Prop) (e:List Pos) (w:World) (D:Nat→Prop) (q:zC) (p:Pos):Prop:=
 match q,p.kind with
 | .dead,_=>∀b,¬D b
 | .arr ver sz E opn,.arr b o sz' cap=>ver=p.ver∧sz=sz'∧(∀x,D x↔x=b)∧uP M e w E opn b o sz cap
 | .arr ver _ E opn,.nil=>ver=p.ver∧E=[]∧opn=true∧∀b,¬D b
 | .map ver clock k E,.root v=>ver=p.ver∧∃b,v=.map (some b)∧(∀x,D x↔x=b)∧gY M e w clock k E b
 | .mapT ver clock k E,.root v=>ver=p.ver∧∃b,v=.map (some b)∧(∀x,D x↔x=b)∧gY M e w clock k (wo E) b
 | .iter ver x since seen last,.root v=>ver=p.ver∧∃b,v=.pointer (some ⟨b,0,none⟩)∧(∀x,D x↔x=b)∧
   ∃m,zH M e w x (.map (some m))∧w.heap[b]? =some (.mapIter (some m) since seen.toArray last)
 | .rnd ver st pd fr ps c1 c2 gl,.root v=>ver=p.ver∧∃l,v=.func (.yield l) #[] #[]∧(∀x,D x↔x=l)∧∃r:Loop,w.heap[l]? =some (.loop r)∧r.state=st∧r.pending=pd∧
   r.params=ps.toArray∧r.assign=c1∧r.body=c2∧fr.length=r.tmps.size∧∀(i:Nat) (x:HV) (u:Value),fr[i]? =some x→r.tmps[i]? =some u→zH M e w x u
 | _,_=>False
/-- The blocks that may be written. -/
def Mut (F:Nat→Prop) (D:Nat→Nat→Prop) (b:Nat):Prop:=F b∨∃i,D i b
structure Rel (F:Nat→Prop) (e:List Pos) (D:Nat→Nat→Prop) (PS:List zC) (w:World):Prop where
 len:e.length=PS.length
 out:∀i b,D i b→i<PS.length∧b<w.heap.size∧¬F b
 fore:∀b,F b→b<w.heap.size
 apart:∀i j b,D i b→D j b→i=j
 holds:∀(i:Nat) (q:zC) (p:Pos),PS[i]? =some q→e[i]? =some p→yK (Mut F D) e w (D i) q p
end Go.Eng
namespace Go.Eng
open Go
variable [zB]
abbrev Fr:=List HV
abbrev PL:=List zC
/-- One way from a state of memory to a later one. -/
structure Tr (e:List Pos) (D:Nat→Nat→Prop) (w:World) (e':List Pos) (D':Nat→Nat→Prop) (w':World):Prop where
 os:w'.os=w.os
 tape:w'.tape=w.tape
 output:w'.output=w.output
 size:w.heap.size≤w'.heap.size
 keep:∀b,b<w.heap.size→(∀i,¬D i b)→w'.heap[b]? =w.heap[b]?
 own:∀i b,D' i b→(∃j,D j b)∨w.heap.size≤b
 env:qv e e'
theorem Tr.refl (e:List Pos) (D:Nat→Nat→Prop) (w:World):Tr e D w e D w:=
 ⟨rfl,rfl,rfl,Nat.le_refl _,fun _ _ _=>rfl,fun i _ h=>.inl ⟨i,h⟩,.refl e⟩
theorem Tr.trans {e e' e'':List Pos} {D D' D'':Nat→Nat→Prop} {w w' w'':World} (h:Tr e D w e' D' w') (k:Tr e' D' w' e'' D'' w''):Tr e D w e'' D'' w'' where
 os:=k.os.trans h.os
 tape:=k.tape.trans h.tape
 output:=k.output.trans h.output
 size:=Nat.le_trans h.size k.size
 keep:=fun b hb hn=>by
  rw[k.keep b (Nat.lt_of_lt_of_le hb h.size) ?_,h.keep b hb hn]
  intro i hi
  rcases h.own i b hi with ⟨j,hj⟩ | h'
  ·exact hn j hj
  ·omega
 own:=fun i b hi=>by
  rcases k.own i b hi with ⟨j,hj⟩ | h'
  ·exact h.own j b hj
  ·exact .inr (Nat.le_trans h.size h')
 env:=h.env.trans k.env
theorem Tr.stays {F:Nat→Prop} {e e':List Pos} {D D':Nat→Nat→Prop} {w w':World} (h:Tr e D w e' D' w'):vo (Mut F D) w (Mut F D') w':=
 ⟨h.size,fun b hb hm=>h.keep b hb (fun i hi=>hm (.inr ⟨i,hi⟩)),fun b hb hm=>by
  rcases hm with hm | ⟨i,hi⟩
  ·exact .inl hm
  ·rcases h.own i b hi with ⟨j,hj⟩ | h'
   ·exact .inr ⟨j,hj⟩
   ·omega⟩
/-- Slots and values,pairwise. -/
def zy (M:Nat→Prop) (e:List Pos) (w:World) (fr:Fr) (t:Array Value):Prop:=
 fr.length=t.size∧∀(i:Nat) (x:HV) (u:Value),fr[i]? =some x→t[i]? =some u→zH M e w x u
theorem zy.mono {M M':Nat→Prop} {e e':List Pos} {w w':World} {fr:Fr} {t:Array Value} (hs:vo M w M' w') (he:qv e e') (h:zy M e w fr t):zy M' e' w' fr t:=
 ⟨h.1,fun i x u hi hu=>(h.2 i x u hi hu).mono hs he⟩
/-- The state that is known:slots,pieces;foreign blocks F;where it began. -/
def St (ds:List Deferred) (F:Nat→Prop) (e0:List Pos) (D0:Nat→Nat→Prop) (w0:World) (fr:Fr) (PS:PL) (a:Act) (w:World):Prop:=
 a.defers=ds∧∃e D,Rel F e D PS w∧zy (Mut F D) e w fr a.tmps∧Tr e0 D0 w0 e D w
def zV (fr:Fr) (d:Option Tmp) (v:HV):Fr:=
 match d with
 | some d=>fr.set d v
 | none=>fr
def get (fr:Fr) (t:Nat):HV:=fr.getD t .junk
/-- A constant of the model's,as an abstract value. -/
def ofV:Value→HV
 | .bool b=>.bool b
 | .int k n=>.int k n
 | .string s=>.str s.data.toList
 | .slice none 0 0=>.imm true []
 | v=>.cst v
def ev (fr:Fr):Operand→HV
 | .tmp t=>get fr t
 | .const v=>ofV v
 | .func f=>.cst (.func (.func f) #[] #[])
 | .global _=>.junk
theorem xc (M:Nat→Prop) (e:List Pos) (w:World) (v:Value):zH M e w (ofV v) v:=by
 unfold ofV
 split
 ·exact .bool _
 ·exact .int _ _
 ·rename_i s;exact .str s.data.toList
 ·exact .imm true [] none 0 0 0 0 (fun _ _=>.bool true) (Nat.le_refl _) (Nat.zero_le _) (fun _=>rfl) (fun _=>rfl) (fun h=>absurd h (Nat.lt_irrefl _)) (fun h=>absurd rfl h)
   (fun _ h=>absurd h (by simp)) (fun _ _=>rfl) (fun i l k x h=>by simp at h) (fun i l k x h=>by simp at h)
 ·exact .cst _
theorem XG {M:Nat→Prop} {e:List Pos} {w:World} {fr:Fr} {t:Array Value} (h:zy M e w fr t) (i:Nat):zH M e w (get fr i) (t.getD i undef):=by
 unfold get
 by_cases hi:i<fr.length
 ·have hi':i<t.size:=h.1▸hi
  have:=h.2 i fr[i] t[i] (by simp[hi]) (by simp[hi'])
  simpa [hi,hi'] using this
 ·have:fr.getD i HV.junk=.junk:=by simp[List.getD,List.getElem?_eq_none (Nat.le_of_not_lt hi)]
  rw[this];exact .junk _
theorem zw {M:Nat→Prop} {e:List Pos} {w:World} {fr:Fr} {a:Act} (h:zy M e w fr a.tmps) (x:Operand):zH M e w (ev fr x) (a.eval x):=by
 cases x with
 | tmp t=>exact XG h t
 | const v=>exact xc M e w v
 | func f=>exact .cst _
 | global g=>exact .junk _
theorem zy.put {M:Nat→Prop} {e:List Pos} {w:World} {fr:Fr} {a:Act} (h:zy M e w fr a.tmps) (d:Option Tmp) {x:HV} {v:Value} (hv:zH M e w x v):
  zy M e w (zV fr d x) (a.put d v).tmps:=by
 cases d with
 | none=>exact h
 | some d=>
  refine⟨by simp[zV,Act.put,h.1],fun i y u hi hu=>?_⟩
  simp only[zV,Act.put] at hi hu
  rw[List.getElem?_set] at hi
  rw[Array.getElem?_setIfInBounds] at hu
  by_cases hd:d=i
  ·subst hd
   by_cases hl:d<fr.length
   ·have hl':d<a.tmps.size:=h.1▸hl
    simp[hl] at hi;simp[hl'] at hu
    subst hi;subst hu;exact hv
   ·simp[hl] at hi
  ·rw[if_neg hd] at hi hu
   exact h.2 i y u hi hu
/-- What a call of a function comes to,said of the abstract state. -/
def zI (P:Program) (f:FuncId) (args:List HV) (PS:PL) (K:HV→PL→Prop):Prop:=
 ∀F e D w (vs:Array Value),Rel F e D PS w→zy (Mut F D) e w args vs→
  Calls P f vs w fun en w'=>∃v x PS' e' D',en=.returned v∧K x PS'∧Rel F e' D' PS' w'∧Tr e D w e' D' w'∧zH (Mut F D') e' w' x v
theorem zI.mono {P:Program} {f:FuncId} {args:List HV} {PS:PL} {K K':HV→PL→Prop} (h:zI P f args PS K) (hk:∀x PS,K x PS→K' x PS):zI P f args PS K':=
 fun F e D w vs hr hf=>(h F e D w vs hr hf).mono fun _ _ ⟨v,x,PS',e',D',h1,h2,h3⟩=>⟨v,x,PS',e',D',h1,hk _ _ h2,h3⟩
/-- The abstract meaning of one operation:a parameter. -/
abbrev HOp:=Oper→Fr→PL→(HV→PL→Prop)→Prop
def qc (ops:Array Oper) (fr:Fr) (j:Nat):HV:=
 match (ops[j]?).bind (·.dst) with
 | some d=>get fr d
 | none=>.junk
def jF (want:Bool) (A B:Prop):HV→Prop
 | .bool b=>(b=want→A)∧(¬b=want→B)
 | .cst (.tuple _)=>B
 | _=>False
def zf (hop:HOp) (ops:Array Oper):List Oper→(Fr→PL→Prop)→Fr→PL→Prop
 | [],K,fr,PS=>K fr PS
 | o::os,K,fr,PS=>
  match o.guard with
  | none=>hop o fr PS fun v PS'=>zf hop ops os K (zV fr o.dst v) PS'
  | some (j,want)=>jF want (hop o fr PS fun v PS'=>zf hop ops os K (zV fr o.dst v) PS') (zf hop ops os K (zV fr o.dst (.cst undef)) PS) (qc ops fr j)
inductive HX where
 | normal
 | exit (id:Nat)
 | goto (l:Nat)
 | ret
def HX.ZO:HX→Exit
 | .normal=>.normal
 | .exit id=>.exit id
 | .goto l=>.goto l
 | .ret=>.ret
def HX.then (A:Fr→PL→Prop) (Q:HX→Fr→PL→Prop):HX→Fr→PL→Prop
 | .normal,fr,PS=>A fr PS
 | x,fr,PS=>Q x fr PS
def HX.inBlock (id:Nat) (Q:HX→Fr→PL→Prop):HX→Fr→PL→Prop
 | .exit id',fr,PS=>if id'=id then Q .normal fr PS else Q (.exit id') fr PS
 | x,fr,PS=>Q x fr PS
def HX.noGoto (Q:HX→Fr→PL→Prop):HX→Fr→PL→Prop
 | .goto _,_,_=>False
 | x,fr,PS=>Q x fr PS
def wU (A B:Prop):HV→Prop
 | .bool b=>(b=true→A)∧(b=false→B)
 | .anyb=>A∧B
 | _=>False
/-- A state says no more than another. -/
def xV (fr:Fr) (PS:PL) (fr':Fr) (PS':PL):Prop:=
 ∀F e D w (t:Array Value),Rel F e D PS w→zy (Mut F D) e w fr t→∃e' D',Rel F e' D' PS' w∧zy (Mut F D') e' w fr' t∧Tr e D w e' D' w
theorem xV.refl (fr:Fr) (PS:PL):xV fr PS fr PS:=fun _ e D w _ hr hf=>⟨e,D,hr,hf,.refl e D w⟩
theorem St.kK {ds:List Deferred} {F:Nat→Prop} {e0:List Pos} {D0:Nat→Nat→Prop} {w0:World} {fr fr':Fr} {PS PS':PL} {a:Act} {w:World} (h:St ds F e0 D0 w0 fr PS a w) (k:xV fr PS fr' PS'):St ds F e0 D0 w0 fr' PS' a w:=by
 obtain⟨hd,e,D,h1,h2,h3⟩:=h
 obtain⟨e',D',h4,h5,h6⟩:=k F e D w a.tmps h1 h2
 exact⟨hd,e',D',h4,h5,h3.trans h6⟩
/-- A drawn region:whatever the order;a parameter of the operations' file. -/
abbrev qY:=Nat→Array Oper→(Fr→PL→Prop)→Fr→PL→Prop
section
variable (hop:HOp) (hdraw:qY)
def hvc:Code→(HX→Fr→PL→Prop)→Fr→PL→Prop
 | .skip,Q,fr,PS=>Q .normal fr PS
 | .region id ops draw,Q,fr,PS=>if draw then hdraw id ops (Q .normal) fr PS else zf hop ops ops.toList (Q .normal) fr PS
 | .seq x y,Q,fr,PS=>hvc x (HX.then (fun fr PS=>hvc y Q fr PS) Q) fr PS
 | .cond c x y,Q,fr,PS=>wU (hvc x Q fr PS) (hvc y Q fr PS) (ev fr c)
 | .block id c,Q,fr,PS=>hvc c (HX.inBlock id Q) fr PS
 | .loop c,Q,fr,PS=>∃I:Nat→Fr→PL→Prop,(∃n fr' PS',xV fr PS fr' PS'∧I n fr' PS')∧
   ∀n fr PS,I n fr PS→hvc c (HX.then (fun fr1 PS1=>∃m fr2 PS2,m<n∧xV fr1 PS1 fr2 PS2∧I m fr2 PS2) Q) fr PS
 | .exit id,Q,fr,PS=>Q (.exit id) fr PS
 | .scope c,Q,fr,PS=>hvc c (HX.noGoto Q) fr PS
 | .label _,Q,fr,PS=>Q .normal fr PS
 | .goto l,Q,fr,PS=>Q (.goto l) fr PS
 | .ret,Q,fr,PS=>Q .ret fr PS
 | _,_,_,_=>False
end
/-- An operation's abstract meaning holds of the model. -/
def gM (P:Program) (hop:HOp):Prop:=
 ∀(o:Oper) (fr:Fr) (PS:PL) (K:HV→PL→Prop) ds F e0 D0 w0 (a:Act) (w:World) (Q:Exit→Act→World→Prop),hop o fr PS K→St ds F e0 D0 w0 fr PS a w→
  o.wp P a w (fun a' w'=>∃v PS',K v PS'∧St ds F e0 D0 w0 (zV fr o.dst v) PS' a' w') Q
def xb (ds:List Deferred) (F:Nat→Prop) (e0:List Pos) (D0:Nat→Nat→Prop) (w0:World) (Q:HX→Fr→PL→Prop) (x:Exit) (a:Act) (w:World):Prop:=
 ∃x' fr PS,x=x'.ZO∧Q x' fr PS∧St ds F e0 D0 w0 fr PS a w
def Ug (P:Program) (hdraw:qY):Prop:=
 ∀(id:Nat) (ops:Array Oper) (K:Fr→PL→Prop) (fr:Fr) (PS:PL) ds F e0 D0 w0 (a:Act) (w:World),hdraw id ops K fr PS→St ds F e0 D0 w0 fr PS a w→
  (Code.region id ops true).wp P (xb ds F e0 D0 w0 (HX.then K fun _ _ _=>False)) a w
/-- The same,from where a function began. -/
def XW (P:Program) (hdraw:qY) (ds:List Deferred) (F:Nat→Prop) (e0:List Pos) (D0:Nat→Nat→Prop) (w0:World):Prop:=
 ∀(id:Nat) (ops:Array Oper) (K:Fr→PL→Prop) (fr:Fr) (PS:PL) (a:Act) (w:World),hdraw id ops K fr PS→St ds F e0 D0 w0 fr PS a w→
  (Code.region id ops true).wp P (xb ds F e0 D0 w0 (HX.then K fun _ _ _=>False)) a w
theorem Ug.at {P:Program} {hdraw:qY} (h:Ug P hdraw) (ds:List Deferred) (F:Nat→Prop) (e0:List Pos) (D0:Nat→Nat→Prop) (w0:World):XW P hdraw ds F e0 D0 w0:=
 fun id ops K fr PS a w h1 h2=>h id ops K fr PS ds F e0 D0 w0 a w h1 h2
section
variable {P:Program} {hop:HOp} {hdraw:qY} {ds:List Deferred} {F:Nat→Prop} {e0:List Pos} {D0:Nat→Nat→Prop} {w0:World}
theorem Ka {ops:Array Oper} {fr:Fr} {a:Act} {w:World} {PS:PL} {j:Nat} {b:Bool} (hst:St ds F e0 D0 w0 fr PS a w) (h:qc ops fr j=.bool b):yielded ops a.tmps j=some b:=by
 obtain⟨_,e,D,_,hf,_⟩:=hst
 unfold qc at h
 unfold yielded
 cases hd:(ops[j]?).bind (·.dst) with
 | none=>rw[hd] at h;simp at h
 | some d=>
  rw[hd] at h
  have:=XG hf d
  simp only at h
  rw[h] at this
  have hd':d<a.tmps.size:=by
   rcases Nat.lt_or_ge d a.tmps.size with h' | h'
   ·exact h'
   ·have:get fr d=.junk:=by unfold get;simp[List.getD,List.getElem?_eq_none (hf.1▸h')]
    rw[this] at h;cases h
  simp only[Option.bind_some]
  have h2:a.tmps[d]? =some (a.tmps.getD d undef):=by simp[hd']
  rw[h2]
  generalize a.tmps.getD d undef=u at this
  cases this;rfl
theorem Qh {ops:Array Oper} {fr:Fr} {a:Act} {w:World} {PS:PL} {j:Nat} {u:Array Value} (hst:St ds F e0 D0 w0 fr PS a w) (h:qc ops fr j=.cst (.tuple u)):yielded ops a.tmps j=none:=by
 obtain⟨_,e,D,_,hf,_⟩:=hst
 unfold qc at h
 unfold yielded
 cases hd:(ops[j]?).bind (·.dst) with
 | none=>rfl
 | some d=>
  rw[hd] at h
  have:=XG hf d
  simp only at h
  rw[h] at this
  simp only[Option.bind_some]
  cases ht:a.tmps[d]? with
  | none=>rfl
  | some v=>
   have hv:a.tmps.getD d undef=v:=by simp[ht]
   rw[hv] at this
   cases this;rfl
theorem zM8 (hs:gM P hop) (ops:Array Oper) (K:Fr→PL→Prop) (Q:Exit→Act→World→Prop)
  (hK:∀fr PS a w,K fr PS→St ds F e0 D0 w0 fr PS a w→Q .normal a w):
  ∀(l:List Oper) (fr:Fr) (PS:PL) (a:Act) (w:World),zf hop ops l K fr PS→St ds F e0 D0 w0 fr PS a w→wpList P ops Q l a w:=by
 intro l
 induction l with
 | nil=>intro fr PS a w h hst;exact hK _ _ _ _ h hst
 | cons o os ih=>
  intro fr PS a w h hst
  have main:hop o fr PS (fun v PS'=>zf hop ops os K (zV fr o.dst v) PS')→o.wp P a w (wpList P ops Q os) Q:=fun h=>
   Oper.wp_mono (fun a w ⟨v,PS',h1,h2⟩=>ih _ _ _ _ h1 h2) (hs o fr PS _ ds F e0 D0 w0 a w Q h hst)
  simp only[zf] at h
  simp only[wpList]
  cases hg:o.guard with
  | none=>
   simp only[hg] at h
   simp only[Region.wanted,hg,if_true]
   exact .inl (main h)
  | some g=>
   obtain⟨j,want⟩:=g
   simp only[hg] at h
   cases hv:qc ops fr j with
   | bool b=>
    rw[hv] at h
    have hy:=Ka hst hv
    simp only[Region.wanted,hg,hy]
    by_cases hb:b=want
    ·subst hb
     simp only[beq_self_eq_true,if_true]
     exact .inl (main (h.1 rfl))
    ·have:(some b == some want)=false:=by simpa using hb
     rw[this]
     simp only[Bool.false_eq_true,if_false]
     refine ih _ _ _ _ (h.2 hb) ?_
     obtain⟨hd,e,D,h1,h2,h3⟩:=hst
     refine⟨?_,e,D,h1,h2.put o.dst (.cst _),h3⟩
     cases o.dst<;>exact hd
   | cst v=>
    rw[hv] at h
    cases v with
    | tuple u=>
     have hy:=Qh hst hv
     have:(none == some want)=false:=rfl
     simp only[Region.wanted,hg,hy,this,Bool.false_eq_true,if_false]
     refine ih _ _ _ _ h ?_
     obtain⟨hd,e,D,h1,h2,h3⟩:=hst
     refine⟨?_,e,D,h1,h2.put o.dst (.cst _),h3⟩
     cases o.dst<;>exact hd
    | _=>exact h.elim
   | _=>rw[hv] at h;exact h.elim
theorem Xn (p:Nat→Prop) (n:Nat) (h:p n):∃m,p m∧∀k,p k→m≤k:=by
 induction n using Nat.strongRecOn with
 | _ n ih=>
  by_cases hx:∃k,k<n∧p k
  ·obtain⟨k,hk,hp⟩:=hx;exact ih k hk hp
  ·exact⟨n,h,fun k hk=>Nat.le_of_not_lt fun hl=>hx ⟨k,hl,hk⟩⟩
theorem Yj (hs:gM P hop) (hd:XW P hdraw ds F e0 D0 w0):∀(c:Code) (Q:HX→Fr→PL→Prop) (fr:Fr) (PS:PL) (a:Act) (w:World),
  hvc hop hdraw c Q fr PS→St ds F e0 D0 w0 fr PS a w→c.wp P (xb ds F e0 D0 w0 Q) a w:=by
 intro c
 induction c with
 | skip=>intro Q fr PS a w h hst;exact wp_skip ⟨.normal,fr,PS,rfl,h,hst⟩
 | region id ops draw=>
  intro Q fr PS a w h hst
  simp only[hvc] at h
  cases draw with
  | true=>
   simp only[if_true] at h
   refine wp_mono (hd id ops _ fr PS a w h hst) ?_
   rintro x a w ⟨x',fr,PS,rfl,hq,hst⟩
   cases x' with
   | normal=>exact⟨.normal,fr,PS,rfl,hq,hst⟩
   | _=>exact hq.elim
  | false=>
   simp only[Bool.false_eq_true,if_false] at h
   exact wp_region_list (zM8 hs ops _ _ (fun fr PS a w h hst=>⟨.normal,fr,PS,rfl,h,hst⟩) _ fr PS a w h hst)
 | seq x y ihx ihy=>
  intro Q fr PS a w h hst
  refine wp_seq (wp_mono (ihx _ fr PS a w h hst) ?_)
  rintro e a w ⟨x',fr,PS,rfl,hq,hst⟩
  cases x' with
  | normal=>exact ihy _ _ _ _ _ hq hst
  | exit id=>exact⟨.exit id,fr,PS,rfl,hq,hst⟩
  | goto l=>exact⟨.goto l,fr,PS,rfl,hq,hst⟩
  | ret=>exact⟨.ret,fr,PS,rfl,hq,hst⟩
 | cond c x y ihx ihy=>
  intro Q fr PS a w h hst
  simp only[hvc] at h
  have hst':=hst
  obtain⟨_,e,D,_,hf,_⟩:=hst'
  have hv:=zw hf c
  generalize ev fr c=u at h hv
  cases u with
  | bool b=>
   generalize hu:a.eval c=v at hv
   cases hv
   refine wp_cond_split hu (fun hb=>ihx _ _ _ _ _ (h.1 hb) hst) (fun hb=>ihy _ _ _ _ _ (h.2 hb) hst)
  | anyb=>
   generalize hu:a.eval c=v at hv
   cases hv
   exact wp_cond_split hu (fun _=>ihx _ _ _ _ _ h.1 hst) (fun _=>ihy _ _ _ _ _ h.2 hst)
  | _=>exact h.elim
 | block id c ih=>
  intro Q fr PS a w h hst
  refine wp_block (wp_mono (ih _ fr PS a w h hst) ?_)
  rintro e a w ⟨x',fr,PS,rfl,hq,hst⟩
  cases x' with
  | normal=>exact⟨.normal,fr,PS,rfl,hq,hst⟩
  | exit id'=>
   simp only[HX.ZO,Exit.inBlock]
   simp only[HX.inBlock] at hq
   split
   ·rename_i hi;rw[if_pos hi] at hq;exact⟨.normal,fr,PS,rfl,hq,hst⟩
   ·rename_i hi;rw[if_neg hi] at hq;exact⟨.exit id',fr,PS,rfl,hq,hst⟩
  | goto l=>exact⟨.goto l,fr,PS,rfl,hq,hst⟩
  | ret=>exact⟨.ret,fr,PS,rfl,hq,hst⟩
 | loop c ih=>
  intro Q fr PS a w h hst
  simp only[hvc] at h
  obtain⟨I,⟨n,fr',PS',hw,hi⟩,hr⟩:=h
  classical
  let IW:Nat→Act→World→Prop:=fun m a w=>∃fr PS,I m fr PS∧St ds F e0 D0 w0 fr PS a w
  have hex:∃m,IW m a w∧∀k,IW k a w→m≤k:=Xn _ n ⟨fr',PS',hi,hst.kK hw⟩
  refine wp_loop (fun a w=>∃m,IW m a w∧∀k,IW k a w→m≤k) (fun a w=>if h:∃m,IW m a w∧∀k,IW k a w→m≤k then Classical.choose h else 0) hex ?_
  intro a w hI
  have hm:=(Classical.choose_spec hI).1
  obtain⟨fr,PS,hi,hst⟩:=hm
  refine wp_mono (ih _ fr PS a w (hr _ fr PS hi) hst) ?_
  rintro e a' w' ⟨x',fr',PS',rfl,hq,hst'⟩
  cases x' with
  | normal=>
   obtain⟨m,fr2,PS2,hlt,hw2,hi2⟩:=hq
   have hIW:IW m a' w':=⟨fr2,PS2,hi2,hst'.kK hw2⟩
   have hex':∃m,IW m a' w'∧∀k,IW k a' w'→m≤k:=Xn _ m hIW
   refine⟨hex',?_⟩
   simp only[dif_pos hex',dif_pos hI]
   exact Nat.lt_of_le_of_lt ((Classical.choose_spec hex').2 m hIW) hlt
  | exit id=>exact⟨.exit id,fr',PS',rfl,hq,hst'⟩
  | goto l=>exact⟨.goto l,fr',PS',rfl,hq,hst'⟩
  | ret=>exact⟨.ret,fr',PS',rfl,hq,hst'⟩
 | rangeFunc f ps x y _ _=>intro Q fr PS a w h hst;exact h.elim
 | exit id=>intro Q fr PS a w h hst;exact wp_exit ⟨.exit id,fr,PS,rfl,h,hst⟩
 | scope c ih=>
  intro Q fr PS a w h hst
  refine wp_scope_straight (wp_mono (ih _ fr PS a w h hst) ?_)
  rintro e a w ⟨x',fr,PS,rfl,hq,hst⟩
  cases x' with
  | normal=>exact⟨.normal,fr,PS,rfl,hq,hst⟩
  | exit id=>exact⟨.exit id,fr,PS,rfl,hq,hst⟩
  | goto l=>exact hq.elim
  | ret=>exact⟨.ret,fr,PS,rfl,hq,hst⟩
 | label l=>intro Q fr PS a w h hst;exact wp_label ⟨.normal,fr,PS,rfl,h,hst⟩
 | goto l=>intro Q fr PS a w h hst;exact wp_goto ⟨.goto l,fr,PS,rfl,h,hst⟩
 | ret=>intro Q fr PS a w h hst;exact wp_ret ⟨.ret,fr,PS,rfl,h,hst⟩
 | refuse s=>intro Q fr PS a w h hst;exact h.elim
/-- The results of a function,from its slots. -/
def uX (fr:Fr):List ResultVar→Option (List HV)
 | []=>some []
 | .tmp t::r=>(uX fr r).map (get fr t:: ·)
 | .cell _ _::_=>none
def zbc:List HV→HV
 | [x]=>x
 | l=>.tup l
end
end Go.Eng
namespace Go.Eng
open Go
variable [zB]
def Zo:TypeDesc→Bool
 | .struct _ | .array _ _=>true
 | _=>false
/-- Is a type's value an aggregate;how many cells. -/
def tsz (P:Program) (t:TypeId):Option (Bool×Nat):=
 match P.underlying t,P.info? t with
 | some d,some i=>some (Zo d,i.size)
 | _,_=>none
def yX (P:Program) (t:TypeId) (f:Nat):Option (Nat×Nat):=
 match P.underlying t with
 | some (.struct fs)=>match fs[f]? with
  | some x=>match P.info? x.type with
   | some i=>if i.size=0 then none else some (x.offset,i.size)
   | none=>none
  | none=>none
 | _=>none
/-- Of a slice's type:the element's type and cells. -/
def qO (P:Program) (t:TypeId):Option (TypeId×Nat):=
 match P.underlying t with
 | some (.slice e)=>match P.info? e with
  | some i=>some (e,i.size)
  | none=>none
 | _=>none
def wR (P:Program) (t:TypeId):Option (Nat×TypeId×Nat):=
 match P.underlying t with
 | some (.array n e)=>match P.info? e with
  | some i=>some (n,e,i.size)
  | none=>none
 | _=>none
def zA (PS:PL) (n:Nat):zC:=PS.getD n .dead
/-- The element i of a row. -/
def zd (q:zC) (ver i:Nat) (K:List HV→Prop):Prop:=
 match q with
 | .arr ver' _ E _=>ver=ver'∧∃l,E[i]? =some l∧K l
 | _=>False
def qK (PS:PL) (s:Nat) (K:List HV→Prop):HV→Prop
 | .ptr n ver i k=>zd (zA PS n) ver i fun l=>k+s≤l.length∧K ((l.drop k).take s)
 | .iptr l k=>k+s≤l.length∧K ((l.drop k).take s)
 | _=>False
def yE (K:HV→Prop):List HV→Prop
 | [x]=>K x
 | _=>False
def wB (PS:PL) (x:HV) (K:HV→Prop):Option (Bool×Nat)→Prop
 | some (true,s)=>qK PS s (fun l=>K (.agg l)) x
 | some (false,_)=>qK PS 1 (yE K) x
 | none=>False
theorem xj {PS:PL} {n:Nat} {q:zC} (h:zA PS n=q) (hq:q≠ .dead):PS[n]? =some q:=by
 unfold zA at h
 rw[List.getD_eq_getElem?_getD] at h
 cases hp:PS[n]? with
 | none=>rw[hp] at h;exact absurd h.symm hq
 | some x=>rw[hp] at h;exact congrArg some h
/-- What a live row's name means. -/
theorem Rel.row {F:Nat→Prop} {e:List Pos} {D:Nat→Nat→Prop} {PS:PL} {w:World} (h:Rel F e D PS w) {n ver sz:Nat} {E:List (List HV)} {opn:Bool}
  (hq:zA PS n=.arr ver sz E opn) (hE:opn=false∨E≠[]):∃p b o cap,e[n]? =some p∧p.ver=ver∧p.kind=.arr b o sz cap∧(∀x,D n x↔x=b)∧uP (Mut F D) e w E opn b o sz cap:=by
 have hp:=xj hq (by simp)
 have hn:n<e.length:=by
  rw[h.len]
  rcases Nat.lt_or_ge n PS.length with h' | h'
  ·exact h'
  ·simp[List.getElem?_eq_none h'] at hp
 have hpos:e[n]? =some e[n]:=by simp[hn]
 have hh:=h.holds n _ _ hp hpos
 unfold yK at hh
 cases hk:e[n].kind with
 | arr b o sz' cap=>
  simp only[hk] at hh
  obtain⟨h1,rfl,h2,h3⟩:=hh
  exact⟨e[n],b,o,cap,hpos,h1.symm,hk,h2,h3⟩
 | nil=>simp only[hk] at hh;rcases hE with hE | hE;exact absurd (hh.2.2.1.symm.trans hE) (by simp);exact absurd hh.2.1 hE
 | root v=>simp only[hk] at hh
 | dead=>simp only[hk] at hh
theorem uT (b o k:Nat):(⟨b,o,none⟩:Addr).add k=⟨b,o+k,none⟩:=by unfold Addr.add;split<;>simp_all
/-- The cells that an address names,in the model. -/
theorem zBw {F:Nat→Prop} {e:List Pos} {D:Nat→Nat→Prop} {PS:PL} {w:World} (h:Rel F e D PS w) {s:Nat} {K:List HV→Prop} {x:HV} {u:Value}
  (hx:zH (Mut F D) e w x u) (hc:qK PS s K x):
  ∃(b o:Nat) (l:List HV) (f:Nat→Value),u=.pointer (some ⟨b,o,none⟩)∧K l∧l.length=s∧(∀j,j<s→w.cell? ⟨b,o+j,none⟩=some (f j))∧∀(j:Nat) (y:HV),l[j]? =some y→zH (Mut F D) e w y (f j):=by
 cases hx with
 | ptr n ver i k u p hp hv hh h1=>
  simp only[qK] at hc
  cases hq:zA PS n with
  | arr ver' sz E opn=>
   rw[hq] at hc
   obtain⟨rfl,l,hl,hk,hK⟩:=hc
   have hE:E≠[]:=by rintro rfl;simp at hl
   obtain⟨p',b,o,cap,hp',hv',hkd,_,zd⟩:=h.row hq (.inr hE)
   rw[hp] at hp';cases hp'
   have hpt:=hh hv'.symm
   rw[hkd] at hpt
   simp only[kq] at hpt
   obtain⟨cs,ty,hheap,_,hsz,hcell⟩:=zd.row
   have hex:∀j,j<s→∃u,w.cell? ⟨b,o+i*sz+k+j,none⟩=some u∧∀y,l[k+j]? =some y→zH (Mut F D) e w y u:=by
    intro j hj
    have hkj:k+j<l.length:=by omega
    obtain⟨u,hu,_,hr⟩:=hcell i l (k+j) l[k+j] hl (by simp[hkj])
    refine⟨u,?_,?_⟩
    ·rw[cell_of_row w b _ cs ty (0,0) hheap,←hu];congr 1;omega
    ·intro y hy;simp[hkj] at hy;subst hy;exact hr
   classical
   refine⟨b,o+i*sz+k,(l.drop k).take s,fun j=>if hj:j<s then Classical.choose (hex j hj) else undef,hpt,hK,by simp;omega,?_,?_⟩
   ·intro j hj;simp only[dif_pos hj];exact(Classical.choose_spec (hex j hj)).1
   ·intro j y hy
    have hj:j<s:=by
     rcases Nat.lt_or_ge j s with h' | h'
     ·exact h'
     ·rw[List.getElem?_eq_none (by simp;omega)] at hy;cases hy
    simp only[dif_pos hj]
    rw[List.getElem?_take_of_lt hj,List.getElem?_drop] at hy
    exact(Classical.choose_spec (hex j hj)).2 y hy
  | dead=>rw[hq] at hc;exact hc.elim
  | map _ _ _ _=>rw[hq] at hc;exact hc.elim
  | mapT _ _ _ _=>rw[hq] at hc;exact hc.elim
  | iter _ _ _ _ _=>rw[hq] at hc;exact hc.elim
  | rnd _ _ _ _ _ _ _ _=>rw[hq] at hc;exact hc.elim
 | iptr l k b o val hb h1c hcell zT=>
  simp only[qK] at hc
  obtain⟨hk,hK⟩:=hc
  refine⟨b,o+k,(l.drop k).take s,fun j=>val (k+j),rfl,hK,by simp;omega,?_,?_⟩
  ·intro j hj
   have hkj:k+j<l.length:=by omega
   have:=hcell (k+j) l[k+j] (by simp[hkj])
   rw[←this];congr 2;omega
  ·intro j y hy
   have hj:j<s:=by
    rcases Nat.lt_or_ge j s with h' | h'
    ·exact h'
    ·rw[List.getElem?_eq_none (by simp;omega)] at hy;cases hy
   rw[List.getElem?_take_of_lt hj,List.getElem?_drop] at hy
   exact zT (k+j) y hy
 | _=>exact hc.elim
theorem xL {P:Program} {t:TypeId} {d:TypeDesc} (h:P.underlying t=some d) (w:World):(isAgg t).run P w=.ok (Zo d) w:=by
 unfold isAgg
 rw[Sem.run_bind,run_underlying h w]
 cases d<;>simp[Zo]
theorem qC {P:Program} {t:TypeId} {i:TypeInfo} (h:P.info? t=some i) (w:World):(sizeOf t).run P w=.ok i.size w:=by
 simp[sizeOf,typeInfo,h]
theorem zEK {P:Program} {F:Nat→Prop} {e:List Pos} {D:Nat→Nat→Prop} {PS:PL} {w:World} (h:Rel F e D PS w) {t:TypeId} {K:HV→Prop} {x:HV} {u:Value}
  (hx:zH (Mut F D) e w x u) (hc:wB PS x K (tsz P t)):∃y v,(Instr.loadAt t u).run P w=.ok v w∧zH (Mut F D) e w y v∧K y:=by
 unfold tsz at hc
 cases hu:P.underlying t with
 | none=>simp[hu,wB] at hc
 | some d=>
  cases hi:P.info? t with
  | none=>simp[hu,hi,wB] at hc
  | some i=>
   simp only[hu,hi] at hc
   cases hd:Zo d with
   | true=>
    rw[hd] at hc
    obtain⟨b,o,l,f,rfl,hK,hl,hcell,zT⟩:=zBw (s:=i.size) (K:=fun l=>K (.agg l)) h hx hc
    refine⟨.agg l,.agg (List.map f (List.range i.size)).toArray,?_,?_,hK⟩
    ·have hrun:=run_loadCells (P:=P) (w:=w) ⟨b,o,none⟩ i.size f (fun j hj=>by rw[uT];exact hcell j hj)
     simp only[Instr.loadAt,Instr.sureAddr,loadVar,Sem.run_bind,Sem.run_pure,Result.andThen_ok,xL hu,hd,if_true,qC hi,hrun]
    ·refine .agg l _ (by simp[hl]) fun j y v hy hv=>?_
     have hj:j<i.size:=by
      rcases Nat.lt_or_ge j i.size with h' | h'
      ·exact h'
      ·rw[List.getElem?_eq_none (by omega)] at hy;cases hy
     simp[hj] at hv
     subst hv
     exact zT j y hy
   | false=>
    rw[hd] at hc
    obtain⟨b,o,l,f,rfl,hK,hl,hcell,zT⟩:=zBw (s:=1) (K:=yE K) h hx hc
    match l,hl with
    | [y],_=>
     refine⟨y,f 0,?_,zT 0 y rfl,hK⟩
     have hc0:=hcell 0 (by omega)
     simp only[Nat.add_zero] at hc0
     simp only[Instr.loadAt,Instr.sureAddr,loadVar,Sem.run_bind,Sem.run_pure,Result.andThen_ok,xL hu,hd,Bool.false_eq_true,if_false,load,Sem.run,hc0]
end Go.Eng
namespace Go.Eng
open Go
variable [zB]
abbrev Cells:=List (Nat×Nat)
def Kc (f:TypeId→Option Cells):List Field→Option Cells
 | []=>some []
 | fd::fs=>if fd.name= "_" then none else
  match f fd.type,Kc f fs with
  | some l,some m=>some (l.map (fun p=>(fd.offset+p.1,p.2))++m)
  | _,_=>none
def VV (sz:Nat) (l:Cells):List Nat→Cells
 | []=>[]
 | i::is=>l.map (fun p=>(i*sz+p.1,p.2))++VV sz l is
def WG (P:Program) (t:TypeId) (l:Cells):Option Cells:=if l.all (fun p=>decide (p.1<P.cellsOf t))&&(P.info? t).isSome then some l else none
/-- The plain cells of a type:place,and kind (0 bool,1 integer,2 string). -/
def eqK (P:Program):Nat→TypeId→Option Cells
 | 0,_=>none
 | m+1,t=>
  match P.underlying t with
  | some .bool=>some [(0,0)]
  | some (.int _)=>some [(0,1)]
  | some .string=>some [(0,2)]
  | some (.struct fs)=>if P.stoodInHeld t then none else (Kc (eqK P m) fs.toList).bind (WG P t)
  | some (.array n e)=>((eqK P m e).map fun l=>VV (P.cellsOf e) l (List.range n)).bind (WG P t)
  | _=>none
def Fits:Nat→Value→Value→Prop
 | 0,.bool _,.bool _=>True
 | 1,.int k _,.int k' _=>k=k'
 | 2,.string _,.string _=>True
 | _,_,_=>False
def veq:Value→Value→Bool
 | .bool a,.bool b=>a == b
 | .int _ a,.int _ b=>a == b
 | .string a,.string b=>a.toList == b.toList
 | _,_=>false
def vAt (xs:Array Value) (i:Nat):Value:=xs.getD i undef
def XN (off:Nat) (ps:Cells) (xs ys:Array Value):Prop:=∀p∈ps,off+p.1<xs.size∧off+p.1<ys.size∧Fits p.2 (vAt xs (off+p.1)) (vAt ys (off+p.1))
def wM (off:Nat) (ps:Cells) (xs ys:Array Value):Bool:=ps.all fun p=>veq (vAt xs (off+p.1)) (vAt ys (off+p.1))
section
variable {P:Program}
def zEi (P:Program) (m:Nat):Prop:=∀(c:Nat) (t:TypeId) (ps:Cells) (w:World) (xs ys:Array Value),eqK P m t=some ps→(match P.underlying t with | some (.struct _) | some (.array _ _)=>True | _=>False)→
 XN 0 ps xs ys→(Op.equalIn (c+m) t (.agg xs) (.agg ys)).run P w=.ok (wM 0 ps xs ys) w
theorem QB {t:TypeId} {l ps:Cells} (h:WG P t l=some ps):l=ps∧(∀p∈ps,p.1<P.cellsOf t)∧∃i,P.info? t=some i:=by
 unfold WG at h
 split at h
 ·rename_i hh
  cases h
  simp only[Bool.and_eq_true,List.all_eq_true,decide_eq_true_eq] at hh
  exact⟨rfl,hh.1,Option.isSome_iff_exists.1 hh.2⟩
 ·cases h
/-- A part:the same,at a place. -/
theorem zBs {m:Nat} (hm:zEi P m) {c:Nat} {t:TypeId} {ps:Cells} {w:World} {xs ys:Array Value} {off:Nat} (h:eqK P m t=some ps) (hf:XN off ps xs ys):
  ∃a b,(part t xs off).run P w=.ok a w∧(part t ys off).run P w=.ok b w∧(Op.equalIn (c+m) t a b).run P w=.ok (wM off ps xs ys) w:=by
 cases m with
 | zero=>cases h
 | succ m=>
  have plain:∀(d:TypeDesc) (k:Nat),P.underlying t=some d→Zo d=false→ps=[(0,k)]→
    (∀a b,Fits k a b→(Op.equalIn (c+(m+1)) t a b).run P w=.ok (veq a b) w)→
    ∃a b,(part t xs off).run P w=.ok a w∧(part t ys off).run P w=.ok b w∧(Op.equalIn (c+(m+1)) t a b).run P w=.ok (wM off ps xs ys) w:=by
   intro d k hd ha hp he
   subst hp
   obtain⟨h1,h2,h3⟩:=hf (0,k) (by simp)
   simp only[Nat.add_zero] at h1 h2 h3
   refine⟨vAt xs off,vAt ys off,?_,?_,?_⟩
   ·simp[part,xL hd,ha,vAt,h1]
   ·simp[part,xL hd,ha,vAt,h2]
   ·rw[he _ _ h3];simp[wM]
  have agg:∀(d:TypeDesc),P.underlying t=some d→Zo d=true→(match P.underlying t with | some (.struct _) | some (.array _ _)=>True | _=>False)→(∃i,P.info? t=some i)→(∀p∈ps,p.1<P.cellsOf t)→
    ∃a b,(part t xs off).run P w=.ok a w∧(part t ys off).run P w=.ok b w∧(Op.equalIn (c+(m+1)) t a b).run P w=.ok (wM off ps xs ys) w:=by
   intro d hd ha hw ⟨i,hi⟩ hlt
   have hsz:P.cellsOf t=i.size:=by simp[Program.cellsOf,hi]
   have hat:∀(zs:Array Value) (p:Nat×Nat),p∈ps→off+p.1<zs.size→p.1<(zs.extract off (off+i.size)).size∧vAt (zs.extract off (off+i.size)) (0+p.1)=vAt zs (off+p.1):=by
    intro zs p hp hz
    have:=hlt p hp
    refine⟨by simp;omega,?_⟩
    simp only[vAt,Array.getD_eq_getD_getElem?,Nat.zero_add]
    rw[Array.getElem?_extract]
    rw[if_pos (by omega)]
   refine⟨.agg (xs.extract off (off+i.size)),.agg (ys.extract off (off+i.size)),?_,?_,?_⟩
   ·simp[part,xL hd,ha,qC hi]
   ·simp[part,xL hd,ha,qC hi]
   ·rw[hm c t ps w _ _ h hw (fun p hp=>?_)]
    ·congr 1
     unfold wM
     rw[Bool.eq_iff_iff,List.all_eq_true,List.all_eq_true]
     have e:∀p∈ps,veq (vAt (xs.extract off (off+i.size)) (0+p.1)) (vAt (ys.extract off (off+i.size)) (0+p.1))=veq (vAt xs (off+p.1)) (vAt ys (off+p.1)):=fun p hp=>by
      obtain⟨h1,h2,_⟩:=hf p hp
      rw[(hat xs p hp h1).2,(hat ys p hp h2).2]
     exact⟨fun H p hp=>(e p hp)▸H p hp,fun H p hp=>(e p hp).symm▸H p hp⟩
    ·obtain⟨h1,h2,h3⟩:=hf p hp
     refine⟨by simpa using (hat xs p hp h1).1,by simpa using (hat ys p hp h2).1,?_⟩
     rw[(hat xs p hp h1).2,(hat ys p hp h2).2];exact h3
  have h0:=h
  unfold eqK at h
  split at h
  ·rename_i hu
   refine plain _ 0 hu rfl (by cases h;rfl) fun a b hab=>?_
   cases a<;>cases b<;>first | exact hab.elim | exact run_equalIn_bool' w (c+m) t _ _ hu
  ·rename_i k hu
   refine plain _ 1 hu rfl (by cases h;rfl) fun a b hab=>?_
   cases a<;>cases b<;>first | exact hab.elim | skip
   obtain rfl:=hab
   exact run_equalIn_int w (c+m) t _ k _ _ hu
  ·rename_i hu
   refine plain _ 2 hu rfl (by cases h;rfl) fun a b hab=>?_
   cases a<;>cases b<;>first | exact hab.elim | exact run_equalIn_string w (c+m) t _ _ hu
  ·rename_i fs hu
   split at h
   ·cases h
   ·simp only[Option.bind_eq_some_iff] at h
    obtain⟨l,_,h2⟩:=h
    obtain⟨rfl,h3,h4⟩:=QB h2
    exact agg _ hu rfl (by rw[hu];trivial) h4 h3
  ·rename_i n e hu
   simp only[Option.bind_eq_some_iff] at h
   obtain⟨l,_,h2⟩:=h
   obtain⟨rfl,h3,h4⟩:=QB h2
   exact agg _ hu rfl (by rw[hu];trivial) h4 h3
  ·cases h
theorem zCZ (off:Nat) (l m:Cells) (xs ys:Array Value):wM off (l++m) xs ys=(wM off l xs ys&&wM off m xs ys):=by simp[wM]
theorem zCa (k:Nat) (l:Cells) (xs ys:Array Value):wM 0 (l.map fun p=>(k+p.1,p.2)) xs ys=wM k l xs ys:=by
 simp only[wM,List.all_map,Function.comp_def,Nat.zero_add]
theorem zEk (P:Program):∀m,zEi P m
 | 0=>fun c t ps w xs ys h=>by cases h
 | m+1=>by
  intro c t ps w xs ys h hw hf
  have ih:=zEk P m
  unfold eqK at h
  split at h
  ·rename_i hu;rw[hu] at hw;exact hw.elim
  ·rename_i k hu;rw[hu] at hw;exact hw.elim
  ·rename_i hu;rw[hu] at hw;exact hw.elim
  ·rename_i fs hu
   split at h
   ·cases h
   rename_i hst
   simp only[Option.bind_eq_some_iff] at h
   obtain⟨l,h1,h2⟩:=h
   obtain⟨rfl,h3,h4⟩:=QB h2
   have hfs:P.fieldsOf t=fs:=by simp[Program.fieldsOf,hu]
   rw[show c+(m+1)=(c+m)+1 from rfl,run_equalIn_struct w (c+m) t xs ys (by rw[hfs];exact hu) (by simpa using hst),hfs]
   clear h2 h3 h4 hfs hu
   generalize fs.toList=fl at h1
   induction fl generalizing l with
   | nil=>cases h1;simp[Op.eqFields,wM]
   | cons f fl ihf=>
    simp only[Kc] at h1
    split at h1
    ·cases h1
    rename_i hn
    split at h1
    ·rename_i a b ha hb
     cases h1
     have hfa:XN f.offset a xs ys:=fun p hp=>by
      have:=hf (f.offset+p.1,p.2) (by simp;exact .inl hp)
      simpa using this
     obtain⟨u,v,p1,p2,p3⟩:=zBs ih (c:=c) (w:=w) ha hfa
     have:=ihf b (fun p hp=>hf p (by simp[hp])) hb
     rw[zCZ,zCa]
     simp only[Op.eqFields,hn,ne_eq,not_false_eq_true,if_true,Sem.run_bind,p1,p2,p3,Result.andThen_ok]
     cases wM f.offset a xs ys
     ·simp
     ·simpa using this
    ·cases h1
  ·rename_i n e hu
   simp only[Option.bind_eq_some_iff,Option.map_eq_some_iff] at h
   obtain⟨l,⟨a,ha,rfl⟩,h2⟩:=h
   obtain⟨rfl,h3,h4⟩:=QB h2
   have hinfo:∃i,P.info? e=some i:=by
    cases hi:P.info? e with
    | some i=>exact⟨i,rfl⟩
    | none=>
     have:P.underlying e=none:=by simp[Program.underlying,hi]
     cases m with
     | zero=>cases ha
     | succ m=>unfold eqK at ha;rw[this] at ha;cases ha
   obtain⟨i,hi⟩:=hinfo
   have hsz:P.cellsOf e=i.size:=by simp[Program.cellsOf,hi]
   rw[show c+(m+1)=(c+m)+1 from rfl,run_equalIn_array w (c+m) xs ys hu hi]
   clear h2 h3 h4
   rw[hsz] at hf ⊢
   generalize List.range n=is at hf
   induction is with
   | nil=>simp[Op.eqItems,VV,wM]
   | cons j is ihi=>
    simp only[VV] at hf ⊢
    have hfa:XN (j*i.size) a xs ys:=fun p hp=>by
     have:=hf (j*i.size+p.1,p.2) (by simp;exact .inl hp)
     simpa using this
    obtain⟨u,v,p1,p2,p3⟩:=zBs ih (c:=c) (w:=w) ha hfa
    have:=ihi (fun p hp=>hf p (by simp[hp]))
    rw[zCZ,zCa]
    simp only[Op.eqItems,Sem.run_bind,p1,p2,p3,Result.andThen_ok]
    cases wM (j*i.size) a xs ys
    ·simp
    ·simpa using this
  ·cases h
end
end Go.Eng
