/-
Garbage: pieces that a call made and that nobody names are dropped; rows that nobody writes any more are frozen.
No conditions.
-/
import Derived.Test.YtbmibhjjogobhaaGreatQEngX
import Derived.ProofKit
import Derived.OpenShut
import Derived.Below
import Derived.ChangeSame
import Derived.Deep.Slices
import Derived.Carry
set_option linter.unusedSectionVars false
set_option linter.unusedSimpArgs false
set_option linter.unusedVariables false
namespace Go.Eng
open Go
variable [zB]
/-- Only the first k pieces are named. -/
inductive zc (k:Nat):HV→Prop where
 | bool (b:Bool):zc k (.bool b)
 | int (j:IntKind) (n:Int):zc k (.int j n)
 | str (s:List UInt8):zc k (.str s)
 | cst (v:Value):zc k (.cst v)
 | junk:zc k .junk
 | any (j:IntKind) (q r:Int):zc k (.any j q r)
 | anyb:zc k .anyb
 | tok (j:IntKind) (i:Nat):zc k (.tok j i)
 | stok (i:Nat):zc k (.stok i)
 | nam (i:Nat):zc k (.nam i)
 | imm (t:Bool) (E:List (List HV)) (h:∀(i:Nat) (l:List HV) (j:Nat) (x:HV),E[i]? =some l→l[j]? =some x→zc k x):zc k (.imm t E)
 | iptr (l:List HV) (j:Nat) (h:∀(i:Nat) (x:HV),l[i]? =some x→zc k x):zc k (.iptr l j)
 | ptr (n ver i j:Nat) (h:n<k):zc k (.ptr n ver i j)
 | sl (n ver i len:Nat) (c:Option Nat) (h:n<k):zc k (.sl n ver i len c)
 | isl (n ver i j len c:Nat) (h:n<k):zc k (.isl n ver i j len c)
 | ref (n ver:Nat) (h:n<k):zc k (.ref n ver)
 | agg (l:List HV) (h:∀(i:Nat) (x:HV),l[i]? =some x→zc k x):zc k (.agg l)
 | tup (l:List HV) (h:∀(i:Nat) (x:HV),l[i]? =some x→zc k x):zc k (.tup l)
 | func (fn:Fn) (f c:List HV) (h:∀(i:Nat) (x:HV),f[i]? =some x→zc k x) (h':∀(i:Nat) (x:HV),c[i]? =some x→zc k x):zc k (.func fn f c)
 | iface (t:TypeId) (x:HV) (h:zc k x):zc k (.iface t x)
theorem Flat.scoped {k:Nat} {x:HV} (h:Flat x):zc k x:=by
 induction h with
 | bool b=>exact .bool b
 | int j n=>exact .int j n
 | str s=>exact .str s
 | imm t E _ ih=>exact .imm t E ih
 | agg l _ ih=>exact .agg l fun i x hi=>ih x (List.mem_of_getElem? hi)
theorem yx {α:Type} {l:List α} {n:Nat} {x:α} (h:l[n]? =some x):n<l.length:=(List.getElem?_eq_some_iff.1 h).1
theorem vZ {α:Type} {l:List α} {n:Nat} (h:n<l.length):∃x,l[n]? =some x:=⟨l[n],by simp[h]⟩
section
variable {M:Nat→Prop} {e e':List Pos} {w:World}
theorem zH.scoped {x:HV} {v:Value} (h:zH M e w x v):zc e.length x:=by
 induction h with
 | bool b=>exact .bool b
 | int k n=>exact .int k n
 | str s=>exact .str s
 | cst v=>exact .cst v
 | junk v=>exact .junk
 | any k q r n h=>exact .any k q r
 | anyb b=>exact .anyb
 | tok k i=>exact .tok k i
 | stok i=>exact .stok i
 | nam i v _ _=>exact .nam i
 | imm t E a c b o sz val hc hm ht hn ha hb hsz h1c hcell _ ih=>exact .imm t E ih
 | iptr l k b o val hb h1c hcell _ ih=>exact .iptr l k ih
 | ptr n ver i k v p hp hv h h1'=>exact .ptr n ver i k (yx hp)
 | sl n ver i len cp v p hp hv h h1'=>exact .sl n ver i len cp (yx hp)
 | isl n ver i k len cp v p hp hv h h1'=>exact .isl n ver i k len cp (yx hp)
 | ref n ver v p hp hv h h1'=>exact .ref n ver (yx hp)
 | agg l vs hl _ ih=>
  refine .agg l fun i x hx=>?_
  have:i<vs.size:=hl▸yx hx
  exact ih i x vs[i] hx (by simp[this])
 | tup l vs hl _ ih=>
  refine .tup l fun i x hx=>?_
  have:i<vs.size:=hl▸yx hx
  exact ih i x vs[i] hx (by simp[this])
 | func fn f c fs cs hf hc _ _ ih ih'=>
  refine .func fn f c (fun i x hx=>?_) (fun i x hx=>?_)
  ·have:i<fs.size:=hf▸yx hx
   exact ih i x fs[i] hx (by simp[this])
  ·have:i<cs.size:=hc▸yx hx
   exact ih' i x cs[i] hx (by simp[this])
 | iface t x u _ ih=>exact .iface t x ih
/-- Positions that agree on the first k. -/
theorem zH.uv {M':Nat→Prop} {k:Nat} (he:∀n,n<k→e'[n]? =e[n]?) (hm:∀b,M' b→M b) {x:HV} {v:Value} (h:zH M e w x v) (hs:zc k x):zH M' e' w x v:=by
 induction h with
 | bool b=>exact .bool b
 | int k n=>exact .int k n
 | str s=>exact .str s
 | cst v=>exact .cst v
 | junk v=>exact .junk v
 | any k q r n h=>exact .any k q r n h
 | anyb b=>exact .anyb b
 | tok k i=>exact .tok k i
 | stok i=>exact .stok i
 | nam i v _ ih=>exact .nam i v (ih (Flat.scoped (zB.flat i)))
 | imm t E a c b o sz val hc hm' ht hn ha hb hsz h1c hcell _ ih=>
  cases hs with
  | imm _ _ hh=>exact .imm t E a c b o sz val hc hm' ht hn ha (fun hE=>⟨fun h'=>(hb hE).1 (hm _ h'),(hb hE).2⟩) hsz h1c hcell (fun i l k x hi hk=>ih i l k x hi hk (hh i l k x hi hk))
 | iptr l k b o val hb h1c hcell _ ih=>
  cases hs with
  | iptr _ _ hh=>exact .iptr l k b o val ⟨fun h'=>hb.1 (hm _ h'),hb.2⟩ h1c hcell (fun j x hj=>ih j x hj (hh j x hj))
 | ptr n ver i k v p hp hv h h1'=>cases hs with | ptr _ _ _ _ hh=>exact .ptr n ver i k v p ((he n hh).trans hp) hv h h1'
 | sl n ver i len cp v p hp hv h h1'=>cases hs with | sl _ _ _ _ _ hh=>exact .sl n ver i len cp v p ((he n hh).trans hp) hv h h1'
 | isl n ver i k len cp v p hp hv h h1'=>cases hs with | isl _ _ _ _ _ _ hh=>exact .isl n ver i k len cp v p ((he n hh).trans hp) hv h h1'
 | ref n ver v p hp hv h h1'=>cases hs with | ref _ _ hh=>exact .ref n ver v p ((he n hh).trans hp) hv h h1'
 | agg l vs hl _ ih=>cases hs with | agg _ hh=>exact .agg l vs hl (fun i x u hi hu=>ih i x u hi hu (hh i x hi))
 | tup l vs hl _ ih=>cases hs with | tup _ hh=>exact .tup l vs hl (fun i x u hi hu=>ih i x u hi hu (hh i x hi))
 | func fn f c fs cs hf hc _ _ ih ih'=>cases hs with | func _ _ _ hh hh'=>exact .func fn f c fs cs hf hc (fun i x u hi hu=>ih i x u hi hu (hh i x hi)) (fun i x u hi hu=>ih' i x u hi hu (hh' i x hi))
 | iface t x u _ ih=>cases hs with | iface _ _ hh=>exact .iface t x u (ih hh)
end
/-- A piece's values name the first k pieces alone. -/
def kf (k:Nat):zC→Prop
 | .arr _ _ E _=>∀(i:Nat) (l:List HV) (j:Nat) (x:HV),E[i]? =some l→l[j]? =some x→zc k x
 | .map _ _ _ E=>∀(i n:Nat) (x:Int) (y:HV),E[i]? =some (n,x,y)→zc k y
 | .mapT _ _ _ E=>∀(i n:Nat) (x:Int) (y:HV),(wo E)[i]? =some (n,x,y)→zc k y
 | .iter _ x _ _ _=>zc k x
 | .rnd _ _ _ fr _ _ _ _=>∀(i:Nat) (x:HV),fr[i]? =some x→zc k x
 | .dead=>True
section
variable {F:Nat→Prop} {e e':List Pos} {D D':Nat→Nat→Prop} {PS PS' PS2:PL} {w w':World}
theorem Rel.zO5 (h:Rel F e D PS w) {n:Nat} {q:zC} (hq:PS[n]? =some q):kf PS.length q:=by
 cases q with
 | dead=>trivial
 | map ver clock kk E=>
  intro i m x y hi
  obtain⟨p,hp⟩:=vZ (h.len▸yx hq)
  have:=h.holds n _ p hq hp
  unfold yK at this
  cases hk:p.kind with
  | root v=>
   simp only[hk] at this
   obtain⟨_,b,_,_,es,_,hs,hv⟩:=this
   have hlt:i<es.size:=hs▸yx hi
   obtain⟨_,_,_,h2⟩:=hv i m x y es[i] hi (by simp[hlt])
   exact h.len▸h2.scoped
  | arr b o sz' cap=>simp only[hk] at this
  | nil=>simp only[hk] at this
  | dead=>simp only[hk] at this
 | mapT ver clock kk E=>
  intro i m x y hi
  obtain⟨p,hp⟩:=vZ (h.len▸yx hq)
  have:=h.holds n _ p hq hp
  unfold yK at this
  cases hk:p.kind with
  | root v=>
   simp only[hk] at this
   obtain⟨_,b,_,_,es,_,hs,hv⟩:=this
   have hlt:i<es.size:=hs▸yx hi
   obtain⟨_,_,_,h2⟩:=hv i m x y es[i] hi (by simp[hlt])
   exact h.len▸h2.scoped
  | arr b o sz' cap=>simp only[hk] at this
  | nil=>simp only[hk] at this
  | dead=>simp only[hk] at this
 | iter ver x since seen last=>
  obtain⟨p,hp⟩:=vZ (h.len▸yx hq)
  have:=h.holds n _ p hq hp
  unfold yK at this
  cases hk:p.kind with
  | root v=>
   simp only[hk] at this
   obtain⟨_,b,_,_,m,hv,_⟩:=this
   exact h.len▸hv.scoped
  | arr b o sz' cap=>simp only[hk] at this
  | nil=>simp only[hk] at this
  | dead=>simp only[hk] at this
 | rnd ver st pd fr ps c1 c2 gl=>
  intro i x hi
  obtain⟨p,hp⟩:=vZ (h.len▸yx hq)
  have:=h.holds n _ p hq hp
  unfold yK at this
  cases hk:p.kind with
  | root v=>
   simp only[hk] at this
   obtain⟨_,l,_,_,r,_,_,_,_,_,_,hl,hv⟩:=this
   have hlt:i<r.tmps.size:=hl▸yx hi
   exact h.len▸zH.scoped (hv i x r.tmps[i] hi (by simp[hlt]))
  | arr b o sz' cap=>simp only[hk] at this
  | nil=>simp only[hk] at this
  | dead=>simp only[hk] at this
 | arr ver sz E opn=>
  intro i l j x hi hj
  obtain⟨p,hp⟩:=vZ (h.len▸yx hq)
  have:=h.holds n _ p hq hp
  unfold yK at this
  cases hk:p.kind with
  | arr b o sz' cap=>
   simp only[hk] at this
   obtain⟨_,_,_,hr⟩:=this
   obtain⟨cs,ty,_,_,_,hv⟩:=hr.row
   obtain⟨u,_,_,hu⟩:=hv i l j x hi hj
   exact h.len▸hu.scoped
  | nil=>
   simp only[hk] at this
   obtain⟨_,rfl,_⟩:=this
   simp at hi
  | root v=>simp only[hk] at this
  | dead=>simp only[hk] at this
/-- What is kept of the pieces:the first of them,some dropped. -/
structure Cut (PS PS' PS2:PL):Prop where
 len:PS2.length≤PS'.length
 less:PS.length≤PS2.length
 is:∀n,n<PS2.length→PS2[n]? =some .dead∨(PS2[n]? =PS'[n]? ∧(PS[n]? =PS'[n]? ∨∀q,PS'[n]? =some q→kf PS2.length q))
theorem uP.uv {M M':Nat→Prop} {k:Nat} {E:List (List HV)} {opn:Bool} {b o sz cap:Nat} (he:∀n,n<k→e'[n]? =e[n]?) (hm:∀b,M' b→M b) (h:uP M e w E opn b o sz cap)
  (hs:∀(i:Nat) (l:List HV) (j:Nat) (x:HV),E[i]? =some l→l[j]? =some x→zc k x):uP M' e' w E opn b o sz cap:=by
 obtain⟨h1,h2,h3,cs,ty,h4,h5,h6,h7⟩:=h
 refine⟨h1,h2,h3,cs,ty,h4,h5,h6,fun i l j x hi hj=>?_⟩
 obtain⟨u,a1,a2,a3⟩:=h7 i l j x hi hj
 exact⟨u,a1,a2,a3.uv he hm (hs i l j x hi hj)⟩
theorem zc.le {k k':Nat} (hk:k≤k') {x:HV} (h:zc k x):zc k' x:=by
 induction h with
 | bool b=>exact .bool b
 | int k n=>exact .int k n
 | str s=>exact .str s
 | cst v=>exact .cst v
 | junk=>exact .junk
 | any k q r=>exact .any k q r
 | anyb=>exact .anyb
 | tok k i=>exact .tok k i
 | stok i=>exact .stok i
 | nam i=>exact .nam i
 | imm t E _ ih=>exact .imm t E ih
 | iptr l j _ ih=>exact .iptr l j ih
 | ptr n ver i j h=>exact .ptr n ver i j (Nat.lt_of_lt_of_le h hk)
 | sl n ver i len c h=>exact .sl n ver i len c (Nat.lt_of_lt_of_le h hk)
 | isl n ver i j len c h=>exact .isl n ver i j len c (Nat.lt_of_lt_of_le h hk)
 | ref n ver h=>exact .ref n ver (Nat.lt_of_lt_of_le h hk)
 | agg l _ ih=>exact .agg l ih
 | tup l _ ih=>exact .tup l ih
 | func fn f c _ _ ih ih'=>exact .func fn f c ih ih'
 | iface t x _ ih=>exact .iface t x ih
theorem kf.le {k k':Nat} (hk:k≤k') {q:zC} (h:kf k q):kf k' q:=by
 cases q with
 | dead=>trivial
 | arr ver sz E opn=>exact fun i l j x hi hj=>(h i l j x hi hj).le hk
 | map ver clock kk E=>exact fun i n x y hi=>(h i n x y hi).le hk
 | mapT ver clock kk E=>exact fun i n x y hi=>(h i n x y hi).le hk
 | iter ver x since seen last=>exact zc.le hk h
 | rnd ver st pd fr ps c1 c2 gl=>exact fun i x hi=>(h i x hi).le hk
theorem yK.uv {M M':Nat→Prop} {k:Nat} {Dn:Nat→Prop} {q:zC} {p:Pos} (he:∀n,n<k→e'[n]? =e[n]?) (hm:∀b,M' b→M b) (h:yK M e w Dn q p) (hs:kf k q):yK M' e' w Dn q p:=by
 unfold yK at h ⊢
 cases q with
 | dead=>exact h
 | arr ver sz E opn=>
  cases hk:p.kind with
  | arr b o sz' cap=>simp only[hk] at h ⊢;exact⟨h.1,h.2.1,h.2.2.1,h.2.2.2.uv he hm hs⟩
  | nil=>simp only[hk] at h ⊢;exact h
  | root v=>simp only[hk] at h
  | dead=>simp only[hk] at h
 | map ver clock kk E=>
  cases hk:p.kind with
  | root v=>
   simp only[hk] at h ⊢
   obtain⟨h1,b,h2,h3,es,h4,h5,h6⟩:=h
   exact⟨h1,b,h2,h3,es,h4,h5,fun i n x y u hi hu=>by
    obtain⟨a1,a2,a3,a4⟩:=h6 i n x y u hi hu
    exact⟨a1,a2,a3,a4.uv he hm (hs i n x y hi)⟩⟩
  | arr b o sz' cap=>simp only[hk] at h
  | nil=>simp only[hk] at h
  | dead=>simp only[hk] at h
 | mapT ver clock kk E=>
  cases hk:p.kind with
  | root v=>
   simp only[hk] at h ⊢
   obtain⟨h1,b,h2,h3,es,h4,h5,h6⟩:=h
   exact⟨h1,b,h2,h3,es,h4,h5,fun i n x y u hi hu=>by
    obtain⟨a1,a2,a3,a4⟩:=h6 i n x y u hi hu
    exact⟨a1,a2,a3,a4.uv he hm (hs i n x y hi)⟩⟩
  | arr b o sz' cap=>simp only[hk] at h
  | nil=>simp only[hk] at h
  | dead=>simp only[hk] at h
 | iter ver x since seen last=>
  cases hk:p.kind with
  | root v=>
   simp only[hk] at h ⊢
   obtain⟨h1,b,h2,h3,m,h4,h5⟩:=h
   exact⟨h1,b,h2,h3,m,h4.uv he hm hs,h5⟩
  | arr b o sz' cap=>simp only[hk] at h
  | nil=>simp only[hk] at h
  | dead=>simp only[hk] at h
 | rnd ver st pd fr ps c1 c2 gl=>
  cases hk:p.kind with
  | root v=>
   simp only[hk] at h ⊢
   obtain⟨h1,l,h2,h3,r,h4,h5,h6,h7,h8,h9,h10,h11⟩:=h
   exact⟨h1,l,h2,h3,r,h4,h5,h6,h7,h8,h9,h10,fun i x u hi hu=>(h11 i x u hi hu).uv he hm (hs i x hi)⟩
  | arr b o sz' cap=>simp only[hk] at h
  | nil=>simp only[hk] at h
  | dead=>simp only[hk] at h
theorem Rel.cut (h0:Rel F e D PS w) (h:Rel F e' D' PS' w') (ht:Tr e D w e' D' w') (hc:Cut PS PS' PS2):
  ∃e2 D2,Rel F e2 D2 PS2 w'∧Tr e D w e2 D2 w'∧∀x v,zc PS2.length x→zH (Mut F D') e' w' x v→zH (Mut F D2) e2 w' x v:=by
 have hlen:(e'.take PS2.length).length=PS2.length:=by have:=hc.len;have:=h.len;simp;omega
 have hget:∀n,n<PS2.length→(e'.take PS2.length)[n]? =e'[n]? :=fun n hn=>List.getElem?_take_of_lt hn
 have hmut:∀b,Mut F (fun i b=>D' i b∧i<PS2.length∧PS2[i]? ≠some .dead) b→Mut F D' b:=fun b hb=>by
  rcases hb with hb | ⟨i,hb⟩
  ·exact .inl hb
  ·exact .inr ⟨i,hb.1⟩
 refine⟨e'.take PS2.length,fun i b=>D' i b∧i<PS2.length∧PS2[i]? ≠some .dead,⟨hlen,fun i b hb=>⟨hb.2.1,(h.out i b hb.1).2⟩,h.fore,fun i j b hi hj=>h.apart i j b hi.1 hj.1,fun i q p hq hp=>?_⟩,?_,fun x v hs hv=>hv.uv hget hmut hs⟩
 ·have hi:i<PS2.length:=yx hq
  rw[hget i hi] at hp
  by_cases hd:q=.dead
  ·subst hd
   show ∀b,¬_
   exact fun b hb=>hb.2.2 hq
  ·rcases hc.is i hi with h1 | ⟨h1,h2⟩
   ·rw[hq] at h1;cases h1;exact absurd rfl hd
   ·rw[hq] at h1
    have hh:=h.holds i q p h1.symm hp
    have hsc:kf PS2.length q:=by
     rcases h2 with h2 | h2
     ·exact(h0.zO5 (h2.trans h1.symm)).le hc.less
     ·exact h2 q h1.symm
    have hD:(fun b=>D' i b∧i<PS2.length∧PS2[i]? ≠some .dead)=D' i:=funext fun b=>propext ⟨fun h=>h.1,fun h=>⟨h,hi,by rw[hq];simpa using hd⟩⟩
    show yK _ _ _ (fun b=>D' i b∧i<PS2.length∧PS2[i]? ≠some .dead) q p
    rw[hD]
    exact hh.uv hget hmut hsc
 ·refine⟨ht.os,ht.tape,ht.output,ht.size,ht.keep,fun i b hb=>ht.own i b hb.1,fun n p hp=>?_⟩
  obtain⟨p',h1,h2⟩:=ht.env n p hp
  have hn:n<PS2.length:=Nat.lt_of_lt_of_le (h0.len▸yx hp) hc.less
  exact⟨p',(hget n hn).trans h1,h2⟩
/-- Garbage is dropped. -/
theorem zI.cut {P:Program} {f:FuncId} {args:List HV} {K:HV→PL→Prop} (h:zI P f args PS fun r PS'=>∃PS2,Cut PS PS' PS2∧zc PS2.length r∧K r PS2):zI P f args PS K:=by
 intro F e D w vs hr hf
 refine(h F e D w vs hr hf).mono ?_
 rintro en w' ⟨v,x,PS',e',D',rfl,⟨PS2,hc,hs,hk⟩,hr',ht,hv⟩
 obtain⟨e2,D2,h1,h2,h3⟩:=hr.cut hr' ht hc
 exact⟨v,x,PS2,e2,D2,rfl,hk,h1,h2,h3 x v hs hv⟩
/-! ### Frozen -/
/-- A value,the piece n frozen. -/
inductive qG (n ver:Nat) (E:List (List HV)):HV→HV→Prop where
 | same (x:HV):qG n ver E x x
 | sl (i len:Nat) (c:Option Nat) (h:i+len≤E.length):qG n ver E (.sl n ver i len c) (.imm false ((E.drop i).take len))
 | shut (i len:Nat) (h:i+len≤E.length):qG n ver E (.sl n ver i len (some len)) (.imm true ((E.drop i).take len))
 | less (t:Bool) (E':List (List HV)):qG n ver E (.imm t E') (.imm false E')
 | agg (l l':List HV) (hl:l'.length=l.length) (h:∀(i:Nat) (x y:HV),l[i]? =some x→l'[i]? =some y→qG n ver E x y):qG n ver E (.agg l) (.agg l')
 | tup (l l':List HV) (hl:l'.length=l.length) (h:∀(i:Nat) (x y:HV),l[i]? =some x→l'[i]? =some y→qG n ver E x y):qG n ver E (.tup l) (.tup l')
def uw (n ver:Nat) (E:List (List HV)) (l l':List HV):Prop:=l'.length=l.length∧∀(i:Nat) (x y:HV),l[i]? =some x→l'[i]? =some y→qG n ver E x y
theorem uw.nil (n ver:Nat) (E:List (List HV)):uw n ver E [] []:=⟨rfl,by simp⟩
theorem uw.cons {n ver:Nat} {E:List (List HV)} {x y:HV} {l l':List HV} (h:qG n ver E x y) (k:uw n ver E l l'):uw n ver E (x::l) (y::l'):=
 ⟨by simp[k.1],fun i a b ha hb=>by
  cases i with
  | zero=>simp at ha hb;subst ha;subst hb;exact h
  | succ i=>exact k.2 i a b (by simpa using ha) (by simpa using hb)⟩
theorem uw.tup {n ver:Nat} {E:List (List HV)} {l l':List HV} (h:uw n ver E l l'):qG n ver E (.tup l) (.tup l'):=.tup l l' h.1 h.2
/-- A piece,the piece n frozen. -/
def zRt (n ver:Nat) (E:List (List HV)) (q q':zC):Prop:=q'=q∨∃v s E1 E2 o,q=.arr v s E1 o∧q'=.arr v s E2 o∧E2.length=E1.length∧∀(i:Nat) (l l':List HV),E1[i]? =some l→E2[i]? =some l'→uw n ver E l l'
structure wD (n ver:Nat) (E:List (List HV)) (PS PS':PL):Prop where
 len:PS'.length=PS.length
 gone:PS'[n]? =some .dead
 is:∀m,m≠n→∀q q',PS[m]? =some q→PS'[m]? =some q'→zRt n ver E q q'
theorem wD.only {n ver:Nat} {E:List (List HV)} (hn:n<PS.length):wD n ver E PS (PS.set n .dead):=
 ⟨by simp,by simp[hn],fun m hm q q' h1 h2=>by rw[List.getElem?_set_ne (Ne.symm hm),h1] at h2;cases h2;exact .inl rfl⟩
theorem Rel.frz (h:Rel F e D PS w) {n ver sz:Nat} {E:List (List HV)} {opn:Bool} (hq:zA PS n=.arr ver sz E opn) (hc:wD n ver E PS PS2):
  ∃D2,Rel F e D2 PS2 w∧Tr e D w e D2 w∧∀x y v,qG n ver E x y→zH (Mut F D) e w x v→zH (Mut F D2) e w y v:=by
 have hqn:PS[n]? =some (.arr ver sz E opn):=xj hq (by simp)
 obtain⟨p,hp⟩:=vZ (h.len▸yx hqn)
 have hh:=h.holds n _ p hqn hp
 have hmut:∀b,Mut F (fun i b=>D i b∧i≠n) b→Mut F D b:=fun b hb=>by
  rcases hb with hb | ⟨i,hb⟩
  ·exact .inl hb
  ·exact .inr ⟨i,hb.1⟩
 have hst:vo (Mut F D) w (Mut F fun i b=>D i b∧i≠n) w:=⟨Nat.le_refl _,fun _ _ _=>rfl,fun b _ hb=>hmut b hb⟩
 have hfr:∀(v:Value) (i len:Nat) (c:Option Nat) (t:Bool),i+len≤E.length→(t=true→c=some len)→zH (Mut F D) e w (.sl n ver i len c) v→zH (Mut F fun i b=>D i b∧i≠n) e w (.imm t ((E.drop i).take len)) v:=by
  intro v i len c t hle ht hv
  cases hv with
  | sl _ _ _ _ _ _ p' hp' hv' hsl h1c=>
   rw[hp] at hp';cases hp'
   unfold yK at hh
   cases hk:p.kind with
   | root v=>simp only[hk] at hh
   | dead=>simp only[hk] at hh
   | nil=>
    simp only[hk] at hh
    obtain⟨h1,rfl,_,_⟩:=hh
    have hs:=hsl h1
    simp only[hk,jv] at hs
    obtain⟨⟨a,rfl⟩,rfl,_⟩:=hs
    simp only[List.length_nil,Nat.le_zero_eq,Nat.add_eq_zero_iff] at hle
    obtain⟨rfl,_⟩:=hle
    exact .imm t [] a 0 0 0 0 (fun _ _=>.bool true) (Nat.le_refl _) (Nat.zero_le _) (fun _=>rfl) (fun _=>rfl) (fun h=>absurd h (Nat.lt_irrefl _)) (fun h=>absurd rfl h) (by simp) (fun _ _=>rfl) (by simp) (by simp)
   | arr b o sz' cap=>
    simp only[hk] at hh
    obtain⟨h1,rfl,hD,zd⟩:=hh
    have hs:=hsl h1
    simp only[hk,jv] at hs
    obtain⟨a,c',rfl,hlc,hcm,hnone,qw,hcp⟩:=hs
    obtain⟨cs,ty,hheap,hsize,hszs,hcell⟩:=zd.row
    have hlen:((E.drop i).take len).length=len:=by simp;omega
    have hget:∀(j:Nat) (l:List HV),((E.drop i).take len)[j]? =some l→E[i+j]? =some l:=fun j l hj=>by
     have hj':=yx hj
     rw[hlen] at hj'
     rwa [List.getElem?_take_of_lt hj',List.getElem?_drop] at hj
    have zT:∀(j:Nat) (l:List HV) (k:Nat) (x:HV),((E.drop i).take len)[j]? =some l→l[k]? =some x→∃u,cs[o+(i+j)*sz+k]? =some u∧u.oneCell'=true∧zH (Mut F D) e w x u:=
     fun j l k x hj hk=>hcell (i+j) l k x (hget j l hj) hk
    have hfin:zH (Mut F fun i b=>D i b∧i≠n) e w (.imm t ((E.drop i).take len)) (.slice a ((E.drop i).take len).length c'):=by
     refine .imm t _ a c' b (o+i*sz) sz (fun j k=>let u:=cs.getD (o+(i+j)*sz+k) (.bool true);if u.oneCell' then u else .bool true) (by rw[hlen];exact hlc) hcm (fun h=>?_) hnone (fun h=>?_) (fun _=>⟨?_,?_⟩) (fun l hl=>hszs l (List.mem_of_mem_drop (List.mem_of_mem_take hl))) (fun j k=>?_) (fun j l k x hj hk=>?_) (fun j l k x hj hk=>?_)
     ·rw[ht h] at hcp;simp only at hcp;rw[hlen];exact hcp
     ·have:=qw h;simpa using this
     ·rintro (hb | ⟨m,hb,hm⟩)
      ·exact(h.out n b ((hD b).2 rfl)).2.2 hb
      ·exact hm (h.apart m n b hb ((hD b).2 rfl))
     ·exact(h.out n b ((hD b).2 rfl)).2.1
     ·show Value.oneCell' (if _ then _ else _)=true
      split
      ·assumption
      ·rfl
     ·obtain⟨u,hu,h1u,_⟩:=zT j l k x hj hk
      have:(cs.getD (o+(i+j)*sz+k) (.bool true))=u:=by simp[Array.getD_eq_getD_getElem?,hu]
      simp only[this,h1u,if_true]
      rw[cell_of_row w b _ cs ty (0,0) hheap,←hu];congr 1;rw[Nat.add_mul];omega
     ·obtain⟨u,hu,h1u,hr⟩:=zT j l k x hj hk
      have:(cs.getD (o+(i+j)*sz+k) (.bool true))=u:=by simp[Array.getD_eq_getD_getElem?,hu]
      simp only[this,h1u,if_true]
      exact hr.mono hst (.refl e)
    rw[hlen] at hfin;exact hfin
 have hfv:∀x y v,qG n ver E x y→zH (Mut F D) e w x v→zH (Mut F fun i b=>D i b∧i≠n) e w y v:=by
  intro x y v hxy
  induction hxy generalizing v with
  | same x=>exact fun hv=>hv.mono hst (.refl e)
  | sl i len c hle=>exact hfr v i len c false hle (by simp)
  | shut i len hle=>exact hfr v i len (some len) true hle (fun _=>rfl)
  | less t E'=>
   intro hv
   have hv:=hv.mono hst (.refl e)
   cases hv with
   | imm _ _ a c b o sz val hc hm ht hn ha hb hsz h1c hcell zT=>exact .imm false E' a c b o sz val hc hm (by simp) hn ha hb hsz h1c hcell zT
  | agg l l' hl _ ih=>
   intro hv
   cases hv with
   | agg _ vs hs hv=>
    refine .agg l' vs (hs.trans hl.symm) fun i y u hi hu=>?_
    obtain⟨x,hx⟩:=vZ (hl▸yx hi)
    exact ih i x y hx hi u (hv i x u hx hu)
  | tup l l' hl _ ih=>
   intro hv
   cases hv with
   | tup _ vs hs hv=>
    refine .tup l' vs (hs.trans hl.symm) fun i y u hi hu=>?_
    obtain⟨x,hx⟩:=vZ (hl▸yx hi)
    exact ih i x y hx hi u (hv i x u hx hu)
 refine⟨fun i b=>D i b∧i≠n,⟨hc.len▸h.len,fun i b hb=>⟨by rw[hc.len];exact(h.out i b hb.1).1,(h.out i b hb.1).2⟩,h.fore,fun i j b hi hj=>h.apart i j b hi.1 hj.1,fun i q' p' hq' hp'=>?_⟩,?_,hfv⟩
 ·by_cases hin:i=n
  ·subst hin
   rw[hc.gone] at hq';cases hq'
   show ∀b,¬_
   exact fun b hb=>hb.2 rfl
  ·obtain⟨q,hqi⟩:=vZ (hc.len▸yx hq')
   have hD:(fun b=>D i b∧i≠n)=D i:=funext fun b=>propext ⟨fun h=>h.1,fun h=>⟨h,hin⟩⟩
   show yK _ _ _ (fun b=>D i b∧i≠n) q' p'
   rw[hD]
   have hhi:=h.holds i q p' hqi hp'
   have hhm:yK (Mut F fun i b=>D i b∧i≠n) e w (D i) q p':=hhi.mono hst (.refl e) (fun _=>Iff.rfl) (fun _ _=>rfl) (fun b hb=>(h.out i b hb).2.1) (fun b hb=>.inr ⟨i,hb,hin⟩)
   rcases hc.is i hin q q' hqi hq' with rfl | ⟨v,s,E1,E2,o,rfl,rfl,hl,hE⟩
   ·exact hhm
   ·unfold yK at hhi ⊢
    cases hk:p'.kind with
    | arr b o sz' cap=>
     simp only[hk] at hhi ⊢
     obtain⟨h1,h2,h3,a1,a2,a3,cs,ty,a4,a5,a6,a7⟩:=hhi
     refine⟨h1,h2,h3,by rw[hl];exact a1,by rw[hl];exact a2,a3,cs,ty,a4,a5,fun l' hl'=>?_,fun i l' k y hi hk=>?_⟩
     ·obtain⟨i,hi⟩:=List.getElem?_of_mem hl'
      obtain⟨l,hli⟩:=vZ (hl▸yx hi)
      rw[(hE i l l' hli hi).1];exact a6 l (List.mem_of_getElem? hli)
     ·obtain⟨l,hli⟩:=vZ (hl▸yx hi)
      have hll:=hE i l l' hli hi
      obtain⟨x,hx⟩:=vZ (hll.1▸yx hk)
      obtain⟨u,b1,b2,b3⟩:=a7 i l k x hli hx
      exact⟨u,b1,b2,hfv x y u (hll.2 k x y hx hk) b3⟩
    | nil=>
     simp only[hk] at hhi ⊢
     obtain⟨h1,rfl,h3,h4⟩:=hhi
     exact⟨h1,List.eq_nil_of_length_eq_zero hl,h3,h4⟩
    | root v=>simp only[hk] at hhi
    | dead=>simp only[hk] at hhi
 ·exact⟨rfl,rfl,rfl,Nat.le_refl _,fun _ _ _=>rfl,fun i b hb=>.inl ⟨i,hb.1⟩,.refl e⟩
/-- A row is frozen. -/
theorem zI.frz {P:Program} {f:FuncId} {args:List HV} {K:HV→PL→Prop} (h:zI P f args PS fun r PS'=>∃n ver sz E opn r' PS2,zA PS' n=.arr ver sz E opn∧qG n ver E r r'∧wD n ver E PS' PS2∧K r' PS2):zI P f args PS K:=by
 intro F e D w vs hr hf
 refine(h F e D w vs hr hf).mono ?_
 rintro en w' ⟨v,x,PS',e',D',rfl,⟨n,ver,sz,E,opn,r',PS2,hq,hx,hc,hk⟩,hr',ht,hv⟩
 obtain⟨D2,h1,h2,h3⟩:=hr'.frz hq hc
 exact⟨v,r',PS2,e',D2,rfl,hk,h1,ht.trans h2,h3 x r' v hx hv⟩
end
/-! ### Pieces made since,by their places -/
def Zd:PL→Nat→zC
 | [],_=>.dead
 | a::_,0=>a
 | _::l,n+1=>Zd l n
def Zr:PL→Nat→zC→PL
 | [],_,_=>[]
 | _::l,0,b=>b::l
 | a::l,n+1,b=>a::Zr l n b
theorem zFx:∀(l:PL) (n:Nat),Zd l n=l.getD n .dead
 | [],_=>rfl
 | _::_,0=>rfl
 | _::l,n+1=>zFx l n
theorem zDr:∀(l:PL) (n:Nat) (b:zC),Zr l n b=l.set n b
 | [],_,_=>rfl
 | _::_,0,_=>rfl
 | a::l,n+1,b=>congrArg (a:: ·) (zDr l n b)
@[go_sem ↓,go_sem] theorem zZX (a:zC) (l:PL):Zd (a::l) 0=a:=_root_.id rfl
@[go_sem ↓,go_sem] theorem zcG (a:zC) (l:PL) (n:Nat):Zd (a::l) (n+1)=Zd l n:=_root_.id rfl
@[go_sem ↓,go_sem] theorem zTF (a b:zC) (l:PL):Zr (a::l) 0 b=b::l:=_root_.id rfl
@[go_sem ↓,go_sem] theorem zWj (a b:zC) (l:PL) (n:Nat):Zr (a::l) (n+1) b=a::Zr l n b:=_root_.id rfl
@[go_sem] theorem zXs (PS l m:PL):PS++l++m=PS++(l++m):=List.append_assoc _ _ _
@[go_sem] theorem zaJ (PS:PL) (a:zC) (l:PL):zA (PS++a::l) PS.length=a:=by simp[zA,List.getD]
@[go_sem] theorem zcy (PS:PL) (l:PL) (k:Nat):zA (PS++l) (PS.length+k)=Zd l k:=by
 rw[zFx];simp[zA,List.getD,List.getElem?_append,show ¬(PS.length+k<PS.length) by omega]
@[go_sem] theorem zcb (PS:PL) (a b:zC) (l:PL):(PS++a::l).set PS.length b=PS++b::l:=by simp
@[go_sem] theorem Yw (PS:PL) (l:PL) (k:Nat) (b:zC):(PS++l).set (PS.length+k) b=PS++Zr l k b:=by
 rw[zDr,List.set_append_right _ _ (by omega)];simp
/-! ### What a call leaves as it was -/
/-- Pieces that were there,but for some,are as they were. -/
def Ext (S:List Nat) (PS PS':PL):Prop:=PS.length≤PS'.length∧∀n,n<PS.length→n∉S→zA PS' n=zA PS n
theorem Ext.get {S:List Nat} {PS PS':PL} (h:Ext S PS PS') {n v s:Nat} {E:List (List HV)} {o:Bool} (hg:zA PS n=.arr v s E o) (hn:n∉S):zA PS' n=.arr v s E o:=(h.2 n (yB hg) hn).trans hg
theorem Pre.arr {PS PS':PL} (h:Pre PS PS') {n v s:Nat} {E:List (List HV)} {o:Bool} (hg:zA PS n=.arr v s E o):zA PS' n=.arr v s E o:=by
 rcases h n with h | h
 ·rw[h] at hg;cases hg
 ·rw[h,hg]
theorem Ext.pre {PS PS':PL} (h:Ext [] PS PS'):Pre PS PS':=fun n=>by
 by_cases hn:n<PS.length
 ·exact .inr (h.2 n hn (by simp))
 ·left;simp[zA,List.getD,List.getElem?_eq_none (Nat.le_of_not_lt hn)]
theorem Ext.refl (PS:PL):Ext [] PS PS:=⟨Nat.le_refl _,fun _ _ _=>rfl⟩
theorem Ext.app (PS l:PL):Ext [] PS (PS++l):=⟨by simp,fun n hn _=>by unfold zA;simp[List.getD,List.getElem?_append_left hn]⟩
theorem Ext.mono {S T:List Nat} {PS PS':PL} (h:Ext S PS PS') (hs:∀n∈S,n∈T):Ext T PS PS':=⟨h.1,fun n hn ht=>h.2 n hn fun hm=>ht (hs n hm)⟩
theorem Ext.set (PS:PL) (n:Nat) (q:zC):Ext [n] PS (PS.set n q):=⟨by simp,fun m _ hn=>zO q (by simpa using fun e:n=m=>hn (by simp[e]))⟩
theorem Ext.trans {S T:List Nat} {PS PS' PS'':PL} (h:Ext S PS PS') (k:Ext T PS' PS''):Ext (S++T) PS PS'':=
 ⟨Nat.le_trans h.1 k.1,fun n hn ht=>(k.2 n (Nat.lt_of_lt_of_le hn h.1) (fun hm=>ht (by simp[hm]))).trans (h.2 n hn fun hm=>ht (by simp[hm]))⟩
/-- Changes of what was made since do not count. -/
theorem Ext.since {S T:List Nat} {PS PS' PS'':PL} (h:Ext S PS PS') (k:Ext T PS' PS'') (ht:∀n∈T,n∈S∨PS.length≤n):Ext S PS PS'':=
 ⟨Nat.le_trans h.1 k.1,fun n hn hs=>(k.2 n (Nat.lt_of_lt_of_le hn h.1) (fun hm=>by rcases ht n hm with h' | h';exact hs h';omega)).trans (h.2 n hn hs)⟩
theorem gu {PS:PL} {n:Nat} (h:n<PS.length):PS[n]? =some (zA PS n):=by simp[zA,List.getD,h]
theorem xe {k:Nat} {t:Bool} {E:List (List HV)}:zc k (.imm t E)↔∀l∈E,∀x∈l,zc k x:=by
 constructor
 ·intro h
  cases h with
  | imm _ _ h=>
   intro l hl x hx
   obtain⟨i,hi⟩:=List.getElem?_of_mem hl
   obtain⟨j,hj⟩:=List.getElem?_of_mem hx
   exact h i l j x hi hj
 ·exact fun h=>.imm t E fun i l j x hi hj=>h l (List.mem_of_getElem? hi) x (List.mem_of_getElem? hj)
theorem wE {k:Nat} {l:List HV}:zc k (.agg l)↔∀x∈l,zc k x:=by
 constructor
 ·intro h
  cases h with
  | agg _ h=>
   intro x hx
   obtain⟨j,hj⟩:=List.getElem?_of_mem hx
   exact h j x hj
 ·exact fun h=>.agg l fun i x hi=>h x (List.mem_of_getElem? hi)
theorem jn {k:Nat} {l:List HV}:zc k (.tup l)↔∀x∈l,zc k x:=by
 constructor
 ·intro h
  cases h with
  | tup _ h=>
   intro x hx
   obtain⟨j,hj⟩:=List.getElem?_of_mem hx
   exact h j x hj
 ·exact fun h=>.tup l fun i x hi=>h x (List.mem_of_getElem? hi)
theorem Zp {k:Nat} {j:IntKind} {n:Int}:zc k (.int j n)↔True:=⟨fun _=>trivial,fun _=>.int j n⟩
theorem Ql {k:Nat} {b:Bool}:zc k (.bool b)↔True:=⟨fun _=>trivial,fun _=>.bool b⟩
theorem zMa {PS:PL} (l:PL) {n:Nat} (h:n<PS.length):zA (PS++l) n=zA PS n:=by
 unfold zA;simp[List.getD,List.getElem?_append_left h]
theorem wD.QO {X:PL} {A:zC} {ver:Nat} {E:List (List HV)}:wD X.length ver E (X++[A]) (X++[.dead]):=by
 refine⟨by simp,by simp,fun m hm a b ha hb=>?_⟩
 by_cases hlt:m<X.length
 ·rw[List.getElem?_append_left hlt] at ha hb
  rw[ha] at hb;cases hb;exact .inl rfl
 ·have:=yx ha
  simp at this
  omega
/-- What is new is dropped. -/
theorem zI.take {P:Program} {f:FuncId} {args:List HV} {PS:PL} {K:HV→PL→Prop} (h:zI P f args PS fun r PS'=>PS.length≤PS'.length∧zc PS.length r∧(∀n,n<PS.length→zA PS' n=zA PS n∨kf PS.length (zA PS' n))∧K r (PS'.take PS.length)):zI P f args PS K:=by
 refine zI.cut (h.mono ?_)
 rintro r PS' ⟨h1,h2,h3,h4⟩
 have hl:(PS'.take PS.length).length=PS.length:=by simp;omega
 refine⟨PS'.take PS.length,⟨by omega,by omega,fun n hn=>.inr ⟨List.getElem?_take_of_lt (by omega),?_⟩⟩,by rw[hl];exact h2,h4⟩
 rw[hl] at hn ⊢
 rcases h3 n hn with h | h
 ·left;rw[gu hn,gu (Nat.lt_of_lt_of_le hn h1),h]
 ·right;intro q hq;rw[gu (Nat.lt_of_lt_of_le hn h1)] at hq;cases hq;exact h
theorem zLh {PS PS':PL} (h:Ext [] PS PS'):PS'.take PS.length=PS:=by
 refine List.ext_getElem? fun n=>?_
 by_cases hn:n<PS.length
 ·rw[List.getElem?_take_of_lt hn,gu hn,gu (Nat.lt_of_lt_of_le hn h.1),h.2 n hn (by simp)]
 ·rw[List.getElem?_eq_none (by simp;omega),List.getElem?_eq_none (by omega)]
/-- A call that leaves all that was there,and tells data:it only reads. -/
theorem zI.data {P:Program} {f:FuncId} {args:List HV} {PS:PL} {res:HV} (hs:zc PS.length res) (h:zI P f args PS fun r PS'=>r=res∧Ext [] PS PS'):zI P f args PS fun r PS'=>r=res∧PS'=PS:=by
 refine zI.take (h.mono ?_)
 rintro r PS' ⟨rfl,hx⟩
 exact⟨hx.1,hs,fun n hn=>.inl (hx.2 n hn (by simp)),rfl,zLh hx⟩
theorem Pure.zp {P:Program} {f:FuncId} {args:List HV} {res:HV} (hs:zc 0 res) (h:∀PS,zI P f args PS fun r PS'=>r=res∧Ext [] PS PS'):Pure P f args res:=fun PS=>zI.data (hs.le (Nat.zero_le _)) (h PS)
end Go.Eng
namespace Go.Eng
open Go Go.RowKit Go.WideShapes Go.ChangeShapes Go.Deep
variable [zB]
theorem zBr (w:World):Rel (fun _=>False) [] (fun _ _=>False) [] w:=⟨rfl,fun _ _ h=>h.elim,fun _ h=>h.elim,fun _ _ _ h=>h.elim,fun i q p h=>by simp at h⟩
/-- A law's walk,out of its abstract contract. -/
theorem zOS {P:Program} {f:FuncId} {args:List HV} {vs:Array Value} {w:World} (h:zI P f args [] fun r _=>r=.bool true)
  (hf:zy (Mut (fun _=>False) fun _ _=>False) [] w args vs):Calls P f vs w fun e w'=>e=.returned (.bool true)∧Below w.heap.size w w':=by
 refine(h _ [] _ w vs (zBr w) hf).mono ?_
 rintro en w' ⟨v,x,PS',e',D',rfl,rfl,_,ht,hv⟩
 cases hv with
 | bool b=>exact⟨rfl,ht.os,ht.tape,ht.output,ht.size,fun b hb=>ht.keep b hb (fun _ h=>h)⟩
theorem zGg {M:Nat→Prop} {e:List Pos} {w:World}:zy M e w [] #[]:=⟨rfl,by simp⟩
theorem VK {M:Nat→Prop} {e:List Pos} {w:World} {x:HV} {u:Value} {l:List HV} {vs:List Value} (h:zH M e w x u) (k:zy M e w l vs.toArray):zy M e w (x::l) (u::vs).toArray:=by
 refine⟨by have:=k.1;simp at this ⊢;omega,fun i y v hi hv=>?_⟩
 cases i with
 | zero=>simp at hi hv;subst hi;subst hv;exact h
 | succ i=>exact k.2 i y v (by simpa using hi) (by simpa using hv)
section
variable {H:Type} {enc:TypeId×Value→H} {P:Program}
/-- The row's last step where all that is known of the call's end is that what was there is as it was. -/
theorem zRi {f:Func} {s:ChangeSpec} {apart fresh handsOn again:Bool} {W W':World} {args:Array Value} {v:Value} {ds gs:List (DataW H)} {before pa pv:List MemPlace}
  (hW:DataW.Whole enc P f.params.toList s.vars apart W args.toList ds gs before)
  (uX:∀(b:Nat) (sp:Nat→Bool) (hd:Bool),DataW.TrodAll enc P W' b sp hd f.resultTypes.toList (v.resultList f.resultTypes.size) (s.fn H (ds++gs)).results [])
  (hargs:∀sp:Nat→Bool,(∀p∈before,sp p.block=true)→DataW.TrodAll enc P W' 0 sp true f.params.toList args.toList (s.fn H (ds++gs)).args pa)
  (hvars:∀sp:Nat→Bool,(∀p∈before,sp p.block=true)→DataW.TrodVars enc P W' sp s.vars (s.fn H (ds++gs)).vars pv)
  (hps:before=pa++pv) (hb:Below W.heap.size W W')
  (hok:∀(j:Nat) (t:TypeId) (r:Value),f.resultTypes[j]? =some t→(v.resultList f.resultTypes.size)[j]? =some r→Value.okWide P W' .any 0 t r):
  s.post enc P f apart fresh handsOn again W args v W':=by
 have lt:∀p∈before,p.block<W.heap.size:=fun p hp=>hW.lt p hp
 have old:∀p∈before,(fun b=>decide (b<W.heap.size)) p.block=true:=fun p hp=>by simpa using lt p hp
 subst hps
 refine⟨ds,gs,pa++pv,[],pa,pv,hW,uX _ _ _,hargs _ old,hvars _ old,World.keptBut_mono (fun p hp=>⟨hp,.inr (List.mem_append.1 hp)⟩) (hb.frame (· ∈pa++pv)),fun _=>?_⟩
 obtain⟨_,_,_,_,_,hz,hn⟩:=hW
 refine⟨hok,_,_,([]++pa)++pv,⟨[]++pa,pv,trodAll_append (hargs _ (fun _ _=>rfl)) (uX _ _ _),hvars _ (fun _ _=>rfl),rfl,fun b off hp=>?_,fun ha=>?_⟩,fun p hp _=>?_⟩
 ·have hin:MemPlace.cell b off∈pa++pv:=by simpa using hp
  rw[hb.frozen (lt _ hin)]
  exact hz b off hin
 ·simpa using hn ha
 ·simpa using hp
abbrev M0:Nat→Prop:=Mut (fun _=>False) fun _ _=>False
theorem zN1 (b:Nat):¬M0 b:=by rintro (h | ⟨_,h⟩)<;>exact h
/-- A slice that came in,as rows of what its elements are. -/
theorem zJK {w:World} {base fuel sz:Nat} {held:Bool} {t e:TypeId} {cs:List Value} {x:DataW H×List MemPlace} (ht:P.underlying t=some (.slice e)) (hC:P.cellsOf e=sz) (hsz:0<sz)
  (h:DataW.trod enc P w base (fun _=>true) held fuel t cs=some x) (Q:List HV→Prop)
  (hel:∀(n:Nat) (cs':List Value) (y:DataW H×List MemPlace),cs'.length=sz→DataW.trod enc P w base (fun _=>true) held n e cs'=some y→
   ∃r:List HV,r.length=sz∧Q r∧∀(k:Nat) (z:HV) (u:Value),r[k]? =some z→cs'[k]? =some u→zH M0 [] w z u∧u.oneCell'=true):
  ∃(v:Value) (E:List (List HV)),cs=[v]∧zH M0 [] w (.imm false E) v∧(∀r∈E,Q r)∧E.length≤maxLen:=by
 rcases open_slice ht h with ⟨rfl,_⟩ | ⟨a,len,cap,m,n,D,Pl,rfl,_,hlc,hcm,hm,_,hi⟩
 ·exact⟨_,[],rfl,.imm false [] none 0 0 0 0 (fun _ _=>.bool true) (Nat.le_refl _) (Nat.zero_le _) (by simp) (fun _=>rfl) (fun h=>absurd h (Nat.lt_irrefl _)) (fun h=>absurd rfl h) (by simp) (fun _ _=>rfl) (by simp) (by simp),by simp,Nat.zero_le _⟩
 ·simp only[if_true] at hm
  subst hm
  have key:∀i,i<m→∃(cs':List Value) (r:List HV),r.length=sz∧cs'.length=sz∧Q r∧(∀k,k<sz→w.cell? (a.add (i*sz+k))=cs'[k]?)∧∀(k:Nat) (z:HV) (u:Value),r[k]? =some z→cs'[k]? =some u→zH M0 [] w z u∧u.oneCell'=true:=by
   intro i him
   obtain⟨cs',h1,h2⟩:=hi i him
   obtain⟨_,h3,h4⟩:=World.cells?_some h1
   rw[hC] at h3 h4
   obtain⟨r,h5,h6,h7⟩:=hel n cs' _ h3 h2
   refine⟨cs',r,h5,h3,h6,fun k hk=>?_,h7⟩
   rw[←h4 k hk,Go.Deep.add_add]
  classical
  let C:Nat→List Value:=fun i=>if h:i<m then Classical.choose (key i h) else []
  let R:Nat→List HV:=fun i=>if h:i<m then Classical.choose (Classical.choose_spec (key i h)) else []
  have hR:∀i,i<m→(R i).length=sz∧(C i).length=sz∧Q (R i)∧(∀k,k<sz→w.cell? (a.add (i*sz+k))=(C i)[k]?)∧∀(k:Nat) (z:HV) (u:Value),(R i)[k]? =some z→(C i)[k]? =some u→zH M0 [] w z u∧u.oneCell'=true:=by
   intro i him
   simp only[C,R,dif_pos him]
   exact Classical.choose_spec (Classical.choose_spec (key i him))
  have hspot:0<m→a=⟨a.block,a.off,none⟩∧a.block<w.heap.size:=by
   intro hm0
   obtain⟨_,h2,_,h4,_⟩:=hR 0 hm0
   have h5:=h4 0 hsz
   have h6:∃u,(C 0)[0]? =some u:=vZ (by omega)
   obtain⟨u,hu⟩:=h6
   rw[hu] at h5
   have hadd:a.add (0*sz+0)=a:=by
    have:a.add 0=a:=by unfold Addr.add;cases a with | mk b o s=>cases s<;>simp
    simpa using this
   rw[hadd] at h5
   unfold World.cell? at h5
   split at h5
   ·rename_i c _ _ hh
    split at h5
    ·cases h5
    ·rename_i hs
     refine⟨?_,(Array.getElem?_eq_some_iff.1 hh).1⟩
     cases a with
     | mk b o s=>cases s with
      | none=>rfl
      | some _=>simp at hs
   ·cases h5
  have hE:((List.range len).map R).length=len:=by simp
  have hget:∀(i:Nat) (l:List HV),((List.range len).map R)[i]? =some l→i<len∧l=R i:=by
   intro i l hl
   have hil:i<len:=by have:=yx hl;simpa using this
   rw[List.getElem?_map,List.getElem?_range hil] at hl
   simp at hl
   exact⟨hil,hl.symm⟩
  refine⟨_,(List.range len).map R,rfl,?_,fun r hr=>?_,by rw[hE];omega⟩
  ·have:zH M0 [] w (.imm false ((List.range len).map R)) (.slice (some a) ((List.range len).map R).length m):=by
    refine .imm false _ (some a) m a.block a.off sz (fun i k=>let u:=(C i).getD k (.bool true);if u.oneCell' then u else .bool true) (by rw[hE];exact hlc) hcm (by simp) (by simp) (fun h0=>by rw[(hspot h0).1]) (fun hne=>⟨zN1 _,(hspot ?_).2⟩) (fun l hl=>?_) (fun i k=>?_) (fun i l k z hil hk=>?_) (fun i l k z hil hk=>?_)
    ·rcases Nat.eq_zero_or_pos m with h | h
     ·have:len=0:=by omega
      subst this;simp at hne
     ·exact h
    ·obtain⟨i,hil⟩:=List.getElem?_of_mem hl
     obtain⟨h1,rfl⟩:=hget i l hil
     exact(hR i (by omega)).1
    ·show Value.oneCell' (if _ then _ else _)=true
     split
     ·assumption
     ·rfl
    ·obtain⟨h1,rfl⟩:=hget i l hil
     obtain⟨h2,h3,_,h4,h5⟩:=hR i (by omega)
     have hks:k<sz:=h2▸yx hk
     obtain⟨u,hu⟩:=vZ (show k<(C i).length by omega)
     have h6:=h5 k z u hk hu
     have:(C i).getD k (.bool true)=u:=by simp[List.getD,hu]
     simp only[this,h6.2,if_true]
     have h7:=h4 k hks
     rw[hu] at h7
     have ha:=(hspot (by omega)).1
     rw[ha] at h7
     rw[←h7]
     show _=World.cell? w (Addr.add _ _)
     rw[uT]
     congr 2
     omega
    ·obtain⟨h1,rfl⟩:=hget i l hil
     obtain⟨h2,h3,_,h4,h5⟩:=hR i (by omega)
     obtain⟨u,hu⟩:=vZ (show k<(C i).length by have:=yx hk;omega)
     have h6:=h5 k z u hk hu
     have:(C i).getD k (.bool true)=u:=by simp[List.getD,hu]
     simp only[this,h6.2,if_true]
     exact h6.1
   rw[hE] at this
   exact this
  ·obtain⟨i,hil⟩:=List.getElem?_of_mem hr
   obtain⟨h1,rfl⟩:=hget i r hil
   exact(hR i (by omega)).2.2.1
/-- A row of one integer,a row of one bool. -/
theorem zM2 {w:World} {base n:Nat} {held:Bool} {spare:Nat→Bool} {e:TypeId} {k:IntKind} {cs:List Value} {y:DataW H×List MemPlace} (he:P.underlying e=some (.int k)) (h:DataW.trod enc P w base spare held n e cs=some y):
  ∃z:Int,(Lit.int k z).wf=true∧cs=[.int k z]:=by
 obtain⟨z,h1,_,h2⟩:=DataW.trod_int he h
 exact⟨z,h2,h1⟩
theorem zJU {w:World} {x:HV} {u:Value} (h:zH M0 [] w x u) (h1:u.oneCell'=true):∀(k:Nat) (z:HV) (v:Value),[x][k]? =some z→[u][k]? =some v→zH M0 [] w z v∧v.oneCell'=true:=by
 intro k z v hz hv
 cases k with
 | zero=>simp at hz hv;subst hz;subst hv;exact⟨h,h1⟩
 | succ k=>simp at hz
end
end Go.Eng
