/-
The data of the document: keys, values, messages, entries, nodes; what is computed of them. No program in sight.
Bytes as rows.
Shapes of contracts: what a slice holds that comes in (From_), a new slice that goes out (Fresh).
What the document says of messages, entries, kids, nodes: right, how large, whether they fit. No program in sight.
Data of the document name no piece.
No conditions.
-/
import Derived.Test.YtajjhaidpagflaaGreatQEngZ
import Derived.Test.YtajjhaidpagflaaGreatQFactsA
import Derived.Test.YtajjhaidpagflaaGreatQStrA
set_option linter.unusedSectionVars false
set_option linter.unusedSimpArgs false
set_option linter.unusedVariables false
namespace Go.Mo
open Go Go.Eng
variable [Toks]
abbrev Bs:=List UInt8
structure Ms where
  kind:Int
  seq:Nat
  key:Bs
  val:Bs
  by_:Nat
  deriving DecidableEq
structure Nd where
  leaf:Bool
  ents:List (Bs×Bs)
  kids:List Int
  pivs:List Bs
  msgs:List Ms
  deriving DecidableEq
/-- Bytes,and 0 behind them. -/
def pad (n:Nat) (b:Bs):Bs:=(b++List.replicate n 0).take n
def u8s (b:Bs):List HV:=b.map fun x=>.int .u8 x.toNat
def keyL (k:Bs):List HV:=.int .i64 k.length::u8s (pad 8 k)
def valL (v:Bs):List HV:=.int .i64 v.length::u8s (pad 16 v)
def entL (e:Bs×Bs):List HV:=keyL e.1++valL e.2
def msgL (m:Ms):List HV:=.int .i64 m.kind:: .int .u64 m.seq::(keyL m.key++(valL m.val++[.int .u64 m.by_]))
def kidL (i:Int):List HV:=[.int .i64 i]
structure Fl where
  a:Bool
  b:Bool
  c:Bool
  d:Bool
def nodL (t:Fl) (n:Nd):List HV:=[.bool n.leaf,.imm t.a (n.ents.map entL),.imm t.b (n.kids.map kidL),.imm t.c (n.pivs.map keyL),.imm t.d (n.msgs.map msgL)]
def Nd.none:Nd:=⟨false,[],[],[],[]⟩
/-- Right sizes. -/
def okK (k:Bs):Prop:=k.length≤8
def okV (v:Bs):Prop:=v.length≤16
structure okM (m:Ms):Prop where
  kind: -9223372036854775808≤m.kind∧m.kind≤9223372036854775807
  seq:m.seq<18446744073709551616
  key:okK m.key
  val:okV m.val
  by_:m.by_<18446744073709551616
structure okN (n:Nd):Prop where
  ents:∀e∈n.ents,okK e.1∧okV e.2
  pivs:∀k∈n.pivs,okK k
  msgs:∀m∈n.msgs,okM m
  few:n.ents.length≤1000∧n.kids.length≤1000∧n.pivs.length≤1000∧n.msgs.length≤1000
section
variable {b k v:Bs}
theorem pad_len (n:Nat) (b:Bs):(pad n b).length=n:=by simp[pad]
theorem pad_eq {n:Nat} (h:b.length≤n):pad n b=b++List.replicate (n - b.length) 0:=by
  unfold pad
  rw[List.take_append,List.take_of_length_le h,List.take_replicate,Nat.min_eq_left (by omega)]
theorem u8s_len (b:Bs):(u8s b).length=b.length:=by simp[u8s]
@[go_sem ↓,go_sem] theorem keyL_len (k:Bs):(keyL k).length=9:=by simp[keyL,u8s_len,pad_len]
@[go_sem ↓,go_sem] theorem valL_len (v:Bs):(valL v).length=17:=by simp[valL,u8s_len,pad_len]
theorem pad_inj {n:Nat} {a b:Bs} (ha:a.length≤n) (hl:a.length=b.length) (h:pad n a=pad n b):a=b:=by
  rw[pad_eq ha,pad_eq (hl▸ha)] at h
  exact(List.append_inj h hl).1
theorem u8s_inj {a b:Bs} (h:u8s a=u8s b):a=b:=by
  induction a generalizing b with
  | nil=>cases b<;>simp[u8s] at h ⊢
  | cons x a ih=>
    cases b with
    | nil=>simp[u8s] at h
    | cons y b=>
      simp only[u8s,List.map_cons,List.cons.injEq,HV.int.injEq,true_and] at h
      obtain⟨h1,h2⟩:=h
      have:x=y:=UInt8.toNat_inj.1 (by omega)
      rw[this,ih (by simpa [u8s] using h2)]
@[go_sem ↓,go_sem] theorem take_key (k:Bs) (r:List HV):(keyL k++r).take 9=keyL k:=by rw[List.take_append_of_le_length (by rw[keyL_len];omega),List.take_of_length_le (by rw[keyL_len];omega)]
@[go_sem ↓,go_sem] theorem drop_key (k:Bs) (r:List HV):(keyL k++r).drop 9=r:=by rw[List.drop_append_of_le_length (by rw[keyL_len];omega),List.drop_of_length_le (by rw[keyL_len];omega),List.nil_append]
@[go_sem ↓,go_sem] theorem take_val (v:Bs) (r:List HV):(valL v++r).take 17=valL v:=by rw[List.take_append_of_le_length (by rw[valL_len];omega),List.take_of_length_le (by rw[valL_len];omega)]
@[go_sem ↓,go_sem] theorem drop_val (v:Bs) (r:List HV):(valL v++r).drop 17=r:=by rw[List.drop_append_of_le_length (by rw[valL_len];omega),List.drop_of_length_le (by rw[valL_len];omega),List.nil_append]
@[go_sem ↓,go_sem] theorem take_key_all (k:Bs):(keyL k).take 9=keyL k:=List.take_of_length_le (by rw[keyL_len];omega)
@[go_sem ↓,go_sem] theorem take_val_all (v:Bs):(valL v).take 17=valL v:=List.take_of_length_le (by rw[valL_len];omega)
@[go_sem ↓,go_sem] theorem take1_key (k:Bs):(keyL k).take 1=[.int .i64 k.length]:=_root_.id rfl
@[go_sem ↓,go_sem] theorem take1_val (k:Bs):(valL k).take 1=[.int .i64 k.length]:=_root_.id rfl
@[go_sem ↓,go_sem] theorem drop1_key (k:Bs):(keyL k).drop 1=u8s (pad 8 k):=_root_.id rfl
@[go_sem ↓,go_sem] theorem drop1_val (k:Bs):(valL k).drop 1=u8s (pad 16 k):=_root_.id rfl
@[go_sem ↓,go_sem] theorem take_pad8 (k:Bs):(u8s (pad 8 k)).take 8=u8s (pad 8 k):=List.take_of_length_le (by simp[u8s_len,pad_len])
@[go_sem ↓,go_sem] theorem take_pad16 (k:Bs):(u8s (pad 16 k)).take 16=u8s (pad 16 k):=List.take_of_length_le (by simp[u8s_len,pad_len])
@[go_sem ↓,go_sem] theorem len_pad (n:Nat) (k:Bs):(u8s (pad n k)).length=n:=by simp[u8s_len,pad_len]
theorem u8s_get {b:Bs} {i:Nat} {x:UInt8} (h:b[i]? =some x):(u8s b)[i]? =some (.int .u8 x.toNat):=by simp[u8s,h]
@[go_sem ↓,go_sem] theorem entL_len (e:Bs×Bs):(entL e).length=26:=by simp[entL,keyL_len,valL_len]
@[go_sem ↓,go_sem] theorem take_ent_all (e:Bs×Bs):(entL e).take 26=entL e:=List.take_of_length_le (by rw[entL_len];omega)
@[go_sem ↓,go_sem] theorem msgL_len (m:Ms):(msgL m).length=29:=by simp[msgL,keyL_len,valL_len]
@[go_sem ↓,go_sem] theorem take_msg_all (e:Ms):(msgL e).take 29=msgL e:=List.take_of_length_le (by rw[msgL_len];omega)
end
theorem u8s_one (b:Bs):∀y∈u8s b,HV.one y=true:=by intro y hy;simp[u8s] at hy;obtain⟨a,_,rfl⟩:=hy;rfl
theorem keyL_one (b:Bs):∀y∈keyL b,HV.one y=true:=by intro y hy;simp only[keyL,List.mem_cons] at hy;rcases hy with rfl | hy;rfl;exact u8s_one _ y hy
theorem valL_one (b:Bs):∀y∈valL b,HV.one y=true:=by intro y hy;simp only[valL,List.mem_cons] at hy;rcases hy with rfl | hy;rfl;exact u8s_one _ y hy
theorem entL_one (e:Bs×Bs):∀y∈entL e,HV.one y=true:=by intro y hy;simp only[entL,List.mem_append] at hy;rcases hy with hy | hy;exact keyL_one _ y hy;exact valL_one _ y hy
theorem msgL_one (m:Ms):∀y∈msgL m,HV.one y=true:=by
  intro y hy
  simp only[msgL,List.mem_cons,List.mem_append,List.not_mem_nil,or_false] at hy
  rcases hy with rfl | rfl | hy | hy | rfl
  · rfl
  · rfl
  · exact keyL_one _ y hy
  · exact valL_one _ y hy
  · rfl
@[go_sem ↓,go_sem] theorem ones_u8s (b:Bs):ones (u8s b)=True:=eq_true ((ones_iff _).2 (u8s_one b))
@[go_sem ↓,go_sem] theorem ones_key (b:Bs):ones (keyL b)=True:=eq_true ((ones_iff _).2 (keyL_one b))
@[go_sem ↓,go_sem] theorem ones_val (b:Bs):ones (valL b)=True:=eq_true ((ones_iff _).2 (valL_one b))
@[go_sem ↓,go_sem] theorem ones_ent (b:Bs×Bs):ones (entL b)=True:=eq_true ((ones_iff _).2 (entL_one b))
@[go_sem ↓,go_sem] theorem ones_msg (b:Ms):ones (msgL b)=True:=eq_true ((ones_iff _).2 (msgL_one b))
@[go_sem ↓,go_sem] theorem msg_kind (m:Ms):(msgL m).take 1=[.int .i64 m.kind]:=_root_.id rfl
@[go_sem ↓,go_sem] theorem msg_seq (m:Ms):((msgL m).drop 1).take 1=[.int .u64 m.seq]:=_root_.id rfl
@[go_sem ↓,go_sem] theorem msg_key (m:Ms):((msgL m).drop 2).take 9=keyL m.key:=by
  have:(msgL m).drop 2=keyL m.key++(valL m.val++[HV.int .u64 m.by_]):=rfl
  rw[this,take_key]
theorem msg_drop11 (m:Ms):(msgL m).drop 11=valL m.val++[HV.int .u64 m.by_]:=by
  have:(msgL m).drop 11=(keyL m.key++(valL m.val++[HV.int .u64 m.by_])).drop 9:=rfl
  rw[this,drop_key]
@[go_sem ↓,go_sem] theorem msg_val (m:Ms):((msgL m).drop 11).take 17=valL m.val:=by rw[msg_drop11,take_val]
@[go_sem ↓,go_sem] theorem msg_by (m:Ms):((msgL m).drop 28).take 1=[HV.int .u64 m.by_]:=by
  have:(msgL m).drop 28=((msgL m).drop 11).drop 17:=by rw[List.drop_drop]
  rw[this,msg_drop11,drop_val];rfl
@[go_sem ↓,go_sem] theorem msg_keyn (m:Ms):((msgL m).drop 2).take 1=[.int .i64 m.key.length]:=_root_.id rfl
@[go_sem ↓,go_sem] theorem msg_valn (m:Ms):((msgL m).drop 11).take 1=[.int .i64 m.val.length]:=by rw[msg_drop11];rfl
@[go_sem ↓,go_sem] theorem ent_keyn (e:Bs×Bs):(entL e).take 1=[.int .i64 e.1.length]:=_root_.id rfl
@[go_sem ↓,go_sem] theorem ent_valn (e:Bs×Bs):((entL e).drop 9).take 1=[.int .i64 e.2.length]:=by rw[entL,drop_key];rfl
@[go_sem ↓,go_sem] theorem ent_key (e:Bs×Bs):(entL e).take 9=keyL e.1:=take_key _ _
@[go_sem ↓,go_sem] theorem ent_val (e:Bs×Bs):((entL e).drop 9).take 17=valL e.2:=by rw[entL,drop_key,take_val_all]
/-- The nodes' slots that name no piece. -/
theorem keyL_sc (n:Nat) (k:Bs):∀x∈keyL k,Scoped n x:=by intro x hx;simp[keyL,u8s] at hx;rcases hx with rfl | ⟨a,_,rfl⟩<;>exact .int _ _
theorem valL_sc (n:Nat) (k:Bs):∀x∈valL k,Scoped n x:=by intro x hx;simp[valL,u8s] at hx;rcases hx with rfl | ⟨a,_,rfl⟩<;>exact .int _ _
end Go.Mo
namespace Go.Eng
open Go
variable [Toks]
theorem bytesRows_len (l:List UInt8):(bytesRows l).length=l.length:=by simp[bytesRows]
theorem bytesRows_one (l:List UInt8):∀r∈bytesRows l,r.length=1:=by intro r hr;simp[bytesRows] at hr;obtain⟨b,_,rfl⟩:=hr;rfl
@[go_sem ↓,go_sem] theorem bytesRows_ok (l:List UInt8):(∀r∈bytesRows l,r.length=1)=True:=eq_true (bytesRows_one l)
@[go_sem ↓,go_sem] theorem bytesOf_rows (l:List UInt8):bytesOf (bytesRows l)=some l:=by
  induction l with
  | nil=>rfl
  | cons a l ih=>
    have:bytesRows (a::l)=[HV.int .u8 a.toNat]::bytesRows l:=rfl
    rw[this]
    simp[bytesOf,ih]
end Go.Eng
namespace Go.Eng
open Go
variable [Toks]
attribute [go_sem] List.length_replicate
/-- Nothing stands behind a variable that is all zero. -/
@[go_sem ↓,go_sem] theorem zeroE:List.drop 25 (List.replicate 8 (HV.int .u8 0)++[HV.int .i64 0]++List.replicate 16 (HV.int .u8 0))=[]:=_root_.id rfl
@[go_sem ↓,go_sem] theorem zeroM:List.drop 26 (List.replicate 8 (HV.int .u8 0)++[HV.int .i64 0]++List.replicate 16 (HV.int .u8 0)++[HV.int .u64 0])=[]:=_root_.id rfl
/-- x holds the rows N,each of s slots. -/
def From_ (PS:PL) (s:Nat) (x:HV) (N:List (List HV)):Prop:=∀K,hsrc PS s x K=K N
/-- One new piece,that nobody else names. -/
def Fresh (PS:PL) (s:Nat) (N:List (List HV)) (r:HV) (PS':PL):Prop:=∃ver,r=.sl PS.length ver 0 N.length none∧PS'=PS++[.arr ver s N true]
theorem From_.app {PS:PL} {s:Nat} {y:HV} {N:List (List HV)} (h:From_ PS s y N) (x:HV) (A B:Prop) (L:HV→PL→Prop) (b:Nat) (z:List HV):happY PS x A B L s b z y=(A∧happ2 PS s b x N L):=by
  have main:(A∧hsrc PS s y fun N=>happ2 PS s b x N L)=(A∧happ2 PS s b x N L):=by rw[h]
  cases y
  case int k n=>
    exfalso
    have:=h fun _=>True
    simp[hsrc,hrows] at this
  all_goals exact main
theorem From_.imm {PS:PL} {s:Nat} {t:Bool} {N:List (List HV)} (h:∀r∈N,r.length=s):From_ PS s (.imm t N) N:=by
  intro K;simp only[hsrc,hrows,eq_iff_iff];exact⟨fun h=>by first | exact h.2 | exact h,fun k=>by first | exact⟨h,k⟩ | exact k⟩
theorem From_.bytes {PS:PL} {t:Bool} (b:List UInt8):From_ PS 1 (.imm t (bytesRows b)) (bytesRows b):=From_.imm (by intro r hr;simp[bytesRows] at hr;obtain⟨a,_,rfl⟩:=hr;rfl)
end Go.Eng
namespace Go.Mo
open Go Go.Eng
variable [Toks]
/-! Numbers as bytes. -/
def putLE (n:Nat):Nat→Bs
  | 0=>[]
  | w+1=>UInt8.ofNat n::putLE (n / 256) w
theorem putLE_len (n w:Nat):(putLE n w).length=w:=by induction w generalizing n with | zero=>rfl | succ w ih=>simp[putLE,ih]
theorem putLE_succ (n w:Nat):putLE n (w+1)=putLE n w++[UInt8.ofNat (n / 256 ^ w)]:=by
  induction w generalizing n with
  | zero=>simp[putLE]
  | succ w ih=>rw[putLE,ih,putLE,List.cons_append,Nat.div_div_eq_div_mul,Nat.pow_succ,Nat.mul_comm 256]
theorem bytesRows_app (a b:Bs):bytesRows (a++b)=bytesRows a++bytesRows b:=by simp[bytesRows]
theorem u8_of_nat (n:Nat):((UInt8.ofNat n).toNat:Int)=IntKind.u8.wrap n:=by
  show _=(n:Int) % 256
  simp
end Go.Mo
namespace Go.Proofs.YtajjhaidpagflaaGreat
open Go Go.Eng Go.Mo
variable [Toks]
set_option maxRecDepth 20000
attribute [local irreducible] hvc hops hop hplan hdrawP hval1 hopD HLoop
/-! Numbers as bytes. -/
theorem bits_may (w:Int):Pure Tryz.prog 241 [.int .i64 w] (.bool (decide (1≤w∧w≤8))):=by
  intro PS
  refine enter_241 (by unfold Tryz.f241;exact rfl) ?_
  by_cases h1:1≤w
  · simp only[go_sem,seval, -List.reduceReplicate,h1]
  · simp only[go_sem,seval, -List.reduceReplicate,h1]
theorem hbits_and64 (a b:Nat) (ha:a<18446744073709551616) (hb:b<18446744073709551616):hbits .and .u64 a b=((a&&& b:Nat):Int):=by
  have:=Nat.and_le_left (n:=a) (m:=b)
  have e:(BitVec.ofInt 64 (a:Int)&&& BitVec.ofInt 64 (b:Int)).toNat=a&&& b:=by
    rw[BitVec.ofInt_natCast,BitVec.ofInt_natCast,BitVec.toNat_and,BitVec.toNat_ofNat,BitVec.toNat_ofNat,Nat.mod_eq_of_lt (by omega),Nat.mod_eq_of_lt (by omega)]
  show (((BitVec.ofInt 64 (a:Int)&&& BitVec.ofInt 64 (b:Int)).toNat:Nat):Int) % 18446744073709551616=_
  rw[e]
  omega
theorem and255 (a:Nat) (ha:a<18446744073709551616):hbits .and .u64 a 255=((a % 256:Nat):Int):=by
  have:=hbits_and64 a 255 ha (by omega)
  rw[show ((255:Nat):Int)=255 from rfl] at this
  rw[this,show (255:Nat)=2 ^ 8 - 1 from rfl,Nat.and_two_pow_sub_one_eq_mod]
theorem wrap8_mod (n:Nat):IntKind.u8.wrap ((n % 256:Nat):Int)=IntKind.u8.wrap n:=by
  show ((n % 256:Nat):Int) % 256=(n:Int) % 256
  omega
theorem ediv_256 (n:Nat):((n / 256:Nat):Int)=(n:Int).fdiv (2 ^ min 8 64):=by
  rw[show min 8 64=8 from rfl,show (2:Int) ^ 8=256 from rfl,Int.fdiv_eq_ediv_of_nonneg _ (by omega)];simp
theorem bits_put (PS:PL) (x:HV) (b:Bs) (n w:Nat) (hx:From_ PS 1 x (bytesRows b)) (hb:b.length≤1000) (hn:n<18446744073709551616) (h1:1≤w) (h2:w≤8):
    HCall Tryz.prog 202 [x,.int .u64 n,.int .i64 w] PS fun r PS'=>Fresh PS 1 (bytesRows (b++putLE n w)) r PS':=by
  refine enter_202 (by unfold Tryz.f202;exact rfl) ?_
  have hx':=hx.app
  simp only[go_sem,seval, -List.reduceReplicate,bytesRows_len,hx']
  refine⟨?_,?_,pend_intro ((bits_may w).call ?_)⟩
  · simp
  · omega
  have hm:decide (1≤(w:Int)∧(w:Int)≤8)=true:=decide_eq_true (by omega)
  rw[hm]
  simp only[go_sem,seval, -List.reduceReplicate]
  refine pend_intro (loop_rule (α:=Nat×Nat) [false,false,false,false,false,false,false,false,false,false,false,false,false,false,false,false,true,true,true,true,true,true,true,true,true] (fun a=>[(15,.int .i64 a.1),(7,.sl PS.length a.2 0 (b.length+a.1) none),(1,.int .u64 ((n / 256 ^ a.1:Nat):Int))]) (fun a=>w - a.1) (fun a PS'=>a.1≤w∧PS'=PS++[.arr a.2 1 (bytesRows (b++putLE n a.1)) true]) (0,0) ⟨Nat.zero_le _,by simp[putLE]⟩ ?_ ?_)
  · simp only[go_sem,seval, -List.reduceReplicate,Int.natCast_zero]
    simp[bytesRows_len]
  · intro a PS' h
    have hi:=h.1
    have he:=h.2
    obtain⟨i,ver⟩:=a
    subst he
    clear h
    simp only at hi
    have hl:(bytesRows (b++putLE n i)).length=b.length+i:=by simp[bytesRows_len,putLE_len]
    by_cases hlt:i<w
    · simp only[go_sem,seval, -List.reduceReplicate,getP_last,set_last,hlt]
      refine⟨by simp,.inl ⟨hl.symm,by omega,by omega,(i+1,ver+1),?_⟩⟩
      simp only
      have e:(n / 256 ^ (i+1):Nat)=n / 256 ^ i / 256:=by rw[Nat.div_div_eq_div_mul,Nat.pow_succ]
      refine⟨by omega,⟨by omega,?_⟩,?_,rfl,by simp⟩
      · congr 3
        rw[putLE_succ,←List.append_assoc,bytesRows_app _ [_]]
        simp only[bytesRows,List.map_cons,List.map_nil,u8_of_nat]
      · rw[e,ediv_256]
    · simp only[go_sem,seval, -List.reduceReplicate,getP_last,set_last,hlt]
      have:i=w:=by omega
      subst this
      exact⟨ver,by rw[hl],rfl⟩
theorem ref_put (PS:PL) (x:HV) (b:Bs) (n w:Nat) (hx:From_ PS 1 x (bytesRows b)) (hb:b.length≤1000) (hn:n<18446744073709551616) (h1:1≤w) (h2:w≤8):
    HCall Tryz.prog 113 [x,.int .u64 n,.int .i64 w] PS fun r PS'=>Fresh PS 1 (bytesRows (b++putLE n w)) r PS':=by
  refine enter_113 (by unfold Tryz.f113;exact rfl) ?_
  have hx':=hx.app
  have e1:¬(w:Int)<1:=by omega
  have e2:¬8<(w:Int):=by omega
  simp only[go_sem,seval, -List.reduceReplicate,bytesRows_len,e1,e2,hx']
  refine⟨?_,?_⟩
  · simp
  refine⟨by omega,?_⟩
  refine pend_intro (loop_rule (α:=Nat×Nat) [false,false,false,false,false,false,false,false,false,false,false,false,false,false,false,false,false,false,false,true,true,true,true,true,true,true,true,true,true,true,true,true] (fun a=>[(8,.int .i64 a.1),(7,.sl PS.length a.2 0 (b.length+a.1) none),(1,.int .u64 ((n / 256 ^ a.1:Nat):Int))]) (fun a=>w - a.1) (fun a PS'=>a.1≤w∧PS'=PS++[.arr a.2 1 (bytesRows (b++putLE n a.1)) true]) (0,0) ⟨Nat.zero_le _,by simp[putLE]⟩ ?_ ?_)
  · simp only[go_sem,seval, -List.reduceReplicate,Int.natCast_zero]
    simp[bytesRows_len]
  · intro a PS' h
    have hi:=h.1
    have he:=h.2
    obtain⟨i,ver⟩:=a
    subst he
    clear h
    simp only at hi
    have hl:(bytesRows (b++putLE n i)).length=b.length+i:=by simp[bytesRows_len,putLE_len]
    by_cases hlt:i<w
    · simp only[go_sem,seval, -List.reduceReplicate,getP_last,set_last,hlt]
      refine⟨by simp,.inl ⟨hl.symm,by omega,by omega,(i+1,ver+1),?_⟩⟩
      simp only
      have e:(n / 256 ^ (i+1):Nat)=n / 256 ^ i / 256:=by rw[Nat.div_div_eq_div_mul,Nat.pow_succ]
      refine⟨by omega,⟨by omega,?_⟩,?_,rfl,by simp⟩
      · congr 3
        rw[putLE_succ,←List.append_assoc,bytesRows_app _ [_]]
        have hq:n / 256 ^ i<18446744073709551616:=Nat.lt_of_le_of_lt (Nat.div_le_self _ _) hn
        simp only[bytesRows,List.map_cons,List.map_nil,u8_of_nat,and255 _ hq,wrap8_mod]
      · rw[e,ediv_256]
    · simp only[go_sem,seval, -List.reduceReplicate,getP_last,set_last,hlt]
      have:i=w:=by omega
      subst this
      exact⟨ver,by rw[hl],rfl⟩
end Go.Proofs.YtajjhaidpagflaaGreat
namespace Go.Mo
open Go Go.Eng
variable [Toks]
abbrev cmpB:Bs→Bs→Int:=Lib.compareBytes
theorem pad_hi {n:Nat} {k:Bs} {i:Nat} (h:k.length≤i) (hi:i<n):(pad n k)[i]? =some 0:=by
  rw[pad_eq (by omega),List.getElem?_append_right h,List.getElem?_replicate];simp;omega
theorem pad_lo {n:Nat} {k:Bs} {i:Nat} (h:i<k.length) (hn:k.length≤n):(pad n k)[i]? =some k[i]:=by
  rw[pad_eq hn,List.getElem?_append_left h];simp[h]
theorem take_u8s {n:Nat} {k:Bs} (h:k.length≤n):(u8s (pad n k)).take k.length=u8s k:=by
  rw[pad_eq h];simp only[u8s,List.map_append];rw[List.take_append_of_le_length (by simp),List.take_of_length_le (by simp)]
theorem pad_full {n:Nat} {k:Bs} (h:k.length≤n):u8s k++List.replicate (n - k.length) (HV.int .u8 0)=u8s (pad n k):=by
  rw[pad_eq h];simp[u8s]
theorem key_cell {k:Bs} {i:Nat} {x:UInt8} (h:(pad 8 k)[i]? =some x):List.take 1 (List.drop (1+i) (keyL k))=[.int .u8 x.toNat]:=by
  have hi:=(List.getElem?_eq_some_iff.1 h).1
  have e:List.drop (1+i) (keyL k)=(u8s (pad 8 k)).drop i:=by rw[←List.drop_drop];rfl
  rw[e,List.take_one,List.head?_drop,u8s_get h];rfl
theorem val_cell {k:Bs} {i:Nat} {x:UInt8} (h:(pad 16 k)[i]? =some x):List.take 1 (List.drop (1+i) (valL k))=[.int .u8 x.toNat]:=by
  have e:List.drop (1+i) (valL k)=(u8s (pad 16 k)).drop i:=by rw[←List.drop_drop];rfl
  rw[e,List.take_one,List.head?_drop,u8s_get h];rfl
/-- A key,a value,in the making:the length,some bytes. -/
def keyH (n:Nat) (k:Bs):List HV:=.int .i64 n::u8s (pad 8 k)
def valH (n:Nat) (k:Bs):List HV:=.int .i64 n::u8s (pad 16 k)
@[go_sem ↓,go_sem] theorem keyH_len (n:Nat) (k:Bs):(keyH n k).length=9:=by simp[keyH,len_pad]
@[go_sem ↓,go_sem] theorem valH_len (n:Nat) (k:Bs):(valH n k).length=17:=by simp[valH,len_pad]
@[go_sem ↓,go_sem] theorem keyH_one (n:Nat) (k:Bs):ones (keyH n k)=True:=by simp[keyH,ones,HV.one,ones_u8s]
@[go_sem ↓,go_sem] theorem valH_one (n:Nat) (k:Bs):ones (valH n k)=True:=by simp[valH,ones,HV.one,ones_u8s]
@[go_sem ↓,go_sem] theorem keyH_all (n:Nat) (k:Bs):(keyH n k).take 9=keyH n k:=List.take_of_length_le (by rw[keyH_len];omega)
@[go_sem ↓,go_sem] theorem valH_all (n:Nat) (k:Bs):(valH n k).take 17=valH n k:=List.take_of_length_le (by rw[valH_len];omega)
@[go_sem ↓,go_sem] theorem keyH_drop (n:Nat) (k:Bs):(keyH n k).drop 9=[]:=List.drop_of_length_le (by rw[keyH_len];omega)
@[go_sem ↓,go_sem] theorem valH_drop (n:Nat) (k:Bs):(valH n k).drop 17=[]:=List.drop_of_length_le (by rw[valH_len];omega)
@[go_sem ↓,go_sem] theorem valL_drop (k:Bs):(valL k).drop 17=[]:=List.drop_of_length_le (by rw[valL_len];omega)
theorem splice_at {α:Type} (A R:List α) (z x:α):hsplice A.length [x] (A++z::R)=A++x::R:=by simp[hsplice]
theorem pad_set {m:Nat} {s:Bs} {i:Nat} (hi:i<s.length) (hm:s.length≤m):hsplice i [HV.int .u8 s[i].toNat] (u8s (pad m (s.take i)))=u8s (pad m (s.take (i+1))):=by
  have l1:(s.take i).length=i:=by simp;omega
  have l2:(s.take (i+1)).length=i+1:=by simp;omega
  rw[pad_eq (by omega),pad_eq (by omega),l1,l2]
  obtain⟨q,hq⟩:∃q,m - i=q+1:=⟨m - i - 1,by omega⟩
  have hq':m - (i+1)=q:=by omega
  rw[hq,hq',List.replicate_succ,List.take_succ_eq_append_getElem hi]
  have:=splice_at (u8s (s.take i)) (u8s (List.replicate q 0)) (.int .u8 0) (.int .u8 s[i].toNat)
  rw[u8s_len,l1] at this
  simp only[u8s,List.map_append,List.map_cons,List.map_nil,List.append_assoc,List.cons_append,List.nil_append] at this ⊢
  exact this
theorem keyH_set {n:Nat} {s:Bs} {i:Nat} (hi:i<s.length) (hm:s.length≤8):hsplice (1+i) [HV.int .u8 s[i].toNat] (keyH n (s.take i))=keyH n (s.take (i+1)):=by
  rw[keyH,keyH,←pad_set hi hm,Nat.add_comm];simp[hsplice,Nat.add_right_comm]
theorem valH_set {n:Nat} {s:Bs} {i:Nat} (hi:i<s.length) (hm:s.length≤16):hsplice (1+i) [HV.int .u8 s[i].toNat] (valH n (s.take i))=valH n (s.take (i+1)):=by
  rw[valH,valH,←pad_set hi hm,Nat.add_comm];simp[hsplice,Nat.add_right_comm]
theorem flat1 (l:List HV):(l.map fun y=>[y]).flatten=l:=by induction l with | nil=>rfl | cons a l ih=>simp[ih]
end Go.Mo
namespace Go.Proofs.YtajjhaidpagflaaGreat
open Go Go.Eng Go.Mo
variable [Toks]
set_option maxRecDepth 20000
attribute [local irreducible] hvc hops hop hplan hdrawP hval1 hopD HLoop
theorem rkey_check (k:Bs) (hk:okK k):Pure Tryz.prog 223 [.agg (keyL k)] (.bool true):=by
  refine Pure.of_ext (.bool _) fun PS=>?_
  refine enter_223 (by unfold Tryz.f223;exact rfl) ?_
  have hk':k.length≤8:=hk
  have e1:¬(k.length:Int)<0:=by omega
  have e2:¬(8:Int)<(k.length:Int):=by omega
  simp only[go_sem,seval, -List.reduceReplicate,e1,e2]
  refine pend_intro (loop_rule (α:=Nat) [false,false,true,false,false,false,false,false,false,false,false,false,false,false,true,true,true,true,true,true,true,true,true] (fun i=>[(3,.int .i64 i)]) (fun i=>8 - i) (fun i PS'=>k.length≤i∧i≤8∧PS'=PS++[.arr 0 9 [keyL k] false]) k.length ⟨Nat.le_refl _,hk',rfl⟩ ?_ ?_)
  · simp only[go_sem,seval, -List.reduceReplicate]
  · intro i PS' h
    obtain⟨h1,h2,he⟩:=h
    subst he
    by_cases hlt:(i:Int)<8
    · have hg:=key_cell (pad_hi h1 (by omega))
      simp only[go_sem,seval, -List.reduceReplicate,hlt,getP_last,hg,UInt8.toNat_zero]
      exact⟨by omega,by omega,i+1,by omega,by omega,by simp⟩
    · simp only[go_sem,seval, -List.reduceReplicate,hlt,getP_last]
      exact Ext.app _ _
theorem rkey_cmp (a b:Bs) (ha:okK a) (hb:okK b):Pure Tryz.prog 69 [.agg (keyL a),.agg (keyL b)] (.int .i64 (cmpB a b)):=by
  refine Pure.of_ext (.int _ _) fun PS=>?_
  refine enter_69 (by unfold Tryz.f69;exact rfl) ?_
  have ha':a.length≤8:=ha
  have hb':b.length≤8:=hb
  simp only[go_sem,seval, -List.reduceReplicate]
  refine pend_intro (loop_rule (α:=Nat) [false,false,false,false,true,false,true,true,true,true,true,true,true,true,true,true,true,true,true,true,true,true,true,true,true,true,true,true,true,true,true,true,true,true,true,true,true,true,true,true,true,true,true,true,true,true,true,true,true,true,true] (fun i=>[(5,.int .i64 i)]) (fun i=>8 - i) (fun i PS'=>(i≤a.length∧i≤b.length∧cmpB a b=cmpB (a.drop i) (b.drop i))∧PS'=PS++[.arr 0 9 [keyL a] false,.arr 0 9 [keyL b] false]) 0 ⟨⟨by omega,by omega,rfl⟩,rfl⟩ ?_ ?_)
  · simp only[go_sem,seval, -List.reduceReplicate,Int.natCast_zero]
  · intro i PS' h
    obtain⟨⟨h1,h2,h3⟩,he⟩:=h
    subst he
    by_cases hlt:(i:Int)<8
    · by_cases hia:i<a.length
      · by_cases hib:i<b.length
        · have ga:=key_cell (pad_lo hia ha')
          have gb:=key_cell (pad_lo hib hb')
          have ca:¬(a.length:Int)≤i:=by omega
          have cb:¬(b.length:Int)≤i:=by omega
          rw[List.drop_eq_getElem_cons hia,List.drop_eq_getElem_cons hib] at h3
          simp only[go_sem,seval, -List.reduceReplicate,hlt,getP_last,ga,gb,ca,cb]
          refine⟨by omega,by omega,?_⟩
          split
          · rename_i hx
            rw[h3]
            exact⟨by simp[cmpB,Lib.compareBytes,UInt8.lt_iff_toNat_lt,hx],Ext.app _ _⟩
          · rename_i hx
            refine⟨by omega,by omega,?_⟩
            split
            · rename_i hy
              rw[h3]
              exact⟨by simp[cmpB,Lib.compareBytes,UInt8.lt_iff_toNat_lt,hx,hy],Ext.app _ _⟩
            · rename_i hy
              refine⟨by omega,i+1,by omega,⟨by omega,by omega,?_⟩,by simp⟩
              rw[h3]
              simp[cmpB,Lib.compareBytes,UInt8.lt_iff_toNat_lt,hx,hy]
        · have eb:b.drop i=[]:=by rw[List.drop_eq_nil_iff];omega
          have ca:¬(a.length:Int)≤i:=by omega
          have cb:(b.length:Int)≤i:=by omega
          rw[List.drop_eq_getElem_cons hia,eb] at h3
          simp only[go_sem,seval, -List.reduceReplicate,hlt,getP_last,ca,cb]
          rw[h3]
          exact⟨rfl,Ext.app _ _⟩
      · have ea:a.drop i=[]:=by rw[List.drop_eq_nil_iff];omega
        have ca:(a.length:Int)≤i:=by omega
        by_cases hib:i<b.length
        · have cb:¬(b.length:Int)≤i:=by omega
          rw[List.drop_eq_getElem_cons hib,ea] at h3
          simp only[go_sem,seval, -List.reduceReplicate,hlt,getP_last,ca,cb]
          rw[h3]
          exact⟨rfl,Ext.app _ _⟩
        · have cb:(b.length:Int)≤i:=by omega
          have eb:b.drop i=[]:=by rw[List.drop_eq_nil_iff];omega
          rw[ea,eb] at h3
          simp only[go_sem,seval, -List.reduceReplicate,hlt,getP_last,ca,cb]
          rw[h3]
          exact⟨rfl,Ext.app _ _⟩
    · have ea:a.drop i=[]:=by rw[List.drop_eq_nil_iff];omega
      have eb:b.drop i=[]:=by rw[List.drop_eq_nil_iff];omega
      rw[ea,eb] at h3
      simp only[go_sem,seval, -List.reduceReplicate,hlt,getP_last]
      rw[h3]
      exact⟨rfl,Ext.app _ _⟩
theorem keyL_scoped (n:Nat) (k:Bs):Scoped n (.agg (keyL k)):=.agg _ fun i x hx=>keyL_sc n k x (List.mem_of_getElem? hx)
theorem valL_scoped (n:Nat) (k:Bs):Scoped n (.agg (valL k)):=.agg _ fun i x hx=>valL_sc n k x (List.mem_of_getElem? hx)
theorem tup2_scoped {n:Nat} {a b:HV} (ha:Scoped n a) (hb:Scoped n b):Scoped n (.tup [a,b]):=.tup _ fun i x hx=>by
  match i,hx with
  | 0,hx=>simp at hx;exact hx▸ha
  | 1,hx=>simp at hx;exact hx▸hb
theorem rkey_of (s:Bs) (h:s.length≤8):Pure Tryz.prog 23 [.str s] (.tup [.agg (keyL s),.int .i64 0]):=by
  refine Pure.of_ext (tup2_scoped (keyL_scoped _ _) (.int _ _)) fun PS=>?_
  refine enter_23 (by unfold Tryz.f23;exact rfl) ?_
  have e2:¬(8:Int)<(s.length:Int):=by omega
  simp only[go_sem,seval, -List.reduceReplicate,e2,List.length_replicate]
  refine⟨by simp[ones_iff,HV.one],pend_intro (loop_rule (α:=Nat) [false,false,false,false,false,false,false,false,false,false,false,false,false,false,true,true,true,true,true,true,true,true,true,true,true,true] (fun i=>[(5,.int .i64 i)]) (fun i=>s.length - i) (fun i PS'=>i≤s.length∧PS'=PS++[.arr 0 9 [keyH 0 []] false,.arr 0 9 [keyH s.length (s.take i)] false]) 0 ⟨by omega,by simp[keyH,pad,u8s]⟩ ?_ ?_)⟩
  · simp only[go_sem,seval, -List.reduceReplicate,Int.natCast_zero]
  · intro i PS' hh
    obtain⟨h1,he⟩:=hh
    subst he
    by_cases hlt:i<s.length
    · have hg:s[i]? =some s[i]:=by simp[hlt]
      have hi:(i:Int)<8:=by omega
      simp only[go_sem,seval, -List.reduceReplicate,hlt,getP_last,set_last,hg,hi,keyH_set hlt h]
      exact⟨by omega,by omega,i+1,by omega,⟨by omega,rfl⟩,by simp⟩
    · simp only[go_sem,seval, -List.reduceReplicate,hlt,getP_last]
      rw[List.take_of_length_le (by omega)]
      exact⟨rfl,Ext.app _ _⟩
theorem rval_of (s:Bs) (h:s.length≤16):Pure Tryz.prog 174 [.str s] (.tup [.agg (valL s),.int .i64 0]):=by
  refine Pure.of_ext (tup2_scoped (valL_scoped _ _) (.int _ _)) fun PS=>?_
  refine enter_174 (by unfold Tryz.f174;exact rfl) ?_
  have e2:¬(16:Int)<(s.length:Int):=by omega
  simp only[go_sem,seval, -List.reduceReplicate,e2,List.length_replicate]
  refine⟨by simp[ones_iff,HV.one],pend_intro (loop_rule (α:=Nat) [false,false,false,false,false,false,false,false,false,false,false,false,false,false,true,true,true,true,true,true,true,true,true,true,true,true] (fun i=>[(5,.int .i64 i)]) (fun i=>s.length - i) (fun i PS'=>i≤s.length∧PS'=PS++[.arr 0 17 [valH 0 []] false,.arr 0 17 [valH s.length (s.take i)] false]) 0 ⟨by omega,by simp[valH,pad,u8s]⟩ ?_ ?_)⟩
  · simp only[go_sem,seval, -List.reduceReplicate,Int.natCast_zero]
  · intro i PS' hh
    obtain⟨h1,he⟩:=hh
    subst he
    by_cases hlt:i<s.length
    · have hg:s[i]? =some s[i]:=by simp[hlt]
      have hi:(i:Int)<16:=by omega
      simp only[go_sem,seval, -List.reduceReplicate,hlt,getP_last,set_last,hg,hi,valH_set hlt h]
      exact⟨by omega,by omega,i+1,by omega,⟨by omega,rfl⟩,by simp⟩
    · simp only[go_sem,seval, -List.reduceReplicate,hlt,getP_last]
      rw[List.take_of_length_le (by omega)]
      exact⟨rfl,Ext.app _ _⟩
end Go.Proofs.YtajjhaidpagflaaGreat
namespace Go.Mo
open Go Go.Eng
variable [Toks]
inductive SameK:List HV→List HV→Prop where
  | nil:SameK [] []
  | cons (k:IntKind) (u v:Int) {a b:List HV} (h:SameK a b):SameK (.int k u::a) (.int k v::b)
theorem SameK.u8s {a b:Bs} (h:a.length=b.length):SameK (u8s a) (u8s b):=by
  induction a generalizing b with
  | nil=>cases b with | nil=>exact .nil | cons y b=>simp at h
  | cons x a ih=>
    cases b with
    | nil=>simp at h
    | cons y b=>exact .cons _ _ _ (ih (by simpa using h))
theorem SameK.cells {a b:List HV} (h:SameK a b) (off:Nat) (A B:List HV) (hA:A.length=off) (hB:B.length=off):
    hfitAll ((List.range a.length).map fun i=>(off+i,1)) (A++a) (B++b)∧(hcmp ((List.range a.length).map fun i=>(off+i,1)) (A++a) (B++b)=true↔a=b):=by
  induction h generalizing off A B with
  | nil=>simp[hfitAll,hcmp]
  | cons k u v h ih=>
    rename_i a b
    have:=ih (off+1) (A++[.int k u]) (B++[.int k v]) (by simp[hA]) (by simp[hB])
    rw[List.append_assoc,List.append_assoc] at this
    simp only[List.cons_append,List.nil_append] at this
    have e:(List.range (List.length (HV.int k u::a))).map (fun i=>(off+i,1))=(off,1)::(List.range a.length).map fun i=>(off+1+i,1):=by
      rw[List.length_cons,List.range_succ_eq_map,List.map_cons,List.map_map]
      simp only[Nat.add_zero,List.cons.injEq,true_and]
      refine List.map_congr_left fun i _=>?_
      simp[Nat.add_comm,Nat.add_left_comm]
    rw[e]
    have ga:Go.Eng.get (A++HV.int k u::a) off=.int k u:=by simp[Go.Eng.get,←hA]
    have gb:Go.Eng.get (B++HV.int k v::b) off=.int k v:=by simp[Go.Eng.get,←hB]
    constructor
    · intro p hp
      rcases List.mem_cons.1 hp with rfl | hp
      · simp only[ga,gb,hfits]
      · exact this.1 p hp
    · unfold hcmp at this ⊢
      rw[List.all_cons,Bool.and_eq_true,this.2]
      simp only[ga,gb]
      simp[heqv]
theorem SameK.eq {a b:List HV} (h:SameK a b) {ps:Cells} (hp:ps=(List.range a.length).map fun i=>(i,1)):hfitAll ps a b∧(hcmp ps a b=true↔a=b):=by
  subst hp
  simpa using h.cells 0 [] [] rfl rfl
theorem SameK.key (a b:Bs):SameK (keyL a) (keyL b):=.cons _ _ _ (.u8s (by rw[pad_len,pad_len]))
theorem SameK.val (a b:Bs):SameK (valL a) (valL b):=.cons _ _ _ (.u8s (by rw[pad_len,pad_len]))
theorem keyL_inj {a b:Bs} (ha:okK a) (h:keyL a=keyL b):a=b:=by
  simp only[keyL,List.cons.injEq,HV.int.injEq,true_and] at h
  exact pad_inj (n:=8) ha (by omega) (u8s_inj h.2)
theorem valL_inj {a b:Bs} (ha:okV a) (h:valL a=valL b):a=b:=by
  simp only[valL,List.cons.injEq,HV.int.injEq,true_and] at h
  exact pad_inj (n:=16) ha (by omega) (u8s_inj h.2)
@[go_sem ↓,go_sem] theorem hfit_key (a b:Bs):hfitAll [(0,1),(1,1),(2,1),(3,1),(4,1),(5,1),(6,1),(7,1),(8,1)] (keyL a) (keyL b)=True:=eq_true ((SameK.key a b).eq (by rw[keyL_len];rfl)).1
theorem hcmp_key {a b:Bs} (ha:okK a):hcmp [(0,1),(1,1),(2,1),(3,1),(4,1),(5,1),(6,1),(7,1),(8,1)] (keyL a) (keyL b)=decide (a=b):=by
  have:=((SameK.key a b).eq (ps:=[(0,1),(1,1),(2,1),(3,1),(4,1),(5,1),(6,1),(7,1),(8,1)]) (by rw[keyL_len];rfl)).2
  by_cases h:a=b
  · rw[decide_eq_true h,this,h]
  · rw[decide_eq_false h,Bool.eq_false_iff,ne_eq,this]
    exact fun hh=>h (keyL_inj ha hh)
@[go_sem ↓,go_sem] theorem hfit_val (a b:Bs):hfitAll [(0,1),(1,1),(2,1),(3,1),(4,1),(5,1),(6,1),(7,1),(8,1),(9,1),(10,1),(11,1),(12,1),(13,1),(14,1),(15,1),(16,1)] (valL a) (valL b)=True:=eq_true ((SameK.val a b).eq (by rw[valL_len];rfl)).1
theorem hcmp_val {a b:Bs} (ha:okV a):hcmp [(0,1),(1,1),(2,1),(3,1),(4,1),(5,1),(6,1),(7,1),(8,1),(9,1),(10,1),(11,1),(12,1),(13,1),(14,1),(15,1),(16,1)] (valL a) (valL b)=decide (a=b):=by
  have:=((SameK.val a b).eq (ps:=[(0,1),(1,1),(2,1),(3,1),(4,1),(5,1),(6,1),(7,1),(8,1),(9,1),(10,1),(11,1),(12,1),(13,1),(14,1),(15,1),(16,1)]) (by rw[valL_len];rfl)).2
  by_cases h:a=b
  · rw[decide_eq_true h,this,h]
  · rw[decide_eq_false h,Bool.eq_false_iff,ne_eq,this]
    exact fun hh=>h (valL_inj ha hh)
end Go.Mo
namespace Go.Mo
open Go Go.Eng
variable [Toks]
/-- A proposition as a truth value. -/
noncomputable def tt (p:Prop):Bool:=@decide p (Classical.propDecidable p)
theorem tt_true {p:Prop} (h:p):tt p=true:=by simp[tt,h]
theorem tt_false {p:Prop} (h:¬p):tt p=false:=by simp[tt,h]
structure msgOk (m:Ms):Prop where
  lo:1≤m.kind
  hi:m.kind≤3
  val:m.kind≠1→m.val=[]
  by_:m.kind≠3→m.by_=0
noncomputable def msgBytes (m:Ms):Nat:=if tt (msgOk m) then (if m.kind=1 then 11+m.key.length+m.val.length else if m.kind=3 then 18+m.key.length else 10+m.key.length) else 0
def entBytes (e:Bs×Bs):Nat:=2+e.1.length+e.2.length
noncomputable def msgsBytes (l:List Ms):Nat:=(l.map msgBytes).sum
def entsBytes (l:List (Bs×Bs)):Nat:=(l.map entBytes).sum
/-- Rising. -/
def rising (l:List Bs):Prop:=∀(i:Nat) (a b:Bs),0<i→l[i - 1]? =some a→l[i]? =some b→cmpB a b<0
def msgsOk (l:List Ms):Prop:=(∀m∈l,msgOk m)∧rising (l.map Ms.key)
def entsOk (l:List (Bs×Bs)):Prop:=rising (l.map Prod.fst)
structure kidsOk (k:List Int) (p:List Bs):Prop where
  few:2≤k.length
  many:k.length≤4
  len:p.length+1=k.length
  is:∀(i:Nat) (x:Int),k[i]? =some x→1≤x∧x<256∧∀j:Nat,j<i→k[j]? ≠some x
  up:rising p
def nodOk (n:Nd):Prop:=if n.leaf then entsOk n.ents∧n.kids=[]∧n.pivs=[]∧n.msgs=[] else n.ents=[]∧kidsOk n.kids n.pivs∧msgsOk n.msgs
noncomputable def nodBytes (n:Nd):Nat:=if n.leaf then entsBytes n.ents else msgsBytes n.msgs
def nodFits (n:Nd):Prop:=nodOk n∧nodBytes n≤if n.leaf then 248 else 205
theorem msgBytes_le {m:Ms} (h:okM m):msgBytes m≤40:=by
  have h1:=h.key
  have h2:=h.val
  unfold okK at h1
  unfold okV at h2
  unfold msgBytes
  repeat' split
  all_goals omega
theorem sum_le {α:Type} (f:α→Nat) (c:Nat) (l:List α) (h:∀a∈l,f a≤c):(l.map f).sum≤c*l.length:=by
  induction l with
  | nil=>simp
  | cons a l ih=>
    have:=h a (List.mem_cons_self ..)
    have:=ih (fun b hb=>h b (List.mem_cons_of_mem _ hb))
    rw[List.map_cons,List.sum_cons,List.length_cons,Nat.mul_succ]
    omega
theorem take_sum {α:Type} (f:α→Nat) (l:List α) (i:Nat) (h:i<l.length):((l.take (i+1)).map f).sum=((l.take i).map f).sum+f l[i]:=by
  rw[List.take_succ_eq_append_getElem h,List.map_append,List.sum_append,List.map_cons,List.map_nil,List.sum_cons,List.sum_nil,Nat.add_zero]
end Go.Mo
namespace Go.Proofs.YtajjhaidpagflaaGreat
open Go Go.Eng Go.Mo
variable [Toks]
set_option maxRecDepth 20000
attribute [local irreducible] hvc hops hop hplan hdrawP hval1 hopD HLoop
theorem rval_check (k:Bs) (hk:okV k):Pure Tryz.prog 251 [.agg (valL k)] (.bool true):=by
  refine Pure.of_ext (.bool _) fun PS=>?_
  refine enter_251 (by unfold Tryz.f251;exact rfl) ?_
  have hk':k.length≤16:=hk
  have e1:¬(k.length:Int)<0:=by omega
  have e2:¬(16:Int)<(k.length:Int):=by omega
  simp only[go_sem,seval, -List.reduceReplicate,e1,e2]
  refine pend_intro (loop_rule (α:=Nat) [false,false,true,false,false,false,false,false,false,false,false,false,false,false,true,true,true,true,true,true,true,true,true] (fun i=>[(3,.int .i64 i)]) (fun i=>16 - i) (fun i PS'=>k.length≤i∧i≤16∧PS'=PS++[.arr 0 17 [valL k] false]) k.length ⟨Nat.le_refl _,hk',rfl⟩ ?_ ?_)
  · simp only[go_sem,seval, -List.reduceReplicate]
  · intro i PS' h
    obtain⟨h1,h2,he⟩:=h
    subst he
    by_cases hlt:(i:Int)<16
    · have hg:=val_cell (pad_hi h1 (by omega))
      simp only[go_sem,seval, -List.reduceReplicate,hlt,getP_last,hg,UInt8.toNat_zero]
      exact⟨by omega,by omega,i+1,by omega,by omega,by simp⟩
    · simp only[go_sem,seval, -List.reduceReplicate,hlt,getP_last]
      exact Ext.app _ _
theorem keyL_made {k:Bs} (hk:okK k):HV.int .i64 k.length::(u8s k++List.replicate (8 - k.length) (.int .u8 0))=keyL k:=by rw[pad_full hk];rfl
theorem key_check (k:Bs) (hk:okK k):Pure Tryz.prog 249 [.agg (keyL k)] (.bool true):=by
  refine Pure.of_ext (.bool _) fun PS=>?_
  refine enter_249 (by unfold Tryz.f249;exact rfl) ?_
  have hk':k.length≤8:=hk
  have e1:¬(k.length:Int)<0:=by omega
  have e2:¬(8:Int)<(k.length:Int):=by omega
  have e3:List.take k.length (List.map (fun y=>[y]) (u8s (pad 8 k)))=(u8s k).map fun y=>[y]:=by rw[←List.map_take,take_u8s hk']
  simp only[go_sem,seval, -List.reduceReplicate,e1,e2,List.length_replicate,e3,flat1,u8s_len,List.drop_replicate,List.replicate_zero,List.append_nil,keyL_made hk,hcmp_key hk]
  exact⟨by simp[ones_iff,HV.one],by omega,by omega,Ext.app _ _⟩
theorem bytesOf_u8s (b:Bs):bytesOf ((u8s b).map fun y=>[y])=some b:=by
  have:(u8s b).map (fun y=>[y])=bytesRows b:=by simp[u8s,bytesRows]
  rw[this];exact bytesOf_rows b
theorem key_text (k:Bs) (hk:okK k):Pure Tryz.prog 210 [.agg (keyL k)] (.str k):=by
  refine Pure.of_ext (.str _) fun PS=>?_
  refine enter_210 (by unfold Tryz.f210;exact rfl) ?_
  simp only[go_sem,seval, -List.reduceReplicate]
  refine pend_intro ((key_check k hk).call ?_)
  have hk':k.length≤8:=hk
  simp only[go_sem,seval, -List.reduceReplicate,take_u8s hk',bytesOf_u8s]
  exact⟨by omega,by omega,Ext.app _ _⟩
theorem key_cmp (a b:Bs) (ha:okK a) (hb:okK b):Pure Tryz.prog 157 [.agg (keyL a),.agg (keyL b)] (.int .i64 (cmpB a b)):=by
  refine Pure.of_ext (.int _ _) fun PS=>?_
  refine enter_157 (by unfold Tryz.f157;exact rfl) ?_
  simp only[go_sem,seval, -List.reduceReplicate]
  refine pend_intro ((key_text a ha).to ?_)
  simp only[go_sem,seval, -List.reduceReplicate]
  refine pend_intro ((key_text b hb).to ?_)
  simp only[go_sem,seval, -List.reduceReplicate]
  refine pend_intro ((strings_compare a b).to ?_)
  simp only[go_sem,seval, -List.reduceReplicate]
  exact Ext.app _ _
theorem value_of_part (PS:PL) (n ver c:Nat) (k:Bs) (hk:okV k) (h:getP PS n=.arr ver 17 [valL k] false):HCall Tryz.prog 250 [.isl n ver 0 1 k.length c] PS fun r PS'=>r=.agg (valL k)∧PS'=PS:=by
  refine HCall.data (valL_scoped _ _) ?_
  refine enter_250 (by unfold Tryz.f250;exact rfl) ?_
  have hk':k.length≤16:=hk
  have hx:∀l,getP (PS++l) n=.arr ver 17 [valL k] false:=fun l=>by rw[getP_app' l (getP_lt h),h]
  have e3:(u8s k).take 16=u8s k:=List.take_of_length_le (by simp[u8s_len,hk'])
  have e4:∀n m x,List.drop n (List.replicate m x:List HV)=List.replicate (m - n) x:=fun _ _ _=>List.drop_replicate
  simp only[go_sem,seval, -List.reduceReplicate,hx,List.length_replicate,take_u8s hk',←List.map_take,e3,flat1,u8s_len,e4,List.replicate_zero,List.append_nil,pad_full hk']
  intro _
  have:HV.int .i64 k.length::u8s (pad 16 k)=valL k:=_root_.id rfl
  rw[this]
  exact⟨by simp[ones_iff,HV.one],by omega,rfl,Ext.app _ _⟩
theorem val_check (k:Bs) (hk:okV k):Pure Tryz.prog 289 [.agg (valL k)] (.bool true):=by
  refine Pure.of_ext (.bool _) fun PS=>?_
  refine enter_289 (by unfold Tryz.f289;exact rfl) ?_
  have hk':k.length≤16:=hk
  have e1:(k.length:Int)≤16:=by omega
  simp only[go_sem,seval, -List.reduceReplicate,e1]
  have hr:Reads Tryz.prog 250 [.isl PS.length 0 0 1 k.length 16] (PS++[.arr 0 17 [valL k] false]) (.agg (valL k)):=fun PS' hp=>value_of_part PS' _ _ _ k hk (hp.arr (getP_last _ _))
  refine pend_intro (hr.to ?_)
  simp only[go_sem,seval, -List.reduceReplicate,hcmp_val hk]
  exact Ext.app _ _
end Go.Proofs.YtajjhaidpagflaaGreat
namespace Go.Proofs.YtajjhaidpagflaaGreat
open Go Go.Eng Go.Mo
variable [Toks]
set_option maxRecDepth 20000
attribute [local irreducible] hvc hops hop hplan hdrawP hval1 hopD HLoop
end Go.Proofs.YtajjhaidpagflaaGreat
namespace Go.Mo
open Go Go.Eng
variable [Toks]
theorem sc_u8s {k:Nat} (b:Bs):∀x∈u8s b,Scoped k x:=by
  intro x hx;obtain⟨y,_,rfl⟩:=List.mem_map.1 hx;exact .int _ _
theorem sc_key {k:Nat} (b:Bs):∀x∈keyL b,Scoped k x:=by
  intro x hx;rcases List.mem_cons.1 hx with rfl | hx
  · exact .int _ _
  · exact sc_u8s _ x hx
theorem sc_val {k:Nat} (b:Bs):∀x∈valL b,Scoped k x:=by
  intro x hx;rcases List.mem_cons.1 hx with rfl | hx
  · exact .int _ _
  · exact sc_u8s _ x hx
theorem sc_ent {k:Nat} (e:Bs×Bs):∀x∈entL e,Scoped k x:=by
  intro x hx;rcases List.mem_append.1 hx with hx | hx
  · exact sc_key _ x hx
  · exact sc_val _ x hx
theorem sc_msg {k:Nat} (m:Ms):∀x∈msgL m,Scoped k x:=by
  intro x hx
  rcases List.mem_cons.1 hx with rfl | hx
  · exact .int _ _
  rcases List.mem_cons.1 hx with rfl | hx
  · exact .int _ _
  rcases List.mem_append.1 hx with hx | hx
  · exact sc_key _ x hx
  rcases List.mem_append.1 hx with hx | hx
  · exact sc_val _ x hx
  · simp at hx;subst hx;exact .int _ _
theorem sc_rows {α:Type} {k:Nat} (t:Bool) (f:α→List HV) (l:List α) (h:∀a,∀x∈f a,Scoped k x):Scoped k (.imm t (l.map f)):=by
  rw[scoped_imm]
  intro r hr x hx
  obtain⟨a,_,rfl⟩:=List.mem_map.1 hr
  exact h a x hx
end Go.Mo
