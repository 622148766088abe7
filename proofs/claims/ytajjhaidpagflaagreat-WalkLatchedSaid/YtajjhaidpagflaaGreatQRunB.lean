/-
A run: what single operations come to; each holds of the abstract meaning.
No conditions.
-/
import Derived.Test.YtajjhaidpagflaaGreatQRunA
set_option linter.unusedSectionVars false
set_option linter.unusedSimpArgs false
set_option linter.unusedVariables false
namespace Go.Eng
open Go
variable [Toks]
noncomputable def lg {α:Type} (l:List α):Nat→Option α:=List.rec (motive:=fun _=>Nat→Option α) (fun _=>none) (fun x _ ih n=>Nat.rec (motive:=fun _=>Option α) (some x) (fun n _=>ih n) n) l
@[simp] theorem lg_eq {α:Type}:∀(l:List α) (n:Nat),lg l n=l[n]?
  | [],n=>rfl
  | x::l,0=>rfl
  | x::l,n+1=>(lg_eq l n).trans (by simp)
theorem ble_le {a b:Nat}:Nat.ble a b=true↔a≤b:=by rw[Nat.ble_eq]
theorem beq_eq' {a b:Nat}:Nat.beq a b=true↔a=b:=by rw[Nat.beq_eq]
/-- On a condition. -/
noncomputable def on {α:Type} (b:Bool) (x:Option α):Option α:=Bool.rec (motive:=fun _=>Option α) none x b
theorem on_some {α:Type} {b:Bool} {x:Option α} {y:α}:on b x=some y↔b=true∧x=some y:=by cases b<;>simp[on]
/-- Some,and go on. -/
noncomputable def bnd {α β:Type} (x:Option α) (f:α→Option β):Option β:=Option.rec (motive:=fun _=>Option β) none f x
theorem bnd_some {α β:Type} {x:Option α} {f:α→Option β} {y:β}:bnd x f=some y↔∃a,x=some a∧f a=some y:=by cases x<;>simp[bnd]
section
variable {P:Program} {m:Mem} {K:HV→Prop}
noncomputable def eRow (q:Piece) (ver i:Nat):Option (List HV):=
  match q with
  | .arr ver' _ E _=>on (Nat.beq ver ver') (lg E i)
  | _=>none
theorem eRow_hrow {q:Piece} {ver i:Nat} {l:List HV} {C:List HV→Prop} (h:eRow q ver i=some l) (hk:C l):hrow q ver i C:=by
  unfold eRow at h
  split at h
  · simp only[on_some,beq_eq',lg_eq] at h
    exact⟨h.1,l,h.2,hk⟩
  · cases h
noncomputable def rDrop {α:Type} (k:Nat):List α→List α:=Nat.rec (motive:=fun _=>List α→List α) (fun l=>l) (fun _ ih l=>List.rec (motive:=fun _=>List α) [] (fun _ t _=>ih t) l) k
noncomputable def rTake {α:Type} (k:Nat):List α→List α:=Nat.rec (motive:=fun _=>List α→List α) (fun _=>[]) (fun _ ih l=>List.rec (motive:=fun _=>List α) [] (fun x t _=>x::ih t) l) k
noncomputable def rLen {α:Type} (l:List α):Nat:=List.rec (motive:=fun _=>Nat) 0 (fun _ _ ih=>Nat.succ ih) l
noncomputable def rAll {α:Type} (f:α→Bool) (l:List α):Bool:=List.rec (motive:=fun _=>Bool) true (fun x _ ih=>Bool.rec (motive:=fun _=>Bool) false ih (f x)) l
/-- Has it so many? -/
noncomputable def rHas {α:Type} (l:List α):Nat→Bool:=List.rec (motive:=fun _=>Nat→Bool) (fun n=>Nat.rec (motive:=fun _=>Bool) true (fun _ _=>false) n) (fun _ _ ih n=>Nat.rec (motive:=fun _=>Bool) false (fun n _=>ih n) n) l
@[simp] theorem rDrop_eq {α:Type}:∀(k:Nat) (l:List α),rDrop k l=l.drop k
  | 0,_=>rfl
  | _+1,[]=>rfl
  | k+1,_::l=>rDrop_eq k l
@[simp] theorem rTake_eq {α:Type}:∀(k:Nat) (l:List α),rTake k l=l.take k
  | 0,_=>rfl
  | _+1,[]=>rfl
  | k+1,x::l=>congrArg (x:: ·) (rTake_eq k l)
@[simp] theorem rLen_eq {α:Type}:∀(l:List α),rLen l=l.length
  | []=>rfl
  | _::l=>congrArg Nat.succ (rLen_eq l)
@[simp] theorem rAll_eq {α:Type} (f:α→Bool):∀(l:List α),rAll f l=l.all f
  | []=>rfl
  | x::l=>by
    show Bool.rec (motive:=fun _=>Bool) false (rAll f l) (f x)=_
    rw[List.all_cons,rAll_eq f l]
    cases f x<;>rfl
@[simp] theorem rHas_eq {α:Type}:∀(l:List α) (n:Nat),rHas l n=Nat.beq l.length n
  | [],0=>rfl
  | [],_+1=>rfl
  | _::_,0=>rfl
  | _::l,n+1=>rHas_eq l n
noncomputable def eSub (l:List HV) (k s:Nat):Option (List HV):=fL (rTake s (rDrop k l)) fun c=>on (rHas c s&&Nat.blt 0 s) (some c)
theorem eSub_some {l c:List HV} {k s:Nat} (h:eSub l k s=some c):k+s≤l.length∧c=(l.drop k).take s:=by
  simp only[eSub,fL_eq,rTake_eq,rDrop_eq,rHas_eq,on_some,Bool.and_eq_true,beq_eq',Nat.blt_eq,Option.some.injEq] at h
  obtain⟨⟨h1,h2⟩,rfl⟩:=h
  simp at h1
  exact⟨by omega,rfl⟩
noncomputable def eCells (m:Mem) (s:Nat):HV→Option (List HV)
  | .ptr n ver i k=>bnd (eRow (m.get n) ver i) fun l=>eSub l k s
  | .iptr l k=>eSub l k s
  | _=>none
theorem eCells_hcells {s:Nat} {x:HV} {c:List HV} {C:List HV→Prop} (h:eCells m s x=some c) (hk:C c):hcells m.pl s C x:=by
  unfold eCells at h
  split at h
  · rw[bnd_some] at h
    obtain⟨l,h1,h2⟩:=h
    obtain⟨h3,rfl⟩:=eSub_some h2
    simp only[hcells,Mem.get_eq]
    exact eRow_hrow h1 ⟨h3,hk⟩
  · obtain⟨h3,rfl⟩:=eSub_some h
    exact⟨h3,hk⟩
  · cases h
noncomputable def eCell (m:Mem):HV→Option HV
  | .ptr n ver i k=>bnd (eRow (m.get n) ver i) fun l=>lg l k
  | .iptr l k=>lg l k
  | _=>none
theorem drop_take1 {α:Type} {l:List α} {k:Nat} {x:α} (h:l[k]? =some x):k+1≤l.length∧(l.drop k).take 1=[x]:=by
  obtain⟨h1,h2⟩:=List.getElem?_eq_some_iff.1 h
  refine⟨h1,?_⟩
  rw[List.drop_eq_getElem_cons h1,h2];rfl
theorem eCell_hcells {x y:HV} (h:eCell m x=some y) (hk:K y):hcells m.pl 1 (hone K) x:=by
  unfold eCell at h
  split at h
  · rw[bnd_some] at h
    obtain⟨l,h1,h2⟩:=h
    rw[lg_eq] at h2
    obtain⟨h3,h4⟩:=drop_take1 h2
    simp only[hcells,Mem.get_eq]
    refine eRow_hrow h1 ⟨h3,?_⟩
    rw[h4];exact hk
  · rw[lg_eq] at h
    obtain⟨h3,h4⟩:=drop_take1 h
    refine⟨h3,?_⟩
    rw[h4];exact hk
  · cases h
noncomputable def eLoad (m:Mem) (x:HV):Option (Bool×Nat)→Option HV
  | some (true,s)=>bnd (eCells m s x) fun l=>some (.agg l)
  | some (false,_)=>eCell m x
  | none=>none
theorem eLoad_h {x y:HV} {o:Option (Bool×Nat)} (h:eLoad m x o=some y) (hk:K y):hload m.pl x K o:=by
  unfold eLoad at h
  split at h
  · rw[bnd_some] at h
    obtain⟨l,h1,h2⟩:=h
    cases h2
    exact eCells_hcells (C:=fun l=>K (.agg l)) h1 hk
  · exact eCell_hcells h hk
  · cases h
/-! ### Numbers -/
noncomputable def in64 (n:Int):Bool:=Int.rec (motive:=fun _=>Bool) (fun a=>Nat.ble a 9223372036854775807) (fun a=>Nat.ble a 9223372036854775807) n
theorem in64_r {n:Int} (h:in64 n=true):InR64 n:=by
  unfold in64 at h
  cases n with
  | ofNat a=>have:=ble_le.1 h;exact⟨by show (-9223372036854775808:Int)≤(a:Int);omega,by show (a:Int)≤_;omega⟩
  | negSucc a=>have:=ble_le.1 h;exact⟨by omega,by omega⟩
noncomputable def eFitK (k:IntKind) (n:Int):Option HV:=fI (k.wrap n) fun n=>some (.int k n)
noncomputable def eFit64 (n:Int):Option HV:=on (in64 n) (some (.int .i64 n))
noncomputable def eFit (k:IntKind):Int→Option HV:=IntKind.rec (motive:=fun _=>Int→Option HV) (eFitK .i8) (eFitK .i16) (eFitK .i32) eFit64 (eFitK .u8) (eFitK .u16) (eFitK .u32) (eFitK .u64) k
theorem eFit_h {k:IntKind} {n:Int} {y:HV} (h:eFit k n=some y) (hk:K y):hfit k n K:=by
  have main:∀k,eFitK k n=some y→K y→K (.int k (k.wrap n)):=fun k h hk=>by
    rw[eFitK,fI_eq] at h;cases h;exact hk
  cases k
  case i64=>
    have h':eFit64 n=some y:=h
    rw[eFit64,on_some] at h';obtain⟨h1,h2⟩:=h';cases h2;exact⟨in64_r h1,hk⟩
  all_goals exact main _ h hk
noncomputable def kNum (k:IntKind):Nat:=IntKind.rec (motive:=fun _=>Nat) 0 1 2 3 4 5 6 7 k
noncomputable def kEq (a b:IntKind):Bool:=Nat.beq (kNum a) (kNum b)
theorem kEq_eq {a b:IntKind} (h:kEq a b=true):a=b:=by cases a<;>cases b<;>first | rfl | (exact absurd h (by decide))
noncomputable def iEq (a b:Int):Bool:=Int.rec (motive:=fun _=>Int→Bool) (fun a b=>Int.rec (motive:=fun _=>Bool) (fun b=>Nat.beq a b) (fun _=>false) b) (fun a b=>Int.rec (motive:=fun _=>Bool) (fun _=>false) (fun b=>Nat.beq a b) b) a b
theorem iEq_eq (a b:Int):decide (a=b)=iEq a b:=by
  apply Bool.eq_iff_iff.2
  cases a<;>cases b<;>simp only[iEq,decide_eq_true_eq,beq_eq',Bool.false_eq_true,iff_false,Int.ofNat_eq_natCast]<;>omega
noncomputable def iLe (a b:Int):Bool:=Int.rec (motive:=fun _=>Int→Bool) (fun a b=>Int.rec (motive:=fun _=>Bool) (fun b=>Nat.ble a b) (fun _=>false) b) (fun a b=>Int.rec (motive:=fun _=>Bool) (fun _=>true) (fun b=>Nat.ble b a) b) a b
theorem iLe_eq (a b:Int):decide (a≤b)=iLe a b:=by
  apply Bool.eq_iff_iff.2
  cases a<;>cases b<;>simp only[iLe,decide_eq_true_eq,ble_le,Bool.false_eq_true,iff_false,iff_true,Int.ofNat_eq_natCast]<;>omega
noncomputable def iLt (a b:Int):Bool:=!iLe b a
theorem iLt_eq (a b:Int):decide (a<b)=iLt a b:=by
  unfold iLt;rw[←iLe_eq];apply Bool.eq_iff_iff.2;simp only[decide_eq_true_eq,Bool.not_eq_true',decide_eq_false_iff_not];omega
noncomputable def aShl (k:IntKind) (a:Int) (_:IntKind) (b:Int):Option HV:=on (iLe 0 b) (fI (k.wrap (a*2 ^ (min b.toNat k.bits))) fun n=>some (.int k n))
noncomputable def aShr (k:IntKind) (a:Int) (_:IntKind) (b:Int):Option HV:=on (iLe 0 b) (fI (a.fdiv (2 ^ (min b.toNat k.bits))) fun n=>some (.int k n))
noncomputable def aAdd (k:IntKind) (a:Int) (k':IntKind) (b:Int):Option HV:=on (kEq k k') (fI (a+b) (eFit k))
noncomputable def aSub (k:IntKind) (a:Int) (k':IntKind) (b:Int):Option HV:=on (kEq k k') (fI (a - b) (eFit k))
noncomputable def aMul (k:IntKind) (a:Int) (k':IntKind) (b:Int):Option HV:=on (kEq k k') (fI (a*b) (eFit k))
noncomputable def aQuo (k:IntKind) (a:Int) (k':IntKind) (b:Int):Option HV:=on (kEq k k'&& !iEq b 0) (fI (a.tdiv b) (eFit k))
noncomputable def aRem (k:IntKind) (a:Int) (k':IntKind) (b:Int):Option HV:=on (kEq k k'&& !iEq b 0) (fI (a.tmod b) fun n=>some (.int k n))
noncomputable def aBits (op:BinOp) (k:IntKind) (a:Int) (k':IntKind) (b:Int):Option HV:=on (kEq k k') (fI (hbits op k a b) fun n=>some (.int k n))
noncomputable def aCmp (f:Int→Int→Bool) (k:IntKind) (a:Int) (k':IntKind) (b:Int):Option HV:=on (kEq k k') (fB (f a b) fun r=>some (.bool r))
noncomputable def eInt (op:BinOp):IntKind→Int→IntKind→Int→Option HV:=
  BinOp.rec (motive:=fun _=>IntKind→Int→IntKind→Int→Option HV) aAdd aSub aMul aQuo aRem (aBits .and) (aBits .or) (aBits .xor) aShl aShr (aBits .andNot) (aCmp iEq) (aCmp fun a b=>!iEq a b) (aCmp iLt) (aCmp iLe) (aCmp fun a b=>iLt b a) (aCmp fun a b=>iLe b a) op
theorem iLe_le {a b:Int} (h:iLe a b=true):a≤b:=by rw[←iLe_eq] at h;exact of_decide_eq_true h
theorem iNe_ne {a b:Int} (h:(!iEq a b)=true):a≠b:=by rw[←iEq_eq] at h;simpa using h
theorem eInt_h {op:BinOp} {k k':IntKind} {a b:Int} {y:HV} (h:eInt op k a k' b=some y) (hk:K y):hint op k a k' b K:=by
  unfold hint
  cases op<;>simp only[eInt,aAdd,aSub,aMul,aQuo,aRem,aBits,aShl,aShr,aCmp,on_some,fI_eq,fB_eq,Bool.and_eq_true,Option.some.injEq] at h ⊢<;>obtain⟨h1,h2⟩:=h
  case shl=>subst h2;exact⟨iLe_le h1,hk⟩
  case shr=>subst h2;exact⟨iLe_le h1,hk⟩
  case add=>exact⟨kEq_eq h1,eFit_h h2 hk⟩
  case sub=>exact⟨kEq_eq h1,eFit_h h2 hk⟩
  case mul=>exact⟨kEq_eq h1,eFit_h h2 hk⟩
  case quo=>exact⟨kEq_eq h1.1,iNe_ne h1.2,eFit_h h2 hk⟩
  case rem=>subst h2;exact⟨kEq_eq h1.1,iNe_ne h1.2,hk⟩
  all_goals (subst h2;refine⟨kEq_eq h1,?_⟩;first | exact hk | (rw[iEq_eq];exact hk) | (rw[iLt_eq];exact hk) | (rw[iLe_eq];exact hk))
def sEq:List UInt8→List UInt8→Bool
  | [],[]=>true
  | a::l,b::r=>Nat.beq a.toNat b.toNat&&sEq l r
  | _,_=>false
theorem sEq_eq (a b:List UInt8):decide (a=b)=sEq a b:=by
  induction a generalizing b with
  | nil=>cases b<;>simp[sEq]
  | cons x a ih=>
    cases b with
    | nil=>simp[sEq]
    | cons y b=>
      rw[sEq,←ih,Bool.eq_iff_iff]
      simp only[decide_eq_true_eq,Bool.and_eq_true,beq_eq',List.cons.injEq,UInt8.toNat_inj]
noncomputable def eStr (op:BinOp) (a b:List UInt8):Option HV:=
  match op with
  | .add=>on (Nat.ble (a.length+b.length) maxLen) (fL (a++b) fun l=>some (.str l))
  | .eql=>fB (sEq a b) fun r=>some (.bool r)
  | .neq=>fB (!sEq a b) fun r=>some (.bool r)
  | .lss=>fB (Op.bytesLess a b) fun r=>some (.bool r)
  | .leq=>fB (Op.bytesLess a b || sEq a b) fun r=>some (.bool r)
  | .gtr=>fB (!(Op.bytesLess a b || sEq a b)) fun r=>some (.bool r)
  | .geq=>fB (!Op.bytesLess a b) fun r=>some (.bool r)
  | _=>none
theorem eStr_h {op:BinOp} {a b:List UInt8} {y:HV} (h:eStr op a b=some y) (hk:K y):hstr op a b K:=by
  unfold eStr at h
  unfold hstr
  cases op<;>simp only[on_some,fL_eq,fB_eq,Option.some.injEq,reduceCtorEq] at h ⊢
  case add=>exact⟨ble_le.1 h.1,h.2▸hk⟩
  all_goals (subst h;first | exact hk | (simp only[sEq_eq];exact hk))
noncomputable def eLive (q:Piece) (ver:Nat):Bool:=
  match q with
  | .arr ver' _ E opn=>Nat.beq ver ver'&&(!opn || (match E with | []=>false | _=>true))
  | _=>false
theorem eLive_h {q:Piece} {ver:Nat} (h:eLive q ver=true):hlive q ver:=by
  unfold eLive at h
  unfold hlive
  split at h
  · rename_i ver' sz E opn
    simp only[Bool.and_eq_true,Bool.or_eq_true,beq_eq'] at h
    refine⟨h.1,?_⟩
    rcases h.2 with h2 | h2
    · left;simpa using h2
    · right;rintro rfl;cases h2
  · cases h
noncomputable def eBt:BinOp→Bool→Option HV
  | .eql,r=>fB r fun r=>some (.bool r)
  | .neq,r=>fB (!r) fun r=>some (.bool r)
  | _,_=>none
theorem eBt_h {op:BinOp} {r:Bool} {y:HV} (h:eBt op r=some y) (hk:K y):hbt op r K:=by
  unfold eBt at h
  unfold hbt
  split at h<;>(try rw[fB_eq] at h)<;>cases h<;>exact hk
/-- A number and itself. -/
noncomputable def eSm:BinOp→Option HV
  | .eql | .leq | .geq=>some (.bool true)
  | .neq | .lss | .gtr=>some (.bool false)
  | _=>none
/-! ### Named numbers -/
/-- Two numbers,each between two:what is known of their order. -/
noncomputable def iv (op:BinOp) (l1 h1 l2 h2:Int):Option Bool:=
  match op with
  | .lss=>bif iLt h1 l2 then some true else bif iLe h2 l1 then some false else none
  | .leq=>bif iLe h1 l2 then some true else bif iLt h2 l1 then some false else none
  | .gtr=>bif iLt h2 l1 then some true else bif iLe h1 l2 then some false else none
  | .geq=>bif iLe h2 l1 then some true else bif iLt h1 l2 then some false else none
  | .eql=>bif iLt h1 l2 then some false else bif iLt h2 l1 then some false else none
  | .neq=>bif iLt h1 l2 then some true else bif iLt h2 l1 then some true else none
  | _=>none
def isCmp (op:BinOp) (a b:Int) (r:Bool):Prop:=
  match op with
  | .lss=>decide (a<b)=r
  | .leq=>decide (a≤b)=r
  | .gtr=>decide (b<a)=r
  | .geq=>decide (b≤a)=r
  | .eql=>decide (a=b)=r
  | .neq=>(!decide (a=b))=r
  | _=>False
theorem iLt_lt {a b:Int} (h:iLt a b=true):a<b:=by rw[←iLt_eq] at h;exact of_decide_eq_true h
theorem iv_h {op:BinOp} {l1 h1 l2 h2 a b:Int} {r:Bool} (ha:l1≤a∧a≤h1) (hb:l2≤b∧b≤h2) (h:iv op l1 h1 l2 h2=some r):isCmp op a b r:=by
  have two:∀{x y:Bool} {u v:Bool},(bif x then some u else bif y then some v else none)=some r→(x=true∧r=u)∨(y=true∧r=v):=by
    intro x y u v h
    cases x
    · cases y
      · cases h
      · cases h;exact .inr ⟨rfl,rfl⟩
    · cases h;exact .inl ⟨rfl,rfl⟩
  cases op<;>simp only[iv] at h<;>first
    | (cases h;done)
    | (simp only[isCmp];rcases two h with ⟨h',rfl⟩ | ⟨h',rfl⟩<;>first | (have:=iLt_lt h';simp;omega) | (have:=iLe_le h';simp;omega))
theorem isCmp_hint {op:BinOp} {k k':IntKind} {a b:Int} {r:Bool} {f:Option Nat} (hf:f=none) (hkk:k=k') (h:isCmp op a b r) (hk:K (.bool r)):hint op k a k' b (rename f K):=by
  subst hf
  cases op<;>simp only[isCmp] at h<;>first | exact h.elim | (subst h;exact⟨hkk,hk⟩)
def inU64 (n:Int):Bool:=
  match n with
  | .ofNat a=>Nat.ble a 18446744073709551615
  | .negSucc _=>false
theorem inU64_h {n:Int} (h:inU64 n=true):InU64 n:=by
  unfold inU64 at h
  split at h
  · have:=ble_le.1 h;rename_i a;exact⟨Int.natCast_nonneg a,by show (a:Int)≤_;omega⟩
  · cases h
theorem in64_mid {l a h:Int} (h1:in64 l=true) (h2:in64 h=true) (ha:l≤a∧a≤h):InR64 a:=by
  have a1:=in64_r h1
  have a2:=in64_r h2
  exact⟨Int.le_trans a1.1 ha.1,Int.le_trans ha.2 a2.2⟩
theorem inU64_mid {l a h:Int} (h1:inU64 l=true) (h2:inU64 h=true) (ha:l≤a∧a≤h):InU64 a:=by
  have a1:=inU64_h h1
  have a2:=inU64_h h2
  exact⟨Int.le_trans a1.1 ha.1,Int.le_trans ha.2 a2.2⟩
theorem wrapd_u64 {n:Int} (h:InU64 n):IntKind.u64.wrap n=n:=by
  show n % 18446744073709551616=n
  exact Int.emod_eq_of_lt h.1 (by have:=h.2;omega)
theorem wrapd_u8 {n:Int} (h:0≤n∧n≤255):IntKind.u8.wrap n=n:=by
  show n % 256=n
  exact Int.emod_eq_of_lt h.1 (by omega)
/-- A number by its name. -/
noncomputable def eNm (k:IntKind) (f:Option Nat):Option HV:=
  match f with
  | some j=>fN j fun j=>(match k with
    | .i64=>on (in64 (Toks.lo j)&&in64 (Toks.hi j)) (some (.tok .i64 j))
    | .u64=>on (inU64 (Toks.lo j)&&inU64 (Toks.hi j)) (some (.tok .u64 j))
    | _=>none)
  | none=>none
theorem eNm_h {k:IntKind} {f:Option Nat} {n:Int} {y:HV} (h:eNm k f=some y) (hn:∀j,f=some j→Toks.num j=n) (hk:K y):hfit k n (rename f K):=by
  unfold eNm at h
  split at h
  · rename_i j
    rw[fN_eq] at h
    have:=hn j rfl
    subst this
    split at h
    · simp only[on_some,Bool.and_eq_true,Option.some.injEq] at h
      obtain⟨⟨h1,h2⟩,rfl⟩:=h
      exact⟨in64_mid h1 h2 (Toks.rng j),rfl,hk⟩
    · simp only[on_some,Bool.and_eq_true,Option.some.injEq] at h
      obtain⟨⟨h1,h2⟩,rfl⟩:=h
      exact⟨wrapd_u64 (inU64_mid h1 h2 (Toks.rng j)),hk⟩
    · cases h
  · cases h
noncomputable def eCp (op:BinOp) (l1 h1 l2 h2:Int):Option HV:=bnd (iv op l1 h1 l2 h2) fun r=>fB r fun r=>some (.bool r)
theorem eCp_h {op:BinOp} {k k':IntKind} {l1 h1 l2 h2 a b:Int} {y:HV} {f:Option Nat} (hf:∀r,isCmp op a b r→f=none) (hkk:k=k') (ha:l1≤a∧a≤h1) (hb:l2≤b∧b≤h2) (h:eCp op l1 h1 l2 h2=some y) (hk:K y):hint op k a k' b (rename f K):=by
  simp only[eCp,bnd_some,fB_eq,Option.some.injEq] at h
  obtain⟨r,h1,rfl⟩:=h
  have:=iv_h ha hb h1
  exact isCmp_hint (hf r this) hkk this hk
def isShr:BinOp→Bool
  | .shr=>true
  | _=>false
def isU64:IntKind→Bool
  | .u64=>true
  | _=>false
noncomputable def eTI (op:BinOp) (k:IntKind) (i:Nat) (k':IntKind) (b:Int):Option HV:=
  on (kEq k k' || isShr op) (match op with
    | .add=>eNm k (Toks.plus i b)
    | .sub=>eNm k (Toks.plus i (-b))
    | .rem=>on (!iEq b 0) (bnd (Toks.rem i b) fun r=>fI r fun r=>some (.int k r))
    | .shr=>on (iEq b 8&&iLe 0 (Toks.lo i)&&iLe (Toks.hi i) 255&&isU64 k) (some (.int k (.ofNat 0)))
    | op=>eCp op (Toks.lo i) (Toks.hi i) b b)
theorem eTI_h {op:BinOp} {k k':IntKind} {i:Nat} {b:Int} {y:HV} (h:eTI op k i k' b=some y) (hk:K y):hint op k (Toks.num i) k' b (rename (plusOf op i b) K):=by
  unfold eTI at h
  rw[on_some,Bool.or_eq_true] at h
  obtain⟨h1,h⟩:=h
  have hkk:isShr op=false→k=k':=fun hs=>by
    rcases h1 with h1 | h1
    · exact kEq_eq h1
    · rw[hs] at h1;cases h1
  cases op
  case add=>exact⟨hkk rfl,eNm_h (n:=Toks.num i+b) h (fun j hj=>Toks.plus_ok i b j hj) hk⟩
  case sub=>exact⟨hkk rfl,eNm_h (n:=Toks.num i - b) h (fun j hj=>by have:=Toks.plus_ok i (-b) j hj;omega) hk⟩
  case shr=>
    simp only[on_some,Bool.and_eq_true,Option.some.injEq] at h
    obtain⟨⟨⟨⟨h2,h3⟩,h4⟩,h5⟩,rfl⟩:=h
    cases k<;>try (cases h5;done)
    have e8:b=8:=by rw[←iEq_eq] at h2;exact of_decide_eq_true h2
    subst e8
    have:=Toks.rng i
    have b1:=iLe_le h3
    have b2:=iLe_le h4
    refine⟨by omega,?_⟩
    have e:(Toks.num i).fdiv (2 ^ (min (8:Int).toNat (IntKind.u64.bits)))=0:=by
      show (Toks.num i).fdiv 256=0
      rw[Int.fdiv_eq_ediv_of_nonneg _ (by omega)]
      omega
    show K (.int .u64 _)
    rw[e];exact hk
  case rem=>
    simp only[on_some,bnd_some,fI_eq,Option.some.injEq] at h
    obtain⟨h2,r,h3,rfl⟩:=h
    exact⟨hkk rfl,iNe_ne h2,by rw[Toks.rem_ok i b r h3];exact hk⟩
  all_goals exact eCp_h (fun r hr=>by first | rfl | exact hr.elim) (hkk rfl) (Toks.rng i) ⟨Int.le_refl _,Int.le_refl _⟩ h hk
noncomputable def eIT (op:BinOp) (k:IntKind) (a:Int) (k':IntKind) (j:Nat):Option HV:=
  on (kEq k k') (match op with
    | .add=>eNm k (Toks.plus j a)
    | op=>eCp op a a (Toks.lo j) (Toks.hi j))
theorem eIT_h {op:BinOp} {k k':IntKind} {j:Nat} {a:Int} {y:HV} (h:eIT op k a k' j=some y) (hk:K y):hint op k a k' (Toks.num j) (rename (plusOf' op a j) K):=by
  unfold eIT at h
  rw[on_some] at h
  obtain⟨h1,h⟩:=h
  have hkk:=kEq_eq h1
  cases op
  case add=>
    exact⟨hkk,eNm_h (n:=a+Toks.num j) h (fun l hl=>by have:=Toks.plus_ok j a l hl;omega) hk⟩
  all_goals exact eCp_h (fun r hr=>by first | rfl | exact hr.elim) hkk ⟨Int.le_refl _,Int.le_refl _⟩ (Toks.rng j) h hk
/-- Which of two is less,by what is told. -/
def byOrd (op:BinOp) (o:Ordering):Option Bool:=
  match op with
  | .lss=>some (match o with | .lt=>true | _=>false)
  | .leq=>some (match o with | .gt=>false | _=>true)
  | .gtr=>some (match o with | .gt=>true | _=>false)
  | .geq=>some (match o with | .lt=>false | _=>true)
  | .eql=>some (match o with | .eq=>true | _=>false)
  | .neq=>some (match o with | .eq=>false | _=>true)
  | _=>none
theorem byOrd_h {op:BinOp} {o:Ordering} {a b:Int} {r:Bool} (ho:compare a b=o) (h:byOrd op o=some r):isCmp op a b r:=by
  have h3:(o=.lt∧a<b)∨(o=.eq∧a=b)∨(o=.gt∧b<a):=by
    subst ho
    show (compareOfLessAndEq a b=_∧_)∨(compareOfLessAndEq a b=_∧_)∨(compareOfLessAndEq a b=_∧_)
    unfold compareOfLessAndEq
    by_cases h1:a<b
    · simp[h1]
    · by_cases h2:a=b
      · simp[h2]
      · simp[h1,h2];omega
  cases op<;>simp only[byOrd] at h<;>first
    | (cases h;done)
    | (cases h;simp only[isCmp];rcases h3 with ⟨rfl,h3⟩ | ⟨rfl,h3⟩ | ⟨rfl,h3⟩<;>simp<;>omega)
noncomputable def eTTc (op:BinOp) (i j:Nat):Option HV:=
  bif Nat.beq i j then eSm op else match Toks.ord i j with
    | some o=>bnd (byOrd op o) fun r=>fB r fun r=>some (.bool r)
    | none=>eCp op (Toks.lo i) (Toks.hi i) (Toks.lo j) (Toks.hi j)
noncomputable def eTT (op:BinOp) (k:IntKind) (i:Nat) (k':IntKind) (j:Nat):Option HV:=
  on (kEq k k') (match op with
    | .add=>eNm k (Toks.sum i j)
    | op=>eTTc op i j)
theorem eTT_h {op:BinOp} {k k':IntKind} {i j:Nat} {y:HV} (h:eTT op k i k' j=some y) (hk:K y):hint op k (Toks.num i) k' (Toks.num j) (rename (sumOf op i j) K):=by
  unfold eTT at h
  rw[on_some] at h
  obtain⟨h1,h⟩:=h
  have hkk:=kEq_eq h1
  have main:eTTc op i j=some y→(∀r,isCmp op (Toks.num i) (Toks.num j) r→sumOf op i j=none)→hint op k (Toks.num i) k' (Toks.num j) (rename (sumOf op i j) K):=by
    intro h hf
    unfold eTTc at h
    cases hb:Nat.beq i j
    · rw[hb] at h
      simp only[cond_false] at h
      split at h
      · rename_i o ho
        simp only[bnd_some,fB_eq,Option.some.injEq] at h
        obtain⟨r,h2,rfl⟩:=h
        have:=byOrd_h (Toks.ord_ok i j o ho) h2
        exact isCmp_hint (hf r this) hkk this hk
      · exact eCp_h hf hkk (Toks.rng i) (Toks.rng j) h hk
    · rw[hb] at h
      rw[beq_eq'] at hb
      subst hb
      have hs:∃r,y=.bool r∧isCmp op (Toks.num i) (Toks.num i) r:=by
        cases op<;>simp only[cond_true,eSm] at h<;>first | (cases h;done) | (cases h;exact⟨_,rfl,by simp[isCmp]⟩)
      obtain⟨r,rfl,hr⟩:=hs
      exact isCmp_hint (hf r hr) hkk hr hk
  cases op
  case add=>
    exact⟨hkk,eNm_h (n:=Toks.num i+Toks.num j) h (fun l hl=>Toks.sum_ok i j l hl) hk⟩
  all_goals exact main h (fun r hr=>by first | rfl | exact hr.elim)
/-- Numbers alike,as far as is known. -/
noncomputable def eTTe (i j:Nat):Option Bool:=
  bif Nat.beq i j then some true else match Toks.ord i j with
    | some o=>byOrd .eql o
    | none=>iv .eql (Toks.lo i) (Toks.hi i) (Toks.lo j) (Toks.hi j)
theorem eTTe_h {i j:Nat} {r:Bool} (h:eTTe i j=some r):decide (Toks.num i=Toks.num j)=r:=by
  unfold eTTe at h
  cases hb:Nat.beq i j
  · rw[hb] at h
    simp only[cond_false] at h
    split at h
    · rename_i o ho;exact byOrd_h (op:=.eql) (Toks.ord_ok i j o ho) h
    · exact iv_h (op:=.eql) (Toks.rng i) (Toks.rng j) h
  · rw[hb] at h
    rw[beq_eq'] at hb
    subst hb
    cases h;simp
noncomputable def eFits:Nat→HV→HV→Bool
  | 0,.bool _,.bool _=>true
  | 1,.int k _,.int k' _=>kEq k k'
  | 2,.str _,.str _=>true
  | 1,.tok k _,.int k' _=>kEq k k'
  | 1,.int k _,.tok k' _=>kEq k k'
  | 1,.tok k _,.tok k' _=>kEq k k'
  | 2,.stok _,.str _=>true
  | 2,.str _,.stok _=>true
  | 2,.stok _,.stok _=>true
  | _,_,_=>false
theorem eFits_h {n:Nat} {x y:HV} (h:eFits n x y=true):hfits n x y:=by
  unfold eFits at h
  split at h<;>first | trivial | exact kEq_eq h | cases h
/-- Are they alike,as far as is known. -/
noncomputable def eEqv:HV→HV→Option Bool
  | .bool a,.bool b=>some (a == b)
  | .int _ a,.int _ b=>some (iEq a b)
  | .str a,.str b=>some (sEq a b)
  | .tok _ i,.tok _ j=>eTTe i j
  | .stok i,.stok j=>on (Nat.beq i j) (some true)
  | .tok _ i,.int _ b=>iv .eql (Toks.lo i) (Toks.hi i) b b
  | .int _ a,.tok _ j=>iv .eql a a (Toks.lo j) (Toks.hi j)
  | .stok _,.str _=>none
  | .str _,.stok _=>none
  | _,_=>some false
theorem eEqv_eq {x y:HV} {r:Bool} (h:eEqv x y=some r):heqv x y=r:=by
  cases x<;>cases y<;>first
    | (cases h;done)
    | (cases h;rfl)
    | (cases h;exact iEq_eq _ _)
    | (cases h;exact sEq_eq _ _)
    | (simp only[eEqv,on_some,beq_eq'] at h;obtain⟨rfl,h⟩:=h;cases h;simp[heqv])
    | exact eTTe_h h
    | exact iv_h (op:=.eql) (Toks.rng _) ⟨Int.le_refl _,Int.le_refl _⟩ h
    | exact iv_h (op:=.eql) ⟨Int.le_refl _,Int.le_refl _⟩ (Toks.rng _) h
noncomputable def eAll (a b:List HV):Cells→Option Bool
  | []=>some true
  | p::ps=>match eEqv (get a p.1) (get b p.1) with
    | some true=>eAll a b ps
    | some false=>some false
    | none=>match eAll a b ps with
      | some false=>some false
      | _=>none
theorem eAll_h {a b:List HV}:∀{ps:Cells} {r:Bool},eAll a b ps=some r→hcmp ps a b=r
  | [],r,h=>by cases h;rfl
  | p::ps,r,h=>by
    unfold eAll at h
    show (heqv (get a p.1) (get b p.1)&&hcmp ps a b)=r
    split at h
    · rename_i h1;rw[eEqv_eq h1,eAll_h h];simp
    · rename_i h1;cases h;rw[eEqv_eq h1];simp
    · split at h
      · rename_i h2;cases h;rw[eAll_h h2];simp
      · cases h
noncomputable def eEqs (a b:List HV) (op:BinOp):Option Cells→Option HV
  | some ps=>on (ps.all fun p=>eFits p.2 (get a p.1) (get b p.1)) (bnd (eAll a b ps) fun r=>eBt op r)
  | none=>none
theorem eEqs_h {a b:List HV} {op:BinOp} {o:Option Cells} {y:HV} (h:eEqs a b op o=some y) (hk:K y):heqs a b op K o:=by
  unfold eEqs at h
  split at h
  · rename_i ps
    rw[on_some,bnd_some] at h
    obtain⟨h1,r,h2,h3⟩:=h
    refine⟨fun p hp=>eFits_h (List.all_eq_true.1 h1 p hp),?_⟩
    rw[eAll_h h2]
    exact eBt_h h3 hk
  · cases h
def isPtr (P:Program) (t:TypeId):Bool:=match P.underlying t with | some (.pointer _)=>true | _=>false
theorem isPtr_h {t:TypeId} (h:isPtr P t=true):∃s,P.underlying t=some (.pointer s):=by
  unfold isPtr at h
  split at h
  · rename_i s hs;exact⟨s,hs⟩
  · cases h
def isBool (P:Program) (t:TypeId):Bool:=match P.underlying t with | some .bool=>true | _=>false
theorem isBool_h {t:TypeId} (h:isBool P t=true):P.underlying t=some .bool:=by
  unfold isBool at h
  split at h
  · assumption
  · cases h
noncomputable def eSzl (q:Piece) (ver k k':Nat):Bool:=
  match q with
  | .arr v sz E opn=>Nat.beq ver v&&(!opn || (match E with | []=>false | _=>true))&&Nat.blt k sz&&Nat.blt k' sz
  | _=>false
theorem eSzl_h {q:Piece} {ver k k':Nat} (h:eSzl q ver k k'=true):hszl q ver k k':=by
  unfold eSzl at h
  unfold hszl
  split at h
  · simp only[Bool.and_eq_true,Bool.or_eq_true,beq_eq',Nat.blt_eq] at h
    obtain⟨⟨⟨h1,h2⟩,h3⟩,h4⟩:=h
    refine⟨h1,?_,h3,h4⟩
    rcases h2 with h2 | h2
    · left;simpa using h2
    · right;rintro rfl;cases h2
  · cases h
noncomputable def eBinO (P:Program) (m:Mem) (op:BinOp) (t:TypeId) (x y:HV):Option HV:=
  match x,y with
  | .str a,.str b=>eStr op a b
  | .bool a,.bool b=>on (isBool P t) (eBt op (a == b))
  | .ptr n ver _ _,.cst (.pointer none)=>on (eLive (m.get n) ver&&isPtr P t) (eBt op false)
  | .iptr _ _,.cst (.pointer none)=>on (isPtr P t) (eBt op false)
  | .cst (.pointer none),.cst (.pointer none)=>on (isPtr P t) (eBt op true)
  | .ptr n ver i k,.ptr n' ver' i' k'=>on (Nat.beq n n'&&Nat.beq ver ver'&&eSzl (m.get n) ver k k'&&psz P t) (eBt op (Nat.beq i i'&&Nat.beq k k'))
  | .agg a,.agg b=>eEqs a b op (eqO P t)
  | .tok k i,.tok k' j=>eTT op k i k' j
  | .tok k i,.int k' b=>eTI op k i k' b
  | .stok i,.stok j=>on (Nat.beq i j) (eBt op true)
  | _,_=>none
/-- Numbers by themselves. -/
noncomputable def eBinI (op:BinOp) (y:HV):IntKind→Int→Option HV:=
  HV.rec (motive_1:=fun _=>IntKind→Int→Option HV) (motive_2:=fun _=>Unit) (motive_3:=fun _=>Unit) (fun _ _ _=>none) (fun k' b k a=>eInt op k a k' b) (fun _ _ _=>none) (fun _ _ _=>none) (fun _ _ _ _ _=>none) (fun _ _ _ _ _=>none) (fun _ _ _ _ _ _=>none) (fun _ _ _ _ _ _ _=>none) (fun _ _ _ _ _ _ _ _=>none) (fun _ _ _ _=>none) (fun _ _ _ _=>none) (fun _ _ _ _=>none) (fun _ _ _ _ _ _ _=>none) (fun _ _ _ _ _=>none) (fun _ _ _ _ _=>none) (fun _ _=>none) (fun k' j k a=>eIT op k a k' j) (fun _ _ _=>none) (fun _ _ _=>none) (fun _ _=>none) () (fun _ _ _ _=>()) () (fun _ _ _ _=>()) y
noncomputable def eBin (P:Program) (m:Mem) (op:BinOp) (t:TypeId) (x y:HV):Option HV:=
  HV.rec (motive_1:=fun _=>Option HV) (motive_2:=fun _=>Unit) (motive_3:=fun _=>Unit) (fun _=>eBinO P m op t x y) (eBinI op y) (fun _=>eBinO P m op t x y) (fun _=>eBinO P m op t x y) (fun _ _ _=>eBinO P m op t x y) (fun _ _ _=>eBinO P m op t x y) (fun _ _ _ _=>eBinO P m op t x y) (fun _ _ _ _ _=>eBinO P m op t x y) (fun _ _ _ _ _ _=>eBinO P m op t x y) (fun _ _=>eBinO P m op t x y) (fun _ _=>eBinO P m op t x y) (fun _ _=>eBinO P m op t x y) (fun _ _ _ _ _=>eBinO P m op t x y) (fun _ _ _=>eBinO P m op t x y) (fun _ _ _=>eBinO P m op t x y) (eBinO P m op t x y) (fun _ _=>eBinO P m op t x y) (fun _=>eBinO P m op t x y) (fun _=>eBinO P m op t x y) (eBinO P m op t x y) () (fun _ _ _ _=>()) () (fun _ _ _ _=>()) x
theorem eBin_h {op:BinOp} {t:TypeId} {x y z:HV} (h:eBin P m op t x y=some z) (hk:K z):hbin P m.pl op t x y K:=by
  replace h:(∃k a k' b,x=.int k a∧y=.int k' b∧eInt op k a k' b=some z)∨(∃k a k' j,x=.int k a∧y=.tok k' j∧eIT op k a k' j=some z)∨eBinO P m op t x y=some z:=by
    cases x with
    | int k a=>
      cases y with
      | int k' b=>exact .inl ⟨k,a,k',b,rfl,rfl,h⟩
      | tok k' j=>exact .inr (.inl ⟨k,a,k',j,rfl,rfl,h⟩)
      | _=>cases h
    | _=>exact .inr (.inr h)
  rcases h with ⟨k,a,k',b,rfl,rfl,h⟩ | ⟨k,a,k',j,rfl,rfl,h⟩ | h
  · exact eInt_h h hk
  · exact eIT_h h hk
  unfold eBinO at h
  split at h
  · exact eStr_h h hk
  · rw[on_some] at h;exact⟨isBool_h h.1,eBt_h h.2 hk⟩
  · rw[on_some,Bool.and_eq_true] at h;exact⟨by rw[Mem.get_eq];exact eLive_h h.1.1,isPtr_h h.1.2,eBt_h h.2 hk⟩
  · rw[on_some] at h;exact⟨isPtr_h h.1,eBt_h h.2 hk⟩
  · rw[on_some] at h;exact⟨isPtr_h h.1,eBt_h h.2 hk⟩
  · rename_i n ver i k n' ver' i' k'
    simp only[on_some,Bool.and_eq_true,beq_eq'] at h
    obtain⟨⟨⟨⟨h1,h2⟩,h3⟩,h4⟩,h5⟩:=h
    refine⟨h1,h2,by rw[Mem.get_eq];exact eSzl_h h3,h4,?_⟩
    have:(decide (i=i')&&decide (k=k'))=(Nat.beq i i'&&Nat.beq k k'):=by
      rw[Bool.eq_iff_iff];simp
    rw[this]
    exact eBt_h h5 hk
  · exact eEqs_h h hk
  · exact eTT_h h hk
  · exact eTI_h h hk
  · rw[on_some,beq_eq'] at h
    obtain⟨rfl,h2⟩:=h
    cases op<;>simp only[eBt,fB_eq,Option.some.injEq] at h2<;>first | (subst h2;simpa [hbin,hstr] using hk) | cases h2
  · cases h
noncomputable def eUn (op:UnOp) (x:HV):Option HV:=
  match op,x with
  | .neg,.int k n=>fI (0 - n) fun n=>eFit k n
  | .xor,.int k n=>fI (hbits .xor k (if k.signed then -1 else k.max) n) fun n=>some (.int k n)
  | .not,.bool b=>fB (!b) fun b=>some (.bool b)
  | _,_=>none
theorem eUn_h {op:UnOp} {x y:HV} (h:eUn op x=some y) (hk:K y):hun op x K:=by
  unfold eUn at h
  split at h
  · rw[fI_eq] at h;exact eFit_h h hk
  · rw[fI_eq] at h;cases h;exact hk
  · rw[fB_eq] at h;cases h;exact hk
  · cases h
/-! ### Addresses -/
noncomputable def eField (m:Mem) (x:HV):Option (Nat×Nat)→Option HV
  | some (off,_)=>(match x with
    | .ptr n ver i k=>on (eLive (m.get n) ver) (fN (k+off) fun k=>some (.ptr n ver i k))
    | .iptr l k=>fN (k+off) fun k=>some (.iptr l k)
    | _=>none)
  | none=>none
theorem eField_h {x y:HV} {o:Option (Nat×Nat)} (h:eField m x o=some y) (hk:K y):hfield m.pl x K o:=by
  unfold eField at h
  split at h
  · unfold hfield
    split at h
    · rw[on_some,fN_eq] at h;obtain⟨h1,h2⟩:=h;cases h2;exact⟨by rw[Mem.get_eq];exact eLive_h h1,hk⟩
    · rw[fN_eq] at h;cases h;exact hk
    · cases h
  · cases h
def iToNat (i:Int):Option Nat:=
  match i with
  | .ofNat a=>some a
  | .negSucc _=>none
theorem iToNat_some {i:Int} {a:Nat} (h:iToNat i=some a):0≤i∧i.toNat=a∧i=(a:Int):=by
  unfold iToNat at h
  split at h
  · cases h;exact⟨Int.natCast_nonneg a,rfl,rfl⟩
  · cases h
noncomputable def eIxsl (m:Mem) (x i:HV):Option (TypeId×Nat)→Option HV
  | some (_,s)=>(match x,i with
    | .imm _ E,.int _ i=>bnd (iToNat i) fun a=>bnd (lg E a) fun l=>on (rHas l s) (some (.iptr l 0))
    | .sl n ver i0 len _,.int _ i=>bnd (iToNat i) fun a=>on (Nat.blt a len) (fN (i0+a) fun j=>bnd (eRow (m.get n) ver j) fun l=>on (rHas l s) (some (.ptr n ver j 0)))
    | .isl n ver i0 k len _,.int _ i=>bnd (iToNat i) fun a=>on (Nat.blt a len&&eLive (m.get n) ver) (fN (k+a*s) fun k=>some (.ptr n ver i0 k))
    | _,_=>none)
  | none=>none
theorem eIxsl_h {x i y:HV} {o:Option (TypeId×Nat)} (h:eIxsl m x i o=some y) (hk:K y):hixsl m.pl x i K o:=by
  unfold eIxsl at h
  split at h
  · unfold hixsl
    split at h
    · simp only[bnd_some,on_some,lg_eq,rHas_eq,beq_eq',Option.some.injEq] at h
      obtain⟨a,h1,l,h2,h3,rfl⟩:=h
      obtain⟨h4,h5,h6⟩:=iToNat_some h1
      exact⟨h4,l,by rw[h5];exact h2,h3,hk⟩
    · simp only[bnd_some,on_some,fN_eq,rHas_eq,beq_eq',Nat.blt_eq,Option.some.injEq] at h
      obtain⟨a,h1,h2,l,h3,h4,rfl⟩:=h
      obtain⟨h5,h6,h7⟩:=iToNat_some h1
      refine⟨h5,by omega,?_⟩
      rw[h6,Mem.get_eq]
      exact eRow_hrow h3 ⟨h4,hk⟩
    · simp only[bnd_some,on_some,fN_eq,Bool.and_eq_true,Nat.blt_eq,Option.some.injEq] at h
      obtain⟨a,h1,⟨h2,h3⟩,rfl⟩:=h
      obtain⟨h5,h6,h7⟩:=iToNat_some h1
      refine⟨h5,by omega,by rw[Mem.get_eq];exact eLive_h h3,?_⟩
      rw[h6];exact hk
    · cases h
  · cases h
noncomputable def eIxar (m:Mem) (x i:HV):Option (Nat×TypeId×Nat)→Option HV
  | some (N,_,s)=>(match x,i with
    | .ptr n ver i0 k,.int _ i=>bnd (iToNat i) fun a=>on (Nat.blt a N&&eLive (m.get n) ver) (fN (k+a*s) fun k=>some (.ptr n ver i0 k))
    | .iptr l k,.int _ i=>bnd (iToNat i) fun a=>on (Nat.blt a N) (fN (k+a*s) fun k=>some (.iptr l k))
    | _,_=>none)
  | none=>none
theorem eIxar_h {x i y:HV} {o:Option (Nat×TypeId×Nat)} (h:eIxar m x i o=some y) (hk:K y):hixar m.pl x i K o:=by
  unfold eIxar at h
  split at h
  · unfold hixar
    split at h
    · simp only[bnd_some,on_some,fN_eq,Bool.and_eq_true,Nat.blt_eq,Option.some.injEq] at h
      obtain⟨a,h1,⟨h2,h3⟩,rfl⟩:=h
      obtain⟨h5,h6,h7⟩:=iToNat_some h1
      refine⟨h5,by omega,by rw[Mem.get_eq];exact eLive_h h3,?_⟩
      rw[h6];exact hk
    · simp only[bnd_some,on_some,fN_eq,Nat.blt_eq,Option.some.injEq] at h
      obtain⟨a,h1,h2,rfl⟩:=h
      obtain⟨h5,h6,h7⟩:=iToNat_some h1
      refine⟨h5,by omega,?_⟩
      rw[h6];exact hk
    · cases h
  · cases h
noncomputable def eIxAddr (P:Program) (m:Mem) (t:TypeId) (x i:HV):Option HV:=
  match slOf P t with
  | some r=>eIxsl m x i (some r)
  | none=>eIxar m x i (arOf P t)
theorem eIxAddr_h {t:TypeId} {x i y:HV} (h:eIxAddr P m t x i=some y) (hk:K y):hindexAddr P m.pl t x i K:=by
  unfold eIxAddr at h
  unfold hindexAddr
  cases hs:slOf P t with
  | some r=>rw[hs] at h;exact eIxsl_h h hk
  | none=>rw[hs] at h;exact eIxar_h h hk
noncomputable def eBnd (x:Option HV) (d:Int):Option Int:=
  match x with
  | none=>some d
  | some (.int _ n)=>some n
  | some _=>none
theorem eBnd_h {x:Option HV} {d n:Int} {C:Int→Prop} (h:eBnd x d=some n) (hk:C n):hbnd x d C:=by
  unfold eBnd at h
  unfold hbnd
  split at h
  · cases h;exact hk
  · cases h;exact hk
  · cases h
noncomputable def eSl3 (len lim:Nat) (low high max:Option HV):Option (Nat×Nat×Option Nat):=
  bnd (eBnd low 0) fun l=>bnd (eBnd high len) fun h=>match max with
    | none=>on (iLe 0 l&&iLe l h&&iLe h lim) (fN l.toNat fun l=>fN h.toNat fun h=>some (l,h,none))
    | some (.int _ m)=>on (high.isSome&&iLe 0 l&&iLe l h&&iLe h m&&iLe m lim) (fN l.toNat fun l=>fN h.toNat fun h=>fN m.toNat fun m=>some (l,h,some m))
    | some _=>none
theorem eSl3_h {len lim:Nat} {low high max:Option HV} {l h:Nat} {m:Option Nat} {C:Nat→Nat→Option Nat→Prop} (he:eSl3 len lim low high max=some (l,h,m)) (hk:C l h m):hslice3 len lim low high max C:=by
  unfold eSl3 at he
  rw[bnd_some] at he
  obtain⟨l',h1,he⟩:=he
  rw[bnd_some] at he
  obtain⟨h',h2,he⟩:=he
  unfold hslice3
  refine eBnd_h h1 (eBnd_h h2 ?_)
  split at he
  · simp only[on_some,fN_eq,Bool.and_eq_true,Option.some.injEq,Prod.mk.injEq] at he
    obtain⟨⟨⟨h3,h4⟩,h5⟩,rfl,rfl,rfl⟩:=he
    exact⟨iLe_le h3,iLe_le h4,iLe_le h5,hk⟩
  · simp only[on_some,fN_eq,Bool.and_eq_true,Option.some.injEq,Prod.mk.injEq] at he
    obtain⟨⟨⟨⟨⟨h0,h3⟩,h4⟩,h5⟩,h6⟩,rfl,rfl,rfl⟩:=he
    exact⟨h0,iLe_le h3,iLe_le h4,iLe_le h5,iLe_le h6,hk⟩
  · cases he
noncomputable def eSz (q:Piece) (s:Nat):Bool:=
  match q with
  | .arr _ sz _ _=>Nat.beq sz s
  | _=>false
theorem eSz_h {q:Piece} {s:Nat} (h:eSz q s=true):hsz q s:=by
  unfold eSz at h
  unfold hsz
  split at h
  · exact beq_eq'.1 h
  · cases h
noncomputable def eLim (q:Piece) (i len:Nat) (cp:Option Nat):Nat:=
  match cp with
  | some c=>c
  | none=>(match q with
    | .arr _ _ E _=>fN (rLen E) fun k=>fN (k - i) fun k=>bif Nat.ble len k then k else len
    | _=>len)
theorem eLim_eq (q:Piece) (i len:Nat) (cp:Option Nat):eLim q i len cp=hlim q i len cp:=by
  cases cp with
  | some c=>rfl
  | none=>
    cases q<;>simp only[eLim,hlim,hrest,fN_eq,rLen_eq]
    rename_i E _
    cases h:Nat.ble len (E.length - i)
    · have:¬len≤E.length - i:=fun hh=>by rw[←Nat.ble_eq,h] at hh;cases hh
      simp only[cond_false];omega
    · have:=ble_le.1 h
      simp only[cond_true];omega
noncomputable def eSlsl (m:Mem) (s:Nat) (x:HV) (low high max:Option HV):Option HV:=
  match x with
  | .imm t E=>on (rAll (fun r=>rHas r s) E) (bnd (eSl3 E.length E.length low high max) fun r=>match r with
    | (l,h,some m)=>fB (Nat.beq m h) fun t=>fL (rDrop l (rTake h E)) fun E=>some (.imm t E)
    | (l,h,none)=>fB (t&&(high.isNone || Nat.beq h E.length)) fun t=>fL (rDrop l (rTake h E)) fun E=>some (.imm t E))
  | .sl n ver i len cp=>on (eLive (m.get n) ver&&eSz (m.get n) s) (bnd (eSl3 len (eLim (m.get n) i len cp) low high max) fun r=>match r with
    | (l,h,some m)=>fN (i+l) fun i=>fN (h - l) fun h=>fN (m - l) fun m=>some (.sl n ver i h (some m))
    | (l,h,none)=>fN (i+l) fun i=>fN (h - l) fun h=>fO (cp.map (· - l)) fun c=>some (.sl n ver i h c))
  | .isl n ver i k len cp=>on (eLive (m.get n) ver) (bnd (eSl3 len cp low high max) fun r=>match r with
    | (l,h,some m)=>fN (k+l*s) fun k=>fN (h - l) fun h=>fN (m - l) fun m=>some (.isl n ver i k h m)
    | (l,h,none)=>fN (k+l*s) fun k=>fN (h - l) fun h=>fN (cp - l) fun m=>some (.isl n ver i k h m))
  | _=>none
theorem decEq_beq (a b:Nat):decide (a=b)=Nat.beq a b:=by rw[Bool.eq_iff_iff];simp
theorem eSlsl_h {s:Nat} {x y:HV} {low high max:Option HV} (h:eSlsl m s x low high max=some y) (hk:K y):hslsl m.pl s x low high max K:=by
  unfold eSlsl at h
  unfold hslsl
  split at h
  · simp only[on_some,bnd_some] at h
    obtain⟨h1,⟨l,h',mm⟩,h2,h3⟩:=h
    refine⟨fun r hr=>(by have:=List.all_eq_true.1 ((rAll_eq _ _).symm.trans h1) r hr;rw[rHas_eq] at this;exact beq_eq'.1 this),eSl3_h h2 ?_⟩
    cases mm with
    | some mm=>simp only[fB_eq,fL_eq,rDrop_eq,rTake_eq] at h3;cases h3;simp only[decEq_beq];exact hk
    | none=>simp only[fB_eq,fL_eq,rDrop_eq,rTake_eq] at h3;cases h3;simp only[decEq_beq];exact hk
  · simp only[on_some,bnd_some,Bool.and_eq_true] at h
    obtain⟨⟨h1,h1'⟩,⟨l,h',mm⟩,h2,h3⟩:=h
    rw[eLim_eq] at h2
    simp only[Mem.get_eq]
    refine⟨eLive_h h1,eSz_h h1',eSl3_h h2 ?_⟩
    cases mm<;>(simp only[fN_eq,fO_eq] at h3;cases h3;exact hk)
  · simp only[on_some,bnd_some] at h
    obtain⟨h1,⟨l,h',mm⟩,h2,h3⟩:=h
    refine⟨by rw[Mem.get_eq];exact eLive_h h1,eSl3_h h2 ?_⟩
    cases mm<;>(simp only[fN_eq,fO_eq] at h3;cases h3;exact hk)
  · cases h
noncomputable def eSlar (m:Mem) (N s:Nat) (x:HV) (low high max:Option HV):Option HV:=
  match x with
  | .ptr n ver i k=>on (Nat.ble N 65536&&eLive (m.get n) ver) (bnd (eSl3 N N low high max) fun r=>match r with
    | (l,h,mm)=>fN (k+l*s) fun k=>fN (h - l) fun h=>fN (mm.getD N - l) fun c=>some (.isl n ver i k h c))
  | .iptr c k=>on (Nat.ble N 65536&&Nat.beq s 1&&Nat.ble (k+N) (rLen c)) (bnd (eSl3 N N low high max) fun r=>match r with
    | (l,h,mm)=>fB (Nat.beq (mm.getD N) h) fun t=>fLL ((rTake (h - l) (rDrop (k+l) c)).map fun y=>[y]) fun E=>some (.imm t E))
  | _=>none
theorem eSlar_h {N s:Nat} {x y:HV} {low high max:Option HV} (h:eSlar m N s x low high max=some y) (hk:K y):hslar m.pl N s x low high max K:=by
  unfold eSlar at h
  unfold hslar
  split at h
  · simp only[on_some,bnd_some,Bool.and_eq_true,ble_le] at h
    obtain⟨⟨h1,h1'⟩,⟨l,h',mm⟩,h2,h3⟩:=h
    simp only[fN_eq] at h3
    cases h3
    exact⟨h1,by rw[Mem.get_eq];exact eLive_h h1',eSl3_h h2 hk⟩
  · simp only[on_some,bnd_some,Bool.and_eq_true,ble_le,beq_eq'] at h
    obtain⟨⟨⟨h1,h1'⟩,h1''⟩,⟨l,h',mm⟩,h2,h3⟩:=h
    rw[rLen_eq] at h1''
    simp only[fB_eq,fLL_eq,rDrop_eq,rTake_eq] at h3
    cases h3
    refine⟨h1,h1',h1'',eSl3_h h2 ?_⟩
    simp only[decEq_beq];exact hk
  · cases h
noncomputable def eSlstr (x:HV) (low high max:Option HV):Option HV:=
  match x with
  | .str s=>on max.isNone (bnd (eSl3 s.length s.length low high none) fun r=>match r with
    | (l,h,_)=>fL (rDrop l (rTake h s)) fun l=>some (.str l))
  | _=>none
theorem eSlstr_h {x y:HV} {low high max:Option HV} (h:eSlstr x low high max=some y) (hk:K y):hslstr x low high max K:=by
  unfold eSlstr at h
  unfold hslstr
  split at h
  · simp only[on_some,bnd_some] at h
    obtain⟨h1,⟨l,h',mm⟩,h2,h3⟩:=h
    simp only[fL_eq,rDrop_eq,rTake_eq] at h3
    cases h3
    exact⟨h1,eSl3_h h2 hk⟩
  · cases h
noncomputable def eSlice (P:Program) (m:Mem) (t:TypeId) (x:HV) (low high max:Option HV):Option HV:=
  match P.underlying t with
  | some .string=>eSlstr x low high max
  | some (.slice _)=>bnd (slOf P t) fun r=>eSlsl m r.2 x low high max
  | some (.array _ _)=>bnd (arOf P t) fun r=>eSlar m r.1 r.2.2 x low high max
  | some (.pointer ar)=>bnd (arOf P ar) fun r=>eSlar m r.1 r.2.2 x low high max
  | _=>none
theorem eSlice_h {t:TypeId} {x y:HV} {low high max:Option HV} (h:eSlice P m t x low high max=some y) (hk:K y):hslice P m.pl t x low high max K:=by
  unfold eSlice at h
  unfold hslice
  split at h<;>rename_i hu<;>simp only[hu]
  · exact eSlstr_h h hk
  · rw[bnd_some] at h;obtain⟨⟨a,b⟩,h1,h2⟩:=h;rw[h1];exact eSlsl_h h2 hk
  · rw[bnd_some] at h;obtain⟨⟨a,b,c⟩,h1,h2⟩:=h;rw[h1];exact eSlar_h h2 hk
  · rw[bnd_some] at h;obtain⟨⟨a,b,c⟩,h1,h2⟩:=h;rw[h1];exact eSlar_h h2 hk
  · cases h
noncomputable def eVer (q:Piece) (ver:Nat):Bool:=
  match q with
  | .arr ver' _ _ _=>Nat.beq ver ver'
  | _=>false
theorem eVer_h {q:Piece} {ver:Nat} (h:eVer q ver=true):hver q ver:=by
  unfold eVer at h
  unfold hver
  split at h
  · exact beq_eq'.1 h
  · cases h
noncomputable def eLen (P:Program) (m:Mem) (t:TypeId) (x:HV):Option HV:=
  match P.underlying t with
  | some .string=>(match x with | .str s=>fN (rLen s) fun n=>some (.int .i64 (.ofNat n)) | .stok i=>bnd (Toks.slen i) fun j=>fN j fun j=>some (.tok .i64 j) | _=>none)
  | some (.slice _)=>(match x with
    | .imm _ E=>fN (rLen E) fun n=>some (.int .i64 (.ofNat n))
    | .sl n ver _ len _=>on (eVer (m.get n) ver) (some (.int .i64 (.ofNat len)))
    | .isl n ver _ _ len _=>on (eVer (m.get n) ver) (some (.int .i64 (.ofNat len)))
    | .nam i=>bnd (Toks.rlen i) fun j=>fN j fun j=>some (.tok .i64 j)
    | _=>none)
  | some (.array n _)=>some (.int .i64 (.ofNat n))
  | some (.pointer ar)=>(match P.underlying ar with | some (.array n _)=>some (.int .i64 (.ofNat n)) | _=>none)
  | _=>none
theorem eLen_h {t:TypeId} {x y:HV} (h:eLen P m t x=some y) (hk:K y):hlenP P m.pl t x K:=by
  unfold eLen at h
  unfold hlenP
  split at h<;>rename_i hu<;>simp only[hu]
  · split at h
    · rw[fN_eq,rLen_eq] at h;cases h;exact hk
    · simp only[bnd_some,fN_eq,Option.some.injEq] at h
      obtain⟨j,hj,rfl⟩:=h
      simp only[hj];exact hk
    · cases h
  · split at h
    · rw[fN_eq,rLen_eq] at h;cases h;exact hk
    · rw[on_some] at h;obtain⟨h1,h2⟩:=h;cases h2;exact⟨by rw[Mem.get_eq];exact eVer_h h1,hk⟩
    · rw[on_some] at h;obtain⟨h1,h2⟩:=h;cases h2;exact⟨by rw[Mem.get_eq];exact eVer_h h1,hk⟩
    · simp only[bnd_some,fN_eq,Option.some.injEq] at h
      obtain⟨j,hj,rfl⟩:=h
      show hnlen _ K
      unfold hnlen
      rw[hj];exact hk
    · cases h
  · cases h;exact hk
  · split at h
    · rename_i hv;simp only[hv];cases h;exact hk
    · cases h
  · cases h
noncomputable def eExt (x:HV) (i:Nat):Option HV:=
  match x with
  | .tup l=>lg l i
  | _=>none
theorem eExt_h {x y:HV} {i:Nat} (h:eExt x i=some y) (hk:K y):hext x i K:=by
  unfold eExt at h
  unfold hext
  split at h
  · rw[lg_eq] at h;exact⟨y,h,hk⟩
  · cases h
noncomputable def ePart (b:Bool) (s off:Nat) (l:List HV):Option HV:=bif b then bnd (eSub l off s) fun c=>some (.agg c) else lg l off
theorem ePart_h {b:Bool} {s off:Nat} {l:List HV} {y:HV} (h:ePart b s off l=some y) (hk:K y):hpart b s off l K:=by
  unfold ePart at h
  unfold hpart
  cases b
  · simp only[cond_false,lg_eq] at h;exact⟨y,h,hk⟩
  · simp only[cond_true,bnd_some] at h
    obtain⟨c,h1,h2⟩:=h
    cases h2
    obtain⟨h3,rfl⟩:=eSub_some h1
    exact⟨h3,hk⟩
noncomputable def eFieldv (P:Program) (t:TypeId) (x:HV) (f:Nat):Option HV:=
  match P.underlying t,x with
  | some (.struct fs),.agg l=>(match fs[f]? with
    | some g=>bnd (tsz P g.type) fun r=>ePart r.1 r.2 g.offset l
    | none=>none)
  | _,_=>none
theorem eFieldv_h {t:TypeId} {x y:HV} {f:Nat} (h:eFieldv P t x f=some y) (hk:K y):hfieldv P t x f K:=by
  unfold eFieldv at h
  unfold hfieldv
  split at h
  · rename_i hu;simp only[hu]
    split at h
    · rename_i hf;simp only[hf]
      rw[bnd_some] at h;obtain⟨⟨a,b⟩,h1,h2⟩:=h;rw[h1];exact ePart_h h2 hk
    · cases h
  · cases h
noncomputable def eIndex (P:Program) (t:TypeId) (x i:HV):Option HV:=
  match P.underlying t with
  | some .string=>(match x,i with
    | .str s,.int _ n=>bnd (iToNat n) fun a=>bnd (lg s a) fun b=>fN b.toNat fun b=>some (.int .u8 (.ofNat b))
    | _,_=>none)
  | some (.array N e)=>(match x,i with
    | .agg l,.int _ n=>bnd (iToNat n) fun a=>on (Nat.blt a N) (bnd (tsz P e) fun r=>ePart r.1 r.2 (a*r.2) l)
    | _,_=>none)
  | _=>none
theorem eIndex_h {t:TypeId} {x i y:HV} (h:eIndex P t x i=some y) (hk:K y):hindex P t x i K:=by
  unfold eIndex at h
  unfold hindex
  split at h<;>rename_i hu<;>simp only[hu]
  · split at h
    · simp only[bnd_some,lg_eq,fN_eq,Option.some.injEq] at h
      obtain⟨a,h1,b,h2,rfl⟩:=h
      obtain⟨h3,h4,h5⟩:=iToNat_some h1
      exact⟨h3,b,by rw[h4];exact h2,hk⟩
    · cases h
  · split at h
    · simp only[bnd_some,on_some,Nat.blt_eq] at h
      obtain⟨a,h1,h2,⟨b,s⟩,h6,h7⟩:=h
      obtain⟨h3,h4,h5⟩:=iToNat_some h1
      refine⟨h3,by omega,?_⟩
      rw[h6,h4]
      exact ePart_h h7 hk
    · cases h
  · cases h
noncomputable def eNil (m:Mem) (x:HV):Option HV:=
  match x with
  | .ptr n ver i k=>on (eLive (m.get n) ver) (some (.ptr n ver i k))
  | .iptr l k=>some (.iptr l k)
  | .func (.func f) a b=>some (.func (.func f) a b)
  | .cst (.func (.func f) a b)=>some (.cst (.func (.func f) a b))
  | .iface t y=>some (.iface t y)
  | _=>none
theorem eNil_h {x y:HV} (h:eNil m x=some y) (hk:K y):hnil m.pl x K:=by
  unfold eNil at h
  unfold hnil
  split at h
  · rw[on_some] at h;obtain⟨h1,h2⟩:=h;cases h2;exact⟨by rw[Mem.get_eq];exact eLive_h h1,hk⟩
  · cases h;exact hk
  · cases h;exact hk
  · cases h;exact hk
  · cases h;exact hk
  · cases h
noncomputable def ePick (c a b:HV):Option HV:=
  match c with
  | .bool true=>some a
  | .bool false=>some b
  | _=>none
theorem ePick_h {c a b y:HV} (h:ePick c a b=some y) (hk:K y):hpick c a b K:=by
  unfold ePick at h
  split at h
  · cases h;exact⟨fun _=>hk,fun e=>(by cases e)⟩
  · cases h;exact⟨fun e=>(by cases e),fun _=>hk⟩
  · cases h
noncomputable def eKind (k:IntKind) (n:Int):Option HV:=
  match k with
  | .i64=>on (in64 n) (some (.int .i64 n))
  | .u64=>on (inU64 n) (some (.int .u64 n))
  | k=>fI (k.wrap n) fun n=>some (.int k n)
theorem eKind_h {k:IntKind} {n:Int} {y:HV} (h:eKind k n=some y) (hk:K y):hkind k n K:=by
  unfold eKind at h
  unfold hkind
  cases k
  case i64=>simp only[on_some,Option.some.injEq] at h;obtain⟨h1,rfl⟩:=h;exact⟨in64_r h1,hk⟩
  case u64=>simp only[on_some,Option.some.injEq] at h;obtain⟨h1,rfl⟩:=h;exact⟨inU64_h h1,hk⟩
  all_goals (simp only[fI_eq] at h;cases h;exact hk)
/-- A named number,of another kind. -/
noncomputable def eTk (k:IntKind) (i:Nat):Option HV:=
  bnd (Toks.conv i k) fun j=>fN j fun j=>(match k with
    | .i64=>on (in64 (Toks.lo i)&&in64 (Toks.hi i)) (some (.tok .i64 j))
    | .u64=>on (inU64 (Toks.lo i)&&inU64 (Toks.hi i)) (some (.tok .u64 j))
    | .u8=>on (iLe 0 (Toks.lo i)&&iLe (Toks.hi i) 255) (some (.tok .u8 j))
    | _=>none)
theorem eTk_h {k:IntKind} {i:Nat} {y:HV} (h:eTk k i=some y) (hk:K y):hkind k (Toks.num i) (rename (Toks.conv i k) K):=by
  simp only[eTk,bnd_some,fN_eq] at h
  obtain⟨j,hj,h⟩:=h
  have e:=Toks.conv_ok i k j hj
  rw[hj]
  split at h
  · simp only[on_some,Bool.and_eq_true,Option.some.injEq] at h
    obtain⟨⟨h1,h2⟩,rfl⟩:=h
    exact⟨in64_mid h1 h2 (Toks.rng i),e.symm,hk⟩
  · simp only[on_some,Bool.and_eq_true,Option.some.injEq] at h
    obtain⟨⟨h1,h2⟩,rfl⟩:=h
    exact⟨inU64_mid h1 h2 (Toks.rng i),e.symm,hk⟩
  · simp only[on_some,Bool.and_eq_true,Option.some.injEq] at h
    obtain⟨⟨h1,h2⟩,rfl⟩:=h
    have:=Toks.rng i
    have b1:=iLe_le h1
    have b2:=iLe_le h2
    exact⟨by rw[wrapd_u8 ⟨by omega,by omega⟩];exact e.symm,hk⟩
  · cases h
noncomputable def eRows (m:Mem) (s:Nat) (x:HV):Option (List (List HV)):=
  match x with
  | .imm _ E=>on (rAll (fun r=>rHas r s) E) (some E)
  | .sl n ver i len _=>(match m.get n with
    | .arr ver' sz E _=>on (Nat.beq ver ver'&&(Nat.beq len 0 || Nat.beq sz s)&&Nat.ble (i+len) (rLen E)) (some (rTake len (rDrop i E)))
    | _=>none)
  | .isl n ver i k len _=>on (Nat.beq s 1) (bnd (eRow (m.get n) ver i) fun l=>on (Nat.ble (k+len) (rLen l)) (some ((rTake len (rDrop k l)).map fun y=>[y])))
  | _=>none
theorem eRows_h {s:Nat} {x:HV} {E:List (List HV)} {C:List (List HV)→Prop} (h:eRows m s x=some E) (hk:C E):hrows m.pl s x C:=by
  unfold eRows at h
  unfold hrows
  split at h
  · rw[on_some] at h;obtain⟨h1,h2⟩:=h;cases h2
    exact⟨fun r hr=>(by have:=List.all_eq_true.1 ((rAll_eq _ _).symm.trans h1) r hr;rw[rHas_eq] at this;exact beq_eq'.1 this),hk⟩
  · simp only[Mem.get_eq]
    split at h
    · rename_i hg;rw[hg]
      simp only[on_some,rLen_eq,rDrop_eq,rTake_eq,Bool.and_eq_true,Bool.or_eq_true,beq_eq',ble_le,Option.some.injEq] at h
      obtain⟨⟨⟨h1,h2⟩,h3⟩,rfl⟩:=h
      exact⟨h1,h2,h3,hk⟩
    · cases h
  · simp only[on_some,rLen_eq,rDrop_eq,rTake_eq,bnd_some,beq_eq',ble_le,Option.some.injEq] at h
    obtain⟨h1,l,h2,h3,rfl⟩:=h
    exact⟨h1,by rw[Mem.get_eq];exact eRow_hrow h2 ⟨h3,hk⟩⟩
  · cases h
noncomputable def isKind (P:Program) (t:TypeId) (k:IntKind):Bool:=match P.underlying t with | some (.int k')=>kEq k' k | _=>false
theorem isKind_h {t:TypeId} {k:IntKind} (h:isKind P t k=true):P.underlying t=some (.int k):=by
  unfold isKind at h
  split at h
  · rename_i k' hk;rw[hk,kEq_eq h]
  · cases h
noncomputable def eConv (P:Program) (m:Mem) (src dst:TypeId) (x:HV):Option HV:=
  match P.underlying src with
  | none=>none
  | some s=>match P.underlying dst with
    | some (.int k)=>(match x with | .int _ n=>eKind k n | .tok _ i=>eTk k i | _=>none)
    | some .string=>(match s,x with
      | .string,.str l=>some (.str l)
      | .slice e,x=>on (isKind P e .u8) (bnd (eRows m 1 x) fun E=>bnd (bytesOf E) fun l=>fL l fun l=>some (.str l))
      | _,_=>none)
    | _=>none
theorem eConv_h {s d:TypeId} {x y:HV} (h:eConv P m s d x=some y) (hk:K y):hconv P m.pl s d x K:=by
  unfold eConv at h
  unfold hconv
  split at h
  · cases h
  · rename_i st hs
    simp only[hs]
    split at h
    · rename_i k hd;simp only[hd]
      split at h
      · exact eKind_h h hk
      · exact eTk_h h hk
      · cases h
    · rename_i hd;simp only[hd]
      split at h
      · cases h;exact hk
      · rename_i e x
        simp only[on_some,bnd_some,fL_eq,Option.some.injEq] at h
        obtain⟨h1,E,h2,l,h3,rfl⟩:=h
        exact⟨isKind_h h1,eRows_h h2 ⟨l,h3,hk⟩⟩
      · cases h
    · cases h
noncomputable def eStrb (P:Program) (src dst:TypeId) (l:List UInt8):Option HV:=
  match P.underlying dst with
  | some (.slice e)=>(match P.underlying src with
    | some .string=>on (isKind P e .u8&&Nat.ble l.length 140737488355328) (fBR l fun E=>some (.imm false E))
    | _=>none)
  | _=>none
noncomputable def eConvert (P:Program) (m:Mem) (s d:TypeId) (x:HV):Option HV:=
  match x with
  | .str l=>(match P.underlying d with
    | some (.slice _)=>eStrb P s d l
    | _=>eConv P m s d (.str l))
  | x=>eConv P m s d x
theorem eConvert_h {s d:TypeId} {x y:HV} (h:eConvert P m s d x=some y) (hk:K y):hconvert P m.pl s d x K:=by
  have main:∀x,eConv P m s d x=some y→hconv P m.pl s d x K:=fun x h=>eConv_h h hk
  cases x with
  | str l=>
    simp only[eConvert] at h
    simp only[hconvert]
    split at h
    · rename_i e hd;simp only[hd]
      unfold eStrb at h
      unfold hstrb
      rw[hd] at h ⊢
      simp only at h ⊢
      split at h
      · rename_i hs
        simp only[on_some,Bool.and_eq_true,ble_le,fBR_eq,Option.some.injEq] at h
        obtain⟨⟨h1,h2⟩,rfl⟩:=h
        exact⟨hs,isKind_h h1,h2,hk⟩
      · cases h
    · rename_i hd
      split
      · rename_i e hd';exact absurd hd' (hd e)
      · exact main _ h
  | _=>simp only[eConvert] at h;exact main _ h
end
end Go.Eng
