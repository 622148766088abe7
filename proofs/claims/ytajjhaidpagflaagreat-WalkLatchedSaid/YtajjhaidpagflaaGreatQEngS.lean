/-
How the abstract meaning is worked out: rewriting rules.
No conditions.
-/
import Derived.Test.YtajjhaidpagflaaGreatQEngW
set_option linter.unusedSectionVars false
set_option linter.unusedSimpArgs false
set_option linter.unusedVariables false
namespace Go.Eng
open Go
variable [Toks]
/-! ### Frames and operands -/
@[go_sem] theorem get_zero (a:HV) (l:Fr):get (a::l) 0=a:=_root_.id rfl
@[go_sem] theorem get_succ (a:HV) (l:Fr) (n:Nat):get (a::l) (n+1)=get l n:=_root_.id rfl
def fset (l:Fr) (n:Nat) (v:HV):Fr:=l.set n v
@[go_sem] theorem fset_zero (a v:HV) (l:Fr):fset (a::l) 0 v=v::l:=_root_.id rfl
@[go_sem] theorem fset_succ (a v:HV) (l:Fr) (n:Nat):fset (a::l) (n+1) v=a::fset l n v:=_root_.id rfl
@[go_sem] theorem hput_some (l:Fr) (n:Nat) (v:HV):hput l (some n) v=fset l n v:=_root_.id rfl
@[go_sem] theorem hput_none (l:Fr) (v:HV):hput l none v=l:=_root_.id rfl
/-- A mark:to be worked out. -/
def nf (l:Fr):Fr:=l
@[go_sem] theorem nf_cons (a:HV) (l:Fr):nf (a::l)=a::l:=_root_.id rfl
@[go_sem ↓] theorem ev_tmp (l:Fr) (n:Nat):ev l (.tmp n)=get l n:=_root_.id rfl
@[go_sem ↓] theorem ev_const_int (l:Fr) (k:IntKind) (n:Int):ev l (.const (.int k n))=.int k n:=_root_.id rfl
@[go_sem ↓] theorem ev_const_bool (l:Fr) (b:Bool):ev l (.const (.bool b))=.bool b:=_root_.id rfl
@[go_sem ↓] theorem ev_const_nil (l:Fr):ev l (.const (.slice none 0 0))=.imm true []:=_root_.id rfl
@[go_sem ↓] theorem ev_const_str (l:Fr) (s:ByteArray):ev l (.const (.string s))=.str s.data.toList:=_root_.id rfl
@[go_sem ↓] theorem ev_const_nili (l:Fr):ev l (.const .nilIface)=.cst .nilIface:=_root_.id rfl
@[go_sem ↓] theorem ev_func (l:Fr) (f:FuncId):ev l (.func f)=.cst (.func (.func f) #[] #[]):=_root_.id rfl
/-- So many alike:worked out. -/
def rep {α:Type}:Nat→α→List α
  | 0,_=>[]
  | n+1,a=>a::rep n a
theorem rep_eq {α:Type} (n:Nat) (a:α):rep n a=List.replicate n a:=by
  induction n with
  | zero=>rfl
  | succ n ih=>simp[rep,ih,List.replicate_succ]
@[go_sem] theorem rep_zero {α:Type} (a:α):rep 0 a=[]:=_root_.id rfl
@[go_sem] theorem rep_succ {α:Type} (n:Nat) (a:α):rep (n+1) a=a::rep n a:=_root_.id rfl
/-- All are values of one cell. -/
def ones:List HV→Prop
  | []=>True
  | x::l=>HV.one x=true∧ones l
theorem ones_iff (l:List HV):ones l↔∀y∈l,HV.one y=true:=by
  induction l with
  | nil=>simp[ones]
  | cons x l ih=>simp[ones,ih]
@[go_sem] theorem ones_nil:ones []=True:=_root_.id rfl
@[go_sem] theorem ones_cons (x:HV) (l:List HV):ones (x::l)=(HV.one x=true∧ones l):=_root_.id rfl
@[go_sem] theorem one_bool (b:Bool):HV.one (.bool b)=true:=_root_.id rfl
@[go_sem] theorem one_int (k:IntKind) (n:Int):HV.one (.int k n)=true:=_root_.id rfl
@[go_sem] theorem one_imm (t:Bool) (E:List (List HV)):HV.one (.imm t E)=true:=_root_.id rfl
/-! ### What may be looked at ahead of what follows -/
/-- A thing that is not looked into. -/
class Hold where
  val:Prop
/-- What is always worked out anew:so that a congruence that holds back what follows is always taken. -/
def HoldOn:Prop:=True
@[go_sem] theorem holdOn:HoldOn=True:=_root_.id rfl
/-- To be gone on with by hand. -/
def pend [h:Hold]:Prop:=h.val
theorem pend_intro {A:Prop} (h:A): @pend ⟨A⟩:=h
/-- Either;the other one is not looked into. -/
def hor (A:Prop) [h:Hold]:Prop:=A∨h.val
/-- There is an element,and of it. -/
def hsome {α:Type} (o:Option α) (C:α→Prop):Prop:=∃l,o=some l∧C l
@[go_sem ↓,go_sem] theorem hsome_some {α:Type} (l:α) (C:α→Prop):hsome (some l) C=C l:=by simp[hsome]
@[go_sem ↓,go_sem] theorem hsome_map {α β:Type} (f:α→β) (o:Option α) (C:β→Prop):hsome (o.map f) C=hsome o fun a=>C (f a):=by
  unfold hsome;cases o<;>simp
/-- A row of elements:what it is. -/
def harr (q:Piece) (C:Nat→Nat→List (List HV)→Bool→Prop):Prop:=match q with | .arr v s E o=>C v s E o | _=>False
@[go_sem ↓,go_sem] theorem harr_arr (v s:Nat) (E:List (List HV)) (o:Bool) (C:Nat→Nat→List (List HV)→Bool→Prop):harr (.arr v s E o) C=C v s E o:=_root_.id rfl
/-- A pure call,and of its result. -/
def hpure (P:Program) (g:FuncId) (args:List HV) (K:HV→Prop):Prop:=∃x,Pure P g args x∧K x
def hreads (P:Program) (g:FuncId) (args:List HV) (PS:PL) (K:HV→Prop):Prop:=∃x,Reads P g args PS x∧K x
theorem Pure.to {P:Program} {g:FuncId} {args:List HV} {K:HV→Prop} {x:HV} (h:Pure P g args x) (k:K x):hpure P g args K:=⟨x,h,k⟩
theorem Reads.to {P:Program} {g:FuncId} {args:List HV} {PS:PL} {K:HV→Prop} {x:HV} (h:Reads P g args PS x) (k:K x):hreads P g args PS K:=⟨x,h,k⟩
@[congr] theorem hsome_congr {α:Type} {o o':Option α} {C:α→Prop} {dd:Prop} (_hd:HoldOn=dd) (h:o=o'):hsome o C=hsome o' C:=by rw[h]
@[congr] theorem harr_congr {q q':Piece} {C:Nat→Nat→List (List HV)→Bool→Prop} {dd:Prop} (_hd:HoldOn=dd) (h:q=q'):harr q C=harr q' C:=by rw[h]
section
variable {P:Program} {pu:Pu} {fr fr':Fr} {PS:PL} {K:HV→Prop} {L:HV→PL→Prop} {x x' y y' z z':HV} {xs xs':List HV}
@[congr] theorem c_hrow {q q':Piece} {v i:Nat} {C:List HV→Prop} {dd:Prop} (_hd:HoldOn=dd) (h:q=q'):hrow q v i C=hrow q' v i C:=by rw[h]
@[congr] theorem c_hone {l l':List HV} {dd:Prop} (_hd:HoldOn=dd) (h:l=l'):hone K l=hone K l':=by rw[h]
@[congr] theorem c_hload {o o':Option (Bool×Nat)} {dd:Prop} (_hd:HoldOn=dd) (h:x=x') (h2:o=o'):hload PS x K o=hload PS x' K o':=by rw[h,h2]
@[congr] theorem c_hnil {dd:Prop} (_hd:HoldOn=dd) (h:x=x'):hnil PS x K=hnil PS x' K:=by rw[h]
@[congr] theorem c_hpick {dd:Prop} (_hd:HoldOn=dd) (h:x=x') (h2:y=y') (h3:z=z'):hpick x y z K=hpick x' y' z' K:=by rw[h,h2,h3]
@[congr] theorem c_hbin {op:BinOp} {t:TypeId} {dd:Prop} (_hd:HoldOn=dd) (h:x=x') (h2:y=y'):hbin P PS op t x y K=hbin P PS op t x' y' K:=by rw[h,h2]
@[congr] theorem c_hslnil {op:BinOp} {t:TypeId} {dd:Prop} (_hd:HoldOn=dd) (h:x=x'):hslnil P PS op t x K=hslnil P PS op t x' K:=by rw[h]
@[congr] theorem c_hlookup {b:Bool} {o o':Option (IntKind×HV)} {dd:Prop} (_hd:HoldOn=dd) (h:x=x') (h2:y=y') (h3:o=o'):hlookup PS x y b K o=hlookup PS x' y' b K o':=by rw[h,h2,h3]
@[congr] theorem c_hmapset {C:PL→Prop} {o o':Option (IntKind×HV)} {dd:Prop} (_hd:HoldOn=dd) (h:x=x') (h2:y=y') (h4:z=z') (h3:o=o'):hmapset PS x y z C o=hmapset PS x' y' z' C o':=by rw[h,h2,h4,h3]
@[congr] theorem c_hrange {o o':Option (IntKind×HV)} {dd:Prop} (_hd:HoldOn=dd) (h:x=x') (h3:o=o'):hrange PS x L o=hrange PS x' L o':=by rw[h,h3]
@[congr] theorem c_hnext {dd:Prop} (_hd:HoldOn=dd) (h:x=x'):hnext PS x L=hnext PS x' L:=by rw[h]
@[congr] theorem c_hentry {dd:Prop} (_hd:HoldOn=dd) (h:x=x'):hentry PS x K=hentry PS x' K:=by rw[h]
@[congr] theorem c_hmapOf {q q':Piece} {C:Nat→Nat→IntKind→Ents→Prop} {dd:Prop} (_hd:HoldOn=dd) (h:q=q'):hmapOf q C=hmapOf q' C:=by rw[h]
@[congr] theorem c_hun {op:UnOp} {dd:Prop} (_hd:HoldOn=dd) (h:x=x'):hun op x K=hun op x' K:=by rw[h]
@[congr] theorem c_hfield {o o':Option (Nat×Nat)} {dd:Prop} (_hd:HoldOn=dd) (h:x=x') (h2:o=o'):hfield PS x K o=hfield PS x' K o':=by rw[h,h2]
@[congr] theorem c_hixsl {o o':Option (TypeId×Nat)} {dd:Prop} (_hd:HoldOn=dd) (h:x=x') (h2:y=y') (h3:o=o'):hixsl PS x y K o=hixsl PS x' y' K o':=by rw[h,h2,h3]
@[congr] theorem c_hixar {o o':Option (Nat×TypeId×Nat)} {dd:Prop} (_hd:HoldOn=dd) (h:x=x') (h2:y=y') (h3:o=o'):hixar PS x y K o=hixar PS x' y' K o':=by rw[h,h2,h3]
/-- An address of an element,the types known. -/
def hia (PS:PL) (x i:HV) (K:HV→Prop) (a:Option (TypeId×Nat)) (b:Option (Nat×TypeId×Nat)):Prop:=
  match a with
  | some r=>hixsl PS x i K (some r)
  | none=>hixar PS x i K b
@[go_sem ↓] theorem hindexAddr_eq {t:TypeId}:hindexAddr P PS t x y K=hia PS x y K (slOf P t) (arOf P t):=by unfold hindexAddr hia;split<;>simp_all
@[congr] theorem c_hia {a a':Option (TypeId×Nat)} {b:Option (Nat×TypeId×Nat)} {dd:Prop} (_hd:HoldOn=dd) (h:a=a'):hia PS x y K a b=hia PS x y K a' b:=by rw[h]
@[go_sem ↓,go_sem] theorem hia_some {r:TypeId×Nat} {b:Option (Nat×TypeId×Nat)}:hia PS x y K (some r) b=hixsl PS x y K (some r):=_root_.id rfl
@[go_sem ↓,go_sem] theorem hia_none {b:Option (Nat×TypeId×Nat)}:hia PS x y K none b=hixar PS x y K b:=_root_.id rfl
@[congr] theorem c_hext {i:Nat} {dd:Prop} (_hd:HoldOn=dd) (h:x=x'):hext x i K=hext x' i K:=by rw[h]
@[congr] theorem c_hslice3 {a a' b b':Nat} {l l' h h' m m':Option HV} {C:Nat→Nat→Option Nat→Prop} {dd:Prop} (_hd:HoldOn=dd) (e1:a=a') (e2:b=b') (e3:l=l') (e4:h=h') (e5:m=m'):hslice3 a b l h m C=hslice3 a' b' l' h' m' C:=by rw[e1,e2,e3,e4,e5]
@[congr] theorem c_hslsl {s:Nat} {l l' h h' m m':Option HV} {dd:Prop} (_hd:HoldOn=dd) (e1:x=x') (e2:l=l') (e3:h=h') (e4:m=m'):hslsl PS s x l h m K=hslsl PS s x' l' h' m' K:=by rw[e1,e2,e3,e4]
@[congr] theorem c_hslar {N s:Nat} {l l' h h' m m':Option HV} {dd:Prop} (_hd:HoldOn=dd) (e1:x=x') (e2:l=l') (e3:h=h') (e4:m=m'):hslar PS N s x l h m K=hslar PS N s x' l' h' m' K:=by rw[e1,e2,e3,e4]
@[congr] theorem c_hslstr {l l' h h' m m':Option HV} {dd:Prop} (_hd:HoldOn=dd) (e1:x=x') (e2:l=l') (e3:h=h') (e4:m=m'):hslstr x l h m K=hslstr x' l' h' m' K:=by rw[e1,e2,e3,e4]
@[congr] theorem c_hconvert {s d:TypeId} {dd:Prop} (_hd:HoldOn=dd) (h:x=x'):hconvert P PS s d x K=hconvert P PS s d x' K:=by rw[h]
@[congr] theorem c_hfill {t:TypeId} {C:List HV→Prop} {l l':List HV} {ps ps':List (Nat×HV)} {dd:Prop} (_hd:HoldOn=dd) (h:l=l') (h2:ps=ps'):hfill P t C l ps=hfill P t C l' ps':=by rw[h,h2]
@[congr] theorem c_hst {C:List HV→Prop} {dd:Prop} (_hd:HoldOn=dd) (h:x=x'):hst x C=hst x' C:=by rw[h]
@[congr] theorem c_hbsl {n:Nat} {ps ps':List (Nat×HV)} {o o':Option (Nat×Nat×List HV)} {dd:Prop} (_hd:HoldOn=dd) (h2:ps=ps') (h:o=o'):hbsl n ps K o=hbsl n ps' K o':=by rw[h,h2]
@[congr] theorem c_hminmax {b:Bool} {dd:Prop} (_hd:HoldOn=dd) (h:xs=xs'):hminmax b K xs=hminmax b K xs':=by rw[h]
@[congr] theorem c_hbox {dd:Prop} (_hd:HoldOn=dd) (h:x=x'):hbox x PS L=hbox x' PS L:=by rw[h]
@[congr] theorem c_hmake {o o':Option (Nat×Nat×List HV)} {dd:Prop} (_hd:HoldOn=dd) (h:x=x') (h2:y=y') (h3:o=o'):hmake PS x y L o=hmake PS x' y' L o':=by rw[h,h2,h3]
@[congr] theorem c_hstore {C:PL→Prop} {o o':Option (Bool×Nat)} {dd:Prop} (_hd:HoldOn=dd) (h:x=x') (h2:y=y') (h3:o=o'):hstore PS x y C o=hstore PS x' y' C o':=by rw[h,h2,h3]
@[congr] theorem c_happ2 {s b:Nat} {N N':List (List HV)} {dd:Prop} (_hd:HoldOn=dd) (h:x=x') (h2:N=N'):happ2 PS s b x N L=happ2 PS s b x' N' L:=by rw[h,h2]
@[congr] theorem c_hcallv {o o':Option (FuncId×List HV×List HV)} {PS':PL} {dd:Prop} (_hd:HoldOn=dd) (h:xs=xs') (h2:o=o') (h3:PS=PS'):hcallv P xs PS L o=hcallv P xs' PS' L o':=by rw[h,h2,h3]
@[congr] theorem c_HCall {f:FuncId} {PS':PL} {dd:Prop} (_hd:HoldOn=dd) (h:xs=xs') (h2:PS=PS'):HCall P f xs PS L=HCall P f xs' PS' L:=by rw[h,h2]
@[congr] theorem c_hops {hop:HOp} {ops:Array Oper} {l:List Oper} {C:Fr→PL→Prop} {PS':PL} {dd:Prop} (_hd:HoldOn=dd) (h:fr=fr') (h2:PS=PS'):hops hop ops l C fr PS=hops hop ops l C fr' PS':=by rw[h,h2]
@[congr] theorem c_hdrawP {ops:Array Oper} {C:Fr→PL→Prop} {p p':Plan} {PS':PL} {dd:Prop} (_hd:HoldOn=dd) (h:p=p') (h2:fr=fr') (h3:PS=PS'):hdrawP P pu ops C p fr PS=hdrawP P pu ops C p' fr' PS':=by rw[h,h2,h3]
@[congr] theorem c_hplan {ops:Array Oper} {C:Fr→PL→Prop} {p p':Plan} {PS':PL} {dd:Prop} (_hd:HoldOn=dd) (h:p=p') (h2:fr=fr') (h3:PS=PS'):hplan P pu ops C p fr PS=hplan P pu ops C p' fr' PS':=by rw[h,h2,h3]
@[congr] theorem c_hcond {A B:Prop} {dd:Prop} (_hd:HoldOn=dd) (h:x=x'):hcond A B x=hcond A B x':=by rw[h]
@[congr] theorem c_hguard {w:Bool} {A B:Prop} {dd:Prop} (_hd:HoldOn=dd) (h:x=x'):hguard w A B x=hguard w A B x':=by rw[h]
end
@[go_sem ↓,go_sem] theorem hcond_bool (A B:Prop) (b:Bool):hcond A B (.bool b)=(if b=true then A else B):=by cases b<;>simp[hcond]
@[go_sem ↓,go_sem] theorem hguard_bool (w:Bool) (A B:Prop) (b:Bool):hguard w A B (.bool b)=(if b=w then A else B):=by simp only[hguard];split<;>simp_all
@[go_sem ↓,go_sem] theorem hguard_skip (w:Bool) (A B:Prop):hguard w A B (.cst undef)=B:=_root_.id rfl
@[go_sem ↓,go_sem] theorem hpick_bool (b:Bool) (x y:HV) (K:HV→Prop):hpick (.bool b) x y K=(if b=true then K x else K y):=by cases b<;>simp[hpick]
section
variable (P:Program) (fr:Fr) (PS:PL) (K:HV→PL→Prop) (d:Option Tmp) (ty:TypeId) (p:String) (af:Array Edge) (g:Option (Nat×Bool))
@[go_sem ↓] theorem hop_move (x:Operand):hop P ⟨d,.move x,ty,p,af,g⟩ fr PS K=K (ev fr x) PS:=_root_.id rfl
@[go_sem ↓] theorem hop_assign (x:Operand):hop P ⟨d,.assign x,ty,p,af,g⟩ fr PS K=K (ev fr x) PS:=_root_.id rfl
@[go_sem ↓] theorem hop_pick (c x y:Operand):hop P ⟨d,.pick c x y,ty,p,af,g⟩ fr PS K=hpick (ev fr c) (ev fr x) (ev fr y) (fun v=>K v PS):=_root_.id rfl
@[go_sem ↓] theorem hop_load (t:TypeId) (x:Operand):hop P ⟨d,.load t x,ty,p,af,g⟩ fr PS K=hload PS (ev fr x) (fun v=>K v PS) (tsz P t):=_root_.id rfl
@[go_sem ↓] theorem hop_bin (op:BinOp) (t:TypeId) (x y:Operand) (t2:TypeId):hop P ⟨d,.binOp op t x y t2,ty,p,af,g⟩ fr PS K=hbinO P PS op t (ev fr x) y (ev fr y) (fun v=>K v PS):=_root_.id rfl
@[go_sem ↓] theorem hop_un (op:UnOp) (t:TypeId) (x:Operand):hop P ⟨d,.unOp op t x,ty,p,af,g⟩ fr PS K=hun op (ev fr x) (fun v=>K v PS):=_root_.id rfl
@[go_sem ↓] theorem hop_conv (s t:TypeId) (x:Operand):hop P ⟨d,.convert s t x,ty,p,af,g⟩ fr PS K=hconvert P PS s t (ev fr x) (fun v=>K v PS):=_root_.id rfl
@[go_sem ↓] theorem hop_fieldAddr (s:TypeId) (x:Operand) (f:Nat):hop P ⟨d,.fieldAddr s x f,ty,p,af,g⟩ fr PS K=hfield PS (ev fr x) (fun v=>K v PS) (fldOf P s f):=_root_.id rfl
@[go_sem ↓] theorem hop_indexAddr (t:TypeId) (x i:Operand):hop P ⟨d,.indexAddr t x i,ty,p,af,g⟩ fr PS K=hindexAddr P PS t (ev fr x) (ev fr i) (fun v=>K v PS):=_root_.id rfl
@[go_sem ↓] theorem hop_index (t:TypeId) (x i:Operand):hop P ⟨d,.index t x i,ty,p,af,g⟩ fr PS K=hindex P t (ev fr x) (ev fr i) (fun v=>K v PS):=_root_.id rfl
@[go_sem ↓] theorem hop_extract (x:Operand) (i:Nat):hop P ⟨d,.extract x i,ty,p,af,g⟩ fr PS K=hext (ev fr x) i (fun v=>K v PS):=_root_.id rfl
@[go_sem ↓] theorem hop_slice (t:TypeId) (x:Operand) (l h m:Option Operand):hop P ⟨d,.slice t x l h m,ty,p,af,g⟩ fr PS K=hslice P PS t (ev fr x) (l.map (ev fr)) (h.map (ev fr)) (m.map (ev fr)) (fun v=>K v PS):=_root_.id rfl
@[go_sem ↓] theorem hop_mki (t:TypeId) (x:Operand):hop P ⟨d,.makeInterface t x,ty,p,af,g⟩ fr PS K=hmki P t (ev fr x) (fun v=>K v PS):=_root_.id rfl
@[go_sem ↓] theorem hop_alloc (t:TypeId):hop P ⟨d,.alloc t,ty,p,af,g⟩ fr PS K=halloc P t PS K:=_root_.id rfl
@[go_sem ↓] theorem hop_box (t:TypeId) (x:Operand):hop P ⟨d,.box t x,ty,p,af,g⟩ fr PS K=hbox (ev fr x) PS K:=_root_.id rfl
@[go_sem ↓] theorem hop_store (t:TypeId) (x y:Operand):hop P ⟨d,.store t x y,ty,p,af,g⟩ fr PS K=hstore PS (ev fr x) (ev fr y) (fun PS'=>K .junk PS') (tsz P t):=_root_.id rfl
@[go_sem ↓] theorem hop_make (t:TypeId) (l c:Operand):hop P ⟨d,.makeSlice t l c,ty,p,af,g⟩ fr PS K=hmake PS (ev fr l) (ev fr c) K (mkOf P t):=_root_.id rfl
end
section
variable (hop:HOp) (hdraw:HDraw) (ops:Array Oper) (K:Fr→PL→Prop) (fr:Fr) (PS:PL) (d:Option Tmp) (op:Op) (ty:TypeId) (p:String) (af:Array Edge) (os:List Oper) (Q:HX→Fr→PL→Prop)
@[go_sem] theorem hops_nil:hops hop ops [] K fr PS=K fr PS:=_root_.id rfl
@[go_sem] theorem hops_plain:hops hop ops (⟨d,op,ty,p,af,none⟩::os) K fr PS=hop ⟨d,op,ty,p,af,none⟩ fr PS fun v PS'=>hops hop ops os K (hput fr d v) PS':=_root_.id rfl
@[go_sem] theorem hops_guard (j:Nat) (w:Bool):hops hop ops (⟨d,op,ty,p,af,some (j,w)⟩::os) K fr PS=hguard w (hop ⟨d,op,ty,p,af,some (j,w)⟩ fr PS fun v PS'=>hops hop ops os K (hput fr d v) PS') (hops hop ops os K (hput fr d (.cst undef)) PS) (guardVal ops fr j):=_root_.id rfl
@[go_sem ↓] theorem hvc_skip:hvc hop hdraw .skip Q fr PS=Q .normal fr PS:=_root_.id rfl
@[go_sem ↓] theorem hvc_region (id:Nat):hvc hop hdraw (.region id (List.toArray os) false) Q fr PS=hops hop (List.toArray os) os (Q .normal) (nf fr) PS:=_root_.id rfl
@[go_sem ↓] theorem hvc_draw (id:Nat):hvc hop hdraw (.region id ops true) Q fr PS=hdraw id ops (Q .normal) fr PS:=_root_.id rfl
@[go_sem ↓] theorem hvc_seq (x y:Code):hvc hop hdraw (.seq x y) Q fr PS=hvc hop hdraw x (HX.then (fun fr PS=>hvc hop hdraw y Q fr PS) Q) fr PS:=_root_.id rfl
@[go_sem ↓] theorem hvc_cond (c:Operand) (x y:Code):hvc hop hdraw (.cond c x y) Q fr PS=hcond (hvc hop hdraw x Q fr PS) (hvc hop hdraw y Q fr PS) (ev fr c):=_root_.id rfl
@[go_sem ↓] theorem hvc_block (id:Nat) (c:Code):hvc hop hdraw (.block id c) Q fr PS=hvc hop hdraw c (HX.inBlock id Q) fr PS:=_root_.id rfl
@[go_sem ↓] theorem hvc_exit (id:Nat):hvc hop hdraw (.exit id) Q fr PS=Q (.exit id) fr PS:=_root_.id rfl
@[go_sem ↓] theorem hvc_ret:hvc hop hdraw .ret Q fr PS=Q .ret fr PS:=_root_.id rfl
/-- A loop:as it stands. -/
def HLoop (hop:HOp) (hdraw:HDraw) (c:Code) (Q:HX→Fr→PL→Prop) (fr:Fr) (PS:PL):Prop:=hvc hop hdraw (.loop c) Q fr PS
@[go_sem ↓] theorem hvc_loop (c:Code):hvc hop hdraw (.loop c) Q fr PS= @pend ⟨HLoop hop hdraw c Q fr PS⟩:=_root_.id rfl
@[go_sem ↓] theorem then_normal (A:Fr→PL→Prop):HX.then A Q .normal fr PS=A fr PS:=_root_.id rfl
@[go_sem ↓] theorem then_exit (A:Fr→PL→Prop) (id:Nat):HX.then A Q (.exit id) fr PS=Q (.exit id) fr PS:=_root_.id rfl
@[go_sem ↓] theorem then_ret (A:Fr→PL→Prop):HX.then A Q .ret fr PS=Q .ret fr PS:=_root_.id rfl
@[go_sem ↓] theorem block_normal (id:Nat):HX.inBlock id Q .normal fr PS=Q .normal fr PS:=_root_.id rfl
@[go_sem ↓] theorem block_exit (id j:Nat):HX.inBlock id Q (.exit j) fr PS=if j=id then Q .normal fr PS else Q (.exit j) fr PS:=_root_.id rfl
@[go_sem ↓] theorem block_ret (id:Nat):HX.inBlock id Q .ret fr PS=Q .ret fr PS:=_root_.id rfl
end
@[go_sem ↓] theorem hret_ret (P:Program) (rs:List ResultVar) (K:HV→PL→Prop) (fr:Fr) (PS:PL):hret P rs K .ret fr PS=hresl P fr PS (hresv fun x=>K x PS) rs:=_root_.id rfl
/-- A guard's value. -/
def gv (fr:Fr):Option Oper→HV
  | some o=>(match o.dst with | some d=>get fr d | none=>.junk)
  | none=>.junk
@[go_sem ↓] theorem guardVal_eq (os:List Oper) (fr:Fr) (j:Nat):guardVal (List.toArray os) fr j=gv fr os[j]? :=by
  unfold guardVal gv
  simp only[List.getElem?_toArray]
  cases os[j]? <;>rfl
@[congr] theorem c_gv {fr:Fr} {o o':Option Oper} {dd:Prop} (_hd:HoldOn=dd) (h:o=o'):gv fr o=gv fr o':=by rw[h]
@[go_sem ↓,go_sem] theorem gv_some (fr:Fr) (d:Nat) (op:Op) (ty:TypeId) (p:String) (af:Array Edge) (g:Option (Nat×Bool)):gv fr (some ⟨some d,op,ty,p,af,g⟩)=get fr d:=_root_.id rfl
/-! ### Operations,by constructors -/
section
variable (P:Program) (pu:Pu) (fr:Fr) (PS:PL) (K:HV→Prop) (L:HV→PL→Prop) (C:List HV→Prop)
@[go_sem ↓] theorem hresl_nil:hresl P fr PS C []=C []:=_root_.id rfl
@[go_sem ↓] theorem hresl_tmp (t:Nat) (r:List ResultVar):hresl P fr PS C (.tmp t::r)=hresl P fr PS (fun l=>C (get fr t::l)) r:=_root_.id rfl
@[go_sem ↓] theorem hresl_cell (t:Nat) (ty:TypeId) (r:List ResultVar):hresl P fr PS C (.cell t ty::r)=hload PS (get fr t) (fun x=>hresl P fr PS (fun l=>C (x::l)) r) (tsz P ty):=_root_.id rfl
@[go_sem ↓,go_sem] theorem hresv_one (x:HV):hresv K [x]=K x:=_root_.id rfl
@[go_sem ↓,go_sem] theorem hresv_two (x y:HV) (l:List HV):hresv K (x::y::l)=K (.tup (x::y::l)):=_root_.id rfl
@[go_sem ↓,go_sem] theorem hrow_arr (v s i ver:Nat) (E:List (List HV)) (o:Bool):hrow (.arr v s E o) ver i C=(ver=v∧hsome E[i]? C):=_root_.id rfl
@[go_sem ↓,go_sem] theorem hcells_ptr (s n ver i k:Nat):hcells PS s C (.ptr n ver i k)=hrow (getP PS n) ver i fun l=>k+s≤l.length∧C ((l.drop k).take s):=_root_.id rfl
@[go_sem ↓,go_sem] theorem hcells_iptr (s k:Nat) (l:List HV):hcells PS s C (.iptr l k)=(k+s≤l.length∧C ((l.drop k).take s)):=_root_.id rfl
@[go_sem ↓,go_sem] theorem hone_one (x:HV):hone K [x]=K x:=_root_.id rfl
@[go_sem ↓,go_sem] theorem hload_agg (x:HV) (s:Nat):hload PS x K (some (true,s))=hcells PS s (fun l=>K (.agg l)) x:=_root_.id rfl
@[go_sem ↓,go_sem] theorem hload_one (x:HV) (s:Nat):hload PS x K (some (false,s))=hcells PS 1 (hone K) x:=_root_.id rfl
@[go_sem ↓,go_sem] theorem hlive_arr (v s ver:Nat) (E:List (List HV)) (o:Bool):hlive (.arr v s E o) ver=(ver=v∧(o=false∨E≠[])):=_root_.id rfl
@[go_sem ↓,go_sem] theorem hver_arr (v s ver:Nat) (E:List (List HV)) (o:Bool):hver (.arr v s E o) ver=(ver=v):=_root_.id rfl
@[go_sem ↓,go_sem] theorem hsz_arr (v s s':Nat) (E:List (List HV)) (o:Bool):hsz (.arr v s E o) s'=(s=s'):=_root_.id rfl
@[go_sem ↓,go_sem] theorem hfield_ptr (off s n ver i k:Nat):hfield PS (.ptr n ver i k) K (some (off,s))=(hlive (getP PS n) ver∧K (.ptr n ver i (k+off))):=_root_.id rfl
@[go_sem ↓,go_sem] theorem hfield_iptr (off s k:Nat) (l:List HV):hfield PS (.iptr l k) K (some (off,s))=K (.iptr l (k+off)):=_root_.id rfl
@[go_sem ↓,go_sem] theorem hixsl_imm (t:Bool) (E:List (List HV)) (k:IntKind) (i:Int) (e:TypeId) (s:Nat):hixsl PS (.imm t E) (.int k i) K (some (e,s))=(0≤i∧hsome E[i.toNat]? fun l=>l.length=s∧K (.iptr l 0)):=_root_.id rfl
@[go_sem ↓,go_sem] theorem hixsl_sl (n ver i0 len:Nat) (c:Option Nat) (k:IntKind) (i:Int) (e:TypeId) (s:Nat):hixsl PS (.sl n ver i0 len c) (.int k i) K (some (e,s))=(0≤i∧i<len∧hrow (getP PS n) ver (i0+i.toNat) fun l=>l.length=s∧K (.ptr n ver (i0+i.toNat) 0)):=_root_.id rfl
@[go_sem ↓,go_sem] theorem hixsl_isl (n ver i0 k0 len c:Nat) (k:IntKind) (i:Int) (e:TypeId) (s:Nat):hixsl PS (.isl n ver i0 k0 len c) (.int k i) K (some (e,s))=(0≤i∧i<len∧hlive (getP PS n) ver∧K (.ptr n ver i0 (k0+i.toNat*s))):=_root_.id rfl
@[go_sem ↓,go_sem] theorem hixar_ptr (n ver i0 k0:Nat) (k:IntKind) (i:Int) (N:Nat) (e:TypeId) (s:Nat):hixar PS (.ptr n ver i0 k0) (.int k i) K (some (N,e,s))=(0≤i∧i<N∧hlive (getP PS n) ver∧K (.ptr n ver i0 (k0+i.toNat*s))):=_root_.id rfl
@[go_sem ↓,go_sem] theorem hbnd_none (d:Int) (B:Int→Prop):hbnd none d B=B d:=_root_.id rfl
@[go_sem ↓,go_sem] theorem hbnd_some (k:IntKind) (n d:Int) (B:Int→Prop):hbnd (some (.int k n)) d B=B n:=_root_.id rfl
@[go_sem ↓] theorem hslice3_two (len lim:Nat) (l h:Option HV) (B:Nat→Nat→Option Nat→Prop):hslice3 len lim l h none B=hbnd l 0 fun l=>hbnd h len fun h=>0≤l∧l≤h∧h≤lim∧B l.toNat h.toNat none:=_root_.id rfl
@[go_sem ↓,go_sem] theorem hext_tup (l:List HV) (i:Nat):hext (.tup l) i K=hsome l[i]? K:=_root_.id rfl
@[go_sem ↓,go_sem] theorem hst_agg (l:List HV):hst (.agg l) C=(ones l∧C l):=by simp only[ones_iff];rfl
@[go_sem ↓,go_sem] theorem hst_int (k:IntKind) (n:Int):hst (.int k n) C=C [.int k n]:=by simp[hst,HV.one]
@[go_sem ↓,go_sem] theorem hst_imm (t:Bool) (E:List (List HV)):hst (.imm t E) C=C [.imm t E]:=by simp[hst,HV.one]
/-- A store of cells. -/
def hsto (PS:PL) (s:Nat) (c:List HV) (B:PL→Prop):HV→Prop
  | .ptr n ver i k=>harr (getP PS n) fun ver' sz E opn=>ver=ver'∧hsome E[i]? fun l=>k+s≤l.length∧B (PS.set n (.arr ver sz (E.set i (hsplice k c l)) opn))
  | _=>False
@[go_sem ↓,go_sem] theorem hsto_ptr (s n ver i k:Nat) (c:List HV) (B:PL→Prop):hsto PS s c B (.ptr n ver i k)=harr (getP PS n) fun ver' sz E opn=>ver=ver'∧hsome E[i]? fun l=>k+s≤l.length∧B (PS.set n (.arr ver sz (E.set i (hsplice k c l)) opn)):=_root_.id rfl
@[go_sem ↓,go_sem] theorem hstore_some (B:PL→Prop) (a x:HV) (b:Bool) (s:Nat):hstore PS a x B (some (b,s))=hst x fun c=>c.length=s∧hsto PS s c B a:=by
  simp only[hstore]
  have:(fun c:List HV=>c.length=s∧match a with
    | .ptr n ver i k=>(match getP PS n with
      | .arr ver' sz E opn=>ver=ver'∧∃l,E[i]? =some l∧k+s≤l.length∧B (PS.set n (.arr ver sz (E.set i (hsplice k c l)) opn))
      | _=>False)
    | _=>False)=fun c=>c.length=s∧hsto PS s c B a:=by
    funext c
    cases a<;>rfl
  rw[←this]
  rfl
@[go_sem ↓,go_sem] theorem hbox_eq (x:HV):hbox x PS L=hst x fun l=>L (.ptr PS.length 0 0 0) (PS++[.arr 0 l.length [l] false]):=_root_.id rfl
@[go_sem ↓,go_sem] theorem hmake_some (l c:HV) (s b:Nat) (z:List HV):hmake PS l c L (some (s,b,z))=hmake2 PS s b z L l c:=_root_.id rfl
@[go_sem ↓,go_sem] theorem hmake2_int (s b:Nat) (z:List HV) (l c:Int):hmake2 PS s b z L (.int .i64 l) (.int .i64 c)=(0≤l∧l≤c∧c≤140737488355328∧c*b≤140737488355328∧L (.sl PS.length 0 0 l.toNat (some c.toNat)) (PS++[.arr 0 s (List.replicate c.toNat z) false])):=_root_.id rfl
/-- New memory,the cells known. -/
def hal (PS:PL) (L:HV→PL→Prop):Option (List HV)→Prop
  | some l=>L (.ptr PS.length 0 0 0) (PS++[.arr 0 l.length [l] false])
  | none=>False
@[go_sem ↓] theorem halloc_eq (t:TypeId):halloc P t PS L=hal PS L (zcells P t):=by unfold halloc hal;split<;>simp_all
@[go_sem ↓,go_sem] theorem hal_some (l:List HV):hal PS L (some l)=L (.ptr PS.length 0 0 0) (PS++[.arr 0 l.length [l] false]):=_root_.id rfl
@[go_sem ↓,go_sem] theorem happ2_imm (s b:Nat) (t:Bool) (E N:List (List HV)):happ2 PS s b (.imm t E) N L=(t=true∧(E=[]∨0<N.length)∧(∀r∈E,r.length=s)∧hroom (E.length+N.length) b∧L (.sl PS.length 0 0 (E.length+N.length) none) (PS++[.arr 0 s (E++N) true])):=_root_.id rfl
@[go_sem ↓,go_sem] theorem happ2_open (s b n ver i len:Nat) (N:List (List HV)):happ2 PS s b (.sl n ver i len none) N L=harr (getP PS n) fun ver' sz E opn=>ver=ver'∧sz=s∧ @hor (i+len=E.length∧hroom (len+N.length) b∧L (.sl n (ver+1) 0 (len+N.length) none) (PS.set n (.arr (ver+1) s (E.drop i++N) true)))
    ⟨i+len<E.length∧i+len+N.length≤E.length∧L (.sl n ver i (len+N.length) none) (PS.set n (.arr ver s (hsplice (i+len) N E) opn))⟩:=by
  simp only[happ2];cases getP PS n<;>rfl
def hap (PS:PL) (x y:HV) (A B:Prop) (L:HV→PL→Prop):Option (Nat×Nat×List HV)→Prop
  | some (s,b,z)=>happY PS x A B L s b z y
  | none=>False
@[go_sem ↓] theorem happ_eq (t t2:TypeId) (x y:HV):happ P PS t t2 x y L=hap PS x y (notInt P t2) (isIntT P t2=true) L (mkOf P t):=by unfold happ hap;split<;>simp_all
@[go_sem ↓,go_sem] theorem hap_some (s b:Nat) (z:List HV) (x y:HV) (A B:Prop):hap PS x y A B L (some (s,b,z))=happY PS x A B L s b z y:=_root_.id rfl
@[go_sem ↓,go_sem] theorem happY_imm (s b:Nat) (z:List HV) (x:HV) (t:Bool) (E:List (List HV)) (A B:Prop):happY PS x A B L s b z (.imm t E)=(A∧hsrc PS s (.imm t E) fun N=>happ2 PS s b x N L):=_root_.id rfl
@[go_sem ↓,go_sem] theorem happY_sl (s b:Nat) (z:List HV) (x:HV) (n ver i len:Nat) (c:Option Nat) (A B:Prop):happY PS x A B L s b z (.sl n ver i len c)=(A∧hsrc PS s (.sl n ver i len c) fun N=>happ2 PS s b x N L):=_root_.id rfl
@[congr] theorem c_happY {s b:Nat} {z:List HV} {x x' y y':HV} {A B:Prop} {dd:Prop} (_hd:HoldOn=dd) (h:x=x') (h2:y=y'):happY PS x A B L s b z y=happY PS x' A B L s b z y':=by rw[h,h2]
@[go_sem ↓,go_sem] theorem hput2_isl (s:Nat) (n ver i k len c:Nat) (N:Nat→List (List HV)) (B:PL→Prop):hput2 PS s (.isl n ver i k len c) N B=(s=1∧harr (getP PS n) fun ver' sz E opn=>ver=ver'∧hsome E[i]? fun l=>k+len≤l.length∧B (PS.set n (.arr ver sz (E.set i (hsplice k (N len).flatten l)) opn))):=by
  simp only[hput2];cases getP PS n<;>rfl
@[go_sem ↓,go_sem] theorem hrows_imm (s:Nat) (t:Bool) (E:List (List HV)) (B:List (List HV)→Prop):hrows PS s (.imm t E) B=((∀r∈E,r.length=s)∧B E):=_root_.id rfl
@[go_sem ↓,go_sem] theorem hrows_sl (s n ver i len:Nat) (c:Option Nat) (B:List (List HV)→Prop):hrows PS s (.sl n ver i len c) B=harr (getP PS n) fun ver' sz E _=>ver=ver'∧(len=0∨sz=s)∧i+len≤E.length∧B ((E.drop i).take len):=by
  simp only[hrows];cases getP PS n<;>rfl
@[go_sem ↓,go_sem] theorem hrows_isl (s n ver i k len c:Nat) (B:List (List HV)→Prop):hrows PS s (.isl n ver i k len c) B=(s=1∧hrow (getP PS n) ver i fun l=>k+len≤l.length∧B (((l.drop k).take len).map fun y=>[y])):=_root_.id rfl
@[go_sem ↓,go_sem] theorem hsrc_imm (s:Nat) (t:Bool) (E:List (List HV)) (B:List (List HV)→Prop):hsrc PS s (.imm t E) B=hrows PS s (.imm t E) B:=_root_.id rfl
@[go_sem ↓,go_sem] theorem hsrc_sl (s n ver i len:Nat) (c:Option Nat) (B:List (List HV)→Prop):hsrc PS s (.sl n ver i len c) B=hrows PS s (.sl n ver i len c) B:=_root_.id rfl
@[go_sem ↓,go_sem] theorem hsrc_isl (s n ver i k len c:Nat) (B:List (List HV)→Prop):hsrc PS s (.isl n ver i k len c) B=hrows PS s (.isl n ver i k len c) B:=_root_.id rfl
@[go_sem] theorem hcallv_plain (args:List HV) (g:FuncId):hcallv P args PS L (some (g,[],[]))=(callable P g=true∧ @pend ⟨HCall P g args PS L⟩):=by simp[hcallv,pend]
@[go_sem ↓,go_sem] theorem hcallP_pure (args:List HV) (g:FuncId):hcallP P 0 args PS K (some (g,[],[]))=(callable P g=true∧ @pend ⟨hpure P g args K⟩):=by simp[hcallP,pend,hpure]
@[go_sem ↓,go_sem] theorem hcallP_reads (n:Nat) (args:List HV) (g:FuncId):hcallP P (n+1) args PS K (some (g,[],[]))=(callable P g=true∧ @pend ⟨hreads P g args PS K⟩):=by simp[hcallP,pend,hreads]
end
@[congr] theorem c_hal {PS:PL} {L:HV→PL→Prop} {o o':Option (List HV)} {dd:Prop} (_hd:HoldOn=dd) (h:o=o'):hal PS L o=hal PS L o':=by rw[h]
/-! ### By types -/
section
variable {P:Program} {fr:Fr} {PS:PL} {K:HV→Prop} {L:HV→PL→Prop} {C:List HV→Prop} {d:Option Tmp} {ty:TypeId} {p:String} {af:Array Edge} {g:Option (Nat×Bool)}
@[go_sem ↓] theorem hop_len (x:Operand) (t:TypeId):hop P ⟨d,.call ⟨.builtin .len,#[x],#[t]⟩,ty,p,af,g⟩ fr PS L=hlen P PS t (ev fr x) (fun v=>L v PS):=_root_.id rfl
@[go_sem ↓] theorem hop_append (x y:Operand) (t t2:TypeId):hop P ⟨d,.call ⟨.builtin .append,#[x,y],#[t,t2]⟩,ty,p,af,g⟩ fr PS L=happ P PS t t2 (ev fr x) (ev fr y) L:=_root_.id rfl
@[go_sem ↓] theorem hop_copy (x y:Operand) (t t2:TypeId):hop P ⟨d,.call ⟨.builtin .copy,#[x,y],#[t,t2]⟩,ty,p,af,g⟩ fr PS L=hcopy P PS t (ev fr x) (ev fr y) L:=_root_.id rfl
@[go_sem ↓] theorem hop_call (f:Operand) (xs:List Operand) (ts:Array TypeId):hop P ⟨d,.call ⟨.value f,List.toArray xs,ts⟩,ty,p,af,g⟩ fr PS L=hcallv P (xs.map (ev fr)) PS L (hfun (ev fr f)):=_root_.id rfl
@[go_sem ↓] theorem hop_build (t:TypeId) (ps:List (Nat×Operand)):hop P ⟨d,.build t (List.toArray ps),ty,p,af,g⟩ fr PS L=hbuild P t (ps.map fun p=>(p.1,ev fr p.2)) (fun v=>L v PS):=_root_.id rfl
@[go_sem ↓] theorem hop_buildSlice (t:TypeId) (n:Nat) (ps:List (Nat×Operand)):hop P ⟨d,.buildSlice t n (List.toArray ps),ty,p,af,g⟩ fr PS L=hbsl n (ps.map fun p=>(p.1,ev fr p.2)) (fun v=>L v PS) (mkOf P t):=_root_.id rfl
@[go_sem ↓] theorem hop_mkf (fn:Fn) (f c:List Operand):hop P ⟨d,.makeFunc fn (List.toArray f) (List.toArray c),ty,p,af,g⟩ fr PS L=L (.func fn (f.map (ev fr)) (c.map (ev fr))) PS:=_root_.id rfl
@[go_sem ↓,go_sem] theorem hfun_cst (f:FuncId):hfun (.cst (.func (.func f) #[] #[]))=some (f,[],[]):=_root_.id rfl
@[go_sem ↓,go_sem] theorem hfun_func (f:FuncId) (a b:List HV):hfun (.func (.func f) a b)=some (f,a,b):=_root_.id rfl
def hlenU (P:Program) (PS:PL) (x:HV) (K:HV→Prop) (u:Option TypeDesc):Prop:=
  match u with
  | some .string=>(match x with | .str s=>K (.int .i64 s.length) | .stok i=>(match Toks.slen i with | some j=>K (.tok .i64 j) | none=>False) | _=>False)
  | some (.slice _)=>(match x with
    | .imm _ E=>E.length≤maxLen→K (.int .i64 E.length)
    | .sl n ver _ len _=>hver (getP PS n) ver∧(len≤maxLen→K (.int .i64 len))
    | .isl n ver _ _ len _=>hver (getP PS n) ver∧(len≤maxLen→K (.int .i64 len))
    | .nam i=>hnlen i K
    | _=>False)
  | some (.array n _)=>K (.int .i64 n)
  | some (.pointer ar)=>(match P.underlying ar with | some (.array n _)=>K (.int .i64 n) | _=>False)
  | _=>False
@[go_sem ↓] theorem hlen_eq (t:TypeId) (x:HV):hlen P PS t x K=hlenU P PS x K (P.underlying t):=_root_.id rfl
@[congr] theorem c_hlenU {x x':HV} {u u':Option TypeDesc} {dd:Prop} (_hd:HoldOn=dd) (h:x=x') (h2:u=u'):hlenU P PS x K u=hlenU P PS x' K u':=by rw[h,h2]
@[go_sem ↓,go_sem] theorem hlenU_str (s:List UInt8):hlenU P PS (.str s) K (some .string)=K (.int .i64 s.length):=_root_.id rfl
@[go_sem ↓,go_sem] theorem hlenU_imm (e:TypeId) (t:Bool) (E:List (List HV)):hlenU P PS (.imm t E) K (some (.slice e))=(E.length≤maxLen→K (.int .i64 E.length)):=_root_.id rfl
@[go_sem ↓,go_sem] theorem hlenU_sl (e:TypeId) (n ver i len:Nat) (c:Option Nat):hlenU P PS (.sl n ver i len c) K (some (.slice e))=(hver (getP PS n) ver∧(len≤maxLen→K (.int .i64 len))):=_root_.id rfl
@[go_sem ↓,go_sem] theorem hlenU_isl (e:TypeId) (n ver i k len c:Nat):hlenU P PS (.isl n ver i k len c) K (some (.slice e))=(hver (getP PS n) ver∧(len≤maxLen→K (.int .i64 len))):=_root_.id rfl
def hlenV (P:Program) (PS:PL) (x:HV) (K:HV→Prop) (u:Option TypeDesc):Prop:=
  match u with
  | some .string=>(match x with | .str s=>K (.int .i64 s.length) | .stok i=>(match Toks.slen i with | some j=>K (.tok .i64 j) | none=>False) | _=>False)
  | some (.slice _)=>(match x with
    | .imm _ E=>K (.int .i64 E.length)
    | .sl n ver _ len _=>hver (getP PS n) ver∧K (.int .i64 len)
    | .isl n ver _ _ len _=>hver (getP PS n) ver∧K (.int .i64 len)
    | .nam i=>hnlen i K
    | _=>False)
  | some (.array n _)=>K (.int .i64 n)
  | some (.pointer ar)=>(match P.underlying ar with | some (.array n _)=>K (.int .i64 n) | _=>False)
  | _=>False
@[go_sem ↓] theorem hlenP_eq (t:TypeId) (x:HV):hlenP P PS t x K=hlenV P PS x K (P.underlying t):=_root_.id rfl
@[congr] theorem c_hlenV {x x':HV} {u u':Option TypeDesc} {dd:Prop} (_hd:HoldOn=dd) (h:x=x') (h2:u=u'):hlenV P PS x K u=hlenV P PS x' K u':=by rw[h,h2]
@[go_sem ↓,go_sem] theorem hlenV_imm (e:TypeId) (t:Bool) (E:List (List HV)):hlenV P PS (.imm t E) K (some (.slice e))=K (.int .i64 E.length):=_root_.id rfl
@[go_sem ↓,go_sem] theorem hlenV_sl (e:TypeId) (n ver i len:Nat) (c:Option Nat):hlenV P PS (.sl n ver i len c) K (some (.slice e))=(hver (getP PS n) ver∧K (.int .i64 len)):=_root_.id rfl
def hslA (PS:PL) (x:HV) (l h m:Option HV) (K:HV→Prop):Option (TypeId×Nat)→Prop
  | some (_,s)=>hslsl PS s x l h m K
  | none=>False
def hslB (PS:PL) (x:HV) (l h m:Option HV) (K:HV→Prop):Option (Nat×TypeId×Nat)→Prop
  | some (N,_,s)=>hslar PS N s x l h m K
  | none=>False
def hslU (P:Program) (PS:PL) (t:TypeId) (x:HV) (l h m:Option HV) (K:HV→Prop) (u:Option TypeDesc):Prop:=
  match u with
  | some .string=>hslstr x l h m K
  | some (.slice _)=>hslA PS x l h m K (slOf P t)
  | some (.array _ _)=>hslB PS x l h m K (arOf P t)
  | some (.pointer ar)=>hslB PS x l h m K (arOf P ar)
  | _=>False
@[go_sem ↓] theorem hslice_eq (t:TypeId) (x:HV) (l h m:Option HV):hslice P PS t x l h m K=hslU P PS t x l h m K (P.underlying t):=by
  unfold hslice hslU;split<;>first | rfl | (unfold hslA hslB;split<;>simp_all)
@[congr] theorem c_hslU {t:TypeId} {x:HV} {l h m:Option HV} {u u':Option TypeDesc} {dd:Prop} (_hd:HoldOn=dd) (e:u=u'):hslU P PS t x l h m K u=hslU P PS t x l h m K u':=by rw[e]
@[congr] theorem c_hslA {x:HV} {l h m:Option HV} {u u':Option (TypeId×Nat)} {dd:Prop} (_hd:HoldOn=dd) (e:u=u'):hslA PS x l h m K u=hslA PS x l h m K u':=by rw[e]
@[congr] theorem c_hslB {x:HV} {l h m:Option HV} {u u':Option (Nat×TypeId×Nat)} {dd:Prop} (_hd:HoldOn=dd) (e:u=u'):hslB PS x l h m K u=hslB PS x l h m K u':=by rw[e]
@[go_sem ↓,go_sem] theorem hslU_str (t:TypeId) (x:HV) (l h m:Option HV):hslU P PS t x l h m K (some .string)=hslstr x l h m K:=_root_.id rfl
@[go_sem ↓,go_sem] theorem hslU_sl (t e:TypeId) (x:HV) (l h m:Option HV):hslU P PS t x l h m K (some (.slice e))=hslA PS x l h m K (slOf P t):=_root_.id rfl
@[go_sem ↓,go_sem] theorem hslU_arr (t e:TypeId) (n:Nat) (x:HV) (l h m:Option HV):hslU P PS t x l h m K (some (.array n e))=hslB PS x l h m K (arOf P t):=_root_.id rfl
@[go_sem ↓,go_sem] theorem hslA_some (e:TypeId) (s:Nat) (x:HV) (l h m:Option HV):hslA PS x l h m K (some (e,s))=hslsl PS s x l h m K:=_root_.id rfl
@[go_sem ↓,go_sem] theorem hslB_some (N:Nat) (e:TypeId) (s:Nat) (x:HV) (l h m:Option HV):hslB PS x l h m K (some (N,e,s))=hslar PS N s x l h m K:=_root_.id rfl
@[go_sem ↓,go_sem] theorem hslstr_str (s:List UInt8) (l h:Option HV):hslstr (.str s) l h none K=hslice3 s.length s.length l h none fun l h _=>K (.str ((s.take h).drop l)):=by simp[hslstr]
@[go_sem ↓,go_sem] theorem hslsl_imm (s:Nat) (t:Bool) (E:List (List HV)) (l h m:Option HV):hslsl PS s (.imm t E) l h m K=((∀r∈E,r.length=s)∧hslice3 E.length E.length l h m fun l h' m=>match m with
    | some m=>K (.imm (decide (m=h')) ((E.take h').drop l))
    | none=>K (.imm (t&&(h.isNone || decide (h'=E.length))) ((E.take h').drop l))):=rfl
@[go_sem ↓,go_sem] theorem hslsl_sl (s n ver i len:Nat) (cp:Option Nat) (l h m:Option HV):hslsl PS s (.sl n ver i len cp) l h m K=(hlive (getP PS n) ver∧hsz (getP PS n) s∧hslice3 len (hlim (getP PS n) i len cp) l h m fun l h m=>match m with
    | some m=>K (.sl n ver (i+l) (h - l) (some (m - l)))
    | none=>K (.sl n ver (i+l) (h - l) (cp.map (· - l)))):=rfl
@[go_sem ↓,go_sem] theorem hlim_arr (v s:Nat) (E:List (List HV)) (o:Bool) (i len:Nat):hlim (.arr v s E o) i len none=max len (E.length - i):=_root_.id rfl
attribute [go_sem] Nat.le_max_left
@[go_sem ↓,go_sem] theorem hslsl_isl (s n ver i k len cp:Nat) (l h m:Option HV):hslsl PS s (.isl n ver i k len cp) l h m K=(hlive (getP PS n) ver∧hslice3 len cp l h m fun l h m=>match m with
    | some m=>K (.isl n ver i (k+l*s) (h - l) (m - l))
    | none=>K (.isl n ver i (k+l*s) (h - l) (cp - l))):=rfl
@[go_sem ↓,go_sem] theorem hslar_ptr (N s n ver i k:Nat) (l h m:Option HV):hslar PS N s (.ptr n ver i k) l h m K=(N≤65536∧hlive (getP PS n) ver∧hslice3 N N l h m fun l h m=>K (.isl n ver i (k+l*s) (h - l) (m.getD N - l))):=_root_.id rfl
def hpt (i:Nat) (l:List HV) (K:HV→Prop):Option (Bool×Nat)→Prop
  | some (b,s)=>hpart b s (i*s) l K
  | none=>False
def hixU (P:Program) (x i:HV) (K:HV→Prop) (u:Option TypeDesc):Prop:=
  match u with
  | some .string=>(match x,i with
    | .str s,.int _ n=>0≤n∧hsome s[n.toNat]? fun b=>K (.int .u8 b.toNat)
    | _,_=>False)
  | some (.array N e)=>(match x,i with
    | .agg l,.int _ n=>0≤n∧n<N∧hpt n.toNat l K (tsz P e)
    | _,_=>False)
  | _=>False
@[go_sem ↓] theorem hindex_eq (t:TypeId) (x i:HV):hindex P t x i K=hixU P x i K (P.underlying t):=by
  unfold hindex hixU
  generalize P.underlying t=u
  cases u with
  | none=>rfl
  | some u=>
    cases u<;>first | rfl | (cases x<;>first | rfl | (cases i<;>rfl))
@[congr] theorem c_hixU {x x' i i':HV} {u u':Option TypeDesc} {dd:Prop} (_hd:HoldOn=dd) (h:x=x') (h2:i=i') (e:u=u'):hixU P x i K u=hixU P x' i' K u':=by rw[h,h2,e]
@[go_sem ↓,go_sem] theorem hixU_str (s:List UInt8) (k:IntKind) (n:Int):hixU P (.str s) (.int k n) K (some .string)=(0≤n∧hsome s[n.toNat]? fun b=>K (.int .u8 b.toNat)):=_root_.id rfl
def hfv (x:HV) (K:HV→Prop):Option (Bool×Nat×Nat)→Prop
  | some (b,s,off)=>(match x with | .agg l=>hpart b s off l K | _=>False)
  | none=>False
def hcvU (P:Program) (PS:PL) (x:HV) (K:HV→Prop) (us ud:Option TypeDesc):Prop:=
  match us,ud,x with
  | some _,some (.int k),.int _ n=>hkind k n K
  | some _,some (.int k),.tok _ i=>hkind k (Toks.num i) (rename (Toks.conv i k) K)
  | some .string,some .string,.str l=>K (.str l)
  | some (.slice e),some .string,x=>P.underlying e=some (.int .u8)∧hrows PS 1 x fun E=>hsome (bytesOf E) fun l=>K (.str l)
  | some .string,some (.slice e),.str l=>P.underlying e=some (.int .u8)∧l.length≤140737488355328∧K (.imm false (bytesRows l))
  | _,_,_=>False
@[go_sem ↓] theorem hconvert_eq (s d':TypeId) (x:HV):hconvert P PS s d' x K=hcvU P PS x K (P.underlying s) (P.underlying d'):=by
  unfold hconvert hconv hcvU hstrb
  cases hs:P.underlying s with
  | none=>
    cases hd:P.underlying d' with
    | none=>cases x<;>rfl
    | some ud=>cases ud<;>cases x<;>simp
  | some us=>
    cases hd:P.underlying d' with
    | none=>cases x<;>cases us<;>rfl
    | some ud=>cases us<;>cases ud<;>cases x<;>first | rfl | (simp;done) | (simp[hrows];done)
@[congr] theorem c_hcvU {x x':HV} {u u' v v':Option TypeDesc} {dd:Prop} (_hd:HoldOn=dd) (h:x=x') (e:u=u') (e2:v=v'):hcvU P PS x K u v=hcvU P PS x' K u' v':=by rw[h,e,e2]
@[go_sem ↓,go_sem] theorem hcvU_int (us:TypeDesc) (k k':IntKind) (n:Int):hcvU P PS (.int k' n) K (some us) (some (.int k))=hkind k n K:=by cases us<;>rfl
@[go_sem ↓,go_sem] theorem hcvU_imm (e:TypeId) (t:Bool) (E:List (List HV)):hcvU P PS (.imm t E) K (some (.slice e)) (some .string)=(P.underlying e=some (.int .u8)∧hrows PS 1 (.imm t E) fun E=>hsome (bytesOf E) fun l=>K (.str l)):=_root_.id rfl
@[go_sem ↓,go_sem] theorem hcvU_sl (e:TypeId) (n ver i len:Nat) (c:Option Nat):hcvU P PS (.sl n ver i len c) K (some (.slice e)) (some .string)=(P.underlying e=some (.int .u8)∧hrows PS 1 (.sl n ver i len c) fun E=>hsome (bytesOf E) fun l=>K (.str l)):=_root_.id rfl
@[go_sem ↓,go_sem] theorem hcvU_isl (e:TypeId) (n ver i k len c:Nat):hcvU P PS (.isl n ver i k len c) K (some (.slice e)) (some .string)=(P.underlying e=some (.int .u8)∧hrows PS 1 (.isl n ver i k len c) fun E=>hsome (bytesOf E) fun l=>K (.str l)):=_root_.id rfl
/-! ### Literals -/
/-- The cells of a part. -/
def hpc (x:HV) (C:List HV→Prop):Prop:=(x.one=true∨∃c,x=.agg c)∧C (hvcells x)
def hfl (P:Program) (t:TypeId) (C:List HV→Prop) (l:List HV) (x:HV) (r:List (Nat×HV)):Option (Nat×Nat)→Prop
  | some (off,s)=>hpc x fun c=>c.length=s∧off+s≤l.length∧hfill P t C (hsplice off c l) r
  | none=>False
@[go_sem ↓,go_sem] theorem hfill_nil (t:TypeId) (l:List HV):hfill P t C l []=C l:=_root_.id rfl
@[go_sem ↓,go_sem] theorem hfill_cons (t:TypeId) (l:List HV) (i:Nat) (x:HV) (r:List (Nat×HV)):hfill P t C l ((i,x)::r)=hfl P t C l x r (bplace P t i):=by
  simp only[hfill,hfl,hpc]
  cases bplace P t i with
  | none=>rfl
  | some q=>obtain⟨off,s⟩:=q;rfl
@[congr] theorem c_hfl {t:TypeId} {l l':List HV} {x x':HV} {r r':List (Nat×HV)} {o o':Option (Nat×Nat)} {dd:Prop} (_hd:HoldOn=dd) (h:l=l') (h2:x=x') (h3:r=r') (h4:o=o'):hfl P t C l x r o=hfl P t C l' x' r' o':=by rw[h,h2,h3,h4]
@[go_sem ↓,go_sem] theorem hfl_some (t:TypeId) (l:List HV) (x:HV) (r:List (Nat×HV)) (off s:Nat):hfl P t C l x r (some (off,s))=hpc x fun c=>c.length=s∧off+s≤l.length∧hfill P t C (hsplice off c l) r:=_root_.id rfl
@[go_sem ↓,go_sem] theorem hpc_agg (l:List HV):hpc (.agg l) C=C l:=by simp[hpc,hvcells]
@[go_sem ↓,go_sem] theorem hpc_int (k:IntKind) (n:Int):hpc (.int k n) C=C [.int k n]:=by simp[hpc,HV.one,hvcells]
def hbz (P:Program) (t:TypeId) (ps:List (Nat×HV)) (K:HV→Prop):Option (List HV)→Prop
  | some z=>hfill P t (fun l=>K (.agg l)) z ps
  | none=>False
@[go_sem ↓] theorem hbuild_eq (t:TypeId) (ps:List (Nat×HV)):hbuild P t ps K=(bknown P t=true∧hbz P t ps K (zcells P t)):=by
  simp only[hbuild,hbz]
  cases zcells P t<;>rfl
@[congr] theorem c_hbz {t:TypeId} {ps:List (Nat×HV)} {o o':Option (List HV)} {dd:Prop} (_hd:HoldOn=dd) (h:o=o'):hbz P t ps K o=hbz P t ps K o':=by rw[h]
@[go_sem ↓,go_sem] theorem hbz_some (t:TypeId) (ps:List (Nat×HV)) (z:List HV):hbz P t ps K (some z)=hfill P t (fun l=>K (.agg l)) z ps:=_root_.id rfl
@[go_sem ↓,go_sem] theorem hbsl_some (n:Nat) (ps:List (Nat×HV)) (s b:Nat) (z:List HV):hbsl n ps K (some (s,b,z))=(n*s≤16777216∧n≤65536∧hfillr s (fun E=>K (.imm true E)) (rep n z) ps):=by rw[rep_eq];rfl
@[go_sem ↓,go_sem] theorem hfillr_nil (s:Nat) (B:List (List HV)→Prop) (E:List (List HV)):hfillr s B E []=B E:=_root_.id rfl
@[go_sem ↓,go_sem] theorem hfillr_cons (s:Nat) (B:List (List HV)→Prop) (E:List (List HV)) (i:Nat) (x:HV) (r:List (Nat×HV)):hfillr s B E ((i,x)::r)=hst x fun l=>l.length=s∧i<E.length∧hfillr s B (E.set i l) r:=_root_.id rfl
def hmkU (t:TypeId) (x:HV) (K:HV→Prop) (u:Option TypeDesc):Prop:=
  match u with
  | some (.interface _)=>False
  | some _=>K (.iface t x)
  | none=>False
@[go_sem ↓] theorem hmki_eq (t:TypeId) (x:HV):hmki P t x K=hmkU t x K (P.underlying t):=_root_.id rfl
@[congr] theorem c_hmkU {t:TypeId} {x x':HV} {u u':Option TypeDesc} {dd:Prop} (_hd:HoldOn=dd) (h:x=x') (e:u=u'):hmkU t x K u=hmkU t x' K u':=by rw[h,e]
@[go_sem ↓,go_sem] theorem hmkU_struct (t:TypeId) (x:HV) (fs:Array Field):hmkU t x K (some (.struct fs))=K (.iface t x):=_root_.id rfl
def hcp (PS:PL) (x y:HV) (L:HV→PL→Prop):Option (TypeId×Nat)→Prop
  | some (_,s)=>hsrc PS s y fun N=>hput2 PS s x (fun len=>N.take len) fun PS'=>L (.int .i64 ((min N.length (hsllen x):Nat):Int)) PS'
  | none=>False
@[go_sem ↓] theorem hcopy_eq (t:TypeId) (x y:HV):hcopy P PS t x y L=hcp PS x y L (slOf P t):=by simp only[hcopy,hcp];cases slOf P t<;>rfl
@[congr] theorem c_hcp {x x' y y':HV} {o o':Option (TypeId×Nat)} {dd:Prop} (_hd:HoldOn=dd) (h:x=x') (h2:y=y') (h3:o=o'):hcp PS x y L o=hcp PS x' y' L o':=by rw[h,h2,h3]
@[go_sem ↓,go_sem] theorem hcp_some (x y:HV) (e:TypeId) (s:Nat):hcp PS x y L (some (e,s))=hsrc PS s y fun N=>hput2 PS s x (fun len=>N.take len) fun PS'=>L (.int .i64 ((min N.length (hsllen x):Nat):Int)) PS':=_root_.id rfl
def hcl (PS:PL) (x:HV) (L:HV→PL→Prop):Option (Nat×Nat×List HV)→Prop
  | some (s,_,z)=>hput2 PS s x (fun len=>List.replicate len z) fun PS'=>L (.tup []) PS'
  | none=>False
@[go_sem ↓,go_sem] theorem hsplice_zero (c l:List HV):hsplice 0 c l=c++l.drop c.length:=by simp[hsplice]
@[go_sem ↓,go_sem] theorem hsplice_succ (c l:List HV) (x:HV) (n:Nat):hsplice (n+1) c (x::l)=x::hsplice n c l:=by simp[hsplice,Nat.succ_add]
end
@[go_sem ↓,go_sem] theorem hbt_eql (r:Bool) (K:HV→Prop):hbt .eql r K=K (.bool r):=_root_.id rfl
@[go_sem ↓,go_sem] theorem hbt_neq (r:Bool) (K:HV→Prop):hbt .neq r K=K (.bool (!r)):=_root_.id rfl
section
variable (P:Program) (PS:PL) (op:BinOp) (t:TypeId) (K:HV→Prop)
@[go_sem ↓,go_sem] theorem hbin_int (k k':IntKind) (a b:Int):hbin P PS op t (.int k a) (.int k' b) K=hint op k a k' b K:=_root_.id rfl
@[go_sem ↓,go_sem] theorem hbin_agg (a b:List HV):hbin P PS op t (.agg a) (.agg b) K=heqs a b op K (eqO P t):=_root_.id rfl
@[congr] theorem c_heqs {a a' b b':List HV} {o o':Option Cells} {dd:Prop} (_hd:HoldOn=dd) (h:a=a') (h2:b=b') (h3:o=o'):heqs a b op K o=heqs a' b' op K o':=by rw[h,h2,h3]
@[go_sem ↓,go_sem] theorem heqs_some (a b:List HV) (ps:Cells):heqs a b op K (some ps)=(hfitAll ps a b∧hbt op (hcmp ps a b) K):=_root_.id rfl
@[go_sem ↓] theorem hbinO_tmp (x y:HV) (n:Nat):hbinO P PS op t x (.tmp n) y K=hbin P PS op t x y K:=_root_.id rfl
@[go_sem ↓] theorem hbinO_int (x y:HV) (k:IntKind) (n:Int):hbinO P PS op t x (.const (.int k n)) y K=hbin P PS op t x y K:=_root_.id rfl
@[go_sem ↓] theorem hbinO_nil (x y:HV):hbinO P PS op t x (.const (.slice none 0 0)) y K=hslnil P PS op t x K:=_root_.id rfl
@[go_sem ↓,go_sem] theorem hslnil_imm (b:Bool) (E:List (List HV)):hslnil P PS op t (.imm b E) K=((∃e,P.underlying t=some (.slice e))∧(E=[]→hbt op true K∧hbt op false K)∧(E≠[]→hbt op false K)):=_root_.id rfl
@[go_sem ↓,go_sem] theorem hslnil_sl (n ver i len:Nat) (c:Option Nat):hslnil P PS op t (.sl n ver i len c) K=((∃e,P.underlying t=some (.slice e))∧hver (getP PS n) ver∧(len=0→hbt op true K∧hbt op false K)∧(len≠0→hbt op false K)):=_root_.id rfl
@[go_sem ↓] theorem ex_slice (a:TypeId):(∃s,some (TypeDesc.slice a)=some (TypeDesc.slice s))=True:=eq_true ⟨a,rfl⟩
@[go_sem ↓,go_sem] theorem hun_xor (k:IntKind) (n:Int):hun .xor (.int k n) K=K (.int k (hbits .xor k (if k.signed then -1 else k.max) n)):=_root_.id rfl
@[go_sem ↓,go_sem] theorem hun_not (b:Bool):hun .not (.bool b) K=K (.bool !b):=_root_.id rfl
end
attribute [go_sem] InR64 InU64 hminmax notInt hroom  hsllen
attribute [go_sem ↓] hfit hint hstr hkind
attribute [go_sem] hfit hint hstr hkind
section
variable (P:Program) (pu:Pu) (pl:Nat→Plan) (ops:Array Oper) (K:Fr→PL→Prop) (fr:Fr) (PS:PL) (d:Option Tmp) (op:Op) (ty:TypeId) (p:String) (af:Array Edge)
@[go_sem ↓] theorem drawBy_def (id:Nat):drawBy P pu pl id ops K fr PS=hdrawP P pu ops K (pl id) fr PS:=_root_.id rfl
@[go_sem ↓] theorem hgd_plain (A B:Prop):hgd ops ⟨d,op,ty,p,af,none⟩ fr A B=A:=_root_.id rfl
@[go_sem ↓] theorem hgd_guard (j:Nat) (w:Bool) (A B:Prop):hgd ops ⟨d,op,ty,p,af,some (j,w)⟩ fr A B=hguard w A B (guardVal ops fr j):=_root_.id rfl
end
/-- The operation,and of it. -/
def hat (o:Option Oper) (C:Oper→Prop):Prop:=match o with | some o=>C o | none=>False
@[congr] theorem c_hat {o o':Option Oper} {C:Oper→Prop} {dd:Prop} (_hd:HoldOn=dd) (h:o=o'):hat o C=hat o' C:=by rw[h]
@[go_sem ↓,go_sem] theorem hat_some (o:Oper) (C:Oper→Prop):hat (some o) C=C o:=_root_.id rfl
section
variable (P:Program) (pu:Pu) (ops:Array Oper) (K:Fr→PL→Prop) (fr:Fr) (PS:PL) (A:Prop)
@[go_sem] theorem hdrawP_one (i:Nat) (p:Plan):hdrawP P pu ops K (.one i p) fr PS=hplan P pu ops K (.one i p) fr PS:=_root_.id rfl
@[go_sem] theorem hplan_done:hplan P pu ops K .done fr PS=K fr PS:=_root_.id rfl
@[go_sem] theorem hplan_none:hplan P pu ops K .none fr PS=True:=_root_.id rfl
@[go_sem] theorem hplan_one (i:Nat) (p:Plan):hplan P pu ops K (.one i p) fr PS=hat ops[i]? fun o=>hgd ops o fr (hval1 P pu o fr PS fun v=>hplan P pu ops K p (hput fr o.dst v) PS) (hplan P pu ops K p (hput fr o.dst (.cst undef)) PS):=by
  simp only[hplan,hone1,hat]
  cases ops[i]? <;>rfl
def hstp (P:Program) (pu:Pu) (ops:Array Oper) (o:Option Oper) (K:Fr→PL→Prop) (fr:Fr) (PS:PL):Prop:=
  match o with
  | none=>K fr PS
  | some o=>hgd ops o fr (hopD P pu o fr PS fun v PS'=>K (hput fr o.dst v) PS') (K (hput fr o.dst (.cst undef)) PS)
@[congr] theorem c_hstp {P:Program} {pu:Pu} {ops:Array Oper} {o o':Option Oper} {K:Fr→PL→Prop} {fr:Fr} {PS:PL} {dd:Prop} (_hd:HoldOn=dd) (h:o=o'):hstp P pu ops o K fr PS=hstp P pu ops o' K fr PS:=by rw[h]
@[go_sem ↓,go_sem] theorem hstp_some (o:Oper):hstp P pu ops (some o) K fr PS=hgd ops o fr (hopD P pu o fr PS fun v PS'=>K (hput fr o.dst v) PS') (K (hput fr o.dst (.cst undef)) PS):=_root_.id rfl
@[go_sem] theorem hplan_alt (i:Nat) (cs:List Nat) (p q:Plan):hplan P pu ops K (.alt i cs p q) fr PS=(hstp P pu ops ops[i]? (fun fr PS=>hres' P pu ops fr PS (hplan P pu ops K p fr PS) cs) fr PS∧hplan P pu ops K q (nf fr) PS):=by
  simp only[hplan,hstep,hstp,nf]
  cases ops[i]? <;>rfl
@[go_sem] theorem hres'_nil:hres' P pu ops fr PS A []=A:=_root_.id rfl
def hatT (o:Option Oper) (C:Oper→Prop):Prop:=match o with | some o=>C o | none=>True
@[congr] theorem c_hatT {o o':Option Oper} {C:Oper→Prop} {dd:Prop} (_hd:HoldOn=dd) (h:o=o'):hatT o C=hatT o' C:=by rw[h]
@[go_sem ↓,go_sem] theorem hatT_some (o:Oper) (C:Oper→Prop):hatT (some o) C=C o:=_root_.id rfl
@[go_sem] theorem hres'_cons (i:Nat) (cs:List Nat):hres' P pu ops fr PS A (i::cs)=(hatT ops[i]? (fun o=>hgd ops o fr (hval1 P pu o fr PS (hsame o fr)) (hsame o fr (.cst undef)))∧hres' P pu ops (nf fr) PS A cs):=by
  simp only[hres',hre,hatT,nf,hv1]
  cases ops[i]? <;>rfl
@[congr] theorem c_hres' {P:Program} {pu:Pu} {ops:Array Oper} {fr fr':Fr} {PS:PL} {A:Prop} {cs:List Nat} {dd:Prop} (_hd:HoldOn=dd) (h:fr=fr'):hres' P pu ops fr PS A cs=hres' P pu ops fr' PS A cs:=by rw[h]
end
section
variable {P:Program} {pu:Pu} {fr:Fr} {PS:PL} {K:HV→Prop} {L:HV→PL→Prop} {d:Option Tmp} {op:Op} {ty:TypeId} {p:String} {af:Array Edge} {g:Option (Nat×Bool)}
@[go_sem ↓] theorem hsame_some (t:Nat) (v:HV):hsame ⟨some t,op,ty,p,af,g⟩ fr v=(v=get fr t):=_root_.id rfl
theorem lookup_cons (a b c:Nat) (l:List (Nat×Nat)):List.lookup a ((b,c)::l)=if a=b then some c else List.lookup a l:=by
  by_cases h:a=b
  · subst h;simp[List.lookup]
  · have:(a == b)=false:=by simp[h]
    simp[List.lookup,this,h]
/-- A call in a region that draws. -/
def hcD (P:Program) (g:FuncId) (args:List HV) (PS:PL) (L:HV→PL→Prop):Option Nat→Prop
  | none=>hcallv P args PS L (some (g,[],[]))
  | some 0=>hcallP P 0 args PS (fun v=>L v PS) (some (g,[],[]))
  | some (_+1)=>hcallP P 2 args PS (fun v=>L v PS) (some (g,[],[]))
@[congr] theorem c_hcD {g:FuncId} {args args':List HV} {o o':Option Nat} {dd:Prop} (_hd:HoldOn=dd) (h:args=args') (h2:o=o'):hcD P g args PS L o=hcD P g args' PS L o':=by rw[h,h2]
@[go_sem ↓,go_sem] theorem hcD_none (g:FuncId) (args:List HV):hcD P g args PS L none=hcallv P args PS L (some (g,[],[])):=_root_.id rfl
@[go_sem ↓] theorem hopD_call (f:FuncId) (xs:List Operand) (ts:Array TypeId):hopD P pu ⟨d,.call ⟨.value (.func f),List.toArray xs,ts⟩,ty,p,af,g⟩ fr PS L=hcD P f (xs.map (ev fr)) PS L (pu.lookup f):=by
  unfold hopD callCls
  simp only[]
  cases hl:pu.lookup f with
  | none=>rfl
  | some c=>rcases c with _ | c<;>rfl
/-- A call that only computes or reads. -/
def hv1c (P:Program) (g:FuncId) (args:List HV) (PS:PL) (K:HV→Prop):Option Nat→Prop
  | none=>False
  | some 0=>hcallP P 0 args PS K (some (g,[],[]))
  | some (_+1)=>hcallP P 2 args PS K (some (g,[],[]))
@[congr] theorem c_hv1c {g:FuncId} {args args':List HV} {o o':Option Nat} {dd:Prop} (_hd:HoldOn=dd) (h:args=args') (h2:o=o'):hv1c P g args PS K o=hv1c P g args' PS K o':=by rw[h,h2]
@[go_sem ↓,go_sem] theorem hv1c_pure (g:FuncId) (args:List HV):hv1c P g args PS K (some 0)=hcallP P 0 args PS K (some (g,[],[])):=_root_.id rfl
@[go_sem ↓,go_sem] theorem hv1c_reads (g:FuncId) (args:List HV):hv1c P g args PS K (some 2)=hcallP P 2 args PS K (some (g,[],[])):=_root_.id rfl
@[go_sem ↓] theorem hval1_call (f:FuncId) (xs:List Operand) (ts:Array TypeId):hval1 P pu ⟨d,.call ⟨.value (.func f),List.toArray xs,ts⟩,ty,p,af,g⟩ fr PS K=hv1c P f (xs.map (ev fr)) PS K (pu.lookup f):=by
  unfold hval1 callCls
  simp only[]
  cases hl:pu.lookup f with
  | none=>rfl
  | some c=>rcases c with _ | c<;>rfl
@[go_sem ↓] theorem hval1_move (x:Operand):hval1 P pu ⟨d,.move x,ty,p,af,g⟩ fr PS K=K (ev fr x):=_root_.id rfl
@[go_sem ↓] theorem hval1_assign (x:Operand):hval1 P pu ⟨d,.assign x,ty,p,af,g⟩ fr PS K=K (ev fr x):=_root_.id rfl
@[go_sem ↓] theorem hval1_pick (c x y:Operand):hval1 P pu ⟨d,.pick c x y,ty,p,af,g⟩ fr PS K=hpick (ev fr c) (ev fr x) (ev fr y) K:=_root_.id rfl
@[go_sem ↓] theorem hval1_load (t:TypeId) (x:Operand):hval1 P pu ⟨d,.load t x,ty,p,af,g⟩ fr PS K=hload PS (ev fr x) K (tsz P t):=_root_.id rfl
@[go_sem ↓] theorem hval1_bin (op:BinOp) (t:TypeId) (x y:Operand) (t2:TypeId):hval1 P pu ⟨d,.binOp op t x y t2,ty,p,af,g⟩ fr PS K=hbin P PS op t (ev fr x) (ev fr y) K:=_root_.id rfl
@[go_sem ↓] theorem hval1_un (op:UnOp) (t:TypeId) (x:Operand):hval1 P pu ⟨d,.unOp op t x,ty,p,af,g⟩ fr PS K=hun op (ev fr x) K:=_root_.id rfl
@[go_sem ↓] theorem hval1_fieldAddr (s:TypeId) (x:Operand) (f:Nat):hval1 P pu ⟨d,.fieldAddr s x f,ty,p,af,g⟩ fr PS K=hfield PS (ev fr x) K (fldOf P s f):=_root_.id rfl
@[go_sem ↓] theorem hval1_indexAddr (t:TypeId) (x i:Operand):hval1 P pu ⟨d,.indexAddr t x i,ty,p,af,g⟩ fr PS K=hindexAddr P PS t (ev fr x) (ev fr i) K:=_root_.id rfl
@[go_sem ↓] theorem hval1_slice (t:TypeId) (x:Operand) (l h m:Option Operand):hval1 P pu ⟨d,.slice t x l h m,ty,p,af,g⟩ fr PS K=hslice P PS t (ev fr x) (l.map (ev fr)) (h.map (ev fr)) (m.map (ev fr)) K:=_root_.id rfl
@[go_sem ↓] theorem hval1_buildSlice (t:TypeId) (n:Nat) (ps:List (Nat×Operand)):hval1 P pu ⟨d,.buildSlice t n (List.toArray ps),ty,p,af,g⟩ fr PS K=hbsl n (ps.map fun p=>(p.1,ev fr p.2)) K (mkOf P t):=_root_.id rfl
@[go_sem ↓] theorem hval1_len (x:Operand) (t:TypeId):hval1 P pu ⟨d,.call ⟨.builtin .len,#[x],#[t]⟩,ty,p,af,g⟩ fr PS K=hlenP P PS t (ev fr x) K:=_root_.id rfl
@[go_sem ↓] theorem hopD_builtin (b:Builtin) (xs:Array Operand) (ts:Array TypeId):hopD P pu ⟨d,.call ⟨.builtin b,xs,ts⟩,ty,p,af,g⟩ fr PS L=hop P ⟨d,.call ⟨.builtin b,xs,ts⟩,ty,p,af,g⟩ fr PS L:=_root_.id rfl
end
attribute [go_sem] hopD callCls hcallO lookup_cons List.lookup_nil
section
variable {α β:Type} (a b:α) (l m:List α) (n:Nat) (f:α→β)
@[go_sem] theorem l_get_zero:(a::l)[0]? =some a:=_root_.id rfl
@[go_sem] theorem l_get_succ:(a::l)[n+1]? =l[n]? :=_root_.id rfl
@[go_sem] theorem l_len_cons:(a::l).length=l.length+1:=_root_.id rfl
@[go_sem] theorem l_len_nil:([]:List α).length=0:=_root_.id rfl
@[go_sem] theorem l_drop_zero:l.drop 0=l:=_root_.id rfl
@[go_sem] theorem l_drop_succ:(a::l).drop (n+1)=l.drop n:=_root_.id rfl
@[go_sem] theorem l_drop_nil:([]:List α).drop n=[]:=by simp
@[go_sem] theorem l_take_zero:l.take 0=[]:=_root_.id rfl
@[go_sem] theorem l_take_succ:(a::l).take (n+1)=a::l.take n:=_root_.id rfl
@[go_sem] theorem l_take_nil:([]:List α).take n=[]:=by simp
@[go_sem] theorem l_map_cons:(a::l).map f=f a::l.map f:=_root_.id rfl
@[go_sem] theorem l_map_nil:([]:List α).map f=[]:=_root_.id rfl
@[go_sem] theorem l_app_cons:(a::l)++m=a::(l++m):=_root_.id rfl
@[go_sem] theorem l_app_nil:[]++m=m:=_root_.id rfl
@[go_sem] theorem l_app_nil':m++[]=m:=by simp
@[go_sem] theorem l_set_zero:(a::l).set 0 b=b::l:=_root_.id rfl
@[go_sem] theorem l_set_succ:(a::l).set (n+1) b=a::l.set n b:=_root_.id rfl
@[go_sem] theorem o_map_some:(some a).map f=some (f a):=_root_.id rfl
@[go_sem] theorem o_map_none:(none:Option α).map f=none:=_root_.id rfl
@[go_sem] theorem o_getD_none:(none:Option α).getD b=b:=_root_.id rfl
@[go_sem] theorem arr_get (n:Nat):(List.toArray l)[n]? =l[n]? :=by simp
end
@[go_sem] theorem hframe_eq (n:Nat) (args:List HV):hframe n args=args++rep (n - args.length) .junk:=by rw[rep_eq];rfl
attribute [go_sem]   List.length_append List.getElem?_map List.length_map List.reverse_cons true_and and_true and_false false_and true_or or_true false_or or_false not_true_eq_false not_false_eq_true ne_eq forall_const imp_self implies_true true_implies decide_eq_true_eq decide_eq_false_iff_not Option.isSome_some Option.isSome_none Option.isNone_some Option.isNone_none eq_self_iff_true
  Bool.not_eq_true' Bool.not_eq_false' Bool.not_true Bool.not_false Bool.true_and Bool.and_true Bool.false_and Bool.and_false Bool.true_or Bool.or_true Bool.false_or Bool.or_false if_true if_false Bool.false_eq_true Bool.true_eq_false
  Nat.zero_add Nat.add_zero Nat.one_mul Nat.mul_one Nat.zero_mul Nat.sub_zero Nat.le_refl Int.toNat_natCast Int.ofNat_lt Int.ofNat_le Int.natCast_nonneg Int.le_refl Int.cast_ofNat_Int Int.natCast_one Int.toNat_zero decide_true decide_false
end Go.Eng
