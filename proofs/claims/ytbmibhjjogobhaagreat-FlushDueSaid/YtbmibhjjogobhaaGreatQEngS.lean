/-
How the abstract meaning is worked out: rewriting rules.
No conditions.
-/
import Derived.Test.YtbmibhjjogobhaaGreatQEngW
set_option linter.unusedSectionVars false
set_option linter.unusedSimpArgs false
set_option linter.unusedVariables false
namespace Go.Eng
open Go
variable [zB]
/-! ### Frames and operands -/
@[go_sem] theorem xf (a:HV) (l:Fr):get (a::l) 0=a:=_root_.id rfl
@[go_sem] theorem xn (a:HV) (l:Fr) (n:Nat):get (a::l) (n+1)=get l n:=_root_.id rfl
def xN (l:Fr) (n:Nat) (v:HV):Fr:=l.set n v
@[go_sem] theorem zbx (a v:HV) (l:Fr):xN (a::l) 0 v=v::l:=_root_.id rfl
@[go_sem] theorem zYJ (a v:HV) (l:Fr) (n:Nat):xN (a::l) (n+1) v=a::xN l n v:=_root_.id rfl
@[go_sem] theorem zWT (l:Fr) (n:Nat) (v:HV):zV l (some n) v=xN l n v:=_root_.id rfl
@[go_sem] theorem zVS (l:Fr) (v:HV):zV l none v=l:=_root_.id rfl
/-- A mark:to be worked out. -/
def nf (l:Fr):Fr:=l
@[go_sem] theorem zSt (a:HV) (l:Fr):nf (a::l)=a::l:=_root_.id rfl
@[go_sem ↓] theorem zca (l:Fr) (n:Nat):ev l (.tmp n)=get l n:=_root_.id rfl
@[go_sem ↓] theorem zcB (l:Fr) (k:IntKind) (n:Int):ev l (.const (.int k n))=.int k n:=_root_.id rfl
@[go_sem ↓] theorem zbr (l:Fr) (b:Bool):ev l (.const (.bool b))=.bool b:=_root_.id rfl
@[go_sem ↓] theorem zYY (l:Fr):ev l (.const (.slice none 0 0))=.imm true []:=_root_.id rfl
@[go_sem ↓] theorem zUn (l:Fr) (s:ByteArray):ev l (.const (.string s))=.str s.data.toList:=_root_.id rfl
@[go_sem ↓] theorem zX7 (l:Fr):ev l (.const .nilFunc)=.cst .nilFunc:=_root_.id rfl
@[go_sem ↓] theorem zaL (l:Fr):ev l (.const .nilIface)=.cst .nilIface:=_root_.id rfl
@[go_sem ↓] theorem zYB (l:Fr) (f:FuncId):ev l (.func f)=.cst (.func (.func f) #[] #[]):=_root_.id rfl
/-- So many alike:worked out. -/
def rep {α:Type}:Nat→α→List α
 | 0,_=>[]
 | n+1,a=>a::rep n a
theorem zEm {α:Type} (n:Nat) (a:α):rep n a=List.replicate n a:=by
 induction n with
 | zero=>rfl
 | succ n ih=>simp[rep,ih,List.replicate_succ]
@[go_sem] theorem zba {α:Type} (a:α):rep 0 a=[]:=_root_.id rfl
@[go_sem] theorem zUr {α:Type} (n:Nat) (a:α):rep (n+1) a=a::rep n a:=_root_.id rfl
/-- All are values of one cell. -/
def qS:List HV→Prop
 | []=>True
 | x::l=>HV.one x=true∧qS l
theorem qy (l:List HV):qS l↔∀y∈l,HV.one y=true:=by
 induction l with
 | nil=>simp[qS]
 | cons x l ih=>simp[qS,ih]
@[go_sem] theorem zal:qS []=True:=_root_.id rfl
@[go_sem] theorem zam (x:HV) (l:List HV):qS (x::l)=(HV.one x=true∧qS l):=_root_.id rfl
@[go_sem] theorem zaY (b:Bool):HV.one (.bool b)=true:=_root_.id rfl
@[go_sem] theorem zXC (k:IntKind) (n:Int):HV.one (.int k n)=true:=_root_.id rfl
@[go_sem] theorem zXI (t:Bool) (E:List (List HV)):HV.one (.imm t E)=true:=_root_.id rfl
@[go_sem] theorem zUq (n v i len:Nat) (c:Option Nat):HV.one (.sl n v i len c)=true:=_root_.id rfl
/-! ### What may be looked at ahead of what follows -/
/-- A thing that is not looked into. -/
class zER where
 val:Prop
/-- What is always worked out anew:so that a congruence that holds back what follows is always taken. -/
def zi:Prop:=True
@[go_sem] theorem zZF:zi=True:=_root_.id rfl
/-- To be gone on with by hand. -/
def jB [h:zER]:Prop:=h.val
theorem zG {A:Prop} (h:A): @jB ⟨A⟩:=h
/-- Either;the other one is not looked into. -/
def hor (A:Prop) [h:zER]:Prop:=A∨h.val
/-- There is an element,and of it. -/
def qw {α:Type} (o:Option α) (C:α→Prop):Prop:=∃l,o=some l∧C l
@[go_sem ↓,go_sem] theorem zct {α:Type} (l:α) (C:α→Prop):qw (some l) C=C l:=by simp[qw]
@[go_sem ↓,go_sem] theorem zbw {α β:Type} (f:α→β) (o:Option α) (C:β→Prop):qw (o.map f) C=qw o fun a=>C (f a):=by
 unfold qw;cases o<;>simp
/-- A row of elements:what it is. -/
def vK (q:zC) (C:Nat→Nat→List (List HV)→Bool→Prop):Prop:=match q with | .arr v s E o=>C v s E o | _=>False
@[go_sem ↓,go_sem] theorem zNX (v s:Nat) (E:List (List HV)) (o:Bool) (C:Nat→Nat→List (List HV)→Bool→Prop):vK (.arr v s E o) C=C v s E o:=_root_.id rfl
/-- A pure call,and of its result. -/
def KZ (P:Program) (g:FuncId) (args:List HV) (K:HV→Prop):Prop:=∃x,Pure P g args x∧K x
def KE (P:Program) (g:FuncId) (args:List HV) (PS:PL) (K:HV→Prop):Prop:=∃x,Reads P g args PS x∧K x
theorem Pure.to {P:Program} {g:FuncId} {args:List HV} {K:HV→Prop} {x:HV} (h:Pure P g args x) (k:K x):KZ P g args K:=⟨x,h,k⟩
theorem Reads.to {P:Program} {g:FuncId} {args:List HV} {PS:PL} {K:HV→Prop} {x:HV} (h:Reads P g args PS x) (k:K x):KE P g args PS K:=⟨x,h,k⟩
@[congr] theorem zW9 {α:Type} {o o':Option α} {C:α→Prop} {dd:Prop} (_hd:zi=dd) (h:o=o'):qw o C=qw o' C:=by rw[h]
@[congr] theorem zcq {q q':zC} {C:Nat→Nat→List (List HV)→Bool→Prop} {dd:Prop} (_hd:zi=dd) (h:q=q'):vK q C=vK q' C:=by rw[h]
section
variable {P:Program} {pu:Pu} {fr fr':Fr} {PS:PL} {K:HV→Prop} {L:HV→PL→Prop} {x x' y y' z z':HV} {xs xs':List HV}
@[congr] theorem zUv {s:Nat} {C:List HV→Prop} {dd:Prop} (_hd:zi=dd) (h:x=x'):qK PS s C x=qK PS s C x':=by rw[h]
@[congr] theorem zV5 {q q':zC} {v i:Nat} {C:List HV→Prop} {dd:Prop} (_hd:zi=dd) (h:q=q'):zd q v i C=zd q' v i C:=by rw[h]
@[congr] theorem zVx {l l':List HV} {dd:Prop} (_hd:zi=dd) (h:l=l'):yE K l=yE K l':=by rw[h]
@[congr] theorem zcO {o o':Option (Bool×Nat)} {dd:Prop} (_hd:zi=dd) (h:x=x') (h2:o=o'):wB PS x K o=wB PS x' K o':=by rw[h,h2]
@[congr] theorem zYt {dd:Prop} (_hd:zi=dd) (h:x=x'):wg PS x K=wg PS x' K:=by rw[h]
@[congr] theorem zdL {dd:Prop} (_hd:zi=dd) (h:x=x') (h2:y=y') (h3:z=z'):vt x y z K=vt x' y' z' K:=by rw[h,h2,h3]
@[congr] theorem zbm {op:BinOp} {t:TypeId} {dd:Prop} (_hd:zi=dd) (h:x=x') (h2:y=y'):qu P PS op t x y K=qu P PS op t x' y' K:=by rw[h,h2]
@[congr] theorem zWo {op:BinOp} {t:TypeId} {dd:Prop} (_hd:zi=dd) (h:x=x'):jW P PS op t x K=jW P PS op t x' K:=by rw[h]
@[congr] theorem zZv {b:Bool} {o o':Option (IntKind×HV)} {dd:Prop} (_hd:zi=dd) (h:x=x') (h2:y=y') (h3:o=o'):wZ PS x y b K o=wZ PS x' y' b K o':=by rw[h,h2,h3]
@[congr] theorem zSu {C:PL→Prop} {o o':Option (IntKind×HV)} {dd:Prop} (_hd:zi=dd) (h:x=x') (h2:y=y') (h4:z=z') (h3:o=o'):uj PS x y z C o=uj PS x' y' z' C o':=by rw[h,h2,h4,h3]
@[congr] theorem zUd {o o':Option (IntKind×HV)} {dd:Prop} (_hd:zi=dd) (h:x=x') (h3:o=o'):gD PS x L o=gD PS x' L o':=by rw[h,h3]
@[congr] theorem zUW {dd:Prop} (_hd:zi=dd) (h:x=x'):jA PS x L=jA PS x' L:=by rw[h]
@[congr] theorem zXl {dd:Prop} (_hd:zi=dd) (h:x=x'):gJ PS x K=gJ PS x' K:=by rw[h]
@[congr] theorem zcX {q q':zC} {C:Nat→Nat→IntKind→qf→Prop} {dd:Prop} (_hd:zi=dd) (h:q=q'):qT q C=qT q' C:=by rw[h]
@[congr] theorem zaC {op:UnOp} {dd:Prop} (_hd:zi=dd) (h:x=x'):hun op x K=hun op x' K:=by rw[h]
@[congr] theorem zbQ {o o':Option (Nat×Nat)} {dd:Prop} (_hd:zi=dd) (h:x=x') (h2:o=o'):qd PS x K o=qd PS x' K o':=by rw[h,h2]
@[congr] theorem zUN {o o':Option (TypeId×Nat)} {dd:Prop} (_hd:zi=dd) (h:x=x') (h2:y=y') (h3:o=o'):vO PS x y K o=vO PS x' y' K o':=by rw[h,h2,h3]
@[congr] theorem zZ4 {o o':Option (Nat×TypeId×Nat)} {dd:Prop} (_hd:zi=dd) (h:x=x') (h2:y=y') (h3:o=o'):ve PS x y K o=ve PS x' y' K o':=by rw[h,h2,h3]
/-- An address of an element,the types known. -/
def hia (PS:PL) (x i:HV) (K:HV→Prop) (a:Option (TypeId×Nat)) (b:Option (Nat×TypeId×Nat)):Prop:=
 match a with
 | some r=>vO PS x i K (some r)
 | none=>ve PS x i K b
@[go_sem ↓] theorem zZe {t:TypeId}:wi P PS t x y K=hia PS x y K (qO P t) (wR P t):=by unfold wi hia;split<;>simp_all
@[congr] theorem zTE {a a':Option (TypeId×Nat)} {b:Option (Nat×TypeId×Nat)} {dd:Prop} (_hd:zi=dd) (h:a=a'):hia PS x y K a b=hia PS x y K a' b:=by rw[h]
@[go_sem ↓,go_sem] theorem zY3 {r:TypeId×Nat} {b:Option (Nat×TypeId×Nat)}:hia PS x y K (some r) b=vO PS x y K (some r):=_root_.id rfl
@[go_sem ↓,go_sem] theorem zci {b:Option (Nat×TypeId×Nat)}:hia PS x y K none b=ve PS x y K b:=_root_.id rfl
@[congr] theorem zdJ {i:Nat} {dd:Prop} (_hd:zi=dd) (h:x=x'):wy x i K=wy x' i K:=by rw[h]
@[congr] theorem zbv {a a' b b':Nat} {l l' h h' m m':Option HV} {C:Nat→Nat→Option Nat→Prop} {dd:Prop} (_hd:zi=dd) (e1:a=a') (e2:b=b') (e3:l=l') (e4:h=h') (e5:m=m'):qV a b l h m C=qV a' b' l' h' m' C:=by rw[e1,e2,e3,e4,e5]
@[congr] theorem zZl {s:Nat} {l l' h h' m m':Option HV} {dd:Prop} (_hd:zi=dd) (e1:x=x') (e2:l=l') (e3:h=h') (e4:m=m'):wh PS s x l h m K=wh PS s x' l' h' m' K:=by rw[e1,e2,e3,e4]
@[congr] theorem zSQ {N s:Nat} {l l' h h' m m':Option HV} {dd:Prop} (_hd:zi=dd) (e1:x=x') (e2:l=l') (e3:h=h') (e4:m=m'):wT PS N s x l h m K=wT PS N s x' l' h' m' K:=by rw[e1,e2,e3,e4]
@[congr] theorem zWi {l l' h h' m m':Option HV} {dd:Prop} (_hd:zi=dd) (e1:x=x') (e2:l=l') (e3:h=h') (e4:m=m'):jh x l h m K=jh x' l' h' m' K:=by rw[e1,e2,e3,e4]
@[congr] theorem zUI {s d:TypeId} {dd:Prop} (_hd:zi=dd) (h:x=x'):wV P PS s d x K=wV P PS s d x' K:=by rw[h]
@[congr] theorem zb8 {t:TypeId} {C:List HV→Prop} {l l':List HV} {ps ps':List (Nat×HV)} {dd:Prop} (_hd:zi=dd) (h:l=l') (h2:ps=ps'):qW P t C l ps=qW P t C l' ps':=by rw[h,h2]
@[congr] theorem zYF {C:List HV→Prop} {dd:Prop} (_hd:zi=dd) (h:x=x'):hst x C=hst x' C:=by rw[h]
@[congr] theorem zTZ {n:Nat} {ps ps':List (Nat×HV)} {o o':Option (Nat×Nat×List HV)} {dd:Prop} (_hd:zi=dd) (h2:ps=ps') (h:o=o'):vn n ps K o=vn n ps' K o':=by rw[h,h2]
@[congr] theorem zXJ {b:Bool} {dd:Prop} (_hd:zi=dd) (h:xs=xs'):vS b K xs=vS b K xs':=by rw[h]
@[congr] theorem zWl {dd:Prop} (_hd:zi=dd) (h:x=x'):kL x PS L=kL x' PS L:=by rw[h]
@[congr] theorem zcU {o o':Option (Nat×Nat×List HV)} {dd:Prop} (_hd:zi=dd) (h:x=x') (h2:y=y') (h3:o=o'):jr PS x y L o=jr PS x' y' L o':=by rw[h,h2,h3]
@[congr] theorem zZ9 {C:PL→Prop} {o o':Option (Bool×Nat)} {dd:Prop} (_hd:zi=dd) (h:x=x') (h2:y=y') (h3:o=o'):uI PS x y C o=uI PS x' y' C o':=by rw[h,h2,h3]
@[congr] theorem zUU {s b:Nat} {N N':List (List HV)} {dd:Prop} (_hd:zi=dd) (h:x=x') (h2:N=N'):qa PS s b x N L=qa PS s b x' N' L:=by rw[h,h2]
@[congr] theorem zYp {o o':Option (FuncId×List HV×List HV)} {PS':PL} {dd:Prop} (_hd:zi=dd) (h:xs=xs') (h2:o=o') (h3:PS=PS'):uh P xs PS L o=uh P xs' PS' L o':=by rw[h,h2,h3]
@[congr] theorem zcY {f:FuncId} {PS':PL} {dd:Prop} (_hd:zi=dd) (h:xs=xs') (h2:PS=PS'):zI P f xs PS L=zI P f xs' PS' L:=by rw[h,h2]
@[congr] theorem zcv {hop:HOp} {ops:Array Oper} {l:List Oper} {C:Fr→PL→Prop} {PS':PL} {dd:Prop} (_hd:zi=dd) (h:fr=fr') (h2:PS=PS'):zf hop ops l C fr PS=zf hop ops l C fr' PS':=by rw[h,h2]
@[congr] theorem zZ7 {ops:Array Oper} {C:Fr→PL→Prop} {p p':zL} {PS':PL} {dd:Prop} (_hd:zi=dd) (h:p=p') (h2:fr=fr') (h3:PS=PS'):yI P pu ops C p fr PS=yI P pu ops C p' fr' PS':=by rw[h,h2,h3]
@[congr] theorem zYT {ops:Array Oper} {C:Fr→PL→Prop} {p p':zL} {PS':PL} {dd:Prop} (_hd:zi=dd) (h:p=p') (h2:fr=fr') (h3:PS=PS'):zg P pu ops C p fr PS=zg P pu ops C p' fr' PS':=by rw[h,h2,h3]
@[congr] theorem zZs {A B:Prop} {dd:Prop} (_hd:zi=dd) (h:x=x'):wU A B x=wU A B x':=by rw[h]
@[congr] theorem zSI {w:Bool} {A B:Prop} {dd:Prop} (_hd:zi=dd) (h:x=x'):jF w A B x=jF w A B x':=by rw[h]
end
@[go_sem ↓,go_sem] theorem zcw (A B:Prop) (b:Bool):wU A B (.bool b)=(if b=true then A else B):=by cases b<;>simp[wU]
@[go_sem ↓,go_sem] theorem zVd (w:Bool) (A B:Prop) (b:Bool):jF w A B (.bool b)=(if b=w then A else B):=by simp only[jF];split<;>simp_all
@[go_sem ↓,go_sem] theorem zZ1 (w:Bool) (A B:Prop):jF w A B (.cst undef)=B:=_root_.id rfl
@[go_sem ↓,go_sem] theorem zWU (b:Bool) (x y:HV) (K:HV→Prop):vt (.bool b) x y K=(if b=true then K x else K y):=by cases b<;>simp[vt]
section
variable (P:Program) (fr:Fr) (PS:PL) (K:HV→PL→Prop) (d:Option Tmp) (ty:TypeId) (p:String) (af:Array Edge) (g:Option (Nat×Bool))
@[go_sem ↓] theorem zYI (x:Operand):hop P ⟨d,.move x,ty,p,af,g⟩ fr PS K=K (ev fr x) PS:=_root_.id rfl
@[go_sem ↓] theorem zXe (x:Operand):hop P ⟨d,.assign x,ty,p,af,g⟩ fr PS K=K (ev fr x) PS:=_root_.id rfl
@[go_sem ↓] theorem zaS (c x y:Operand):hop P ⟨d,.pick c x y,ty,p,af,g⟩ fr PS K=vt (ev fr c) (ev fr x) (ev fr y) (fun v=>K v PS):=_root_.id rfl
@[go_sem ↓] theorem zVn (t:TypeId) (x:Operand):hop P ⟨d,.load t x,ty,p,af,g⟩ fr PS K=wB PS (ev fr x) (fun v=>K v PS) (tsz P t):=_root_.id rfl
@[go_sem ↓] theorem zU5 (x:Operand):hop P ⟨d,.nilCheck x,ty,p,af,g⟩ fr PS K=wg PS (ev fr x) (fun v=>K v PS):=_root_.id rfl
@[go_sem ↓] theorem zZK (op:BinOp) (t:TypeId) (x y:Operand) (t2:TypeId):hop P ⟨d,.binOp op t x y t2,ty,p,af,g⟩ fr PS K=jq P PS op t (ev fr x) y (ev fr y) (fun v=>K v PS):=_root_.id rfl
@[go_sem ↓] theorem zTS (op:UnOp) (t:TypeId) (x:Operand):hop P ⟨d,.unOp op t x,ty,p,af,g⟩ fr PS K=hun op (ev fr x) (fun v=>K v PS):=_root_.id rfl
@[go_sem ↓] theorem zVq (s t:TypeId) (x:Operand):hop P ⟨d,.convert s t x,ty,p,af,g⟩ fr PS K=wV P PS s t (ev fr x) (fun v=>K v PS):=_root_.id rfl
@[go_sem ↓] theorem zVM (s:TypeId) (x:Operand) (f:Nat):hop P ⟨d,.fieldAddr s x f,ty,p,af,g⟩ fr PS K=qd PS (ev fr x) (fun v=>K v PS) (yX P s f):=_root_.id rfl
@[go_sem ↓] theorem zYA (t:TypeId) (x i:Operand):hop P ⟨d,.indexAddr t x i,ty,p,af,g⟩ fr PS K=wi P PS t (ev fr x) (ev fr i) (fun v=>K v PS):=_root_.id rfl
@[go_sem ↓] theorem zTV (t:TypeId) (x i:Operand):hop P ⟨d,.index t x i,ty,p,af,g⟩ fr PS K=vc P t (ev fr x) (ev fr i) (fun v=>K v PS):=_root_.id rfl
@[go_sem ↓] theorem zWg (x:Operand) (i:Nat):hop P ⟨d,.extract x i,ty,p,af,g⟩ fr PS K=wy (ev fr x) i (fun v=>K v PS):=_root_.id rfl
@[go_sem ↓] theorem zSf (t:TypeId) (x:Operand) (l h m:Option Operand):hop P ⟨d,.slice t x l h m,ty,p,af,g⟩ fr PS K=wm P PS t (ev fr x) (l.map (ev fr)) (h.map (ev fr)) (m.map (ev fr)) (fun v=>K v PS):=_root_.id rfl
@[go_sem ↓] theorem zSX (t:TypeId) (x:Operand):hop P ⟨d,.makeInterface t x,ty,p,af,g⟩ fr PS K=uS P t (ev fr x) (fun v=>K v PS):=_root_.id rfl
@[go_sem ↓] theorem zXL (t:TypeId):hop P ⟨d,.alloc t,ty,p,af,g⟩ fr PS K=uY P t PS K:=_root_.id rfl
@[go_sem ↓] theorem zaN (t:TypeId) (x:Operand):hop P ⟨d,.box t x,ty,p,af,g⟩ fr PS K=kL (ev fr x) PS K:=_root_.id rfl
@[go_sem ↓] theorem za7 (t:TypeId) (x y:Operand):hop P ⟨d,.store t x y,ty,p,af,g⟩ fr PS K=uI PS (ev fr x) (ev fr y) (fun PS'=>K .junk PS') (tsz P t):=_root_.id rfl
@[go_sem ↓] theorem zSh (t:TypeId) (l c:Operand):hop P ⟨d,.makeSlice t l c,ty,p,af,g⟩ fr PS K=jr PS (ev fr l) (ev fr c) K (yV P t):=_root_.id rfl
end
section
variable (hop:HOp) (hdraw:qY) (ops:Array Oper) (K:Fr→PL→Prop) (fr:Fr) (PS:PL) (d:Option Tmp) (op:Op) (ty:TypeId) (p:String) (af:Array Edge) (os:List Oper) (Q:HX→Fr→PL→Prop)
@[go_sem] theorem zWw:zf hop ops [] K fr PS=K fr PS:=_root_.id rfl
@[go_sem] theorem za9:zf hop ops (⟨d,op,ty,p,af,none⟩::os) K fr PS=hop ⟨d,op,ty,p,af,none⟩ fr PS fun v PS'=>zf hop ops os K (zV fr d v) PS':=_root_.id rfl
@[go_sem] theorem zXv (j:Nat) (w:Bool):zf hop ops (⟨d,op,ty,p,af,some (j,w)⟩::os) K fr PS=jF w (hop ⟨d,op,ty,p,af,some (j,w)⟩ fr PS fun v PS'=>zf hop ops os K (zV fr d v) PS') (zf hop ops os K (zV fr d (.cst undef)) PS) (qc ops fr j):=_root_.id rfl
@[go_sem ↓] theorem zcJ:hvc hop hdraw .skip Q fr PS=Q .normal fr PS:=_root_.id rfl
@[go_sem ↓] theorem zcC (id:Nat):hvc hop hdraw (.region id (List.toArray os) false) Q fr PS=zf hop (List.toArray os) os (Q .normal) (nf fr) PS:=_root_.id rfl
@[go_sem ↓] theorem zUh (id:Nat):hvc hop hdraw (.region id ops true) Q fr PS=hdraw id ops (Q .normal) fr PS:=_root_.id rfl
@[go_sem ↓] theorem zS5 (x y:Code):hvc hop hdraw (.seq x y) Q fr PS=hvc hop hdraw x (HX.then (fun fr PS=>hvc hop hdraw y Q fr PS) Q) fr PS:=_root_.id rfl
@[go_sem ↓] theorem zTs (c:Operand) (x y:Code):hvc hop hdraw (.cond c x y) Q fr PS=wU (hvc hop hdraw x Q fr PS) (hvc hop hdraw y Q fr PS) (ev fr c):=_root_.id rfl
@[go_sem ↓] theorem zTJ (id:Nat) (c:Code):hvc hop hdraw (.block id c) Q fr PS=hvc hop hdraw c (HX.inBlock id Q) fr PS:=_root_.id rfl
@[go_sem ↓] theorem zZE (id:Nat):hvc hop hdraw (.exit id) Q fr PS=Q (.exit id) fr PS:=_root_.id rfl
@[go_sem ↓] theorem zaz:hvc hop hdraw .ret Q fr PS=Q .ret fr PS:=_root_.id rfl
/-- A loop:as it stands. -/
def yQ (hop:HOp) (hdraw:qY) (c:Code) (Q:HX→Fr→PL→Prop) (fr:Fr) (PS:PL):Prop:=hvc hop hdraw (.loop c) Q fr PS
@[go_sem ↓] theorem zWZ (c:Code):hvc hop hdraw (.loop c) Q fr PS= @jB ⟨yQ hop hdraw c Q fr PS⟩:=_root_.id rfl
@[go_sem ↓] theorem zTy (A:Fr→PL→Prop):HX.then A Q .normal fr PS=A fr PS:=_root_.id rfl
@[go_sem ↓] theorem zaG (A:Fr→PL→Prop) (id:Nat):HX.then A Q (.exit id) fr PS=Q (.exit id) fr PS:=_root_.id rfl
@[go_sem ↓] theorem zXw (A:Fr→PL→Prop):HX.then A Q .ret fr PS=Q .ret fr PS:=_root_.id rfl
@[go_sem ↓] theorem zY0 (id:Nat):HX.inBlock id Q .normal fr PS=Q .normal fr PS:=_root_.id rfl
@[go_sem ↓] theorem zWV (id j:Nat):HX.inBlock id Q (.exit j) fr PS=if j=id then Q .normal fr PS else Q (.exit j) fr PS:=_root_.id rfl
@[go_sem ↓] theorem zTu (id:Nat):HX.inBlock id Q .ret fr PS=Q .ret fr PS:=_root_.id rfl
end
@[go_sem ↓] theorem zSP (P:Program) (rs:List ResultVar) (K:HV→PL→Prop) (fr:Fr) (PS:PL):je P rs K .normal fr PS=wK P fr PS (jg fun x=>K x PS) rs:=_root_.id rfl
@[go_sem ↓] theorem zX8 (P:Program) (rs:List ResultVar) (K:HV→PL→Prop) (fr:Fr) (PS:PL):je P rs K .ret fr PS=wK P fr PS (jg fun x=>K x PS) rs:=_root_.id rfl
/-- A guard's value. -/
def gv (fr:Fr):Option Oper→HV
 | some o=>(match o.dst with | some d=>get fr d | none=>.junk)
 | none=>.junk
@[go_sem ↓] theorem zWe (os:List Oper) (fr:Fr) (j:Nat):qc (List.toArray os) fr j=gv fr os[j]? :=by
 unfold qc gv
 simp only[List.getElem?_toArray]
 cases os[j]? <;>rfl
@[congr] theorem zc9 {fr:Fr} {o o':Option Oper} {dd:Prop} (_hd:zi=dd) (h:o=o'):gv fr o=gv fr o':=by rw[h]
@[go_sem ↓,go_sem] theorem zT7 (fr:Fr) (d:Nat) (op:Op) (ty:TypeId) (p:String) (af:Array Edge) (g:Option (Nat×Bool)):gv fr (some ⟨some d,op,ty,p,af,g⟩)=get fr d:=_root_.id rfl
/-! ### Operations,by constructors -/
section
variable (P:Program) (pu:Pu) (fr:Fr) (PS:PL) (K:HV→Prop) (L:HV→PL→Prop) (C:List HV→Prop)
@[go_sem ↓] theorem zZ6:wK P fr PS C []=C []:=_root_.id rfl
@[go_sem ↓] theorem zYX (t:Nat) (r:List ResultVar):wK P fr PS C (.tmp t::r)=wK P fr PS (fun l=>C (get fr t::l)) r:=_root_.id rfl
@[go_sem ↓] theorem zZO (t:Nat) (ty:TypeId) (r:List ResultVar):wK P fr PS C (.cell t ty::r)=wB PS (get fr t) (fun x=>wK P fr PS (fun l=>C (x::l)) r) (tsz P ty):=_root_.id rfl
@[go_sem ↓,go_sem] theorem zZS:jg K []=K (.tup []):=_root_.id rfl
@[go_sem ↓,go_sem] theorem zdK (x:HV):jg K [x]=K x:=_root_.id rfl
@[go_sem ↓,go_sem] theorem zbI (x y:HV) (l:List HV):jg K (x::y::l)=K (.tup (x::y::l)):=_root_.id rfl
@[go_sem ↓,go_sem] theorem zUf (v s i ver:Nat) (E:List (List HV)) (o:Bool):zd (.arr v s E o) ver i C=(ver=v∧qw E[i]? C):=_root_.id rfl
@[go_sem ↓,go_sem] theorem zWM (s n ver i k:Nat):qK PS s C (.ptr n ver i k)=zd (zA PS n) ver i fun l=>k+s≤l.length∧C ((l.drop k).take s):=_root_.id rfl
@[go_sem ↓,go_sem] theorem zbY (s k:Nat) (l:List HV):qK PS s C (.iptr l k)=(k+s≤l.length∧C ((l.drop k).take s)):=_root_.id rfl
@[go_sem ↓,go_sem] theorem zWf (x:HV):yE K [x]=K x:=_root_.id rfl
@[go_sem ↓,go_sem] theorem zco (x:HV) (s:Nat):wB PS x K (some (true,s))=qK PS s (fun l=>K (.agg l)) x:=_root_.id rfl
@[go_sem ↓,go_sem] theorem zTx (x:HV) (s:Nat):wB PS x K (some (false,s))=qK PS 1 (yE K) x:=_root_.id rfl
@[go_sem ↓,go_sem] theorem zXn (n ver i k:Nat):wg PS (.ptr n ver i k) K=(qJ (zA PS n) ver∧K (.ptr n ver i k)):=_root_.id rfl
@[go_sem ↓,go_sem] theorem zSD (v s ver:Nat) (E:List (List HV)) (o:Bool):qJ (.arr v s E o) ver=(ver=v∧(o=false∨E≠[])):=_root_.id rfl
@[go_sem ↓,go_sem] theorem zdI (v s ver:Nat) (E:List (List HV)) (o:Bool):qM (.arr v s E o) ver=(ver=v):=_root_.id rfl
@[go_sem ↓,go_sem] theorem zWG (v s s':Nat) (E:List (List HV)) (o:Bool):hsz (.arr v s E o) s'=(s=s'):=_root_.id rfl
@[go_sem ↓,go_sem] theorem zbT (off s n ver i k:Nat):qd PS (.ptr n ver i k) K (some (off,s))=(qJ (zA PS n) ver∧K (.ptr n ver i (k+off))):=_root_.id rfl
@[go_sem ↓,go_sem] theorem zUy (off s k:Nat) (l:List HV):qd PS (.iptr l k) K (some (off,s))=K (.iptr l (k+off)):=_root_.id rfl
@[go_sem ↓,go_sem] theorem zcR (t:Bool) (E:List (List HV)) (k:IntKind) (i:Int) (e:TypeId) (s:Nat):vO PS (.imm t E) (.int k i) K (some (e,s))=(0≤i∧qw E[i.toNat]? fun l=>l.length=s∧K (.iptr l 0)):=_root_.id rfl
@[go_sem ↓,go_sem] theorem zYo (n ver i0 len:Nat) (c:Option Nat) (k:IntKind) (i:Int) (e:TypeId) (s:Nat):vO PS (.sl n ver i0 len c) (.int k i) K (some (e,s))=(0≤i∧i<len∧zd (zA PS n) ver (i0+i.toNat) fun l=>l.length=s∧K (.ptr n ver (i0+i.toNat) 0)):=_root_.id rfl
@[go_sem ↓,go_sem] theorem zU7 (n ver i0 k0 len c:Nat) (k:IntKind) (i:Int) (e:TypeId) (s:Nat):vO PS (.isl n ver i0 k0 len c) (.int k i) K (some (e,s))=(0≤i∧i<len∧qJ (zA PS n) ver∧K (.ptr n ver i0 (k0+i.toNat*s))):=_root_.id rfl
@[go_sem ↓,go_sem] theorem zS0 (n ver i0 k0:Nat) (k:IntKind) (i:Int) (N:Nat) (e:TypeId) (s:Nat):ve PS (.ptr n ver i0 k0) (.int k i) K (some (N,e,s))=(0≤i∧i<N∧qJ (zA PS n) ver∧K (.ptr n ver i0 (k0+i.toNat*s))):=_root_.id rfl
@[go_sem ↓,go_sem] theorem zV9 (d:Int) (B:Int→Prop):vH none d B=B d:=_root_.id rfl
@[go_sem ↓,go_sem] theorem zVU (k:IntKind) (n d:Int) (B:Int→Prop):vH (some (.int k n)) d B=B n:=_root_.id rfl
@[go_sem ↓] theorem zV7 (len lim:Nat) (l h:Option HV) (B:Nat→Nat→Option Nat→Prop):qV len lim l h none B=vH l 0 fun l=>vH h len fun h=>0≤l∧l≤h∧h≤lim∧B l.toNat h.toNat none:=_root_.id rfl
@[go_sem ↓,go_sem] theorem zYQ (l:List HV) (i:Nat):wy (.tup l) i K=qw l[i]? K:=_root_.id rfl
@[go_sem ↓,go_sem] theorem zcQ (l:List HV):hst (.agg l) C=(qS l∧C l):=by simp only[qy];rfl
@[go_sem ↓,go_sem] theorem zXV (b:Bool):hst (.bool b) C=C [.bool b]:=by simp[hst,HV.one]
@[go_sem ↓,go_sem] theorem zTp (k:IntKind) (n:Int):hst (.int k n) C=C [.int k n]:=by simp[hst,HV.one]
@[go_sem ↓,go_sem] theorem zXG (t:Bool) (E:List (List HV)):hst (.imm t E) C=C [.imm t E]:=by simp[hst,HV.one]
@[go_sem ↓,go_sem] theorem zYL (n v i len:Nat) (c:Option Nat):hst (.sl n v i len c) C=C [.sl n v i len c]:=by simp[hst,HV.one]
/-- A store of cells. -/
def KI (PS:PL) (s:Nat) (c:List HV) (B:PL→Prop):HV→Prop
 | .ptr n ver i k=>vK (zA PS n) fun ver' sz E opn=>ver=ver'∧qw E[i]? fun l=>k+s≤l.length∧B (PS.set n (.arr ver sz (E.set i (zP k c l)) opn))
 | _=>False
@[go_sem ↓,go_sem] theorem zSN (s n ver i k:Nat) (c:List HV) (B:PL→Prop):KI PS s c B (.ptr n ver i k)=vK (zA PS n) fun ver' sz E opn=>ver=ver'∧qw E[i]? fun l=>k+s≤l.length∧B (PS.set n (.arr ver sz (E.set i (zP k c l)) opn)):=_root_.id rfl
@[go_sem ↓,go_sem] theorem zYr (B:PL→Prop) (a x:HV) (b:Bool) (s:Nat):uI PS a x B (some (b,s))=hst x fun c=>c.length=s∧KI PS s c B a:=by
 simp only[uI]
 have:(fun c:List HV=>c.length=s∧match a with
  | .ptr n ver i k=>(match zA PS n with
   | .arr ver' sz E opn=>ver=ver'∧∃l,E[i]? =some l∧k+s≤l.length∧B (PS.set n (.arr ver sz (E.set i (zP k c l)) opn))
   | _=>False)
  | _=>False)=fun c=>c.length=s∧KI PS s c B a:=by
  funext c
  cases a<;>rfl
 rw[←this]
 rfl
@[go_sem ↓,go_sem] theorem zb2 (x:HV):kL x PS L=hst x fun l=>L (.ptr PS.length 0 0 0) (PS++[.arr 0 l.length [l] false]):=_root_.id rfl
@[go_sem ↓,go_sem] theorem za5 (l c:HV) (s b:Nat) (z:List HV):jr PS l c L (some (s,b,z))=XF PS s b z L l c:=_root_.id rfl
@[go_sem ↓,go_sem] theorem zTz (s b:Nat) (z:List HV) (l c:Int):XF PS s b z L (.int .i64 l) (.int .i64 c)=(0≤l∧l≤c∧c≤140737488355328∧c*b≤140737488355328∧L (.sl PS.length 0 0 l.toNat (some c.toNat)) (PS++[.arr 0 s (List.replicate c.toNat z) false])):=_root_.id rfl
/-- New memory,the cells known. -/
def hal (PS:PL) (L:HV→PL→Prop):Option (List HV)→Prop
 | some l=>L (.ptr PS.length 0 0 0) (PS++[.arr 0 l.length [l] false])
 | none=>False
@[go_sem ↓] theorem zVA (t:TypeId):uY P t PS L=hal PS L (qP P t):=by unfold uY hal;split<;>simp_all
@[go_sem ↓,go_sem] theorem zUL (l:List HV):hal PS L (some l)=L (.ptr PS.length 0 0 0) (PS++[.arr 0 l.length [l] false]):=_root_.id rfl
@[go_sem ↓,go_sem] theorem zKp (s b:Nat) (t:Bool) (E N:List (List HV)):qa PS s b (.imm t E) N L=(t=true∧(E=[]∨0<N.length)∧(∀r∈E,r.length=s)∧zr (E.length+N.length) b∧L (.sl PS.length 0 0 (E.length+N.length) none) (PS++[.arr 0 s (E++N) true])):=_root_.id rfl
@[go_sem ↓,go_sem] theorem zH9 (s b n ver i len:Nat) (N:List (List HV)):qa PS s b (.sl n ver i len none) N L=vK (zA PS n) fun ver' sz E opn=>ver=ver'∧sz=s∧ @hor (i+len=E.length∧zr (len+N.length) b∧L (.sl n (ver+1) 0 (len+N.length) none) (PS.set n (.arr (ver+1) s (E.drop i++N) true)))
  ⟨i+len<E.length∧i+len+N.length≤E.length∧L (.sl n ver i (len+N.length) none) (PS.set n (.arr ver s (zP (i+len) N E) opn))⟩:=by
 simp only[qa];cases zA PS n<;>rfl
def hap (PS:PL) (x y:HV) (A B:Prop) (L:HV→PL→Prop):Option (Nat×Nat×List HV)→Prop
 | some (s,b,z)=>uf PS x A B L s b z y
 | none=>False
@[go_sem ↓] theorem zbn (t t2:TypeId) (x y:HV):gR P PS t t2 x y L=hap PS x y (uG P t2) (xo P t2=true) L (yV P t):=by unfold gR hap;split<;>simp_all
@[go_sem ↓,go_sem] theorem zUj (s b:Nat) (z:List HV) (x y:HV) (A B:Prop):hap PS x y A B L (some (s,b,z))=uf PS x A B L s b z y:=_root_.id rfl
@[go_sem ↓,go_sem] theorem zWq (s b:Nat) (z:List HV) (x:HV) (n:Int) (A B:Prop):uf PS x A B L s b z (.int .i64 n)=(B∧0≤n∧n≤65536∧n.toNat*b≤140737488355328∧qa PS s b x (List.replicate n.toNat z) L):=_root_.id rfl
@[go_sem ↓,go_sem] theorem zTI (s b:Nat) (z:List HV) (x:HV) (t:Bool) (E:List (List HV)) (A B:Prop):uf PS x A B L s b z (.imm t E)=(A∧yA PS s (.imm t E) fun N=>qa PS s b x N L):=_root_.id rfl
@[go_sem ↓,go_sem] theorem zSb (s b:Nat) (z:List HV) (x:HV) (n ver i len:Nat) (c:Option Nat) (A B:Prop):uf PS x A B L s b z (.sl n ver i len c)=(A∧yA PS s (.sl n ver i len c) fun N=>qa PS s b x N L):=_root_.id rfl
@[go_sem ↓,go_sem] theorem zSi (s b:Nat) (z:List HV) (x:HV) (n ver i k len c:Nat) (A B:Prop):uf PS x A B L s b z (.isl n ver i k len c)=(A∧yA PS s (.isl n ver i k len c) fun N=>qa PS s b x N L):=_root_.id rfl
@[congr] theorem za4 {s b:Nat} {z:List HV} {x x' y y':HV} {A B:Prop} {dd:Prop} (_hd:zi=dd) (h:x=x') (h2:y=y'):uf PS x A B L s b z y=uf PS x' A B L s b z y':=by rw[h,h2]
@[go_sem ↓,go_sem] theorem zTQ (s:Nat) (n ver i len:Nat) (c:Option Nat) (N:Nat→List (List HV)) (B:PL→Prop):wq PS s (.sl n ver i len c) N B=vK (zA PS n) fun ver' sz E opn=>ver=ver'∧sz=s∧(opn=false∨E≠[])∧i+len≤E.length∧B (PS.set n (.arr ver s (zP i (N len) E) opn)):=by
 simp only[wq];cases zA PS n<;>rfl
@[go_sem ↓,go_sem] theorem zbS (s:Nat) (n ver i k len c:Nat) (N:Nat→List (List HV)) (B:PL→Prop):wq PS s (.isl n ver i k len c) N B=(s=1∧vK (zA PS n) fun ver' sz E opn=>ver=ver'∧qw E[i]? fun l=>k+len≤l.length∧B (PS.set n (.arr ver sz (E.set i (zP k (N len).flatten l)) opn))):=by
 simp only[wq];cases zA PS n<;>rfl
@[go_sem ↓,go_sem] theorem zW5 (s:Nat) (t:Bool) (E:List (List HV)) (B:List (List HV)→Prop):zz PS s (.imm t E) B=((∀r∈E,r.length=s)∧B E):=_root_.id rfl
@[go_sem ↓,go_sem] theorem zUc (s n ver i len:Nat) (c:Option Nat) (B:List (List HV)→Prop):zz PS s (.sl n ver i len c) B=vK (zA PS n) fun ver' sz E _=>ver=ver'∧(len=0∨sz=s)∧i+len≤E.length∧B ((E.drop i).take len):=by
 simp only[zz];cases zA PS n<;>rfl
@[go_sem ↓,go_sem] theorem zT1 (s n ver i k len c:Nat) (B:List (List HV)→Prop):zz PS s (.isl n ver i k len c) B=(s=1∧zd (zA PS n) ver i fun l=>k+len≤l.length∧B (((l.drop k).take len).map fun y=>[y])):=_root_.id rfl
@[go_sem ↓,go_sem] theorem zYd (s:Nat) (t:Bool) (E:List (List HV)) (B:List (List HV)→Prop):yA PS s (.imm t E) B=zz PS s (.imm t E) B:=_root_.id rfl
@[go_sem ↓,go_sem] theorem zc1 (s n ver i len:Nat) (c:Option Nat) (B:List (List HV)→Prop):yA PS s (.sl n ver i len c) B=zz PS s (.sl n ver i len c) B:=_root_.id rfl
@[go_sem ↓,go_sem] theorem zU2 (s n ver i k len c:Nat) (B:List (List HV)→Prop):yA PS s (.isl n ver i k len c) B=zz PS s (.isl n ver i k len c) B:=_root_.id rfl
@[go_sem] theorem zVp (args:List HV) (g:FuncId):uh P args PS L (some (g,[],[]))=(zQ P g=true∧ @jB ⟨zI P g args PS L⟩):=by simp[uh,jB]
@[go_sem] theorem zdB (args:List HV) (g:FuncId) (f c:List HV) (x:HV):uh P args PS L (some (g,x::f,c))=(zQ P g=true∧ @jB ⟨zI P g (x::f++(args++c)) PS L⟩):=_root_.id rfl
@[go_sem ↓,go_sem] theorem zcA (args:List HV) (g:FuncId):vL P 0 args PS K (some (g,[],[]))=(zQ P g=true∧ @jB ⟨KZ P g args K⟩):=by simp[vL,jB,KZ]
@[go_sem ↓,go_sem] theorem zSy (n:Nat) (args:List HV) (g:FuncId):vL P (n+1) args PS K (some (g,[],[]))=(zQ P g=true∧ @jB ⟨KE P g args PS K⟩):=by simp[vL,jB,KE]
end
@[congr] theorem zUo {PS:PL} {L:HV→PL→Prop} {o o':Option (List HV)} {dd:Prop} (_hd:zi=dd) (h:o=o'):hal PS L o=hal PS L o':=by rw[h]
/-! ### By types -/
section
variable {P:Program} {fr:Fr} {PS:PL} {K:HV→Prop} {L:HV→PL→Prop} {C:List HV→Prop} {d:Option Tmp} {ty:TypeId} {p:String} {af:Array Edge} {g:Option (Nat×Bool)}
@[go_sem ↓] theorem zcd (x:Operand) (t:TypeId):hop P ⟨d,.call ⟨.builtin .len,#[x],#[t]⟩,ty,p,af,g⟩ fr PS L=hlen P PS t (ev fr x) (fun v=>L v PS):=_root_.id rfl
@[go_sem ↓] theorem zT6 (x y:Operand) (t t2:TypeId):hop P ⟨d,.call ⟨.builtin .append,#[x,y],#[t,t2]⟩,ty,p,af,g⟩ fr PS L=gR P PS t t2 (ev fr x) (ev fr y) L:=_root_.id rfl
@[go_sem ↓] theorem zUg (x y:Operand) (t t2:TypeId):hop P ⟨d,.call ⟨.builtin .copy,#[x,y],#[t,t2]⟩,ty,p,af,g⟩ fr PS L=kT P PS t (ev fr x) (ev fr y) L:=_root_.id rfl
@[go_sem ↓] theorem zS8 (x:Operand) (t:TypeId):hop P ⟨d,.call ⟨.builtin .clear,#[x],#[t]⟩,ty,p,af,g⟩ fr PS L=kR P PS t (ev fr x) L:=_root_.id rfl
@[go_sem ↓] theorem zTe (f:Operand) (xs:List Operand) (ts:Array TypeId):hop P ⟨d,.call ⟨.value f,List.toArray xs,ts⟩,ty,p,af,g⟩ fr PS L=uh P (xs.map (ev fr)) PS L (wu (ev fr f)):=_root_.id rfl
@[go_sem ↓] theorem zZq (t:TypeId) (ps:List (Nat×Operand)):hop P ⟨d,.build t (List.toArray ps),ty,p,af,g⟩ fr PS L=uK P t (ps.map fun p=>(p.1,ev fr p.2)) (fun v=>L v PS):=_root_.id rfl
@[go_sem ↓] theorem zX6 (t:TypeId) (n:Nat) (ps:List (Nat×Operand)):hop P ⟨d,.buildSlice t n (List.toArray ps),ty,p,af,g⟩ fr PS L=vn n (ps.map fun p=>(p.1,ev fr p.2)) (fun v=>L v PS) (yV P t):=_root_.id rfl
@[go_sem ↓] theorem zUH (fn:Fn) (f c:List Operand):hop P ⟨d,.makeFunc fn (List.toArray f) (List.toArray c),ty,p,af,g⟩ fr PS L=L (.func fn (f.map (ev fr)) (c.map (ev fr))) PS:=_root_.id rfl
@[go_sem ↓,go_sem] theorem zYU (f:FuncId):wu (.cst (.func (.func f) #[] #[]))=some (f,[],[]):=_root_.id rfl
@[go_sem ↓,go_sem] theorem zTP (f:FuncId) (a b:List HV):wu (.func (.func f) a b)=some (f,a,b):=_root_.id rfl
def kH (P:Program) (PS:PL) (x:HV) (K:HV→Prop) (u:Option TypeDesc):Prop:=
 match u with
 | some .string=>(match x with | .str s=>K (.int .i64 s.length) | .stok i=>(match zB.slen i with | some j=>K (.tok .i64 j) | none=>False) | _=>False)
 | some (.slice _)=>(match x with
  | .imm _ E=>E.length≤maxLen→K (.int .i64 E.length)
  | .sl n ver _ len _=>qM (zA PS n) ver∧(len≤maxLen→K (.int .i64 len))
  | .isl n ver _ _ len _=>qM (zA PS n) ver∧(len≤maxLen→K (.int .i64 len))
  | .nam i=>uO i K
  | _=>False)
 | some (.array n _)=>K (.int .i64 n)
 | some (.pointer ar)=>(match P.underlying ar with | some (.array n _)=>K (.int .i64 n) | _=>False)
 | _=>False
@[go_sem ↓] theorem zVQ (t:TypeId) (x:HV):hlen P PS t x K=kH P PS x K (P.underlying t):=_root_.id rfl
@[congr] theorem zXi {x x':HV} {u u':Option TypeDesc} {dd:Prop} (_hd:zi=dd) (h:x=x') (h2:u=u'):kH P PS x K u=kH P PS x' K u':=by rw[h,h2]
@[go_sem ↓,go_sem] theorem zYS (s:List UInt8):kH P PS (.str s) K (some .string)=K (.int .i64 s.length):=_root_.id rfl
@[go_sem ↓,go_sem] theorem zWF (e:TypeId) (t:Bool) (E:List (List HV)):kH P PS (.imm t E) K (some (.slice e))=(E.length≤maxLen→K (.int .i64 E.length)):=_root_.id rfl
@[go_sem ↓,go_sem] theorem zWd (e:TypeId) (n ver i len:Nat) (c:Option Nat):kH P PS (.sl n ver i len c) K (some (.slice e))=(qM (zA PS n) ver∧(len≤maxLen→K (.int .i64 len))):=_root_.id rfl
@[go_sem ↓,go_sem] theorem zSG (e:TypeId) (n ver i k len c:Nat):kH P PS (.isl n ver i k len c) K (some (.slice e))=(qM (zA PS n) ver∧(len≤maxLen→K (.int .i64 len))):=_root_.id rfl
def YP (P:Program) (PS:PL) (x:HV) (K:HV→Prop) (u:Option TypeDesc):Prop:=
 match u with
 | some .string=>(match x with | .str s=>K (.int .i64 s.length) | .stok i=>(match zB.slen i with | some j=>K (.tok .i64 j) | none=>False) | _=>False)
 | some (.slice _)=>(match x with
  | .imm _ E=>K (.int .i64 E.length)
  | .sl n ver _ len _=>qM (zA PS n) ver∧K (.int .i64 len)
  | .isl n ver _ _ len _=>qM (zA PS n) ver∧K (.int .i64 len)
  | .nam i=>uO i K
  | _=>False)
 | some (.array n _)=>K (.int .i64 n)
 | some (.pointer ar)=>(match P.underlying ar with | some (.array n _)=>K (.int .i64 n) | _=>False)
 | _=>False
@[go_sem ↓] theorem zZc (t:TypeId) (x:HV):vD P PS t x K=YP P PS x K (P.underlying t):=_root_.id rfl
@[congr] theorem zWr {x x':HV} {u u':Option TypeDesc} {dd:Prop} (_hd:zi=dd) (h:x=x') (h2:u=u'):YP P PS x K u=YP P PS x' K u':=by rw[h,h2]
@[go_sem ↓,go_sem] theorem zaO (e:TypeId) (t:Bool) (E:List (List HV)):YP P PS (.imm t E) K (some (.slice e))=K (.int .i64 E.length):=_root_.id rfl
@[go_sem ↓,go_sem] theorem zcP (e:TypeId) (n ver i len:Nat) (c:Option Nat):YP P PS (.sl n ver i len c) K (some (.slice e))=(qM (zA PS n) ver∧K (.int .i64 len)):=_root_.id rfl
@[go_sem ↓,go_sem] theorem zWn (e:TypeId) (n ver i k len c:Nat):YP P PS (.isl n ver i k len c) K (some (.slice e))=(qM (zA PS n) ver∧K (.int .i64 len)):=_root_.id rfl
def Zn (PS:PL) (x:HV) (l h m:Option HV) (K:HV→Prop):Option (TypeId×Nat)→Prop
 | some (_,s)=>wh PS s x l h m K
 | none=>False
def xp (PS:PL) (x:HV) (l h m:Option HV) (K:HV→Prop):Option (Nat×TypeId×Nat)→Prop
 | some (N,_,s)=>wT PS N s x l h m K
 | none=>False
def ZD (P:Program) (PS:PL) (t:TypeId) (x:HV) (l h m:Option HV) (K:HV→Prop) (u:Option TypeDesc):Prop:=
 match u with
 | some .string=>jh x l h m K
 | some (.slice _)=>Zn PS x l h m K (qO P t)
 | some (.array _ _)=>xp PS x l h m K (wR P t)
 | some (.pointer ar)=>xp PS x l h m K (wR P ar)
 | _=>False
@[go_sem ↓] theorem zZQ (t:TypeId) (x:HV) (l h m:Option HV):wm P PS t x l h m K=ZD P PS t x l h m K (P.underlying t):=by
 unfold wm ZD;split<;>first | rfl | (unfold Zn xp;split<;>simp_all)
@[congr] theorem za0 {t:TypeId} {x:HV} {l h m:Option HV} {u u':Option TypeDesc} {dd:Prop} (_hd:zi=dd) (e:u=u'):ZD P PS t x l h m K u=ZD P PS t x l h m K u':=by rw[e]
@[congr] theorem zTj {x:HV} {l h m:Option HV} {u u':Option (TypeId×Nat)} {dd:Prop} (_hd:zi=dd) (e:u=u'):Zn PS x l h m K u=Zn PS x l h m K u':=by rw[e]
@[congr] theorem zW1 {x:HV} {l h m:Option HV} {u u':Option (Nat×TypeId×Nat)} {dd:Prop} (_hd:zi=dd) (e:u=u'):xp PS x l h m K u=xp PS x l h m K u':=by rw[e]
@[go_sem ↓,go_sem] theorem zSR (t:TypeId) (x:HV) (l h m:Option HV):ZD P PS t x l h m K (some .string)=jh x l h m K:=_root_.id rfl
@[go_sem ↓,go_sem] theorem zbt (t e:TypeId) (x:HV) (l h m:Option HV):ZD P PS t x l h m K (some (.slice e))=Zn PS x l h m K (qO P t):=_root_.id rfl
@[go_sem ↓,go_sem] theorem zZr (t e:TypeId) (n:Nat) (x:HV) (l h m:Option HV):ZD P PS t x l h m K (some (.array n e))=xp PS x l h m K (wR P t):=_root_.id rfl
@[go_sem ↓,go_sem] theorem zWp (e:TypeId) (s:Nat) (x:HV) (l h m:Option HV):Zn PS x l h m K (some (e,s))=wh PS s x l h m K:=_root_.id rfl
@[go_sem ↓,go_sem] theorem zUG (N:Nat) (e:TypeId) (s:Nat) (x:HV) (l h m:Option HV):xp PS x l h m K (some (N,e,s))=wT PS N s x l h m K:=_root_.id rfl
@[go_sem ↓,go_sem] theorem zWX (s:List UInt8) (l h:Option HV):jh (.str s) l h none K=qV s.length s.length l h none fun l h _=>K (.str ((s.take h).drop l)):=by simp[jh]
@[go_sem ↓,go_sem] theorem zUM (s:Nat) (t:Bool) (E:List (List HV)) (l h m:Option HV):wh PS s (.imm t E) l h m K=((∀r∈E,r.length=s)∧qV E.length E.length l h m fun l h' m=>match m with
  | some m=>K (.imm (decide (m=h')) ((E.take h').drop l))
  | none=>K (.imm (t&&(h.isNone || decide (h'=E.length))) ((E.take h').drop l))):=rfl
@[go_sem ↓,go_sem] theorem zbq (s n ver i len:Nat) (cp:Option Nat) (l h m:Option HV):wh PS s (.sl n ver i len cp) l h m K=(qJ (zA PS n) ver∧hsz (zA PS n) s∧qV len (uN (zA PS n) i len cp) l h m fun l h m=>match m with
  | some m=>K (.sl n ver (i+l) (h - l) (some (m - l)))
  | none=>K (.sl n ver (i+l) (h - l) (cp.map (· - l)))):=rfl
@[go_sem ↓,go_sem] theorem zXd (v s:Nat) (E:List (List HV)) (o:Bool) (i len:Nat):uN (.arr v s E o) i len none=max len (E.length - i):=_root_.id rfl
attribute [go_sem] Nat.le_max_left
@[go_sem ↓,go_sem] theorem zVc (s n ver i k len cp:Nat) (l h m:Option HV):wh PS s (.isl n ver i k len cp) l h m K=(qJ (zA PS n) ver∧qV len cp l h m fun l h m=>match m with
  | some m=>K (.isl n ver i (k+l*s) (h - l) (m - l))
  | none=>K (.isl n ver i (k+l*s) (h - l) (cp - l))):=rfl
@[go_sem ↓,go_sem] theorem zVh (N s n ver i k:Nat) (l h m:Option HV):wT PS N s (.ptr n ver i k) l h m K=(N≤65536∧qJ (zA PS n) ver∧qV N N l h m fun l h m=>K (.isl n ver i (k+l*s) (h - l) (m.getD N - l))):=_root_.id rfl
@[go_sem ↓,go_sem] theorem zVX (N s k:Nat) (c:List HV) (l h m:Option HV):wT PS N s (.iptr c k) l h m K=(N≤65536∧s=1∧k+N≤c.length∧qV N N l h m fun l h m=>K (.imm (decide (m.getD N=h)) (((c.drop (k+l)).take (h - l)).map fun y=>[y]))):=_root_.id rfl
def hpt (i:Nat) (l:List HV) (K:HV→Prop):Option (Bool×Nat)→Prop
 | some (b,s)=>uB b s (i*s) l K
 | none=>False
def Ys (P:Program) (x i:HV) (K:HV→Prop) (u:Option TypeDesc):Prop:=
 match u with
 | some .string=>(match x,i with
  | .str s,.int _ n=>0≤n∧qw s[n.toNat]? fun b=>K (.int .u8 b.toNat)
  | _,_=>False)
 | some (.array N e)=>(match x,i with
  | .agg l,.int _ n=>0≤n∧n<N∧hpt n.toNat l K (tsz P e)
  | _,_=>False)
 | _=>False
@[go_sem ↓] theorem zZJ (t:TypeId) (x i:HV):vc P t x i K=Ys P x i K (P.underlying t):=by
 unfold vc Ys
 generalize P.underlying t=u
 cases u with
 | none=>rfl
 | some u=>
  cases u<;>first | rfl | (cases x<;>first | rfl | (cases i<;>rfl))
@[congr] theorem zcT {x x' i i':HV} {u u':Option TypeDesc} {dd:Prop} (_hd:zi=dd) (h:x=x') (h2:i=i') (e:u=u'):Ys P x i K u=Ys P x' i' K u':=by rw[h,h2,e]
@[go_sem ↓,go_sem] theorem zcp (s:List UInt8) (k:IntKind) (n:Int):Ys P (.str s) (.int k n) K (some .string)=(0≤n∧qw s[n.toNat]? fun b=>K (.int .u8 b.toNat)):=_root_.id rfl
def hfv (x:HV) (K:HV→Prop):Option (Bool×Nat×Nat)→Prop
 | some (b,s,off)=>(match x with | .agg l=>uB b s off l K | _=>False)
 | none=>False
def kb (P:Program) (PS:PL) (x:HV) (K:HV→Prop) (us ud:Option TypeDesc):Prop:=
 match us,ud,x with
 | some _,some (.int k),.int _ n=>vg k n K
 | some _,some (.int k),.tok _ i=>vg k (zB.num i) (rename (zB.conv i k) K)
 | some .string,some .string,.str l=>K (.str l)
 | some (.slice e),some .string,x=>P.underlying e=some (.int .u8)∧zz PS 1 x fun E=>qw (bytesOf E) fun l=>K (.str l)
 | some .string,some (.slice e),.str l=>P.underlying e=some (.int .u8)∧l.length≤140737488355328∧K (.imm false (zD l))
 | _,_,_=>False
@[go_sem ↓] theorem zZT (s d':TypeId) (x:HV):wV P PS s d' x K=kb P PS x K (P.underlying s) (P.underlying d'):=by
 unfold wV wc kb ZG
 cases hs:P.underlying s with
 | none=>
  cases hd:P.underlying d' with
  | none=>cases x<;>rfl
  | some ud=>cases ud<;>cases x<;>simp
 | some us=>
  cases hd:P.underlying d' with
  | none=>cases x<;>cases us<;>rfl
  | some ud=>cases us<;>cases ud<;>cases x<;>first | rfl | (simp;done) | (simp[zz];done)
@[congr] theorem zZj {x x':HV} {u u' v v':Option TypeDesc} {dd:Prop} (_hd:zi=dd) (h:x=x') (e:u=u') (e2:v=v'):kb P PS x K u v=kb P PS x' K u' v':=by rw[h,e,e2]
@[go_sem ↓,go_sem] theorem zWy (us:TypeDesc) (k k':IntKind) (n:Int):kb P PS (.int k' n) K (some us) (some (.int k))=vg k n K:=by cases us<;>rfl
@[go_sem ↓,go_sem] theorem zSl (e:TypeId) (t:Bool) (E:List (List HV)):kb P PS (.imm t E) K (some (.slice e)) (some .string)=(P.underlying e=some (.int .u8)∧zz PS 1 (.imm t E) fun E=>qw (bytesOf E) fun l=>K (.str l)):=_root_.id rfl
@[go_sem ↓,go_sem] theorem zVl (e:TypeId) (n ver i len:Nat) (c:Option Nat):kb P PS (.sl n ver i len c) K (some (.slice e)) (some .string)=(P.underlying e=some (.int .u8)∧zz PS 1 (.sl n ver i len c) fun E=>qw (bytesOf E) fun l=>K (.str l)):=_root_.id rfl
@[go_sem ↓,go_sem] theorem za8 (e:TypeId) (n ver i k len c:Nat):kb P PS (.isl n ver i k len c) K (some (.slice e)) (some .string)=(P.underlying e=some (.int .u8)∧zz PS 1 (.isl n ver i k len c) fun E=>qw (bytesOf E) fun l=>K (.str l)):=_root_.id rfl
/-! ### Literals -/
/-- The cells of a part. -/
def hpc (x:HV) (C:List HV→Prop):Prop:=(x.one=true∨∃c,x=.agg c)∧C (vi x)
def hfl (P:Program) (t:TypeId) (C:List HV→Prop) (l:List HV) (x:HV) (r:List (Nat×HV)):Option (Nat×Nat)→Prop
 | some (off,s)=>hpc x fun c=>c.length=s∧off+s≤l.length∧qW P t C (zP off c l) r
 | none=>False
@[go_sem ↓,go_sem] theorem zU8 (t:TypeId) (l:List HV):qW P t C l []=C l:=_root_.id rfl
@[go_sem ↓,go_sem] theorem zZu (t:TypeId) (l:List HV) (i:Nat) (x:HV) (r:List (Nat×HV)):qW P t C l ((i,x)::r)=hfl P t C l x r (qt P t i):=by
 simp only[qW,hfl,hpc]
 cases qt P t i with
 | none=>rfl
 | some q=>obtain⟨off,s⟩:=q;rfl
@[congr] theorem zUs {t:TypeId} {l l':List HV} {x x':HV} {r r':List (Nat×HV)} {o o':Option (Nat×Nat)} {dd:Prop} (_hd:zi=dd) (h:l=l') (h2:x=x') (h3:r=r') (h4:o=o'):hfl P t C l x r o=hfl P t C l' x' r' o':=by rw[h,h2,h3,h4]
@[go_sem ↓,go_sem] theorem zWh (t:TypeId) (l:List HV) (x:HV) (r:List (Nat×HV)) (off s:Nat):hfl P t C l x r (some (off,s))=hpc x fun c=>c.length=s∧off+s≤l.length∧qW P t C (zP off c l) r:=_root_.id rfl
@[go_sem ↓,go_sem] theorem zTr (l:List HV):hpc (.agg l) C=C l:=by simp[hpc,vi]
@[go_sem ↓,go_sem] theorem zZw (b:Bool):hpc (.bool b) C=C [.bool b]:=by simp[hpc,HV.one,vi]
@[go_sem ↓,go_sem] theorem zYs (k:IntKind) (n:Int):hpc (.int k n) C=C [.int k n]:=by simp[hpc,HV.one,vi]
@[go_sem ↓,go_sem] theorem zb0 (t:Bool) (E:List (List HV)):hpc (.imm t E) C=C [.imm t E]:=by simp[hpc,HV.one,vi]
def hbz (P:Program) (t:TypeId) (ps:List (Nat×HV)) (K:HV→Prop):Option (List HV)→Prop
 | some z=>qW P t (fun l=>K (.agg l)) z ps
 | none=>False
@[go_sem ↓] theorem zX3 (t:TypeId) (ps:List (Nat×HV)):uK P t ps K=(jk P t=true∧hbz P t ps K (qP P t)):=by
 simp only[uK,hbz]
 cases qP P t<;>rfl
@[congr] theorem zZY {t:TypeId} {ps:List (Nat×HV)} {o o':Option (List HV)} {dd:Prop} (_hd:zi=dd) (h:o=o'):hbz P t ps K o=hbz P t ps K o':=by rw[h]
@[go_sem ↓,go_sem] theorem zbz (t:TypeId) (ps:List (Nat×HV)) (z:List HV):hbz P t ps K (some z)=qW P t (fun l=>K (.agg l)) z ps:=_root_.id rfl
@[go_sem ↓,go_sem] theorem zYH (n:Nat) (ps:List (Nat×HV)) (s b:Nat) (z:List HV):vn n ps K (some (s,b,z))=(n*s≤16777216∧n≤65536∧vV s (fun E=>K (.imm true E)) (rep n z) ps):=by rw[zEm];rfl
@[go_sem ↓,go_sem] theorem zTq (s:Nat) (B:List (List HV)→Prop) (E:List (List HV)):vV s B E []=B E:=_root_.id rfl
@[go_sem ↓,go_sem] theorem zSa (s:Nat) (B:List (List HV)→Prop) (E:List (List HV)) (i:Nat) (x:HV) (r:List (Nat×HV)):vV s B E ((i,x)::r)=hst x fun l=>l.length=s∧i<E.length∧vV s B (E.set i l) r:=_root_.id rfl
def WS (t:TypeId) (x:HV) (K:HV→Prop) (u:Option TypeDesc):Prop:=
 match u with
 | some (.interface _)=>False
 | some _=>K (.iface t x)
 | none=>False
@[go_sem ↓] theorem zVy (t:TypeId) (x:HV):uS P t x K=WS t x K (P.underlying t):=_root_.id rfl
@[congr] theorem zcj {t:TypeId} {x x':HV} {u u':Option TypeDesc} {dd:Prop} (_hd:zi=dd) (h:x=x') (e:u=u'):WS t x K u=WS t x' K u':=by rw[h,e]
@[go_sem ↓,go_sem] theorem zU0 (t:TypeId) (x:HV) (fs:Array Field):WS t x K (some (.struct fs))=K (.iface t x):=_root_.id rfl
def hcp (PS:PL) (x y:HV) (L:HV→PL→Prop):Option (TypeId×Nat)→Prop
 | some (_,s)=>yA PS s y fun N=>wq PS s x (fun len=>N.take len) fun PS'=>L (.int .i64 ((min N.length (vX x):Nat):Int)) PS'
 | none=>False
@[go_sem ↓] theorem zS3 (t:TypeId) (x y:HV):kT P PS t x y L=hcp PS x y L (qO P t):=by simp only[kT,hcp];cases qO P t<;>rfl
@[congr] theorem zcu {x x' y y':HV} {o o':Option (TypeId×Nat)} {dd:Prop} (_hd:zi=dd) (h:x=x') (h2:y=y') (h3:o=o'):hcp PS x y L o=hcp PS x' y' L o':=by rw[h,h2,h3]
@[go_sem ↓,go_sem] theorem zZp (x y:HV) (e:TypeId) (s:Nat):hcp PS x y L (some (e,s))=yA PS s y fun N=>wq PS s x (fun len=>N.take len) fun PS'=>L (.int .i64 ((min N.length (vX x):Nat):Int)) PS':=_root_.id rfl
def hcl (PS:PL) (x:HV) (L:HV→PL→Prop):Option (Nat×Nat×List HV)→Prop
 | some (s,_,z)=>wq PS s x (fun len=>List.replicate len z) fun PS'=>L (.tup []) PS'
 | none=>False
@[go_sem ↓] theorem zaa (t:TypeId) (x:HV):kR P PS t x L=hcl PS x L (yV P t):=by simp only[kR,hcl];cases yV P t<;>rfl
@[congr] theorem zZP {x x':HV} {o o':Option (Nat×Nat×List HV)} {dd:Prop} (_hd:zi=dd) (h:x=x') (h3:o=o'):hcl PS x L o=hcl PS x' L o':=by rw[h,h3]
@[go_sem ↓,go_sem] theorem zW2 (x:HV) (s b:Nat) (z:List HV):hcl PS x L (some (s,b,z))=wq PS s x (fun len=>List.replicate len z) fun PS'=>L (.tup []) PS':=_root_.id rfl
@[go_sem ↓,go_sem] theorem zbG (c l:List HV):zP 0 c l=c++l.drop c.length:=by simp[zP]
@[go_sem ↓,go_sem] theorem zVO (c l:List HV) (x:HV) (n:Nat):zP (n+1) c (x::l)=x::zP n c l:=by simp[zP,Nat.succ_add]
end
@[go_sem ↓,go_sem] theorem zWa (r:Bool) (K:HV→Prop):hbt .eql r K=K (.bool r):=_root_.id rfl
@[go_sem ↓,go_sem] theorem zSz (r:Bool) (K:HV→Prop):hbt .neq r K=K (.bool (!r)):=_root_.id rfl
section
variable (P:Program) (PS:PL) (op:BinOp) (t:TypeId) (K:HV→Prop)
@[go_sem ↓,go_sem] theorem zUx (k k':IntKind) (a b:Int):qu P PS op t (.int k a) (.int k' b) K=hint op k a k' b K:=_root_.id rfl
@[go_sem ↓,go_sem] theorem zWI (a b:List UInt8):qu P PS op t (.str a) (.str b) K=vP op a b K:=_root_.id rfl
@[go_sem ↓,go_sem] theorem zXx (a b:List HV):qu P PS op t (.agg a) (.agg b) K=kz a b op K (eqO P t):=_root_.id rfl
@[congr] theorem zb1 {a a' b b':List HV} {o o':Option Cells} {dd:Prop} (_hd:zi=dd) (h:a=a') (h2:b=b') (h3:o=o'):kz a b op K o=kz a' b' op K o':=by rw[h,h2,h3]
@[go_sem ↓,go_sem] theorem zT0 (a b:List HV) (ps:Cells):kz a b op K (some ps)=(xA ps a b∧hbt op (uU ps a b) K):=_root_.id rfl
@[go_sem ↓] theorem zbE (x y:HV) (n:Nat):jq P PS op t x (.tmp n) y K=qu P PS op t x y K:=_root_.id rfl
@[go_sem ↓] theorem zZA (x y:HV) (k:IntKind) (n:Int):jq P PS op t x (.const (.int k n)) y K=qu P PS op t x y K:=_root_.id rfl
@[go_sem ↓] theorem zYc (x y:HV):jq P PS op t x (.const (.slice none 0 0)) y K=jW P PS op t x K:=_root_.id rfl
@[go_sem ↓,go_sem] theorem zXZ (b:Bool) (E:List (List HV)):jW P PS op t (.imm b E) K=((∃e,P.underlying t=some (.slice e))∧(E=[]→hbt op true K∧hbt op false K)∧(E≠[]→hbt op false K)):=_root_.id rfl
@[go_sem ↓,go_sem] theorem zUF (n ver i len:Nat) (c:Option Nat):jW P PS op t (.sl n ver i len c) K=((∃e,P.underlying t=some (.slice e))∧qM (zA PS n) ver∧(len=0→hbt op true K∧hbt op false K)∧(len≠0→hbt op false K)):=_root_.id rfl
@[go_sem ↓] theorem zbo (a:TypeId):(∃s,some (TypeDesc.slice a)=some (TypeDesc.slice s))=True:=eq_true ⟨a,rfl⟩
@[go_sem ↓,go_sem] theorem zSd (k:IntKind) (n:Int):hun .xor (.int k n) K=K (.int k (yZ .xor k (if k.signed then -1 else k.max) n)):=_root_.id rfl
@[go_sem ↓,go_sem] theorem zZg (b:Bool):hun .not (.bool b) K=K (.bool !b):=_root_.id rfl
end
attribute [go_sem] Zw Zv vS uG zr  vX
attribute [go_sem ↓] wN hint vP vg
attribute [go_sem] wN hint vP vg
section
variable (P:Program) (pu:Pu) (pl:Nat→zL) (ops:Array Oper) (K:Fr→PL→Prop) (fr:Fr) (PS:PL) (d:Option Tmp) (op:Op) (ty:TypeId) (p:String) (af:Array Edge)
@[go_sem ↓] theorem zUz (id:Nat):yW P pu pl id ops K fr PS=yI P pu ops K (pl id) fr PS:=_root_.id rfl
@[go_sem ↓] theorem zTd (A B:Prop):hgd ops ⟨d,op,ty,p,af,none⟩ fr A B=A:=_root_.id rfl
@[go_sem ↓] theorem zSV (j:Nat) (w:Bool) (A B:Prop):hgd ops ⟨d,op,ty,p,af,some (j,w)⟩ fr A B=jF w A B (qc ops fr j):=_root_.id rfl
end
/-- The operation,and of it. -/
def hat (o:Option Oper) (C:Oper→Prop):Prop:=match o with | some o=>C o | none=>False
@[congr] theorem zaA {o o':Option Oper} {C:Oper→Prop} {dd:Prop} (_hd:zi=dd) (h:o=o'):hat o C=hat o' C:=by rw[h]
@[go_sem ↓,go_sem] theorem zYZ (o:Oper) (C:Oper→Prop):hat (some o) C=C o:=_root_.id rfl
section
variable (P:Program) (pu:Pu) (ops:Array Oper) (K:Fr→PL→Prop) (fr:Fr) (PS:PL) (A:Prop)
@[go_sem] theorem zVs (i:Nat) (p:zL):yI P pu ops K (.one i p) fr PS=zg P pu ops K (.one i p) fr PS:=_root_.id rfl
@[go_sem] theorem zbO:zg P pu ops K .done fr PS=K fr PS:=_root_.id rfl
@[go_sem] theorem zUC:zg P pu ops K .none fr PS=True:=_root_.id rfl
@[go_sem] theorem zbB (i:Nat) (p:zL):zg P pu ops K (.one i p) fr PS=hat ops[i]? fun o=>hgd ops o fr (zb P pu o fr PS fun v=>zg P pu ops K p (zV fr o.dst v) PS) (zg P pu ops K p (zV fr o.dst (.cst undef)) PS):=by
 simp only[zg,XB,hat]
 cases ops[i]? <;>rfl
def Xx (P:Program) (pu:Pu) (ops:Array Oper) (o:Option Oper) (K:Fr→PL→Prop) (fr:Fr) (PS:PL):Prop:=
 match o with
 | none=>K fr PS
 | some o=>hgd ops o fr (zu P pu o fr PS fun v PS'=>K (zV fr o.dst v) PS') (K (zV fr o.dst (.cst undef)) PS)
@[congr] theorem zZb {P:Program} {pu:Pu} {ops:Array Oper} {o o':Option Oper} {K:Fr→PL→Prop} {fr:Fr} {PS:PL} {dd:Prop} (_hd:zi=dd) (h:o=o'):Xx P pu ops o K fr PS=Xx P pu ops o' K fr PS:=by rw[h]
@[go_sem ↓,go_sem] theorem zac (o:Oper):Xx P pu ops (some o) K fr PS=hgd ops o fr (zu P pu o fr PS fun v PS'=>K (zV fr o.dst v) PS') (K (zV fr o.dst (.cst undef)) PS):=_root_.id rfl
@[go_sem] theorem zWt (i:Nat) (cs:List Nat) (p q:zL):zg P pu ops K (.alt i cs p q) fr PS=(Xx P pu ops ops[i]? (fun fr PS=>ub P pu ops fr PS (zg P pu ops K p fr PS) cs) fr PS∧zg P pu ops K q (nf fr) PS):=by
 simp only[zg,qn,Xx,nf]
 cases ops[i]? <;>rfl
@[go_sem] theorem zUR:ub P pu ops fr PS A []=A:=_root_.id rfl
def Xc (o:Option Oper) (C:Oper→Prop):Prop:=match o with | some o=>C o | none=>True
@[congr] theorem zY6 {o o':Option Oper} {C:Oper→Prop} {dd:Prop} (_hd:zi=dd) (h:o=o'):Xc o C=Xc o' C:=by rw[h]
@[go_sem ↓,go_sem] theorem zXo (o:Oper) (C:Oper→Prop):Xc (some o) C=C o:=_root_.id rfl
@[go_sem] theorem zbH (i:Nat) (cs:List Nat):ub P pu ops fr PS A (i::cs)=(Xc ops[i]? (fun o=>hgd ops o fr (zb P pu o fr PS (kv o fr)) (kv o fr (.cst undef)))∧ub P pu ops (nf fr) PS A cs):=by
 simp only[ub,hre,Xc,nf,hv1]
 cases ops[i]? <;>rfl
@[congr] theorem zZM {P:Program} {pu:Pu} {ops:Array Oper} {fr fr':Fr} {PS:PL} {A:Prop} {cs:List Nat} {dd:Prop} (_hd:zi=dd) (h:fr=fr'):ub P pu ops fr PS A cs=ub P pu ops fr' PS A cs:=by rw[h]
end
section
variable {P:Program} {pu:Pu} {fr:Fr} {PS:PL} {K:HV→Prop} {L:HV→PL→Prop} {d:Option Tmp} {op:Op} {ty:TypeId} {p:String} {af:Array Edge} {g:Option (Nat×Bool)}
@[go_sem ↓] theorem zVC (t:Nat) (v:HV):kv ⟨some t,op,ty,p,af,g⟩ fr v=(v=get fr t):=_root_.id rfl
theorem lookup_cons (a b c:Nat) (l:List (Nat×Nat)):List.lookup a ((b,c)::l)=if a=b then some c else List.lookup a l:=by
 by_cases h:a=b
 ·subst h;simp[List.lookup]
 ·have:(a == b)=false:=by simp[h]
  simp[List.lookup,this,h]
/-- A call in a region that draws. -/
def hcD (P:Program) (g:FuncId) (args:List HV) (PS:PL) (L:HV→PL→Prop):Option Nat→Prop
 | none=>uh P args PS L (some (g,[],[]))
 | some 0=>vL P 0 args PS (fun v=>L v PS) (some (g,[],[]))
 | some (_+1)=>vL P 2 args PS (fun v=>L v PS) (some (g,[],[]))
@[congr] theorem zdD {g:FuncId} {args args':List HV} {o o':Option Nat} {dd:Prop} (_hd:zi=dd) (h:args=args') (h2:o=o'):hcD P g args PS L o=hcD P g args' PS L o':=by rw[h,h2]
@[go_sem ↓,go_sem] theorem zUi (g:FuncId) (args:List HV):hcD P g args PS L none=uh P args PS L (some (g,[],[])):=_root_.id rfl
@[go_sem ↓] theorem zTl (f:FuncId) (xs:List Operand) (ts:Array TypeId):zu P pu ⟨d,.call ⟨.value (.func f),List.toArray xs,ts⟩,ty,p,af,g⟩ fr PS L=hcD P f (xs.map (ev fr)) PS L (pu.lookup f):=by
 unfold zu uZ
 simp only[]
 cases hl:pu.lookup f with
 | none=>rfl
 | some c=>rcases c with _ | c<;>rfl
/-- A call that only computes or reads. -/
def XJ (P:Program) (g:FuncId) (args:List HV) (PS:PL) (K:HV→Prop):Option Nat→Prop
 | none=>False
 | some 0=>vL P 0 args PS K (some (g,[],[]))
 | some (_+1)=>vL P 2 args PS K (some (g,[],[]))
@[congr] theorem zYO {g:FuncId} {args args':List HV} {o o':Option Nat} {dd:Prop} (_hd:zi=dd) (h:args=args') (h2:o=o'):XJ P g args PS K o=XJ P g args' PS K o':=by rw[h,h2]
@[go_sem ↓,go_sem] theorem zVg (g:FuncId) (args:List HV):XJ P g args PS K (some 0)=vL P 0 args PS K (some (g,[],[])):=_root_.id rfl
@[go_sem ↓,go_sem] theorem zan (g:FuncId) (args:List HV):XJ P g args PS K (some 2)=vL P 2 args PS K (some (g,[],[])):=_root_.id rfl
@[go_sem ↓] theorem zSe (f:FuncId) (xs:List Operand) (ts:Array TypeId):zb P pu ⟨d,.call ⟨.value (.func f),List.toArray xs,ts⟩,ty,p,af,g⟩ fr PS K=XJ P f (xs.map (ev fr)) PS K (pu.lookup f):=by
 unfold zb uZ
 simp only[]
 cases hl:pu.lookup f with
 | none=>rfl
 | some c=>rcases c with _ | c<;>rfl
@[go_sem ↓] theorem zZo (x:Operand):zb P pu ⟨d,.move x,ty,p,af,g⟩ fr PS K=K (ev fr x):=_root_.id rfl
@[go_sem ↓] theorem zao (x:Operand):zb P pu ⟨d,.assign x,ty,p,af,g⟩ fr PS K=K (ev fr x):=_root_.id rfl
@[go_sem ↓] theorem zTX (c x y:Operand):zb P pu ⟨d,.pick c x y,ty,p,af,g⟩ fr PS K=vt (ev fr c) (ev fr x) (ev fr y) K:=_root_.id rfl
@[go_sem ↓] theorem zXR (t:TypeId) (x:Operand):zb P pu ⟨d,.load t x,ty,p,af,g⟩ fr PS K=wB PS (ev fr x) K (tsz P t):=_root_.id rfl
@[go_sem ↓] theorem zTg (x:Operand):zb P pu ⟨d,.nilCheck x,ty,p,af,g⟩ fr PS K=wg PS (ev fr x) K:=_root_.id rfl
@[go_sem ↓] theorem zbp (op:BinOp) (t:TypeId) (x y:Operand) (t2:TypeId):zb P pu ⟨d,.binOp op t x y t2,ty,p,af,g⟩ fr PS K=qu P PS op t (ev fr x) (ev fr y) K:=_root_.id rfl
@[go_sem ↓] theorem zaP (op:UnOp) (t:TypeId) (x:Operand):zb P pu ⟨d,.unOp op t x,ty,p,af,g⟩ fr PS K=hun op (ev fr x) K:=_root_.id rfl
@[go_sem ↓] theorem zSg (s t:TypeId) (x:Operand):zb P pu ⟨d,.convert s t x,ty,p,af,g⟩ fr PS K=wV P PS s t (ev fr x) K:=_root_.id rfl
@[go_sem ↓] theorem zVu (s:TypeId) (x:Operand) (f:Nat):zb P pu ⟨d,.fieldAddr s x f,ty,p,af,g⟩ fr PS K=qd PS (ev fr x) K (yX P s f):=_root_.id rfl
@[go_sem ↓] theorem zU1 (t:TypeId) (x i:Operand):zb P pu ⟨d,.indexAddr t x i,ty,p,af,g⟩ fr PS K=wi P PS t (ev fr x) (ev fr i) K:=_root_.id rfl
@[go_sem ↓] theorem zYj (x:Operand) (i:Nat):zb P pu ⟨d,.extract x i,ty,p,af,g⟩ fr PS K=wy (ev fr x) i K:=_root_.id rfl
@[go_sem ↓] theorem zUZ (t:TypeId) (x:Operand) (l h m:Option Operand):zb P pu ⟨d,.slice t x l h m,ty,p,af,g⟩ fr PS K=wm P PS t (ev fr x) (l.map (ev fr)) (h.map (ev fr)) (m.map (ev fr)) K:=_root_.id rfl
@[go_sem ↓] theorem zaH (t:TypeId) (ps:List (Nat×Operand)):zb P pu ⟨d,.build t (List.toArray ps),ty,p,af,g⟩ fr PS K=uK P t (ps.map fun p=>(p.1,ev fr p.2)) K:=_root_.id rfl
@[go_sem ↓] theorem zbW (t:TypeId) (n:Nat) (ps:List (Nat×Operand)):zb P pu ⟨d,.buildSlice t n (List.toArray ps),ty,p,af,g⟩ fr PS K=vn n (ps.map fun p=>(p.1,ev fr p.2)) K (yV P t):=_root_.id rfl
@[go_sem ↓] theorem zVw (x:Operand) (t:TypeId):zb P pu ⟨d,.call ⟨.builtin .len,#[x],#[t]⟩,ty,p,af,g⟩ fr PS K=vD P PS t (ev fr x) K:=_root_.id rfl
@[go_sem ↓] theorem zS1 (t:TypeId):zu P pu ⟨d,.alloc t,ty,p,af,g⟩ fr PS L=hop P ⟨d,.alloc t,ty,p,af,g⟩ fr PS L:=_root_.id rfl
@[go_sem ↓] theorem zTf (t:TypeId) (x y:Operand):zu P pu ⟨d,.store t x y,ty,p,af,g⟩ fr PS L=hop P ⟨d,.store t x y,ty,p,af,g⟩ fr PS L:=_root_.id rfl
@[go_sem ↓] theorem zXk (b:Builtin) (xs:Array Operand) (ts:Array TypeId):zu P pu ⟨d,.call ⟨.builtin b,xs,ts⟩,ty,p,af,g⟩ fr PS L=hop P ⟨d,.call ⟨.builtin b,xs,ts⟩,ty,p,af,g⟩ fr PS L:=_root_.id rfl
end
attribute [go_sem] zu uZ wj lookup_cons List.lookup_nil
section
variable {α β:Type} (a b:α) (l m:List α) (n:Nat) (f:α→β)
@[go_sem] theorem zWc:(a::l)[0]? =some a:=_root_.id rfl
@[go_sem] theorem zYe:(a::l)[n+1]? =l[n]? :=_root_.id rfl
@[go_sem] theorem zXr:(a::l).length=l.length+1:=_root_.id rfl
@[go_sem] theorem zZN:([]:List α).length=0:=_root_.id rfl
@[go_sem] theorem zVL:l.drop 0=l:=_root_.id rfl
@[go_sem] theorem zcN:(a::l).drop (n+1)=l.drop n:=_root_.id rfl
@[go_sem] theorem zcI:([]:List α).drop n=[]:=by simp
@[go_sem] theorem zc0:l.take 0=[]:=_root_.id rfl
@[go_sem] theorem zWR:(a::l).take (n+1)=a::l.take n:=_root_.id rfl
@[go_sem] theorem zXj:([]:List α).take n=[]:=by simp
@[go_sem] theorem zTi:(a::l).map f=f a::l.map f:=_root_.id rfl
@[go_sem] theorem zaR:([]:List α).map f=[]:=_root_.id rfl
@[go_sem] theorem zTT:(a::l)++m=a::(l++m):=_root_.id rfl
@[go_sem] theorem zUJ:[]++m=m:=_root_.id rfl
@[go_sem] theorem zTO:m++[]=m:=by simp
@[go_sem] theorem zXM:(a::l).set 0 b=b::l:=_root_.id rfl
@[go_sem] theorem zav:(a::l).set (n+1) b=a::l.set n b:=_root_.id rfl
@[go_sem] theorem zXA:(some a).map f=some (f a):=_root_.id rfl
@[go_sem] theorem zb4:(none:Option α).map f=none:=_root_.id rfl
@[go_sem] theorem zZ2:(none:Option α).getD b=b:=_root_.id rfl
@[go_sem] theorem zXt (n:Nat):(List.toArray l)[n]? =l[n]? :=by simp
end
@[go_sem] theorem zZ0 (n:Nat) (args:List HV):vE n args=args++rep (n - args.length) .junk:=by rw[zEm];rfl
attribute [go_sem]   List.length_append List.getElem?_map List.length_map List.reverse_cons true_and and_true and_false false_and true_or or_true false_or or_false not_true_eq_false not_false_eq_true ne_eq forall_const imp_self implies_true true_implies decide_eq_true_eq decide_eq_false_iff_not Option.isSome_some Option.isSome_none Option.isNone_some Option.isNone_none eq_self_iff_true
 Bool.not_eq_true' Bool.not_eq_false' Bool.not_true Bool.not_false Bool.true_and Bool.and_true Bool.false_and Bool.and_false Bool.true_or Bool.or_true Bool.false_or Bool.or_false if_true if_false Bool.false_eq_true Bool.true_eq_false
 Nat.zero_add Nat.add_zero Nat.one_mul Nat.mul_one Nat.zero_mul Nat.sub_zero Nat.le_refl Int.toNat_natCast Int.ofNat_lt Int.ofNat_le Int.natCast_nonneg Int.le_refl Int.cast_ofNat_Int Int.natCast_one Int.toNat_zero decide_true decide_false
end Go.Eng
