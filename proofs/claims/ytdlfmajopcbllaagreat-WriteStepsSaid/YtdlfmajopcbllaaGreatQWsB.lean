/-
The law WriteSteps, run: what the runs know of pivots, entries, nodes, messages by name.
The law WriteSteps, run: an instance of names.
No conditions.
-/
import Derived.Test.YtdlfmajopcbllaaGreatQWsA
import Derived.Test.YtdlfmajopcbllaaGreatQRunK
import Derived.Test.YtdlfmajopcbllaaGreatQRunR
set_option linter.unusedSectionVars false
set_option linter.unusedSimpArgs false
set_option linter.unusedVariables false
namespace Go.Proofs.YtdlfmajopcbllaaGreat
open Go Go.Eng
set_option maxRecDepth 100000
noncomputable def row16:List (List HV):=[[.int .i64 (.ofNat (nat_lit 16))]]
noncomputable def kids2:List (List HV):=[[.int .i64 (.ofNat (nat_lit 1))],[.int .i64 (.ofNat (nat_lit 2))]]
noncomputable def kids3:List (List HV):=[[.int .i64 (.ofNat (nat_lit 1))],[.int .i64 (.ofNat (nat_lit 2))],[.int .i64 (.ofNat (nat_lit 3))]]
noncomputable def kids4:List (List HV):=[[.int .i64 (.ofNat (nat_lit 1))],[.int .i64 (.ofNat (nat_lit 2))],[.int .i64 (.ofNat (nat_lit 3))],[.int .i64 (.ofNat (nat_lit 4))]]
noncomputable def keyW:List HV:=[.tok .i64 (nat_lit 52),.tok .u8 (nat_lit 53),.tok .u8 (nat_lit 54),.tok .u8 (nat_lit 55),.tok .u8 (nat_lit 56),.tok .u8 (nat_lit 57),.tok .u8 (nat_lit 58),.tok .u8 (nat_lit 59),.tok .u8 (nat_lit 60)]
noncomputable def valW:List HV:=[.tok .i64 (nat_lit 61),.tok .u8 (nat_lit 62),.tok .u8 (nat_lit 63),.tok .u8 (nat_lit 64),.tok .u8 (nat_lit 65),.tok .u8 (nat_lit 66),.tok .u8 (nat_lit 67),.tok .u8 (nat_lit 68),.tok .u8 (nat_lit 69),.tok .u8 (nat_lit 70),.tok .u8 (nat_lit 71),.tok .u8 (nat_lit 72),.tok .u8 (nat_lit 73),.tok .u8 (nat_lit 74),.tok .u8 (nat_lit 75),.tok .u8 (nat_lit 76),.tok .u8 (nat_lit 77)]
/-- The message,its Seq,its By. -/
noncomputable def msgW (q b:Nat):List HV:=.tok .i64 (nat_lit 50):: .int .u64 (.ofNat q)::rApp keyW (rApp valW [.tok .u64 b])
noncomputable def oW (n:Nat):List HV:=[.int .u8 (.ofNat n)]
/-- The bytes of the leaf that has nothing. -/
noncomputable def zW:List (List HV):=[oW (nat_lit 1),oW (nat_lit 0),oW (nat_lit 0),oW (nat_lit 0),oW (nat_lit 147),oW (nat_lit 244),oW (nat_lit 165),oW (nat_lit 195),oW (nat_lit 0),oW (nat_lit 0),oW (nat_lit 0),oW (nat_lit 0),oW (nat_lit 0),oW (nat_lit 0),oW (nat_lit 0),oW (nat_lit 0),oW (nat_lit 0),oW (nat_lit 0),oW (nat_lit 0),oW (nat_lit 0),oW (nat_lit 0),oW (nat_lit 0),oW (nat_lit 0),oW (nat_lit 0),oW (nat_lit 0),oW (nat_lit 0),oW (nat_lit 0),oW (nat_lit 0),oW (nat_lit 0),oW (nat_lit 0),oW (nat_lit 0),oW (nat_lit 0),oW (nat_lit 0),oW (nat_lit 0),oW (nat_lit 0),oW (nat_lit 0),oW (nat_lit 0),oW (nat_lit 0),oW (nat_lit 0),oW (nat_lit 0),oW (nat_lit 0),oW (nat_lit 0),oW (nat_lit 0),oW (nat_lit 0),oW (nat_lit 0),oW (nat_lit 0),oW (nat_lit 0),oW (nat_lit 0),oW (nat_lit 0),oW (nat_lit 0),oW (nat_lit 0),oW (nat_lit 0),oW (nat_lit 0),oW (nat_lit 0),oW (nat_lit 0),oW (nat_lit 0),oW (nat_lit 0),oW (nat_lit 0),oW (nat_lit 0),oW (nat_lit 0),oW (nat_lit 0),oW (nat_lit 0),oW (nat_lit 0),oW (nat_lit 0),oW (nat_lit 0),oW (nat_lit 0),oW (nat_lit 0),oW (nat_lit 0),oW (nat_lit 0),oW (nat_lit 0),oW (nat_lit 0),oW (nat_lit 0),oW (nat_lit 0),oW (nat_lit 0),oW (nat_lit 0),oW (nat_lit 0),oW (nat_lit 0),oW (nat_lit 0),oW (nat_lit 0),oW (nat_lit 0),oW (nat_lit 0),oW (nat_lit 0),oW (nat_lit 0),oW (nat_lit 0),oW (nat_lit 0),oW (nat_lit 0),oW (nat_lit 0),oW (nat_lit 0),oW (nat_lit 0),oW (nat_lit 0),oW (nat_lit 0),oW (nat_lit 0),oW (nat_lit 0),oW (nat_lit 0),oW (nat_lit 0),oW (nat_lit 0),oW (nat_lit 0),oW (nat_lit 0),oW (nat_lit 0),oW (nat_lit 0),oW (nat_lit 0),oW (nat_lit 0),oW (nat_lit 0),oW (nat_lit 0),oW (nat_lit 0),oW (nat_lit 0),oW (nat_lit 0),oW (nat_lit 0),oW (nat_lit 0),oW (nat_lit 0),oW (nat_lit 0),oW (nat_lit 0),oW (nat_lit 0),oW (nat_lit 0),oW (nat_lit 0),oW (nat_lit 0),oW (nat_lit 0),oW (nat_lit 0),oW (nat_lit 0),oW (nat_lit 0),oW (nat_lit 0),oW (nat_lit 0),oW (nat_lit 0),oW (nat_lit 0),oW (nat_lit 0),oW (nat_lit 0),oW (nat_lit 0),oW (nat_lit 0),oW (nat_lit 0),oW (nat_lit 0),oW (nat_lit 0),oW (nat_lit 0),oW (nat_lit 0),oW (nat_lit 0),oW (nat_lit 0),oW (nat_lit 0),oW (nat_lit 0),oW (nat_lit 0),oW (nat_lit 0),oW (nat_lit 0),oW (nat_lit 0),oW (nat_lit 0),oW (nat_lit 0),oW (nat_lit 0),oW (nat_lit 0),oW (nat_lit 0),oW (nat_lit 0),oW (nat_lit 0),oW (nat_lit 0),oW (nat_lit 0),oW (nat_lit 0),oW (nat_lit 0),oW (nat_lit 0),oW (nat_lit 0),oW (nat_lit 0),oW (nat_lit 0),oW (nat_lit 0),oW (nat_lit 0),oW (nat_lit 0),oW (nat_lit 0),oW (nat_lit 0),oW (nat_lit 0),oW (nat_lit 0),oW (nat_lit 0),oW (nat_lit 0),oW (nat_lit 0),oW (nat_lit 0),oW (nat_lit 0),oW (nat_lit 0),oW (nat_lit 0),oW (nat_lit 0),oW (nat_lit 0),oW (nat_lit 0),oW (nat_lit 0),oW (nat_lit 0),oW (nat_lit 0),oW (nat_lit 0),oW (nat_lit 0),oW (nat_lit 0),oW (nat_lit 0),oW (nat_lit 0),oW (nat_lit 0),oW (nat_lit 0),oW (nat_lit 0),oW (nat_lit 0),oW (nat_lit 0),oW (nat_lit 0),oW (nat_lit 0),oW (nat_lit 0),oW (nat_lit 0),oW (nat_lit 0),oW (nat_lit 0),oW (nat_lit 0),oW (nat_lit 0),oW (nat_lit 0),oW (nat_lit 0),oW (nat_lit 0),oW (nat_lit 0),oW (nat_lit 0),oW (nat_lit 0),oW (nat_lit 0),oW (nat_lit 0),oW (nat_lit 0),oW (nat_lit 0),oW (nat_lit 0),oW (nat_lit 0),oW (nat_lit 0),oW (nat_lit 0),oW (nat_lit 0),oW (nat_lit 0),oW (nat_lit 0),oW (nat_lit 0),oW (nat_lit 0),oW (nat_lit 0),oW (nat_lit 0),oW (nat_lit 0),oW (nat_lit 0),oW (nat_lit 0),oW (nat_lit 0),oW (nat_lit 0),oW (nat_lit 0),oW (nat_lit 0),oW (nat_lit 0),oW (nat_lit 0),oW (nat_lit 0),oW (nat_lit 0),oW (nat_lit 0),oW (nat_lit 0),oW (nat_lit 0),oW (nat_lit 0),oW (nat_lit 0),oW (nat_lit 0),oW (nat_lit 0),oW (nat_lit 0),oW (nat_lit 0),oW (nat_lit 0),oW (nat_lit 0),oW (nat_lit 0),oW (nat_lit 0),oW (nat_lit 0),oW (nat_lit 0),oW (nat_lit 0),oW (nat_lit 0),oW (nat_lit 0),oW (nat_lit 0),oW (nat_lit 0),oW (nat_lit 0),oW (nat_lit 0),oW (nat_lit 0),oW (nat_lit 0),oW (nat_lit 0),oW (nat_lit 0),oW (nat_lit 0),oW (nat_lit 0),oW (nat_lit 0),oW (nat_lit 0)]
section
variable [Toks]
/-- A value that is no more than equal rows. -/
noncomputable def rwsEq (a b:List (List HV)):Bool:=lBeq (lBeq (vBeq 9)) a b
theorem rwsEq_eq {a b:List (List HV)} (h:rwsEq a b=true):a=b:=lBeq_eq _ _ (fun a b=>lBeq_eq a b (vBeq_eq 9)) h
noncomputable def topW (K:List (List HV)) (p:Nat) (M:List (List HV)) (a b c:Bool):HV:=.agg [.bool false,.imm a [],.imm b K,.nam p,.imm c M]
noncomputable def noneW (a b c d:Bool):HV:=.agg [.bool true,.imm a [],.imm b [],.imm c [],.imm d []]
end
noncomputable def fLB {α:Type} (L:List Bool):(List Bool→α)→α:=
  List.rec (motive:=fun _=>(List Bool→α)→α) (fun K=>K []) (fun b _ ih K=>ih fun r=>bif b then K (true::r) else K (false::r)) L
theorem fLB_eq {α:Type}:∀(L:List Bool) (K:List Bool→α),fLB L K=K L
  | [],K=>rfl
  | b::L,K=>by
    show fLB L (fun r=>bif b then K (true::r) else K (false::r))=_
    rw[fLB_eq L]
    cases b<;>rfl
section
variable [Toks] (K:List (List HV)) (p c:Nat) (z:List (List HV))
noncomputable def sPiv:DSpec:=fun a=>
  match a with
  | [.nam i,.int .i64 (.ofNat n)]=>bif Nat.beq i 2&&Nat.beq n 3 then some (.nam (nat_lit 5)) else none
  | [.imm _ E,.int .i64 (.ofNat n)]=>bif Nat.beq n 3&&rwsEq E row16 then some (.nam (nat_lit 6)) else none
  | _=>none
noncomputable def sEnt:DSpec:=fun a=>
  match a with
  | [.nam i,.int .i64 (.ofNat n)]=>bif Nat.beq i 3&&Nat.beq n 700 then some (.nam (nat_lit 4)) else none
  | _=>none
noncomputable def sHeld:DSpec:=fun a=>
  match a with
  | [.nam i,.nam j,.int .i64 (.ofNat n)]=>bif Nat.beq i 4&&Nat.beq j p&&Nat.ble n c then fN (Nat.add 10 n) fun q=>some (.nam q) else none
  | _=>none
noncomputable def sFit:DSpec:=fun a=>
  match a with
  | [.nam i]=>bif Nat.ble 10 i&&Nat.ble i (10+c) then fN (Nat.add 10 i) fun q=>some (.nam q) else none
  | _=>none
noncomputable def isLf (i:Nat):Bool:=Nat.ble 20 i&&Nat.ble i (20+c)
noncomputable def isMs (M:List (List HV)):Bool:=match M with
  | []=>true
  | M=>rwsEq M [msgW 9 (nat_lit 78)] || rwsEq M [msgW 10 (nat_lit 79)]
noncomputable def sFits:DSpec:=fun a=>
  match a with
  | [.agg [.bool true,.nam i,.imm _ [],.imm _ [],.imm _ []]]=>bif isLf c i then some (.bool true) else none
  | [.agg [.bool false,.imm _ [],.imm _ E,.nam j,.imm _ M]]=>bif Nat.beq j p&&rwsEq E K&&isMs M then some (.bool true) else none
  | _=>none
noncomputable def sEnc:DSpec:=fun a=>
  match a with
  | [.agg [.bool true,.nam i,.imm _ [],.imm _ [],.imm _ []]]=>bif isLf c i then fRows (1000+256*(i - 20)) 256 [] fun r=>some (.tup [.imm false r,.int .i64 (.ofNat (nat_lit 0))]) else none
  | [.agg [.bool false,.imm _ [],.imm _ E,.nam j,.imm _ []]]=>bif Nat.beq j p&&rwsEq E K then fRows 3000 256 [] fun r=>some (.tup [.imm false r,.int .i64 (.ofNat (nat_lit 0))]) else none
  | [.agg [.bool true,.imm _ [],.imm _ [],.imm _ [],.imm _ []]]=>some (.tup [.imm false z,.int .i64 (.ofNat (nat_lit 0))])
  | _=>none
noncomputable def sDec:DSpec:=fun a=>
  match a with
  | [.imm _ E]=>bif tokEq E 3000 3256 then some (.tup [topW K p [] false false false,.int .i64 (.ofNat (nat_lit 0))]) else
    bif rwsEq E z then some (.tup [noneW false false false false,.int .i64 (.ofNat (nat_lit 0))]) else none
  | _=>none
noncomputable def sREnc:DSpec:=fun a=>
  match a with
  | [.agg [.bool true,.imm _ [],.imm _ [],.imm _ [],.imm _ []]]=>some (.tup [.imm false z,.int .i64 (.ofNat (nat_lit 0))])
  | _=>none
noncomputable def sRDec:DSpec:=fun a=>
  match a with
  | [.imm _ E]=>bif rwsEq E z then some (.tup [noneW false false false false,.int .i64 (.ofNat (nat_lit 0))]) else none
  | _=>none
noncomputable def sMsg:DSpec:=fun a=>
  match a with
  | [.tok .i64 i,.int .i64 (.ofNat n)]=>bif Nat.beq i 40&&Nat.beq n 0 then some (.agg (msgW 0 (nat_lit 78))) else none
  | _=>none
noncomputable def sCmp:DSpec:=fun a=>
  match a with
  | [.agg x,.agg y]=>bif lBeq (vBeq 9) x keyW&&lBeq (vBeq 9) y keyW then some (.int .i64 (.ofNat (nat_lit 0))) else none
  | _=>none
noncomputable def sCom:DSpec:=fun a=>
  match a with
  | [.agg x,.agg y]=>bif lBeq (vBeq 9) x (msgW 9 (nat_lit 78))&&lBeq (vBeq 9) y (msgW 10 (nat_lit 78)) then some (.agg (msgW 10 (nat_lit 79))) else none
  | _=>none
noncomputable def sClE:DSpec:=fun a=>
  match a with
  | [.nam i]=>bif isLf c i then some (.nam i) else none
  | _=>none
noncomputable def sClK:DSpec:=fun a=>
  match a with
  | [.nam i]=>bif Nat.beq i p then some (.nam i) else none
  | _=>none
noncomputable def sAwk:DSpec:=fun a=>
  match a with
  | []=>some (.bool true)
  | _=>none
/-! The clock's sweep. -/
noncomputable def rB (r:List HV):Option Bool:=
  match r with
  | [.bool true]=>some true
  | [.bool false]=>some false
  | _=>none
noncomputable def rBs (E:List (List HV)):Option (List Bool):=List.rec (motive:=fun _=>Option (List Bool)) (some []) (fun r _ ih=>bnd (rB r) fun b=>bnd ih fun l=>some (b::l)) E
noncomputable def fBs {α:Type} (L:List Bool):(List (List HV)→α)→α:=
  List.rec (motive:=fun _=>(List (List HV)→α)→α) (fun K=>K []) (fun b _ ih K=>ih fun r=>bif b then K ([.bool true]::r) else K ([.bool false]::r)) L
theorem fBs_eq {α:Type}:∀(L:List Bool) (K:List (List HV)→α),fBs L K=K (L.map fun b=>[.bool b])
  | [],K=>rfl
  | b::L,K=>by
    show fBs L (fun r=>bif b then K ([.bool true]::r) else K ([.bool false]::r))=_
    rw[fBs_eq L]
    cases b<;>rfl
theorem rBs_h:∀(E:List (List HV)) (l:List Bool),rBs E=some l→E=l.map fun b=>[.bool b]
  | [],l,h=>by cases h;rfl
  | r::E,l,h=>by
    have h:(bnd (rB r) fun b=>bnd (rBs E) fun l=>some (b::l))=some l:=h
    simp only[bnd_some] at h
    obtain⟨b,h1,l2,h2,h3⟩:=h
    cases h3
    rw[rBs_h E l2 h2,List.map_cons]
    unfold rB at h1
    split at h1
    · cases h1;rfl
    · cases h1;rfl
    · cases h1
/-- Who goes,what is left of the marks;k:how many places are to be looked at yet. -/
noncomputable def swp (can:List Bool) (hand n:Nat):Nat→List Bool→Option Nat×List Bool:=
  Nat.rec (motive:=fun _=>List Bool→Option Nat×List Bool) (fun l=>(none,l)) fun m ih l=>
    fN (Nat.mod (Nat.add hand (Nat.sub (Nat.mul 2 n) (Nat.succ m))) n) fun k=>bif can.getD k false then (bif l.getD k false then fLB (l.set k false) fun l=>ih l else (some k,l)) else ih l
noncomputable def sSwp:DSpec:=fun a=>
  match a with
  | [.imm _ X,.imm _ Y,.int .i64 (.ofNat h)]=>bnd (rBs X) fun x=>bnd (rBs Y) fun y=>fN (rLen x) fun n=>on (Nat.beq (rLen y) n&&Nat.blt h n&&Nat.ble n 64) (match swp x h n (Nat.mul 2 n) y with
    | (some k,L)=>fN (Nat.mod (Nat.succ k) n) fun q=>fBs L fun r=>some (.tup [.int .i64 (.ofNat k),.int .i64 (.ofNat q),.imm false r])
    | (none,L)=>fBs L fun r=>some (.tup [.int .i64 (.negSucc (nat_lit 0)),.int .i64 (.ofNat h),.imm false r]))
  | _=>none
/-- What the runs ask for. -/
structure WsOk:Prop where
  piv:SpecOk Tryz.prog 138 sPiv
  ent:SpecOk Tryz.prog 81 sEnt
  held:SpecOk Tryz.prog 82 (sHeld p c)
  fit:SpecOk Tryz.prog 84 (sFit c)
  fits:SpecOk Tryz.prog 201 (sFits K p c)
  rfits:SpecOk Tryz.prog 133 (sFits K p c)
  enc:SpecOk Tryz.prog 126 (sEnc K p c z)
  dec:SpecOk Tryz.prog 132 (sDec K p z)
  renc:SpecOk Tryz.prog 77 (sREnc z)
  rdec:SpecOk Tryz.prog 112 (sRDec z)
  msg:SpecOk Tryz.prog 32 sMsg
  cmp:SpecOk Tryz.prog 178 sCmp
  com:SpecOk Tryz.prog 105 sCom
  cle:SpecOk Tryz.prog 182 (sClE c)
  clk:SpecOk Tryz.prog 184 (sClK p)
  awk:SpecOk Tryz.prog 34 sAwk
  swp:SpecOk Tryz.prog 124 sSwp
noncomputable def orcW:EC:=fun g args m=>
  bif Nat.beq g 182 then aOr (oDat (sClE c) args m) (orcS g args m) else
  bif Nat.beq g 184 then aOr (oDat (sClK p) args m) (orcS g args m) else
  bif Nat.beq g 201 then oBor (sFits K p c) args m else
  bif Nat.beq g 133 then oBor (sFits K p c) args m else
  bif Nat.beq g 126 then oEat (sEnc K p c z) args m else
  bif Nat.beq g 132 then oEat (sDec K p z) args m else
  bif Nat.beq g 77 then oEat (sREnc z) args m else
  bif Nat.beq g 112 then oEat (sRDec z) args m else
  bif Nat.beq g 138 then oEat sPiv args m else
  bif Nat.beq g 81 then oDat sEnt args m else
  bif Nat.beq g 82 then oDat (sHeld p c) args m else
  bif Nat.beq g 84 then oDat (sFit c) args m else
  bif Nat.beq g 32 then oDat sMsg args m else
  bif Nat.beq g 178 then oDat sCmp args m else
  bif Nat.beq g 105 then oDat sCom args m else
  bif Nat.beq g 124 then oEat sSwp args m else
  bif Nat.beq g 34 then oDat sAwk args m else orcS g args m
theorem orcW_ok (h:WsOk K p c z):ECOk Tryz.prog (orcW K p c z):=by
  intro g args m L ho
  unfold orcW at ho
  rcases cond_some ho with ⟨hg,ho⟩ | ho
  · rw[beq_eq'.1 hg] at ho ⊢
    rcases aOr_some ho with ho | ho
    · exact oDat_h h.cle ho
    · exact orcS_ok _ _ _ _ ho
  rcases cond_some ho with ⟨hg,ho⟩ | ho
  · rw[beq_eq'.1 hg] at ho ⊢
    rcases aOr_some ho with ho | ho
    · exact oDat_h h.clk ho
    · exact orcS_ok _ _ _ _ ho
  rcases cond_some ho with ⟨hg,ho⟩ | ho
  · rw[beq_eq'.1 hg];exact oBor_h h.fits ho
  rcases cond_some ho with ⟨hg,ho⟩ | ho
  · rw[beq_eq'.1 hg];exact oBor_h h.rfits ho
  rcases cond_some ho with ⟨hg,ho⟩ | ho
  · rw[beq_eq'.1 hg];exact oEat_h h.enc ho
  rcases cond_some ho with ⟨hg,ho⟩ | ho
  · rw[beq_eq'.1 hg];exact oEat_h h.dec ho
  rcases cond_some ho with ⟨hg,ho⟩ | ho
  · rw[beq_eq'.1 hg];exact oEat_h h.renc ho
  rcases cond_some ho with ⟨hg,ho⟩ | ho
  · rw[beq_eq'.1 hg];exact oEat_h h.rdec ho
  rcases cond_some ho with ⟨hg,ho⟩ | ho
  · rw[beq_eq'.1 hg];exact oEat_h h.piv ho
  rcases cond_some ho with ⟨hg,ho⟩ | ho
  · rw[beq_eq'.1 hg];exact oDat_h h.ent ho
  rcases cond_some ho with ⟨hg,ho⟩ | ho
  · rw[beq_eq'.1 hg];exact oDat_h h.held ho
  rcases cond_some ho with ⟨hg,ho⟩ | ho
  · rw[beq_eq'.1 hg];exact oDat_h h.fit ho
  rcases cond_some ho with ⟨hg,ho⟩ | ho
  · rw[beq_eq'.1 hg];exact oDat_h h.msg ho
  rcases cond_some ho with ⟨hg,ho⟩ | ho
  · rw[beq_eq'.1 hg];exact oDat_h h.cmp ho
  rcases cond_some ho with ⟨hg,ho⟩ | ho
  · rw[beq_eq'.1 hg];exact oDat_h h.com ho
  rcases cond_some ho with ⟨hg,ho⟩ | ho
  · rw[beq_eq'.1 hg];exact oEat_h h.swp ho
  rcases cond_some ho with ⟨hg,ho⟩ | ho
  · rw[beq_eq'.1 hg];exact oDat_h h.awk ho
  · exact orcS_ok _ _ _ _ ho
noncomputable def orcWE:EC:=orcE (orcW K p c z)
theorem orcWE_ok (h:WsOk K p c z):ECOk Tryz.prog (orcWE K p c z):=orcE_ok (orcW_ok K p c z h)
end
end Go.Proofs.YtdlfmajopcbllaaGreat
namespace Go.Proofs.YtdlfmajopcbllaaGreat
open Go Go.Eng
set_option maxRecDepth 100000
/-- What is known of the rows and the numbers by name. -/
structure WsIn (R:Nat→List (List HV)) (p c:Nat):Prop where
  r2:R 2=row16++R 1
  n1:R 1≠[]
  s1:∀r∈R 1,r.length=1
  l1:(R 1).length≤17592186044415
  fl:∀i,Flat (.imm false (R i))
  cnt:(R p).length=c
  low:(R 6).length=1
noncomputable abbrev wsT (R:Nat→List (List HV)) (N:Nat→Int) (p c:Nat) (h:WsIn R p c):Toks where
  num i:=bif Nat.beq i 0 then Int.ofNat c else bif Nat.beq i 1 then Int.ofNat (nat_lit 1) else N i
  str _:=[]
  lo i:=bif Nat.beq i 0 then Int.ofNat c else bif Nat.beq i 1 then Int.ofNat (nat_lit 1) else N i
  hi i:=bif Nat.beq i 0 then Int.ofNat c else bif Nat.beq i 1 then Int.ofNat (nat_lit 1) else N i
  plus _ _:=none
  sum _ _:=none
  conv _ _:=none
  slen _:=none
  ord _ _:=none
  rem _ _:=none
  dt _:=false
  rows i:=R i
  rlen i:=bif Nat.beq i p then some 0 else bif Nat.beq i 6 then some 1 else none
  cat E i:=bif rwsEq E row16&&Nat.beq i 1 then some 2 else none
  rng _:=⟨Int.le_refl _,Int.le_refl _⟩
  plus_ok _ _ _ h:=by cases h
  sum_ok _ _ _ h:=by cases h
  conv_ok _ _ _ h:=by cases h
  slen_ok _ _ h:=by cases h
  ord_ok _ _ _ h:=by cases h
  rem_ok _ _ _ h:=by cases h
  flat i:=h.fl i
  rlen_ok i j hj:=by
    cases hb:Nat.beq i p
    · rw[hb] at hj
      cases hb:Nat.beq i 6
      · rw[hb] at hj;cases hj
      · rw[hb] at hj
        cases hj
        obtain rfl:=Nat.eq_of_beq_eq_true hb
        exact congrArg Int.ofNat h.low.symm
    · rw[hb] at hj
      cases hj
      obtain rfl:=Nat.eq_of_beq_eq_true hb
      exact congrArg Int.ofNat h.cnt.symm
  cat_ok E i j hj:=by
    cases hb:(rwsEq E row16&&Nat.beq i 1)
    · rw[hb] at hj;cases hj
    · rw[hb] at hj
      cases hj
      rw[Bool.and_eq_true] at hb
      obtain rfl:=Nat.eq_of_beq_eq_true hb.2
      letI:Toks:=Toks.of (fun _=>0) (fun _=>[])
      have e:E=row16:=rwsEq_eq hb.1
      subst e
      exact⟨rfl,h.r2,h.n1,h.s1,by rw[List.length_append];have:=h.l1;show 1+(R 1).length≤_;omega⟩
section
variable [Toks]
theorem trueWs {ec:EC} (hec:ECOk Tryz.prog ec) {g:FuncId} {args:List HV} {d fuel:Nat} (h:allTrue (acall Tryz.prog ec ecov epl fuel d g args ⟨.emp,0⟩)=true):HCall Tryz.prog g args [] fun r _=>r=.bool true:=by
  cases hc:acall Tryz.prog ec ecov epl fuel d g args ⟨.emp,0⟩ with
  | none=>rw[hc] at h;cases h
  | some L=>
    rw[hc] at h
    have h:rAll isTrue L=true:=h
    rw[rAll_eq] at h
    refine(acall_h mixed' hec covers d g args ⟨.emp,0⟩ L hc).mono ?_
    rintro r PS ⟨x,hx,rfl,rfl⟩
    have:=List.all_eq_true.1 h x hx
    obtain⟨v,m⟩:=x
    unfold isTrue at this
    split at this
    · rename_i b m heq;cases heq;rw[this]
    · cases this
end
end Go.Proofs.YtdlfmajopcbllaaGreat
