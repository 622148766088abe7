/-
A run: operations that make and write memory; all operations.
No conditions.
-/
import Derived.Test.YtajjhaidpagflaaGreatQRunB
set_option linter.unusedSectionVars false
set_option linter.unusedSimpArgs false
set_option linter.unusedVariables false
namespace Go.Eng
open Go
variable [Toks]
section
variable {P:Program} {m:Mem} {K:HV→PL→Prop}
/-- A result:a value,and memory. -/
abbrev RM:=HV×Mem
noncomputable def rApp {α:Type} (l r:List α):List α:=List.rec (motive:=fun _=>List α) r (fun x _ ih=>x::ih) l
@[simp] theorem rApp_eq {α:Type} (l r:List α):rApp l r=l++r:=by
  induction l with
  | nil=>rfl
  | cons x l ih=>exact congrArg (x:: ·) ih
noncomputable def eSplice {α:Type} (off:Nat) (new l:List α):List α:=rApp (rTake off l) (rApp new (rDrop (off+rLen new) l))
theorem eSplice_eq {α:Type} (off:Nat) (new l:List α):eSplice off new l=hsplice off new l:=by simp only[eSplice,hsplice,rApp_eq,rTake_eq,rDrop_eq,rLen_eq]
noncomputable def oneF (v:HV):Bool:=
  HV.rec (motive_1:=fun _=>Bool) (motive_2:=fun _=>Unit) (motive_3:=fun _=>Unit) (fun _=>true) (fun _ _=>true) (fun _=>true) (fun v=>v.oneCell') (fun _ _ _=>true) (fun _ _ _=>true) (fun _ _ _ _=>true) (fun _ _ _ _ _=>true) (fun _ _ _ _ _ _=>true) (fun _ _=>true) (fun _ _=>false) (fun _ _=>false) (fun _ _ _ _ _=>true) (fun _ _ _=>true) (fun _ _ _=>true) true (fun _ _=>true) (fun _=>true) (fun _=>true) false () (fun _ _ _ _=>()) () (fun _ _ _ _=>()) v
theorem oneF_eq (v:HV):oneF v=HV.one v:=by cases v<;>rfl
noncomputable def eFill (P:Program) (t:TypeId):List HV→List (Nat×HV)→Option HV
  | l,[]=>some (.agg l)
  | l,(i,x)::r=>bnd (bplace P t i) fun p=>fH x fun x=>on ((oneF x || (match x with | .agg _=>true | _=>false))&&Nat.beq (hvcells x).length p.2&&Nat.ble (p.1+p.2) l.length) (fL (eSplice p.1 (hvcells x) l) fun l=>eFill P t l r)
theorem eFill_h {t:TypeId} {C:List HV→Prop}:∀(ps:List (Nat×HV)) (l:List HV) (y:HV),eFill P t l ps=some y→(∀c,y=.agg c→C c)→hfill P t C l ps
  | [],l,y,h,hk=>by simp only[eFill,Option.some.injEq] at h;exact hk l h.symm
  | (i,x)::r,l,y,h,hk=>by
    simp only[eFill,bnd_some,on_some,Bool.and_eq_true,Bool.or_eq_true,beq_eq',ble_le,fL_eq,fH_eq,eSplice_eq,oneF_eq] at h
    obtain⟨⟨off,s⟩,h1,⟨⟨h2,h3⟩,h4⟩,h5⟩:=h
    simp only[hfill,h1]
    refine⟨?_,h3,h4,eFill_h r _ y h5 hk⟩
    rcases h2 with h2 | h2
    · exact .inl h2
    · right;split at h2
      · exact⟨_,rfl⟩
      · cases h2
noncomputable def eBuild (P:Program) (t:TypeId) (ps:List (Nat×HV)):Option HV:=on (bknown P t) (bnd (zcells P t) fun z=>fLH z fun z=>eFill P t z ps)
theorem eBuild_h {t:TypeId} {ps:List (Nat×HV)} {y:HV} {C:HV→Prop} (h:eBuild P t ps=some y) (hk:C y):hbuild P t ps C:=by
  simp only[eBuild,on_some,bnd_some,fLH_eq] at h
  obtain⟨h1,z,h2,h3⟩:=h
  refine⟨h1,?_⟩
  rw[h2]
  exact eFill_h _ _ _ h3 fun c hc=>hc▸hk
noncomputable def eSt (x:HV):Option (List HV):=
  match x with
  | .agg l=>on (rAll oneF l) (some l)
  | x=>on (oneF x) (some [x])
theorem eSt_h {x:HV} {l:List HV} {C:List HV→Prop} (h:eSt x=some l) (hk:C l):hst x C:=by
  unfold eSt at h
  unfold hst
  split at h
  · rw[on_some] at h;obtain⟨h1,h2⟩:=h;cases h2;exact⟨fun y hy=>by have:=List.all_eq_true.1 ((rAll_eq _ _).symm.trans h1) y hy;rwa [oneF_eq] at this,hk⟩
  · rename_i hn
    rw[on_some] at h;obtain⟨h1,h2⟩:=h;cases h2
    split
    · rename_i l;exact absurd rfl (hn l)
    · exact⟨by rw[oneF_eq] at h1;exact h1,hk⟩
noncomputable def eNew (m:Mem) (l:List HV):Option RM:=fN (rLen l) fun s=>m.push (.arr 0 s [l] false) fun m'=>some (.ptr m.n 0 0 0,m')
theorem eNew_some {l:List HV} {v:HV} {m':Mem} (h:eNew m l=some (v,m')):v=.ptr m.pl.length 0 0 0∧m'.pl=m.pl++[.arr 0 l.length [l] false]:=by
  simp only[eNew,rLen_eq,fN_eq] at h
  obtain⟨m2,h1,h2⟩:=Mem.push_some h
  cases h2
  exact⟨by rw[Mem.len],h1⟩
noncomputable def eAlloc (P:Program) (t:TypeId) (m:Mem):Option RM:=bnd (zcells P t) fun l=>fLH l fun l=>eNew m l
theorem eAlloc_h {t:TypeId} {v:HV} {m':Mem} (h:eAlloc P t m=some (v,m')) (hk:K v m'.pl):halloc P t m.pl K:=by
  simp only[eAlloc,bnd_some,fLH_eq] at h
  obtain⟨l,h1,h2⟩:=h
  obtain⟨rfl,h3⟩:=eNew_some h2
  unfold halloc
  simp only[h1];rw[←h3];exact hk
noncomputable def eBox (x:HV) (m:Mem):Option RM:=bnd (eSt x) fun l=>eNew m l
theorem eBox_h {x:HV} {v:HV} {m':Mem} (h:eBox x m=some (v,m')) (hk:K v m'.pl):hbox x m.pl K:=by
  simp only[eBox,bnd_some] at h
  obtain⟨l,h1,h2⟩:=h
  obtain⟨rfl,h3⟩:=eNew_some h2
  refine eSt_h h1 ?_
  rw[←h3];exact hk
/-- A list with one set,worked out. -/
noncomputable def lSet {α β:Type}:List α→Nat→α→(List α→β)→β
  | [],_,_,K=>K []
  | _::l,0,a,K=>K (a::l)
  | x::l,n+1,a,K=>lSet l n a fun l=>K (x::l)
@[simp] theorem lSet_eq {α β:Type}:∀(l:List α) (n:Nat) (a:α) (K:List α→β),lSet l n a K=K (l.set n a)
  | [],_,_,_=>rfl
  | _::_,0,_,_=>rfl
  | x::l,n+1,a,K=>by rw[lSet,lSet_eq l];rfl
noncomputable def eStore (m:Mem) (a x:HV):Option (Bool×Nat)→Option RM
  | some (_,s)=>bnd (eSt x) fun c=>on (Nat.beq c.length s) (match a with
    | .ptr n ver i k=>(match m.get n with
      | .arr ver' sz E opn=>on (Nat.beq ver ver') (bnd (lg E i) fun l=>on (Nat.ble (k+s) l.length) (fL (eSplice k c l) fun l'=>lSet E i l' fun E'=>m.set n (.arr ver sz E' opn) fun m'=>some (.junk,m')))
      | _=>none)
    | _=>none)
  | none=>none
theorem eStore_h {a x:HV} {o:Option (Bool×Nat)} {v:HV} {m':Mem} {C:PL→Prop} (h:eStore m a x o=some (v,m')) (hk:C m'.pl):v=.junk∧hstore m.pl a x C o:=by
  unfold eStore at h
  split at h
  · simp only[bnd_some,on_some,beq_eq'] at h
    obtain⟨c,h1,h2,h3⟩:=h
    split at h3
    · rename_i n ver i k
      split at h3
      · rename_i ver' sz E opn hg
        simp only[bnd_some,on_some,beq_eq',ble_le,fL_eq,lSet_eq,lg_eq,eSplice_eq] at h3
        obtain⟨h4,l,h5,h6,h7⟩:=h3
        obtain⟨m2,h8,h9⟩:=Mem.set_some h7
        cases h9
        refine⟨rfl,eSt_h h1 ⟨h2,?_⟩⟩
        simp only[Mem.get_eq,hg]
        refine⟨h4,l,h5,h6,?_⟩
        rw[←h8];exact hk
      · cases h3
    · cases h3
  · cases h
noncomputable def eMake (m:Mem) (l c:HV):Option (Nat×Nat×List HV)→Option RM
  | some (s,b,z)=>(match l,c with
    | .int .i64 l,.int .i64 c=>bnd (iToNat l) fun l=>bnd (iToNat c) fun c=>on (Nat.ble l c&&Nat.ble c 140737488355328&&Nat.ble (c*b) 140737488355328) (fLH z fun z=>fL (List.replicate c z) fun E=>m.push (.arr 0 s E false) fun m'=>some (.sl m.n 0 0 l (some c),m'))
    | _,_=>none)
  | none=>none
theorem eMake_h {l c:HV} {o:Option (Nat×Nat×List HV)} {v:HV} {m':Mem} (h:eMake m l c o=some (v,m')) (hk:K v m'.pl):hmake m.pl l c K o:=by
  unfold eMake at h
  split at h
  · split at h
    · rw[bnd_some] at h
      obtain⟨a,h1,h⟩:=h
      rw[bnd_some] at h
      obtain⟨b',h2,h⟩:=h
      rw[on_some,Bool.and_eq_true,Bool.and_eq_true,ble_le,ble_le,ble_le,fLH_eq,fL_eq] at h
      obtain⟨⟨⟨h3,h4⟩,h5⟩,h6⟩:=h
      obtain⟨m2,h7,h8⟩:=Mem.push_some h6
      cases h8
      obtain⟨h9,h10,h11⟩:=iToNat_some h1
      obtain⟨h12,h13,h14⟩:=iToNat_some h2
      subst h11;subst h14
      have h5':=Int.ofNat_le.2 h5
      rw[Int.natCast_mul] at h5'
      refine⟨h9,by omega,by omega,h5',?_⟩
      rw[h10,h13,Mem.len,←h7];exact hk
    · cases h
  · cases h
noncomputable def eFillr (s:Nat):List (List HV)→List (Nat×HV)→Option HV
  | E,[]=>some (.imm true E)
  | E,(i,x)::r=>bnd (eSt x) fun l=>on (Nat.beq l.length s&&Nat.blt i E.length) (lSet E i l fun E=>eFillr s E r)
theorem eFillr_h {s:Nat} {C:HV→Prop}:∀(ps:List (Nat×HV)) (E:List (List HV)) (y:HV),eFillr s E ps=some y→C y→hfillr s (fun E=>C (.imm true E)) E ps
  | [],E,y,h,hk=>by simp only[eFillr,Option.some.injEq] at h;subst h;exact hk
  | (i,x)::r,E,y,h,hk=>by
    simp only[eFillr,bnd_some,on_some,Bool.and_eq_true,beq_eq',Nat.blt_eq,lSet_eq] at h
    obtain⟨l,h1,⟨h2,h3⟩,h4⟩:=h
    exact eSt_h h1 ⟨h2,h3,eFillr_h r _ y h4 hk⟩
noncomputable def eBsl (n:Nat) (ps:List (Nat×HV)):Option (Nat×Nat×List HV)→Option HV
  | some (s,_,z)=>on (Nat.ble (n*s) 16777216&&Nat.ble n 65536) (fLH z fun z=>fL (List.replicate n z) fun E=>eFillr s E ps)
  | none=>none
theorem eBsl_h {n:Nat} {ps:List (Nat×HV)} {o:Option (Nat×Nat×List HV)} {y:HV} {C:HV→Prop} (h:eBsl n ps o=some y) (hk:C y):hbsl n ps C o:=by
  unfold eBsl at h
  split at h
  · simp only[on_some,Bool.and_eq_true,ble_le,fLH_eq,fL_eq] at h
    exact⟨h.1.1,h.1.2,eFillr_h _ _ _ h.2 hk⟩
  · cases h
noncomputable def eSrc (m:Mem) (s:Nat) (x:HV):Option (List (List HV)):=
  match x with
  | .str l=>on (Nat.beq s 1) (fBR l fun E=>some E)
  | x=>eRows m s x
theorem eSrc_h {s:Nat} {x:HV} {N:List (List HV)} {C:List (List HV)→Prop} (h:eSrc m s x=some N) (hk:C N):hsrc m.pl s x C:=by
  unfold eSrc at h
  unfold hsrc
  split at h
  · simp only[on_some,beq_eq',fBR_eq,Option.some.injEq] at h;obtain⟨h1,rfl⟩:=h;exact⟨h1,hk⟩
  · rename_i hn
    split
    · rename_i l;exact absurd rfl (hn l)
    · exact eRows_h h hk
noncomputable def eNotInt (P:Program) (t:TypeId):Bool:=
  match P.underlying t with
  | some (.slice _)=>true
  | some .string=>true
  | _=>false
theorem eNotInt_h {t:TypeId} (h:eNotInt P t=true):notInt P t:=by
  unfold eNotInt at h
  unfold notInt
  split at h<;>rename_i hu<;>simp only[hu]
  cases h
noncomputable def eRoom (n b:Nat):Bool:=Nat.ble n 140737488355328&&Nat.ble (n*b) 140737488355328
theorem eRoom_h {n b:Nat} (h:eRoom n b=true):hroom n b:=by
  simp only[eRoom,Bool.and_eq_true,ble_le] at h;exact h
/-- Rows behind rows,worked out. -/
noncomputable def lApp {α β:Type} (l r:List α) (K:List α→β):β:=
  match l with
  | []=>fL r K
  | x::l=>lApp l r fun l=>K (x::l)
@[simp] theorem lApp_eq {α β:Type} (l r:List α) (K:List α→β):lApp l r K=K (l++r):=by
  induction l generalizing K with
  | nil=>rw[lApp,fL_eq];rfl
  | cons x l ih=>rw[lApp,ih];rfl
theorem bif_some {α:Type} {b:Bool} {x y:Option α} {z:α} (h:(bif b then x else y)=some z):(b=true∧x=some z)∨(b=false∧y=some z):=by
  cases b
  · exact .inr ⟨rfl,h⟩
  · exact .inl ⟨rfl,h⟩
noncomputable def eApp2 (m:Mem) (s b:Nat) (x:HV) (N:List (List HV)):Option RM:=
  match x with
  | .imm t E=>on (t&&((match E with | []=>true | _=>false) || (match N with | []=>false | _=>true))&&(E.all fun r=>Nat.beq r.length s)&&eRoom (E.length+N.length) b) (lApp E N fun X=>fN (E.length+N.length) fun k=>m.push (.arr 0 s X true) fun m'=>some (.sl m.n 0 0 k none,m'))
  | .sl n ver i len none=>(match m.get n with
    | .arr ver' sz E opn=>on (Nat.beq ver ver'&&Nat.beq sz s) (bif Nat.beq (i+len) E.length then on (eRoom (len+N.length) b) (lApp (E.drop i) N fun X=>fN (ver+1) fun ver=>fN (len+N.length) fun k=>m.set n (.arr ver s X true) fun m'=>some (.sl n ver 0 k none,m'))
        else on (Nat.blt (i+len) E.length&&Nat.ble (i+len+N.length) E.length) (fL (eSplice (i+len) N E) fun X=>fN (len+N.length) fun k=>m.set n (.arr ver s X opn) fun m'=>some (.sl n ver i k none,m')))
    | _=>none)
  | .sl n ver i len (some c)=>(match m.get n with
    | .arr ver' sz E opn=>on (Nat.beq ver ver'&&Nat.beq sz s&& !opn&&Nat.beq (i+c) E.length&&Nat.ble (len+N.length) c) (fL (eSplice (i+len) N E) fun X=>fN (len+N.length) fun k=>m.set n (.arr ver s X opn) fun m'=>some (.sl n ver i k (some c),m'))
    | _=>none)
  | _=>none
theorem eApp2_h {s b:Nat} {x:HV} {N:List (List HV)} {v:HV} {m':Mem} (h:eApp2 m s b x N=some (v,m')) (hk:K v m'.pl):happ2 m.pl s b x N K:=by
  unfold eApp2 at h
  unfold happ2
  split at h
  · simp only[on_some,Bool.and_eq_true,Bool.or_eq_true,lApp_eq,fN_eq] at h
    obtain⟨⟨⟨⟨h1,h2⟩,h3⟩,h4⟩,h5⟩:=h
    obtain⟨m2,h6,h7⟩:=Mem.push_some h5
    cases h7
    refine⟨h1,?_,fun r hr=>beq_eq'.1 (List.all_eq_true.1 h3 r hr),eRoom_h h4,?_⟩
    · rcases h2 with h2 | h2
      · left;split at h2
        · rfl
        · cases h2
      · right;split at h2
        · cases h2
        · rename_i hn;cases N with
          | nil=>exact absurd rfl hn
          | cons a N=>simp
    · rw[Mem.len,←h6];exact hk
  · simp only[Mem.get_eq]
    split at h
    · rename_i hg;rw[hg]
      simp only[on_some,Bool.and_eq_true,beq_eq'] at h
      obtain⟨⟨h1,h2⟩,h⟩:=h
      refine⟨h1,h2,?_⟩
      rcases bif_some h with ⟨h3,h⟩ | ⟨h3,h⟩
      rotate_left
      · simp only[on_some,Bool.and_eq_true,Nat.blt_eq,ble_le,fL_eq,fN_eq,eSplice_eq] at h
        obtain⟨⟨h4,h5⟩,h6⟩:=h
        obtain⟨m2,h7,h8⟩:=Mem.set_some h6
        cases h8
        refine .inr ⟨h4,h5,?_⟩
        rw[←h7];exact hk
      · simp only[on_some,lApp_eq,fN_eq] at h
        obtain⟨h4,h5⟩:=h
        obtain⟨m2,h6,h7⟩:=Mem.set_some h5
        cases h7
        refine .inl ⟨beq_eq'.1 h3,eRoom_h h4,?_⟩
        rw[←h6];exact hk
    · cases h
  · simp only[Mem.get_eq]
    split at h
    · rename_i hg;rw[hg]
      simp only[on_some,Bool.and_eq_true,Bool.not_eq_true',beq_eq',ble_le,fL_eq,fN_eq,eSplice_eq] at h
      obtain⟨⟨⟨⟨⟨h1,h2⟩,h3⟩,h4⟩,h5⟩,h6⟩:=h
      obtain⟨m2,h7,h8⟩:=Mem.set_some h6
      cases h8
      refine⟨h1,h2,h3,h4,h5,?_⟩
      rw[←h7];exact hk
    · cases h
  · cases h
noncomputable def eAppY (P:Program) (m:Mem) (t2:TypeId) (x:HV) (s b:Nat) (z:List HV):HV→Option RM
  | .int .i64 n=>bnd (iToNat n) fun n=>on (isIntT P t2&&Nat.ble n 65536&&Nat.ble (n*b) 140737488355328) (fL z fun z=>fL (List.replicate n z) fun N=>eApp2 m s b x N)
  | y=>on (eNotInt P t2) (bnd (eSrc m s y) fun N=>fL N fun N=>eApp2 m s b x N)
theorem eAppY_h {t2:TypeId} {x y:HV} {s b:Nat} {z:List HV} {v:HV} {m':Mem} (h:eAppY P m t2 x s b z y=some (v,m')) (hk:K v m'.pl):happY m.pl x (notInt P t2) (isIntT P t2=true) K s b z y:=by
  cases y
  case int k n=>
    cases k
    case i64=>
      simp only[eAppY,bnd_some,on_some,Bool.and_eq_true,ble_le,fL_eq] at h
      obtain⟨a,h1,⟨⟨h2,h3⟩,h4⟩,h5⟩:=h
      obtain⟨h6,h7,h8⟩:=iToNat_some h1
      subst h8
      refine⟨h2,h6,by omega,by rw[h7];exact h4,?_⟩
      rw[h7]
      exact eApp2_h h5 hk
    all_goals
      simp only[eAppY,on_some,bnd_some,fL_eq] at h
      obtain⟨h2,N,h3,h4⟩:=h
      exact⟨eNotInt_h h2,eSrc_h h3 (eApp2_h h4 hk)⟩
  all_goals
    simp only[eAppY,on_some,bnd_some,fL_eq] at h
    obtain⟨h2,N,h3,h4⟩:=h
    exact⟨eNotInt_h h2,eSrc_h h3 (eApp2_h h4 hk)⟩
noncomputable def eApp (P:Program) (m:Mem) (t t2:TypeId) (x y:HV):Option RM:=
  bnd (mkOf P t) fun q=>eAppY P m t2 x q.1 q.2.1 q.2.2 y
theorem eApp_h {t t2:TypeId} {x y:HV} {v:HV} {m':Mem} (h:eApp P m t t2 x y=some (v,m')) (hk:K v m'.pl):happ P m.pl t t2 x y K:=by
  simp only[eApp,bnd_some] at h
  obtain⟨⟨s,b,z⟩,h1,h2⟩:=h
  unfold happ
  rw[h1]
  exact eAppY_h h2 hk
noncomputable def rFlat (N:List (List HV)):List HV:=List.rec (motive:=fun _=>List HV) [] (fun r _ ih=>rApp r ih) N
theorem rFlat_eq:∀(N:List (List HV)),rFlat N=N.flatten
  | []=>rfl
  | r::N=>by
    show rApp r (rFlat N)=_
    rw[rApp_eq,rFlat_eq N];rfl
noncomputable def ePut2 (m:Mem) (s:Nat) (x:HV) (N:Nat→List (List HV)) (v:HV):Option RM:=
  match x with
  | .sl n ver i len _=>(match m.get n with
    | .arr ver' sz E opn=>on (Nat.beq ver ver'&&Nat.beq sz s&&(!opn || (match E with | []=>false | _=>true))&&Nat.ble (i+len) E.length) (fL (eSplice i (N len) E) fun X=>m.set n (.arr ver s X opn) fun m'=>some (v,m'))
    | _=>none)
  | .isl n ver i k len _=>on (Nat.beq s 1) (match m.get n with
    | .arr ver' sz E opn=>on (Nat.beq ver ver') (bnd (lg E i) fun l=>on (Nat.ble (k+len) l.length) (fL (eSplice k (rFlat (N len)) l) fun l'=>lSet E i l' fun E'=>m.set n (.arr ver sz E' opn) fun m'=>some (v,m')))
    | _=>none)
  | _=>none
theorem ePut2_h {s:Nat} {x:HV} {N:Nat→List (List HV)} {v v':HV} {m':Mem} {C:PL→Prop} (h:ePut2 m s x N v=some (v',m')) (hk:C m'.pl):v'=v∧hput2 m.pl s x N C:=by
  unfold ePut2 at h
  unfold hput2
  split at h
  · simp only[Mem.get_eq]
    split at h
    · rename_i hg;rw[hg]
      simp only[on_some,Bool.and_eq_true,Bool.or_eq_true,beq_eq',ble_le,fL_eq,eSplice_eq] at h
      obtain⟨⟨⟨⟨h1,h2⟩,h3⟩,h4⟩,h5⟩:=h
      obtain⟨m2,h6,h7⟩:=Mem.set_some h5
      cases h7
      refine⟨rfl,h1,h2,?_,h4,?_⟩
      · rcases h3 with h3 | h3
        · left;simpa using h3
        · right;rintro rfl;cases h3
      · rw[←h6];exact hk
    · cases h
  · rw[on_some] at h
    simp only[Mem.get_eq]
    obtain⟨h0,h⟩:=h
    split at h
    · rename_i hg;rw[hg]
      simp only[bnd_some,on_some,beq_eq',ble_le,fL_eq,lSet_eq,lg_eq,eSplice_eq,rFlat_eq] at h
      obtain⟨h1,l,h2,h3,h4⟩:=h
      obtain⟨m2,h6,h7⟩:=Mem.set_some h4
      cases h7
      refine⟨rfl,beq_eq'.1 h0,h1,l,h2,h3,?_⟩
      rw[←h6];exact hk
    · cases h
  · cases h
noncomputable def eCopy (P:Program) (m:Mem) (t:TypeId) (x y:HV):Option RM:=
  bnd (slOf P t) fun q=>bnd (eSrc m q.2 y) fun N=>fL N fun N=>fN (min (rLen N) (hsllen x)) fun k=>ePut2 m q.2 x (fun len=>rTake len N) (.int .i64 (.ofNat k))
theorem eCopy_h {t:TypeId} {x y:HV} {v:HV} {m':Mem} (h:eCopy P m t x y=some (v,m')) (hk:K v m'.pl):hcopy P m.pl t x y K:=by
  simp only[eCopy,bnd_some,fL_eq,fN_eq] at h
  obtain⟨⟨a,s⟩,h1,N,h3,h4⟩:=h
  unfold hcopy
  rw[h1]
  have hN:(fun len=>rTake len N)=fun len=>N.take len:=funext fun len=>rTake_eq len N
  rw[hN,rLen_eq] at h4
  obtain⟨rfl,_⟩:=ePut2_h (C:=fun _=>True) h4 trivial
  exact eSrc_h h3 (ePut2_h (C:=fun PS'=>K _ PS') h4 hk).2
noncomputable def eClear (P:Program) (m:Mem) (t:TypeId) (x:HV):Option RM:=
  bnd (mkOf P t) fun q=>ePut2 m q.1 x (fun len=>List.replicate len q.2.2) (.tup [])
theorem eClear_h {t:TypeId} {x:HV} {v:HV} {m':Mem} (h:eClear P m t x=some (v,m')) (hk:K v m'.pl):hclear P m.pl t x K:=by
  simp only[eClear,bnd_some] at h
  obtain⟨⟨s,b,z⟩,h1,h4⟩:=h
  unfold hclear
  rw[h1]
  obtain⟨rfl,_⟩:=ePut2_h (C:=fun _=>True) h4 trivial
  exact(ePut2_h (C:=fun PS'=>K _ PS') h4 hk).2
noncomputable def eMinmax (mx:Bool):List HV→Option HV
  | [.int k a,.int k' b]=>on (kEq k k') (fI (if mx then (if iLt a b then b else a) else (if iLt b a then b else a)) fun n=>some (.int k n))
  | _=>none
theorem eMinmax_h {mx:Bool} {l:List HV} {y:HV} {C:HV→Prop} (h:eMinmax mx l=some y) (hk:C y):hminmax mx C l:=by
  unfold eMinmax at h
  split at h
  · rw[on_some,fI_eq] at h
    obtain⟨h1,h2⟩:=h
    cases h2
    refine⟨kEq_eq h1,?_⟩
    simp only[←iLt_eq,decide_eq_true_eq] at hk
    exact hk
  · cases h
/-! ### Maps -/
noncomputable def eGet (x:Int):Ents→Option HV
  | []=>none
  | e::E=>bif iEq e.2.1 x then some e.2.2 else eGet x E
theorem eGet_eq (x:Int):∀E,mget x E=eGet x E
  | []=>rfl
  | e::E=>by
    rw[mget,eGet,eGet_eq x E,←iEq_eq]
    by_cases h:e.2.1=x<;>simp[h]
noncomputable def ePutm (x:Int) (v:HV) (clock:Nat):Ents→Ents
  | []=>[(clock,x,v)]
  | e::E=>bif iEq e.2.1 x then (e.1,x,v)::E else e::ePutm x v clock E
theorem ePutm_eq (x:Int) (v:HV) (clock:Nat):∀E,mput x v clock E=ePutm x v clock E
  | []=>rfl
  | e::E=>by
    rw[mput,ePutm,ePutm_eq x v clock E,←iEq_eq]
    by_cases h:e.2.1=x<;>simp[h]
noncomputable def eDelm (x:Int):Ents→Ents
  | []=>[]
  | e::E=>bif iEq e.2.1 x then E else e::eDelm x E
theorem eDelm_eq (x:Int):∀E,mdel x E=eDelm x E
  | []=>rfl
  | e::E=>by
    rw[mdel,eDelm,eDelm_eq x E,←iEq_eq]
    by_cases h:e.2.1=x<;>simp[h]
noncomputable def eDec (x:Nat):EntsT→Bool
  | []=>true
  | e::E=>(Nat.beq e.2.1 x || (match eTTe e.2.1 x with | some b=>!b | none=>false))&&eDec x E
theorem eDec_h {x:Nat}:∀{E:EntsT},eDec x E=true→tdec x E
  | [],_=>by intro e he;cases he
  | e::E,h=>by
    simp only[eDec,Bool.and_eq_true,Bool.or_eq_true,beq_eq'] at h
    intro a ha
    rcases List.mem_cons.1 ha with rfl | ha
    · refine h.1.imp id fun h2=>?_
      split at h2
      · rename_i b hb
        have:=eTTe_h hb
        cases b
        · exact of_decide_eq_false this
        · cases h2
      · cases h2
    · exact eDec_h h.2 a ha
noncomputable def eMkmap (m:Mem):Option IntKind→Option RM
  | some k=>m.push (.map 0 0 k []) fun m'=>some (.ref m.n 0,m')
  | none=>none
theorem eMkmap_h {o:Option IntKind} {v:HV} {m':Mem} (h:eMkmap m o=some (v,m')) (hk:K v m'.pl):hmkmap m.pl K o:=by
  unfold eMkmap at h
  split at h
  · obtain⟨m2,h1,h2⟩:=Mem.push_some h
    cases h2
    show K (.ref m.pl.length 0) (m.pl++[.map 0 0 _ []])
    rw[Mem.len,←h1];exact hk
  · cases h
noncomputable def eLookup (m:Mem) (mm ix:HV) (ok:Bool):Option (IntKind×HV)→Option HV
  | some (q,z)=>(match mm,ix with
    | .ref n ver,.int k x=>(match m.get n with
      | .map ver' _ k' E=>on (Nat.beq ver ver'&&kEq k k'&&kEq k q) (bif ok then fH ((eGet x E).getD z) fun v=>fB (eGet x E).isSome fun b=>some (.tup [v,.bool b]) else some ((eGet x E).getD z))
      | _=>none)
    | .ref n ver,.tok k x=>(match m.get n with
      | .map ver' _ k' []=>on (Nat.beq ver ver'&&kEq k k'&&kEq k q) (bif ok then fH z fun v=>some (.tup [v,.bool false]) else some z)
      | .mapT ver' _ k' E=>on (Nat.beq ver ver'&&kEq k k'&&kEq k q&&eDec x E) (bif ok then fH ((mgetT x E).getD z) fun v=>fB (mgetT x E).isSome fun b=>some (.tup [v,.bool b]) else some ((mgetT x E).getD z))
      | _=>none)
    | _,_=>none)
  | none=>none
theorem eLookup_h {mm ix:HV} {ok:Bool} {o:Option (IntKind×HV)} {y:HV} {C:HV→Prop} (h:eLookup m mm ix ok o=some y) (hk:C y):hlookup m.pl mm ix ok C o:=by
  unfold eLookup at h
  split at h
  · unfold hlookup
    split at h
    · split at h
      · rename_i hg
        simp only[on_some,Bool.and_eq_true,beq_eq',fH_eq,fB_eq] at h
        obtain⟨⟨⟨h1,h2⟩,h3⟩,h4⟩:=h
        simp only[Mem.get_eq,hg,hmapOf]
        refine⟨h1,kEq_eq h2,kEq_eq h3,?_⟩
        cases ok<;>(cases h4;simp only[eGet_eq];exact hk)
      · cases h
    · split at h
      · rename_i hg
        simp only[on_some,Bool.and_eq_true,beq_eq',fH_eq] at h
        obtain⟨⟨⟨h1,h2⟩,h3⟩,h4⟩:=h
        simp only[Mem.get_eq,hg,hmapOfT]
        refine⟨h1,kEq_eq h2,kEq_eq h3,fun e he=>(by cases he),?_⟩
        cases ok<;>(cases h4;exact hk)
      · rename_i hg
        simp only[on_some,Bool.and_eq_true,beq_eq',fH_eq,fB_eq] at h
        obtain⟨⟨⟨⟨h1,h2⟩,h3⟩,h5⟩,h4⟩:=h
        simp only[Mem.get_eq,hg,hmapOfT]
        refine⟨h1,kEq_eq h2,kEq_eq h3,eDec_h h5,?_⟩
        cases ok<;>(cases h4;exact hk)
      · cases h
    · cases h
  · cases h
noncomputable def eMapset (m:Mem) (mm ix v:HV):Option (IntKind×HV)→Option RM
  | some (q,_)=>(match mm,ix with
    | .ref n ver,.int k x=>(match m.get n with
      | .map ver' clock k' E=>on (Nat.beq ver ver'&&kEq k k'&&kEq k q) (fH v fun v=>fN (if (eGet x E).isSome then clock else clock+1) fun c=>fL (ePutm x v clock E) fun E'=>m.set n (.map ver c k E') fun m'=>some (.junk,m'))
      | _=>none)
    | .ref n ver,.tok k x=>(match m.get n with
      | .map ver' clock k' []=>on (Nat.beq ver ver'&&kEq k k'&&kEq k q) (fH v fun v=>fN (clock+1) fun c=>m.set n (.mapT ver c k [(clock,x,v)]) fun m'=>some (.junk,m'))
      | .mapT ver' clock k' E=>on (Nat.beq ver ver'&&kEq k k'&&kEq k q&&eDec x E) (fH v fun v=>fN (if (mgetT x E).isSome then clock else clock+1) fun c=>fL (mputT x v clock E) fun E'=>m.set n (.mapT ver c k E') fun m'=>some (.junk,m'))
      | _=>none)
    | _,_=>none)
  | none=>none
theorem eMapset_h {mm ix x:HV} {o:Option (IntKind×HV)} {v:HV} {m':Mem} {C:PL→Prop} (h:eMapset m mm ix x o=some (v,m')) (hk:C m'.pl):v=.junk∧hmapset m.pl mm ix x C o:=by
  unfold eMapset at h
  split at h
  · unfold hmapset
    split at h
    · split at h
      · rename_i hg
        simp only[on_some,Bool.and_eq_true,beq_eq',fH_eq,fN_eq,fL_eq] at h
        obtain⟨⟨⟨h1,h2⟩,h3⟩,h4⟩:=h
        obtain⟨m2,h5,h6⟩:=Mem.set_some h4
        cases h6
        refine⟨rfl,?_⟩
        simp only[Mem.get_eq,hg,hmapOf]
        refine⟨h1,kEq_eq h2,kEq_eq h3,?_⟩
        simp only[eGet_eq,ePutm_eq]
        rw[←h5];exact hk
      · cases h
    · split at h
      · rename_i hg
        simp only[on_some,Bool.and_eq_true,beq_eq',fH_eq,fN_eq] at h
        obtain⟨⟨⟨h1,h2⟩,h3⟩,h4⟩:=h
        obtain⟨m2,h5,h6⟩:=Mem.set_some h4
        cases h6
        refine⟨rfl,?_⟩
        simp only[Mem.get_eq,hg,hmapOfT]
        refine⟨h1,kEq_eq h2,kEq_eq h3,fun e he=>(by cases he),?_⟩
        simp only[mgetT,mputT,Option.isSome_none,Bool.false_eq_true,if_false]
        rw[←h5];exact hk
      · rename_i hg
        simp only[on_some,Bool.and_eq_true,beq_eq',fH_eq,fN_eq,fL_eq] at h
        obtain⟨⟨⟨⟨h1,h2⟩,h3⟩,h7⟩,h4⟩:=h
        obtain⟨m2,h5,h6⟩:=Mem.set_some h4
        cases h6
        refine⟨rfl,?_⟩
        simp only[Mem.get_eq,hg,hmapOfT]
        refine⟨h1,kEq_eq h2,kEq_eq h3,eDec_h h7,?_⟩
        rw[←h5];exact hk
      · cases h
    · cases h
  · cases h
noncomputable def eMapdel (m:Mem) (mm ix:HV):Option (IntKind×HV)→Option RM
  | some (q,_)=>(match mm,ix with
    | .ref n ver,.int k x=>(match m.get n with
      | .map ver' clock k' E=>on (Nat.beq ver ver'&&kEq k k'&&kEq k q) (fL (eDelm x E) fun E'=>m.set n (.map ver clock k E') fun m'=>some (.tup [],m'))
      | _=>none)
    | _,_=>none)
  | none=>none
theorem eMapdel_h {mm ix:HV} {o:Option (IntKind×HV)} {v:HV} {m':Mem} (h:eMapdel m mm ix o=some (v,m')) (hk:K v m'.pl):hmapdel m.pl mm ix K o:=by
  unfold eMapdel at h
  split at h
  · unfold hmapdel
    split at h
    · split at h
      · rename_i hg
        simp only[on_some,Bool.and_eq_true,beq_eq',fL_eq] at h
        obtain⟨⟨⟨h1,h2⟩,h3⟩,h4⟩:=h
        obtain⟨m2,h5,h6⟩:=Mem.set_some h4
        cases h6
        simp only[Mem.get_eq,hg,hmapOf]
        refine⟨h1,kEq_eq h2,kEq_eq h3,?_⟩
        simp only[eDelm_eq]
        rw[←h5];exact hk
      · cases h
    · cases h
  · cases h
noncomputable def eRange (m:Mem) (mm:HV):Option (IntKind×HV)→Option RM
  | some _=>(match mm with
    | .ref n ver=>(match m.get n with
      | .map ver' clock _ _=>on (Nat.beq ver ver') (m.push (.iter 0 (.ref n ver) clock [] clock) fun m'=>some (.ref m.n 0,m'))
      | _=>none)
    | _=>none)
  | none=>none
theorem eRange_h {mm:HV} {o:Option (IntKind×HV)} {v:HV} {m':Mem} (h:eRange m mm o=some (v,m')) (hk:K v m'.pl):hrange m.pl mm K o:=by
  unfold eRange at h
  split at h
  · unfold hrange
    split at h
    · split at h
      · rename_i hg
        simp only[on_some,beq_eq'] at h
        obtain⟨h1,h2⟩:=h
        obtain⟨m2,h3,h4⟩:=Mem.push_some h2
        cases h4
        simp only[Mem.get_eq,hg,hmapOf]
        refine⟨h1,?_⟩
        rw[Mem.len,←h3];exact hk
      · cases h
    · cases h
  · cases h
def lHas:List Nat→Nat→Bool
  | [],_=>false
  | x::l,n=>Nat.beq x n || lHas l n
theorem lHas_mem:∀(l:List Nat) (n:Nat),lHas l n=true↔n∈l
  | [],n=>by simp[lHas]
  | x::l,n=>by rw[lHas,Bool.or_eq_true,lHas_mem l n,beq_eq',List.mem_cons];constructor<;>(rintro (h | h);exact .inl h.symm;exact .inr h)
/-- An iterator's next:where at most one is left. -/
noncomputable def eNext (m:Mem) (it:HV):Option RM:=
  match it with
  | .ref n ver=>(match m.get n with
    | .iter ver' (.ref mm mver) since seen last=>on (Nat.beq ver ver') (match m.get mm with
      | .map mv clock k E=>on (Nat.beq mver mv&&Nat.beq clock since&&Nat.beq clock last) (match E.filter fun e=>!lHas seen e.1 with
        | []=>some (.tup [.bool false],m)
        | [(b,key,y)]=>fL (seen++[b]) fun seen=>m.set n (.iter ver (.ref mm mver) since seen clock) fun m'=>some (.tup [.bool true,.int k key,y],m')
        | _=>none)
      | _=>none)
    | _=>none)
  | _=>none
theorem eNext_h {it:HV} {v:HV} {m':Mem} (h:eNext m it=some (v,m')) (hk:K v m'.pl):hnext m.pl it K:=by
  unfold eNext at h
  unfold hnext
  split at h
  · split at h
    · rename_i hg
      rw[on_some] at h
      obtain⟨h1,h⟩:=h
      simp only[Mem.get_eq,hg,hiterOf]
      refine⟨beq_eq'.1 h1,?_⟩
      split at h
      · rename_i hg2
        simp only[on_some,Bool.and_eq_true,beq_eq'] at h
        obtain⟨⟨⟨h2,h3⟩,h4⟩,h⟩:=h
        simp only[hg2,hmapOf]
        rename_i mv clock k E
        have mem:∀(i b:Nat) (key:Int) (y:HV) (seen:List Nat),E[i]? =some (b,key,y)→b∉seen→(b,key,y)∈E.filter fun e=>!lHas seen e.1:=by
          intro i b key y seen hi hb
          rw[List.mem_filter]
          refine⟨List.mem_of_getElem? hi,?_⟩
          simp only[Bool.not_eq_true']
          rw[Bool.eq_false_iff,ne_eq,lHas_mem];exact hb
        refine⟨h2,h3,h4,?_,?_⟩
        · intro i b key y hi hb
          have:=mem i b key y _ hi hb
          split at h
          · rename_i hf;rw[hf] at this;cases this
          · rename_i hf;rw[hf] at this
            simp only[List.mem_singleton,Prod.mk.injEq] at this
            obtain⟨rfl,rfl,rfl⟩:=this
            rw[fL_eq] at h
            obtain⟨m2,h5,h6⟩:=Mem.set_some h
            cases h6
            rw[←h5];exact hk
          · cases h
        · intro hall
          split at h
          · cases h;exact hk
          · rename_i b key y hf
            have:(b,key,y)∈[(b,key,y)]:=List.mem_singleton.2 rfl
            rw[←hf,List.mem_filter] at this
            obtain⟨h7,h8⟩:=this
            obtain⟨i,hi⟩:=List.mem_iff_getElem?.1 h7
            have:=hall i b key y hi
            rw[←lHas_mem] at this
            simp[this] at h8
          · cases h
      · cases h
    · cases h
  · cases h
noncomputable def nxAll (m:Mem) (n ver mm mver since:Nat) (seen:List Nat) (clock:Nat) (k:IntKind):List (Nat×Int×HV)→Option (List RM)
  | []=>some []
  | (b,key,y)::l=>fL (seen++[b]) fun s2=>m.set n (.iter ver (.ref mm mver) since s2 clock) fun m'=>bnd (nxAll m n ver mm mver since seen clock k l) fun r=>some ((.tup [.bool true,.int k key,y],m')::r)
theorem nxAll_h {n ver mm mver since:Nat} {seen:List Nat} {clock:Nat} {k:IntKind} {C:HV→PL→Prop}:∀(l:List (Nat×Int×HV)) (L:List RM),nxAll m n ver mm mver since seen clock k l=some L→(∀r∈L,C r.1 r.2.pl)→
    ∀(b:Nat) (key:Int) (y:HV),(b,key,y)∈l→C (.tup [.bool true,.int k key,y]) (m.pl.set n (.iter ver (.ref mm mver) since (seen++[b]) clock))
  | [],_,_,_,b,key,y,hm=>by cases hm
  | (b',key',y')::l,L,h,hk,b,key,y,hm=>by
    simp only[nxAll,fL_eq] at h
    obtain⟨m2,h5,h6⟩:=Mem.set_some h
    rw[bnd_some] at h6
    obtain⟨L2,h7,h8⟩:=h6
    cases h8
    rcases List.mem_cons.1 hm with h9 | h9
    · cases h9
      rw[←h5]
      exact hk (_,m2) (List.mem_cons_self ..)
    · exact nxAll_h l L2 h7 (fun r hr=>hk r (List.mem_cons_of_mem _ hr)) b key y h9
/-- An iterator's next:whichever is left. -/
noncomputable def eNextL (m:Mem) (it:HV):Option (List RM):=
  match it with
  | .ref n ver=>(match m.get n with
    | .iter ver' (.ref mm mver) since seen last=>on (Nat.beq ver ver') (match m.get mm with
      | .map mv clock k E=>on (Nat.beq mver mv&&Nat.beq clock since&&Nat.beq clock last) (match E.filter fun e=>!lHas seen e.1 with
        | []=>some [(.tup [.bool false],m)]
        | e::l=>nxAll m n ver mm mver since seen clock k (e::l))
      | _=>none)
    | _=>none)
  | _=>none
theorem eNextL_h {it:HV} {L:List RM} {C:HV→PL→Prop} (h:eNextL m it=some L) (hk:∀r∈L,C r.1 r.2.pl):hnext m.pl it C:=by
  unfold eNextL at h
  unfold hnext
  split at h
  · split at h
    · rename_i hg
      rw[on_some] at h
      obtain⟨h1,h⟩:=h
      simp only[Mem.get_eq,hg,hiterOf]
      refine⟨beq_eq'.1 h1,?_⟩
      split at h
      · rename_i hg2
        simp only[on_some,Bool.and_eq_true,beq_eq'] at h
        obtain⟨⟨⟨h2,h3⟩,h4⟩,h⟩:=h
        simp only[hg2,hmapOf]
        rename_i ver2 mm2 mver2 since2 seen2 last2 _ mv clock k E
        have mem:∀(i b:Nat) (key:Int) (y:HV) (seen:List Nat),E[i]? =some (b,key,y)→b∉seen→(b,key,y)∈E.filter fun e=>!lHas seen e.1:=by
          intro i b key y seen hi hb
          rw[List.mem_filter]
          refine⟨List.mem_of_getElem? hi,?_⟩
          simp only[Bool.not_eq_true']
          rw[Bool.eq_false_iff,ne_eq,lHas_mem];exact hb
        refine⟨h2,h3,h4,?_,?_⟩
        · intro i b key y hi hb
          have hm:=mem i b key y _ hi hb
          split at h
          · rename_i hf;rw[hf] at hm;cases hm
          · rename_i e l hf
            rw[hf] at hm
            obtain rfl:=beq_eq'.1 h1
            exact nxAll_h _ L h hk b key y hm
        · intro hall
          split at h
          · cases h;exact hk _ (List.mem_singleton.2 rfl)
          · rename_i e l hf
            have hm:e∈e::l:=List.mem_cons_self ..
            rw[←hf,List.mem_filter] at hm
            obtain⟨h7,h8⟩:=hm
            obtain⟨i,hi⟩:=List.mem_iff_getElem?.1 h7
            have:=hall i e.1 e.2.1 e.2.2 hi
            rw[←lHas_mem] at this
            simp[this] at h8
      · cases h
    · cases h
  · cases h
noncomputable def eEntry (m:Mem) (it:HV):Option HV:=
  match it with
  | .ref n ver=>(match m.get n with
    | .iter ver' (.ref mm mver) _ seen last=>on (Nat.beq ver ver') (match m.get mm with
      | .map mv clock k E=>on (Nat.beq mver mv&&Nat.beq clock last) (match seen.getLast?.bind (ment · E) with
        | some (key,y)=>some (.tup [.int k key,y])
        | none=>none)
      | _=>none)
    | _=>none)
  | _=>none
theorem eEntry_h {it y:HV} {C:HV→Prop} (h:eEntry m it=some y) (hk:C y):hentry m.pl it C:=by
  unfold eEntry at h
  unfold hentry
  split at h
  · split at h
    · rename_i hg
      rw[on_some] at h
      obtain⟨h1,h⟩:=h
      simp only[Mem.get_eq,hg,hiterOf]
      refine⟨beq_eq'.1 h1,?_⟩
      split at h
      · rename_i hg2
        simp only[on_some,Bool.and_eq_true,beq_eq'] at h
        obtain⟨⟨h2,h3⟩,h⟩:=h
        simp only[hg2,hmapOf]
        refine⟨h2,h3,?_⟩
        split at h
        · rename_i hs;rw[hs];cases h;exact hk
        · cases h
      · cases h
    · cases h
  · cases h
noncomputable def eMki (P:Program) (t:TypeId) (x:HV):Option HV:=
  match P.underlying t with
  | some (.interface _)=>none
  | some _=>fH x fun x=>some (.iface t x)
  | none=>none
theorem eMki_h {t:TypeId} {x y:HV} {C:HV→Prop} (h:eMki P t x=some y) (hk:C y):hmki P t x C:=by
  unfold eMki at h
  unfold hmki
  cases hu:P.underlying t with
  | none=>rw[hu] at h;cases h
  | some d=>rw[hu] at h;cases d<;>(try simp only[fH_eq,Option.some.injEq] at h)<;>first | (subst h;exact hk) | cases h
noncomputable def eSlnil (P:Program) (m:Mem) (op:BinOp) (t:TypeId) (x:HV):Option HV:=
  match P.underlying t with
  | some (.slice _)=>(match x with
    | .imm _ (_::_)=>eBt op false
    | .sl n ver _ (_+1) _=>on (eVer (m.get n) ver) (eBt op false)
    | _=>none)
  | _=>none
theorem eSlnil_h {op:BinOp} {t:TypeId} {x y:HV} {C:HV→Prop} (h:eSlnil P m op t x=some y) (hk:C y):hslnil P m.pl op t x C:=by
  unfold eSlnil at h
  split at h
  · rename_i e hu
    refine⟨⟨e,hu⟩,?_⟩
    split at h
    · exact⟨fun e=>by simp at e,fun _=>eBt_h h hk⟩
    · rw[on_some] at h
      exact⟨by rw[Mem.get_eq];exact eVer_h h.1,fun e=>by omega,fun _=>eBt_h h.2 hk⟩
    · cases h
  · cases h
end
noncomputable def eAssV (P:Program) (t:TypeId) (ok:Bool):HV→Option HV
  | .iface t' y=>bif Nat.beq t' t then some (bif ok then .tup [y,.bool true] else y) else on ok (bnd ((P.info? t).bind (·.zero)) fun z=>some (.tup [zv z,.bool false]))
  | _=>none
theorem eAssV_h {P:Program} {t:TypeId} {ok:Bool} {x y:HV} {C:HV→Prop} (h:eAssV P t ok x=some y) (hk:C y):hassV P t ok C x:=by
  cases x with
  | iface t' z=>
    simp only[eAssV] at h
    simp only[hassV]
    cases hb:Nat.beq t' t
    · rw[hb] at h
      simp only[cond_false,on_some,bnd_some] at h
      obtain⟨h1,z,h2,h3⟩:=h
      have:t'≠t:=fun e=>by rw[beq_eq'.2 e] at hb;cases hb
      rw[if_neg this,h2]
      cases h3
      exact⟨h1,hk⟩
    · rw[hb] at h
      rw[if_pos (beq_eq'.1 hb)]
      cases ok<;>(cases h;exact hk)
  | _=>cases h
noncomputable def eAssert (P:Program) (t:TypeId) (x:HV) (ok:Bool):Option TypeDesc→Option HV
  | none=>none
  | some (.interface _)=>none
  | some _=>eAssV P t ok x
theorem eAssert_h {P:Program} {t:TypeId} {ok:Bool} {x y:HV} {d:Option TypeDesc} {C:HV→Prop} (h:eAssert P t x ok d=some y) (hk:C y):hassert P t x ok C d:=by
  cases d with
  | none=>cases h
  | some d=>cases d<;>first | (cases h;done) | exact eAssV_h h hk
/-! ### All operations -/
noncomputable def eV (g:Nat→HV):Operand→HV
  | .tmp t=>g t
  | x=>ev [] x
theorem eV_ev (f:FT) (x:Operand):ev f.fr x=eV f.get x:=by
  cases x<;>first | rfl | exact FT.get_eq f _
theorem eV_map (f:FT) (l:List Operand):l.map (ev f.fr)=l.map (eV f.get):=List.map_congr_left fun x _=>eV_ev f x
theorem eV_opt (f:FT) (o:Option Operand):o.map (ev f.fr)=o.map (eV f.get):=by cases o<;>simp[eV_ev]
theorem eV_parts (f:FT) (l:List (Nat×Operand)):(l.map fun p=>(p.1,ev f.fr p.2))=l.map fun p=>(p.1,eV f.get p.2):=List.map_congr_left fun x _=>by rw[eV_ev]
/-- The operations that leave memory as it is. -/
noncomputable def eVal (P:Program) (o:Oper) (g:Nat→HV) (m:Mem):Option HV:=
  match o.op with
  | .move x=>some (eV g x)
  | .assign x=>some (eV g x)
  | .pick c x y=>ePick (eV g c) (eV g x) (eV g y)
  | .load t x=>eLoad m (eV g x) (tsz P t)
  | .nilCheck x=>eNil m (eV g x)
  | .binOp op t x y _=>bif isNilSl y then none else eBin P m op t (eV g x) (eV g y)
  | .unOp op _ x=>eUn op (eV g x)
  | .convert s d x=>eConvert P m s d (eV g x)
  | .fieldAddr s x f=>eField m (eV g x) (fldOf P s f)
  | .field t x f=>eFieldv P t (eV g x) f
  | .indexAddr t x i=>eIxAddr P m t (eV g x) (eV g i)
  | .index t x i=>eIndex P t (eV g x) (eV g i)
  | .extract x i=>eExt (eV g x) i
  | .slice t x l h mx=>eSlice P m t (eV g x) (l.map (eV g)) (h.map (eV g)) (mx.map (eV g))
  | .build t ps=>eBuild P t (ps.toList.map fun p=>(p.1,eV g p.2))
  | .buildSlice t n ps=>eBsl n (ps.toList.map fun p=>(p.1,eV g p.2)) (mkOf P t)
  | .makeInterface t x=>eMki P t (eV g x)
  | .lookup t mm x ok=>eLookup m (eV g mm) (eV g x) ok (mapZ P t)
  | .makeFunc fn f c=>fLH (f.toList.map (eV g)) fun a=>fLH (c.toList.map (eV g)) fun b=>some (.func fn a b)
  | .call ⟨.builtin .len,args,ts⟩=>(match ts.toList,args.toList.map (eV g) with | [t],[x]=>eLen P m t x | _,_=>none)
  | .call ⟨.builtin .min,args,_⟩=>eMinmax false (args.toList.map (eV g))
  | .call ⟨.builtin .max,args,_⟩=>eMinmax true (args.toList.map (eV g))
  | _=>none
theorem eVal_h {P:Program} {o:Oper} {f:FT} {m:Mem} {v:HV} {C:HV→Prop} (h:eVal P o f.get m=some v) (hk:C v):hlenO P o f.fr m.pl C:=by
  obtain⟨dst,op,ty,pos,after,guard⟩:=o
  cases op with
  | call c=>
    obtain⟨callee,args,ts⟩:=c
    cases callee with
    | builtin b=>
      cases b<;>simp only[eVal] at h<;>try (cases h;done)
      case len=>
        simp only[hlenO,eV_map]
        split at h
        · rename_i h1 h2;rw[h1,h2];exact eLen_h h hk
        · cases h
      case min=>simp only[hlenO,hval,eV_map];exact eMinmax_h h hk
      case max=>simp only[hlenO,hval,eV_map];exact eMinmax_h h hk
    | _=>cases h
  | binOp op t x y t2=>
    simp only[eVal] at h
    cases hy:isNilSl y
    · rw[hy] at h;simp only[hlenO,hval,eV_ev];exact eBin_h h hk
    · rw[hy] at h;cases h
  | move x=>simp only[hlenO,hval,eV_ev];cases h;exact hk
  | assign x=>simp only[hlenO,hval,eV_ev];cases h;exact hk
  | pick c x y=>simp only[hlenO,hval,eV_ev];exact ePick_h h hk
  | load t x=>simp only[hlenO,hval,eV_ev];exact eLoad_h h hk
  | nilCheck x=>simp only[hlenO,hval,eV_ev];exact eNil_h h hk
  | unOp op t x=>simp only[hlenO,hval,eV_ev];exact eUn_h h hk
  | convert s d x=>simp only[hlenO,hval,eV_ev];exact eConvert_h h hk
  | fieldAddr s x f=>simp only[hlenO,hval,eV_ev];exact eField_h h hk
  | field t x f=>simp only[hlenO,hval,eV_ev];exact eFieldv_h h hk
  | indexAddr t x i=>simp only[hlenO,hval,eV_ev];exact eIxAddr_h h hk
  | index t x i=>simp only[hlenO,hval,eV_ev];exact eIndex_h h hk
  | extract x i=>simp only[hlenO,hval,eV_ev];exact eExt_h h hk
  | slice t x l h' mx=>simp only[hlenO,hval,eV_ev,eV_opt];exact eSlice_h h hk
  | build t ps=>simp only[hlenO,hval,eV_parts];exact eBuild_h h hk
  | buildSlice t n ps=>simp only[hlenO,hval,eV_parts];exact eBsl_h h hk
  | makeInterface t x=>simp only[hlenO,hval,eV_ev];exact eMki_h h hk
  | lookup t mm x ok=>simp only[hlenO,hval,eV_ev];exact eLookup_h h hk
  | makeFunc fn f c=>simp only[eVal,fLH_eq] at h;simp only[hlenO,hval,eV_map];cases h;exact hk
  | _=>cases h
/-- A call,by what calls come to:all ways. -/
abbrev EC:=FuncId→List HV→Mem→Option (List RM)
def ECOk (P:Program) (ec:EC):Prop:=∀g args m L,ec g args m=some L→HCall P g args m.pl fun v PS=>∃r∈L,v=r.1∧PS=r.2.pl
/-- Operations that are no calls. -/
noncomputable def eMem (P:Program) (o:Oper) (g:Nat→HV) (m:Mem):Option RM:=
  match o.op with
  | .alloc t=>eAlloc P t m
  | .box _ x=>fH (eV g x) fun x=>eBox x m
  | .store t x y=>fH (eV g y) fun y=>eStore m (eV g x) y (tsz P t)
  | .makeSlice t l c=>eMake m (eV g l) (eV g c) (mkOf P t)
  | .makeMap t none=>eMkmap m (mapK P t)
  | .mapUpdate t mm x y=>eMapset m (eV g mm) (eV g x) (eV g y) (mapZ P t)
  | .range t mm=>eRange m (eV g mm) (mapZ P t)
  | .next it false=>eNext m (eV g it)
  | .entry it=>bnd (eEntry m (eV g it)) fun v=>some (v,m)
  | .binOp op t x y _=>bnd (bif isNilSl y then eSlnil P m op t (eV g x) else eBin P m op t (eV g x) (eV g y)) fun v=>some (v,m)
  | .call ⟨.builtin .append,args,ts⟩=>(match ts.toList,args.toList.map (eV g) with | [t,t2],[x,y]=>eApp P m t t2 x y | _,_=>none)
  | .call ⟨.builtin .copy,args,ts⟩=>(match ts.toList,args.toList.map (eV g) with | [t,_],[x,y]=>eCopy P m t x y | _,_=>none)
  | .call ⟨.builtin .clear,args,ts⟩=>(match ts.toList,args.toList.map (eV g) with | [t],[x]=>eClear P m t x | _,_=>none)
  | .call ⟨.builtin .delete,args,ts⟩=>(match ts.toList,args.toList.map (eV g) with | t::_,[mm,x]=>eMapdel m mm x (mapZ P t) | _,_=>none)
  | .typeAssert x _ t ok=>bnd (eAssert P t (eV g x) ok (P.underlying t)) fun v=>some (v,m)
  | _=>bnd (eVal P o g m) fun v=>some (v,m)
noncomputable def eOp (P:Program) (ec:EC) (o:Oper) (g:Nat→HV) (m:Mem):Option (List RM):=
  match o.op with
  | .call ⟨.invoke r nm,args,_⟩=>(match eV g r with
    | .iface t y=>bnd (hmeth P t nm) fun q=>fN q fun q=>on (callable P q) (fLH (y::args.toList.map (eV g)) fun l=>ec q l m)
    | _=>none)
  | .next it false=>eNextL m (eV g it)
  | .call ⟨.value fv,args,_⟩=>bnd (hfun (eV g fv)) fun q=>fN q.1 fun q1=>on (callable P q1) (fLH (q.2.1++(args.toList.map (eV g)++q.2.2)) fun l=>ec q1 l m)
  | _=>bnd (eMem P o g m) fun r=>some [r]
theorem eVal_hop {P:Program} {o:Oper} {f:FT} {m:Mem} {v:HV} {C:HV→PL→Prop} (h:eVal P o f.get m=some v) (hk:C v m.pl):hop P o f.fr m.pl C:=by
  have:=eVal_h (C:=fun v=>C v m.pl) h hk
  obtain⟨dst,op,ty,pos,after,guard⟩:=o
  cases op with
  | call c=>
    obtain⟨callee,args,ts⟩:=c
    cases callee with
    | builtin b=>
      cases b<;>simp only[eVal] at h<;>try (cases h;done)
      case len=>
        simp only[hlenO] at this
        simp only[hop,hbuiltin]
        split at this
        · rename_i h1 h2;rw[h1,h2];exact hlenP_hlen this
        · exact this.elim
      case min=>simpa only[hlenO,hval,hop,hbuiltin] using this
      case max=>simpa only[hlenO,hval,hop,hbuiltin] using this
    | _=>cases h
  | binOp op t x y t2=>
    simp only[eVal] at h
    cases hy:isNilSl y
    · simp only[hop,hbinO,hy,Bool.false_eq_true,if_false];exact this
    · rw[hy] at h;cases h
  | makeMap t z=>cases h
  | next a b=>cases h
  | _=>first | exact this | cases h
theorem eMem_h {P:Program} {o:Oper} {f:FT} {m m':Mem} {v:HV} {C:HV→PL→Prop} (h:eMem P o f.get m=some (v,m')) (hk:C v m'.pl):hop P o f.fr m.pl C:=by
  have val:∀{o:Oper},(bnd (eVal P o f.get m) fun v=>some (v,m))=some (v,m')→hop P o f.fr m.pl C:=fun h=>by
    rw[bnd_some] at h
    obtain⟨v',h1,h2⟩:=h
    cases h2
    exact eVal_hop h1 hk
  obtain⟨dst,op,ty,pos,after,guard⟩:=o
  cases op with
  | alloc t=>exact eAlloc_h h hk
  | box t x=>simp only[eMem,fH_eq] at h;simp only[hop,eV_ev];exact eBox_h h hk
  | store t x y=>
    simp only[eMem,fH_eq] at h
    simp only[hop,eV_ev]
    obtain⟨rfl,_⟩:=eStore_h (C:=fun _=>True) h trivial
    exact(eStore_h (C:=fun PS'=>C .junk PS') h hk).2
  | makeSlice t l c=>simp only[hop,eV_ev];exact eMake_h h hk
  | makeMap t z=>
    cases z with
    | none=>exact eMkmap_h h hk
    | some z=>exact val h
  | mapUpdate t mm x y=>
    simp only[hop,eV_ev]
    obtain⟨rfl,_⟩:=eMapset_h (C:=fun _=>True) h trivial
    exact(eMapset_h (C:=fun PS'=>C .junk PS') h hk).2
  | range t mm=>simp only[hop,eV_ev];exact eRange_h h hk
  | next it b=>
    cases b with
    | false=>simp only[hop,eV_ev];exact eNext_h h hk
    | true=>exact val h
  | entry it=>
    simp only[eMem,bnd_some] at h
    obtain⟨v',h1,h2⟩:=h
    cases h2
    simp only[hop,eV_ev];exact eEntry_h h1 hk
  | binOp op t x y t2=>
    simp only[eMem,bnd_some] at h
    obtain⟨v',h1,h2⟩:=h
    cases h2
    cases hy:isNilSl y
    · rw[hy] at h1
      simp only[hop,hbinO,hy,Bool.false_eq_true,if_false,eV_ev];exact eBin_h (K:=fun v=>C v m.pl) h1 hk
    · rw[hy] at h1
      simp only[hop,hbinO,hy,if_true,eV_ev];exact eSlnil_h (C:=fun v=>C v m.pl) h1 hk
  | call c=>
    obtain⟨callee,args,ts⟩:=c
    cases callee with
    | builtin b=>
      cases b
      case append=>
        simp only[eMem] at h
        simp only[hop,hbuiltin,eV_map]
        split at h
        · rename_i h1 h2;rw[h1,h2];exact eApp_h h hk
        · cases h
      case copy=>
        simp only[eMem] at h
        simp only[hop,hbuiltin,eV_map]
        split at h
        · rename_i h1 h2;rw[h1,h2];exact eCopy_h h hk
        · cases h
      case clear=>
        simp only[eMem] at h
        simp only[hop,hbuiltin,eV_map]
        split at h
        · rename_i h1 h2;rw[h1,h2];exact eClear_h h hk
        · cases h
      case delete=>
        simp only[eMem] at h
        simp only[hop,hbuiltin,eV_map]
        split at h
        · rename_i h1 h2;rw[h1,h2];exact eMapdel_h h hk
        · cases h
      all_goals exact val h
    | _=>exact val h
  | typeAssert x xt t ok=>
    simp only[eMem,bnd_some] at h
    obtain⟨v',h1,h2⟩:=h
    cases h2
    simp only[hop,eV_ev]
    exact eAssert_h (C:=fun v=>C v m.pl) h1 hk
  | _=>exact val h
theorem eOp_h {P:Program} {ec:EC} (hec:ECOk P ec) {o:Oper} {f:FT} {m:Mem} {L:List RM} {C:HV→PL→Prop} (h:eOp P ec o f.get m=some L) (hk:∀r∈L,C r.1 r.2.pl):hop P o f.fr m.pl C:=by
  have mem:∀{o:Oper},(bnd (eMem P o f.get m) fun r=>some [r])=some L→hop P o f.fr m.pl C:=fun h=>by
    rw[bnd_some] at h
    obtain⟨⟨v',m'⟩,h1,h2⟩:=h
    cases h2
    exact eMem_h h1 (hk (v',m') (List.mem_singleton.2 rfl))
  have call:∀{g:FuncId} {args:List HV},ec g args m=some L→HCall P g args m.pl C:=fun h=>(hec _ _ _ _ h).mono fun v PS ⟨r,hr,e1,e2⟩=>by
    subst e1;subst e2;exact hk r hr
  obtain⟨dst,op,ty,pos,after,guard⟩:=o
  cases op with
  | call c=>
    obtain⟨callee,args,ts⟩:=c
    cases callee with
    | value fv=>
      simp only[eOp,bnd_some,on_some,fLH_eq,fN_eq] at h
      obtain⟨⟨g,a,c⟩,h1,h2,h3⟩:=h
      simp only[hop,eV_ev,eV_map,h1,hcallv]
      exact⟨h2,call h3⟩
    | invoke r nm=>
      simp only[eOp] at h
      simp only[hop,eV_ev,eV_map]
      split at h
      · rename_i t y hr
        simp only[bnd_some,on_some,fLH_eq,fN_eq] at h
        obtain⟨q,h1,h2,h3⟩:=h
        rw[hr]
        simp only[hinvoke,h1]
        exact⟨h2,call h3⟩
      · cases h
    | _=>exact mem h
  | next it b=>
    cases b with
    | false=>simp only[hop,eV_ev];exact eNextL_h h hk
    | true=>exact mem h
  | _=>exact mem h
end Go.Eng
