/-
A call that only reads: what it comes to as data, the memory as it was.
No conditions.
-/
import Derived.Test.YtajjhaidpagflaaGreatQRunG
set_option linter.unusedSectionVars false
set_option linter.unusedSimpArgs false
set_option linter.unusedVariables false
namespace Go.Eng
open Go
variable [Toks]
/-- Rows frozen,one piece behind the other. -/
inductive FStar:HV→PL→HV→PL→Prop
  | refl (r:HV) (PS:PL):FStar r PS r PS
  | step {r r' r'':HV} {PS PS2 PS3:PL} {n ver sz:Nat} {E:List (List HV)} {opn:Bool} (hq:getP PS n=.arr ver sz E opn) (hx:FrzV n ver E r r') (hc:FrzPS n ver E PS PS2) (h:FStar r' PS2 r'' PS3):FStar r PS r'' PS3
theorem Rel.fstar {F:Nat→Prop} {e:List Pos} {w:World} {r r':HV} {PS PS':PL} {v:Value} (h:FStar r PS r' PS'):∀{D:Nat→Nat→Prop},Rel F e D PS w→VRel (Mut F D) e w r v→∃D2,Rel F e D2 PS' w∧Tr e D w e D2 w∧VRel (Mut F D2) e w r' v:=by
  induction h with
  | refl r PS=>intro D hr hv;exact⟨D,hr,.refl e D w,hv⟩
  | step hq hx hc _ ih=>
    intro D hr hv
    obtain⟨D2,h1,h2,h3⟩:=hr.frz hq hc
    obtain⟨D3,h4,h5,h6⟩:=ih h1 (h3 _ _ _ hx hv)
    exact⟨D3,h4,h2.trans h5,h6⟩
theorem HCall.frzs {P:Program} {f:FuncId} {args:List HV} {PS:PL} {K:HV→PL→Prop} (h:HCall P f args PS fun r PS'=>∃r' PS2,FStar r PS' r' PS2∧K r' PS2):HCall P f args PS K:=by
  intro F e D w vs hr hf
  refine(h F e D w vs hr hf).mono ?_
  rintro en w' ⟨v,x,PS',e',D',rfl,⟨r',PS2,hs,hk⟩,hr',ht,hv⟩
  obtain⟨D2,h1,h2,h3⟩:=hr'.fstar hs hv
  exact⟨v,r',PS2,e',D2,rfl,hk,h1,ht.trans h2,h3⟩
noncomputable def slps:Nat→HV→List Nat→List Nat
  | _+1,.sl n _ _ _ _,acc=>bif lHas acc n then acc else n::acc
  | k+1,.agg l,acc=>l.foldr (fun x acc=>slps k x acc) acc
  | k+1,.tup l,acc=>l.foldr (fun x acc=>slps k x acc) acc
  | _,_,acc=>acc
noncomputable def fz (n ver:Nat) (E:List (List HV)) (len0:Nat):Nat→HV→HV
  | _+1,.sl n' ver' i len c=>bif Nat.beq n' n&&Nat.beq ver' ver&&Nat.ble (i+len) len0 then .imm false (rTake len (rDrop i E)) else .sl n' ver' i len c
  | k+1,.agg l=>.agg (l.map (fz n ver E len0 k))
  | k+1,.tup l=>.tup (l.map (fz n ver E len0 k))
  | _,x=>x
theorem fz_h (n ver:Nat) (E:List (List HV)):∀(k:Nat) (x:HV),FrzV n ver E x (fz n ver E E.length k x)
  | 0,x=>by unfold fz;exact .same x
  | k+1,x=>by
    cases x with
    | sl n' ver' i len c=>
      unfold fz
      cases hb:Nat.beq n' n&&Nat.beq ver' ver&&Nat.ble (i+len) E.length
      · exact .same _
      · simp only[Bool.and_eq_true,beq_eq',ble_le] at hb
        obtain⟨⟨rfl,rfl⟩,hle⟩:=hb
        simp only[cond_true,rTake_eq,rDrop_eq]
        exact .sl i len c hle
    | agg l=>
      unfold fz
      refine .agg _ _ (by simp) fun i x y hx hy=>?_
      rw[List.getElem?_map,hx] at hy;cases hy
      exact fz_h n ver E k x
    | tup l=>
      unfold fz
      refine .tup _ _ (by simp) fun i x y hx hy=>?_
      rw[List.getElem?_map,hx] at hy;cases hy
      exact fz_h n ver E k x
    | _=>unfold fz;exact .same _
noncomputable def fzAll (n0:Nat):List Nat→HV→Mem→Option RM
  | [],v,m=>some (v,m)
  | n::l,v,m=>bif Nat.blt n n0 then fzAll n0 l v m else match m.get n with
    | .arr ver _ E _=>fN (rLen E) fun len0=>fH (fz n ver E len0 5 v) fun v=>m.set n .dead fun m'=>fzAll n0 l v m'
    | _=>none
theorem fzAll_h (n0:Nat):∀(l:List Nat) (v:HV) (m:Mem) (r:RM),fzAll n0 l v m=some r→FStar v m.pl r.1 r.2.pl
  | [],v,m,r,h=>by cases h;exact .refl _ _
  | n::l,v,m,r,h=>by
    unfold fzAll at h
    cases hb:Nat.blt n n0
    · rw[hb] at h
      simp only[cond_false] at h
      split at h
      · rename_i ver sz E o hg
        simp only[fN_eq,fH_eq,rLen_eq] at h
        obtain⟨m2,h1,h2⟩:=Mem.set_some h
        have:=fzAll_h n0 l _ m2 r h2
        rw[h1] at this
        have hg':getP m.pl n=.arr ver sz E o:=by rw[Mem.get_eq];exact hg
        exact .step hg' (fz_h n ver E 5 v) (FrzPS.only (getP_lt hg')) this
      · cases h
    · rw[hb] at h
      exact fzAll_h n0 l v m r h
/-- It names pieces below k alone. -/
noncomputable def scB (k:Nat):Nat→HV→Bool
  | _+1,.bool _=>true
  | _+1,.int _ _=>true
  | _+1,.str _=>true
  | _+1,.tok _ _=>true
  | _+1,.stok _=>true
  | _+1,.nam _=>true
  | _+1,.anyb=>true
  | _+1,.any _ _ _=>true
  | _+1,.cst _=>true
  | _+1,.ptr n _ _ _=>Nat.blt n k
  | _+1,.sl n _ _ _ _=>Nat.blt n k
  | j+1,.imm _ E=>E.all fun r=>r.all (scB k j)
  | j+1,.agg l=>l.all (scB k j)
  | j+1,.tup l=>l.all (scB k j)
  | _,_=>false
theorem scB_h (k:Nat):∀(j:Nat) (x:HV),scB k j x=true→Scoped k x
  | 0,x,h=>by simp[scB] at h
  | j+1,x,h=>by
    cases x with
    | bool b=>exact .bool b
    | int a n=>exact .int a n
    | str s=>exact .str s
    | tok a i=>exact .tok a i
    | stok i=>exact .stok i
    | nam i=>exact .nam i
    | anyb=>exact .anyb
    | any a q r=>exact .any a q r
    | cst v=>exact .cst v
    | ptr n v i c=>exact .ptr n v i c (blt_lt.1 h)
    | sl n v i l c=>exact .sl n v i l c (blt_lt.1 h)
    | imm t E=>
      rw[scoped_imm]
      intro l hl x hx
      exact scB_h k j x (List.all_eq_true.1 (List.all_eq_true.1 h l hl) x hx)
    | agg l=>rw[scoped_agg];intro x hx;exact scB_h k j x (List.all_eq_true.1 h x hx)
    | tup l=>rw[scoped_tup];intro x hx;exact scB_h k j x (List.all_eq_true.1 h x hx)
    | _=>simp[scB] at h
noncomputable def vBq (x y:HV):Bool:=
  match x,y with
  | .cst (.func (.func f) ⟨[]⟩ ⟨[]⟩),.cst (.func (.func g) ⟨[]⟩ ⟨[]⟩)=>Nat.beq f g
  | .cst (.tuple ⟨[]⟩),.cst (.tuple ⟨[]⟩)=>true
  | x,y=>vBeq 9 x y
theorem vBq_eq (x y:HV) (h:vBq x y=true):x=y:=by
  unfold vBq at h
  split at h
  · rw[beq_eq'.1 h]
  · rfl
  · exact vBeq_eq _ _ _ h
noncomputable def pBq (p q:Piece):Bool:=
  match p,q with
  | .arr v s E o,.arr v' s' E' o'=>Nat.beq v v'&&Nat.beq s s'&&(o == o')&&lBeq (lBeq vBq) E E'
  | p,q=>pBeq p q
theorem pBq_eq (p q:Piece) (h:pBq p q=true):p=q:=by
  unfold pBq at h
  split at h
  · simp only[Bool.and_eq_true,beq_eq'] at h
    obtain⟨⟨⟨rfl,rfl⟩,h⟩,h2⟩:=h
    rw[bBeq_eq h,lBeq_eq _ _ (fun a b=>lBeq_eq a b vBq_eq) h2]
  · exact pBeq_eq _ _ h
/-- The pieces below k are as they were. -/
noncomputable def oldSame (m m':Mem):Nat→Bool
  | 0=>true
  | k+1=>bif pBq (m'.get k) (m.get k) then oldSame m m' k else false
theorem oldSame_h {m m':Mem}:∀(k:Nat),oldSame m m' k=true→∀n,n<k→getP m'.pl n=getP m.pl n
  | 0,_,n,hn=>by omega
  | k+1,h,n,hn=>by
    unfold oldSame at h
    cases hb:pBq (m'.get k) (m.get k)
    · rw[hb] at h;cases h
    · rw[hb] at h
      rcases Nat.lt_or_ge n k with h' | h'
      · exact oldSame_h k h n h'
      · have:n=k:=by omega
        subst this
        rw[Mem.get_eq,Mem.get_eq];exact pBq_eq _ _ hb
noncomputable def datOne (m:Mem) (r:RM):Option HV:=
  fL (slps 5 r.1 []) fun ps=>bnd (fzAll m.n ps r.1 r.2) fun q=>on (Nat.ble m.n q.2.n&&scB m.n 9 q.1&&oldSame m q.2 m.n) (some q.1)
theorem datOne_h {m:Mem} {r:RM} {v:HV} (h:datOne m r=some v):∃PS2,FStar r.1 r.2.pl v PS2∧Scoped m.pl.length v∧Ext [] m.pl PS2:=by
  simp only[datOne,fL_eq,bnd_some,on_some,Bool.and_eq_true,ble_le] at h
  obtain⟨q,h1,⟨⟨h2,h3⟩,h4⟩,h5⟩:=h
  cases h5
  refine⟨q.2.pl,fzAll_h _ _ _ _ _ h1,?_,?_,fun n hn _=>?_⟩
  · rw[Mem.len];exact scB_h _ _ _ h3
  · rw[Mem.len,Mem.len];exact h2
  · rw[Mem.len] at hn;exact oldSame_h _ h4 n hn
noncomputable def dat (m:Mem) (L:List RM):Option (List RM):=
  match L with
  | []=>none
  | r::l=>bnd (datOne m r) fun v=>on (rAll (fun q=>match datOne m q with | some v'=>vBeq 9 v v' | none=>false) l) (some [(v,m)])
theorem dat_h {P:Program} {g:FuncId} {args:List HV} {m:Mem} {L L':List RM} (h:dat m L=some L') (hc:HCall P g args m.pl fun v PS=>∃x∈L,v=x.1∧PS=x.2.pl):HCall P g args m.pl fun v PS=>∃x∈L',v=x.1∧PS=x.2.pl:=by
  unfold dat at h
  split at h
  · cases h
  · rename_i r l
    rw[bnd_some] at h
    obtain⟨v,h1,h2⟩:=h
    rw[on_some] at h2
    obtain⟨h3,h4⟩:=h2
    cases h4
    have hall:∀x∈r::l,datOne m x=some v:=by
      intro x hx
      rcases List.mem_cons.1 hx with rfl | hx
      · exact h1
      · rw[rAll_eq] at h3
        have:=List.all_eq_true.1 h3 x hx
        split at this
        · rename_i v' hv'
          rw[hv',vBeq_eq _ _ _ this]
        · cases this
    obtain⟨_,_,hsc,_⟩:=datOne_h h1
    refine(HCall.data hsc (HCall.frzs (hc.mono ?_))).mono ?_
    · rintro y PS ⟨x,hx,rfl,rfl⟩
      obtain⟨PS2,h5,_,h6⟩:=datOne_h (hall x hx)
      exact⟨v,PS2,h5,rfl,h6⟩
    · rintro y PS ⟨rfl,rfl⟩
      exact⟨_,List.mem_singleton.2 rfl,rfl,rfl⟩
noncomputable def orcBut (g:FuncId) (orc:EC):EC:=fun g' args m=>bif Nat.beq g' g then none else orc g' args m
theorem orcBut_ok {P:Program} {g:FuncId} {orc:EC} (h:ECOk P orc):ECOk P (orcBut g orc):=by
  intro g' args m L hL
  unfold orcBut at hL
  cases hb:Nat.beq g' g
  · rw[hb] at hL;exact h g' args m L hL
  · rw[hb] at hL;cases hL
/-- Calls that only read,run and told as data,so deep. -/
noncomputable def orcD (P:Program) (orc:EC) (cov:FuncId→Bool) (pl:FuncId→Nat→Plan) (fuel d:Nat) (ds:FuncId→Bool) (k:Nat):EC:=
  Nat.rec (motive:=fun _=>EC) orc (fun _ ih g args m=>aOr (orc g args m) (bif ds g then bnd (acall P (orcBut g ih) cov pl fuel d g args m) (dat m) else none)) k
theorem orcD_ok {P:Program} {orc:EC} {cov:FuncId→Bool} {pl:FuncId→Nat→Plan} {fuel d:Nat} {ds:FuncId→Bool} (hm:P.follows .mixedOrders=true) (ho:ECOk P orc) (hc:Covers P cov pl):∀k:Nat,ECOk P (orcD P orc cov pl fuel d ds k)
  | 0=>ho
  | k+1=>by
    intro g args m L h
    have h:aOr (orc g args m) (bif ds g then bnd (acall P (orcBut g (orcD P orc cov pl fuel d ds k)) cov pl fuel d g args m) (dat m) else none)=some L:=h
    cases h1:orc g args m with
    | some r=>
      rw[h1] at h
      have h:some r=some L:=h
      cases h
      exact ho g args m _ h1
    | none=>
      rw[h1] at h
      have h:(bif ds g then bnd (acall P (orcBut g (orcD P orc cov pl fuel d ds k)) cov pl fuel d g args m) (dat m) else none)=some L:=h
      cases hb:ds g
      · rw[hb] at h;cases h
      · rw[hb] at h
        have h:bnd (acall P (orcBut g (orcD P orc cov pl fuel d ds k)) cov pl fuel d g args m) (dat m)=some L:=h
        rw[bnd_some] at h
        obtain⟨L1,h2,h3⟩:=h
        exact dat_h h3 (acall_h hm (orcBut_ok (orcD_ok hm ho hc k)) hc d g args m L1 h2)
end Go.Eng
