/-
What the runs of RoomLevels ask for, holds.
What the runs of RoomLevels ask for, holds: each call by its contract.
No conditions.
-/
import Derived.Test.YtgglehcchdkbdaaGreatQRlA
import Derived.Test.YtgglehcchdkbdaaGreatQHm4
import Derived.Test.YtgglehcchdkbdaaGreatQHm5
set_option linter.unusedSectionVars false
set_option linter.unusedSimpArgs false
set_option linter.unusedVariables false
namespace Go.Mo
open Go Go.Eng
theorem flat_rows {E:List (List HV)} (h:∀r∈E,∀x∈r,∃k n,x=HV.int k n):Flat (.imm false E):=by
  refine .imm _ _ fun i r k x hi hk=>?_
  obtain⟨j,n,rfl⟩:=h r (List.mem_of_getElem? hi) x (List.mem_of_getElem? hk)
  exact .int _ _
theorem u8s_ints (b:Bs):∀x∈u8s b,∃k n,x=HV.int k n:=fun x hx=>by
  obtain⟨y,_,rfl⟩:=List.mem_map.1 hx;exact⟨_,_,rfl⟩
theorem key_ints (b:Bs):∀x∈keyL b,∃k n,x=HV.int k n:=fun x hx=>by
  rcases List.mem_cons.1 hx with rfl | hx
  · exact⟨_,_,rfl⟩
  · exact u8s_ints _ x hx
theorem val_ints (b:Bs):∀x∈valL b,∃k n,x=HV.int k n:=fun x hx=>by
  rcases List.mem_cons.1 hx with rfl | hx
  · exact⟨_,_,rfl⟩
  · exact u8s_ints _ x hx
theorem ent_ints (e:Bs×Bs):∀x∈entL e,∃k n,x=HV.int k n:=fun x hx=>by
  rcases List.mem_append.1 hx with hx | hx
  · exact key_ints _ x hx
  · exact val_ints _ x hx
theorem msg_ints (m:Ms):∀x∈msgL m,∃k n,x=HV.int k n:=fun x hx=>by
  rcases List.mem_cons.1 hx with rfl | hx
  · exact⟨_,_,rfl⟩
  rcases List.mem_cons.1 hx with rfl | hx
  · exact⟨_,_,rfl⟩
  rcases List.mem_append.1 hx with hx | hx
  · exact key_ints _ x hx
  rcases List.mem_append.1 hx with hx | hx
  · exact val_ints _ x hx
  · simp at hx;exact⟨_,_,hx⟩
theorem kid_ints (i:Int):∀x∈kidL i,∃k n,x=HV.int k n:=fun x hx=>by simp[kidL] at hx;exact⟨_,_,hx⟩
theorem map_ints {α:Type} (f:α→List HV) (h:∀a,∀x∈f a,∃k n,x=HV.int k n) (l:List α):∀r∈l.map f,∀x∈r,∃k n,x=HV.int k n:=fun r hr x hx=>by
  obtain⟨a,_,rfl⟩:=List.mem_map.1 hr;exact h a x hx
end Go.Mo
namespace Go.Proofs.YtgglehcchdkbdaaGreat
open Go Go.Eng Go.Ow
open Go.Mo
set_option maxRecDepth 100000
noncomputable def allW (es:List Int):List (Bs×Bs):=entsOf 700 (es.take 80)
def pvI:List Bs:=[[98],[99],[100]]
noncomputable def partW (es:List Int) (i:Nat):List (Bs×Bs):=heldOf (allW es) pvI i
noncomputable def lfW (es:List Int) (i:Nat):List (Bs×Bs):=fitGo 0 (partW es i)
noncomputable def msW (ls:List Int):List Ms:=msgsOf 205 ((hvI++ls).take 60)
noncomputable def cutW (ls:List Int):Nat:=mbelow (msW ls) [99]
noncomputable def loW (ls:List Int):List Ms:=(msW ls).take (cutW ls)
noncomputable def hiW (ls:List Int):List Ms:=(msW ls).drop (cutW ls)
def r4I:List Int:=[24,16,8,32]
noncomputable def rlR (ps es ls:List Int) (n:Nat):List (List HV):=
  match n with
  | 1=>ps.map kidL
  | 2=>r4W++ps.map kidL
  | 3=>r16W++(r4W++ps.map kidL)
  | 4=>ls.map kidL
  | 5=>(hvI++ls).map kidL
  | 6=>es.map kidL
  | 7=>(allW es).map entL
  | 8=>(msW ls).map msgL
  | 10=>(partW es 0).map entL
  | 11=>(partW es 1).map entL
  | 12=>(partW es 2).map entL
  | 13=>(partW es 3).map entL
  | 20=>(lfW es 0).map entL
  | 21=>(lfW es 1).map entL
  | 22=>(lfW es 2).map entL
  | 23=>(lfW es 3).map entL
  | 36=>(loW ls).map msgL
  | 37=>(hiW ls).map msgL
  | _=>[]
def byteAt (b:Bs) (j:Nat):Int:=((b.getD j 0).toNat:Nat)
noncomputable def rlN (v:Int) (n:Nat):Int:=if n=40 then v else if n=52 then (gk v).length else if 53≤n then byteAt (pad 8 (gk v)) (n - 53) else 0
theorem allW_ok (es:List Int):EntsOk 700 80 (allW es):=by
  letI:Toks:=Toks.of (fun _=>0) (fun _=>[])
  have h:=entsOf_ok 700 (es.take 80)
  have h80:(es.take 80).length≤80:=List.length_take_le ..
  exact⟨h.ok,h.up,h.by_,Nat.le_trans h.few h80⟩
theorem msW_ok (ls:List Int):MsOk 205 60 (msW ls):=by
  letI:Toks:=Toks.of (fun _=>0) (fun _=>[])
  have h:=msgsOf_ok 205 ((hvI++ls).take 60)
  exact⟨h.ok,h.up,h.by_,Nat.le_trans h.few (List.length_take_le ..)⟩
noncomputable def leafN (es:List Int) (i:Nat):Nd:=⟨true,lfW es i,[],[],[]⟩
def inN (K:List Int) (P:List Bs) (M:List Ms):Nd:=⟨false,[],K,P,M⟩
theorem leafN_ok (es:List Int) (i:Nat):okN (leafN es i)∧nodFits (leafN es i):=by
  letI:Toks:=Toks.of (fun _=>0) (fun _=>[])
  have h:=allW_ok es
  refine part_ok h.up h.ok h.few ((fitGo_sub _ _).trans (List.filter_sublist ..)) ?_
  have:=fitGo_bytes 0 (partW es i) (by omega)
  exact this
theorem sub_bytes {l r:List Ms} (h:l.Sublist r):msgsBytes l≤msgsBytes r:=by
  unfold msgsBytes
  induction h with
  | slnil=>exact Nat.le_refl _
  | cons a _ ih=>rw[List.map_cons,List.sum_cons];omega
  | cons_cons a _ ih=>rw[List.map_cons,List.sum_cons,List.map_cons,List.sum_cons];omega
theorem inN_ok (ls:List Int) (K:List Int) (P:List Bs) (M:List Ms) (hM:M.Sublist (msW ls)) (hK:kidsOk K P) (hP:∀k∈P,okK k) (hk:K.length≤4) (hp:P.length≤3):okN (inN K P M)∧nodFits (inN K P M):=by
  letI:Toks:=Toks.of (fun _=>0) (fun _=>[])
  have h:=msW_ok ls
  have hl:=hM.length_le
  have hf:=h.few
  refine⟨⟨by simp[inN],hP,fun m hm=>(h.ok m (hM.subset hm)).1,⟨by simp[inN],by simp[inN];omega,by simp[inN];omega,by simp[inN];omega⟩⟩,?_,?_⟩
  · unfold nodOk inN
    rw[if_neg (by simp)]
    exact⟨rfl,hK,fun m hm=>(h.ok m (hM.subset hm)).2,risesM_rising (List.Pairwise.sublist hM h.up)⟩
  · simp only[inN,nodBytes,Bool.false_eq_true,if_false]
    exact Nat.le_trans (sub_bytes hM) h.by_
theorem rl_in (ps es ls:List Int) (h0:ps≠[]) (hl:ps.length≤17592186044400):RlIn (rlR ps es ls) where
  r2:=rfl
  r3:=rfl
  n1:=by simpa [rlR] using h0
  s1:=fun r hr=>by
    obtain⟨a,_,rfl⟩:=List.mem_map.1 hr;rfl
  l1:=by simpa [rlR] using hl
  fl:=fun i=>by
    refine flat_rows ?_
    have lit:∀l:List Int,∀r∈l.map kidL,∀x∈r,∃k n,x=HV.int k n:=fun l=>map_ints _ kid_ints _
    unfold rlR
    split
    · exact lit _
    · have:=lit (r4I++ps);rwa [List.map_append] at this
    · have:=lit (16::(r4I++ps));rw[List.map_cons,List.map_append] at this;exact this
    · exact lit _
    · exact lit _
    · exact lit _
    · exact map_ints _ ent_ints _
    · exact map_ints _ msg_ints _
    · exact map_ints _ ent_ints _
    · exact map_ints _ ent_ints _
    · exact map_ints _ ent_ints _
    · exact map_ints _ ent_ints _
    · exact map_ints _ ent_ints _
    · exact map_ints _ ent_ints _
    · exact map_ints _ ent_ints _
    · exact map_ints _ ent_ints _
    · exact map_ints _ msg_ints _
    · exact map_ints _ msg_ints _
    · intro r hr;cases hr
end Go.Proofs.YtgglehcchdkbdaaGreat
namespace Go.Eng
open Go Go.Mo
variable [Toks]
def toksL:Nat→Nat→List HV
  | _,0=>[]
  | off,n+1=>.tok .u8 off::toksL (off+1) n
theorem subTok:∀(l:Bs) (off:Nat),(∀i,i<l.length→Toks.num (off+i)=((l.getD i 0).toNat:Int))→SubL (u8s l) (toksL off l.length)∧SubL (toksL off l.length) (u8s l)
  | [],_,_=>⟨trivial,trivial⟩
  | b::l,off,h=>by
    have h0:Toks.num off=(b.toNat:Int):=h 0 (by simp)
    obtain⟨h1,h2⟩:=subTok l (off+1) fun i hi=>by
      have:=h (i+1) (by simpa using hi)
      rw[show off+1+i=off+(i+1) by omega,this]
      simp
    exact⟨⟨Sub.tok h0,h1⟩,⟨Sub.untok h0,h2⟩⟩
end Go.Eng
namespace Go.Proofs.YtgglehcchdkbdaaGreat
open Go Go.Eng Go.Ow
open Go.Mo
set_option maxRecDepth 100000
theorem fcons {α:Type} {p:α→Prop} {a:α} {l:List α} (h:p a) (k:∀x∈l,p x):∀x∈a::l,p x:=List.forall_mem_cons.2 ⟨h,k⟩
theorem fnil {α:Type} {p:α→Prop}:∀x∈([]:List α),p x:=fun _ h=>by cases h
theorem one_le (x c:UInt8) (r:Bs):cmpB [x] (c::r)≤0↔x.toNat≤c.toNat:=by
  have h:cmpB [x] (c::r)=if x<c then -1 else if c<x then 1 else cmpB [] r:=by simp[cmpB,Lib.compareBytes]
  have h0:cmpB [] r≤0:=by cases r<;>simp[cmpB,Lib.compareBytes]
  rw[h]
  simp only[UInt8.lt_iff_toNat_lt]
  split
  · omega
  · split<;>omega
/-- Where the key goes. -/
theorem kid_cases (k:Bs):(kidOf pvI k=0∧kidOf [[99]] k=0∧kidOf [[98]] k=0∧kidOf [[100]] k=0)∨(kidOf pvI k=1∧kidOf [[99]] k=0∧kidOf [[98]] k=1∧kidOf [[100]] k=0)∨
    (kidOf pvI k=2∧kidOf [[99]] k=1∧kidOf [[98]] k=1∧kidOf [[100]] k=0)∨(kidOf pvI k=3∧kidOf [[99]] k=1∧kidOf [[98]] k=1∧kidOf [[100]] k=1):=by
  have e:∀x,kidOf [[x]] k=if cmpB [x] k≤0 then 1 else 0:=fun x=>by
    unfold kidOf
    by_cases h:cmpB [x] k≤0<;>simp[h]
  have e3:kidOf pvI k=(if cmpB [98] k≤0 then 1 else 0)+(if cmpB [99] k≤0 then 1 else 0)+(if cmpB [100] k≤0 then 1 else 0):=by
    unfold kidOf pvI
    by_cases h1:cmpB [98] k≤0<;>by_cases h2:cmpB [99] k≤0<;>by_cases h3:cmpB [100] k≤0<;>simp[h1,h2,h3]
  rw[e3,e,e,e]
  cases k with
  | nil=>exact .inl (by simp[cmpB,Lib.compareBytes])
  | cons c r=>
    simp only[one_le,show (98:UInt8).toNat=98 from rfl,show (99:UInt8).toNat=99 from rfl,show (100:UInt8).toNat=100 from rfl]
    by_cases h1:98≤c.toNat
    · by_cases h2:99≤c.toNat
      · by_cases h3:100≤c.toNat
        · simp[h1,h2,h3]
        · simp[h1,h2,h3]
      · simp[h1,h2,show ¬100≤c.toNat by omega]
    · simp[h1,show ¬99≤c.toNat by omega,show ¬100≤c.toNat by omega]
theorem pv_ok:PvOk 3 pvI:=by
  letI:Toks:=Toks.of (fun _=>0) (fun _=>[])
  have:=pivOf_ok (16::24::16::8::32::[])
  rwa [pivOf_abc] at this
theorem kids_is (K:List Int) (P:List Bs) (h2:2≤K.length) (h4:K.length≤4) (h:P.length+1=K.length) (hu:rising P) (hi:(K.zipIdx.all fun p=>decide (1≤p.1)&&decide (p.1<256)&& !(K.take p.2).contains p.1)=true):kidsOk K P:=by
  refine⟨h2,h4,h,fun i x hx=>?_,hu⟩
  have:=List.all_eq_true.1 hi (x,i) (List.mk_mem_zipIdx_iff_getElem?.2 hx)
  simp only[Bool.and_eq_true,decide_eq_true_eq,Bool.not_eq_true',List.contains_eq_mem,decide_eq_false_iff_not] at this
  refine⟨this.1.1,this.1.2,fun j hj hx2=>this.2 ?_⟩
  refine List.mem_of_getElem? (i:=j) ?_
  rw[List.getElem?_take,if_pos hj];exact hx2
theorem rl_ok (ps es ls:List Int) (v:Int) (h0:ps≠[]) (hl:ps.length≤17592186044400) (hls:ls.length≤17592186044400) (j a b c:Nat) (hj:kidOf pvI (gk v)=j) (ha:kidOf [[99]] (gk v)=a) (hb:kidOf [[98]] (gk v)=b) (hc:kidOf [[100]] (gk v)=c):
    @RlOk (rlT (rlR ps es ls) (rlN v) (rl_in ps es ls h0 hl)) j a b c:=by
  letI T:Toks:=rlT (rlR ps es ls) (rlN v) (rl_in ps es ls h0 hl)
  have un:∀i (E:List (List HV)),rlR ps es ls i=E→Sub (.nam i) (.imm false E):=fun i E h=>Sub.unnam rfl h
  have na:∀i t (E:List (List HV)),rlR ps es ls i=E→Sub (.imm t E) (.nam i):=fun i t E h=>Sub.lnam rfl h
  have hkl:(pad 8 (gk v)).length=8:=pad_len 8 _
  have sK:=subTok (pad 8 (gk v)) 53 fun i hi=>by
    show rlN v (53+i)=_
    unfold rlN byteAt
    rw[if_neg (by omega),if_neg (by omega),if_pos (by omega),Nat.add_sub_cancel_left]
  rw[hkl] at sK
  have n40:Toks.num 40=v:=rfl
  have n52:Toks.num 52=((gk v).length:Int):=rfl
  have kS:SubL (keyL (gk v)) keyW∧SubL keyW (keyL (gk v)):=⟨⟨Sub.tok n52,sK.1⟩,⟨Sub.untok n52,sK.2⟩⟩
  have hko:=gk_ok v
  have clE:∀i n,rlR ps es ls i=(lfW es n).map entL→Pure Tryz.prog 131 [.nam i] (.nam i):=fun i n h=>by
    have o:=(leafN_ok es n).1
    have hf:(lfW es n).length≤1000:=o.few.1
    have h1:Pure Tryz.prog 131 [.imm false ((lfW es n).map entL)] (.imm false ((lfW es n).map entL)):=fun PS=>HCall.copy (fun r hr y hy=>by
      obtain⟨a,_,rfl⟩:=List.mem_map.1 hr;exact sc_ent a y hy) (cl_ent_imm PS false _ (fun r hr=>by obtain⟨a,_,rfl⟩:=List.mem_map.1 hr;exact entL_len a) (by simp[hroom];omega))
    exact Pure.res (Pure.sub h1 ⟨un i _ h,trivial⟩) (na i _ _ h)
  have mo:=msW_ok ls
  have clM:∀(i:Nat) (M:List Ms),M.Sublist (msW ls)→rlR ps es ls i=M.map msgL→Pure Tryz.prog 134 [.nam i] (.nam i):=fun i M hM h=>by
    have hf:M.length≤60:=Nat.le_trans hM.length_le mo.few
    have h1:Pure Tryz.prog 134 [.imm false (M.map msgL)] (.imm false (M.map msgL)):=fun PS=>HCall.copy (fun r hr y hy=>by
      obtain⟨a,_,rfl⟩:=List.mem_map.1 hr;exact sc_msg a y hy) (cl_msg_imm PS false _ (fun r hr=>by obtain⟨a,_,rfl⟩:=List.mem_map.1 hr;exact msgL_len a) (by simp[hroom];omega))
    exact Pure.res (Pure.sub h1 ⟨un i _ h,trivial⟩) (na i _ _ h)
  have s8:(msW ls).Sublist (msW ls):=List.Sublist.refl _
  have s36:(loW ls).Sublist (msW ls):=List.take_sublist ..
  have s37:(hiW ls).Sublist (msW ls):=List.drop_sublist ..
  have leafS:∀i n,rlR ps es ls i=(lfW es n).map entL→Sub (leafW i) (.agg (nodL ⟨false,false,false,false⟩ (leafN es n))):=fun i n h=>Sub.agg ⟨Sub.refl _,un i _ h,Sub.refl _,Sub.refl _,Sub.refl _,trivial⟩
  have inS:∀(K:List Int) (P:List Bs) (M:List Ms) (K' P':List (List HV)) (m:HV),K.map kidL=K'→P.map keyL=P'→Sub m (.imm false (M.map msgL))→Sub (inW K' P' m) (.agg (nodL ⟨false,false,false,false⟩ (inN K P M))):=fun K P M K' P' m h1 h2 h3=>by
    subst h1;subst h2
    exact Sub.agg ⟨Sub.refl _,Sub.refl _,Sub.refl _,Sub.refl _,h3,trivial⟩
  have pe:∀b:UInt8,[([b]:Bs)].map keyL=pv1W b.toNat:=fun b=>rfl
  have oT:=inN_ok ls [1,2,3,4] pvI _ s8 (kids_is _ _ (by decide) (by decide) rfl (risesK_rising pv_ok.up) (by decide)) pv_ok.ok (by decide) (by decide)
  have one:∀b:UInt8,okK [b]:=fun b=>by unfold okK;simp
  have up1:∀b:UInt8,rising [([b]:Bs)]:=fun b i x y hi hx hy=>by
    have:=(List.getElem?_eq_some_iff.1 hy).1
    simp at this;omega
  have oX:=inN_ok ls [1,2] [[98]] _ s36 (kids_is _ _ (by decide) (by decide) rfl (up1 98) (by decide)) (by simp[one]) (by decide) (by decide)
  have oY:=inN_ok ls [3,4] [[100]] _ s37 (kids_is _ _ (by decide) (by decide) rfl (up1 100) (by decide)) (by simp[one]) (by decide) (by decide)
  have oN:=inN_ok ls [5,6] [[99]] [] (List.nil_sublist _) (kids_is _ _ (by decide) (by decide) rfl (up1 99) (by decide)) (by simp[one]) (by decide) (by decide)
  have topS:=inS [1,2,3,4] pvI (msW ls) kids4W pv3W (.nam 8) rfl rfl (un 8 _ rfl)
  have fits:∀g,(∀(t:Fl) (n:Nd),okN n→nodFits n→Pure Tryz.prog g [.agg (nodL t n)] (.bool true))→∀y∈tFts,Pure Tryz.prog g y.1 y.2:=fun g hg=>by
    have leaf:∀i n,rlR ps es ls i=(lfW es n).map entL→Pure Tryz.prog g [leafW i] (.bool true):=fun i n h=>Pure.sub (hg _ _ (leafN_ok es n).1 (leafN_ok es n).2) ⟨leafS i n h,trivial⟩
    unfold tFts
    exact fcons (leaf 20 0 rfl) (fcons (leaf 21 1 rfl) (fcons (leaf 22 2 rfl) (fcons (leaf 23 3 rfl) (fcons (Pure.sub (hg _ _ oT.1 oT.2) ⟨topS,trivial⟩)
      (fcons (Pure.sub (hg _ _ oX.1 oX.2) ⟨inS [1,2] [[98]] (loW ls) _ _ (.nam 36) rfl rfl (un 36 _ rfl),trivial⟩) (fcons (Pure.sub (hg _ _ oY.1 oY.2) ⟨inS [3,4] [[100]] (hiW ls) _ _ (.nam 37) rfl rfl (un 37 _ rfl),trivial⟩)
      (fcons (Pure.sub (hg _ _ oN.1 oN.2) ⟨inS [5,6] [[99]] [] _ _ nilW rfl rfl (Sub.refl _),trivial⟩) fnil)))))))
  have oA:=allW_ok es
  unfold RlOk tabRl
  refine fcons ?_ (fcons ?_ (fcons ?_ (fcons ?_ (fcons ?_ (fcons ?_ (fcons ?_ (fcons ?_ (fcons ?_ (fcons ?_ (fcons ?_ (fcons ?_ (fcons ?_ (fcons ?_ (fcons ?_ (fcons ?_ (fcons ?_ (fcons ?_ (fcons ?_ fnil))))))))))))))))))
  · unfold tClE
    exact fcons (clE 20 0 rfl) (fcons (clE 21 1 rfl) (fcons (clE 22 2 rfl) (fcons (clE 23 3 rfl) fnil)))
  · unfold tClM
    exact fcons (clM 8 _ s8 rfl) (fcons (clM 36 _ s36 rfl) (fcons (clM 37 _ s37 rfl) fnil))
  · exact fits _ fun t n o f=>by have:=node_fits t n o;rwa [tt_true f] at this
  · exact fits _ fun t n o f=>by have:=rnode_fits t n o;rwa [tt_true f] at this
  · unfold tEnc
    exact fcons (encW enc_run) fnil
  · unfold tDec
    exact fcons (decW dec_run) fnil
  · unfold tEnc
    exact fcons (encW renc_run) fnil
  · unfold tDec
    exact fcons (decW rdec_run) fnil
  · unfold tPiv
    have e:∀t l,Pure Tryz.prog 93 [.imm t ((16::24::16::8::32::l:List Int).map kidL),.int .i64 3] (.imm false pv3W):=fun t l=>by
      have:=gen_pivots t (16::24::16::8::32::l)
      rw[show (16::24::16::8::32::l).take 20=16::24::16::8::32::l.take 15 from rfl,pivOf_abc] at this
      exact Pure.res this (Sub.less _ _)
    refine fcons (Pure.sub (e false ps) ⟨un 3 _ rfl,Sub.refl _,trivial⟩) (fcons (e false []) (fcons ?_ fnil))
    have:=gen_pivots false [16]
    rw[show ([16]:List Int).take 20=[16] from rfl,pivOf_one,gk16] at this
    exact Pure.res this (Sub.less _ _)
  · unfold tHvy
    exact fcons (Pure.res (Pure.sub (gen_heavy false ls hls) ⟨un 4 _ rfl,trivial⟩) (na 5 _ _ rfl)) fnil
  · unfold tMsg
    refine fcons (Pure.res (Pure.sub (gen_msgs false (hvI++ls) 205 (by decide)) ⟨un 5 _ rfl,Sub.refl _,trivial⟩) (na 8 _ _ rfl)) (fcons ?_ fnil)
    exact Pure.res (gen_msgs false [] 205 (by decide)) (Sub.less _ _)
  · unfold tEnt
    exact fcons (Pure.res (Pure.sub (gen_ents false es 700 (by decide)) ⟨un 6 _ rfl,Sub.refl _,trivial⟩) (na 7 _ _ rfl)) fnil
  · unfold tHld
    have e:∀(i:Nat) (n:Nat),rlR ps es ls n=(partW es i).map entL→Pure Tryz.prog 50 [.nam 7,.imm false pv3W,.int .i64 i] (.nam n):=fun i n h=>
      Pure.res (Pure.sub (rheld false false (allW es) pvI i oA.ok pv_ok.ok (by decide) (by have:=oA.few;omega)) ⟨un 7 _ rfl,Sub.refl _,Sub.refl _,trivial⟩) (na n _ _ h)
    exact fcons (e 0 10 rfl) (fcons (e 1 11 rfl) (fcons (e 2 12 rfl) (fcons (e 3 13 rfl) fnil)))
  · unfold tFit
    have e:∀(i n m:Nat),rlR ps es ls n=(partW es i).map entL→rlR ps es ls m=(lfW es i).map entL→Pure Tryz.prog 52 [.nam n] (.nam m):=fun i n m h h'=>by
      have hs:(partW es i).Sublist (allW es):=List.filter_sublist ..
      exact Pure.res (Pure.sub (rfit false (partW es i) (fun e he=>oA.ok e (hs.subset he)) (by have:=oA.few;have:=hs.length_le;omega)) ⟨un n _ h,trivial⟩) (na m _ _ h')
    exact fcons (e 0 10 20 rfl rfl) (fcons (e 1 11 21 rfl rfl) (fcons (e 2 12 22 rfl rfl) (fcons (e 3 13 23 rfl rfl) fnil)))
  · unfold tKey
    exact fcons (Pure.res (Pure.sub (gk_gen v) ⟨Sub.untok n40,trivial⟩) (Sub.agg kS.1)) fnil
  · unfold tKid
    have e:∀(p:List Bs) (p':List (List HV)) (n:Nat),p.map keyL=p'→(∀q∈p,okK q)→p.length≤3→kidOf p (gk v)=n→Pure Tryz.prog 11 [.imm false p',.agg keyW] (iW n):=fun p p' n h1 h2 h3 h4=>by
      subst h1;subst h4
      exact Pure.sub (rkid false p (gk v) h2 hko (by omega)) ⟨Sub.refl _,Sub.agg kS.2,trivial⟩
    exact fcons (e pvI _ _ rfl pv_ok.ok (by decide) hj) (fcons (e [[99]] _ _ rfl (by simp[one]) (by decide) ha) (fcons (e [[98]] _ _ rfl (by simp[one]) (by decide) hb) (fcons (e [[100]] _ _ rfl (by simp[one]) (by decide) hc) fnil)))
  · unfold tHst
    exact fcons (Pure.sub (node_heaviest _ _ oT.1 rfl rfl mo.up) ⟨topS,trivial⟩) fnil
  · unfold tPrt
    have e:∀(i n:Nat) (M:List Ms),i≤1→rlR ps es ls n=M.map msgL→((msW ls).take (pTo (msW ls) [[99]] i)).drop (pFrom (msW ls) [[99]] i)=M→Pure Tryz.prog 254 [.nam 8,.imm false (pv1W (nat_lit 99)),.int .i64 i] (.nam n):=fun i n M hi h hm=>by
      have:=buf_part false false (msW ls) [[99]] i hi (by simp[one]) (by decide) (fun m hm=>(mo.ok m hm).1) (by have:=mo.few;omega) mo.up
      rw[hm] at this
      exact Pure.res (Pure.sub this ⟨un 8 _ rfl,Sub.refl _,Sub.refl _,trivial⟩) (na n _ _ h)
    exact fcons (e 0 36 (loW ls) (by decide) rfl rfl) (fcons (e 1 37 (hiW ls) (by decide) rfl (by
      show ((msW ls).take (msW ls).length).drop _=_
      rw[List.take_length];rfl)) fnil)
  · unfold tAwk
    exact fcons awake19 fnil
end Go.Proofs.YtgglehcchdkbdaaGreat
