/-
Nodes as blocks: what the document says of their bytes. No program in sight.
No conditions.
-/
import Derived.Test.YtdlfmajopcbllaaGreatQHm1
import Derived.Test.YtdlfmajopcbllaaGreatQRunI
import Derived.Test.YtdlfmajopcbllaaGreatQHm2
set_option linter.unusedSectionVars false
set_option linter.unusedSimpArgs false
set_option linter.unusedVariables false
namespace Go.Mo
open Go Go.Eng
variable [Toks]
def txt (s:Bs):Bs:=UInt8.ofNat s.length::s
def encEnt (e:Bs×Bs):Bs:=txt e.1++txt e.2
def encKid (x:Int):Bs:=putLE x.toNat 4
def encMsg (m:Ms):Bs:=UInt8.ofNat m.kind.toNat::(putLE m.seq 8++(txt m.key++(if m.kind=1 then txt m.val else if m.kind=3 then putLE m.by_ 8 else [])))
def encEnts (l:List (Bs×Bs)):Bs:=(l.map encEnt).flatten
def encKids (l:List Int):Bs:=(l.map encKid).flatten
def encPivs (l:List Bs):Bs:=(l.map txt).flatten
def encMsgs (l:List Ms):Bs:=(l.map encMsg).flatten
def headB (n:Nd):Bs:=[if n.leaf then 1 else 2,UInt8.ofNat (if n.leaf then n.ents.length else n.kids.length),UInt8.ofNat n.msgs.length,0]
def bodyB (n:Nd):Bs:=encEnts n.ents++encKids n.kids++encPivs n.pivs++encMsgs n.msgs
/-- The block whose sum is 0. -/
def rawB (n:Nd):Bs:=headB n++[0,0,0,0]++bodyB n++List.replicate (248 - (bodyB n).length) 0
def encB (n:Nd):Bs:=headB n++putLE (crcSum (rawB n)) 4++bodyB n++List.replicate (248 - (bodyB n).length) 0
theorem txt_len (s:Bs):(txt s).length=s.length+1:=rfl
theorem encEnt_len (e:Bs×Bs):(encEnt e).length=entBytes e:=by simp[encEnt,txt_len,entBytes];omega
theorem encMsg_len {m:Ms} (h:msgOk m):(encMsg m).length=msgBytes m:=by
  have h1:=h.lo
  have h2:=h.hi
  unfold encMsg msgBytes
  rw[tt_true h]
  simp only[List.length_cons,List.length_append,putLE_len,txt_len,if_true]
  by_cases hk:m.kind=1
  · simp[hk,txt_len];omega
  · by_cases hk3:m.kind=3
    · simp[hk3,putLE_len];omega
    · simp[hk,hk3];omega
theorem flat_sum {α:Type} (f:α→Bs) (c:α→Nat) (l:List α) (h:∀a∈l,(f a).length=c a):((l.map f).flatten).length=(l.map c).sum:=by
  induction l with
  | nil=>rfl
  | cons a l ih=>
    simp only[List.map_cons,List.flatten_cons,List.length_append,List.sum_cons]
    rw[h a (List.mem_cons_self ..),ih fun b hb=>h b (List.mem_cons_of_mem _ hb)]
theorem encEnts_len (l:List (Bs×Bs)):(encEnts l).length=entsBytes l:=flat_sum _ _ l fun _ _=>encEnt_len _
theorem encMsgs_len {l:List Ms} (h:∀m∈l,msgOk m):(encMsgs l).length=msgsBytes l:=flat_sum _ _ l fun m hm=>encMsg_len (h m hm)
theorem encKids_len (l:List Int):(encKids l).length=4*l.length:=by
  induction l with
  | nil=>rfl
  | cons a l ih=>
    have:(encKids (a::l)).length=(encKid a).length+(encKids l).length:=by simp[encKids]
    rw[this,ih,encKid,putLE_len,List.length_cons];omega
theorem encPivs_len {l:List Bs} (h:∀k∈l,okK k):(encPivs l).length≤9*l.length:=by
  induction l with
  | nil=>simp[encPivs]
  | cons a l ih=>
    have:(encPivs (a::l)).length=(txt a).length+(encPivs l).length:=by simp[encPivs]
    have ha:a.length≤8:=h a (List.mem_cons_self ..)
    have:=ih fun k hk=>h k (List.mem_cons_of_mem _ hk)
    rw[‹(encPivs (a::l)).length=_›,txt_len,List.length_cons];omega
theorem bodyB_len {n:Nd} (ok:okN n) (h:nodFits n):(bodyB n).length≤248:=by
  obtain⟨h1,h2⟩:=h
  simp only[bodyB,List.length_append,encEnts_len,encKids_len]
  unfold nodOk at h1
  unfold nodBytes at h2
  by_cases hl:n.leaf=true
  · rw[if_pos hl] at h1 h2
    rw[if_pos hl] at h2
    obtain⟨_,h3,h4,h5⟩:=h1
    rw[h3,h4,h5]
    simp only[encPivs,encMsgs,List.map_nil,List.flatten_nil,List.length_nil]
    omega
  · rw[if_neg hl] at h1 h2
    rw[if_neg hl] at h2
    obtain⟨h3,h4,h5⟩:=h1
    have h6:=encPivs_len ok.pivs
    have h7:=h4.many
    have h8:=h4.len
    rw[encMsgs_len h5.1,h3]
    have:entsBytes []=0:=rfl
    omega
theorem headB_len (n:Nd):(headB n).length=4:=rfl
theorem rawB_len {n:Nd} (ok:okN n) (h:nodFits n):(rawB n).length=256:=by
  have:=bodyB_len ok h
  simp only[rawB,List.length_append,headB_len,List.length_cons,List.length_nil,List.length_replicate]
  omega
theorem encB_len {n:Nd} (ok:okN n) (h:nodFits n):(encB n).length=256:=by
  have:=bodyB_len ok h
  simp only[encB,List.length_append,headB_len,putLE_len,List.length_replicate]
  omega
end Go.Mo
namespace Go.Mo
open Go Go.Eng
variable [Toks]
/-- Bytes in an open piece made since. -/
structure OB (PS0 PS:PL) (p ver:Nat) (b:Bs):Prop where
  new:PS0.length≤p
  at_:getP PS p=.arr ver 1 (bytesRows b) true
  ext:Ext [] PS0 PS
end Go.Mo
namespace Go.Proofs.YtdlfmajopcbllaaGreat
open Go Go.Eng Go.Mo
variable [Toks]
set_option maxRecDepth 20000
attribute [local irreducible] hvc hops hop hplan hdrawP hval1 hopD HLoop
theorem bytes_cons (x:UInt8) (l:Bs):bytesRows (x::l)=[.int .u8 x.toNat]::bytesRows l:=rfl
theorem take_rows (s:Bs):(u8s s).map (fun y=>[y])=bytesRows s:=by simp[u8s,bytesRows]
/-- Bytes behind how many there are. -/
theorem codec_text (PS:PL) (p ver:Nat) (b s:Bs) (q vq i k c sz:Nat) (E:List (List HV)) (o:Bool) (row:List HV) (hb:getP PS p=.arr ver 1 (bytesRows b) true) (hq:getP PS q=.arr vq sz E o) (hpq:q≠p)
    (hr:E[i]? =some row) (hk:k+s.length≤row.length) (hs:(row.drop k).take s.length=u8s s) (hsl:s.length≤255) (hbl:b.length≤1000):
    HCall Tryz.prog 275 [.sl p ver 0 b.length none,.isl q vq i k s.length c] PS fun r PS'=>r=.sl p (ver+2) 0 (b++txt s).length none∧PS'=PS.set p (.arr (ver+2) 1 (bytesRows (b++txt s)) true):=by
  refine enter_275 (by unfold Tryz.f275;exact rfl) ?_
  have hx:∀Q,getP (PS.set p Q) q=.arr vq sz E o:=fun Q=>(getP_set_ne Q hpq.symm).trans hq
  have hy:∀Q,getP (PS.set p Q) p=Q:=fun Q=>getP_set_eq Q hb
  simp only[go_sem,seval, -List.reduceReplicate,hb,bytesRows_len,hq,hx,hy,hr,hs,take_rows,List.set_set,List.drop_zero]
  intro _
  refine⟨by simp,.inl ⟨by omega,hk,?_⟩⟩
  refine .inl ⟨by omega,by rw[txt_len];congr 1;omega,?_⟩
  congr 2
  rw[bytesRows_app,txt,bytes_cons,List.append_assoc,u8_of_nat]
  rfl
end Go.Proofs.YtdlfmajopcbllaaGreat
namespace Go.Mo
open Go Go.Eng
variable [Toks]
theorem enc_take {α:Type} (f:α→Bs) (l:List α) {i:Nat} (h:i<l.length):((l.take (i+1)).map f).flatten=((l.take i).map f).flatten++f l[i]:=by
  rw[List.take_succ_eq_append_getElem h,List.map_append,List.flatten_append,List.map_cons,List.map_nil,List.flatten_cons,List.flatten_nil,List.append_nil]
theorem enc_take_le {α:Type} (f:α→Bs) (l:List α) (i:Nat):(((l.take i).map f).flatten).length≤((l.map f).flatten).length:=by
  conv=>rhs;rw[←List.take_append_drop i l,List.map_append,List.flatten_append,List.length_append]
  omega
theorem kids_pos {n:Nd} (h:nodFits n) {i:Nat} {x:Int} (hx:n.kids[i]? =some x):1≤x∧x<256:=by
  have h1:=h.1
  unfold nodOk at h1
  split at h1
  · rw[h1.2.1] at hx;simp at hx
  · exact⟨(h1.2.1.is i x hx).1,(h1.2.1.is i x hx).2.1⟩
theorem msgs_ok {n:Nd} (h:nodFits n) {m:Ms} (hm:m∈n.msgs):msgOk m:=by
  have h1:=h.1
  unfold nodOk at h1
  split at h1
  · rw[h1.2.2.2] at hm;simp at hm
  · exact h1.2.2.1 m hm
@[go_sem ↓,go_sem] theorem zeroK:List.drop 8 (List.replicate 8 (HV.int .u8 0))=[]:=_root_.id rfl
theorem drop1_pad {n:Nat} {k:Bs} (h:k.length≤n) (R:List HV):((u8s (pad n k)++R).take k.length)=u8s k:=by
  rw[List.take_append_of_le_length (by rw[u8s_len,pad_len];omega),take_u8s h]
theorem ent_kb (e:Bs×Bs) (h:okK e.1):((entL e).drop 1).take e.1.length=u8s e.1:=by
  show (u8s (pad 8 e.1)++valL e.2).take e.1.length=_
  exact drop1_pad h _
theorem ent_vb (e:Bs×Bs) (h:okV e.2):((entL e).drop 10).take e.2.length=u8s e.2:=by
  have:(entL e).drop 10=((entL e).drop 9).drop 1:=by rw[List.drop_drop]
  rw[this,entL,drop_key]
  show (u8s (pad 16 e.2)).take e.2.length=_
  exact take_u8s h
theorem key_kb (k:Bs) (h:okK k):((keyL k).drop 1).take k.length=u8s k:=by
  show (u8s (pad 8 k)).take k.length=_
  exact take_u8s h
theorem msg_kb (m:Ms) (h:okK m.key):((msgL m).drop 3).take m.key.length=u8s m.key:=by
  show (u8s (pad 8 m.key)++_).take m.key.length=_
  exact drop1_pad h _
theorem msg_vb (m:Ms) (h:okV m.val):((msgL m).drop 12).take m.val.length=u8s m.val:=by
  have:(msgL m).drop 12=((msgL m).drop 11).drop 1:=by rw[List.drop_drop]
  rw[this,msg_drop11]
  show (u8s (pad 16 m.val)++_).take m.val.length=_
  exact drop1_pad h _
@[go_sem ↓,go_sem] theorem nod_1 (t:Fl) (n:Nd):((nodL t n).drop 1).take 1=[.imm t.a (n.ents.map entL)]:=_root_.id rfl
@[go_sem ↓,go_sem] theorem nod_2 (t:Fl) (n:Nd):((nodL t n).drop 2).take 1=[.imm t.b (n.kids.map kidL)]:=_root_.id rfl
@[go_sem ↓,go_sem] theorem nod_3 (t:Fl) (n:Nd):((nodL t n).drop 3).take 1=[.imm t.c (n.pivs.map keyL)]:=_root_.id rfl
@[go_sem ↓,go_sem] theorem nod_4 (t:Fl) (n:Nd):((nodL t n).drop 4).take 1=[.imm t.d (n.msgs.map msgL)]:=_root_.id rfl
/-- The bytes so far:in an open piece,the node's own in its. -/
structure PutAt (PS:PL) (p0:Nat) (row:List HV) (PS':PL) (p ver:Nat) (b:Bs):Prop where
  at_:getP PS' p=.arr ver 1 (bytesRows b) true
  own:getP PS' PS.length=.arr 0 5 [row] false
  ext:Ext [p0] PS PS'
  is:p=p0∨PS.length<p
theorem PutAt.ne {PS PS1:PL} {p0 p ver:Nat} {row:List HV} {b:Bs} (h:PutAt PS p0 row PS1 p ver b) (hp:p0<PS.length):p≠PS.length:=by
  rcases h.is with h | h<;>omega
theorem PutAt.le {PS PS1:PL} {p0 p ver:Nat} {row:List HV} {b:Bs} (h:PutAt PS p0 row PS1 p ver b):PS.length<PS1.length:=getP_lt h.own
theorem PutAt.put {PS PS1:PL} {p0 p ver:Nat} {row:List HV} {b:Bs} (h:PutAt PS p0 row PS1 p ver b) (hp:p0<PS.length) (l:PL) (ver':Nat) (b':Bs):PutAt PS p0 row ((PS1++l).set p (.arr ver' 1 (bytesRows b') true)) p ver' b':=by
  refine⟨getP_set_eq _ (getP_app l h.at_),(getP_set_ne _ (h.ne hp)).trans (getP_app l h.own),?_,h.is⟩
  refine h.ext.since ((Ext.app PS1 l).trans (Ext.set (PS1++l) p _)) fun n hn=>?_
  simp at hn
  subst hn
  rcases h.is with h | h
  · left;simp[h]
  · right;omega
theorem PutAt.new {PS PS1:PL} {p0 p ver:Nat} {row:List HV} {b:Bs} (h:PutAt PS p0 row PS1 p ver b) (l:PL) (ver':Nat) (b':Bs):PutAt PS p0 row (PS1++l++[.arr ver' 1 (bytesRows b') true]) (PS1++l).length ver' b':=by
  have:=h.le
  refine⟨getP_last _ _,?_,?_,.inr (by simp;omega)⟩
  · rw[List.append_assoc];exact getP_app _ h.own
  · refine h.ext.since (T:=[]) (by rw[List.append_assoc];exact Ext.app _ _) fun n hn=>absurd hn (by simp)
end Go.Mo
namespace Go.Proofs.YtdlfmajopcbllaaGreat
open Go Go.Eng Go.Mo
variable [Toks]
set_option maxRecDepth 20000
attribute [local irreducible] hvc hops hop hplan hdrawP hval1 hopD HLoop
theorem codec_put (t:Fl) (n:Nd) (ok:okN n) (hf:nodFits n) (PS:PL) (p ver:Nat) (b:Bs) (hb:getP PS p=.arr ver 1 (bytesRows b) true) (hbl:b.length≤8):
    HCall Tryz.prog 202 [.sl p ver 0 b.length none,.agg (nodL t n)] PS fun r PS'=>∃p' ver',r=.sl p' ver' 0 (b++bodyB n).length none∧getP PS' p'=.arr ver' 1 (bytesRows (b++bodyB n)) true∧Ext [p] PS PS'∧(p'=p∨PS.length<p'):=by
  refine enter_202 (by unfold Tryz.f202;exact rfl) ?_
  have hlen:=bodyB_len ok hf
  simp only[bodyB,List.length_append] at hlen
  have hp:=getP_lt hb
  obtain⟨f1,f2,f3,f4⟩:=ok.few
  simp only[go_sem,seval, -List.reduceReplicate,nodL_len,List.length_map]
  refine⟨ones_nod t n,fun _=>?_⟩
  refine pend_intro (loop_rule (α:=Nat×Nat×Nat) [false,false,false,false,false,false,true,false,false,false,false,false,false,false,false,false,false,true,true,true,true,true,true,true,true,true,true,true,true,true,true,true,true,true,true,true] (fun a=>[(16,.int .i64 a.1),(0,.sl a.2.1 a.2.2 0 (b++encEnts (n.ents.take a.1)).length none)]) (fun a=>n.ents.length - a.1) (fun a PS'=>a.1≤n.ents.length∧PutAt PS p (nodL t n) PS' a.2.1 a.2.2 (b++encEnts (n.ents.take a.1))) (0,p,ver) ⟨Nat.zero_le _,?_⟩ ?_ ?_)
  · refine⟨?_,getP_last _ _,(Ext.app _ _).mono (by simp),.inl rfl⟩
    rw[getP_app _ hb];simp[encEnts]
  · simp only[go_sem,seval, -List.reduceReplicate,Int.natCast_zero,List.take_zero]
    simp[encEnts]
  rintro⟨i,q,vq⟩ PS1 ⟨hi,h⟩
  simp only at hi h
  by_cases hlt:i<n.ents.length
  · have ha1:n.ents[i]? =some n.ents[i]:=by simp[hlt]
    have oi:=ok.ents _ (List.getElem_mem hlt)
    have o1:n.ents[i].1.length≤8:=oi.1
    have o2:n.ents[i].2.length≤16:=oi.2
    have hcur:(b++encEnts (n.ents.take i)).length≤300:=by have:(encEnts (n.ents.take i)).length≤(encEnts n.ents).length:=enc_take_le _ _ _;rw[List.length_append];omega
    generalize hc:b++encEnts (n.ents.take i)=cur at h hcur
    simp only[go_sem,seval, -List.reduceReplicate,hlt,List.getElem?_map,Option.map_some,ha1,List.length_map,h.own,nodL_len]
    refine⟨by omega,by omega,pend_intro ((codec_text _ q vq cur n.ents[i].1 PS1.length 0 0 1 8 26 [entL n.ents[i]] false (entL n.ents[i]) (getP_app _ h.at_) (getP_last _ _) (by have:=getP_lt h.at_;omega) rfl (by rw[entL_len];omega) (ent_kb _ oi.1) (by omega) (by omega)).mono ?_)⟩
    rintro _ _ ⟨rfl,rfl⟩
    have h2:=h.put hp [.arr 0 26 [entL n.ents[i]] false] (vq+2) (cur++txt n.ents[i].1)
    have hq:q≠PS1.length:=by have:=getP_lt h.at_;omega
    have g1:=(getP_set_ne (PS:=PS1++[.arr 0 26 [entL n.ents[i]] false]) (n:=PS1.length) (.arr (vq+2) 1 (bytesRows (cur++txt n.ents[i].1)) true) hq).trans (getP_last _ _)
    generalize ((PS1++[Piece.arr 0 26 [entL n.ents[i]] false]).set q (Piece.arr (vq+2) 1 (bytesRows (cur++txt n.ents[i].1)) true))=PS2 at h2 g1 ⊢
    simp only[go_sem,seval, -List.reduceReplicate,g1,h2.own,nodL_len]
    refine⟨by omega,pend_intro ?_⟩
    rw[←List.length_append]
    refine((codec_text _ q _ _ n.ents[i].2 PS1.length 0 0 10 16 26 [entL n.ents[i]] false (entL n.ents[i]) h2.at_ g1 hq.symm rfl (by rw[entL_len];omega) (ent_vb _ oi.2) (by omega) (by simp[txt_len];omega)).mono ?_)
    rintro _ _ ⟨rfl,rfl⟩
    have h3:=h2.put hp [] (vq+4) (cur++txt n.ents[i].1++txt n.ents[i].2)
    rw[List.append_nil] at h3
    have g2:=(getP_set_ne (.arr (vq+4) 1 (bytesRows (cur++txt n.ents[i].1++txt n.ents[i].2)) true) hq).trans g1
    generalize (PS2.set q (Piece.arr (vq+4) 1 (bytesRows (cur++txt n.ents[i].1++txt n.ents[i].2)) true))=PS3 at h3 g2 ⊢
    simp only[go_sem,seval, -List.reduceReplicate,g2,h3.own,nodL_len]
    have he:encEnts (n.ents.take (i+1))=encEnts (n.ents.take i)++encEnt n.ents[i]:=enc_take _ _ hlt
    have hcc:b++encEnts (n.ents.take (i+1))=cur++txt n.ents[i].1++txt n.ents[i].2:=by rw[he,←List.append_assoc,hc,encEnt,List.append_assoc]
    refine⟨by omega,(i+1,q,vq+4),?_⟩
    simp only
    refine⟨by omega,⟨by omega,by rw[hcc];exact h3⟩,?_,rfl⟩
    rw[←List.length_append,hcc,List.length_append,List.length_append]
  have hi:i=n.ents.length:=by omega
  subst hi
  rw[List.take_length] at h
  simp only[go_sem,seval, -List.reduceReplicate,hlt,List.length_map,h.own,nodL_len]
  intro _
  clear hlt
  obtain⟨b1,hb1⟩:∃b1,b1=b++encEnts n.ents:=⟨_,rfl⟩
  have hl1:b1.length=b.length+(encEnts n.ents).length:=by rw[hb1,List.length_append]
  rw[←hb1] at h
  refine pend_intro (loop_rule (α:=Nat×Nat×Nat) [false,false,false,false,false,false,false,false,true,false,false,false,false,false,false,false,false,false,false,false,false,false,false,false,false,false,false,false,false,false,false,false,false,false,false,false,false,false,false,false,true,true,true,true,true,true,true,true] (fun a=>[(39,.int .i64 a.1),(0,.sl a.2.1 a.2.2 0 (b1++encKids (n.kids.take a.1)).length none)]) (fun a=>n.kids.length - a.1) (fun a PS'=>a.1≤n.kids.length∧PutAt PS p (nodL t n) PS' a.2.1 a.2.2 (b1++encKids (n.kids.take a.1))) (0,q,vq) ⟨Nat.zero_le _,by simpa [encKids] using h⟩ ?_ ?_)
  · simp only[go_sem,seval, -List.reduceReplicate,Int.natCast_zero,List.take_zero]
    simp[encKids,hl1]
  clear h
  rintro⟨i,q,vq⟩ PS1 ⟨hi,h⟩
  simp only at hi h
  by_cases hlt:i<n.kids.length
  · have ha1:n.kids[i]? =some n.kids[i]:=by simp[hlt]
    have hcur:(b1++encKids (n.kids.take i)).length≤600:=by have:(encKids (n.kids.take i)).length≤(encKids n.kids).length:=enc_take_le _ _ _;rw[List.length_append];omega
    generalize hc:b1++encKids (n.kids.take i)=cur at h hcur
    have hpos:1≤n.kids[i]∧n.kids[i]<256:=kids_pos hf ha1
    obtain⟨m,hm⟩:∃m:Nat,n.kids[i]=m:=⟨n.kids[i].toNat,by omega⟩
    simp only[go_sem,seval, -List.reduceReplicate,hlt,List.getElem?_map,Option.map_some,ha1,List.length_map,h.own,nodL_len,kidL,hm]
    refine⟨by omega,pend_intro ((bits_put _ _ cur m 4 (by have:=From_.open h.at_;rwa [bytesRows_len] at this) (by omega) (by omega) (by omega) (by omega)).mono ?_)⟩
    rintro _ _ ⟨v3,rfl,rfl⟩
    have h3:=h.new [] v3 (cur++putLE m 4)
    rw[List.append_nil] at h3
    have he:encKids (n.kids.take (i+1))=encKids (n.kids.take i)++encKid n.kids[i]:=enc_take _ _ hlt
    have hcc:b1++encKids (n.kids.take (i+1))=cur++putLE m 4:=by rw[he,←List.append_assoc,hc,encKid,hm];rfl
    simp only[go_sem,seval, -List.reduceReplicate,h3.own,nodL_len]
    refine⟨by omega,(i+1,PS1.length,v3),?_⟩
    simp only
    refine⟨by omega,⟨by omega,by rw[hcc];exact h3⟩,?_,rfl⟩
    rw[←List.length_append,hcc,bytesRows_len]
  have hi:i=n.kids.length:=by omega
  subst hi
  rw[List.take_length] at h
  simp only[go_sem,seval, -List.reduceReplicate,hlt,List.length_map,h.own,nodL_len]
  intro _
  clear hlt
  obtain⟨b2,hb2⟩:∃b2,b2=b1++encKids n.kids:=⟨_,rfl⟩
  have hl2:b2.length=b1.length+(encKids n.kids).length:=by rw[hb2,List.length_append]
  rw[←hb2] at h
  refine pend_intro (loop_rule (α:=Nat×Nat×Nat) [false,false,false,false,false,false,false,false,false,false,true,false,false,false,false,false,false,false,false,false,false,false,false,false,false,false,false,false,false,false,false,false,false,false,false,false,false,false,false,false,false,false,false,false,false,false,false,false,false,false,false,false,true,true,true,true,true,true,true,true,true,true] (fun a=>[(51,.int .i64 a.1),(0,.sl a.2.1 a.2.2 0 (b2++encPivs (n.pivs.take a.1)).length none)]) (fun a=>n.pivs.length - a.1) (fun a PS'=>a.1≤n.pivs.length∧PutAt PS p (nodL t n) PS' a.2.1 a.2.2 (b2++encPivs (n.pivs.take a.1))) (0,q,vq) ⟨Nat.zero_le _,by simpa [encPivs] using h⟩ ?_ ?_)
  · simp only[go_sem,seval, -List.reduceReplicate,Int.natCast_zero,List.take_zero]
    simp[encPivs,hl2]
  clear h
  rintro⟨i,q,vq⟩ PS1 ⟨hi,h⟩
  simp only at hi h
  by_cases hlt:i<n.pivs.length
  · have ha1:n.pivs[i]? =some n.pivs[i]:=by simp[hlt]
    have oi:=ok.pivs _ (List.getElem_mem hlt)
    have o1:n.pivs[i].length≤8:=oi
    have hcur:(b2++encPivs (n.pivs.take i)).length≤300:=by have:(encPivs (n.pivs.take i)).length≤(encPivs n.pivs).length:=enc_take_le _ _ _;rw[List.length_append];omega
    generalize hc:b2++encPivs (n.pivs.take i)=cur at h hcur
    simp only[go_sem,seval, -List.reduceReplicate,hlt,List.getElem?_map,Option.map_some,ha1,List.length_map,h.own,nodL_len,List.append_nil]
    refine⟨by omega,pend_intro ((codec_text _ q vq cur n.pivs[i] PS1.length 0 0 1 8 9 [keyL n.pivs[i]] false (keyL n.pivs[i]) (getP_app _ h.at_) (getP_last _ _) (by have:=getP_lt h.at_;omega) rfl (by rw[keyL_len];omega) (key_kb _ oi) (by omega) (by omega)).mono ?_)⟩
    rintro _ _ ⟨rfl,rfl⟩
    have h2:=h.put hp [.arr 0 9 [keyL n.pivs[i]] false] (vq+2) (cur++txt n.pivs[i])
    have hq:q≠PS1.length:=by have:=getP_lt h.at_;omega
    have g1:=(getP_set_ne (PS:=PS1++[.arr 0 9 [keyL n.pivs[i]] false]) (n:=PS1.length) (.arr (vq+2) 1 (bytesRows (cur++txt n.pivs[i])) true) hq).trans (getP_last _ _)
    generalize ((PS1++[Piece.arr 0 9 [keyL n.pivs[i]] false]).set q (Piece.arr (vq+2) 1 (bytesRows (cur++txt n.pivs[i])) true))=PS2 at h2 g1 ⊢
    have he:encPivs (n.pivs.take (i+1))=encPivs (n.pivs.take i)++txt n.pivs[i]:=enc_take _ _ hlt
    have hcc:b2++encPivs (n.pivs.take (i+1))=cur++txt n.pivs[i]:=by rw[he,←List.append_assoc,hc]
    simp only[go_sem,seval, -List.reduceReplicate,g1,h2.own,nodL_len]
    refine⟨by omega,(i+1,q,vq+2),?_⟩
    simp only
    refine⟨by omega,⟨by omega,by rw[hcc];exact h2⟩,?_,rfl⟩
    rw[←List.length_append,hcc,List.length_append]
  have hi:i=n.pivs.length:=by omega
  subst hi
  rw[List.take_length] at h
  simp only[go_sem,seval, -List.reduceReplicate,hlt,List.length_map,h.own,nodL_len]
  intro _
  clear hlt
  obtain⟨b3,hb3⟩:∃b3,b3=b2++encPivs n.pivs:=⟨_,rfl⟩
  have hl3:b3.length=b2.length+(encPivs n.pivs).length:=by rw[hb3,List.length_append]
  rw[←hb3] at h
  refine pend_intro (loop_rule (α:=Nat×Nat×Nat) [false,false,false,false,false,false,false,false,false,false,false,false,true,false,false,false,false,false,false,false,false,false,false,false,false,false,false,false,false,false,false,false,false,false,false,false,false,false,false,false,false,false,false,false,false,false,false,false,false,false,false,false,false,false,false,false,false,false,false,false,false,false,false,false,false,false,true,true,true,true,true,true,true,true,true,true,true,true,true,true,true,true,true,true,true,true,true,true,true,true,true,true,true,true,true,true,true,true,true,true,true,true,true,true] (fun a=>[(65,.int .i64 a.1),(0,.sl a.2.1 a.2.2 0 (b3++encMsgs (n.msgs.take a.1)).length none)]) (fun a=>n.msgs.length - a.1) (fun a PS'=>a.1≤n.msgs.length∧PutAt PS p (nodL t n) PS' a.2.1 a.2.2 (b3++encMsgs (n.msgs.take a.1))) (0,q,vq) ⟨Nat.zero_le _,by simpa [encMsgs] using h⟩ ?_ ?_)
  · simp only[go_sem,seval, -List.reduceReplicate,Int.natCast_zero,List.take_zero]
    simp[encMsgs,hl3]
  clear h
  rintro⟨i,q,vq⟩ PS1 ⟨hi,h⟩
  simp only at hi h
  by_cases hlt:i<n.msgs.length
  · have ha1:n.msgs[i]? =some n.msgs[i]:=by simp[hlt]
    have oi:=ok.msgs _ (List.getElem_mem hlt)
    have o1:n.msgs[i].key.length≤8:=oi.key
    have o2:n.msgs[i].val.length≤16:=oi.val
    have o3:=oi.seq
    have o4:=oi.by_
    have om:=msgs_ok hf (List.getElem_mem hlt)
    have m1:=om.lo
    have m2:=om.hi
    have hcur:(b3++encMsgs (n.msgs.take i)).length≤300:=by have:(encMsgs (n.msgs.take i)).length≤(encMsgs n.msgs).length:=enc_take_le _ _ _;rw[List.length_append];omega
    generalize hc:b3++encMsgs (n.msgs.take i)=cur at h hcur
    have he:encMsgs (n.msgs.take (i+1))=encMsgs (n.msgs.take i)++encMsg n.msgs[i]:=enc_take _ _ hlt
    have hcc:b3++encMsgs (n.msgs.take (i+1))=cur++encMsg n.msgs[i]:=by rw[he,←List.append_assoc,hc]
    generalize hmm:n.msgs[i]=mm at ha1 oi o1 o2 o3 o4 om m1 m2 hcc
    have hx:∀Q,getP ((PS1++[Piece.arr 0 29 [msgL mm] false]).set q Q) PS1.length=Piece.arr 0 29 [msgL mm] false:=fun Q=>(getP_set_ne Q (by have:=getP_lt h.at_;omega)).trans (getP_last _ _)
    have ga:=getP_app [.arr 0 29 [msgL mm] false] h.at_
    simp only[go_sem,seval, -List.reduceReplicate,hlt,List.getElem?_map,Option.map_some,ha1,List.length_map,h.own,nodL_len,ga,hx,bytesRows_len]
    refine⟨by omega,by simp,.inl ⟨by omega,by omega,pend_intro ?_⟩⟩
    obtain⟨k,hk⟩:∃k:Nat,mm.kind=k:=⟨mm.kind.toNat,by omega⟩
    have hrow:bytesRows cur++[[HV.int .u8 (IntKind.u8.wrap mm.kind)]]=bytesRows (cur++[UInt8.ofNat k]):=by
      rw[bytesRows_app,hk];simp only[bytesRows,List.map_cons,List.map_nil,u8_of_nat]
    have h2:=h.put hp [.arr 0 29 [msgL mm] false] (vq+1) (cur++[UInt8.ofNat k])
    have g1:=hx (.arr (vq+1) 1 (bytesRows (cur++[UInt8.ofNat k])) true)
    rw[List.drop_zero,hrow]
    clear hx ga
    generalize ((PS1++[Piece.arr 0 29 [msgL mm] false]).set q (Piece.arr (vq+1) 1 (bytesRows (cur++[UInt8.ofNat k])) true))=PS2 at h2 g1 ⊢
    have hl4:(cur++[UInt8.ofNat k]).length=cur.length+1:=by simp
    refine(bits_put PS2 _ (cur++[UInt8.ofNat k]) mm.seq 8 (by have:=From_.open h2.at_;rwa [bytesRows_len,hl4] at this) (by omega) (by omega) (by omega) (by omega)).mono ?_
    rintro _ _ ⟨v3,rfl,rfl⟩
    have h3:=h2.new [] v3 (cur++[UInt8.ofNat k]++putLE mm.seq 8)
    rw[List.append_nil] at h3
    have g2:=getP_app [.arr v3 1 (bytesRows (cur++[UInt8.ofNat k]++putLE mm.seq 8)) true] g1
    have hne:PS1.length≠PS2.length:=by have:=getP_lt g1;omega
    have hl5:(cur++[UInt8.ofNat k]++putLE mm.seq 8).length=cur.length+9:=by simp[putLE_len]
    generalize PS2++[Piece.arr v3 1 (bytesRows (cur++[UInt8.ofNat k]++putLE mm.seq 8)) true]=PS3 at h3 g2 ⊢
    generalize hc3:cur++[UInt8.ofNat k]++putLE mm.seq 8=cur3 at h3 hl5 ⊢
    simp only[go_sem,seval, -List.reduceReplicate,g2,h3.own,nodL_len,bytesRows_len]
    refine⟨by omega,pend_intro ?_⟩
    refine(codec_text PS3 PS2.length v3 cur3 mm.key PS1.length 0 0 3 8 29 [msgL mm] false (msgL mm) h3.at_ g2 hne rfl (by rw[msgL_len];omega) (msg_kb _ oi.key) (by omega) (by omega)).mono ?_
    rintro _ _ ⟨rfl,rfl⟩
    have h4:=h3.put hp [] (v3+2) (cur3++txt mm.key)
    rw[List.append_nil] at h4
    have g3:=(getP_set_ne (.arr (v3+2) 1 (bytesRows (cur3++txt mm.key)) true) hne.symm).trans g2
    have hl6:(cur3++txt mm.key).length=cur.length+10+mm.key.length:=by rw[List.length_append,hl5,txt_len];omega
    generalize (PS3.set PS2.length (Piece.arr (v3+2) 1 (bytesRows (cur3++txt mm.key)) true))=PS4 at h4 g3 ⊢
    have hkk:k=1∨k=2∨k=3:=by omega
    rcases hkk with rfl | rfl | rfl
    · simp only[go_sem,seval, -List.reduceReplicate,g3,h4.own,nodL_len,hk]
      refine⟨by omega,pend_intro ?_⟩
      rw[←List.length_append]
      refine(codec_text PS4 PS2.length (v3+2) _ mm.val PS1.length 0 0 12 16 29 [msgL mm] false (msgL mm) h4.at_ g3 hne rfl (by rw[msgL_len];omega) (msg_vb _ oi.val) (by omega) (by omega)).mono ?_
      rintro _ _ ⟨rfl,rfl⟩
      have h5:=h4.put hp [] (v3+4) (cur3++txt mm.key++txt mm.val)
      rw[List.append_nil] at h5
      have g4:=(getP_set_ne (.arr (v3+4) 1 (bytesRows (cur3++txt mm.key++txt mm.val)) true) hne.symm).trans g3
      have hcm:cur++encMsg mm=cur3++txt mm.key++txt mm.val:=by
        rw[←hc3];simp[encMsg,hk]
      generalize (PS4.set PS2.length (Piece.arr (v3+4) 1 (bytesRows (cur3++txt mm.key++txt mm.val)) true))=PS5 at h5 g4 ⊢
      simp only[go_sem,seval, -List.reduceReplicate,g4,h5.own,nodL_len,hk]
      refine⟨by omega,(i+1,PS2.length,v3+4),?_⟩
      simp only
      refine⟨by omega,⟨by omega,by rw[hcc,hcm];exact h5⟩,?_,rfl⟩
      rw[←List.length_append,hcc,hcm,List.length_append,List.length_append]
    · have hcm:cur++encMsg mm=cur3++txt mm.key:=by
        rw[←hc3];simp[encMsg,hk]
      simp only[go_sem,seval, -List.reduceReplicate,g3,h4.own,nodL_len,hk]
      refine⟨by omega,(i+1,PS2.length,v3+2),?_⟩
      simp only
      refine⟨by omega,⟨by omega,by rw[hcc,hcm];exact h4⟩,?_,rfl⟩
      rw[←List.length_append,hcc,hcm,List.length_append]
    · simp only[go_sem,seval, -List.reduceReplicate,g3,h4.own,nodL_len,hk]
      refine pend_intro ?_
      rw[←List.length_append]
      refine(bits_put PS4 _ (cur3++txt mm.key) mm.by_ 8 (by have:=From_.open h4.at_;rwa [bytesRows_len] at this) (by omega) (by omega) (by omega) (by omega)).mono ?_
      rintro _ _ ⟨v5,rfl,rfl⟩
      have h5:=h4.new [] v5 (cur3++txt mm.key++putLE mm.by_ 8)
      rw[List.append_nil] at h5
      have g4:=getP_app [.arr v5 1 (bytesRows (cur3++txt mm.key++putLE mm.by_ 8)) true] g3
      have hcm:cur++encMsg mm=cur3++txt mm.key++putLE mm.by_ 8:=by
        rw[←hc3];simp[encMsg,hk]
      generalize PS4++[Piece.arr v5 1 (bytesRows (cur3++txt mm.key++putLE mm.by_ 8)) true]=PS5 at h5 g4 ⊢
      simp only[go_sem,seval, -List.reduceReplicate,g4,h5.own,nodL_len,hk,bytesRows_len]
      refine⟨by omega,(i+1,PS4.length,v5),?_⟩
      simp only
      refine⟨by omega,⟨by omega,by rw[hcc,hcm];exact h5⟩,?_,rfl⟩
      rw[←List.length_append,hcc,hcm]
      simp only[List.length_append]
  have hi:i=n.msgs.length:=by omega
  subst hi
  rw[List.take_length] at h
  simp only[go_sem,seval, -List.reduceReplicate,hlt,List.length_map,h.own,nodL_len]
  refine⟨q,vq,?_,?_,h.ext,h.is⟩
  · rw[List.take_length]
    congr 1
    simp only[bodyB,List.length_append]
    omega
  · rw[h.at_]
    simp only[bodyB,hb3,hb2,hb1,List.append_assoc]
end Go.Proofs.YtdlfmajopcbllaaGreat
namespace Go.Proofs.YtdlfmajopcbllaaGreat
open Go Go.Eng Go.Mo
variable [Toks]
set_option maxRecDepth 20000
attribute [local irreducible] hvc hops hop hplan hdrawP hval1 hopD HLoop
theorem crcSum_lt (l:Bs):crcSum l<4294967296:=Nat.xor_lt_two_pow (n:=32) (crcMore_lt l (by omega)) (by omega)
theorem codec_sum (PS:PL) (p ver:Nat) (l:Bs) (c:Option Nat) (o:Bool) (hb:getP PS p=.arr ver 1 (bytesRows l) o) (hl:l.length≤1000):
    HCall Tryz.prog 203 [.sl p ver 0 l.length c] PS fun r PS'=>r=.imm false (bytesRows (putLE (crcSum l) 4))∧PS'=PS:=by
  refine HCall.data (bytesRows_scoped _ _ _) (Fresh.frz (s:=1) ?_)
  refine enter_203 (by unfold Tryz.f203;exact rfl) ?_
  simp only[go_sem,seval, -List.reduceReplicate]
  refine pend_intro ((crc_sum_sl PS l (by omega) p ver 0 c _ o hb (by rw[List.drop_zero,List.take_of_length_le (by rw[bytesRows_len];omega)])).mono ?_)
  rintro _ _ ⟨rfl,rfl⟩
  have:=crcSum_lt l
  simp only[go_sem,seval, -List.reduceReplicate]
  refine⟨by omega,pend_intro ((bits_put _ _ [] (crcSum l) 4 (From_.imm (N:=[]) (by simp)) (by simp) (by omega) (by omega) (by omega)).mono ?_)⟩
  rintro r PS' h
  simp only[go_sem,seval, -List.reduceReplicate]
  simpa using h
theorem enc_splice (n:Nd):hsplice 4 (List.take 252 (bytesRows (putLE (crcSum (rawB n)) 4))) (bytesRows (rawB n))=bytesRows (encB n):=by
  rw[List.take_of_length_le (by rw[bytesRows_len,putLE_len];omega)]
  have e:bytesRows (rawB n)=bytesRows (headB n)++(bytesRows [0,0,0,0]++(bytesRows (bodyB n)++bytesRows (List.replicate (248 - (bodyB n).length) 0))):=by
    rw[rawB];simp only[bytesRows_app,List.append_assoc]
  rw[encB]
  simp only[bytesRows_app,List.append_assoc]
  rw[e]
  unfold hsplice
  have h4:(bytesRows (headB n)).length=4:=by rw[bytesRows_len,headB_len]
  have h5:(bytesRows (putLE (crcSum (rawB n)) 4)).length=4:=by rw[bytesRows_len,putLE_len]
  rw[List.take_left' h4,h5,←List.drop_drop,List.drop_left' h4,List.drop_left' (by rfl)]
theorem codec_encode (t:Fl) (n:Nd) (ok:okN n) (hf:nodFits n):Pure Tryz.prog 126 [.agg (nodL t n)] (.tup [.imm false (bytesRows (encB n)),.int .i64 0]):=by
  refine Pure.of_ext (by rw[scoped_tup];simp[bytesRows_scoped,scoped_int]) fun PS=>HCall.frz ?_
  refine enter_126 (by unfold Tryz.f126;exact rfl) ?_
  have hlen:=bodyB_len ok hf
  simp only[go_sem,seval, -List.reduceReplicate,nodL_len]
  refine⟨ones_nod t n,pend_intro ((node_fits t n ok).call ?_)⟩
  rw[tt_true hf]
  by_cases hl:n.leaf=true
  · have eh:headB n=[1,UInt8.ofNat n.ents.length,UInt8.ofNat n.msgs.length,0]:=by simp[headB,hl]
    simp only[go_sem,seval, -List.reduceReplicate,nodL_len,hl,List.length_map]
    refine⟨by kernel_rfl,by simp,pend_intro ?_⟩
    have hrow:[[HV.int .u8 1],[HV.int .u8 (IntKind.u8.wrap (n.ents.length:Nat))],[HV.int .u8 (IntKind.u8.wrap (n.msgs.length:Nat))],[HV.int .u8 0]]++List.replicate (Int.toNat 4) [HV.int .u8 0]=bytesRows (headB n++[0,0,0,0]):=by
      rw[eh]
      simp only[bytesRows,List.map_cons,List.map_nil,List.cons_append,List.nil_append,u8_of_nat];rfl
    rw[hrow]
    have hg0:getP (PS++[Piece.arr 0 5 [nodL t n] false]++[Piece.arr 0 1 (bytesRows (headB n++[0,0,0,0])) true]) (PS++[Piece.arr 0 5 [nodL t n] false]).length=.arr 0 1 (bytesRows (headB n++[0,0,0,0])) true:=getP_last _ _
    refine(codec_put t n ok hf _ _ 0 (headB n++[0,0,0,0]) hg0 (by simp[headB_len])).mono ?_
    have hx0:Ext [] PS (PS++[Piece.arr 0 5 [nodL t n] false]++[Piece.arr 0 1 (bytesRows (headB n++[0,0,0,0])) true]):=by rw[List.append_assoc];exact Ext.app _ _
    have hn0:getP (PS++[Piece.arr 0 5 [nodL t n] false]++[Piece.arr 0 1 (bytesRows (headB n++[0,0,0,0])) true]) PS.length=.arr 0 5 [nodL t n] false:=getP_app _ (getP_last _ _)
    generalize (PS++[Piece.arr 0 5 [nodL t n] false]++[Piece.arr 0 1 (bytesRows (headB n++[0,0,0,0])) true])=PS1 at hx0 hn0
    rintro _ PS2 ⟨p,vp,rfl,hp,hx,hpp⟩
    have hpl:PS.length<p:=by have:=hx0.1;simp at hpp;omega
    have hn2:=hx.get hn0 (by simp)
    have hx2:Ext [] PS PS2:=hx0.since hx (by intro m hm;simp at hm;subst hm;right;simp)
    have hl8:(headB n++[0,0,0,0]++bodyB n).length=8+(bodyB n).length:=by simp[headB_len];omega
    generalize hc:headB n++[0,0,0,0]++bodyB n=cur at hp hl8 ⊢
    have hy:∀Q,getP (PS2.set p Q) p=Q:=fun Q=>getP_set_eq Q hp
    have hz:(256 - ((8+(bodyB n).length:Nat):Int)).toNat=248 - (bodyB n).length:=by omega
    have hraw:bytesRows cur++List.replicate (248 - (bodyB n).length) [HV.int .u8 0]=bytesRows (rawB n):=by
      rw[rawB,hc,bytesRows_app];simp[bytesRows]
    have hw:8+(bodyB n).length+(248 - (bodyB n).length)=256:=by omega
    have hrl:=rawB_len ok hf
    simp only[go_sem,seval, -List.reduceReplicate,hn2,hp,hy,nodL_len,hl,List.length_map,bytesRows_len,hl8,hz,hraw,hw,List.drop_zero,List.length_replicate]
    intro _
    refine⟨by omega,by kernel_rfl,by omega,by omega,by omega,?_⟩
    have hne:¬bytesRows (rawB n)=[]:=by
      intro h;have:=congrArg List.length h;rw[bytesRows_len,hrl] at this;simp at this
    refine .inl ⟨hne,by omega,pend_intro ?_⟩
    have h3:=hy (.arr (vp+1) 1 (bytesRows (rawB n)) true)
    have hn3:=(getP_set_ne (.arr (vp+1) 1 (bytesRows (rawB n)) true) (by omega:p≠PS.length)).trans hn2
    have hx3:Ext [] PS (PS2.set p (.arr (vp+1) 1 (bytesRows (rawB n)) true)):=hx2.since (Ext.set PS2 p _) (by intro m hm;simp at hm;subst hm;right;omega)
    have hlt3:p<(PS2.set p (.arr (vp+1) 1 (bytesRows (rawB n)) true)).length:=getP_lt h3
    clear hy
    generalize PS2.set p (.arr (vp+1) 1 (bytesRows (rawB n)) true)=PS3 at h3 hn3 hx3 hlt3 ⊢
    have hr:Reads Tryz.prog 203 [.sl p (vp+1) 0 256 none] PS3 (.imm false (bytesRows (putLE (crcSum (rawB n)) 4))):=fun Q hq=>by
      have:=codec_sum Q p (vp+1) (rawB n) none true (hq.arr h3) (by omega)
      rwa [hrl] at this
    refine hr.to ?_
    have hy:∀Q,getP (PS3.set p Q) p=Q:=fun Q=>getP_set_eq Q h3
    simp only[go_sem,seval, -List.reduceReplicate,h3,hn3,hy,nodL_len,hl,bytesRows_len,hrl,putLE_len]
    rw[enc_splice]
    refine⟨hne,p,vp+1,1,_,true,_,_,hy _,FrzL.tup (.cons (.sl 0 256 none (by rw[bytesRows_len,encB_len ok hf];omega)) (.cons (.same _) (.nil ..))),FrzPS.only (by simpa using hlt3),?_,?_⟩
    · rw[List.drop_zero,List.take_of_length_le (by rw[bytesRows_len,encB_len ok hf];omega)]
    · rw[List.set_set]
      exact hx3.since (Ext.set PS3 p _) (by intro m hm;simp at hm;subst hm;right;omega)
  · have hl':n.leaf=false:=by simpa using hl
    have eh:headB n=[2,UInt8.ofNat n.kids.length,UInt8.ofNat n.msgs.length,0]:=by simp[headB,hl']
    simp only[go_sem,seval, -List.reduceReplicate,nodL_len,hl',List.length_map]
    refine⟨by kernel_rfl,by simp,pend_intro ?_⟩
    have hrow:[[HV.int .u8 2],[HV.int .u8 (IntKind.u8.wrap (n.kids.length:Nat))],[HV.int .u8 (IntKind.u8.wrap (n.msgs.length:Nat))],[HV.int .u8 0]]++List.replicate (Int.toNat 4) [HV.int .u8 0]=bytesRows (headB n++[0,0,0,0]):=by
      rw[eh]
      simp only[bytesRows,List.map_cons,List.map_nil,List.cons_append,List.nil_append,u8_of_nat];rfl
    rw[hrow]
    have hg0:getP (PS++[Piece.arr 0 5 [nodL t n] false]++[Piece.arr 0 1 (bytesRows (headB n++[0,0,0,0])) true]) (PS++[Piece.arr 0 5 [nodL t n] false]).length=.arr 0 1 (bytesRows (headB n++[0,0,0,0])) true:=getP_last _ _
    refine(codec_put t n ok hf _ _ 0 (headB n++[0,0,0,0]) hg0 (by simp[headB_len])).mono ?_
    have hx0:Ext [] PS (PS++[Piece.arr 0 5 [nodL t n] false]++[Piece.arr 0 1 (bytesRows (headB n++[0,0,0,0])) true]):=by rw[List.append_assoc];exact Ext.app _ _
    have hn0:getP (PS++[Piece.arr 0 5 [nodL t n] false]++[Piece.arr 0 1 (bytesRows (headB n++[0,0,0,0])) true]) PS.length=.arr 0 5 [nodL t n] false:=getP_app _ (getP_last _ _)
    generalize (PS++[Piece.arr 0 5 [nodL t n] false]++[Piece.arr 0 1 (bytesRows (headB n++[0,0,0,0])) true])=PS1 at hx0 hn0
    rintro _ PS2 ⟨p,vp,rfl,hp,hx,hpp⟩
    have hpl:PS.length<p:=by have:=hx0.1;simp at hpp;omega
    have hn2:=hx.get hn0 (by simp)
    have hx2:Ext [] PS PS2:=hx0.since hx (by intro m hm;simp at hm;subst hm;right;simp)
    have hl8:(headB n++[0,0,0,0]++bodyB n).length=8+(bodyB n).length:=by simp[headB_len];omega
    generalize hc:headB n++[0,0,0,0]++bodyB n=cur at hp hl8 ⊢
    have hy:∀Q,getP (PS2.set p Q) p=Q:=fun Q=>getP_set_eq Q hp
    have hz:(256 - ((8+(bodyB n).length:Nat):Int)).toNat=248 - (bodyB n).length:=by omega
    have hraw:bytesRows cur++List.replicate (248 - (bodyB n).length) [HV.int .u8 0]=bytesRows (rawB n):=by
      rw[rawB,hc,bytesRows_app];simp[bytesRows]
    have hw:8+(bodyB n).length+(248 - (bodyB n).length)=256:=by omega
    have hrl:=rawB_len ok hf
    simp only[go_sem,seval, -List.reduceReplicate,hn2,hp,hy,nodL_len,hl,List.length_map,bytesRows_len,hl8,hz,hraw,hw,List.drop_zero,List.length_replicate]
    intro _
    refine⟨by omega,by kernel_rfl,by omega,by omega,by omega,?_⟩
    have hne:¬bytesRows (rawB n)=[]:=by
      intro h;have:=congrArg List.length h;rw[bytesRows_len,hrl] at this;simp at this
    refine .inl ⟨hne,by omega,pend_intro ?_⟩
    have h3:=hy (.arr (vp+1) 1 (bytesRows (rawB n)) true)
    have hn3:=(getP_set_ne (.arr (vp+1) 1 (bytesRows (rawB n)) true) (by omega:p≠PS.length)).trans hn2
    have hx3:Ext [] PS (PS2.set p (.arr (vp+1) 1 (bytesRows (rawB n)) true)):=hx2.since (Ext.set PS2 p _) (by intro m hm;simp at hm;subst hm;right;omega)
    have hlt3:p<(PS2.set p (.arr (vp+1) 1 (bytesRows (rawB n)) true)).length:=getP_lt h3
    clear hy
    generalize PS2.set p (.arr (vp+1) 1 (bytesRows (rawB n)) true)=PS3 at h3 hn3 hx3 hlt3 ⊢
    have hr:Reads Tryz.prog 203 [.sl p (vp+1) 0 256 none] PS3 (.imm false (bytesRows (putLE (crcSum (rawB n)) 4))):=fun Q hq=>by
      have:=codec_sum Q p (vp+1) (rawB n) none true (hq.arr h3) (by omega)
      rwa [hrl] at this
    refine hr.to ?_
    have hy:∀Q,getP (PS3.set p Q) p=Q:=fun Q=>getP_set_eq Q h3
    simp only[go_sem,seval, -List.reduceReplicate,h3,hn3,hy,nodL_len,hl,bytesRows_len,hrl,putLE_len]
    rw[enc_splice]
    refine⟨hne,p,vp+1,1,_,true,_,_,hy _,FrzL.tup (.cons (.sl 0 256 none (by rw[bytesRows_len,encB_len ok hf];omega)) (.cons (.same _) (.nil ..))),FrzPS.only (by simpa using hlt3),?_,?_⟩
    · rw[List.drop_zero,List.take_of_length_le (by rw[bytesRows_len,encB_len ok hf];omega)]
    · rw[List.set_set]
      exact hx3.since (Ext.set PS3 p _) (by intro m hm;simp at hm;subst hm;right;omega)
end Go.Proofs.YtdlfmajopcbllaaGreat
namespace Go.Proofs.YtdlfmajopcbllaaGreat
open Go Go.Eng Go.Mo
variable [Toks]
set_option maxRecDepth 20000
attribute [local irreducible] hvc hops hop hplan hdrawP hval1 hopD HLoop
end Go.Proofs.YtdlfmajopcbllaaGreat
namespace Go.Mo
open Go Go.Eng
variable [Toks]
/-- Bytes so far,at first a literal;the node's own piece. -/
structure RAt (PS:PL) (row:List HV) (PS':PL) (x:HV) (b:Bs):Prop where
  at_:(x=.imm true (bytesRows b)∧b.length=8)∨∃p ver,x=.sl p ver 0 b.length none∧PS.length<p∧getP PS' p=.arr ver 1 (bytesRows b) true
  own:getP PS' PS.length=.arr 0 5 [row] false
  ext:Ext [] PS PS'
end Go.Mo
namespace Go.Proofs.YtdlfmajopcbllaaGreat
open Go Go.Eng Go.Mo
variable [Toks]
set_option maxRecDepth 20000
attribute [local irreducible] hvc hops hop hplan hdrawP hval1 hopD HLoop
end Go.Proofs.YtdlfmajopcbllaaGreat
namespace Go.Mo
open Go Go.Eng
variable [Toks]
/-- The number that bytes are,the lowest first. -/
def numLE:Bs→Nat
  | []=>0
  | c::l=>c.toNat+256*numLE l
theorem numLE_put (n w:Nat):numLE (putLE n w)=n % 256 ^ w:=by
  induction w generalizing n with
  | zero=>simp[putLE,numLE,Nat.mod_one]
  | succ w ih=>
    have e:putLE n (w+1)=UInt8.ofNat n::putLE (n / 256) w:=rfl
    rw[e,numLE,ih,Nat.pow_succ,Nat.mul_comm (256 ^ w) 256,Nat.mod_mul]
    have:(UInt8.ofNat n).toNat=n % 256:=by simp
    rw[this]
theorem numLE_lt (l:Bs):numLE l<256 ^ l.length:=by
  induction l with
  | nil=>simp[numLE]
  | cons c l ih=>
    have:=c.toNat_lt
    rw[numLE,List.length_cons,Nat.pow_succ]
    omega
theorem numLE_step (l:Bs) (i:Nat) (h:i<l.length) (n:Nat):numLE ((l.drop i).take (n+1))=(l[i]).toNat+256*numLE ((l.drop (i+1)).take n):=by
  rw[List.drop_eq_getElem_cons h,List.take_succ_cons,numLE]
theorem or256 (n c:Nat) (hc:c<256):256*n ||| c=c+256*n:=by
  have:=Nat.two_pow_add_eq_or_of_lt (i:=8) (b:=c) (by omega) n
  rw[show (2:Nat) ^ 8=256 from rfl] at this
  omega
end Go.Mo
namespace Go.Proofs.YtdlfmajopcbllaaGreat
open Go Go.Eng Go.Mo
variable [Toks]
set_option maxRecDepth 20000
attribute [local irreducible] hvc hops hop hplan hdrawP hval1 hopD HLoop
theorem codec_encode_no (t:Fl) (n:Nd) (ok:okN n) (hf:¬nodFits n):Pure Tryz.prog 126 [.agg (nodL t n)] (.tup [.imm true [],.int .i64 4]):=by
  refine Pure.of_ext (by rw[scoped_tup];simp[scoped_imm,scoped_int]) fun PS=>?_
  refine enter_126 (by unfold Tryz.f126;exact rfl) ?_
  simp only[go_sem,seval, -List.reduceReplicate,nodL_len]
  refine⟨ones_nod t n,pend_intro ((node_fits t n ok).call ?_)⟩
  rw[tt_false hf]
  simp only[go_sem,seval, -List.reduceReplicate]
  exact Ext.app _ _
theorem hbits_or64 (a b:Nat) (ha:a<18446744073709551616) (hb:b<18446744073709551616):hbits .or .u64 a b=((a ||| b:Nat):Int):=by
  have:=Nat.or_lt_two_pow (n:=64) (x:=a) (y:=b) (by omega) (by omega)
  have e:(BitVec.ofInt 64 (a:Int) ||| BitVec.ofInt 64 (b:Int)).toNat=a ||| b:=by
    rw[BitVec.ofInt_natCast,BitVec.ofInt_natCast,BitVec.toNat_or,BitVec.toNat_ofNat,BitVec.toNat_ofNat,Nat.mod_eq_of_lt (by omega),Nat.mod_eq_of_lt (by omega)]
  show (((BitVec.ofInt 64 (a:Int) ||| BitVec.ofInt 64 (b:Int)).toNat:Nat):Int) % 18446744073709551616=_
  rw[e]
  omega
theorem bits_num (t:Bool) (l:Bs) (a w:Nat) (hl:l.length≤1000) (h1:1≤w) (h2:w≤8) (h:a+w≤l.length):Pure Tryz.prog 304 [.imm t (bytesRows l),.int .i64 a,.int .i64 w] (.tup [.int .u64 (numLE ((l.drop a).take w):Nat),.bool true]):=by
  refine Pure.of_ext (by rw[scoped_tup];simp[scoped_int,scoped_bool]) fun PS=>?_
  refine enter_304 (by unfold Tryz.f304;exact rfl) ?_
  have hm:decide (1≤(w:Int)∧(w:Int)≤8)=true:=decide_eq_true (by omega)
  have hsub:(l.length:Int) - (w:Int)=((l.length - w:Nat):Int):=by omega
  have hle:¬((l.length - w:Nat):Int)<(a:Int):=by omega
  have hna:¬(a:Int)<0:=by omega
  have hw1:(w:Int) - 1=((w - 1:Nat):Int):=by omega
  simp only[go_sem,seval, -List.reduceReplicate]
  refine pend_intro ((bits_may w).call ?_)
  rw[hm]
  simp only[go_sem,seval, -List.reduceReplicate,bytesRows_len,hsub,hle,hna,hw1]
  intro _
  refine⟨by omega,by omega,?_⟩
  have hw:w=(w - 1)+1:=by omega
  refine pend_intro (loop_rule (α:=Nat) [false,false,false,false,false,false,false,false,false,false,false,false,false,false,false,false,false,false,false,false,false,false,false,false,false,false,false,true,true,true,true,true,true,true,true,true,true,true,true,true,true] (fun k=>[(9,.int .i64 ((w:Int) - 1 - k)),(8,.int .u64 (numLE ((l.drop (a+(w - k))).take k):Nat))]) (fun k=>w - k) (fun k PS'=>k≤w∧PS'=PS) 0 ⟨Nat.zero_le _,rfl⟩ ?_ ?_)
  · simp only[go_sem,seval, -List.reduceReplicate,Int.natCast_zero,List.take_zero,numLE,hw1,Int.sub_zero]
  rintro k PS' ⟨hk,rfl⟩
  by_cases hlt:k<w
  · have e1:(w:Int) - 1 - (k:Int)=((w - 1 - k:Nat):Int):=by omega
    have e2:((w - 1 - k:Nat):Int) - 1=(w:Int) - 1 - ((k+1:Nat):Int):=by omega
    obtain⟨j,hj⟩:∃j,j=a+(w - 1 - k):=⟨_,rfl⟩
    have e3:(a:Int)+((w - 1 - k:Nat):Int)=(j:Int):=by omega
    have hi:j<l.length:=by omega
    have hn:=numLE_step l j hi k
    have e4:a+(w - (k+1))=j:=by omega
    rw[show j+1=a+(w - k) by omega] at hn
    have hlt7:numLE ((l.drop (a+(w - k))).take k)<256 ^ 7:=by
      refine Nat.lt_of_lt_of_le (numLE_lt _) (Nat.pow_le_pow_right (by omega) ?_)
      rw[List.length_take];omega
    have ha:(bytesRows l)[j]? =some [.int .u8 (l[j]'hi).toNat]:=bytesRows_get l _ hi
    have hc:=(l[j]'hi).toNat_lt
    generalize numLE ((l.drop (a+(w - k))).take k)=x at hn hlt7
    simp only[go_sem,seval, -List.reduceReplicate,e1,e3,bytesRows_len,ha,hi]
    have e5:hbits .or .u64 (IntKind.u64.wrap ((x:Int)*2 ^ min 8 64)) ((l[j]'hi).toNat:Int)=(((l[j]'hi).toNat+256*x:Nat):Int):=by
      have:IntKind.u64.wrap ((x:Int)*2 ^ min 8 64)=((256*x:Nat):Int):=by
        show ((x:Int)*256) % 18446744073709551616=_
        omega
      rw[this,hbits_or64 _ _ (by omega) (by omega),or256 _ _ hc]
    rw[e5]
    refine⟨by omega,by omega,by omega,k+1,by omega,by omega,by rw[e4,hn],by rw[e2]⟩
  · have hk:k=w:=by omega
    subst hk
    have e1:(k:Int) - 1 - (k:Int)= -1:=by omega
    simp only[go_sem,seval, -List.reduceReplicate,e1,Nat.sub_self]
    exact Ext.refl _
end Go.Proofs.YtdlfmajopcbllaaGreat
