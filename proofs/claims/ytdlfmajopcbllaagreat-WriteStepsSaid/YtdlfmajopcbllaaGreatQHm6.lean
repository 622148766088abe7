/-
Hm6
No conditions.
-/
import Derived.Test.YtdlfmajopcbllaaGreatQHm5
import Derived.Test.YtdlfmajopcbllaaGreatQHm1
set_option linter.unusedSectionVars false
set_option linter.unusedSimpArgs false
set_option linter.unusedVariables false
namespace Go.Mo
open Go Go.Eng
variable [Toks]
/-- A reader:its bytes,where it stands;not bad. -/
def rdP (t:Bool) (l:Bs) (a:Nat):Piece:=.arr 0 3 [[.imm t (bytesRows l),.int .i64 a,.bool false]] false
theorem pre_num {l:Bs} {a w n:Nat} (h:putLE n w<+:l.drop a) (hw:1≤w) (hn:n<256 ^ w):numLE ((l.drop a).take w)=n∧a+w≤l.length:=by
  have hl:=h.length_le
  rw[putLE_len,List.length_drop] at hl
  have ht:=List.prefix_iff_eq_take.mp h
  rw[putLE_len] at ht
  rw[←ht,numLE_put,Nat.mod_eq_of_lt hn]
  exact⟨rfl,by omega⟩
theorem pre_l {x y l:Bs} (h:x++y<+:l):x<+:l:=(List.prefix_append x y).trans h
theorem pre_r {x y l:Bs} {a:Nat} (h:x++y<+:l.drop a):y<+:l.drop (a+x.length):=by
  obtain⟨z,hz⟩:=h
  refine⟨z,?_⟩
  rw[←List.drop_drop,←hz,List.append_assoc,List.drop_left' rfl]
theorem pre_txt {s l:Bs} {a:Nat} (h:txt s<+:l.drop a) (_hs:s.length<256):putLE s.length 1<+:l.drop a∧s<+:l.drop (a+1):=
  ⟨pre_l (y:=s) h,pre_r (x:=[UInt8.ofNat s.length]) h⟩
theorem _root_.Go.Eng.Pure.reads {P:Program} {f:FuncId} {args:List HV} {res:HV} (h:Pure P f args res) (PS:PL):Reads P f args PS res:=fun PS' _=>h PS'
end Go.Mo
namespace Go.Proofs.YtdlfmajopcbllaaGreat
open Go Go.Eng Go.Mo
variable [Toks]
set_option maxRecDepth 20000
attribute [local irreducible] hvc hops hop hplan hdrawP hval1 hopD HLoop
theorem rd_num (PS:PL) (q:Nat) (t:Bool) (l:Bs) (a w n:Nat) (hl:l.length≤1000) (hq:getP PS q=rdP t l a) (h:putLE n w<+:l.drop a) (h1:1≤w) (h2:w≤8) (hn:n<256 ^ w):
    HCall Tryz.prog 281 [.ptr q 0 0 0,.int .i64 w] PS fun r PS'=>r=.int .u64 n∧PS'=PS.set q (rdP t l (a+w)):=by
  obtain⟨e1,e2⟩:=pre_num h h1 hn
  rw[rdP] at hq
  have hy:∀Q,getP (PS.set q Q) q=Q:=fun Q=>getP_set_eq Q hq
  refine enter_281 (by unfold Tryz.f281;exact rfl) ?_
  simp only[go_sem,seval, -List.reduceReplicate,hq]
  refine pend_intro (Reads.to (Pure.reads (bits_num t l a w hl h1 h2 e2) _) ?_)
  rw[e1]
  simp only[go_sem,seval, -List.reduceReplicate,hq,hy,List.set_set]
  exact⟨by omega,rfl⟩
theorem rows_flat (s:Bs):(bytesRows s).flatten=u8s s:=by
  induction s with
  | nil=>rfl
  | cons c s ih=>exact congrArg (HV.int .u8 c.toNat:: ·) ih
theorem rd_bytes (PS:PL) (q:Nat) (t:Bool) (l:Bs) (a:Nat) (s:Bs) (hl:l.length≤1000) (hq:getP PS q=rdP t l a) (h:txt s<+:l.drop a) (p N:Nat) (row:List HV) (hp:getP PS p=.arr 0 (N+1) [row] false) (hpq:p≠q) (hs:s.length≤N) (hN:N≤100) (hrow:row.length=N+1):
    HCall Tryz.prog 282 [.ptr q 0 0 0,.isl p 0 0 1 N N] PS fun r PS'=>r=.int .i64 s.length∧PS'=(PS.set q (rdP t l (a+1+s.length))).set p (.arr 0 (N+1) [hsplice 1 (u8s s) row] false):=by
  obtain⟨h1,h2⟩:=pre_txt h (by omega)
  have hl2:=h.length_le
  rw[txt_len,List.length_drop] at hl2
  have hy:∀Q,getP (PS.set q Q) q=Q:=fun Q=>getP_set_eq Q hq
  have hx:∀Q,getP (PS.set q Q) p=.arr 0 (N+1) [row] false:=fun Q=>(getP_set_ne Q hpq.symm).trans hp
  refine enter_282 (by unfold Tryz.f282;exact rfl) ?_
  simp only[go_sem,seval, -List.reduceReplicate]
  refine pend_intro ((rd_num PS q t l a 1 s.length hl hq h1 (by omega) (by omega) (by omega)).mono ?_)
  rintro _ _ ⟨rfl,rfl⟩
  have hc1:¬(N:Int)<(s.length:Int):=by omega
  have hc2:¬((l.length:Int) - ((a+1:Nat):Int))<(s.length:Int):=by omega
  have hz:(((a+1:Nat):Int)+(s.length:Int)).toNat=a+1+s.length:=by omega
  have ht:List.drop (a+1) (List.take (a+1+s.length) (bytesRows l))=bytesRows s:=by
    unfold bytesRows
    rw[←List.map_take,←List.map_drop,←List.take_drop,←List.prefix_iff_eq_take.mp h2]
  have htN:List.take N (bytesRows s)=bytesRows s:=List.take_of_length_le (by rw[bytesRows_len];omega)
  have hfl:=rows_flat s
  have hgx:∀Q Q',getP ((PS.set q Q).set p Q') q=Q:=fun Q Q'=>(getP_set_ne _ hpq).trans (getP_set_eq _ hq)
  simp only[go_sem,seval, -List.reduceReplicate,hy,hx,rdP,hc1,hc2,bytesRows_len,hz,ht,htN,hfl,hgx]
  refine⟨by omega,by omega,by omega,by omega,by omega,by omega,by omega,?_⟩
  rw[List.set_comm _ _ hpq,List.set_set]
  rfl
theorem u8s_pad (n:Nat) (s:Bs) (hs:s.length≤n):u8s s++List.replicate (n - s.length) (HV.int .u8 0)=u8s (pad n s):=by
  rw[pad_eq hs];simp[u8s]
theorem cells0 (n:Nat) (s:Bs) (hs:s.length≤n):hsplice 1 (u8s s) (HV.int .i64 0::List.replicate n (HV.int .u8 0))=HV.int .i64 0::u8s (pad n s):=by
  rw[←u8s_pad n s hs]
  simp[hsplice,u8s_len,Nat.add_comm 1,List.drop_replicate]
theorem rd_key (PS:PL) (q:Nat) (t:Bool) (l:Bs) (a:Nat) (s:Bs) (hl:l.length≤1000) (hq:getP PS q=rdP t l a) (h:txt s<+:l.drop a) (hs:s.length≤8):
    HCall Tryz.prog 217 [.ptr q 0 0 0] PS fun r PS'=>r=.agg (keyL s)∧Ext [q] PS PS'∧getP PS' q=rdP t l (a+1+s.length):=by
  have hlt:=getP_lt hq
  refine enter_217 (by unfold Tryz.f217;exact rfl) ?_
  simp only[go_sem,seval, -List.reduceReplicate]
  have hE:PS++[Piece.arr 0 (8+1) [HV.int .i64 0::List.replicate 8 (HV.int .u8 0)] false,Piece.arr 0 (8+1) [HV.int .i64 0::List.replicate 8 (HV.int .u8 0)] false]=(PS++[Piece.arr 0 (8+1) [HV.int .i64 0::List.replicate 8 (HV.int .u8 0)] false])++[Piece.arr 0 (8+1) [HV.int .i64 0::List.replicate 8 (HV.int .u8 0)] false]:=by simp
  simp only[Nat.reduceAdd] at hE
  rw[hE]
  have hl0:(PS++[Piece.arr 0 (8+1) [HV.int .i64 0::List.replicate 8 (HV.int .u8 0)] false]).length=PS.length+1:=by simp
  have hq0:=getP_app [Piece.arr 0 (8+1) [HV.int .i64 0::List.replicate 8 (HV.int .u8 0)] false] hq
  have hn0:=getP_last PS (Piece.arr 0 (8+1) [HV.int .i64 0::List.replicate 8 (HV.int .u8 0)] false)
  have hx0:=Ext.app PS [Piece.arr 0 (8+1) [HV.int .i64 0::List.replicate 8 (HV.int .u8 0)] false]
  simp only[Nat.reduceAdd] at hl0 hq0 hx0 hn0
  rw[←hl0]
  generalize PS++[Piece.arr 0 _ [HV.int .i64 0::List.replicate 8 (HV.int .u8 0)] false]=PS1 at hq0 hl0 hx0 hn0
  have hg0:getP (PS1++[Piece.arr 0 (8+1) [HV.int .i64 0::List.replicate 8 (HV.int .u8 0)] false]) PS1.length=Piece.arr 0 (8+1) [HV.int .i64 0::List.replicate 8 (HV.int .u8 0)] false:=getP_last _ _
  refine pend_intro ((rd_bytes _ q t l a s hl (getP_app _ hq0) h PS1.length 8 _ hg0 (by omega) hs (by omega) (by simp)).mono ?_)
  rintro _ _ ⟨rfl,rfl⟩
  have hg1:=getP_set_eq (Piece.arr 0 (8+1) [hsplice 1 (u8s s) (HV.int .i64 0::List.replicate 8 (HV.int .u8 0))] false) ((getP_set_ne (rdP t l (a+1+s.length)) (by omega:q≠PS1.length)).trans hg0)
  have hq1:=(getP_set_ne (Piece.arr 0 (8+1) [hsplice 1 (u8s s) (HV.int .i64 0::List.replicate 8 (HV.int .u8 0))] false) (by omega:PS1.length≠q)).trans (getP_set_eq (rdP t l (a+1+s.length)) (getP_app [Piece.arr 0 (8+1) [HV.int .i64 0::List.replicate 8 (HV.int .u8 0)] false] hq0))
  have hn1:getP (((PS1++[Piece.arr 0 (8+1) [HV.int .i64 0::List.replicate 8 (HV.int .u8 0)] false]).set q (rdP t l (a+1+s.length))).set PS1.length (Piece.arr 0 (8+1) [hsplice 1 (u8s s) (HV.int .i64 0::List.replicate 8 (HV.int .u8 0))] false)) PS.length=Piece.arr 0 (8+1) [HV.int .i64 0::List.replicate 8 (HV.int .u8 0)] false:=
    (getP_set_ne _ (by omega)).trans ((getP_set_ne _ (by omega)).trans (getP_app _ hn0))
  have hx1:Ext [q] PS (((PS1++[Piece.arr 0 (8+1) [HV.int .i64 0::List.replicate 8 (HV.int .u8 0)] false]).set q (rdP t l (a+1+s.length))).set PS1.length (Piece.arr 0 (8+1) [hsplice 1 (u8s s) (HV.int .i64 0::List.replicate 8 (HV.int .u8 0))] false)):=
    ((((hx0.mono (T:=[q]) (by simp))).since (Ext.app PS1 _) (by simp)).since (Ext.set _ q _) (by simp)).since (Ext.set _ PS1.length _) (by intro m hm;simp at hm;subst hm;right;omega)
  rw[cells0 8 s hs] at hg1 hq1 hx1 hn1 ⊢
  simp only[Nat.reduceAdd] at hg1 hq1 hx1 hn1 ⊢
  generalize ((PS1++[Piece.arr 0 _ [HV.int .i64 0::List.replicate 8 (HV.int .u8 0)] false]).set q (rdP t l (a+1+s.length))).set PS1.length (Piece.arr 0 _ [HV.int .i64 0::u8s (pad 8 s)] false)=PS2 at hg1 hq1 hx1 hn1 ⊢
  have hy:∀Q,getP (PS2.set PS1.length Q) PS1.length=Q:=fun Q=>getP_set_eq Q hg1
  have hz:∀Q,getP (PS2.set PS1.length Q) PS.length=_:=fun Q=>(getP_set_ne Q (by omega)).trans hn1
  have hzz:∀Q Q',getP ((PS2.set PS1.length Q).set PS.length Q') PS.length=Q':=fun Q Q'=>getP_set_eq Q' (hz Q)
  have hp1:(pad 8 s).length=8:=pad_len _ _
  have hp2:List.take 8 (u8s (pad 8 s))=u8s (pad 8 s):=List.take_of_length_le (Nat.le_of_eq (by rw[u8s_len,hp1]))
  have hp3:List.drop 8 (List.replicate 8 (HV.int .u8 0))=[]:=by simp
  simp only[go_sem,seval, -List.reduceReplicate,hg1,hp1,hp2,hp3,hy,hz,hzz,u8s_len,List.append_nil]
  refine⟨rfl,(hx1.since (Ext.set _ PS1.length _) (by intro m hm;simp at hm;subst hm;right;omega)).since (Ext.set _ PS.length _) (by simp),(getP_set_ne _ (by omega)).trans ((getP_set_ne _ (by omega)).trans hq1)⟩
theorem rd_value (PS:PL) (q:Nat) (t:Bool) (l:Bs) (a:Nat) (s:Bs) (hl:l.length≤1000) (hq:getP PS q=rdP t l a) (h:txt s<+:l.drop a) (hs:s.length≤16):
    HCall Tryz.prog 280 [.ptr q 0 0 0] PS fun r PS'=>r=.agg (valL s)∧Ext [q] PS PS'∧getP PS' q=rdP t l (a+1+s.length):=by
  have hlt:=getP_lt hq
  refine enter_280 (by unfold Tryz.f280;exact rfl) ?_
  simp only[go_sem,seval, -List.reduceReplicate]
  have hE:PS++[Piece.arr 0 (16+1) [HV.int .i64 0::List.replicate 16 (HV.int .u8 0)] false,Piece.arr 0 (16+1) [HV.int .i64 0::List.replicate 16 (HV.int .u8 0)] false]=(PS++[Piece.arr 0 (16+1) [HV.int .i64 0::List.replicate 16 (HV.int .u8 0)] false])++[Piece.arr 0 (16+1) [HV.int .i64 0::List.replicate 16 (HV.int .u8 0)] false]:=by simp
  simp only[Nat.reduceAdd] at hE
  rw[hE]
  have hl0:(PS++[Piece.arr 0 (16+1) [HV.int .i64 0::List.replicate 16 (HV.int .u8 0)] false]).length=PS.length+1:=by simp
  have hq0:=getP_app [Piece.arr 0 (16+1) [HV.int .i64 0::List.replicate 16 (HV.int .u8 0)] false] hq
  have hn0:=getP_last PS (Piece.arr 0 (16+1) [HV.int .i64 0::List.replicate 16 (HV.int .u8 0)] false)
  have hx0:=Ext.app PS [Piece.arr 0 (16+1) [HV.int .i64 0::List.replicate 16 (HV.int .u8 0)] false]
  simp only[Nat.reduceAdd] at hl0 hq0 hx0 hn0
  rw[←hl0]
  generalize PS++[Piece.arr 0 _ [HV.int .i64 0::List.replicate 16 (HV.int .u8 0)] false]=PS1 at hq0 hl0 hx0 hn0
  have hg0:getP (PS1++[Piece.arr 0 (16+1) [HV.int .i64 0::List.replicate 16 (HV.int .u8 0)] false]) PS1.length=Piece.arr 0 (16+1) [HV.int .i64 0::List.replicate 16 (HV.int .u8 0)] false:=getP_last _ _
  refine pend_intro ((rd_bytes _ q t l a s hl (getP_app _ hq0) h PS1.length 16 _ hg0 (by omega) hs (by omega) (by simp)).mono ?_)
  rintro _ _ ⟨rfl,rfl⟩
  have hg1:=getP_set_eq (Piece.arr 0 (16+1) [hsplice 1 (u8s s) (HV.int .i64 0::List.replicate 16 (HV.int .u8 0))] false) ((getP_set_ne (rdP t l (a+1+s.length)) (by omega:q≠PS1.length)).trans hg0)
  have hq1:=(getP_set_ne (Piece.arr 0 (16+1) [hsplice 1 (u8s s) (HV.int .i64 0::List.replicate 16 (HV.int .u8 0))] false) (by omega:PS1.length≠q)).trans (getP_set_eq (rdP t l (a+1+s.length)) (getP_app [Piece.arr 0 (16+1) [HV.int .i64 0::List.replicate 16 (HV.int .u8 0)] false] hq0))
  have hn1:getP (((PS1++[Piece.arr 0 (16+1) [HV.int .i64 0::List.replicate 16 (HV.int .u8 0)] false]).set q (rdP t l (a+1+s.length))).set PS1.length (Piece.arr 0 (16+1) [hsplice 1 (u8s s) (HV.int .i64 0::List.replicate 16 (HV.int .u8 0))] false)) PS.length=Piece.arr 0 (16+1) [HV.int .i64 0::List.replicate 16 (HV.int .u8 0)] false:=
    (getP_set_ne _ (by omega)).trans ((getP_set_ne _ (by omega)).trans (getP_app _ hn0))
  have hx1:Ext [q] PS (((PS1++[Piece.arr 0 (16+1) [HV.int .i64 0::List.replicate 16 (HV.int .u8 0)] false]).set q (rdP t l (a+1+s.length))).set PS1.length (Piece.arr 0 (16+1) [hsplice 1 (u8s s) (HV.int .i64 0::List.replicate 16 (HV.int .u8 0))] false)):=
    ((((hx0.mono (T:=[q]) (by simp))).since (Ext.app PS1 _) (by simp)).since (Ext.set _ q _) (by simp)).since (Ext.set _ PS1.length _) (by intro m hm;simp at hm;subst hm;right;omega)
  rw[cells0 16 s hs] at hg1 hq1 hx1 hn1 ⊢
  simp only[Nat.reduceAdd] at hg1 hq1 hx1 hn1 ⊢
  generalize ((PS1++[Piece.arr 0 _ [HV.int .i64 0::List.replicate 16 (HV.int .u8 0)] false]).set q (rdP t l (a+1+s.length))).set PS1.length (Piece.arr 0 _ [HV.int .i64 0::u8s (pad 16 s)] false)=PS2 at hg1 hq1 hx1 hn1 ⊢
  have hy:∀Q,getP (PS2.set PS1.length Q) PS1.length=Q:=fun Q=>getP_set_eq Q hg1
  have hz:∀Q,getP (PS2.set PS1.length Q) PS.length=_:=fun Q=>(getP_set_ne Q (by omega)).trans hn1
  have hzz:∀Q Q',getP ((PS2.set PS1.length Q).set PS.length Q') PS.length=Q':=fun Q Q'=>getP_set_eq Q' (hz Q)
  have hp1:(pad 16 s).length=16:=pad_len _ _
  have hp2:List.take 16 (u8s (pad 16 s))=u8s (pad 16 s):=List.take_of_length_le (Nat.le_of_eq (by rw[u8s_len,hp1]))
  have hp3:List.drop 16 (List.replicate 16 (HV.int .u8 0))=[]:=by simp
  simp only[go_sem,seval, -List.reduceReplicate,hg1,hp1,hp2,hp3,hy,hz,hzz,u8s_len,List.append_nil]
  refine⟨rfl,(hx1.since (Ext.set _ PS1.length _) (by intro m hm;simp at hm;subst hm;right;omega)).since (Ext.set _ PS.length _) (by simp),(getP_set_ne _ (by omega)).trans ((getP_set_ne _ (by omega)).trans hq1)⟩
end Go.Proofs.YtdlfmajopcbllaaGreat
namespace Go.Proofs.YtdlfmajopcbllaaGreat
open Go Go.Eng Go.Mo
variable [Toks]
set_option maxRecDepth 20000
attribute [local irreducible] hvc hops hop hplan hdrawP hval1 hopD HLoop
theorem rd_kid (PS:PL) (q:Nat) (t:Bool) (l:Bs) (a n:Nat) (hl:l.length≤1000) (hq:getP PS q=rdP t l a) (h:putLE n 4<+:l.drop a) (hn:n<4294967296):
    HCall Tryz.prog 215 [.ptr q 0 0 0] PS fun r PS'=>r=.int .i64 n∧Ext [q] PS PS'∧getP PS' q=rdP t l (a+4):=by
  refine enter_215 (by unfold Tryz.f215;exact rfl) ?_
  simp only[go_sem,seval, -List.reduceReplicate]
  refine pend_intro ((rd_num PS q t l a 4 n hl hq h (by omega) (by omega) (by omega)).mono ?_)
  rintro _ _ ⟨rfl,rfl⟩
  simp only[go_sem,seval, -List.reduceReplicate]
  exact⟨by omega,Ext.set _ _ _,getP_set_eq _ hq⟩
theorem rd_entry (PS:PL) (q:Nat) (t:Bool) (l:Bs) (a:Nat) (e:Bs×Bs) (hl:l.length≤1000) (hq:getP PS q=rdP t l a) (h:encEnt e<+:l.drop a) (h1:e.1.length≤8) (h2:e.2.length≤16):
    HCall Tryz.prog 213 [.ptr q 0 0 0] PS fun r PS'=>r=.agg (entL e)∧Ext [q] PS PS'∧getP PS' q=rdP t l (a+(encEnt e).length):=by
  have hlt:=getP_lt hq
  have hp2:=pre_r h
  have hen:a+(encEnt e).length=a+1+e.1.length+1+e.2.length:=by rw[encEnt,List.length_append,txt_len,txt_len];omega
  refine enter_213 (by unfold Tryz.f213;exact rfl) ?_
  simp only[go_sem,seval, -List.reduceReplicate]
  refine pend_intro ((rd_key _ q t l a e.1 hl (getP_app _ hq) (pre_l h) h1).mono ?_)
  rintro _ PS1 ⟨rfl,hx1,hq1⟩
  have hn1:=hx1.get (getP_last _ _) (by simp;omega)
  have hy1:=((Ext.app PS _).mono (T:=[q]) (by simp)).since hx1 (by simp)
  simp only[go_sem,seval, -List.reduceReplicate]
  refine pend_intro ((rd_value PS1 q t l (a+1+e.1.length) e.2 hl hq1 (by rw[txt_len] at hp2;rwa [show a+1+e.1.length=a+(e.1.length+1) by omega]) h2).mono ?_)
  rintro _ PS2 ⟨rfl,hx2,hq2⟩
  have hn2:=hx2.get hn1 (by simp;omega)
  have hz:List.drop 8 (List.replicate 8 (HV.int .u8 0)++[HV.int .i64 0]++List.replicate 16 (HV.int .u8 0))=HV.int .i64 0::List.replicate 16 (HV.int .u8 0):=rfl
  have hsp:hsplice 9 (valL e.2) (keyL e.1++HV.int .i64 0::List.replicate 16 (HV.int .u8 0))=entL e:=by
    rw[hsplice,List.take_left' (keyL_len _),valL_len,List.drop_of_length_le (by simp[keyL_len]),List.append_nil];rfl
  have hy2:∀Q,getP (PS2.set PS.length Q) PS.length=Q:=fun Q=>getP_set_eq Q hn2
  simp only[go_sem,seval, -List.reduceReplicate,hn2,hz,hsp,hy2,entL_len]
  rw[hen]
  exact⟨(hy1.since hx2 (by simp)).since (Ext.set _ PS.length _) (by simp),(getP_set_ne _ (by omega)).trans hq2⟩
theorem rd_msg (PS:PL) (q:Nat) (t:Bool) (l:Bs) (a:Nat) (m:Ms) (hl:l.length≤1000) (hq:getP PS q=rdP t l a) (h:encMsg m<+:l.drop a) (om:msgOk m) (h1:m.key.length≤8) (h2:m.val.length≤16) (os:m.seq<18446744073709551616) (ob:m.by_<18446744073709551616):
    HCall Tryz.prog 219 [.ptr q 0 0 0] PS fun r PS'=>r=.agg (msgL m)∧Ext [q] PS PS'∧getP PS' q=rdP t l (a+(encMsg m).length):=by
  have hlt:=getP_lt hq
  have m1:=om.lo
  have m2:=om.hi
  have m3:=om.val
  have m4:=om.by_
  obtain⟨kind,seq,key,val,by_⟩:=m
  simp only at m1 m2 m3 m4 h1 h2 os ob
  obtain⟨k,rfl⟩:∃k:Nat,kind=k:=⟨kind.toNat,by omega⟩
  have hh:putLE k 1++(putLE seq 8++(txt key++(if (k:Int)=1 then txt val else if (k:Int)=3 then putLE by_ 8 else [])))<+:l.drop a:=h
  have p1:=pre_l hh
  have r1:=pre_r hh
  rw[putLE_len] at r1
  have p2:=pre_l r1
  have r2:=pre_r r1
  rw[putLE_len] at r2
  have p3:=pre_l r2
  have r3:=pre_r r2
  rw[txt_len] at r3
  refine enter_219 (by unfold Tryz.f219;exact rfl) ?_
  simp only[go_sem,seval, -List.reduceReplicate]
  refine pend_intro ((rd_num _ q t l a 1 k hl (getP_app _ hq) p1 (by omega) (by omega) (by omega)).mono ?_)
  rintro _ PS1 ⟨rfl,hP⟩
  have hqA:getP PS1 q=rdP t l (a+1):=by rw[hP];exact getP_set_eq _ (getP_app _ hq)
  have hxA:Ext [q] PS PS1:=by rw[hP];exact((Ext.app PS _).mono (T:=[q]) (by simp)).since (Ext.set _ q _) (by simp)
  have hnA:getP PS1 PS.length=Piece.arr 0 29 [HV.int .i64 0::HV.int .u64 0::HV.int .i64 0::(List.replicate 8 (HV.int .u8 0)++[HV.int .i64 0]++List.replicate 16 (HV.int .u8 0)++[HV.int .u64 0])] false:=by rw[hP];exact(getP_set_ne _ (by omega)).trans (getP_last PS _)
  clear hP
  simp only[go_sem,seval, -List.reduceReplicate]
  refine⟨by omega,pend_intro ((rd_num PS1 q t l (a+1) 8 seq hl hqA p2 (by omega) (by omega) (by omega)).mono ?_)⟩
  rintro _ PS2 ⟨rfl,hP⟩
  have hqB:getP PS2 q=rdP t l (a+1+8):=by rw[hP];exact getP_set_eq _ hqA
  have hxB:Ext [q] PS PS2:=by rw[hP];exact hxA.since (Ext.set _ q _) (by simp)
  have hnB:getP PS2 PS.length=Piece.arr 0 29 [HV.int .i64 0::HV.int .u64 0::HV.int .i64 0::(List.replicate 8 (HV.int .u8 0)++[HV.int .i64 0]++List.replicate 16 (HV.int .u8 0)++[HV.int .u64 0])] false:=by rw[hP];exact(getP_set_ne _ (by omega)).trans hnA
  clear hP hqA hxA hnA
  simp only[go_sem,seval, -List.reduceReplicate]
  refine pend_intro ((rd_key PS2 q t l (a+1+8) key hl hqB p3 h1).mono ?_)
  rintro _ PS3 ⟨rfl,hx3,hqC⟩
  have hxC:=hxB.since hx3 (by simp)
  have hnC:=hx3.get hnB (by simp;omega)
  clear hx3 hqB hxB hnB
  have hz1:List.drop 8 (List.replicate 8 (HV.int .u8 0)++[HV.int .i64 0]++List.replicate 16 (HV.int .u8 0)++[HV.int .u64 0])=valL []++[HV.int .u64 0]:=rfl
  have hz2:List.drop 27 (HV.int .i64 0::(List.replicate 8 (HV.int .u8 0)++[HV.int .i64 0]++List.replicate 16 (HV.int .u8 0)++[HV.int .u64 0]))=[]:=rfl
  have ho:∀v n,ones (keyL key++(valL v++[HV.int .u64 n]))=True:=fun v n=>eq_true ((ones_iff _).2 (by intro y hy;rcases List.mem_append.1 hy with hy | hy;exact keyL_one _ y hy;rcases List.mem_append.1 hy with hy | hy;exact valL_one _ y hy;simp at hy;subst hy;rfl))
  have ht:∀v n,List.take 27 (keyL key++(valL v++[HV.int .u64 n]))=keyL key++(valL v++[HV.int .u64 n]):=fun v n=>List.take_of_length_le (by simp[keyL_len,valL_len])
  have hC:=Nat.lt_of_lt_of_le hlt hxC.1
  have hlC:PS.length<PS3.length:=getP_lt hnC
  have hc3:a+1+8+1+key.length=a+1+8+(key.length+1):=by omega
  have hy3:∀Q,getP (PS3++[Q]) PS.length=Piece.arr 0 29 [HV.int .i64 0::HV.int .u64 0::HV.int .i64 0::(List.replicate 8 (HV.int .u8 0)++[HV.int .i64 0]++List.replicate 16 (HV.int .u8 0)++[HV.int .u64 0])] false:=fun Q=>getP_app _ hnC
  have hy4:∀Q Q',getP ((PS3++[Q]).set PS.length Q') PS.length=Q':=fun Q Q'=>getP_set_eq _ (hy3 Q)
  have hx4:∀Q Q',Ext [q] PS ((PS3++[Q]).set PS.length Q'):=fun Q Q'=>(hxC.since (Ext.app PS3 _) (by simp)).since (Ext.set _ PS.length _) (by simp)
  have hq4:∀Q Q',getP ((PS3++[Q]).set PS.length Q') q=rdP t l (a+1+8+1+key.length):=fun Q Q'=>(getP_set_ne _ (by omega)).trans (getP_app _ hqC)
  rw[←hc3] at r3
  have hkk:k=1∨k=2∨k=3:=by omega
  rcases hkk with rfl | rfl | rfl
  · obtain rfl:=m4 (by omega)
    simp only[go_sem,seval, -List.reduceReplicate,hnC,hz1,hz2,ho,ht,hy3,hy4,List.append_nil,List.length_append,keyL_len,valL_len]
    refine pend_intro ((rd_value _ q t l _ val hl (getP_app _ hqC) r3 h2).mono ?_)
    rintro _ PS4 ⟨rfl,hx5,hqD⟩
    have hm5:=hx5.get (getP_last PS3 _) (by simp;omega)
    have hn5:=hx5.get (hy3 _) (by simp;omega)
    have hxD:=(hxC.since (Ext.app PS3 _) (by simp)).since hx5 (by simp)
    have hl5:=getP_lt hm5
    have hsp:hsplice 9 (valL val) (keyL key++(valL []++[HV.int .u64 0]))=keyL key++(valL val++[HV.int .u64 0]):=by
      rw[hsplice,List.take_left' (keyL_len _),valL_len,←List.drop_drop,List.drop_left' (keyL_len _),List.drop_left' (valL_len _)]
    have hz:∀Q,getP (PS4.set PS3.length Q) PS3.length=Q:=fun Q=>getP_set_eq Q hm5
    have hz4:∀Q,getP (PS4.set PS3.length Q) PS.length=Piece.arr 0 29 [HV.int .i64 0::HV.int .u64 0::HV.int .i64 0::(List.replicate 8 (HV.int .u8 0)++[HV.int .i64 0]++List.replicate 16 (HV.int .u8 0)++[HV.int .u64 0])] false:=fun Q=>(getP_set_ne Q (by omega)).trans hn5
    have hz3:∀Q Q',getP ((PS4.set PS3.length Q).set PS.length Q') PS.length=Q':=fun Q Q'=>getP_set_eq Q' (hz4 Q)
    simp only[go_sem,seval, -List.reduceReplicate,hm5,hn5,hsp,hz,hz2,hz4,hz3,ho,ht,List.append_nil,List.length_append,keyL_len,valL_len]
    have hlen:a+(encMsg {kind:=1,seq:=seq,key:=key,val:=val,by_:=0}).length=a+1+8+1+key.length+1+val.length:=by simp[encMsg,putLE_len,txt_len];omega
    exact⟨rfl,(hxD.since (Ext.set _ PS3.length _) (by intro m hm;simp at hm;subst hm;right;omega)).since (Ext.set _ PS.length _) (by simp),by rw[hlen];exact(getP_set_ne _ (by omega)).trans ((getP_set_ne _ (by omega)).trans hqD)⟩
  · obtain rfl:=m3 (by omega)
    obtain rfl:=m4 (by omega)
    simp only[go_sem,seval, -List.reduceReplicate,hnC,hz1,hz2,ho,ht,hy3,hy4,List.append_nil,List.length_append,keyL_len,valL_len]
    have hlen:a+(encMsg {kind:=2,seq:=seq,key:=key,val:=[],by_:=0}).length=a+1+8+1+key.length:=by simp[encMsg,putLE_len,txt_len];omega
    exact⟨rfl,hx4 _ _,by rw[hlen];exact hq4 _ _⟩
  · obtain rfl:=m3 (by omega)
    simp only[go_sem,seval, -List.reduceReplicate,hnC,hz1,hz2,ho,ht,hy3,hy4,List.append_nil,List.length_append,keyL_len,valL_len]
    refine pend_intro ((rd_num _ q t l _ 8 by_ hl (getP_app _ hqC) r3 (by omega) (by omega) (by omega)).mono ?_)
    rintro _ PS4 ⟨rfl,hP⟩
    have hx5:Ext [q] (PS3++[Piece.arr 0 29 [HV.int .i64 3::HV.int .u64 seq::(keyL key++(valL []++[HV.int .u64 0]))] false]) PS4:=by rw[hP];exact Ext.set _ q _
    have hqD:getP PS4 q=rdP t l (a+1+8+1+key.length+8):=by rw[hP];exact getP_set_eq _ (getP_app _ hqC)
    clear hP
    have hm5:=hx5.get (getP_last PS3 _) (by simp;omega)
    have hn5:=hx5.get (hy3 _) (by simp;omega)
    have hxD:=(hxC.since (Ext.app PS3 _) (by simp)).since hx5 (by simp)
    have hl5:=getP_lt hm5
    have hz:∀Q,getP (PS4.set PS3.length Q) PS3.length=Q:=fun Q=>getP_set_eq Q hm5
    have hz4:∀Q,getP (PS4.set PS3.length Q) PS.length=Piece.arr 0 29 [HV.int .i64 0::HV.int .u64 0::HV.int .i64 0::(List.replicate 8 (HV.int .u8 0)++[HV.int .i64 0]++List.replicate 16 (HV.int .u8 0)++[HV.int .u64 0])] false:=fun Q=>(getP_set_ne Q (by omega)).trans hn5
    have hz3:∀Q Q',getP ((PS4.set PS3.length Q).set PS.length Q') PS.length=Q':=fun Q Q'=>getP_set_eq Q' (hz4 Q)
    have hsp:hsplice 26 [HV.int .u64 by_] (keyL key++(valL []++[HV.int .u64 0]))=keyL key++(valL []++[HV.int .u64 by_]):=by
      have h26:(keyL key++valL []).length=26:=by rw[List.length_append,keyL_len,valL_len]
      rw[hsplice,show keyL key++(valL []++[HV.int .u64 0])=(keyL key++valL [])++[HV.int .u64 0] from (List.append_assoc ..).symm,List.take_left' h26,List.drop_of_length_le (by rw[List.length_append,h26];exact Nat.le_refl _),List.append_nil,List.append_assoc]
    simp only[go_sem,seval, -List.reduceReplicate,hm5,hn5,hsp,hz,hz2,hz4,hz3,ho,ht,List.append_nil,List.length_append,keyL_len,valL_len]
    have hlen:a+(encMsg {kind:=3,seq:=seq,key:=key,val:=[],by_:=by_}).length=a+1+8+1+key.length+8:=by simp[encMsg,putLE_len,txt_len];omega
    exact⟨rfl,(hxD.since (Ext.set _ PS3.length _) (by intro m hm;simp at hm;subst hm;right;omega)).since (Ext.set _ PS.length _) (by simp),by rw[hlen];exact(getP_set_ne _ (by omega)).trans ((getP_set_ne _ (by omega)).trans hqD)⟩
end Go.Proofs.YtdlfmajopcbllaaGreat
namespace Go.Mo
open Go Go.Eng
variable [Toks]
theorem flat_succ {α:Type} (enc:α→Bs) (xs:List α) (i:Nat) (h:i<xs.length):((xs.take (i+1)).map enc).flatten=((xs.take i).map enc).flatten++enc xs[i]:=by
  rw[List.take_succ_eq_append_getElem h,List.map_append,List.flatten_append];simp
theorem pre_at {α:Type} (enc:α→Bs) (xs:List α) {l:Bs} {a:Nat} (h:(xs.map enc).flatten<+:l.drop a) (i:Nat) (hi:i<xs.length):enc xs[i]<+:l.drop (a+((xs.take i).map enc).flatten.length):=by
  have e:(xs.map enc).flatten=((xs.take i).map enc).flatten++(enc xs[i]++((xs.drop (i+1)).map enc).flatten):=by
    conv=>lhs;rw[←List.take_append_drop i xs,List.drop_eq_getElem_cons hi,List.map_append,List.flatten_append,List.map_cons,List.flatten_cons]
  rw[e] at h
  exact pre_l (pre_r h)
/-- A list so far:none,or a piece since. -/
def LAt (PS:PL) (sz:Nat) (PS':PL) (x:HV) (R:List (List HV)):Prop:=
  (R=[]∧x=.imm true [])∨(R≠[]∧∃p ver,x=.sl p ver 0 R.length none∧PS.length≤p∧getP PS' p=.arr ver sz R true)
/-- The list as data. -/
theorem LAt.frz {P:Program} {f:FuncId} {args:List HV} {PS:PL} {q sz:Nat} {R:List (List HV)} {K:PL→Prop} (_hq:q<PS.length) (hk:∀PS' p,PS.length≤p→K PS'→K (PS'.set p .dead))
    (h:HCall P f args PS fun r PS'=>LAt PS sz PS' r R∧Ext [q] PS PS'∧K PS'):HCall P f args PS fun r PS'=>r=.imm (decide (R=[])) R∧Ext [q] PS PS'∧K PS':=by
  by_cases hR:R=[]
  · refine h.mono ?_
    rintro r PS' ⟨h1,h2,h3⟩
    rcases h1 with ⟨_,rfl⟩ | ⟨hn,_⟩
    · exact⟨by simp[hR],h2,h3⟩
    · exact absurd hR hn
  · refine HCall.frz (h.mono ?_)
    rintro r PS' ⟨h1,h2,h3⟩
    rcases h1 with ⟨hn,_⟩ | ⟨_,p,ver,rfl,hp,hg⟩
    · exact absurd hn hR
    · refine⟨p,ver,sz,R,true,_,_,hg,.sl 0 R.length none (by omega),FrzPS.only (getP_lt hg),?_,h2.since (Ext.set PS' p _) (by intro m hm;simp at hm;subst hm;exact .inr hp),hk _ _ hp h3⟩
      simp[hR]
end Go.Mo
namespace Go.Proofs.YtdlfmajopcbllaaGreat
open Go Go.Eng Go.Mo
variable [Toks]
set_option maxRecDepth 20000
attribute [local irreducible] hvc hops hop hplan hdrawP hval1 hopD HLoop
theorem some_kids (PS:PL) (q:Nat) (t:Bool) (l:Bs) (a:Nat) (xs:List Nat) (hl:l.length≤1000) (hq:getP PS q=rdP t l a) (h:(xs.map (putLE · 4)).flatten<+:l.drop a) (ok:∀n∈xs,n<4294967296) (hm:xs.length≤1000):
    HCall Tryz.prog 214 [.int .i64 xs.length,.func (.func 215) [.ptr q 0 0 0] []] PS fun r PS'=>r=.imm (decide (xs.map (fun n:Nat=>[HV.int .i64 (n:Int)])=[])) (xs.map fun n:Nat=>[HV.int .i64 (n:Int)])∧Ext [q] PS PS'∧getP PS' q=rdP t l (a+((xs.map (putLE · 4)).flatten).length):=by
    have hlt:=getP_lt hq
    refine LAt.frz (sz:=1) hlt (fun PS' p hp h=>(getP_set_ne _ (by omega)).trans h) ?_
    refine enter_214 (by unfold Tryz.f214;exact rfl) ?_
    simp only[go_sem,seval, -List.reduceReplicate]
    refine pend_intro (loop_rule (α:=Nat×HV) [false,false,false,false,false,false,false,false,true,true,true,true,true,true,true] (fun b=>[(7,.int .i64 b.1),(5,b.2)]) (fun b=>xs.length - b.1) (fun b PS'=>b.1≤xs.length∧LAt PS 1 PS' b.2 ((xs.take b.1).map (fun n=>[HV.int .i64 ((n:Nat):Int)]))∧Ext [q] PS PS'∧getP PS' q=rdP t l (a+((xs.take b.1).map (putLE · 4)).flatten.length)) (0,.imm true []) ⟨Nat.zero_le _,.inl ⟨rfl,rfl⟩,(Ext.refl PS).mono (by simp),hq⟩ ?_ ?_)
    · simp only[go_sem,seval, -List.reduceReplicate,Int.natCast_zero]
    rintro⟨i,x⟩ PS1 ⟨hi,h1,hx,hq1⟩
    simp only at hi h1 hx hq1
    by_cases hlt:i<xs.length
    · have hp:=pre_at _ xs h i hlt
      have hfs:=flat_succ (putLE · 4) xs i hlt
      have hrs:(xs.take (i+1)).map (fun n=>[HV.int .i64 ((n:Nat):Int)])=(xs.take i).map (fun n=>[HV.int .i64 ((n:Nat):Int)])++[(fun n=>[HV.int .i64 ((n:Nat):Int)]) xs[i]]:=by rw[List.take_succ_eq_append_getElem hlt,List.map_append];rfl
      have hrl:((xs.take i).map (fun n=>[HV.int .i64 ((n:Nat):Int)])).length=i:=by simp;omega
      simp only[go_sem,seval, -List.reduceReplicate,hlt]
      refine pend_intro ((rd_kid PS1 q t l _ xs[i] hl hq1 hp (ok _ (List.getElem_mem hlt))).mono ?_)
      rintro _ PS2 ⟨rfl,hx2,hq2⟩
      have hx3:=hx.since hx2 (by simp)
      rcases h1 with ⟨hn,rfl⟩ | ⟨_,p,ver,rfl,hpl,hg⟩
      · have hi0:i=0:=by rw[hn] at hrl;exact hrl.symm
        simp only[go_sem,seval, -List.reduceReplicate]
        refine⟨by simp[putLE_len],by simp,by omega,(i+1,.sl PS2.length 0 0 1 none),by simp only;omega,⟨by simp only;omega,.inr ⟨by rw[hrs];simp,PS2.length,0,?_,hx3.1,?_⟩,hx3.since (Ext.app PS2 _) (by simp),?_⟩,.inl rfl,rfl⟩
        · simp only;rw[hrs,hn];rfl
        · simp only;rw[hrs,hn];exact getP_last _ _
        · simp only;rw[hfs,List.length_append,←Nat.add_assoc];exact getP_app _ hq2
      · have hg2:=hx2.get hg (by simp;omega)
        have htl:(xs.take i).length=i:=by rw[List.length_take];omega
        simp only[go_sem,seval, -List.reduceReplicate,hg2,htl]
        refine⟨by simp[putLE_len],.inl ⟨by omega,by omega,(i+1,.sl p (ver+1) 0 (i+1) none),by simp only;omega,⟨by simp only;omega,.inr ⟨by rw[hrs];simp,p,ver+1,?_,hpl,?_⟩,hx3.since (Ext.set PS2 p _) (by intro m hm;simp at hm;subst hm;exact .inr hpl),?_⟩,.inl rfl,rfl⟩⟩
        · simp only;rw[hrs,List.length_append,hrl];rfl
        · simp only;rw[hrs];exact getP_set_eq _ hg2
        · simp only;rw[hfs,List.length_append,←Nat.add_assoc];exact(getP_set_ne _ (by omega)).trans hq2
    · have hi:i=xs.length:=by omega
      subst hi
      rw[List.take_length] at h1 hq1
      simp only[go_sem,seval, -List.reduceReplicate,hlt]
      exact⟨h1,hx,hq1⟩
theorem rd_key2 (PS:PL) (q:Nat) (t:Bool) (l:Bs) (a:Nat) (s:Bs) (hl:l.length≤1000) (hq:getP PS q=rdP t l a) (h:txt s<+:l.drop a) (hs:s.length≤8):
    HCall Tryz.prog 217 [.ptr q 0 0 0] PS fun r PS'=>r=.agg (keyL s)∧Ext [q] PS PS'∧getP PS' q=rdP t l (a+(txt s).length):=by
  rw[txt_len,show a+(s.length+1)=a+1+s.length by omega]
  exact rd_key PS q t l a s hl hq h hs
theorem some_keys (PS:PL) (q:Nat) (t:Bool) (l:Bs) (a:Nat) (xs:List Bs) (hl:l.length≤1000) (hq:getP PS q=rdP t l a) (h:(xs.map txt).flatten<+:l.drop a) (ok:∀n∈xs,okK n) (hm:xs.length≤1000):
    HCall Tryz.prog 216 [.int .i64 xs.length,.func (.func 217) [.ptr q 0 0 0] []] PS fun r PS'=>r=.imm (decide (xs.map keyL=[])) (xs.map keyL)∧Ext [q] PS PS'∧getP PS' q=rdP t l (a+((xs.map txt).flatten).length):=by
    have hlt:=getP_lt hq
    refine LAt.frz (sz:=9) hlt (fun PS' p hp h=>(getP_set_ne _ (by omega)).trans h) ?_
    refine enter_216 (by unfold Tryz.f216;exact rfl) ?_
    simp only[go_sem,seval, -List.reduceReplicate]
    refine pend_intro (loop_rule (α:=Nat×HV) [false,false,false,false,false,false,false,false,true,true,true,true,true,true,true] (fun b=>[(7,.int .i64 b.1),(5,b.2)]) (fun b=>xs.length - b.1) (fun b PS'=>b.1≤xs.length∧LAt PS 9 PS' b.2 ((xs.take b.1).map keyL)∧Ext [q] PS PS'∧getP PS' q=rdP t l (a+((xs.take b.1).map txt).flatten.length)) (0,.imm true []) ⟨Nat.zero_le _,.inl ⟨rfl,rfl⟩,(Ext.refl PS).mono (by simp),hq⟩ ?_ ?_)
    · simp only[go_sem,seval, -List.reduceReplicate,Int.natCast_zero]
    rintro⟨i,x⟩ PS1 ⟨hi,h1,hx,hq1⟩
    simp only at hi h1 hx hq1
    by_cases hlt:i<xs.length
    · have hp:=pre_at _ xs h i hlt
      have hfs:=flat_succ txt xs i hlt
      have hrs:(xs.take (i+1)).map keyL=(xs.take i).map keyL++[keyL xs[i]]:=by rw[List.take_succ_eq_append_getElem hlt,List.map_append];rfl
      have hrl:((xs.take i).map keyL).length=i:=by simp;omega
      simp only[go_sem,seval, -List.reduceReplicate,hlt]
      refine pend_intro ((rd_key2 PS1 q t l _ xs[i] hl hq1 hp (ok _ (List.getElem_mem hlt))).mono ?_)
      rintro _ PS2 ⟨rfl,hx2,hq2⟩
      have hx3:=hx.since hx2 (by simp)
      rcases h1 with ⟨hn,rfl⟩ | ⟨_,p,ver,rfl,hpl,hg⟩
      · have hi0:i=0:=by rw[hn] at hrl;exact hrl.symm
        simp only[go_sem,seval, -List.reduceReplicate]
        refine⟨by simp[keyL_len],by simp,by omega,(i+1,.sl PS2.length 0 0 1 none),by simp only;omega,⟨by simp only;omega,.inr ⟨by rw[hrs];simp,PS2.length,0,?_,hx3.1,?_⟩,hx3.since (Ext.app PS2 _) (by simp),?_⟩,.inl rfl,rfl⟩
        · simp only;rw[hrs,hn];rfl
        · simp only;rw[hrs,hn];exact getP_last _ _
        · simp only;rw[hfs,List.length_append,←Nat.add_assoc];exact getP_app _ hq2
      · have hg2:=hx2.get hg (by simp;omega)
        have htl:(xs.take i).length=i:=by rw[List.length_take];omega
        simp only[go_sem,seval, -List.reduceReplicate,hg2,htl]
        refine⟨by simp[keyL_len],.inl ⟨by omega,by omega,(i+1,.sl p (ver+1) 0 (i+1) none),by simp only;omega,⟨by simp only;omega,.inr ⟨by rw[hrs];simp,p,ver+1,?_,hpl,?_⟩,hx3.since (Ext.set PS2 p _) (by intro m hm;simp at hm;subst hm;exact .inr hpl),?_⟩,.inl rfl,rfl⟩⟩
        · simp only;rw[hrs,List.length_append,hrl];rfl
        · simp only;rw[hrs];exact getP_set_eq _ hg2
        · simp only;rw[hfs,List.length_append,←Nat.add_assoc];exact(getP_set_ne _ (by omega)).trans hq2
    · have hi:i=xs.length:=by omega
      subst hi
      rw[List.take_length] at h1 hq1
      simp only[go_sem,seval, -List.reduceReplicate,hlt]
      exact⟨h1,hx,hq1⟩
theorem some_ents (PS:PL) (q:Nat) (t:Bool) (l:Bs) (a:Nat) (xs:List (Bs×Bs)) (hl:l.length≤1000) (hq:getP PS q=rdP t l a) (h:(xs.map encEnt).flatten<+:l.drop a) (ok:∀e∈xs,okK e.1∧okV e.2) (hm:xs.length≤1000):
    HCall Tryz.prog 212 [.int .i64 xs.length,.func (.func 213) [.ptr q 0 0 0] []] PS fun r PS'=>r=.imm (decide (xs.map entL=[])) (xs.map entL)∧Ext [q] PS PS'∧getP PS' q=rdP t l (a+((xs.map encEnt).flatten).length):=by
    have hlt:=getP_lt hq
    refine LAt.frz (sz:=26) hlt (fun PS' p hp h=>(getP_set_ne _ (by omega)).trans h) ?_
    refine enter_212 (by unfold Tryz.f212;exact rfl) ?_
    simp only[go_sem,seval, -List.reduceReplicate]
    refine pend_intro (loop_rule (α:=Nat×HV) [false,false,false,false,false,false,false,false,true,true,true,true,true,true,true] (fun b=>[(7,.int .i64 b.1),(5,b.2)]) (fun b=>xs.length - b.1) (fun b PS'=>b.1≤xs.length∧LAt PS 26 PS' b.2 ((xs.take b.1).map entL)∧Ext [q] PS PS'∧getP PS' q=rdP t l (a+((xs.take b.1).map encEnt).flatten.length)) (0,.imm true []) ⟨Nat.zero_le _,.inl ⟨rfl,rfl⟩,(Ext.refl PS).mono (by simp),hq⟩ ?_ ?_)
    · simp only[go_sem,seval, -List.reduceReplicate,Int.natCast_zero]
    rintro⟨i,x⟩ PS1 ⟨hi,h1,hx,hq1⟩
    simp only at hi h1 hx hq1
    by_cases hlt:i<xs.length
    · have hp:=pre_at _ xs h i hlt
      have hfs:=flat_succ encEnt xs i hlt
      have hrs:(xs.take (i+1)).map entL=(xs.take i).map entL++[entL xs[i]]:=by rw[List.take_succ_eq_append_getElem hlt,List.map_append];rfl
      have hrl:((xs.take i).map entL).length=i:=by simp;omega
      simp only[go_sem,seval, -List.reduceReplicate,hlt]
      refine pend_intro ((rd_entry PS1 q t l _ xs[i] hl hq1 hp (ok _ (List.getElem_mem hlt)).1 (ok _ (List.getElem_mem hlt)).2).mono ?_)
      rintro _ PS2 ⟨rfl,hx2,hq2⟩
      have hx3:=hx.since hx2 (by simp)
      rcases h1 with ⟨hn,rfl⟩ | ⟨_,p,ver,rfl,hpl,hg⟩
      · have hi0:i=0:=by rw[hn] at hrl;exact hrl.symm
        simp only[go_sem,seval, -List.reduceReplicate]
        refine⟨by simp[entL_len],by simp,by omega,(i+1,.sl PS2.length 0 0 1 none),by simp only;omega,⟨by simp only;omega,.inr ⟨by rw[hrs];simp,PS2.length,0,?_,hx3.1,?_⟩,hx3.since (Ext.app PS2 _) (by simp),?_⟩,.inl rfl,rfl⟩
        · simp only;rw[hrs,hn];rfl
        · simp only;rw[hrs,hn];exact getP_last _ _
        · simp only;rw[hfs,List.length_append,←Nat.add_assoc];exact getP_app _ hq2
      · have hg2:=hx2.get hg (by simp;omega)
        have htl:(xs.take i).length=i:=by rw[List.length_take];omega
        simp only[go_sem,seval, -List.reduceReplicate,hg2,htl]
        refine⟨by simp[entL_len],.inl ⟨by omega,by omega,(i+1,.sl p (ver+1) 0 (i+1) none),by simp only;omega,⟨by simp only;omega,.inr ⟨by rw[hrs];simp,p,ver+1,?_,hpl,?_⟩,hx3.since (Ext.set PS2 p _) (by intro m hm;simp at hm;subst hm;exact .inr hpl),?_⟩,.inl rfl,rfl⟩⟩
        · simp only;rw[hrs,List.length_append,hrl];rfl
        · simp only;rw[hrs];exact getP_set_eq _ hg2
        · simp only;rw[hfs,List.length_append,←Nat.add_assoc];exact(getP_set_ne _ (by omega)).trans hq2
    · have hi:i=xs.length:=by omega
      subst hi
      rw[List.take_length] at h1 hq1
      simp only[go_sem,seval, -List.reduceReplicate,hlt]
      exact⟨h1,hx,hq1⟩
theorem some_msgs (PS:PL) (q:Nat) (t:Bool) (l:Bs) (a:Nat) (xs:List Ms) (hl:l.length≤1000) (hq:getP PS q=rdP t l a) (h:(xs.map encMsg).flatten<+:l.drop a) (ok:∀m∈xs,okM m) (om:∀m∈xs,msgOk m) (hm:xs.length≤1000):
    HCall Tryz.prog 218 [.int .i64 xs.length,.func (.func 219) [.ptr q 0 0 0] []] PS fun r PS'=>r=.imm (decide (xs.map msgL=[])) (xs.map msgL)∧Ext [q] PS PS'∧getP PS' q=rdP t l (a+((xs.map encMsg).flatten).length):=by
    have hlt:=getP_lt hq
    refine LAt.frz (sz:=29) hlt (fun PS' p hp h=>(getP_set_ne _ (by omega)).trans h) ?_
    refine enter_218 (by unfold Tryz.f218;exact rfl) ?_
    simp only[go_sem,seval, -List.reduceReplicate]
    refine pend_intro (loop_rule (α:=Nat×HV) [false,false,false,false,false,false,false,false,true,true,true,true,true,true,true] (fun b=>[(7,.int .i64 b.1),(5,b.2)]) (fun b=>xs.length - b.1) (fun b PS'=>b.1≤xs.length∧LAt PS 29 PS' b.2 ((xs.take b.1).map msgL)∧Ext [q] PS PS'∧getP PS' q=rdP t l (a+((xs.take b.1).map encMsg).flatten.length)) (0,.imm true []) ⟨Nat.zero_le _,.inl ⟨rfl,rfl⟩,(Ext.refl PS).mono (by simp),hq⟩ ?_ ?_)
    · simp only[go_sem,seval, -List.reduceReplicate,Int.natCast_zero]
    rintro⟨i,x⟩ PS1 ⟨hi,h1,hx,hq1⟩
    simp only at hi h1 hx hq1
    by_cases hlt:i<xs.length
    · have hp:=pre_at _ xs h i hlt
      have hfs:=flat_succ encMsg xs i hlt
      have hrs:(xs.take (i+1)).map msgL=(xs.take i).map msgL++[msgL xs[i]]:=by rw[List.take_succ_eq_append_getElem hlt,List.map_append];rfl
      have hrl:((xs.take i).map msgL).length=i:=by simp;omega
      simp only[go_sem,seval, -List.reduceReplicate,hlt]
      refine pend_intro ((rd_msg PS1 q t l _ xs[i] hl hq1 hp (om _ (List.getElem_mem hlt)) (ok _ (List.getElem_mem hlt)).key (ok _ (List.getElem_mem hlt)).val (ok _ (List.getElem_mem hlt)).seq (ok _ (List.getElem_mem hlt)).by_).mono ?_)
      rintro _ PS2 ⟨rfl,hx2,hq2⟩
      have hx3:=hx.since hx2 (by simp)
      rcases h1 with ⟨hn,rfl⟩ | ⟨_,p,ver,rfl,hpl,hg⟩
      · have hi0:i=0:=by rw[hn] at hrl;exact hrl.symm
        simp only[go_sem,seval, -List.reduceReplicate]
        refine⟨by simp[msgL_len],by simp,by omega,(i+1,.sl PS2.length 0 0 1 none),by simp only;omega,⟨by simp only;omega,.inr ⟨by rw[hrs];simp,PS2.length,0,?_,hx3.1,?_⟩,hx3.since (Ext.app PS2 _) (by simp),?_⟩,.inl rfl,rfl⟩
        · simp only;rw[hrs,hn];rfl
        · simp only;rw[hrs,hn];exact getP_last _ _
        · simp only;rw[hfs,List.length_append,←Nat.add_assoc];exact getP_app _ hq2
      · have hg2:=hx2.get hg (by simp;omega)
        have htl:(xs.take i).length=i:=by rw[List.length_take];omega
        simp only[go_sem,seval, -List.reduceReplicate,hg2,htl]
        refine⟨by simp[msgL_len],.inl ⟨by omega,by omega,(i+1,.sl p (ver+1) 0 (i+1) none),by simp only;omega,⟨by simp only;omega,.inr ⟨by rw[hrs];simp,p,ver+1,?_,hpl,?_⟩,hx3.since (Ext.set PS2 p _) (by intro m hm;simp at hm;subst hm;exact .inr hpl),?_⟩,.inl rfl,rfl⟩⟩
        · simp only;rw[hrs,List.length_append,hrl];rfl
        · simp only;rw[hrs];exact getP_set_eq _ hg2
        · simp only;rw[hfs,List.length_append,←Nat.add_assoc];exact(getP_set_ne _ (by omega)).trans hq2
    · have hi:i=xs.length:=by omega
      subst hi
      rw[List.take_length] at h1 hq1
      simp only[go_sem,seval, -List.reduceReplicate,hlt]
      exact⟨h1,hx,hq1⟩
end Go.Proofs.YtdlfmajopcbllaaGreat
namespace Go.Proofs.YtdlfmajopcbllaaGreat
open Go Go.Eng Go.Mo
variable [Toks]
set_option maxRecDepth 20000
attribute [local irreducible] hvc hops hop hplan hdrawP hval1 hopD HLoop
theorem bytes_equal (s t:Bool) (a b:Bs):Pure Tryz.prog 211 [.imm s (bytesRows a),.imm t (bytesRows b)] (.bool (decide (a=b))):=by
  intro PS
  refine enter_211 (by unfold Tryz.f211;exact rfl) ?_
  simp only[go_sem,seval, -List.reduceReplicate]
theorem enc_clear (n:Nd):hsplice 4 (List.replicate 4 [HV.int .u8 0]) (bytesRows (encB n))=bytesRows (rawB n):=by
  have e:bytesRows (encB n)=bytesRows (headB n)++(bytesRows (putLE (crcSum (rawB n)) 4)++(bytesRows (bodyB n)++bytesRows (List.replicate (248 - (bodyB n).length) 0))):=by
    rw[encB];simp only[bytesRows_app,List.append_assoc]
  rw[rawB]
  simp only[bytesRows_app,List.append_assoc]
  rw[e]
  unfold hsplice
  have h4:(bytesRows (headB n)).length=4:=by rw[bytesRows_len,headB_len]
  have h5:(bytesRows (putLE (crcSum (rawB n)) 4)).length=4:=by rw[bytesRows_len,putLE_len]
  rw[List.take_left' h4,List.length_replicate,←List.drop_drop,List.drop_left' h4,List.drop_left' h5]
  rfl
theorem flat_ge {α:Type} (enc:α→Bs) (xs:List α) (h:∀x,1≤(enc x).length):xs.length≤(xs.map enc).flatten.length:=by
  induction xs with
  | nil=>simp
  | cons x xs ih=>have:=h x;simp only[List.map_cons,List.flatten_cons,List.length_append,List.length_cons];omega
theorem codec_decode (t:Bool) (n:Nd) (ok:okN n) (hf:nodFits n):∃u,Pure Tryz.prog 132 [.imm t (bytesRows (encB n))] (.tup [.agg (nodL u n),.int .i64 0]):=by
  refine⟨⟨decide (n.ents.map entL=[]),decide (n.kids.map kidL=[]),decide (n.pivs.map keyL=[]),decide (n.msgs.map msgL=[])⟩,?_⟩
  refine Pure.of_ext (by rw[scoped_tup];intro x hx;simp at hx;rcases hx with rfl | rfl;exact sc_nod _ _;exact .int _ _) fun PS=>?_
  have hl:=encB_len ok hf
  have hrl:=rawB_len ok hf
  have hlr:(bytesRows (encB n)).length=256:=by rw[bytesRows_len,hl]
  refine enter_132 (by unfold Tryz.f132;exact rfl) ?_
  simp only[go_sem,seval, -List.reduceReplicate,hlr]
  intro _
  have hZ:=getP_last PS (Piece.arr 0 5 [[HV.bool false,HV.imm true [],HV.imm true [],HV.imm true [],HV.imm true []]] false)
  have hx1:=Ext.app PS [Piece.arr 0 5 [[HV.bool false,HV.imm true [],HV.imm true [],HV.imm true [],HV.imm true []]] false]
  have hlt:=getP_lt hZ
  generalize PS++[Piece.arr 0 5 [[HV.bool false,HV.imm true [],HV.imm true [],HV.imm true [],HV.imm true []]] false]=PS1 at hZ hx1 hlt
  refine pend_intro ((cl_byte_imm PS1 t (bytesRows (encB n)) (bytesRows_one _) (by simp[hroom,hlr])).mono ?_)
  rintro _ _ ⟨rfl,rfl⟩
  have hg:=getP_last PS1 (Piece.arr 0 1 (bytesRows (encB n)) true)
  have hz:∀Q Q',(PS1++[Q]).set PS1.length Q'=PS1++[Q']:=fun Q Q'=>by simp
  have hcl:=enc_clear n
  simp only[go_sem,seval, -List.reduceReplicate,hlr,hg,hz,hcl]
  have hne:¬bytesRows (encB n)=[]:=by intro h;rw[h] at hlr;simp at hlr
  have hg1:=getP_last PS1 (Piece.arr 0 1 (bytesRows (rawB n)) true)
  have hx2:=hx1.trans (Ext.app PS1 [Piece.arr 0 1 (bytesRows (rawB n)) true])
  have hZ2:=getP_app [Piece.arr 0 1 (bytesRows (rawB n)) true] hZ
  generalize PS1++[Piece.arr 0 1 (bytesRows (rawB n)) true]=PS2 at hg1 hx2 hZ2
  have hr:Reads Tryz.prog 203 [.sl PS1.length 0 0 256 none] PS2 (.imm false (bytesRows (putLE (crcSum (rawB n)) 4))):=fun Q hq=>by
    have:=codec_sum Q PS1.length 0 (rawB n) none true (hq.arr hg1) (by omega)
    rwa [hrl] at this
  refine⟨hne,by simp,hne,pend_intro (hr.to ?_)⟩
  have h48:List.drop 4 (List.take 8 (bytesRows (encB n)))=bytesRows (putLE (crcSum (rawB n)) 4):=by
    rw[encB]
    simp only[bytesRows_app,List.append_assoc]
    have h4:(bytesRows (headB n)).length=4:=by rw[bytesRows_len,headB_len]
    have h5:(bytesRows (putLE (crcSum (rawB n)) 4)).length=4:=by rw[bytesRows_len,putLE_len]
    rw[←List.take_drop (i:=4) (j:=4),List.drop_left' h4,List.take_left' h5]
  simp only[go_sem,seval, -List.reduceReplicate,hlr,h48]
  refine pend_intro (Reads.to (Pure.reads (bytes_equal _ _ _ _) _) ?_)
  have hbl:=bodyB_len ok hf
  simp only[bodyB,List.length_append] at hbl
  have g1:=flat_ge encEnt n.ents (fun e=>by simp[encEnt,txt_len];omega)
  have g2:=flat_ge encKid n.kids (fun e=>by simp[encKid,putLE_len])
  have g4:=flat_ge encMsg n.msgs (fun e=>by simp[encMsg])
  change _≤(encEnts n.ents).length at g1
  change _≤(encKids n.kids).length at g2
  change _≤(encMsgs n.msgs).length at g4
  have hbd:bodyB n<+:(encB n).drop 8:=⟨List.replicate (248 - (bodyB n).length) 0,by
    rw[encB,List.append_assoc _ (bodyB n),List.drop_left' (by rw[List.length_append,headB_len,putLE_len])]⟩
  have hb2:(bytesRows (encB n))[2]? =some [.int .u8 (n.msgs.length:Nat)]:=by
    have:(UInt8.ofNat n.msgs.length).toNat=n.msgs.length:=by simp;omega
    rw[←this];rfl
  by_cases hlf:n.leaf=true
  · have hb0:(bytesRows (encB n))[0]? =some [.int .u8 1]:=by simp[encB,headB,hlf,bytesRows]
    have hb1:(bytesRows (encB n))[1]? =some [.int .u8 (n.ents.length:Nat)]:=by
      have h:(UInt8.ofNat n.ents.length).toNat=n.ents.length:=by simp;omega
      rw[←h];simp[encB,headB,hlf,bytesRows]
    simp only[go_sem,seval, -List.reduceReplicate,hlr,hb0,hb1,hb2]
    refine⟨by omega,by omega,by omega,by omega,pend_intro ?_⟩
    obtain⟨hnk,hnp,hnm⟩:n.kids=[]∧n.pivs=[]∧n.msgs=[]:=by
      have:=hf.1
      unfold nodOk at this
      rw[if_pos hlf] at this
      exact this.2
    have hnod:HV.agg [.bool true,.imm (decide (n.ents.map entL=[])) (n.ents.map entL),.imm true [],.imm true [],.imm (decide (n.msgs.map msgL=[])) (n.msgs.map msgL)]=.agg (nodL ⟨decide (n.ents.map entL=[]),decide (n.kids.map kidL=[]),decide (n.pivs.map keyL=[]),decide (n.msgs.map msgL=[])⟩ n):=by
      rw[nodL,hlf,hnk,hnp];rfl
    obtain⟨q,hqq⟩:∃q,q=PS2.length:=⟨_,rfl⟩
    rw[←hqq]
    have hqr:getP (PS2++[Piece.arr 0 3 [[HV.imm t (bytesRows (encB n)),HV.int .i64 8,HV.bool false]] false,Piece.arr 0 5 [[HV.bool true,HV.imm true [],HV.imm true [],HV.imm true [],HV.imm true []]] false]) q=rdP t (encB n) 8:=by
      subst hqq;simp[getP,rdP]
    have hnn:getP (PS2++[Piece.arr 0 3 [[HV.imm t (bytesRows (encB n)),HV.int .i64 8,HV.bool false]] false,Piece.arr 0 5 [[HV.bool true,HV.imm true [],HV.imm true [],HV.imm true [],HV.imm true []]] false]) (q+1)=Piece.arr 0 5 [[HV.bool true,HV.imm true [],HV.imm true [],HV.imm true [],HV.imm true []]] false:=by
      subst hqq;simp[getP,List.getElem?_append_right]
    have hx3:Ext [] PS (PS2++[Piece.arr 0 3 [[HV.imm t (bytesRows (encB n)),HV.int .i64 8,HV.bool false]] false,Piece.arr 0 5 [[HV.bool true,HV.imm true [],HV.imm true [],HV.imm true [],HV.imm true []]] false]):=hx2.trans (Ext.app _ _)
    have hZ3:=getP_app [Piece.arr 0 3 [[HV.imm t (bytesRows (encB n)),HV.int .i64 8,HV.bool false]] false,Piece.arr 0 5 [[HV.bool true,HV.imm true [],HV.imm true [],HV.imm true [],HV.imm true []]] false] hZ2
    have hql:PS.length<q:=by have:=getP_lt hZ2;omega
    generalize PS2++[Piece.arr 0 3 [[HV.imm t (bytesRows (encB n)),HV.int .i64 8,HV.bool false]] false,Piece.arr 0 5 [[HV.bool true,HV.imm true [],HV.imm true [],HV.imm true [],HV.imm true []]] false]=PS3 at hqr hnn hx3 hZ3 ⊢
    obtain⟨f1,f2,f3,f4⟩:=ok.few
    have hpe:(n.ents.map encEnt).flatten<+:(encB n).drop 8:=pre_l (pre_l (pre_l hbd))
    refine(some_ents PS3 q t (encB n) 8 n.ents (by omega) hqr hpe ok.ents f1).mono ?_
    rintro _ PS4 ⟨rfl,hx4,hq4⟩
    have hn4:=hx4.get hnn (by simp)
    have hP4:=hx3.since hx4 (by intro m hm;simp at hm;subst hm;right;omega)
    have hl4:=getP_lt hn4
    have hy4:∀Q,getP (PS4.set (q+1) Q) (q+1)=Q:=fun Q=>getP_set_eq Q hn4
    have hx5:∀Q,Ext [] PS (PS4.set (q+1) Q):=fun Q=>hP4.since (Ext.set PS4 (q+1) Q) (by intro m hm;simp at hm;subst hm;right;omega)
    have hq5:∀Q,getP (PS4.set (q+1) Q) q=rdP t (encB n) (8+(encEnts n.ents).length):=fun Q=>(getP_set_ne Q (by omega)).trans hq4
    simp only[go_sem,seval, -List.reduceReplicate,hn4,hy4]
    have hZx:=fun Q=>(getP_set_ne Q (by omega:q+1≠PS.length)).trans (hx4.get hZ3 (by simp;omega))
    have hnx:=hy4 (Piece.arr 0 5 [[HV.bool true,HV.imm (decide (n.ents.map entL=[])) (n.ents.map entL),HV.imm true [],HV.imm true [],HV.imm true []]] false)
    have hxx:=hx5 (Piece.arr 0 5 [[HV.bool true,HV.imm (decide (n.ents.map entL=[])) (n.ents.map entL),HV.imm true [],HV.imm true [],HV.imm true []]] false)
    have hqx:=hq5 (Piece.arr 0 5 [[HV.bool true,HV.imm (decide (n.ents.map entL=[])) (n.ents.map entL),HV.imm true [],HV.imm true [],HV.imm true []]] false)
    replace hZx:=hZx (Piece.arr 0 5 [[HV.bool true,HV.imm (decide (n.ents.map entL=[])) (n.ents.map entL),HV.imm true [],HV.imm true [],HV.imm true []]] false)
    generalize PS4.set (q+1) (Piece.arr 0 5 [[HV.bool true,HV.imm (decide (n.ents.map entL=[])) (n.ents.map entL),HV.imm true [],HV.imm true [],HV.imm true []]] false)=PSx at hZx hnx hxx hqx ⊢
    have hmx:(n.msgs.map encMsg).flatten<+:(encB n).drop (8+(encEnts n.ents).length):=(by rw[hnm];exact List.nil_prefix)
    refine pend_intro ((some_msgs PSx q t (encB n) (8+(encEnts n.ents).length) n.msgs (by omega) hqx hmx ok.msgs (fun m hm=>msgs_ok hf hm) f4).mono ?_)
    rintro _ PS6 ⟨rfl,hx6,hq6⟩
    have hn6:=hx6.get hnx (by simp)
    have hP6:=hxx.since hx6 (by intro m hm;simp at hm;subst hm;right;omega)
    have hy6:∀Q,getP (PS6.set (q+1) Q) (q+1)=Q:=fun Q=>getP_set_eq Q hn6
    have hq7:∀Q,getP (PS6.set (q+1) Q) q=rdP t (encB n) _:=fun Q=>(getP_set_ne Q (by omega)).trans hq6
    simp only[go_sem,seval, -List.reduceReplicate,hn6,hy6,hq7,rdP]
    refine pend_intro ?_
    rw[hnod]
    refine(codec_encode _ n ok hf).call ?_
    simp only[go_sem,seval, -List.reduceReplicate,hn6,hy6,hq7,rdP]
    refine pend_intro ((bytes_equal _ _ _ _).call ?_)
    have hZ6:=hx6.get hZx (by simp;omega)
    have hZ7:∀Q,getP (PS6.set (q+1) Q) PS.length=_:=fun Q=>(getP_set_ne Q (by omega)).trans hZ6
    have hZ8:∀Q Q',getP ((PS6.set (q+1) Q).set PS.length Q') PS.length=Q':=fun Q Q'=>getP_set_eq Q' (hZ7 Q)
    simp only[go_sem,seval, -List.reduceReplicate,hn6,hy6,hq7,rdP,hZ7,hZ8]
    rw[hnod]
    exact⟨rfl,(hP6.since (Ext.set _ (q+1) _) (by intro m hm;simp at hm;subst hm;right;omega)).since (Ext.set _ PS.length _) (by simp)⟩
  · have hlf':n.leaf=false:=by simpa using hlf
    have hb0:(bytesRows (encB n))[0]? =some [.int .u8 2]:=by simp[encB,headB,hlf',bytesRows]
    have hb1:(bytesRows (encB n))[1]? =some [.int .u8 (n.kids.length:Nat)]:=by
      have h:(UInt8.ofNat n.kids.length).toNat=n.kids.length:=by simp;omega
      rw[←h];simp[encB,headB,hlf',bytesRows]
    obtain⟨hne,hki,hmi⟩:n.ents=[]∧kidsOk n.kids n.pivs∧msgsOk n.msgs:=by
      have:=hf.1
      unfold nodOk at this
      rw[if_neg hlf] at this
      exact this
    have hkl:=hki.len
    have hkp:((n.kids.length:Nat):Int) - 1=((n.pivs.length:Nat):Int):=by omega
    have hkpos:∀y∈n.kids,1≤y∧y<256:=fun y hy=>by
      obtain⟨i,hi⟩:=List.mem_iff_getElem?.1 hy
      exact kids_pos hf hi
    obtain⟨xs,hxs⟩:∃xs:List Nat,xs=n.kids.map Int.toNat:=⟨_,rfl⟩
    have hxk:xs.map (fun x:Nat=>[HV.int .i64 (x:Int)])=n.kids.map kidL:=by
      rw[hxs,List.map_map]
      refine List.map_congr_left fun y hy=>?_
      have:=hkpos y hy
      show [HV.int .i64 ((y.toNat:Nat):Int)]=[HV.int .i64 y]
      rw[Int.toNat_of_nonneg (by omega)]
    have hxe:xs.map (putLE · 4)=n.kids.map encKid:=by rw[hxs,List.map_map];rfl
    have hxl:xs.length=n.kids.length:=by rw[hxs,List.length_map]
    have hnod:HV.agg [.bool false,.imm true [],.imm (decide (n.kids.map kidL=[])) (n.kids.map kidL),.imm (decide (n.pivs.map keyL=[])) (n.pivs.map keyL),.imm (decide (n.msgs.map msgL=[])) (n.msgs.map msgL)]=.agg (nodL ⟨decide (n.ents.map entL=[]),decide (n.kids.map kidL=[]),decide (n.pivs.map keyL=[]),decide (n.msgs.map msgL=[])⟩ n):=by
      rw[nodL,hlf',hne];rfl
    simp only[go_sem,seval, -List.reduceReplicate,hlr,hb0,hb1,hb2]
    refine⟨by omega,by omega,by omega,by omega,pend_intro ?_⟩
    obtain⟨q,hqq⟩:∃q,q=PS2.length:=⟨_,rfl⟩
    rw[←hqq]
    have hqr:getP (PS2++[Piece.arr 0 3 [[HV.imm t (bytesRows (encB n)),HV.int .i64 8,HV.bool false]] false,Piece.arr 0 5 [[HV.bool false,HV.imm true [],HV.imm true [],HV.imm true [],HV.imm true []]] false]) q=rdP t (encB n) 8:=by
      subst hqq;simp[getP,rdP]
    have hnn:getP (PS2++[Piece.arr 0 3 [[HV.imm t (bytesRows (encB n)),HV.int .i64 8,HV.bool false]] false,Piece.arr 0 5 [[HV.bool false,HV.imm true [],HV.imm true [],HV.imm true [],HV.imm true []]] false]) (q+1)=Piece.arr 0 5 [[HV.bool false,HV.imm true [],HV.imm true [],HV.imm true [],HV.imm true []]] false:=by
      subst hqq;simp[getP,List.getElem?_append_right]
    have hx3:Ext [] PS (PS2++[Piece.arr 0 3 [[HV.imm t (bytesRows (encB n)),HV.int .i64 8,HV.bool false]] false,Piece.arr 0 5 [[HV.bool false,HV.imm true [],HV.imm true [],HV.imm true [],HV.imm true []]] false]):=hx2.trans (Ext.app _ _)
    have hZ3:=getP_app [Piece.arr 0 3 [[HV.imm t (bytesRows (encB n)),HV.int .i64 8,HV.bool false]] false,Piece.arr 0 5 [[HV.bool false,HV.imm true [],HV.imm true [],HV.imm true [],HV.imm true []]] false] hZ2
    have hql:PS.length<q:=by have:=getP_lt hZ2;omega
    generalize PS2++[Piece.arr 0 3 [[HV.imm t (bytesRows (encB n)),HV.int .i64 8,HV.bool false]] false,Piece.arr 0 5 [[HV.bool false,HV.imm true [],HV.imm true [],HV.imm true [],HV.imm true []]] false]=PS3 at hqr hnn hx3 hZ3 ⊢
    obtain⟨f1,f2,f3,f4⟩:=ok.few
    have hpe:(n.ents.map encEnt).flatten<+:(encB n).drop 8:=pre_l (pre_l (pre_l hbd))
    have hpk:(xs.map (putLE · 4)).flatten<+:(encB n).drop 8:=by
      rw[hxe]
      have:=pre_l (pre_l hbd)
      rw[hne] at this
      simpa [encEnts,encKids] using this
    have hkids:=some_kids PS3 q t (encB n) 8 xs (by omega) hqr hpk (fun x hx=>by rw[hxs] at hx;obtain⟨y,hy,rfl⟩:=List.mem_map.1 hx;have:=hkpos y hy;omega) (by omega)
    rw[hxk,hxe,hxl] at hkids
    refine hkids.mono ?_
    rintro _ PS4 ⟨rfl,hx4,hq4⟩
    have hn4:=hx4.get hnn (by simp)
    have hP4:=hx3.since hx4 (by intro m hm;simp at hm;subst hm;right;omega)
    have hl4:=getP_lt hn4
    have hy4:∀Q,getP (PS4.set (q+1) Q) (q+1)=Q:=fun Q=>getP_set_eq Q hn4
    have hx5:∀Q,Ext [] PS (PS4.set (q+1) Q):=fun Q=>hP4.since (Ext.set PS4 (q+1) Q) (by intro m hm;simp at hm;subst hm;right;omega)
    have hq5:∀Q,getP (PS4.set (q+1) Q) q=rdP t (encB n) (8+(encKids n.kids).length):=fun Q=>(getP_set_ne Q (by omega)).trans hq4
    have hZ5:=fun Q=>(getP_set_ne Q (by omega:q+1≠PS.length)).trans (hx4.get hZ3 (by simp;omega))
    simp only[go_sem,seval, -List.reduceReplicate,hn4,hy4,hkp]
    replace hy4:=hy4 (Piece.arr 0 5 [[HV.bool false,HV.imm true [],HV.imm (decide (n.kids.map kidL=[])) (n.kids.map kidL),HV.imm true [],HV.imm true []]] false)
    replace hx5:=hx5 (Piece.arr 0 5 [[HV.bool false,HV.imm true [],HV.imm (decide (n.kids.map kidL=[])) (n.kids.map kidL),HV.imm true [],HV.imm true []]] false)
    replace hq5:=hq5 (Piece.arr 0 5 [[HV.bool false,HV.imm true [],HV.imm (decide (n.kids.map kidL=[])) (n.kids.map kidL),HV.imm true [],HV.imm true []]] false)
    replace hZ5:=hZ5 (Piece.arr 0 5 [[HV.bool false,HV.imm true [],HV.imm (decide (n.kids.map kidL=[])) (n.kids.map kidL),HV.imm true [],HV.imm true []]] false)
    generalize PS4.set (q+1) (Piece.arr 0 5 [[HV.bool false,HV.imm true [],HV.imm (decide (n.kids.map kidL=[])) (n.kids.map kidL),HV.imm true [],HV.imm true []]] false)=PS5 at hy4 hx5 hq5 hZ5 ⊢
    have hpp:(n.pivs.map txt).flatten<+:(encB n).drop (8+(encKids n.kids).length):=by
      have:=pre_r (x:=encEnts n.ents++encKids n.kids) (pre_l hbd)
      rw[hne] at this
      simpa [encEnts,encPivs] using this
    refine⟨by omega,pend_intro ((some_keys PS5 q t (encB n) _ n.pivs (by omega) hq5 hpp ok.pivs f3).mono ?_)⟩
    rintro _ PS6 ⟨rfl,hx6,hq6⟩
    have hn6:=hx6.get hy4 (by simp)
    have hP6:=hx5.since hx6 (by intro m hm;simp at hm;subst hm;right;omega)
    have hy6:∀Q,getP (PS6.set (q+1) Q) (q+1)=Q:=fun Q=>getP_set_eq Q hn6
    have hx7:∀Q,Ext [] PS (PS6.set (q+1) Q):=fun Q=>hP6.since (Ext.set PS6 (q+1) Q) (by intro m hm;simp at hm;subst hm;right;omega)
    have hq7:∀Q,getP (PS6.set (q+1) Q) q=rdP t (encB n) (8+(encKids n.kids).length+(encPivs n.pivs).length):=fun Q=>(getP_set_ne Q (by omega)).trans hq6
    have hZ7:=fun Q=>(getP_set_ne Q (by omega:q+1≠PS.length)).trans (hx6.get hZ5 (by simp;omega))
    simp only[go_sem,seval, -List.reduceReplicate,hn6,hy6]
    have hnx:=hy6 (Piece.arr 0 5 [[HV.bool false,HV.imm true [],HV.imm (decide (n.kids.map kidL=[])) (n.kids.map kidL),HV.imm (decide (n.pivs.map keyL=[])) (n.pivs.map keyL),HV.imm true []]] false)
    have hxx:=hx7 (Piece.arr 0 5 [[HV.bool false,HV.imm true [],HV.imm (decide (n.kids.map kidL=[])) (n.kids.map kidL),HV.imm (decide (n.pivs.map keyL=[])) (n.pivs.map keyL),HV.imm true []]] false)
    have hqx:=hq7 (Piece.arr 0 5 [[HV.bool false,HV.imm true [],HV.imm (decide (n.kids.map kidL=[])) (n.kids.map kidL),HV.imm (decide (n.pivs.map keyL=[])) (n.pivs.map keyL),HV.imm true []]] false)
    have hZx:=hZ7 (Piece.arr 0 5 [[HV.bool false,HV.imm true [],HV.imm (decide (n.kids.map kidL=[])) (n.kids.map kidL),HV.imm (decide (n.pivs.map keyL=[])) (n.pivs.map keyL),HV.imm true []]] false)
    clear hy6 hx7 hq7 hZ7
    generalize PS6.set (q+1) (Piece.arr 0 5 [[HV.bool false,HV.imm true [],HV.imm (decide (n.kids.map kidL=[])) (n.kids.map kidL),HV.imm (decide (n.pivs.map keyL=[])) (n.pivs.map keyL),HV.imm true []]] false)=PSx at hZx hnx hxx hqx ⊢
    clear hn6 hP6 hx6 hq6
    have hmx:(n.msgs.map encMsg).flatten<+:(encB n).drop (8+(encKids n.kids).length+(encPivs n.pivs).length):=(by have:=pre_r (x:=encEnts n.ents++encKids n.kids++encPivs n.pivs) hbd;rw[hne] at this;simpa [encEnts,encMsgs,Nat.add_assoc] using this)
    refine pend_intro ((some_msgs PSx q t (encB n) (8+(encKids n.kids).length+(encPivs n.pivs).length) n.msgs (by omega) hqx hmx ok.msgs (fun m hm=>msgs_ok hf hm) f4).mono ?_)
    rintro _ PS6 ⟨rfl,hx6,hq6⟩
    have hn6:=hx6.get hnx (by simp)
    have hP6:=hxx.since hx6 (by intro m hm;simp at hm;subst hm;right;omega)
    have hy6:∀Q,getP (PS6.set (q+1) Q) (q+1)=Q:=fun Q=>getP_set_eq Q hn6
    have hq7:∀Q,getP (PS6.set (q+1) Q) q=rdP t (encB n) _:=fun Q=>(getP_set_ne Q (by omega)).trans hq6
    simp only[go_sem,seval, -List.reduceReplicate,hn6,hy6,hq7,rdP]
    refine pend_intro ?_
    rw[hnod]
    refine(codec_encode _ n ok hf).call ?_
    simp only[go_sem,seval, -List.reduceReplicate,hn6,hy6,hq7,rdP]
    refine pend_intro ((bytes_equal _ _ _ _).call ?_)
    have hZ6:=hx6.get hZx (by simp;omega)
    have hZ7:∀Q,getP (PS6.set (q+1) Q) PS.length=_:=fun Q=>(getP_set_ne Q (by omega)).trans hZ6
    have hZ8:∀Q Q',getP ((PS6.set (q+1) Q).set PS.length Q') PS.length=Q':=fun Q Q'=>getP_set_eq Q' (hZ7 Q)
    simp only[go_sem,seval, -List.reduceReplicate,hn6,hy6,hq7,rdP,hZ7,hZ8]
    rw[hnod]
    exact⟨rfl,(hP6.since (Ext.set _ (q+1) _) (by intro m hm;simp at hm;subst hm;right;omega)).since (Ext.set _ PS.length _) (by simp)⟩
end Go.Proofs.YtdlfmajopcbllaaGreat
