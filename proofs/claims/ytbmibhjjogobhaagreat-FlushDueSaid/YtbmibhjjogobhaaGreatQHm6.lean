/-
Hm6
No conditions.
-/
import Derived.Test.YtbmibhjjogobhaaGreatQHm5
import Derived.Test.YtbmibhjjogobhaaGreatQHm1
set_option linter.unusedSectionVars false
set_option linter.unusedSimpArgs false
set_option linter.unusedVariables false
namespace Go.Mo
open Go Go.Eng
variable [zB]
/-- A reader:its bytes,where it stands;not bad. -/
def rdP (t:Bool) (l:Bs) (a:Nat):zC:=.arr 0 3 [[.imm t (zD l),.int .i64 a,.bool false]] false
theorem Gi {l:Bs} {a w n:Nat} (h:za n w<+:l.drop a) (hw:1≤w) (hn:n<256 ^ w):yj ((l.drop a).take w)=n∧a+w≤l.length:=by
 have hl:=h.length_le
 rw[yd,List.length_drop] at hl
 have ht:=List.prefix_iff_eq_take.mp h
 rw[yd] at ht
 rw[←ht,zIz,Nat.mod_eq_of_lt hn]
 exact⟨rfl,by omega⟩
theorem qQ {x y l:Bs} (h:x++y<+:l):x<+:l:=(List.prefix_append x y).trans h
theorem uC {x y l:Bs} {a:Nat} (h:x++y<+:l.drop a):y<+:l.drop (a+x.length):=by
 obtain⟨z,hz⟩:=h
 refine⟨z,?_⟩
 rw[←List.drop_drop,←hz,List.append_assoc,List.drop_left' rfl]
theorem zAn {s l:Bs} {a:Nat} (h:txt s<+:l.drop a) (_hs:s.length<256):za s.length 1<+:l.drop a∧s<+:l.drop (a+1):=
 ⟨qQ (y:=s) h,uC (x:=[UInt8.ofNat s.length]) h⟩
theorem _root_.Go.Eng.Pure.reads {P:Program} {f:FuncId} {args:List HV} {res:HV} (h:Pure P f args res) (PS:PL):Reads P f args PS res:=fun PS' _=>h PS'
end Go.Mo
namespace Go.Proofs.YtbmibhjjogobhaaGreat
open Go Go.Eng Go.Mo
variable [zB]
set_option maxRecDepth 20000
attribute [local irreducible] hvc zf hop zg yI zb zu yQ
theorem Xf (PS:PL) (q:Nat) (t:Bool) (l:Bs) (a w n:Nat) (hl:l.length≤1000) (hq:zA PS q=rdP t l a) (h:za n w<+:l.drop a) (h1:1≤w) (h2:w≤8) (hn:n<256 ^ w):
  zI Tryz.prog 245 [.ptr q 0 0 0,.int .i64 w] PS fun r PS'=>r=.int .u64 n∧PS'=PS.set q (rdP t l (a+w)):=by
 obtain⟨e1,e2⟩:=Gi h h1 hn
 rw[rdP] at hq
 have hy:∀Q,zA (PS.set q Q) q=Q:=fun Q=>zk Q hq
 refine zGq (by unfold Tryz.f245;exact rfl) ?_
 simp only[go_sem,seval, -List.reduceReplicate,hq]
 refine zG (Reads.to (Pure.reads (zQH t l a w hl h1 h2 e2) _) ?_)
 rw[e1]
 simp only[go_sem,seval, -List.reduceReplicate,hq,hy,List.set_set]
 exact⟨by omega,rfl⟩
theorem zJm (s:Bs):(zD s).flatten=u8s s:=by
 induction s with
 | nil=>rfl
 | cons c s ih=>exact congrArg (HV.int .u8 c.toNat:: ·) ih
theorem zFX (PS:PL) (q:Nat) (t:Bool) (l:Bs) (a:Nat) (s:Bs) (hl:l.length≤1000) (hq:zA PS q=rdP t l a) (h:txt s<+:l.drop a) (p N:Nat) (row:List HV) (hp:zA PS p=.arr 0 (N+1) [row] false) (hpq:p≠q) (hs:s.length≤N) (hN:N≤100) (zd:row.length=N+1):
  zI Tryz.prog 246 [.ptr q 0 0 0,.isl p 0 0 1 N N] PS fun r PS'=>r=.int .i64 s.length∧PS'=(PS.set q (rdP t l (a+1+s.length))).set p (.arr 0 (N+1) [zP 1 (u8s s) row] false):=by
 obtain⟨h1,h2⟩:=zAn h (by omega)
 have hl2:=h.length_le
 rw[yl,List.length_drop] at hl2
 have hy:∀Q,zA (PS.set q Q) q=Q:=fun Q=>zk Q hq
 have hx:∀Q,zA (PS.set q Q) p=.arr 0 (N+1) [row] false:=fun Q=>(zO Q hpq.symm).trans hp
 refine zN2 (by unfold Tryz.f246;exact rfl) ?_
 simp only[go_sem,seval, -List.reduceReplicate]
 refine zG ((Xf PS q t l a 1 s.length hl hq h1 (by omega) (by omega) (by omega)).mono ?_)
 rintro _ _ ⟨rfl,rfl⟩
 have hc1:¬(N:Int)<(s.length:Int):=by omega
 have hc2:¬((l.length:Int) - ((a+1:Nat):Int))<(s.length:Int):=by omega
 have hz:(((a+1:Nat):Int)+(s.length:Int)).toNat=a+1+s.length:=by omega
 have ht:List.drop (a+1) (List.take (a+1+s.length) (zD l))=zD s:=by
  unfold zD
  rw[←List.map_take,←List.map_drop,←List.take_drop,←List.prefix_iff_eq_take.mp h2]
 have htN:List.take N (zD s)=zD s:=List.take_of_length_le (by rw[zo];omega)
 have hfl:=zJm s
 have hgx:∀Q Q',zA ((PS.set q Q).set p Q') q=Q:=fun Q Q'=>(zO _ hpq).trans (zk _ hq)
 simp only[go_sem,seval, -List.reduceReplicate,hy,hx,rdP,hc1,hc2,zo,hz,ht,htN,hfl,hgx]
 refine⟨by omega,by omega,by omega,by omega,by omega,by omega,by omega,?_⟩
 rw[List.set_comm _ _ hpq,List.set_set]
 rfl
theorem zMF (n:Nat) (s:Bs) (hs:s.length≤n):u8s s++List.replicate (n - s.length) (HV.int .u8 0)=u8s (pad n s):=by
 rw[ug hs];simp[u8s]
theorem zB2 (n:Nat) (s:Bs) (hs:s.length≤n):zP 1 (u8s s) (HV.int .i64 0::List.replicate n (HV.int .u8 0))=HV.int .i64 0::u8s (pad n s):=by
 rw[←zMF n s hs]
 simp[zP,qo,Nat.add_comm 1,List.drop_replicate]
theorem rd_key (PS:PL) (q:Nat) (t:Bool) (l:Bs) (a:Nat) (s:Bs) (hl:l.length≤1000) (hq:zA PS q=rdP t l a) (h:txt s<+:l.drop a) (hs:s.length≤8):
  zI Tryz.prog 189 [.ptr q 0 0 0] PS fun r PS'=>r=.agg (zJ s)∧Ext [q] PS PS'∧zA PS' q=rdP t l (a+1+s.length):=by
 have hlt:=yB hq
 refine zMT (by unfold Tryz.f189;exact rfl) ?_
 simp only[go_sem,seval, -List.reduceReplicate]
 have hE:PS++[zC.arr 0 (8+1) [HV.int .i64 0::List.replicate 8 (HV.int .u8 0)] false,zC.arr 0 (8+1) [HV.int .i64 0::List.replicate 8 (HV.int .u8 0)] false]=(PS++[zC.arr 0 (8+1) [HV.int .i64 0::List.replicate 8 (HV.int .u8 0)] false])++[zC.arr 0 (8+1) [HV.int .i64 0::List.replicate 8 (HV.int .u8 0)] false]:=by simp
 simp only[Nat.reduceAdd] at hE
 rw[hE]
 have hl0:(PS++[zC.arr 0 (8+1) [HV.int .i64 0::List.replicate 8 (HV.int .u8 0)] false]).length=PS.length+1:=by simp
 have hq0:=zx [zC.arr 0 (8+1) [HV.int .i64 0::List.replicate 8 (HV.int .u8 0)] false] hq
 have hn0:=zt PS (zC.arr 0 (8+1) [HV.int .i64 0::List.replicate 8 (HV.int .u8 0)] false)
 have hx0:=Ext.app PS [zC.arr 0 (8+1) [HV.int .i64 0::List.replicate 8 (HV.int .u8 0)] false]
 simp only[Nat.reduceAdd] at hl0 hq0 hx0 hn0
 rw[←hl0]
 generalize PS++[zC.arr 0 _ [HV.int .i64 0::List.replicate 8 (HV.int .u8 0)] false]=PS1 at hq0 hl0 hx0 hn0
 have hg0:zA (PS1++[zC.arr 0 (8+1) [HV.int .i64 0::List.replicate 8 (HV.int .u8 0)] false]) PS1.length=zC.arr 0 (8+1) [HV.int .i64 0::List.replicate 8 (HV.int .u8 0)] false:=zt _ _
 refine zG ((zFX _ q t l a s hl (zx _ hq0) h PS1.length 8 _ hg0 (by omega) hs (by omega) (by simp)).mono ?_)
 rintro _ _ ⟨rfl,rfl⟩
 have hg1:=zk (zC.arr 0 (8+1) [zP 1 (u8s s) (HV.int .i64 0::List.replicate 8 (HV.int .u8 0))] false) ((zO (rdP t l (a+1+s.length)) (by omega:q≠PS1.length)).trans hg0)
 have hq1:=(zO (zC.arr 0 (8+1) [zP 1 (u8s s) (HV.int .i64 0::List.replicate 8 (HV.int .u8 0))] false) (by omega:PS1.length≠q)).trans (zk (rdP t l (a+1+s.length)) (zx [zC.arr 0 (8+1) [HV.int .i64 0::List.replicate 8 (HV.int .u8 0)] false] hq0))
 have hn1:zA (((PS1++[zC.arr 0 (8+1) [HV.int .i64 0::List.replicate 8 (HV.int .u8 0)] false]).set q (rdP t l (a+1+s.length))).set PS1.length (zC.arr 0 (8+1) [zP 1 (u8s s) (HV.int .i64 0::List.replicate 8 (HV.int .u8 0))] false)) PS.length=zC.arr 0 (8+1) [HV.int .i64 0::List.replicate 8 (HV.int .u8 0)] false:=
  (zO _ (by omega)).trans ((zO _ (by omega)).trans (zx _ hn0))
 have hx1:Ext [q] PS (((PS1++[zC.arr 0 (8+1) [HV.int .i64 0::List.replicate 8 (HV.int .u8 0)] false]).set q (rdP t l (a+1+s.length))).set PS1.length (zC.arr 0 (8+1) [zP 1 (u8s s) (HV.int .i64 0::List.replicate 8 (HV.int .u8 0))] false)):=
  ((((hx0.mono (T:=[q]) (by simp))).since (Ext.app PS1 _) (by simp)).since (Ext.set _ q _) (by simp)).since (Ext.set _ PS1.length _) (by intro m hm;simp at hm;subst hm;right;omega)
 rw[zB2 8 s hs] at hg1 hq1 hx1 hn1 ⊢
 simp only[Nat.reduceAdd] at hg1 hq1 hx1 hn1 ⊢
 generalize ((PS1++[zC.arr 0 _ [HV.int .i64 0::List.replicate 8 (HV.int .u8 0)] false]).set q (rdP t l (a+1+s.length))).set PS1.length (zC.arr 0 _ [HV.int .i64 0::u8s (pad 8 s)] false)=PS2 at hg1 hq1 hx1 hn1 ⊢
 have hy:∀Q,zA (PS2.set PS1.length Q) PS1.length=Q:=fun Q=>zk Q hg1
 have hz:∀Q,zA (PS2.set PS1.length Q) PS.length=_:=fun Q=>(zO Q (by omega)).trans hn1
 have hzz:∀Q Q',zA ((PS2.set PS1.length Q).set PS.length Q') PS.length=Q':=fun Q Q'=>zk Q' (hz Q)
 have hp1:(pad 8 s).length=8:=wC _ _
 have hp2:List.take 8 (u8s (pad 8 s))=u8s (pad 8 s):=List.take_of_length_le (Nat.le_of_eq (by rw[qo,hp1]))
 have hp3:List.drop 8 (List.replicate 8 (HV.int .u8 0))=[]:=by simp
 simp only[go_sem,seval, -List.reduceReplicate,hg1,hp1,hp2,hp3,hy,hz,hzz,qo,List.append_nil]
 refine⟨rfl,(hx1.since (Ext.set _ PS1.length _) (by intro m hm;simp at hm;subst hm;right;omega)).since (Ext.set _ PS.length _) (by simp),(zO _ (by omega)).trans ((zO _ (by omega)).trans hq1)⟩
theorem zEO (PS:PL) (q:Nat) (t:Bool) (l:Bs) (a:Nat) (s:Bs) (hl:l.length≤1000) (hq:zA PS q=rdP t l a) (h:txt s<+:l.drop a) (hs:s.length≤16):
  zI Tryz.prog 244 [.ptr q 0 0 0] PS fun r PS'=>r=.agg (zK s)∧Ext [q] PS PS'∧zA PS' q=rdP t l (a+1+s.length):=by
 have hlt:=yB hq
 refine zQl (by unfold Tryz.f244;exact rfl) ?_
 simp only[go_sem,seval, -List.reduceReplicate]
 have hE:PS++[zC.arr 0 (16+1) [HV.int .i64 0::List.replicate 16 (HV.int .u8 0)] false,zC.arr 0 (16+1) [HV.int .i64 0::List.replicate 16 (HV.int .u8 0)] false]=(PS++[zC.arr 0 (16+1) [HV.int .i64 0::List.replicate 16 (HV.int .u8 0)] false])++[zC.arr 0 (16+1) [HV.int .i64 0::List.replicate 16 (HV.int .u8 0)] false]:=by simp
 simp only[Nat.reduceAdd] at hE
 rw[hE]
 have hl0:(PS++[zC.arr 0 (16+1) [HV.int .i64 0::List.replicate 16 (HV.int .u8 0)] false]).length=PS.length+1:=by simp
 have hq0:=zx [zC.arr 0 (16+1) [HV.int .i64 0::List.replicate 16 (HV.int .u8 0)] false] hq
 have hn0:=zt PS (zC.arr 0 (16+1) [HV.int .i64 0::List.replicate 16 (HV.int .u8 0)] false)
 have hx0:=Ext.app PS [zC.arr 0 (16+1) [HV.int .i64 0::List.replicate 16 (HV.int .u8 0)] false]
 simp only[Nat.reduceAdd] at hl0 hq0 hx0 hn0
 rw[←hl0]
 generalize PS++[zC.arr 0 _ [HV.int .i64 0::List.replicate 16 (HV.int .u8 0)] false]=PS1 at hq0 hl0 hx0 hn0
 have hg0:zA (PS1++[zC.arr 0 (16+1) [HV.int .i64 0::List.replicate 16 (HV.int .u8 0)] false]) PS1.length=zC.arr 0 (16+1) [HV.int .i64 0::List.replicate 16 (HV.int .u8 0)] false:=zt _ _
 refine zG ((zFX _ q t l a s hl (zx _ hq0) h PS1.length 16 _ hg0 (by omega) hs (by omega) (by simp)).mono ?_)
 rintro _ _ ⟨rfl,rfl⟩
 have hg1:=zk (zC.arr 0 (16+1) [zP 1 (u8s s) (HV.int .i64 0::List.replicate 16 (HV.int .u8 0))] false) ((zO (rdP t l (a+1+s.length)) (by omega:q≠PS1.length)).trans hg0)
 have hq1:=(zO (zC.arr 0 (16+1) [zP 1 (u8s s) (HV.int .i64 0::List.replicate 16 (HV.int .u8 0))] false) (by omega:PS1.length≠q)).trans (zk (rdP t l (a+1+s.length)) (zx [zC.arr 0 (16+1) [HV.int .i64 0::List.replicate 16 (HV.int .u8 0)] false] hq0))
 have hn1:zA (((PS1++[zC.arr 0 (16+1) [HV.int .i64 0::List.replicate 16 (HV.int .u8 0)] false]).set q (rdP t l (a+1+s.length))).set PS1.length (zC.arr 0 (16+1) [zP 1 (u8s s) (HV.int .i64 0::List.replicate 16 (HV.int .u8 0))] false)) PS.length=zC.arr 0 (16+1) [HV.int .i64 0::List.replicate 16 (HV.int .u8 0)] false:=
  (zO _ (by omega)).trans ((zO _ (by omega)).trans (zx _ hn0))
 have hx1:Ext [q] PS (((PS1++[zC.arr 0 (16+1) [HV.int .i64 0::List.replicate 16 (HV.int .u8 0)] false]).set q (rdP t l (a+1+s.length))).set PS1.length (zC.arr 0 (16+1) [zP 1 (u8s s) (HV.int .i64 0::List.replicate 16 (HV.int .u8 0))] false)):=
  ((((hx0.mono (T:=[q]) (by simp))).since (Ext.app PS1 _) (by simp)).since (Ext.set _ q _) (by simp)).since (Ext.set _ PS1.length _) (by intro m hm;simp at hm;subst hm;right;omega)
 rw[zB2 16 s hs] at hg1 hq1 hx1 hn1 ⊢
 simp only[Nat.reduceAdd] at hg1 hq1 hx1 hn1 ⊢
 generalize ((PS1++[zC.arr 0 _ [HV.int .i64 0::List.replicate 16 (HV.int .u8 0)] false]).set q (rdP t l (a+1+s.length))).set PS1.length (zC.arr 0 _ [HV.int .i64 0::u8s (pad 16 s)] false)=PS2 at hg1 hq1 hx1 hn1 ⊢
 have hy:∀Q,zA (PS2.set PS1.length Q) PS1.length=Q:=fun Q=>zk Q hg1
 have hz:∀Q,zA (PS2.set PS1.length Q) PS.length=_:=fun Q=>(zO Q (by omega)).trans hn1
 have hzz:∀Q Q',zA ((PS2.set PS1.length Q).set PS.length Q') PS.length=Q':=fun Q Q'=>zk Q' (hz Q)
 have hp1:(pad 16 s).length=16:=wC _ _
 have hp2:List.take 16 (u8s (pad 16 s))=u8s (pad 16 s):=List.take_of_length_le (Nat.le_of_eq (by rw[qo,hp1]))
 have hp3:List.drop 16 (List.replicate 16 (HV.int .u8 0))=[]:=by simp
 simp only[go_sem,seval, -List.reduceReplicate,hg1,hp1,hp2,hp3,hy,hz,hzz,qo,List.append_nil]
 refine⟨rfl,(hx1.since (Ext.set _ PS1.length _) (by intro m hm;simp at hm;subst hm;right;omega)).since (Ext.set _ PS.length _) (by simp),(zO _ (by omega)).trans ((zO _ (by omega)).trans hq1)⟩
end Go.Proofs.YtbmibhjjogobhaaGreat
namespace Go.Proofs.YtbmibhjjogobhaaGreat
open Go Go.Eng Go.Mo
variable [zB]
set_option maxRecDepth 20000
attribute [local irreducible] hvc zf hop zg yI zb zu yQ
theorem zIt (PS:PL) (q:Nat) (t:Bool) (l:Bs) (a n:Nat) (hl:l.length≤1000) (hq:zA PS q=rdP t l a) (h:za n 4<+:l.drop a) (hn:n<4294967296):
  zI Tryz.prog 187 [.ptr q 0 0 0] PS fun r PS'=>r=.int .i64 n∧Ext [q] PS PS'∧zA PS' q=rdP t l (a+4):=by
 refine zJ3 (by unfold Tryz.f187;exact rfl) ?_
 simp only[go_sem,seval, -List.reduceReplicate]
 refine zG ((Xf PS q t l a 4 n hl hq h (by omega) (by omega) (by omega)).mono ?_)
 rintro _ _ ⟨rfl,rfl⟩
 simp only[go_sem,seval, -List.reduceReplicate]
 exact⟨by omega,Ext.set _ _ _,zk _ hq⟩
theorem zHv (PS:PL) (q:Nat) (t:Bool) (l:Bs) (a:Nat) (e:Bs×Bs) (hl:l.length≤1000) (hq:zA PS q=rdP t l a) (h:qF e<+:l.drop a) (h1:e.1.length≤8) (h2:e.2.length≤16):
  zI Tryz.prog 185 [.ptr q 0 0 0] PS fun r PS'=>r=.agg (zR e)∧Ext [q] PS PS'∧zA PS' q=rdP t l (a+(qF e).length):=by
 have hlt:=yB hq
 have hp2:=uC h
 have hen:a+(qF e).length=a+1+e.1.length+1+e.2.length:=by rw[qF,List.length_append,yl,yl];omega
 refine zRZ (by unfold Tryz.f185;exact rfl) ?_
 simp only[go_sem,seval, -List.reduceReplicate]
 refine zG ((rd_key _ q t l a e.1 hl (zx _ hq) (qQ h) h1).mono ?_)
 rintro _ PS1 ⟨rfl,hx1,hq1⟩
 have hn1:=hx1.get (zt _ _) (by simp;omega)
 have hy1:=((Ext.app PS _).mono (T:=[q]) (by simp)).since hx1 (by simp)
 simp only[go_sem,seval, -List.reduceReplicate]
 refine zG ((zEO PS1 q t l (a+1+e.1.length) e.2 hl hq1 (by rw[yl] at hp2;rwa [show a+1+e.1.length=a+(e.1.length+1) by omega]) h2).mono ?_)
 rintro _ PS2 ⟨rfl,hx2,hq2⟩
 have hn2:=hx2.get hn1 (by simp;omega)
 have hz:List.drop 8 (List.replicate 8 (HV.int .u8 0)++[HV.int .i64 0]++List.replicate 16 (HV.int .u8 0))=HV.int .i64 0::List.replicate 16 (HV.int .u8 0):=rfl
 have hsp:zP 9 (zK e.2) (zJ e.1++HV.int .i64 0::List.replicate 16 (HV.int .u8 0))=zR e:=by
  rw[zP,List.take_left' (zh _),yD,List.drop_of_length_le (by simp[zh]),List.append_nil];rfl
 have hy2:∀Q,zA (PS2.set PS.length Q) PS.length=Q:=fun Q=>zk Q hn2
 simp only[go_sem,seval, -List.reduceReplicate,hn2,hz,hsp,hy2,yi]
 rw[hen]
 exact⟨(hy1.since hx2 (by simp)).since (Ext.set _ PS.length _) (by simp),(zO _ (by omega)).trans hq2⟩
theorem zOQ (PS:PL) (q:Nat) (t:Bool) (l:Bs) (a:Nat) (m:Ms) (hl:l.length≤1000) (hq:zA PS q=rdP t l a) (h:yH m<+:l.drop a) (om:yC m) (h1:m.key.length≤8) (h2:m.val.length≤16) (os:m.seq<18446744073709551616) (ob:m.by_<18446744073709551616):
  zI Tryz.prog 191 [.ptr q 0 0 0] PS fun r PS'=>r=.agg (zM m)∧Ext [q] PS PS'∧zA PS' q=rdP t l (a+(yH m).length):=by
 have hlt:=yB hq
 have m1:=om.lo
 have m2:=om.hi
 have m3:=om.val
 have m4:=om.by_
 obtain⟨kind,seq,key,val,by_⟩:=m
 simp only at m1 m2 m3 m4 h1 h2 os ob
 obtain⟨k,rfl⟩:∃k:Nat,kind=k:=⟨kind.toNat,by omega⟩
 have hh:za k 1++(za seq 8++(txt key++(if (k:Int)=1 then txt val else if (k:Int)=3 then za by_ 8 else [])))<+:l.drop a:=h
 have p1:=qQ hh
 have r1:=uC hh
 rw[yd] at r1
 have p2:=qQ r1
 have r2:=uC r1
 rw[yd] at r2
 have p3:=qQ r2
 have r3:=uC r2
 rw[yl] at r3
 refine zGR (by unfold Tryz.f191;exact rfl) ?_
 simp only[go_sem,seval, -List.reduceReplicate]
 refine zG ((Xf _ q t l a 1 k hl (zx _ hq) p1 (by omega) (by omega) (by omega)).mono ?_)
 rintro _ PS1 ⟨rfl,hP⟩
 have hqA:zA PS1 q=rdP t l (a+1):=by rw[hP];exact zk _ (zx _ hq)
 have hxA:Ext [q] PS PS1:=by rw[hP];exact((Ext.app PS _).mono (T:=[q]) (by simp)).since (Ext.set _ q _) (by simp)
 have hnA:zA PS1 PS.length=zC.arr 0 29 [HV.int .i64 0::HV.int .u64 0::HV.int .i64 0::(List.replicate 8 (HV.int .u8 0)++[HV.int .i64 0]++List.replicate 16 (HV.int .u8 0)++[HV.int .u64 0])] false:=by rw[hP];exact(zO _ (by omega)).trans (zt PS _)
 clear hP
 simp only[go_sem,seval, -List.reduceReplicate]
 refine⟨by omega,zG ((Xf PS1 q t l (a+1) 8 seq hl hqA p2 (by omega) (by omega) (by omega)).mono ?_)⟩
 rintro _ PS2 ⟨rfl,hP⟩
 have hqB:zA PS2 q=rdP t l (a+1+8):=by rw[hP];exact zk _ hqA
 have hxB:Ext [q] PS PS2:=by rw[hP];exact hxA.since (Ext.set _ q _) (by simp)
 have hnB:zA PS2 PS.length=zC.arr 0 29 [HV.int .i64 0::HV.int .u64 0::HV.int .i64 0::(List.replicate 8 (HV.int .u8 0)++[HV.int .i64 0]++List.replicate 16 (HV.int .u8 0)++[HV.int .u64 0])] false:=by rw[hP];exact(zO _ (by omega)).trans hnA
 clear hP hqA hxA hnA
 simp only[go_sem,seval, -List.reduceReplicate]
 refine zG ((rd_key PS2 q t l (a+1+8) key hl hqB p3 h1).mono ?_)
 rintro _ PS3 ⟨rfl,hx3,hqC⟩
 have hxC:=hxB.since hx3 (by simp)
 have hnC:=hx3.get hnB (by simp;omega)
 clear hx3 hqB hxB hnB
 have hz1:List.drop 8 (List.replicate 8 (HV.int .u8 0)++[HV.int .i64 0]++List.replicate 16 (HV.int .u8 0)++[HV.int .u64 0])=zK []++[HV.int .u64 0]:=rfl
 have hz2:List.drop 27 (HV.int .i64 0::(List.replicate 8 (HV.int .u8 0)++[HV.int .i64 0]++List.replicate 16 (HV.int .u8 0)++[HV.int .u64 0]))=[]:=rfl
 have ho:∀v n,qS (zJ key++(zK v++[HV.int .u64 n]))=True:=fun v n=>eq_true ((qy _).2 (by intro y hy;rcases List.mem_append.1 hy with hy | hy;exact gX _ y hy;rcases List.mem_append.1 hy with hy | hy;exact kU _ y hy;simp at hy;subst hy;rfl))
 have ht:∀v n,List.take 27 (zJ key++(zK v++[HV.int .u64 n]))=zJ key++(zK v++[HV.int .u64 n]):=fun v n=>List.take_of_length_le (by simp[zh,yD])
 have hC:=Nat.lt_of_lt_of_le hlt hxC.1
 have hlC:PS.length<PS3.length:=yB hnC
 have hc3:a+1+8+1+key.length=a+1+8+(key.length+1):=by omega
 have hy3:∀Q,zA (PS3++[Q]) PS.length=zC.arr 0 29 [HV.int .i64 0::HV.int .u64 0::HV.int .i64 0::(List.replicate 8 (HV.int .u8 0)++[HV.int .i64 0]++List.replicate 16 (HV.int .u8 0)++[HV.int .u64 0])] false:=fun Q=>zx _ hnC
 have hy4:∀Q Q',zA ((PS3++[Q]).set PS.length Q') PS.length=Q':=fun Q Q'=>zk _ (hy3 Q)
 have hx4:∀Q Q',Ext [q] PS ((PS3++[Q]).set PS.length Q'):=fun Q Q'=>(hxC.since (Ext.app PS3 _) (by simp)).since (Ext.set _ PS.length _) (by simp)
 have hq4:∀Q Q',zA ((PS3++[Q]).set PS.length Q') q=rdP t l (a+1+8+1+key.length):=fun Q Q'=>(zO _ (by omega)).trans (zx _ hqC)
 rw[←hc3] at r3
 have hkk:k=1∨k=2∨k=3:=by omega
 rcases hkk with rfl | rfl | rfl
 ·obtain rfl:=m4 (by omega)
  simp only[go_sem,seval, -List.reduceReplicate,hnC,hz1,hz2,ho,ht,hy3,hy4,List.append_nil,List.length_append,zh,yD]
  refine zG ((zEO _ q t l _ val hl (zx _ hqC) r3 h2).mono ?_)
  rintro _ PS4 ⟨rfl,hx5,hqD⟩
  have hm5:=hx5.get (zt PS3 _) (by simp;omega)
  have hn5:=hx5.get (hy3 _) (by simp;omega)
  have hxD:=(hxC.since (Ext.app PS3 _) (by simp)).since hx5 (by simp)
  have hl5:=yB hm5
  have hsp:zP 9 (zK val) (zJ key++(zK []++[HV.int .u64 0]))=zJ key++(zK val++[HV.int .u64 0]):=by
   rw[zP,List.take_left' (zh _),yD,←List.drop_drop,List.drop_left' (zh _),List.drop_left' (yD _)]
  have hz:∀Q,zA (PS4.set PS3.length Q) PS3.length=Q:=fun Q=>zk Q hm5
  have hz4:∀Q,zA (PS4.set PS3.length Q) PS.length=zC.arr 0 29 [HV.int .i64 0::HV.int .u64 0::HV.int .i64 0::(List.replicate 8 (HV.int .u8 0)++[HV.int .i64 0]++List.replicate 16 (HV.int .u8 0)++[HV.int .u64 0])] false:=fun Q=>(zO Q (by omega)).trans hn5
  have hz3:∀Q Q',zA ((PS4.set PS3.length Q).set PS.length Q') PS.length=Q':=fun Q Q'=>zk Q' (hz4 Q)
  simp only[go_sem,seval, -List.reduceReplicate,hm5,hn5,hsp,hz,hz2,hz4,hz3,ho,ht,List.append_nil,List.length_append,zh,yD]
  have hlen:a+(yH {kind:=1,seq:=seq,key:=key,val:=val,by_:=0}).length=a+1+8+1+key.length+1+val.length:=by simp[yH,yd,yl];omega
  exact⟨rfl,(hxD.since (Ext.set _ PS3.length _) (by intro m hm;simp at hm;subst hm;right;omega)).since (Ext.set _ PS.length _) (by simp),by rw[hlen];exact(zO _ (by omega)).trans ((zO _ (by omega)).trans hqD)⟩
 ·obtain rfl:=m3 (by omega)
  obtain rfl:=m4 (by omega)
  simp only[go_sem,seval, -List.reduceReplicate,hnC,hz1,hz2,ho,ht,hy3,hy4,List.append_nil,List.length_append,zh,yD]
  have hlen:a+(yH {kind:=2,seq:=seq,key:=key,val:=[],by_:=0}).length=a+1+8+1+key.length:=by simp[yH,yd,yl];omega
  exact⟨rfl,hx4 _ _,by rw[hlen];exact hq4 _ _⟩
 ·obtain rfl:=m3 (by omega)
  simp only[go_sem,seval, -List.reduceReplicate,hnC,hz1,hz2,ho,ht,hy3,hy4,List.append_nil,List.length_append,zh,yD]
  refine zG ((Xf _ q t l _ 8 by_ hl (zx _ hqC) r3 (by omega) (by omega) (by omega)).mono ?_)
  rintro _ PS4 ⟨rfl,hP⟩
  have hx5:Ext [q] (PS3++[zC.arr 0 29 [HV.int .i64 3::HV.int .u64 seq::(zJ key++(zK []++[HV.int .u64 0]))] false]) PS4:=by rw[hP];exact Ext.set _ q _
  have hqD:zA PS4 q=rdP t l (a+1+8+1+key.length+8):=by rw[hP];exact zk _ (zx _ hqC)
  clear hP
  have hm5:=hx5.get (zt PS3 _) (by simp;omega)
  have hn5:=hx5.get (hy3 _) (by simp;omega)
  have hxD:=(hxC.since (Ext.app PS3 _) (by simp)).since hx5 (by simp)
  have hl5:=yB hm5
  have hz:∀Q,zA (PS4.set PS3.length Q) PS3.length=Q:=fun Q=>zk Q hm5
  have hz4:∀Q,zA (PS4.set PS3.length Q) PS.length=zC.arr 0 29 [HV.int .i64 0::HV.int .u64 0::HV.int .i64 0::(List.replicate 8 (HV.int .u8 0)++[HV.int .i64 0]++List.replicate 16 (HV.int .u8 0)++[HV.int .u64 0])] false:=fun Q=>(zO Q (by omega)).trans hn5
  have hz3:∀Q Q',zA ((PS4.set PS3.length Q).set PS.length Q') PS.length=Q':=fun Q Q'=>zk Q' (hz4 Q)
  have hsp:zP 26 [HV.int .u64 by_] (zJ key++(zK []++[HV.int .u64 0]))=zJ key++(zK []++[HV.int .u64 by_]):=by
   have h26:(zJ key++zK []).length=26:=by rw[List.length_append,zh,yD]
   rw[zP,show zJ key++(zK []++[HV.int .u64 0])=(zJ key++zK [])++[HV.int .u64 0] from (List.append_assoc ..).symm,List.take_left' h26,List.drop_of_length_le (by rw[List.length_append,h26];exact Nat.le_refl _),List.append_nil,List.append_assoc]
  simp only[go_sem,seval, -List.reduceReplicate,hm5,hn5,hsp,hz,hz2,hz4,hz3,ho,ht,List.append_nil,List.length_append,zh,yD]
  have hlen:a+(yH {kind:=3,seq:=seq,key:=key,val:=[],by_:=by_}).length=a+1+8+1+key.length+8:=by simp[yH,yd,yl];omega
  exact⟨rfl,(hxD.since (Ext.set _ PS3.length _) (by intro m hm;simp at hm;subst hm;right;omega)).since (Ext.set _ PS.length _) (by simp),by rw[hlen];exact(zO _ (by omega)).trans ((zO _ (by omega)).trans hqD)⟩
end Go.Proofs.YtbmibhjjogobhaaGreat
namespace Go.Mo
open Go Go.Eng
variable [zB]
theorem kg {α:Type} (enc:α→Bs) (xs:List α) (i:Nat) (h:i<xs.length):((xs.take (i+1)).map enc).flatten=((xs.take i).map enc).flatten++enc xs[i]:=by
 rw[List.take_succ_eq_append_getElem h,List.map_append,List.flatten_append];simp
theorem kZ {α:Type} (enc:α→Bs) (xs:List α) {l:Bs} {a:Nat} (h:(xs.map enc).flatten<+:l.drop a) (i:Nat) (hi:i<xs.length):enc xs[i]<+:l.drop (a+((xs.take i).map enc).flatten.length):=by
 have e:(xs.map enc).flatten=((xs.take i).map enc).flatten++(enc xs[i]++((xs.drop (i+1)).map enc).flatten):=by
  conv=>lhs;rw[←List.take_append_drop i xs,List.drop_eq_getElem_cons hi,List.map_append,List.flatten_append,List.map_cons,List.flatten_cons]
 rw[e] at h
 exact qQ (uC h)
/-- A list so far:none,or a piece since. -/
def LAt (PS:PL) (sz:Nat) (PS':PL) (x:HV) (R:List (List HV)):Prop:=
 (R=[]∧x=.imm true [])∨(R≠[]∧∃p ver,x=.sl p ver 0 R.length none∧PS.length≤p∧zA PS' p=.arr ver sz R true)
/-- The list as data. -/
theorem LAt.frz {P:Program} {f:FuncId} {args:List HV} {PS:PL} {q sz:Nat} {R:List (List HV)} {K:PL→Prop} (_hq:q<PS.length) (hk:∀PS' p,PS.length≤p→K PS'→K (PS'.set p .dead))
  (h:zI P f args PS fun r PS'=>LAt PS sz PS' r R∧Ext [q] PS PS'∧K PS'):zI P f args PS fun r PS'=>r=.imm (decide (R=[])) R∧Ext [q] PS PS'∧K PS':=by
 by_cases hR:R=[]
 ·refine h.mono ?_
  rintro r PS' ⟨h1,h2,h3⟩
  rcases h1 with ⟨_,rfl⟩ | ⟨hn,_⟩
  ·exact⟨by simp[hR],h2,h3⟩
  ·exact absurd hR hn
 ·refine zI.frz (h.mono ?_)
  rintro r PS' ⟨h1,h2,h3⟩
  rcases h1 with ⟨hn,_⟩ | ⟨_,p,ver,rfl,hp,hg⟩
  ·exact absurd hn hR
  ·refine⟨p,ver,sz,R,true,_,_,hg,.sl 0 R.length none (by omega),wD.only (yB hg),?_,h2.since (Ext.set PS' p _) (by intro m hm;simp at hm;subst hm;exact .inr hp),hk _ _ hp h3⟩
   simp[hR]
end Go.Mo
namespace Go.Proofs.YtbmibhjjogobhaaGreat
open Go Go.Eng Go.Mo
variable [zB]
set_option maxRecDepth 20000
attribute [local irreducible] hvc zf hop zg yI zb zu yQ
theorem zLX (PS:PL) (q:Nat) (t:Bool) (l:Bs) (a:Nat) (xs:List Nat) (hl:l.length≤1000) (hq:zA PS q=rdP t l a) (h:(xs.map (za · 4)).flatten<+:l.drop a) (ok:∀n∈xs,n<4294967296) (hm:xs.length≤1000):
  zI Tryz.prog 186 [.int .i64 xs.length,.func (.func 187) [.ptr q 0 0 0] []] PS fun r PS'=>r=.imm (decide (xs.map (fun n:Nat=>[HV.int .i64 (n:Int)])=[])) (xs.map fun n:Nat=>[HV.int .i64 (n:Int)])∧Ext [q] PS PS'∧zA PS' q=rdP t l (a+((xs.map (za · 4)).flatten).length):=by
  have hlt:=yB hq
  refine LAt.frz (sz:=1) hlt (fun PS' p hp h=>(zO _ (by omega)).trans h) ?_
  refine zOn (by unfold Tryz.f186;exact rfl) ?_
  simp only[go_sem,seval, -List.reduceReplicate]
  refine zG (zq (α:=Nat×HV) [false,false,false,false,false,false,false,false,true,true,true,true,true,true,true] (fun b=>[(7,.int .i64 b.1),(5,b.2)]) (fun b=>xs.length - b.1) (fun b PS'=>b.1≤xs.length∧LAt PS 1 PS' b.2 ((xs.take b.1).map (fun n=>[HV.int .i64 ((n:Nat):Int)]))∧Ext [q] PS PS'∧zA PS' q=rdP t l (a+((xs.take b.1).map (za · 4)).flatten.length)) (0,.imm true []) ⟨Nat.zero_le _,.inl ⟨rfl,rfl⟩,(Ext.refl PS).mono (by simp),hq⟩ ?_ ?_)
  ·simp only[go_sem,seval, -List.reduceReplicate,Int.natCast_zero]
  rintro⟨i,x⟩ PS1 ⟨hi,h1,hx,hq1⟩
  simp only at hi h1 hx hq1
  by_cases hlt:i<xs.length
  ·have hp:=kZ _ xs h i hlt
   have hfs:=kg (za · 4) xs i hlt
   have hrs:(xs.take (i+1)).map (fun n=>[HV.int .i64 ((n:Nat):Int)])=(xs.take i).map (fun n=>[HV.int .i64 ((n:Nat):Int)])++[(fun n=>[HV.int .i64 ((n:Nat):Int)]) xs[i]]:=by rw[List.take_succ_eq_append_getElem hlt,List.map_append];rfl
   have hrl:((xs.take i).map (fun n=>[HV.int .i64 ((n:Nat):Int)])).length=i:=by simp;omega
   simp only[go_sem,seval, -List.reduceReplicate,hlt]
   refine zG ((zIt PS1 q t l _ xs[i] hl hq1 hp (ok _ (List.getElem_mem hlt))).mono ?_)
   rintro _ PS2 ⟨rfl,hx2,hq2⟩
   have hx3:=hx.since hx2 (by simp)
   rcases h1 with ⟨hn,rfl⟩ | ⟨_,p,ver,rfl,hpl,hg⟩
   ·have hi0:i=0:=by rw[hn] at hrl;exact hrl.symm
    simp only[go_sem,seval, -List.reduceReplicate]
    refine⟨by simp[yd],by simp,by omega,(i+1,.sl PS2.length 0 0 1 none),by simp only;omega,⟨by simp only;omega,.inr ⟨by rw[hrs];simp,PS2.length,0,?_,hx3.1,?_⟩,hx3.since (Ext.app PS2 _) (by simp),?_⟩,.inl rfl,rfl⟩
    ·simp only;rw[hrs,hn];rfl
    ·simp only;rw[hrs,hn];exact zt _ _
    ·simp only;rw[hfs,List.length_append,←Nat.add_assoc];exact zx _ hq2
   ·have hg2:=hx2.get hg (by simp;omega)
    have htl:(xs.take i).length=i:=by rw[List.length_take];omega
    simp only[go_sem,seval, -List.reduceReplicate,hg2,htl]
    refine⟨by simp[yd],.inl ⟨by omega,by omega,(i+1,.sl p (ver+1) 0 (i+1) none),by simp only;omega,⟨by simp only;omega,.inr ⟨by rw[hrs];simp,p,ver+1,?_,hpl,?_⟩,hx3.since (Ext.set PS2 p _) (by intro m hm;simp at hm;subst hm;exact .inr hpl),?_⟩,.inl rfl,rfl⟩⟩
    ·simp only;rw[hrs,List.length_append,hrl];rfl
    ·simp only;rw[hrs];exact zk _ hg2
    ·simp only;rw[hfs,List.length_append,←Nat.add_assoc];exact(zO _ (by omega)).trans hq2
  ·have hi:i=xs.length:=by omega
   subst hi
   rw[List.take_length] at h1 hq1
   simp only[go_sem,seval, -List.reduceReplicate,hlt]
   exact⟨h1,hx,hq1⟩
theorem zNe (PS:PL) (q:Nat) (t:Bool) (l:Bs) (a:Nat) (s:Bs) (hl:l.length≤1000) (hq:zA PS q=rdP t l a) (h:txt s<+:l.drop a) (hs:s.length≤8):
  zI Tryz.prog 189 [.ptr q 0 0 0] PS fun r PS'=>r=.agg (zJ s)∧Ext [q] PS PS'∧zA PS' q=rdP t l (a+(txt s).length):=by
 rw[yl,show a+(s.length+1)=a+1+s.length by omega]
 exact rd_key PS q t l a s hl hq h hs
theorem zOP (PS:PL) (q:Nat) (t:Bool) (l:Bs) (a:Nat) (xs:List Bs) (hl:l.length≤1000) (hq:zA PS q=rdP t l a) (h:(xs.map txt).flatten<+:l.drop a) (ok:∀n∈xs,okK n) (hm:xs.length≤1000):
  zI Tryz.prog 188 [.int .i64 xs.length,.func (.func 189) [.ptr q 0 0 0] []] PS fun r PS'=>r=.imm (decide (xs.map zJ=[])) (xs.map zJ)∧Ext [q] PS PS'∧zA PS' q=rdP t l (a+((xs.map txt).flatten).length):=by
  have hlt:=yB hq
  refine LAt.frz (sz:=9) hlt (fun PS' p hp h=>(zO _ (by omega)).trans h) ?_
  refine zKk (by unfold Tryz.f188;exact rfl) ?_
  simp only[go_sem,seval, -List.reduceReplicate]
  refine zG (zq (α:=Nat×HV) [false,false,false,false,false,false,false,false,true,true,true,true,true,true,true] (fun b=>[(7,.int .i64 b.1),(5,b.2)]) (fun b=>xs.length - b.1) (fun b PS'=>b.1≤xs.length∧LAt PS 9 PS' b.2 ((xs.take b.1).map zJ)∧Ext [q] PS PS'∧zA PS' q=rdP t l (a+((xs.take b.1).map txt).flatten.length)) (0,.imm true []) ⟨Nat.zero_le _,.inl ⟨rfl,rfl⟩,(Ext.refl PS).mono (by simp),hq⟩ ?_ ?_)
  ·simp only[go_sem,seval, -List.reduceReplicate,Int.natCast_zero]
  rintro⟨i,x⟩ PS1 ⟨hi,h1,hx,hq1⟩
  simp only at hi h1 hx hq1
  by_cases hlt:i<xs.length
  ·have hp:=kZ _ xs h i hlt
   have hfs:=kg txt xs i hlt
   have hrs:(xs.take (i+1)).map zJ=(xs.take i).map zJ++[zJ xs[i]]:=by rw[List.take_succ_eq_append_getElem hlt,List.map_append];rfl
   have hrl:((xs.take i).map zJ).length=i:=by simp;omega
   simp only[go_sem,seval, -List.reduceReplicate,hlt]
   refine zG ((zNe PS1 q t l _ xs[i] hl hq1 hp (ok _ (List.getElem_mem hlt))).mono ?_)
   rintro _ PS2 ⟨rfl,hx2,hq2⟩
   have hx3:=hx.since hx2 (by simp)
   rcases h1 with ⟨hn,rfl⟩ | ⟨_,p,ver,rfl,hpl,hg⟩
   ·have hi0:i=0:=by rw[hn] at hrl;exact hrl.symm
    simp only[go_sem,seval, -List.reduceReplicate]
    refine⟨by simp[zh],by simp,by omega,(i+1,.sl PS2.length 0 0 1 none),by simp only;omega,⟨by simp only;omega,.inr ⟨by rw[hrs];simp,PS2.length,0,?_,hx3.1,?_⟩,hx3.since (Ext.app PS2 _) (by simp),?_⟩,.inl rfl,rfl⟩
    ·simp only;rw[hrs,hn];rfl
    ·simp only;rw[hrs,hn];exact zt _ _
    ·simp only;rw[hfs,List.length_append,←Nat.add_assoc];exact zx _ hq2
   ·have hg2:=hx2.get hg (by simp;omega)
    have htl:(xs.take i).length=i:=by rw[List.length_take];omega
    simp only[go_sem,seval, -List.reduceReplicate,hg2,htl]
    refine⟨by simp[zh],.inl ⟨by omega,by omega,(i+1,.sl p (ver+1) 0 (i+1) none),by simp only;omega,⟨by simp only;omega,.inr ⟨by rw[hrs];simp,p,ver+1,?_,hpl,?_⟩,hx3.since (Ext.set PS2 p _) (by intro m hm;simp at hm;subst hm;exact .inr hpl),?_⟩,.inl rfl,rfl⟩⟩
    ·simp only;rw[hrs,List.length_append,hrl];rfl
    ·simp only;rw[hrs];exact zk _ hg2
    ·simp only;rw[hfs,List.length_append,←Nat.add_assoc];exact(zO _ (by omega)).trans hq2
  ·have hi:i=xs.length:=by omega
   subst hi
   rw[List.take_length] at h1 hq1
   simp only[go_sem,seval, -List.reduceReplicate,hlt]
   exact⟨h1,hx,hq1⟩
theorem zGx (PS:PL) (q:Nat) (t:Bool) (l:Bs) (a:Nat) (xs:List (Bs×Bs)) (hl:l.length≤1000) (hq:zA PS q=rdP t l a) (h:(xs.map qF).flatten<+:l.drop a) (ok:∀e∈xs,okK e.1∧okV e.2) (hm:xs.length≤1000):
  zI Tryz.prog 184 [.int .i64 xs.length,.func (.func 185) [.ptr q 0 0 0] []] PS fun r PS'=>r=.imm (decide (xs.map zR=[])) (xs.map zR)∧Ext [q] PS PS'∧zA PS' q=rdP t l (a+((xs.map qF).flatten).length):=by
  have hlt:=yB hq
  refine LAt.frz (sz:=26) hlt (fun PS' p hp h=>(zO _ (by omega)).trans h) ?_
  refine zGS (by unfold Tryz.f184;exact rfl) ?_
  simp only[go_sem,seval, -List.reduceReplicate]
  refine zG (zq (α:=Nat×HV) [false,false,false,false,false,false,false,false,true,true,true,true,true,true,true] (fun b=>[(7,.int .i64 b.1),(5,b.2)]) (fun b=>xs.length - b.1) (fun b PS'=>b.1≤xs.length∧LAt PS 26 PS' b.2 ((xs.take b.1).map zR)∧Ext [q] PS PS'∧zA PS' q=rdP t l (a+((xs.take b.1).map qF).flatten.length)) (0,.imm true []) ⟨Nat.zero_le _,.inl ⟨rfl,rfl⟩,(Ext.refl PS).mono (by simp),hq⟩ ?_ ?_)
  ·simp only[go_sem,seval, -List.reduceReplicate,Int.natCast_zero]
  rintro⟨i,x⟩ PS1 ⟨hi,h1,hx,hq1⟩
  simp only at hi h1 hx hq1
  by_cases hlt:i<xs.length
  ·have hp:=kZ _ xs h i hlt
   have hfs:=kg qF xs i hlt
   have hrs:(xs.take (i+1)).map zR=(xs.take i).map zR++[zR xs[i]]:=by rw[List.take_succ_eq_append_getElem hlt,List.map_append];rfl
   have hrl:((xs.take i).map zR).length=i:=by simp;omega
   simp only[go_sem,seval, -List.reduceReplicate,hlt]
   refine zG ((zHv PS1 q t l _ xs[i] hl hq1 hp (ok _ (List.getElem_mem hlt)).1 (ok _ (List.getElem_mem hlt)).2).mono ?_)
   rintro _ PS2 ⟨rfl,hx2,hq2⟩
   have hx3:=hx.since hx2 (by simp)
   rcases h1 with ⟨hn,rfl⟩ | ⟨_,p,ver,rfl,hpl,hg⟩
   ·have hi0:i=0:=by rw[hn] at hrl;exact hrl.symm
    simp only[go_sem,seval, -List.reduceReplicate]
    refine⟨by simp[yi],by simp,by omega,(i+1,.sl PS2.length 0 0 1 none),by simp only;omega,⟨by simp only;omega,.inr ⟨by rw[hrs];simp,PS2.length,0,?_,hx3.1,?_⟩,hx3.since (Ext.app PS2 _) (by simp),?_⟩,.inl rfl,rfl⟩
    ·simp only;rw[hrs,hn];rfl
    ·simp only;rw[hrs,hn];exact zt _ _
    ·simp only;rw[hfs,List.length_append,←Nat.add_assoc];exact zx _ hq2
   ·have hg2:=hx2.get hg (by simp;omega)
    have htl:(xs.take i).length=i:=by rw[List.length_take];omega
    simp only[go_sem,seval, -List.reduceReplicate,hg2,htl]
    refine⟨by simp[yi],.inl ⟨by omega,by omega,(i+1,.sl p (ver+1) 0 (i+1) none),by simp only;omega,⟨by simp only;omega,.inr ⟨by rw[hrs];simp,p,ver+1,?_,hpl,?_⟩,hx3.since (Ext.set PS2 p _) (by intro m hm;simp at hm;subst hm;exact .inr hpl),?_⟩,.inl rfl,rfl⟩⟩
    ·simp only;rw[hrs,List.length_append,hrl];rfl
    ·simp only;rw[hrs];exact zk _ hg2
    ·simp only;rw[hfs,List.length_append,←Nat.add_assoc];exact(zO _ (by omega)).trans hq2
  ·have hi:i=xs.length:=by omega
   subst hi
   rw[List.take_length] at h1 hq1
   simp only[go_sem,seval, -List.reduceReplicate,hlt]
   exact⟨h1,hx,hq1⟩
theorem zB4 (PS:PL) (q:Nat) (t:Bool) (l:Bs) (a:Nat) (xs:List Ms) (hl:l.length≤1000) (hq:zA PS q=rdP t l a) (h:(xs.map yH).flatten<+:l.drop a) (ok:∀m∈xs,okM m) (om:∀m∈xs,yC m) (hm:xs.length≤1000):
  zI Tryz.prog 190 [.int .i64 xs.length,.func (.func 191) [.ptr q 0 0 0] []] PS fun r PS'=>r=.imm (decide (xs.map zM=[])) (xs.map zM)∧Ext [q] PS PS'∧zA PS' q=rdP t l (a+((xs.map yH).flatten).length):=by
  have hlt:=yB hq
  refine LAt.frz (sz:=29) hlt (fun PS' p hp h=>(zO _ (by omega)).trans h) ?_
  refine zJQ (by unfold Tryz.f190;exact rfl) ?_
  simp only[go_sem,seval, -List.reduceReplicate]
  refine zG (zq (α:=Nat×HV) [false,false,false,false,false,false,false,false,true,true,true,true,true,true,true] (fun b=>[(7,.int .i64 b.1),(5,b.2)]) (fun b=>xs.length - b.1) (fun b PS'=>b.1≤xs.length∧LAt PS 29 PS' b.2 ((xs.take b.1).map zM)∧Ext [q] PS PS'∧zA PS' q=rdP t l (a+((xs.take b.1).map yH).flatten.length)) (0,.imm true []) ⟨Nat.zero_le _,.inl ⟨rfl,rfl⟩,(Ext.refl PS).mono (by simp),hq⟩ ?_ ?_)
  ·simp only[go_sem,seval, -List.reduceReplicate,Int.natCast_zero]
  rintro⟨i,x⟩ PS1 ⟨hi,h1,hx,hq1⟩
  simp only at hi h1 hx hq1
  by_cases hlt:i<xs.length
  ·have hp:=kZ _ xs h i hlt
   have hfs:=kg yH xs i hlt
   have hrs:(xs.take (i+1)).map zM=(xs.take i).map zM++[zM xs[i]]:=by rw[List.take_succ_eq_append_getElem hlt,List.map_append];rfl
   have hrl:((xs.take i).map zM).length=i:=by simp;omega
   simp only[go_sem,seval, -List.reduceReplicate,hlt]
   refine zG ((zOQ PS1 q t l _ xs[i] hl hq1 hp (om _ (List.getElem_mem hlt)) (ok _ (List.getElem_mem hlt)).key (ok _ (List.getElem_mem hlt)).val (ok _ (List.getElem_mem hlt)).seq (ok _ (List.getElem_mem hlt)).by_).mono ?_)
   rintro _ PS2 ⟨rfl,hx2,hq2⟩
   have hx3:=hx.since hx2 (by simp)
   rcases h1 with ⟨hn,rfl⟩ | ⟨_,p,ver,rfl,hpl,hg⟩
   ·have hi0:i=0:=by rw[hn] at hrl;exact hrl.symm
    simp only[go_sem,seval, -List.reduceReplicate]
    refine⟨by simp[qL],by simp,by omega,(i+1,.sl PS2.length 0 0 1 none),by simp only;omega,⟨by simp only;omega,.inr ⟨by rw[hrs];simp,PS2.length,0,?_,hx3.1,?_⟩,hx3.since (Ext.app PS2 _) (by simp),?_⟩,.inl rfl,rfl⟩
    ·simp only;rw[hrs,hn];rfl
    ·simp only;rw[hrs,hn];exact zt _ _
    ·simp only;rw[hfs,List.length_append,←Nat.add_assoc];exact zx _ hq2
   ·have hg2:=hx2.get hg (by simp;omega)
    have htl:(xs.take i).length=i:=by rw[List.length_take];omega
    simp only[go_sem,seval, -List.reduceReplicate,hg2,htl]
    refine⟨by simp[qL],.inl ⟨by omega,by omega,(i+1,.sl p (ver+1) 0 (i+1) none),by simp only;omega,⟨by simp only;omega,.inr ⟨by rw[hrs];simp,p,ver+1,?_,hpl,?_⟩,hx3.since (Ext.set PS2 p _) (by intro m hm;simp at hm;subst hm;exact .inr hpl),?_⟩,.inl rfl,rfl⟩⟩
    ·simp only;rw[hrs,List.length_append,hrl];rfl
    ·simp only;rw[hrs];exact zk _ hg2
    ·simp only;rw[hfs,List.length_append,←Nat.add_assoc];exact(zO _ (by omega)).trans hq2
  ·have hi:i=xs.length:=by omega
   subst hi
   rw[List.take_length] at h1 hq1
   simp only[go_sem,seval, -List.reduceReplicate,hlt]
   exact⟨h1,hx,hq1⟩
end Go.Proofs.YtbmibhjjogobhaaGreat
namespace Go.Proofs.YtbmibhjjogobhaaGreat
open Go Go.Eng Go.Mo
variable [zB]
set_option maxRecDepth 20000
attribute [local irreducible] hvc zf hop zg yI zb zu yQ
theorem Ky (s t:Bool) (a b:Bs):Pure Tryz.prog 183 [.imm s (zD a),.imm t (zD b)] (.bool (decide (a=b))):=by
 intro PS
 refine zHV (by unfold Tryz.f183;exact rfl) ?_
 simp only[go_sem,seval, -List.reduceReplicate]
theorem zQ1 (n:Nd):zP 4 (List.replicate 4 [HV.int .u8 0]) (zD (zN n))=zD (yF n):=by
 have e:zD (zN n)=zD (yG n)++(zD (za (qE (yF n)) 4)++(zD (yM n)++zD (List.replicate (248 - (yM n).length) 0))):=by
  rw[zN];simp only[va,List.append_assoc]
 rw[yF]
 simp only[va,List.append_assoc]
 rw[e]
 unfold zP
 have h4:(zD (yG n)).length=4:=by rw[zo,uE]
 have h5:(zD (za (qE (yF n)) 4)).length=4:=by rw[zo,yd]
 rw[List.take_left' h4,List.length_replicate,←List.drop_drop,List.drop_left' h4,List.drop_left' h5]
 rfl
theorem ZT {α:Type} (enc:α→Bs) (xs:List α) (h:∀x,1≤(enc x).length):xs.length≤(xs.map enc).flatten.length:=by
 induction xs with
 | nil=>simp
 | cons x xs ih=>have:=h x;simp only[List.map_cons,List.flatten_cons,List.length_append,List.length_cons];omega
theorem zKE (t:Bool) (n:Nd) (ok:okN n) (hf:yf n):∃u,Pure Tryz.prog 107 [.imm t (zD (zN n))] (.tup [.agg (ze u n),.int .i64 0]):=by
 refine⟨⟨decide (n.ents.map zR=[]),decide (n.kids.map zY=[]),decide (n.pivs.map zJ=[]),decide (n.msgs.map zM=[])⟩,?_⟩
 refine Pure.zp (by rw[jn];intro x hx;simp at hx;rcases hx with rfl | rfl;exact QT _ _;exact .int _ _) fun PS=>?_
 have hl:=kN ok hf
 have hrl:=Jf ok hf
 have hlr:(zD (zN n)).length=256:=by rw[zo,hl]
 refine zOc (by unfold Tryz.f107;exact rfl) ?_
 simp only[go_sem,seval, -List.reduceReplicate,hlr]
 intro _
 have hZ:=zt PS (zC.arr 0 5 [[HV.bool false,HV.imm true [],HV.imm true [],HV.imm true [],HV.imm true []]] false)
 have hx1:=Ext.app PS [zC.arr 0 5 [[HV.bool false,HV.imm true [],HV.imm true [],HV.imm true [],HV.imm true []]] false]
 have hlt:=yB hZ
 generalize PS++[zC.arr 0 5 [[HV.bool false,HV.imm true [],HV.imm true [],HV.imm true [],HV.imm true []]] false]=PS1 at hZ hx1 hlt
 refine zG ((zEo PS1 t (zD (zN n)) (zCd _) (by simp[zr,hlr])).mono ?_)
 rintro _ _ ⟨rfl,rfl⟩
 have hg:=zt PS1 (zC.arr 0 1 (zD (zN n)) true)
 have hz:∀Q Q',(PS1++[Q]).set PS1.length Q'=PS1++[Q']:=fun Q Q'=>by simp
 have hcl:=zQ1 n
 simp only[go_sem,seval, -List.reduceReplicate,hlr,hg,hz,hcl]
 have hne:¬zD (zN n)=[]:=by intro h;rw[h] at hlr;simp at hlr
 have hg1:=zt PS1 (zC.arr 0 1 (zD (yF n)) true)
 have hx2:=hx1.trans (Ext.app PS1 [zC.arr 0 1 (zD (yF n)) true])
 have hZ2:=zx [zC.arr 0 1 (zD (yF n)) true] hZ
 generalize PS1++[zC.arr 0 1 (zD (yF n)) true]=PS2 at hg1 hx2 hZ2
 have hr:Reads Tryz.prog 126 [.sl PS1.length 0 0 256 none] PS2 (.imm false (zD (za (qE (yF n)) 4))):=fun Q hq=>by
  have:=zAw Q PS1.length 0 (yF n) none true (hq.arr hg1) (by omega)
  rwa [hrl] at this
 refine⟨hne,by simp,hne,zG (hr.to ?_)⟩
 have h48:List.drop 4 (List.take 8 (zD (zN n)))=zD (za (qE (yF n)) 4):=by
  rw[zN]
  simp only[va,List.append_assoc]
  have h4:(zD (yG n)).length=4:=by rw[zo,uE]
  have h5:(zD (za (qE (yF n)) 4)).length=4:=by rw[zo,yd]
  rw[←List.take_drop (i:=4) (j:=4),List.drop_left' h4,List.take_left' h5]
 simp only[go_sem,seval, -List.reduceReplicate,hlr,h48]
 refine zG (Reads.to (Pure.reads (Ky _ _ _ _) _) ?_)
 have hbl:=xW ok hf
 simp only[yM,List.length_append] at hbl
 have g1:=ZT qF n.ents (fun e=>by simp[qF,yl];omega)
 have g2:=ZT qN n.kids (fun e=>by simp[qN,yd])
 have g4:=ZT yH n.msgs (fun e=>by simp[yH])
 change _≤(yP n.ents).length at g1
 change _≤(yO n.kids).length at g2
 change _≤(yt n.msgs).length at g4
 have hbd:yM n<+:(zN n).drop 8:=⟨List.replicate (248 - (yM n).length) 0,by
  rw[zN,List.append_assoc _ (yM n),List.drop_left' (by rw[List.length_append,uE,yd])]⟩
 have hb2:(zD (zN n))[2]? =some [.int .u8 (n.msgs.length:Nat)]:=by
  have:(UInt8.ofNat n.msgs.length).toNat=n.msgs.length:=by simp;omega
  rw[←this];rfl
 by_cases hlf:n.leaf=true
 ·have hb0:(zD (zN n))[0]? =some [.int .u8 1]:=by simp[zN,yG,hlf,zD]
  have hb1:(zD (zN n))[1]? =some [.int .u8 (n.ents.length:Nat)]:=by
   have h:(UInt8.ofNat n.ents.length).toNat=n.ents.length:=by simp;omega
   rw[←h];simp[zN,yG,hlf,zD]
  simp only[go_sem,seval, -List.reduceReplicate,hlr,hb0,hb1,hb2]
  refine⟨by omega,by omega,by omega,by omega,zG ?_⟩
  obtain⟨hnk,hnp,hnm⟩:n.kids=[]∧n.pivs=[]∧n.msgs=[]:=by
   have:=hf.1
   unfold yh at this
   rw[if_pos hlf] at this
   exact this.2
  have hnod:HV.agg [.bool true,.imm (decide (n.ents.map zR=[])) (n.ents.map zR),.imm true [],.imm true [],.imm (decide (n.msgs.map zM=[])) (n.msgs.map zM)]=.agg (ze ⟨decide (n.ents.map zR=[]),decide (n.kids.map zY=[]),decide (n.pivs.map zJ=[]),decide (n.msgs.map zM=[])⟩ n):=by
   rw[ze,hlf,hnk,hnp];rfl
  obtain⟨q,hqq⟩:∃q,q=PS2.length:=⟨_,rfl⟩
  rw[←hqq]
  have hqr:zA (PS2++[zC.arr 0 3 [[HV.imm t (zD (zN n)),HV.int .i64 8,HV.bool false]] false,zC.arr 0 5 [[HV.bool true,HV.imm true [],HV.imm true [],HV.imm true [],HV.imm true []]] false]) q=rdP t (zN n) 8:=by
   subst hqq;simp[zA,rdP]
  have hnn:zA (PS2++[zC.arr 0 3 [[HV.imm t (zD (zN n)),HV.int .i64 8,HV.bool false]] false,zC.arr 0 5 [[HV.bool true,HV.imm true [],HV.imm true [],HV.imm true [],HV.imm true []]] false]) (q+1)=zC.arr 0 5 [[HV.bool true,HV.imm true [],HV.imm true [],HV.imm true [],HV.imm true []]] false:=by
   subst hqq;simp[zA,List.getElem?_append_right]
  have hx3:Ext [] PS (PS2++[zC.arr 0 3 [[HV.imm t (zD (zN n)),HV.int .i64 8,HV.bool false]] false,zC.arr 0 5 [[HV.bool true,HV.imm true [],HV.imm true [],HV.imm true [],HV.imm true []]] false]):=hx2.trans (Ext.app _ _)
  have hZ3:=zx [zC.arr 0 3 [[HV.imm t (zD (zN n)),HV.int .i64 8,HV.bool false]] false,zC.arr 0 5 [[HV.bool true,HV.imm true [],HV.imm true [],HV.imm true [],HV.imm true []]] false] hZ2
  have hql:PS.length<q:=by have:=yB hZ2;omega
  generalize PS2++[zC.arr 0 3 [[HV.imm t (zD (zN n)),HV.int .i64 8,HV.bool false]] false,zC.arr 0 5 [[HV.bool true,HV.imm true [],HV.imm true [],HV.imm true [],HV.imm true []]] false]=PS3 at hqr hnn hx3 hZ3 ⊢
  obtain⟨f1,f2,f3,f4⟩:=ok.few
  have hpe:(n.ents.map qF).flatten<+:(zN n).drop 8:=qQ (qQ (qQ hbd))
  refine(zGx PS3 q t (zN n) 8 n.ents (by omega) hqr hpe ok.ents f1).mono ?_
  rintro _ PS4 ⟨rfl,hx4,hq4⟩
  have hn4:=hx4.get hnn (by simp)
  have hP4:=hx3.since hx4 (by intro m hm;simp at hm;subst hm;right;omega)
  have hl4:=yB hn4
  have hy4:∀Q,zA (PS4.set (q+1) Q) (q+1)=Q:=fun Q=>zk Q hn4
  have hx5:∀Q,Ext [] PS (PS4.set (q+1) Q):=fun Q=>hP4.since (Ext.set PS4 (q+1) Q) (by intro m hm;simp at hm;subst hm;right;omega)
  have hq5:∀Q,zA (PS4.set (q+1) Q) q=rdP t (zN n) (8+(yP n.ents).length):=fun Q=>(zO Q (by omega)).trans hq4
  simp only[go_sem,seval, -List.reduceReplicate,hn4,hy4]
  have hZx:=fun Q=>(zO Q (by omega:q+1≠PS.length)).trans (hx4.get hZ3 (by simp;omega))
  have hnx:=hy4 (zC.arr 0 5 [[HV.bool true,HV.imm (decide (n.ents.map zR=[])) (n.ents.map zR),HV.imm true [],HV.imm true [],HV.imm true []]] false)
  have hxx:=hx5 (zC.arr 0 5 [[HV.bool true,HV.imm (decide (n.ents.map zR=[])) (n.ents.map zR),HV.imm true [],HV.imm true [],HV.imm true []]] false)
  have hqx:=hq5 (zC.arr 0 5 [[HV.bool true,HV.imm (decide (n.ents.map zR=[])) (n.ents.map zR),HV.imm true [],HV.imm true [],HV.imm true []]] false)
  replace hZx:=hZx (zC.arr 0 5 [[HV.bool true,HV.imm (decide (n.ents.map zR=[])) (n.ents.map zR),HV.imm true [],HV.imm true [],HV.imm true []]] false)
  generalize PS4.set (q+1) (zC.arr 0 5 [[HV.bool true,HV.imm (decide (n.ents.map zR=[])) (n.ents.map zR),HV.imm true [],HV.imm true [],HV.imm true []]] false)=PSx at hZx hnx hxx hqx ⊢
  have hmx:(n.msgs.map yH).flatten<+:(zN n).drop (8+(yP n.ents).length):=(by rw[hnm];exact List.nil_prefix)
  refine zG ((zB4 PSx q t (zN n) (8+(yP n.ents).length) n.msgs (by omega) hqx hmx ok.msgs (fun m hm=>XX hf hm) f4).mono ?_)
  rintro _ PS6 ⟨rfl,hx6,hq6⟩
  have hn6:=hx6.get hnx (by simp)
  have hP6:=hxx.since hx6 (by intro m hm;simp at hm;subst hm;right;omega)
  have hy6:∀Q,zA (PS6.set (q+1) Q) (q+1)=Q:=fun Q=>zk Q hn6
  have hq7:∀Q,zA (PS6.set (q+1) Q) q=rdP t (zN n) _:=fun Q=>(zO Q (by omega)).trans hq6
  simp only[go_sem,seval, -List.reduceReplicate,hn6,hy6,hq7,rdP]
  refine zG ?_
  rw[hnod]
  refine(GW _ n ok hf).call ?_
  simp only[go_sem,seval, -List.reduceReplicate,hn6,hy6,hq7,rdP]
  refine zG ((Ky _ _ _ _).call ?_)
  have hZ6:=hx6.get hZx (by simp;omega)
  have hZ7:∀Q,zA (PS6.set (q+1) Q) PS.length=_:=fun Q=>(zO Q (by omega)).trans hZ6
  have hZ8:∀Q Q',zA ((PS6.set (q+1) Q).set PS.length Q') PS.length=Q':=fun Q Q'=>zk Q' (hZ7 Q)
  simp only[go_sem,seval, -List.reduceReplicate,hn6,hy6,hq7,rdP,hZ7,hZ8]
  rw[hnod]
  exact⟨rfl,(hP6.since (Ext.set _ (q+1) _) (by intro m hm;simp at hm;subst hm;right;omega)).since (Ext.set _ PS.length _) (by simp)⟩
 ·have hlf':n.leaf=false:=by simpa using hlf
  have hb0:(zD (zN n))[0]? =some [.int .u8 2]:=by simp[zN,yG,hlf',zD]
  have hb1:(zD (zN n))[1]? =some [.int .u8 (n.kids.length:Nat)]:=by
   have h:(UInt8.ofNat n.kids.length).toNat=n.kids.length:=by simp;omega
   rw[←h];simp[zN,yG,hlf',zD]
  obtain⟨hne,hki,hmi⟩:n.ents=[]∧yz n.kids n.pivs∧qh n.msgs:=by
   have:=hf.1
   unfold yh at this
   rw[if_neg hlf] at this
   exact this
  have hkl:=hki.len
  have hkp:((n.kids.length:Nat):Int) - 1=((n.pivs.length:Nat):Int):=by omega
  have hkpos:∀y∈n.kids,1≤y∧y<256:=fun y hy=>by
   obtain⟨i,hi⟩:=List.mem_iff_getElem?.1 hy
   exact VA hf hi
  obtain⟨xs,hxs⟩:∃xs:List Nat,xs=n.kids.map Int.toNat:=⟨_,rfl⟩
  have hxk:xs.map (fun x:Nat=>[HV.int .i64 (x:Int)])=n.kids.map zY:=by
   rw[hxs,List.map_map]
   refine List.map_congr_left fun y hy=>?_
   have:=hkpos y hy
   show [HV.int .i64 ((y.toNat:Nat):Int)]=[HV.int .i64 y]
   rw[Int.toNat_of_nonneg (by omega)]
  have hxe:xs.map (za · 4)=n.kids.map qN:=by rw[hxs,List.map_map];rfl
  have hxl:xs.length=n.kids.length:=by rw[hxs,List.length_map]
  have hnod:HV.agg [.bool false,.imm true [],.imm (decide (n.kids.map zY=[])) (n.kids.map zY),.imm (decide (n.pivs.map zJ=[])) (n.pivs.map zJ),.imm (decide (n.msgs.map zM=[])) (n.msgs.map zM)]=.agg (ze ⟨decide (n.ents.map zR=[]),decide (n.kids.map zY=[]),decide (n.pivs.map zJ=[]),decide (n.msgs.map zM=[])⟩ n):=by
   rw[ze,hlf',hne];rfl
  simp only[go_sem,seval, -List.reduceReplicate,hlr,hb0,hb1,hb2]
  refine⟨by omega,by omega,by omega,by omega,zG ?_⟩
  obtain⟨q,hqq⟩:∃q,q=PS2.length:=⟨_,rfl⟩
  rw[←hqq]
  have hqr:zA (PS2++[zC.arr 0 3 [[HV.imm t (zD (zN n)),HV.int .i64 8,HV.bool false]] false,zC.arr 0 5 [[HV.bool false,HV.imm true [],HV.imm true [],HV.imm true [],HV.imm true []]] false]) q=rdP t (zN n) 8:=by
   subst hqq;simp[zA,rdP]
  have hnn:zA (PS2++[zC.arr 0 3 [[HV.imm t (zD (zN n)),HV.int .i64 8,HV.bool false]] false,zC.arr 0 5 [[HV.bool false,HV.imm true [],HV.imm true [],HV.imm true [],HV.imm true []]] false]) (q+1)=zC.arr 0 5 [[HV.bool false,HV.imm true [],HV.imm true [],HV.imm true [],HV.imm true []]] false:=by
   subst hqq;simp[zA,List.getElem?_append_right]
  have hx3:Ext [] PS (PS2++[zC.arr 0 3 [[HV.imm t (zD (zN n)),HV.int .i64 8,HV.bool false]] false,zC.arr 0 5 [[HV.bool false,HV.imm true [],HV.imm true [],HV.imm true [],HV.imm true []]] false]):=hx2.trans (Ext.app _ _)
  have hZ3:=zx [zC.arr 0 3 [[HV.imm t (zD (zN n)),HV.int .i64 8,HV.bool false]] false,zC.arr 0 5 [[HV.bool false,HV.imm true [],HV.imm true [],HV.imm true [],HV.imm true []]] false] hZ2
  have hql:PS.length<q:=by have:=yB hZ2;omega
  generalize PS2++[zC.arr 0 3 [[HV.imm t (zD (zN n)),HV.int .i64 8,HV.bool false]] false,zC.arr 0 5 [[HV.bool false,HV.imm true [],HV.imm true [],HV.imm true [],HV.imm true []]] false]=PS3 at hqr hnn hx3 hZ3 ⊢
  obtain⟨f1,f2,f3,f4⟩:=ok.few
  have hpe:(n.ents.map qF).flatten<+:(zN n).drop 8:=qQ (qQ (qQ hbd))
  have hpk:(xs.map (za · 4)).flatten<+:(zN n).drop 8:=by
   rw[hxe]
   have:=qQ (qQ hbd)
   rw[hne] at this
   simpa [yP,yO] using this
  have hkids:=zLX PS3 q t (zN n) 8 xs (by omega) hqr hpk (fun x hx=>by rw[hxs] at hx;obtain⟨y,hy,rfl⟩:=List.mem_map.1 hx;have:=hkpos y hy;omega) (by omega)
  rw[hxk,hxe,hxl] at hkids
  refine hkids.mono ?_
  rintro _ PS4 ⟨rfl,hx4,hq4⟩
  have hn4:=hx4.get hnn (by simp)
  have hP4:=hx3.since hx4 (by intro m hm;simp at hm;subst hm;right;omega)
  have hl4:=yB hn4
  have hy4:∀Q,zA (PS4.set (q+1) Q) (q+1)=Q:=fun Q=>zk Q hn4
  have hx5:∀Q,Ext [] PS (PS4.set (q+1) Q):=fun Q=>hP4.since (Ext.set PS4 (q+1) Q) (by intro m hm;simp at hm;subst hm;right;omega)
  have hq5:∀Q,zA (PS4.set (q+1) Q) q=rdP t (zN n) (8+(yO n.kids).length):=fun Q=>(zO Q (by omega)).trans hq4
  have hZ5:=fun Q=>(zO Q (by omega:q+1≠PS.length)).trans (hx4.get hZ3 (by simp;omega))
  simp only[go_sem,seval, -List.reduceReplicate,hn4,hy4,hkp]
  replace hy4:=hy4 (zC.arr 0 5 [[HV.bool false,HV.imm true [],HV.imm (decide (n.kids.map zY=[])) (n.kids.map zY),HV.imm true [],HV.imm true []]] false)
  replace hx5:=hx5 (zC.arr 0 5 [[HV.bool false,HV.imm true [],HV.imm (decide (n.kids.map zY=[])) (n.kids.map zY),HV.imm true [],HV.imm true []]] false)
  replace hq5:=hq5 (zC.arr 0 5 [[HV.bool false,HV.imm true [],HV.imm (decide (n.kids.map zY=[])) (n.kids.map zY),HV.imm true [],HV.imm true []]] false)
  replace hZ5:=hZ5 (zC.arr 0 5 [[HV.bool false,HV.imm true [],HV.imm (decide (n.kids.map zY=[])) (n.kids.map zY),HV.imm true [],HV.imm true []]] false)
  generalize PS4.set (q+1) (zC.arr 0 5 [[HV.bool false,HV.imm true [],HV.imm (decide (n.kids.map zY=[])) (n.kids.map zY),HV.imm true [],HV.imm true []]] false)=PS5 at hy4 hx5 hq5 hZ5 ⊢
  have hpp:(n.pivs.map txt).flatten<+:(zN n).drop (8+(yO n.kids).length):=by
   have:=uC (x:=yP n.ents++yO n.kids) (qQ hbd)
   rw[hne] at this
   simpa [yP,yS] using this
  refine⟨by omega,zG ((zOP PS5 q t (zN n) _ n.pivs (by omega) hq5 hpp ok.pivs f3).mono ?_)⟩
  rintro _ PS6 ⟨rfl,hx6,hq6⟩
  have hn6:=hx6.get hy4 (by simp)
  have hP6:=hx5.since hx6 (by intro m hm;simp at hm;subst hm;right;omega)
  have hy6:∀Q,zA (PS6.set (q+1) Q) (q+1)=Q:=fun Q=>zk Q hn6
  have hx7:∀Q,Ext [] PS (PS6.set (q+1) Q):=fun Q=>hP6.since (Ext.set PS6 (q+1) Q) (by intro m hm;simp at hm;subst hm;right;omega)
  have hq7:∀Q,zA (PS6.set (q+1) Q) q=rdP t (zN n) (8+(yO n.kids).length+(yS n.pivs).length):=fun Q=>(zO Q (by omega)).trans hq6
  have hZ7:=fun Q=>(zO Q (by omega:q+1≠PS.length)).trans (hx6.get hZ5 (by simp;omega))
  simp only[go_sem,seval, -List.reduceReplicate,hn6,hy6]
  have hnx:=hy6 (zC.arr 0 5 [[HV.bool false,HV.imm true [],HV.imm (decide (n.kids.map zY=[])) (n.kids.map zY),HV.imm (decide (n.pivs.map zJ=[])) (n.pivs.map zJ),HV.imm true []]] false)
  have hxx:=hx7 (zC.arr 0 5 [[HV.bool false,HV.imm true [],HV.imm (decide (n.kids.map zY=[])) (n.kids.map zY),HV.imm (decide (n.pivs.map zJ=[])) (n.pivs.map zJ),HV.imm true []]] false)
  have hqx:=hq7 (zC.arr 0 5 [[HV.bool false,HV.imm true [],HV.imm (decide (n.kids.map zY=[])) (n.kids.map zY),HV.imm (decide (n.pivs.map zJ=[])) (n.pivs.map zJ),HV.imm true []]] false)
  have hZx:=hZ7 (zC.arr 0 5 [[HV.bool false,HV.imm true [],HV.imm (decide (n.kids.map zY=[])) (n.kids.map zY),HV.imm (decide (n.pivs.map zJ=[])) (n.pivs.map zJ),HV.imm true []]] false)
  clear hy6 hx7 hq7 hZ7
  generalize PS6.set (q+1) (zC.arr 0 5 [[HV.bool false,HV.imm true [],HV.imm (decide (n.kids.map zY=[])) (n.kids.map zY),HV.imm (decide (n.pivs.map zJ=[])) (n.pivs.map zJ),HV.imm true []]] false)=PSx at hZx hnx hxx hqx ⊢
  clear hn6 hP6 hx6 hq6
  have hmx:(n.msgs.map yH).flatten<+:(zN n).drop (8+(yO n.kids).length+(yS n.pivs).length):=(by have:=uC (x:=yP n.ents++yO n.kids++yS n.pivs) hbd;rw[hne] at this;simpa [yP,yt,Nat.add_assoc] using this)
  refine zG ((zB4 PSx q t (zN n) (8+(yO n.kids).length+(yS n.pivs).length) n.msgs (by omega) hqx hmx ok.msgs (fun m hm=>XX hf hm) f4).mono ?_)
  rintro _ PS6 ⟨rfl,hx6,hq6⟩
  have hn6:=hx6.get hnx (by simp)
  have hP6:=hxx.since hx6 (by intro m hm;simp at hm;subst hm;right;omega)
  have hy6:∀Q,zA (PS6.set (q+1) Q) (q+1)=Q:=fun Q=>zk Q hn6
  have hq7:∀Q,zA (PS6.set (q+1) Q) q=rdP t (zN n) _:=fun Q=>(zO Q (by omega)).trans hq6
  simp only[go_sem,seval, -List.reduceReplicate,hn6,hy6,hq7,rdP]
  refine zG ?_
  rw[hnod]
  refine(GW _ n ok hf).call ?_
  simp only[go_sem,seval, -List.reduceReplicate,hn6,hy6,hq7,rdP]
  refine zG ((Ky _ _ _ _).call ?_)
  have hZ6:=hx6.get hZx (by simp;omega)
  have hZ7:∀Q,zA (PS6.set (q+1) Q) PS.length=_:=fun Q=>(zO Q (by omega)).trans hZ6
  have hZ8:∀Q Q',zA ((PS6.set (q+1) Q).set PS.length Q') PS.length=Q':=fun Q Q'=>zk Q' (hZ7 Q)
  simp only[go_sem,seval, -List.reduceReplicate,hn6,hy6,hq7,rdP,hZ7,hZ8]
  rw[hnod]
  exact⟨rfl,(hP6.since (Ext.set _ (q+1) _) (by intro m hm;simp at hm;subst hm;right;omega)).since (Ext.set _ PS.length _) (by simp)⟩
end Go.Proofs.YtbmibhjjogobhaaGreat
