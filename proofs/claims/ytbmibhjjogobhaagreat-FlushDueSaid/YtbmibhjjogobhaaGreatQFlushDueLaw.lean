/-
The law FlushDue returns true at every input: out of the abstract contract of its walk.
No conditions.
-/
import Derived.Test.YtbmibhjjogobhaaGreatRows
import Derived.WalkKit
import Derived.ProofKit
import Derived.OpenShut
import Derived.ChangeMaps5
import Derived.Test.YtbmibhjjogobhaaGreatQEngZ
import Derived.Test.YtbmibhjjogobhaaGreatQFdK
set_option linter.unusedSectionVars false
set_option linter.unusedSimpArgs false
set_option linter.unusedVariables false
namespace Go.Proofs.YtbmibhjjogobhaaGreat.flushDue
open Go Go.Eng Go.ChangeMaps Go.ChangeShapes Go.WideShapes Go.ChangeAt Go.RowKit
theorem zS4 [zB] {M:Nat→Prop} {e:List Pos} {w:World} (s:ByteArray):zH M e w (.str s.data.toList) (.string s):=.str s.data.toList
instance:zB:=zB.of (fun _=>0) (fun _=>[])
theorem own:ownKnob Tryz.prog.godebug=none:=by kernel_rfl
theorem laid:laidOutB Tryz.prog=true:=by kernel_rfl
set_option maxRecDepth 100000 in
theorem lifted (os:Os) (started:os.Started) (H:Type) (enc:TypeId×Value→H):
  ReturnsInHanded {} Tryz.checked os 3 .any (Rows.flushDueSpec.pre6 enc Tryz.prog Tryz.f3 Rows.flushDueRow.domain false) (Rows.flushDueSpec.post enc Tryz.prog Tryz.f3 false true false false):=by
 refine returnsInHanded_of_change_sized (C:=Tryz.checked) own started (by kernel_rfl) Tryz.func3
  (ChangeSpec.witness6 (enc:=enc) (C:=Tryz.checked) false ⟨#[],#[.slice none 0 0,.slice none 0 0,.slice none 0 0,.bool false],[]⟩ 8 (by kernel_rfl) (by kernel_rfl) (by kernel_rfl) (by kernel_rfl)) ?_
 intro W base args ds gs before hval0 hW hcnd hsz0 _
 have hsz:(DataW.weightsEach Tryz.prog (Tryz.f3.params.toList++Rows.flushDueSpec.plain.varTypes Tryz.prog) (ds++gs)).all (· ≤reachBytes)=true:=hsz0
 have zT:∀(j:Nat) t v,Tryz.f3.params[j]? =some t→args[j]? =some v→Value.okWide Tryz.prog W .any base t v:=hval0
 have hW':=hW
 obtain⟨p,q,hA0,hV,rfl,hfz,hnd⟩:=hW
 have hA:DataW.TrodAll enc Tryz.prog W 0 (fun _=>true) true Tryz.f3.params.toList args.toList ds p:=hA0
 rw[Tryz.params3] at hA zT hsz
 obtain⟨v0,vs0,d0,ds0,p0,q0,hargs,rfl,rfl,h0,r0⟩:=trodAll_cons hA
 obtain⟨v1,vs1,d1,ds1,p1,q1,rfl,rfl,rfl,h1,r1⟩:=trodAll_cons r0
 obtain⟨v2,vs2,d2,ds2,p2,q2,rfl,rfl,rfl,h2,r2⟩:=trodAll_cons r1
 obtain⟨v3,vs3,d3,ds3,p3,q3,rfl,rfl,rfl,h3,r3⟩:=trodAll_cons r2
 obtain⟨rfl,rfl,rfl⟩:=trodAll_nil r3
 obtain rfl:args=#[v0,v1,v2,v3]:=by cases args;simp_all
 obtain⟨rfl,rfl⟩:=trodVars_none hV
 obtain⟨fuel0,f0⟩:=h0
 have h0:DataW.Trod enc Tryz.prog W 0 (fun _=>true) true 22 v0 d0 p0:=⟨fuel0,f0⟩
 obtain⟨a0,n0,c0,rfl⟩:=okWide_slice Tryz.underlying22 (zT 0 22 v0 rfl rfl)
 obtain⟨u0,l0,e0,vr0,kn0⟩:=open_ints f0
 obtain rfl:Value.slice a0 n0 c0=u0:=by simpa [Value.cells] using e0
 obtain⟨fuel1,f1⟩:=h1
 have h1:DataW.Trod enc Tryz.prog W 0 (fun _=>true) true 22 v1 d1 p1:=⟨fuel1,f1⟩
 obtain⟨a1,n1,c1,rfl⟩:=okWide_slice Tryz.underlying22 (zT 1 22 v1 rfl rfl)
 obtain⟨u1,l1,e1,vr1,kn1⟩:=open_ints f1
 obtain rfl:Value.slice a1 n1 c1=u1:=by simpa [Value.cells] using e1
 obtain⟨fuel2,f2⟩:=h2
 have h2:DataW.Trod enc Tryz.prog W 0 (fun _=>true) true 22 v2 d2 p2:=⟨fuel2,f2⟩
 obtain⟨a2,n2,c2,rfl⟩:=okWide_slice Tryz.underlying22 (zT 2 22 v2 rfl rfl)
 obtain⟨u2,l2,e2,vr2,kn2⟩:=open_ints f2
 obtain rfl:Value.slice a2 n2 c2=u2:=by simpa [Value.cells] using e2
 obtain⟨a3,rfl,rfl,rfl⟩:=open_bool Tryz.underlying4 (zT 3 4 v3 rfl rfl) h3
 obtain⟨T,hc⟩:=zMs l0 l1 l2 a3 (kn0 _ _ 0 rfl rfl hsz)
 letI:zB:=T
 have vr0:=vr0 T
 have vr1:=vr1 T
 have vr2:=vr2 T
 refine(zOS (hc) (VK vr0 (VK vr1 (VK vr2 (VK (.bool _) zGg))))).mono fun e W' ⟨he,hg⟩=>?_
 subst he
 exact⟨_,rfl,zRi (pv:=[]) hW' (fun _ _ _=>(trodAll_cons_mk (shut_bool Tryz.underlying4 _) trodAll_mk0)) (fun sp hsp=>(trodAll_cons_mk (WideElems.Trod_stays laid (by kernel_rfl) (by decide+kernel) h0 (fun x hx=>hg.same (hW'.lt x (by simp[hx]))) (fun x hx=>hsp x (by simp[hx]))) (trodAll_cons_mk (WideElems.Trod_stays laid (by kernel_rfl) (by decide+kernel) h1 (fun x hx=>hg.same (hW'.lt x (by simp[hx]))) (fun x hx=>hsp x (by simp[hx]))) (trodAll_cons_mk (WideElems.Trod_stays laid (by kernel_rfl) (by decide+kernel) h2 (fun x hx=>hg.same (hW'.lt x (by simp[hx]))) (fun x hx=>hsp x (by simp[hx]))) (trodAll_cons_mk (shut_bool Tryz.underlying4 _) trodAll_mk0))))) (fun _ _=>rfl) rfl
  hg (ok_one (by kernel_rfl) rfl (okWide_bool_mk Tryz.underlying4 _))⟩
theorem zPU:Rows.flushDueRow.holds Tryz.pinned (OpenSpec.ofChange Rows.flushDueSpec):=
 OpenClaim.holds_of_wide 3 Tryz.f3 rfl rfl rfl rfl rfl rfl rfl ⟨rfl,rfl,rfl,rfl,rfl⟩ rfl rfl rfl rfl rfl (by kernel_rfl) Tryz.func3 (by kernel_rfl)
  (of_decide_eq_true (by kernel_rfl)) (by unfold Func.isWrapper;first | (rw[if_pos (by decide+kernel)];kernel_rfl) | (rw[if_neg (by decide+kernel)];exact⟨rfl,rfl⟩))
  (fun os started H enc _=>lifted os started H enc)
/-- The statement. -/
theorem proved:Rows.FlushDueSaid:=
 zPU
end Go.Proofs.YtbmibhjjogobhaaGreat.flushDue
