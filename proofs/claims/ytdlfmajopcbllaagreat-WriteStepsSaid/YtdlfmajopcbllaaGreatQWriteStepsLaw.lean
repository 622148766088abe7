/-
The law WriteSteps returns true at every input: out of the abstract contract of its walk.
No conditions.
-/
import Derived.Test.YtdlfmajopcbllaaGreatRows
import Derived.WalkKit
import Derived.ProofKit
import Derived.OpenShut
import Derived.ChangeMaps5
import Derived.Test.YtdlfmajopcbllaaGreatQEngZ
import Derived.Test.YtdlfmajopcbllaaGreatQWsK
set_option linter.unusedSectionVars false
set_option linter.unusedSimpArgs false
set_option linter.unusedVariables false
namespace Go.Proofs.YtdlfmajopcbllaaGreat.writeSteps
open Go Go.Eng Go.ChangeMaps Go.ChangeShapes Go.WideShapes Go.ChangeAt Go.RowKit
theorem str_rel [Toks] {M:Nat→Prop} {e:List Pos} {w:World} (s:ByteArray):VRel M e w (.str s.data.toList) (.string s):=.str s.data.toList
instance:Toks:=Toks.of (fun _=>0) (fun _=>[])
theorem own:ownKnob Tryz.prog.godebug=none:=by kernel_rfl
theorem laid:laidOutB Tryz.prog=true:=by kernel_rfl
set_option maxRecDepth 100000 in
theorem lifted (os:Os) (started:os.Started) (H:Type) (enc:TypeId×Value→H):
    ReturnsInHanded {} Tryz.checked os 7 .any (Rows.writeStepsSpec.pre6 enc Tryz.prog Tryz.f7 Rows.writeStepsRow.domain false) (Rows.writeStepsSpec.post enc Tryz.prog Tryz.f7 false true false false):=by
  refine returnsInHanded_of_change_sized (C:=Tryz.checked) own started (by kernel_rfl) Tryz.func7
    (ChangeSpec.witness6 (enc:=enc) (C:=Tryz.checked) false ⟨#[],#[.slice none 0 0,.slice none 0 0,.int .i64 0],[]⟩ 8 (by kernel_rfl) (by kernel_rfl) (by kernel_rfl) (by kernel_rfl)) ?_
  intro W base args ds gs before hval0 hW hcnd hsz0 _
  have hsz:(DataW.weightsEach Tryz.prog (Tryz.f7.params.toList++Rows.writeStepsSpec.plain.varTypes Tryz.prog) (ds++gs)).all (· ≤reachBytes)=true:=hsz0
  have hval:∀(j:Nat) t v,Tryz.f7.params[j]? =some t→args[j]? =some v→Value.okWide Tryz.prog W .any base t v:=hval0
  have hW':=hW
  obtain⟨p,q,hA0,hV,rfl,hfz,hnd⟩:=hW
  have hA:DataW.TrodAll enc Tryz.prog W 0 (fun _=>true) true Tryz.f7.params.toList args.toList ds p:=hA0
  rw[Tryz.params7] at hA hval hsz
  obtain⟨v0,vs0,d0,ds0,p0,q0,hargs,rfl,rfl,h0,r0⟩:=trodAll_cons hA
  obtain⟨v1,vs1,d1,ds1,p1,q1,rfl,rfl,rfl,h1,r1⟩:=trodAll_cons r0
  obtain⟨v2,vs2,d2,ds2,p2,q2,rfl,rfl,rfl,h2,r2⟩:=trodAll_cons r1
  obtain⟨rfl,rfl,rfl⟩:=trodAll_nil r2
  obtain rfl:args=#[v0,v1,v2]:=by cases args;simp_all
  obtain⟨rfl,rfl⟩:=trodVars_none hV
  obtain⟨fuel0,f0⟩:=h0
  have h0:DataW.Trod enc Tryz.prog W 0 (fun _=>true) true 22 v0 d0 p0:=⟨fuel0,f0⟩
  obtain⟨a0,n0,c0,rfl⟩:=okWide_slice Tryz.underlying22 (hval 0 22 v0 rfl rfl)
  obtain⟨u0,l0,e0,vr0,kn0⟩:=open_ints f0
  obtain rfl:Value.slice a0 n0 c0=u0:=by simpa [Value.cells] using e0
  obtain⟨fuel1,f1⟩:=h1
  have h1:DataW.Trod enc Tryz.prog W 0 (fun _=>true) true 22 v1 d1 p1:=⟨fuel1,f1⟩
  obtain⟨a1,n1,c1,rfl⟩:=okWide_slice Tryz.underlying22 (hval 1 22 v1 rfl rfl)
  obtain⟨u1,l1,e1,vr1,kn1⟩:=open_ints f1
  obtain rfl:Value.slice a1 n1 c1=u1:=by simpa [Value.cells] using e1
  obtain⟨a2,rfl,rfl,rfl,w2⟩:=open_int Tryz.underlying3 (hval 2 3 v2 rfl rfl) h2
  obtain⟨T,hc⟩:=steps_ l0 l1 a2 (kn0 _ _ 0 rfl rfl hsz)
  letI:Toks:=T
  have vr0:=vr0 T
  have vr1:=vr1 T
  refine(walk_of (hc) (frel_cons vr0 (frel_cons vr1 (frel_cons (.int _ _) frel_nil)))).mono fun e W' ⟨he,hg⟩=>?_
  subst he
  exact⟨_,rfl,post_new (pv:=[]) hW' (fun _ _ _=>(trodAll_cons_mk (shut_bool Tryz.underlying4 _) trodAll_mk0)) (fun sp hsp=>(trodAll_cons_mk (WideElems.Trod_stays laid (by kernel_rfl) (by decide+kernel) h0 (fun x hx=>hg.same (hW'.lt x (by simp[hx]))) (fun x hx=>hsp x (by simp[hx]))) (trodAll_cons_mk (WideElems.Trod_stays laid (by kernel_rfl) (by decide+kernel) h1 (fun x hx=>hg.same (hW'.lt x (by simp[hx]))) (fun x hx=>hsp x (by simp[hx]))) (trodAll_cons_mk (shut_int Tryz.underlying3 w2) trodAll_mk0)))) (fun _ _=>rfl) rfl
    hg (ok_one (by kernel_rfl) rfl (okWide_bool_mk Tryz.underlying4 _))⟩
/-! The closed facts,one by one. -/
theorem j0:(Rows.writeStepsRow.wf (OpenSpec.ofChange Rows.writeStepsSpec))=true:=by kernel_rfl
theorem j1:(laidOutB Tryz.pinned.checked.prog)=true:=by kernel_rfl
theorem j2:(mapsRowed Tryz.pinned.checked.prog)=true:=by kernel_rfl
theorem j3:(Tryz.f7.params.all (Tryz.pinned.checked.prog.readableRec ·))=true:=by kernel_rfl
theorem j4:(namedTie Tryz.pinned.checked.prog Rows.writeStepsRow.named Rows.writeStepsSpec.vars)=true:=by kernel_rfl
theorem j5:((Rows.writeStepsRow.stops == []))=true:=by kernel_rfl
theorem j6:((Tryz.pinned.checked.prog.stops == []))=true:=by kernel_rfl
theorem j7:((Rows.writeStepsRow.knobs == []))=true:=by kernel_rfl
theorem j8:((Tryz.pinned.checked.prog.stopKnobs == []))=true:=by kernel_rfl
theorem j9:((Rows.writeStepsRow.inPlace == Tryz.pinned.checked.prog.inPlace 7))=true:=by kernel_rfl
theorem j10:((Rows.writeStepsRow.unfollowed == Tryz.pinned.checked.prog.unfollowed 7))=true:=by kernel_rfl
theorem j11:((Rows.writeStepsRow.recurses == Tryz.pinned.checked.prog.recurses 7))=true:=by kernel_rfl
theorem j12:((Rows.writeStepsRow.named == Tryz.pinned.checked.prog.varsNamed 7))=true:=by kernel_rfl
theorem j13:((Rows.writeStepsRow.maps == (Tryz.f7.params.toList++Rows.writeStepsSpec.plain.varTypes Tryz.pinned.checked.prog).any (Tryz.pinned.checked.prog.mapsRec ·)))=true:=by kernel_rfl
theorem j14:((Rows.writeStepsRow.ifaces == (Tryz.f7.params.toList++Rows.writeStepsSpec.plain.varTypes Tryz.pinned.checked.prog).any (Tryz.pinned.checked.prog.ifacesRec ·)))=true:=by kernel_rfl
theorem j15:((Rows.writeStepsRow.mapsOut == Tryz.pinned.checked.prog.mapsAmong Tryz.f7.resultTypes.toList))=true:=by kernel_rfl
theorem j16:((Rows.writeStepsRow.loops == (Tryz.f7.params.toList++Rows.writeStepsSpec.plain.varTypes Tryz.pinned.checked.prog).any (Tryz.pinned.checked.prog.loopsFrom ·)))=true:=by kernel_rfl
theorem j17:((Rows.writeStepsRow.wideKeys == (Tryz.f7.params.toList++Rows.writeStepsSpec.plain.varTypes Tryz.pinned.checked.prog++Tryz.f7.resultTypes.toList).any (Tryz.pinned.checked.prog.wideKeysFrom ·)))=true:=by kernel_rfl
theorem j18:(Rows.writeStepsSpec.vars.all (Tryz.pinned.checked.prog.varReadable ·))=true:=by kernel_rfl
theorem j19:(Tryz.f7.resultTypes.all (fun t=>Tryz.pinned.checked.prog.readableRec t&&decide (t<Tryz.pinned.checked.prog.types.size)))=true:=by kernel_rfl
theorem j20:((Rows.writeStepsRow.ifacesOut == Tryz.f7.resultTypes.toList.any (Tryz.pinned.checked.prog.ifacesRec ·)))=true:=by kernel_rfl
theorem j21:((Rows.writeStepsRow.loopsOut == Tryz.f7.resultTypes.toList.any (Tryz.pinned.checked.prog.loopsFrom ·)))=true:=by kernel_rfl
theorem j22:((Rows.writeStepsRow.plainKeys == Tryz.pinned.checked.prog.plainKeys))=true:=by kernel_rfl
theorem j23:(Rows.writeStepsRow.shortTexts.isNone)=true:=by kernel_rfl
theorem j24:(Tryz.pinned.checked.prog.stopsHeard)=true:=by kernel_rfl
theorem j25:(Tryz.pinned.checked.prog.mayEnter)=true:=by kernel_rfl
theorem j26:((Rows.writeStepsRow.lifted == Tryz.pinned.checked.prog.liftsFinal))=true:=by kernel_rfl
theorem j27:((Tryz.pinned.checked.prog.make == some Rows.writeStepsRow.make))=true:=by kernel_rfl
theorem j28:((Rows.writeStepsRow.kinds == (if Rows.writeStepsRow.domain.isEmpty then [] else Tryz.f7.params.toList.map fun t=>match Tryz.pinned.checked.prog.underlying t with | some (.int k)=>some k | _=>none)))=true:=by kernel_rfl
theorem j29:((Rows.writeStepsRow.pinned == Rows.writeStepsRow.pinnedBy))=true:=by kernel_rfl
theorem j30:((Rows.writeStepsRow.veiled == (Tryz.f7.params.toList++Rows.writeStepsSpec.plain.varTypes Tryz.pinned.checked.prog++Tryz.f7.resultTypes.toList).any (Tryz.pinned.checked.prog.veiledRec ·)))=true:=by kernel_rfl
theorem j31:(Rows.writeStepsRow.veiledFits Tryz.pinned.checked.prog Tryz.f7.params.toList (Tryz.f7.params.toList++Rows.writeStepsSpec.plain.varTypes Tryz.pinned.checked.prog++Tryz.f7.resultTypes.toList))=true:=by kernel_rfl
theorem and_t {a b:Bool} (h:a=true) (k:b=true):(a&&b)=true:=by rw[h,k];rfl
set_option maxRecDepth 100000 in
theorem closed:joinedFacts Tryz.pinned.checked.prog 7 Tryz.f7 Rows.writeStepsSpec Rows.writeStepsRow=true:=by
  unfold joinedFacts
  refine and_t ?_ j31
  refine and_t ?_ j30
  refine and_t ?_ j29
  refine and_t ?_ j28
  refine and_t ?_ j27
  refine and_t ?_ j26
  refine and_t ?_ j25
  refine and_t ?_ j24
  refine and_t ?_ j23
  refine and_t ?_ j22
  refine and_t ?_ j21
  refine and_t ?_ j20
  refine and_t ?_ j19
  refine and_t ?_ j18
  refine and_t ?_ j17
  refine and_t ?_ j16
  refine and_t ?_ j15
  refine and_t ?_ j14
  refine and_t ?_ j13
  refine and_t ?_ j12
  refine and_t ?_ j11
  refine and_t ?_ j10
  refine and_t ?_ j9
  refine and_t ?_ j8
  refine and_t ?_ j7
  refine and_t ?_ j6
  refine and_t ?_ j5
  refine and_t ?_ j4
  refine and_t ?_ j3
  refine and_t ?_ j2
  refine and_t ?_ j1
  exact j0
theorem over:Rows.writeStepsRow.holds Tryz.pinned (OpenSpec.ofChange Rows.writeStepsSpec):=
  OpenClaim.holds_of_wide 7 Tryz.f7 rfl rfl rfl rfl rfl rfl rfl ⟨rfl,rfl,rfl,rfl,rfl⟩ rfl rfl rfl rfl rfl (by kernel_rfl) Tryz.func7 closed
    (of_decide_eq_true (by kernel_rfl)) (by unfold Func.isWrapper;first | (rw[if_pos (by decide+kernel)];kernel_rfl) | (rw[if_neg (by decide+kernel)];exact⟨rfl,rfl⟩))
    (fun os started H enc _=>lifted os started H enc)
/-- The statement. -/
theorem proved:Rows.WriteStepsSaid:=
  over
end Go.Proofs.YtdlfmajopcbllaaGreat.writeSteps
