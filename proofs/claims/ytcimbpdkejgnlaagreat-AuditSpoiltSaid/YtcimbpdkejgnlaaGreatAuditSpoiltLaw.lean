/-
  The law AuditSpoilt returns true at every input: out of the abstract contract of its walk.
  No conditions.
-/
import Derived.Test.YtcimbpdkejgnlaaGreatRows
import Derived.WalkKit
import Derived.Test.YtcimbpdkejgnlaaGreatEngZ
import Derived.Test.YtcimbpdkejgnlaaGreatAsG
import Derived.ProofKit
import Derived.OpenShut
namespace Go.Proofs.YtcimbpdkejgnlaaGreat.auditSpoilt
open Go.Eng Go.ChangeShapes Go.WideShapes Go.ChangeAt Go.RowKit
set_option linter.unusedVariables false
instance : Toks := Toks.of (fun _ => 0) (fun _ => [])

theorem own : ownKnob Tryz.prog.godebug = none := by kernel_rfl

/-! The walk. -/
theorem walk (a0 : Int) (a1 : Int) (w0 : (Lit.int .i64 a0).wf = true) (w1 : (Lit.int .i64 a1).wf = true) (w : World) :
    Calls Tryz.prog 11 #[.int .i64 a0, .int .i64 a1] w fun e w' => e = .returned (.bool true) ∧ Below w.heap.size w w' := by
  obtain ⟨T, hc⟩ := spoilt_ a0 a1 (i64_of_wf w1) (i64_of_wf w0)
  letI : Toks := T
  exact walk_of hc (frel_cons (.int _ _) (frel_cons (.int _ _) frel_nil))

/-! The row's step. -/
set_option maxRecDepth 100000 in
theorem lifted (os : Os) (started : os.Started) (H : Type) (enc : TypeId × Value → H) :
    ReturnsInHanded {} Tryz.checked os 11 .any (Rows.auditSpoiltSpec.pre6 enc Tryz.prog Tryz.f11 Rows.auditSpoiltRow.domain false) (Rows.auditSpoiltSpec.post enc Tryz.prog Tryz.f11 false true false false) := by
  refine returnsInHanded_of_change (C := Tryz.checked) own started (by kernel_rfl) Tryz.func11
    (ChangeSpec.witness6 (enc := enc) (C := Tryz.checked) false ⟨#[], #[.int .i64 0, .int .i64 0], []⟩ 8 (by kernel_rfl) (by kernel_rfl) (by kernel_rfl) (by kernel_rfl)) ?_
  intro W base args ds gs before hval0 hW hcnd _
  have hval : ∀ (j : Nat) t v, Tryz.f11.params[j]? = some t → args[j]? = some v → Value.okWide Tryz.prog W .any base t v := hval0
  have hW' := hW
  obtain ⟨p, q, hA0, hV, rfl, hfz, hnd⟩ := hW
  have hA : DataW.TrodAll enc Tryz.prog W 0 (fun _ => true) true Tryz.f11.params.toList args.toList ds p := hA0
  rw [Tryz.params11] at hA hval
  obtain ⟨v0, vs0, d0, ds0, p0, q0, hargs, rfl, rfl, h0, r0⟩ := trodAll_cons hA
  obtain ⟨v1, vs1, d1, ds1, p1, q1, rfl, rfl, rfl, h1, r1⟩ := trodAll_cons r0
  obtain ⟨rfl, rfl, rfl⟩ := trodAll_nil r1
  obtain rfl : args = #[v0, v1] := by cases args; simp_all
  obtain ⟨rfl, rfl⟩ := trodVars_none hV
  obtain ⟨a0, rfl, rfl, rfl, w0⟩ := open_int Tryz.underlying3 (hval 0 3 v0 rfl rfl) h0
  obtain ⟨a1, rfl, rfl, rfl, w1⟩ := open_int Tryz.underlying3 (hval 1 3 v1 rfl rfl) h1
  clear hA0 hval0
  simp only [List.append_nil] at hW'
  refine (walk a0 a1 w0 w1 W).mono fun e W' ⟨he, hg⟩ => ?_
  subst he
  exact ⟨_, rfl, Eng.post_new (pa := []) (pv := []) hW' (fun _ _ _ => (trodAll_cons_mk (shut_bool Tryz.underlying4 _) trodAll_mk0)) (fun sp _ => (trodAll_cons_mk (shut_int Tryz.underlying3 w0) (trodAll_cons_mk (shut_int Tryz.underlying3 w1) trodAll_mk0))) (fun _ _ => rfl) rfl
    hg (ok_one (by kernel_rfl) rfl (okWide_bool_mk Tryz.underlying4 _))⟩

/-! The closed facts, one by one. -/
theorem j0 : (Rows.auditSpoiltRow.wf (OpenSpec.ofChange Rows.auditSpoiltSpec)) = true := by kernel_rfl
theorem j1 : (laidOutB Tryz.pinned.checked.prog) = true := by kernel_rfl
theorem j2 : (mapsRowed Tryz.pinned.checked.prog) = true := by kernel_rfl
theorem j3 : (Tryz.f11.params.all (Tryz.pinned.checked.prog.readableRec ·)) = true := by kernel_rfl
theorem j4 : (namedTie Tryz.pinned.checked.prog Rows.auditSpoiltRow.named Rows.auditSpoiltSpec.vars) = true := by kernel_rfl
theorem j5 : ((Rows.auditSpoiltRow.stops == [])) = true := by kernel_rfl
theorem j6 : ((Tryz.pinned.checked.prog.stops == [])) = true := by kernel_rfl
theorem j7 : ((Rows.auditSpoiltRow.knobs == [])) = true := by kernel_rfl
theorem j8 : ((Tryz.pinned.checked.prog.stopKnobs == [])) = true := by kernel_rfl
theorem j9 : ((Rows.auditSpoiltRow.inPlace == Tryz.pinned.checked.prog.inPlace 11)) = true := by kernel_rfl
theorem j10 : ((Rows.auditSpoiltRow.unfollowed == Tryz.pinned.checked.prog.unfollowed 11)) = true := by kernel_rfl
theorem j11 : ((Rows.auditSpoiltRow.recurses == Tryz.pinned.checked.prog.recurses 11)) = true := by kernel_rfl
theorem j12 : ((Rows.auditSpoiltRow.named == Tryz.pinned.checked.prog.varsNamed 11)) = true := by kernel_rfl
theorem j13 : ((Rows.auditSpoiltRow.maps == (Tryz.f11.params.toList ++ Rows.auditSpoiltSpec.plain.varTypes Tryz.pinned.checked.prog).any (Tryz.pinned.checked.prog.mapsRec ·))) = true := by kernel_rfl
theorem j14 : ((Rows.auditSpoiltRow.ifaces == (Tryz.f11.params.toList ++ Rows.auditSpoiltSpec.plain.varTypes Tryz.pinned.checked.prog).any (Tryz.pinned.checked.prog.ifacesRec ·))) = true := by kernel_rfl
theorem j15 : ((Rows.auditSpoiltRow.mapsOut == Tryz.pinned.checked.prog.mapsAmong Tryz.f11.resultTypes.toList)) = true := by kernel_rfl
theorem j16 : ((Rows.auditSpoiltRow.loops == (Tryz.f11.params.toList ++ Rows.auditSpoiltSpec.plain.varTypes Tryz.pinned.checked.prog).any (Tryz.pinned.checked.prog.loopsFrom ·))) = true := by kernel_rfl
theorem j17 : ((Rows.auditSpoiltRow.wideKeys == (Tryz.f11.params.toList ++ Rows.auditSpoiltSpec.plain.varTypes Tryz.pinned.checked.prog ++ Tryz.f11.resultTypes.toList).any (Tryz.pinned.checked.prog.wideKeysFrom ·))) = true := by kernel_rfl
theorem j18 : (Rows.auditSpoiltSpec.vars.all (Tryz.pinned.checked.prog.varReadable ·)) = true := by kernel_rfl
theorem j19 : (Tryz.f11.resultTypes.all (fun t => Tryz.pinned.checked.prog.readableRec t && decide (t < Tryz.pinned.checked.prog.types.size))) = true := by kernel_rfl
theorem j20 : ((Rows.auditSpoiltRow.ifacesOut == Tryz.f11.resultTypes.toList.any (Tryz.pinned.checked.prog.ifacesRec ·))) = true := by kernel_rfl
theorem j21 : ((Rows.auditSpoiltRow.loopsOut == Tryz.f11.resultTypes.toList.any (Tryz.pinned.checked.prog.loopsFrom ·))) = true := by kernel_rfl
theorem j22 : ((Rows.auditSpoiltRow.plainKeys == Tryz.pinned.checked.prog.plainKeys)) = true := by kernel_rfl
theorem j23 : (Rows.auditSpoiltRow.shortTexts.isNone) = true := by kernel_rfl
theorem j24 : (Tryz.pinned.checked.prog.stopsHeard) = true := by kernel_rfl
theorem j25 : (Tryz.pinned.checked.prog.mayEnter) = true := by kernel_rfl
theorem j26 : ((Rows.auditSpoiltRow.lifted == Tryz.pinned.checked.prog.liftsFinal)) = true := by kernel_rfl
theorem j27 : ((Tryz.pinned.checked.prog.make == some Rows.auditSpoiltRow.make)) = true := by kernel_rfl
theorem j28 : ((Rows.auditSpoiltRow.kinds == (if Rows.auditSpoiltRow.domain.isEmpty then [] else Tryz.f11.params.toList.map fun t => match Tryz.pinned.checked.prog.underlying t with | some (.int k) => some k | _ => none))) = true := by kernel_rfl
theorem j29 : ((Rows.auditSpoiltRow.pinned == Rows.auditSpoiltRow.pinnedBy)) = true := by kernel_rfl
theorem j30 : ((Rows.auditSpoiltRow.veiled == (Tryz.f11.params.toList ++ Rows.auditSpoiltSpec.plain.varTypes Tryz.pinned.checked.prog ++ Tryz.f11.resultTypes.toList).any (Tryz.pinned.checked.prog.veiledRec ·))) = true := by kernel_rfl
theorem j31 : (Rows.auditSpoiltRow.veiledFits Tryz.pinned.checked.prog Tryz.f11.params.toList (Tryz.f11.params.toList ++ Rows.auditSpoiltSpec.plain.varTypes Tryz.pinned.checked.prog ++ Tryz.f11.resultTypes.toList)) = true := by kernel_rfl
theorem and_t {a b : Bool} (h : a = true) (k : b = true) : (a && b) = true := by rw [h, k]; rfl
set_option maxRecDepth 100000 in
theorem closed : joinedFacts Tryz.pinned.checked.prog 11 Tryz.f11 Rows.auditSpoiltSpec Rows.auditSpoiltRow = true := by
  unfold joinedFacts
  refine and_t ?_ j31
  refine and_t ?_ j30
  refine and_t ?_ j29
  refine and_t ?_ j28
  refine and_t ?_ j27
  refine and_t ?_ j26
  refine and_t ?_ j25
  refine and_t ?_ j24
  refine and_t ?_ j23
  refine and_t ?_ j22
  refine and_t ?_ j21
  refine and_t ?_ j20
  refine and_t ?_ j19
  refine and_t ?_ j18
  refine and_t ?_ j17
  refine and_t ?_ j16
  refine and_t ?_ j15
  refine and_t ?_ j14
  refine and_t ?_ j13
  refine and_t ?_ j12
  refine and_t ?_ j11
  refine and_t ?_ j10
  refine and_t ?_ j9
  refine and_t ?_ j8
  refine and_t ?_ j7
  refine and_t ?_ j6
  refine and_t ?_ j5
  refine and_t ?_ j4
  refine and_t ?_ j3
  refine and_t ?_ j2
  refine and_t ?_ j1
  exact j0

theorem over : Rows.auditSpoiltRow.holds Tryz.pinned (OpenSpec.ofChange Rows.auditSpoiltSpec) :=
  OpenClaim.holds_of_wide 11 Tryz.f11 rfl rfl rfl rfl rfl rfl rfl ⟨rfl, rfl, rfl, rfl, rfl⟩ rfl rfl rfl rfl rfl (by kernel_rfl) Tryz.func11 closed
    (of_decide_eq_true (by kernel_rfl)) (by unfold Func.isWrapper; first | (rw [if_pos (by decide +kernel)]; kernel_rfl) | (rw [if_neg (by decide +kernel)]; exact ⟨rfl, rfl⟩))
    (fun os started H enc _ => lifted os started H enc)

/-- The statement. -/
theorem proved : Rows.AuditSpoiltSaid :=
  over
end Go.Proofs.YtcimbpdkejgnlaaGreat.auditSpoilt
