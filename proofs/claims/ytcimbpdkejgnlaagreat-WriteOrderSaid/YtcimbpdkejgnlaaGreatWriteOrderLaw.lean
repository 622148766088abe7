/-
  The law WriteOrder returns true at every input: out of the abstract contract of its walk.
  No conditions.
-/
import Derived.Test.YtcimbpdkejgnlaaGreatRows
import Derived.WalkKit
import Derived.ProofKit
import Derived.OpenShut
import Derived.ChangeMaps5
import Derived.Test.YtcimbpdkejgnlaaGreatEngZ
import Derived.Test.YtcimbpdkejgnlaaGreatWoF
namespace Go.Proofs.YtcimbpdkejgnlaaGreat.writeOrder
open Go Go.Eng Go.ChangeMaps Go.ChangeShapes Go.WideShapes Go.ChangeAt Go.RowKit
set_option linter.unusedVariables false
theorem str_rel [Toks] {M : Nat → Prop} {e : List Pos} {w : World} (s : ByteArray) : VRel M e w (.str s.data.toList) (.string s) := .str s.data.toList
instance : Toks := Toks.of (fun _ => 0) (fun _ => [])

theorem u83_rel [Toks] {M : Nat → Prop} {e : List Pos} {w : World} (x y z : UInt8) : VRel M e w (.agg [.int .u8 x.toNat, .int .u8 y.toNat, .int .u8 z.toNat]) (.agg #[.int .u8 x.toNat, .int .u8 y.toNat, .int .u8 z.toNat]) := by
  refine .agg _ _ rfl fun i a u ha hu => ?_
  match i, ha, hu with
  | 0, ha, hu => simp at ha hu; subst ha; subst hu; exact .int _ _
  | 1, ha, hu => simp at ha hu; subst ha; subst hu; exact .int _ _
  | 2, ha, hu => simp at ha hu; subst ha; subst hu; exact .int _ _
  | _ + 3, ha, _ => simp at ha
theorem open_u83 {H : Type} {enc : TypeId × Value → H} {P : Program} {k e : TypeId} {W : World} {sp : Nat → Bool} {held : Bool} {v : Value} {d : DataW H} {ps : List MemPlace} {r : Reach} {b0 : Nat} (ht : P.underlying k = some (.array 3 e)) (he : P.underlying e = some (.int .u8)) (h1 : P.cellsOf e = 1) (h3 : P.cellsOf k = 3)
    (hv : Value.okWide P W r b0 k v) (hd : DataW.Trod enc P W 0 sp held k v d ps) : ∃ x y z : UInt8, v = .agg #[.int .u8 x.toNat, .int .u8 y.toNat, .int .u8 z.toNat] := by
  simp only [Value.okWide, ht] at hv
  obtain ⟨cs, rfl, hc, _⟩ := hv
  rw [h3] at hc
  obtain ⟨fuel, hf⟩ := hd
  cases fuel with
  | zero => simp [DataW.trod] at hf
  | succ m =>
    rw [DataW.trod_step] at hf
    unfold DataW.trodStep at hf
    simp only [ht, Value.cells] at hf
    rw [if_pos (by rw [h3]; simpa using hc)] at hf
    simp only [Option.map_eq_some_iff] at hf
    obtain ⟨ys, hy, _⟩ := hf
    rw [h1] at hy
    have e3 : List.range 3 = [0, 1, 2] := rfl
    rw [e3] at hy
    simp only [List.mapM_cons, List.mapM_nil, bind, Option.bind_eq_some_iff, pure, Option.some.injEq] at hy
    obtain ⟨y0, hy0, _, ⟨y1, hy1, _, ⟨y2, hy2, _, _, _⟩, _⟩, _⟩ := hy
    obtain ⟨a0, ea0, _, wa0⟩ := DataW.trod_int he hy0
    obtain ⟨a1, ea1, _, wa1⟩ := DataW.trod_int he hy1
    obtain ⟨a2, ea2, _, wa2⟩ := DataW.trod_int he hy2
    obtain ⟨x, rfl⟩ := u8_of_wf wa0
    obtain ⟨y, rfl⟩ := u8_of_wf wa1
    obtain ⟨z, rfl⟩ := u8_of_wf wa2
    obtain ⟨l⟩ := cs
    match l, hc with
    | [p, q, s], _ =>
      simp at ea0 ea1 ea2
      subst ea0; subst ea1; subst ea2
      exact ⟨x, y, z, rfl⟩
theorem own : ownKnob Tryz.prog.godebug = none := by kernel_rfl
theorem laid : laidOutB Tryz.prog = true := by kernel_rfl
set_option maxRecDepth 100000 in
theorem lifted (os : Os) (started : os.Started) (H : Type) (enc : TypeId × Value → H) :
    ReturnsInHanded {} Tryz.checked os 7 .any (Rows.writeOrderSpec.pre6 enc Tryz.prog Tryz.f7 Rows.writeOrderRow.domain false) (Rows.writeOrderSpec.post enc Tryz.prog Tryz.f7 false true false false) := by
  refine returnsInHanded_of_change (C := Tryz.checked) own started (by kernel_rfl) Tryz.func7
    (ChangeSpec.witness6 (enc := enc) (C := Tryz.checked) false ⟨#[], #[.int .i64 0, .agg #[.int .u8 0, .int .u8 0, .int .u8 0]], []⟩ 8 (by kernel_rfl) (by kernel_rfl) (by kernel_rfl) (by kernel_rfl)) ?_
  intro W base args ds gs before hval0 hW hcnd _
  have hval : ∀ (j : Nat) t v, Tryz.f7.params[j]? = some t → args[j]? = some v → Value.okWide Tryz.prog W .any base t v := hval0
  have hW' := hW
  obtain ⟨p, q, hA0, hV, rfl, hfz, hnd⟩ := hW
  have hA : DataW.TrodAll enc Tryz.prog W 0 (fun _ => true) true Tryz.f7.params.toList args.toList ds p := hA0
  rw [Tryz.params7] at hA hval
  obtain ⟨v0, vs0, d0, ds0, p0, q0, hargs, rfl, rfl, h0, r0⟩ := trodAll_cons hA
  obtain ⟨v1, vs1, d1, ds1, p1, q1, rfl, rfl, rfl, h1, r1⟩ := trodAll_cons r0
  obtain ⟨rfl, rfl, rfl⟩ := trodAll_nil r1
  obtain rfl : args = #[v0, v1] := by cases args; simp_all
  obtain ⟨rfl, rfl⟩ := trodVars_none hV
  obtain ⟨a0, rfl, rfl, rfl, w0⟩ := open_int Tryz.underlying3 (hval 0 3 v0 rfl rfl) h0
  obtain ⟨x1, y1, z1, rfl⟩ := open_u83 (e := 5) Tryz.underlying91 Tryz.underlying5 (by kernel_rfl) (by kernel_rfl) (hval 1 91 v1 rfl rfl) h1
  obtain ⟨T, hc⟩ := order_ a0 x1 y1 z1 (i64_of_wf w0)
  letI : Toks := T
  refine (walk_of (hc) (frel_cons (.int _ _) (frel_cons (u83_rel _ _ _) frel_nil))).mono fun e W' ⟨he, hg⟩ => ?_
  subst he
  exact ⟨_, rfl, post_new (pv := []) hW' (fun _ _ _ => (trodAll_cons_mk (shut_bool Tryz.underlying4 _) trodAll_mk0)) (fun sp hsp => (trodAll_cons_mk (shut_int Tryz.underlying3 w0) (trodAll_cons_mk (WideElems.Trod_stays laid (by kernel_rfl) (by decide +kernel) h1 (fun x hx => hg.same (hW'.lt x (by simp [hx]))) (fun x hx => hsp x (by simp [hx]))) trodAll_mk0))) (fun _ _ => rfl) rfl
    hg (ok_one (by kernel_rfl) rfl (okWide_bool_mk Tryz.underlying4 _))⟩

/-! The closed facts, one by one. -/
theorem j0 : (Rows.writeOrderRow.wf (OpenSpec.ofChange Rows.writeOrderSpec)) = true := by kernel_rfl
theorem j1 : (laidOutB Tryz.pinned.checked.prog) = true := by kernel_rfl
theorem j2 : (mapsRowed Tryz.pinned.checked.prog) = true := by kernel_rfl
theorem j3 : (Tryz.f7.params.all (Tryz.pinned.checked.prog.readableRec ·)) = true := by kernel_rfl
theorem j4 : (namedTie Tryz.pinned.checked.prog Rows.writeOrderRow.named Rows.writeOrderSpec.vars) = true := by kernel_rfl
theorem j5 : ((Rows.writeOrderRow.stops == [])) = true := by kernel_rfl
theorem j6 : ((Tryz.pinned.checked.prog.stops == [])) = true := by kernel_rfl
theorem j7 : ((Rows.writeOrderRow.knobs == [])) = true := by kernel_rfl
theorem j8 : ((Tryz.pinned.checked.prog.stopKnobs == [])) = true := by kernel_rfl
theorem j9 : ((Rows.writeOrderRow.inPlace == Tryz.pinned.checked.prog.inPlace 7)) = true := by kernel_rfl
theorem j10 : ((Rows.writeOrderRow.unfollowed == Tryz.pinned.checked.prog.unfollowed 7)) = true := by kernel_rfl
theorem j11 : ((Rows.writeOrderRow.recurses == Tryz.pinned.checked.prog.recurses 7)) = true := by kernel_rfl
theorem j12 : ((Rows.writeOrderRow.named == Tryz.pinned.checked.prog.varsNamed 7)) = true := by kernel_rfl
theorem j13 : ((Rows.writeOrderRow.maps == (Tryz.f7.params.toList ++ Rows.writeOrderSpec.plain.varTypes Tryz.pinned.checked.prog).any (Tryz.pinned.checked.prog.mapsRec ·))) = true := by kernel_rfl
theorem j14 : ((Rows.writeOrderRow.ifaces == (Tryz.f7.params.toList ++ Rows.writeOrderSpec.plain.varTypes Tryz.pinned.checked.prog).any (Tryz.pinned.checked.prog.ifacesRec ·))) = true := by kernel_rfl
theorem j15 : ((Rows.writeOrderRow.mapsOut == Tryz.pinned.checked.prog.mapsAmong Tryz.f7.resultTypes.toList)) = true := by kernel_rfl
theorem j16 : ((Rows.writeOrderRow.loops == (Tryz.f7.params.toList ++ Rows.writeOrderSpec.plain.varTypes Tryz.pinned.checked.prog).any (Tryz.pinned.checked.prog.loopsFrom ·))) = true := by kernel_rfl
theorem j17 : ((Rows.writeOrderRow.wideKeys == (Tryz.f7.params.toList ++ Rows.writeOrderSpec.plain.varTypes Tryz.pinned.checked.prog ++ Tryz.f7.resultTypes.toList).any (Tryz.pinned.checked.prog.wideKeysFrom ·))) = true := by kernel_rfl
theorem j18 : (Rows.writeOrderSpec.vars.all (Tryz.pinned.checked.prog.varReadable ·)) = true := by kernel_rfl
theorem j19 : (Tryz.f7.resultTypes.all (fun t => Tryz.pinned.checked.prog.readableRec t && decide (t < Tryz.pinned.checked.prog.types.size))) = true := by kernel_rfl
theorem j20 : ((Rows.writeOrderRow.ifacesOut == Tryz.f7.resultTypes.toList.any (Tryz.pinned.checked.prog.ifacesRec ·))) = true := by kernel_rfl
theorem j21 : ((Rows.writeOrderRow.loopsOut == Tryz.f7.resultTypes.toList.any (Tryz.pinned.checked.prog.loopsFrom ·))) = true := by kernel_rfl
theorem j22 : ((Rows.writeOrderRow.plainKeys == Tryz.pinned.checked.prog.plainKeys)) = true := by kernel_rfl
theorem j23 : (Rows.writeOrderRow.shortTexts.isNone) = true := by kernel_rfl
theorem j24 : (Tryz.pinned.checked.prog.stopsHeard) = true := by kernel_rfl
theorem j25 : (Tryz.pinned.checked.prog.mayEnter) = true := by kernel_rfl
theorem j26 : ((Rows.writeOrderRow.lifted == Tryz.pinned.checked.prog.liftsFinal)) = true := by kernel_rfl
theorem j27 : ((Tryz.pinned.checked.prog.make == some Rows.writeOrderRow.make)) = true := by kernel_rfl
theorem j28 : ((Rows.writeOrderRow.kinds == (if Rows.writeOrderRow.domain.isEmpty then [] else Tryz.f7.params.toList.map fun t => match Tryz.pinned.checked.prog.underlying t with | some (.int k) => some k | _ => none))) = true := by kernel_rfl
theorem j29 : ((Rows.writeOrderRow.pinned == Rows.writeOrderRow.pinnedBy)) = true := by kernel_rfl
theorem j30 : ((Rows.writeOrderRow.veiled == (Tryz.f7.params.toList ++ Rows.writeOrderSpec.plain.varTypes Tryz.pinned.checked.prog ++ Tryz.f7.resultTypes.toList).any (Tryz.pinned.checked.prog.veiledRec ·))) = true := by kernel_rfl
theorem j31 : (Rows.writeOrderRow.veiledFits Tryz.pinned.checked.prog Tryz.f7.params.toList (Tryz.f7.params.toList ++ Rows.writeOrderSpec.plain.varTypes Tryz.pinned.checked.prog ++ Tryz.f7.resultTypes.toList)) = true := by kernel_rfl
theorem and_t {a b : Bool} (h : a = true) (k : b = true) : (a && b) = true := by rw [h, k]; rfl
set_option maxRecDepth 100000 in
theorem closed : joinedFacts Tryz.pinned.checked.prog 7 Tryz.f7 Rows.writeOrderSpec Rows.writeOrderRow = true := by
  unfold joinedFacts
  refine and_t ?_ j31
  refine and_t ?_ j30
  refine and_t ?_ j29
  refine and_t ?_ j28
  refine and_t ?_ j27
  refine and_t ?_ j26
  refine and_t ?_ j25
  refine and_t ?_ j24
  refine and_t ?_ j23
  refine and_t ?_ j22
  refine and_t ?_ j21
  refine and_t ?_ j20
  refine and_t ?_ j19
  refine and_t ?_ j18
  refine and_t ?_ j17
  refine and_t ?_ j16
  refine and_t ?_ j15
  refine and_t ?_ j14
  refine and_t ?_ j13
  refine and_t ?_ j12
  refine and_t ?_ j11
  refine and_t ?_ j10
  refine and_t ?_ j9
  refine and_t ?_ j8
  refine and_t ?_ j7
  refine and_t ?_ j6
  refine and_t ?_ j5
  refine and_t ?_ j4
  refine and_t ?_ j3
  refine and_t ?_ j2
  refine and_t ?_ j1
  exact j0

theorem over : Rows.writeOrderRow.holds Tryz.pinned (OpenSpec.ofChange Rows.writeOrderSpec) :=
  OpenClaim.holds_of_wide 7 Tryz.f7 rfl rfl rfl rfl rfl rfl rfl ⟨rfl, rfl, rfl, rfl, rfl⟩ rfl rfl rfl rfl rfl (by kernel_rfl) Tryz.func7 closed
    (of_decide_eq_true (by kernel_rfl)) (by unfold Func.isWrapper; first | (rw [if_pos (by decide +kernel)]; kernel_rfl) | (rw [if_neg (by decide +kernel)]; exact ⟨rfl, rfl⟩))
    (fun os started H enc _ => lifted os started H enc)

/-- The statement. -/
theorem proved : Rows.WriteOrderSaid :=
  over
end Go.Proofs.YtcimbpdkejgnlaaGreat.writeOrder
