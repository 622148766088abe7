/-
  A function's contract out of its text; contracts of pure functions.
  No conditions.
-/
import Derived.Test.YtmnhpggplblbgaaGreatEngN
namespace Go.Eng
open Go
set_option linter.unusedSectionVars false
variable [Toks]
set_option linter.unusedSimpArgs false

/-- The results of a function, from its slots and from the variables that hold them. -/
def hresl (P : Program) (fr : Fr) (PS : PL) (K : List HV → Prop) : List ResultVar → Prop
  | [] => K []
  | .tmp t :: r => hresl P fr PS (fun l => K (get fr t :: l)) r
  | .cell t ty :: r => hload PS (get fr t) (fun x => hresl P fr PS (fun l => K (x :: l)) r) (tsz P ty)
def hresv (K : HV → Prop) : List HV → Prop
  | [x] => K x
  | l => K (.tup l)
def hret (P : Program) (rs : List ResultVar) (K : HV → PL → Prop) : HX → Fr → PL → Prop
  | .normal, fr, PS => hresl P fr PS (hresv fun x => K x PS) rs
  | .ret, fr, PS => hresl P fr PS (hresv fun x => K x PS) rs
  | _, _, _ => False
def hframe (n : Nat) (args : List HV) : Fr := args ++ List.replicate (n - args.length) .junk

section
variable {P : Program} {hdraw : HDraw} {F : Nat → Prop} {e e0 : List Pos} {D D0 : Nat → Nat → Prop} {PS PS' : PL} {w w0 w' : World} {fr : Fr} {a : Act} {K : HV → PL → Prop} {M : Nat → Prop}

def resOne (t : Array Value) : ResultVar → Sem Value
  | .tmp i => pure (t.getD i undef)
  | .cell c ty => do loadVar ty (← asAddr (t.getD c undef))
theorem results_eq (fn : Func) (t : Array Value) : results fn t = (do let vs ← fn.results.mapM (resOne t); pure (if h : vs.size = 1 then vs[0] else .tuple vs)) := by
  unfold results
  have : (fun r : ResultVar => match r with | .tmp i => (pure (t.getD i undef) : Sem Value) | .cell c ty => do loadVar ty (← asAddr (t.getD c undef))) = resOne t := by
    funext r; cases r <;> rfl
  rw [← this]
  rfl

theorem hresl_sound (hr : Rel F e D PS w) (hf : FRel (Mut F D) e w fr a.tmps) : ∀ (rs : List ResultVar) (K : List HV → Prop), hresl P fr PS K rs →
    ∃ l vs, (rs.mapM (resOne a.tmps)).run P w = .ok vs w ∧ l.length = vs.length ∧ (∀ (i : Nat) (x : HV) (u : Value), l[i]? = some x → vs[i]? = some u → VRel (Mut F D) e w x u) ∧ K l := by
  intro rs
  induction rs with
  | nil => intro K h; exact ⟨[], [], rfl, rfl, by simp, h⟩
  | cons r rs ih =>
    intro K h
    have fin : ∀ (x : HV) (u : Value), VRel (Mut F D) e w x u → (resOne a.tmps r).run P w = .ok u w → hresl P fr PS (fun l => K (x :: l)) rs → ∃ l vs, ((r :: rs).mapM (resOne a.tmps)).run P w = .ok vs w ∧ l.length = vs.length ∧ (∀ (i : Nat) (x : HV) (u : Value), l[i]? = some x → vs[i]? = some u → VRel (Mut F D) e w x u) ∧ K l := by
      intro x u hx hrun hk
      obtain ⟨l, vs, h1, h2, h3, h4⟩ := ih _ hk
      refine ⟨x :: l, u :: vs, ?_, by simp [h2], ?_, h4⟩
      · simp only [List.mapM_cons, Sem.run_bind, hrun, Result.andThen_ok, h1, Sem.run_pure]
      · intro i y v hy hv
        cases i with
        | zero => simp at hy hv; subst hy; subst hv; exact hx
        | succ i => exact h3 i y v (by simpa using hy) (by simpa using hv)
    cases r with
    | tmp t => exact fin _ _ (get_rel hf t) rfl h
    | cell c t =>
      obtain ⟨y, v, h1, h2, h3⟩ := hload_sound (P := P) (t := t) (K := fun x => hresl P fr PS (fun l => K (x :: l)) rs) hr (get_rel hf c) h
      refine fin y v h2 ?_ h3
      simp only [resOne, Sem.run_bind]
      cases hu : a.tmps.getD c undef with
      | pointer ad =>
        cases ad with
        | some ad => rw [hu] at h1; simpa [Instr.loadAt, Instr.sureAddr, asAddr] using h1
        | none => rw [hu] at h1; simp [Instr.loadAt, Instr.sureAddr, stuck, Sem.run] at h1
      | _ => rw [hu] at h1; simp [Instr.loadAt, Instr.sureAddr, stuck, Sem.run] at h1

theorem hres_post {fn : Func} (hr : Rel F e D PS w) (hf : FRel (Mut F D) e w fr a.tmps) (h : hresl P fr PS (hresv fun x => K x PS) fn.results.toList) :
    ∃ v x, (results fn a.tmps).run P w = .ok v w ∧ VRel (Mut F D) e w x v ∧ K x PS := by
  obtain ⟨l, vs, h1, h2, h3, h4⟩ := hresl_sound hr hf _ _ h
  have hrun : (results fn a.tmps).run P w = .ok (if h : vs.toArray.size = 1 then vs.toArray[0] else .tuple vs.toArray) w := by
    rw [results_eq, Array.mapM_eq_mapM_toList]
    show Sem.run P (((fn.results.toList.mapM (resOne a.tmps)) >>= fun l => pure l.toArray) >>= fun vs => pure _) w = _
    simp only [Sem.run_bind, h1, Result.andThen_ok, Sem.run_pure]
  rcases l with _ | ⟨x, _ | ⟨y, l⟩⟩ <;> rcases vs with _ | ⟨u, _ | ⟨v, vs⟩⟩ <;> simp only [List.length_nil, List.length_cons] at h2 <;> try omega
  · exact ⟨.tuple #[], .tup [], by rw [hrun]; simp, .tup [] #[] rfl (by simp), h4⟩
  · exact ⟨u, x, by rw [hrun]; simp, h3 0 x u rfl rfl, h4⟩
  · exact ⟨.tuple (u :: v :: vs).toArray, .tup (x :: y :: l), by rw [hrun]; simp, .tup _ _ (by simp; omega) (fun i z q hz hq => h3 i z q hz (by simpa using hq)), h4⟩

theorem frame_rel {args : List HV} {vs : Array Value} (n : Nat) (h : FRel M e w args vs) : FRel M e w (hframe n args) (vs ++ Array.replicate (n - vs.size) undef) := by
  unfold hframe
  rw [h.1]
  refine h.append ⟨by simp, fun i x u hi _ => ?_⟩
  have := (List.mem_replicate.1 (List.mem_of_getElem? hi)).2
  subst this
  exact .junk _

/-- The contract of a function, out of its text. -/
theorem hcall_of_body {f : FuncId} {fn : Func} {c : Code} {args : List HV} (hdr : DrawSound P hdraw) (hfn : P.funcs[f]? = some fn) (hb : fn.body = some c)
    (h : hvc (hop P) hdraw c (hret P fn.results.toList K) (hframe fn.ntmps args) PS) : HCall P f args PS K := by
  intro F e D w vs hr hf
  refine calls_of_wp hfn hb (wp_mono (hvc_sound hop_sound (hdr.at F e D w) c _ (hframe fn.ntmps args) PS _ w h (F := F) (e0 := e) (D0 := D) (w0 := w) ⟨rfl, e, D, hr, frame_rel _ hf, .refl e D w⟩) ?_)
  rintro x a w' ⟨x', fr, PS', rfl, hq, hd, e', D', hr', hf', ht'⟩
  cases x' with
  | normal =>
    obtain ⟨v, y, h1, h2, h3⟩ := hres_post hr' hf' hq
    exact ⟨hd, v, h1, v, y, PS', e', D', rfl, h3, hr', ht', h2⟩
  | ret =>
    obtain ⟨v, y, h1, h2, h3⟩ := hres_post hr' hf' hq
    exact ⟨hd, v, h1, v, y, PS', e', D', rfl, h3, hr', ht', h2⟩
  | exit id => exact hq.elim
  | goto l => exact hq.elim

/-- A function that only computes, on data: its contract. -/
def Pure (P : Program) (f : FuncId) (args : List HV) (res : HV) : Prop := ∀ PS, HCall P f args PS fun x PS' => x = res ∧ PS' = PS
theorem Pure.call {f : FuncId} {args : List HV} {res : HV} (h : Pure P f args res) (hk : K res PS) : HCall P f args PS K :=
  (h PS).mono (by rintro x PS' ⟨rfl, rfl⟩; exact hk)
end
end Go.Eng
