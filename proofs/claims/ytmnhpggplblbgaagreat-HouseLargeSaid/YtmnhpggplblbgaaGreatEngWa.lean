/-
  A function whose text is a scope: a jump to a label on its spine, once, from which nothing jumps any more.
  No conditions.
-/
import Derived.Test.YtmnhpggplblbgaaGreatEngW
import Derived.Scope
namespace Go.Eng
open Go
set_option linter.unusedSectionVars false
variable [Toks]

section
variable {P : Program} {a : Act} {w : World} {Q : Exit → Act → World → Prop}
def Exit.once (P : Program) (c : Code) (Q : Exit → Act → World → Prop) : Exit → Act → World → Prop
  | .goto l, a, w => ∃ rest, findLabel c l = some rest ∧ rest.wp P (Go.Exit.noGoto Q) a w
  | e, a, w => Q e a w
theorem wp_scope_once {c : Code} (h : c.wp P (Exit.once P c Q) a w) : (Code.scope c).wp P Q a w := by
  intro b k cs
  obtain ⟨e, a₁, w₁, hq, harr⟩ := h b (.inScope c :: k) cs
  cases e with
  | normal => exact ⟨.normal, a₁, w₁, hq, .head step_scope (Steps.trans harr (.one step_inScope))⟩
  | exit id => exact ⟨.exit id, a₁, w₁, hq, fun k' hk => .head step_scope (harr k' (by simp [exitTo, hk]))⟩
  | goto l =>
    obtain ⟨rest, hf, hr⟩ := hq
    have hg : gotoIn l (.inScope c :: k) = some (.code rest :: .inScope c :: k) := by simp [gotoIn, hf]
    obtain ⟨e₂, a₂, w₂, hq₂, harr₂⟩ := hr b (.inScope c :: k) cs
    have go := Steps.trans (Steps.one (step_scope (P := P) (b := b) (a := a) (k := k) (cs := cs) (w := w) (c := c))) (harr _ hg)
    cases e₂ with
    | normal => exact ⟨.normal, a₂, w₂, hq₂, Steps.trans go (Steps.trans harr₂ (.one step_inScope))⟩
    | exit id => exact ⟨.exit id, a₂, w₂, hq₂, fun k' hk => Steps.trans go (harr₂ k' (by simp [exitTo, hk]))⟩
    | goto l' => exact hq₂.elim
    | ret => exact ⟨_, a₂, w₂, hq₂, .of_steps go harr₂⟩
    | panic ch => exact ⟨_, a₂, w₂, hq₂, .of_steps go harr₂⟩
    | outgrown => exact ⟨_, a₂, w₂, hq₂, .of_steps go harr₂⟩
  | ret => exact ⟨_, a₁, w₁, hq, .of_steps (.one step_scope) harr⟩
  | panic ch => exact ⟨_, a₁, w₁, hq, .of_steps (.one step_scope) harr⟩
  | outgrown => exact ⟨_, a₁, w₁, hq, .of_steps (.one step_scope) harr⟩
end

/-- As Q; by a jump: on from its label. -/
def HX.once (H : Code → (HX → Fr → PL → Prop) → Fr → PL → Prop) (c : Code) (Q : HX → Fr → PL → Prop) : HX → Fr → PL → Prop
  | .goto l, fr, PS => ∃ rest, findLabel c l = some rest ∧ H rest (HX.noGoto Q) fr PS
  | x, fr, PS => Q x fr PS
/-- A function's text, jumps in it: a scope, what goes ahead of it. -/
def hvcJ (hop : HOp) (hdraw : HDraw) : Code → (HX → Fr → PL → Prop) → Fr → PL → Prop
  | .scope c, Q, fr, PS => hvc hop hdraw c (HX.once (hvc hop hdraw) c Q) fr PS
  | .seq x y, Q, fr, PS => hvc hop hdraw x (HX.then (fun fr PS => hvcJ hop hdraw y Q fr PS) Q) fr PS
  | c, Q, fr, PS => hvc hop hdraw c Q fr PS
theorem hvcJ_sound {P : Program} {hop : HOp} {hdraw : HDraw} {F : Nat → Prop} {e0 : List Pos} {D0 : Nat → Nat → Prop} {w0 : World} (hs : OpSound P hop) (hd : DrawSoundAt P hdraw F e0 D0 w0) : ∀ (c : Code) (Q : HX → Fr → PL → Prop) (fr : Fr) (PS : PL) (a : Act) (w : World),
    hvcJ hop hdraw c Q fr PS → St F e0 D0 w0 fr PS a w → c.wp P (PostOf F e0 D0 w0 Q) a w := by
  intro c
  induction c with
  | scope c _ =>
    intro Q fr PS a w h hst
    refine wp_scope_once (wp_mono (hvc_sound hs hd c _ fr PS a w h hst) ?_)
    rintro x a w ⟨x', fr, PS, rfl, hq, hst⟩
    cases x' with
    | normal => exact ⟨.normal, fr, PS, rfl, hq, hst⟩
    | exit id => exact ⟨.exit id, fr, PS, rfl, hq, hst⟩
    | ret => exact ⟨.ret, fr, PS, rfl, hq, hst⟩
    | goto l =>
      obtain ⟨rest, hf, hr⟩ := hq
      refine ⟨rest, hf, wp_mono (hvc_sound hs hd rest _ fr PS a w hr hst) ?_⟩
      rintro x a w ⟨x', fr, PS, rfl, hq, hst⟩
      cases x' with
      | normal => exact ⟨.normal, fr, PS, rfl, hq, hst⟩
      | exit id => exact ⟨.exit id, fr, PS, rfl, hq, hst⟩
      | ret => exact ⟨.ret, fr, PS, rfl, hq, hst⟩
      | goto l => exact hq.elim
  | seq x y _ ihy =>
    intro Q fr PS a w h hst
    refine wp_seq (wp_mono (hvc_sound hs hd x _ fr PS a w h hst) ?_)
    rintro e a w ⟨x', fr, PS, rfl, hq, hst⟩
    cases x' with
    | normal => exact ihy _ _ _ _ _ hq hst
    | exit id => exact ⟨.exit id, fr, PS, rfl, hq, hst⟩
    | goto l => exact ⟨.goto l, fr, PS, rfl, hq, hst⟩
    | ret => exact ⟨.ret, fr, PS, rfl, hq, hst⟩
  | _ => intro Q fr PS a w h hst; exact hvc_sound hs hd _ Q fr PS a w h hst
section
variable {P : Program} {pu : Pu} {tb : Nat → List Row} {pl : Nat → Plan}
theorem plansOk_label : ∀ (c : Code) (l : Nat) (rest : Code), plansOk pu tb pl c = true → findLabel c l = some rest → plansOk pu tb pl rest = true := by
  intro c
  induction c with
  | seq x y ihx ihy =>
    intro l rest h hf
    simp only [plansOk, Bool.and_eq_true] at h
    simp only [findLabel] at hf
    split at hf
    · rename_i r hr
      cases hf
      simp only [plansOk, Bool.and_eq_true]
      exact ⟨ihx _ _ h.1 hr, h.2⟩
    · exact ihy _ _ h.2 hf
  | label l' =>
    intro l rest h hf
    simp only [findLabel] at hf
    split at hf
    · cases hf; rfl
    · cases hf
  | _ => intro l rest h hf; simp [findLabel] at hf
theorem hvcJ_plans_eq {hop : HOp} : ∀ (c : Code), plansOk pu tb pl c = true → hvcJ hop (drawBy P pu pl) c = hvcJ hop (drawOk P pu pl) c := by
  intro c
  induction c with
  | scope c _ =>
    intro hp
    have hp' : plansOk pu tb pl c = true := hp
    funext Q fr PS
    simp only [hvcJ]
    have e : HX.once (hvc hop (drawBy P pu pl)) c Q = HX.once (hvc hop (drawOk P pu pl)) c Q := by
      funext x fr PS
      cases x with
      | goto l =>
        simp only [HX.once]
        refine propext ⟨fun ⟨rest, hf, h⟩ => ⟨rest, hf, ?_⟩, fun ⟨rest, hf, h⟩ => ⟨rest, hf, ?_⟩⟩
        · rw [← hvc_plans rest (plansOk_label c l rest hp' hf)]; exact h
        · rw [hvc_plans rest (plansOk_label c l rest hp' hf)]; exact h
      | _ => rfl
    rw [e, hvc_plans c hp']
  | seq x y _ ihy =>
    intro hp
    simp only [plansOk, Bool.and_eq_true] at hp
    funext Q fr PS
    simp only [hvcJ, hvc_plans x hp.1, ihy hp.2]
  | _ =>
    intro hp
    funext Q fr PS
    show hvc _ _ _ Q fr PS = hvc _ _ _ Q fr PS
    rw [hvc_plans _ hp]
theorem hvcJ_plans {hop : HOp} (c : Code) (hp : plansOk pu tb pl c = true) (Q : HX → Fr → PL → Prop) (fr : Fr) (PS : PL) (h : hvcJ hop (drawBy P pu pl) c Q fr PS) : hvcJ hop (drawOk P pu pl) c Q fr PS := by
  rw [← hvcJ_plans_eq c hp]; exact h
/-- The contract of a function, out of its text: regions that draw by plans; jumps. -/
theorem hcall_of_plansJ {f : FuncId} {fn : Func} {c : Code} {args : List HV} {K : HV → PL → Prop} {PS : PL} (tb : Nat → List Row) (pl : Nat → Plan) (pu : Pu) (hm : P.follows .mixedOrders = true) (hfn : P.funcs[f]? = some fn) (hb : fn.body = some c) (hp : plansOk pu tb pl c = true)
    (h : hvcJ (hop P) (drawBy P pu pl) c (hret P fn.results.toList K) (hframe fn.ntmps args) PS) : HCall P f args PS K := by
  intro F e D w vs hr hf
  refine calls_of_wp hfn hb (wp_mono (hvcJ_sound hop_sound ((drawOk_sound (pu := pu) (pl := pl) hm).at F e D w) c _ (hframe fn.ntmps args) PS _ w (hvcJ_plans c hp _ _ _ h) (F := F) (e0 := e) (D0 := D) (w0 := w) ⟨rfl, e, D, hr, frame_rel _ hf, .refl e D w⟩) ?_)
  rintro x a w' ⟨x', fr, PS', rfl, hq, hd, e', D', hr', hf', ht'⟩
  cases x' with
  | normal =>
    obtain ⟨v, y, h1, h2, h3⟩ := hres_post hr' hf' hq
    exact ⟨hd, v, h1, v, y, PS', e', D', rfl, h3, hr', ht', h2⟩
  | ret =>
    obtain ⟨v, y, h1, h2, h3⟩ := hres_post hr' hf' hq
    exact ⟨hd, v, h1, v, y, PS', e', D', rfl, h3, hr', ht', h2⟩
  | exit id => exact hq.elim
  | goto l => exact hq.elim

/-- A state may be taken for another, within a function that began with so many pieces. -/
def SW (n0 : Nat) (fr : Fr) (PS : PL) (fr' : Fr) (PS' : PL) : Prop :=
  ∀ F e0 D0 w0 (a : Act) (w : World), e0.length = n0 → St F e0 D0 w0 fr PS a w → St F e0 D0 w0 fr' PS' a w
theorem SW.refl (n0 : Nat) (fr : Fr) (PS : PL) : SW n0 fr PS fr PS := fun _ _ _ _ _ _ _ h => h
theorem SW.trans {n0 : Nat} {fr fr' fr'' : Fr} {PS PS' PS'' : PL} (h : SW n0 fr PS fr' PS') (k : SW n0 fr' PS' fr'' PS'') : SW n0 fr PS fr'' PS'' :=
  fun F e0 D0 w0 a w hl hst => k F e0 D0 w0 a w hl (h F e0 D0 w0 a w hl hst)
/-- Behind a drawn region: the state, or one that it may be taken for. -/
def drawW (n0 : Nat) (hd : HDraw) : HDraw := fun id ops K => hd id ops fun fr PS => ∃ fr' PS', SW n0 fr PS fr' PS' ∧ K fr' PS'
theorem drawW_sound {n0 : Nat} {hd : HDraw} {F : Nat → Prop} {e0 : List Pos} {D0 : Nat → Nat → Prop} {w0 : World} (h : DrawSoundAt P hd F e0 D0 w0) (hl : e0.length = n0) : DrawSoundAt P (drawW n0 hd) F e0 D0 w0 := by
  intro id ops K fr PS a w hw hst
  refine wp_mono (h id ops _ fr PS a w hw hst) ?_
  rintro x a w ⟨x', fr, PS, rfl, hq, hst⟩
  cases x' with
  | normal =>
    obtain ⟨fr', PS', hs, hk⟩ := hq
    exact ⟨.normal, fr', PS', rfl, hk, hs _ _ _ _ _ _ hl hst⟩
  | _ => exact hq.elim
theorem hvc_plansW {hop : HOp} {n0 : Nat} : ∀ (c : Code), plansOk pu tb pl c = true → hvc hop (drawW n0 (drawBy P pu pl)) c = hvc hop (drawW n0 (drawOk P pu pl)) c := by
  intro c
  induction c with
  | region id ops draw =>
    intro h
    funext Q fr PS
    cases draw with
    | false => rfl
    | true =>
      simp only [plansOk, Bool.not_true, Bool.false_or, Bool.and_eq_true] at h
      have h' := h.2
      rw [← sameTab_eq _ _ h.1] at h'
      simp only [hvc, drawW, drawBy, drawOk, h', true_and, if_true]
  | seq x y ihx ihy =>
    intro h
    simp only [plansOk, Bool.and_eq_true] at h
    funext Q fr PS
    simp only [hvc, ihx h.1, ihy h.2]
  | cond c x y ihx ihy =>
    intro h
    simp only [plansOk, Bool.and_eq_true] at h
    funext Q fr PS
    simp only [hvc, ihx h.1, ihy h.2]
  | block id c ih => intro h; funext Q fr PS; simp only [plansOk] at h; simp only [hvc, ih h]
  | loop c ih => intro h; funext Q fr PS; simp only [plansOk] at h; simp only [hvc, ih h]
  | scope c ih => intro h; funext Q fr PS; simp only [plansOk] at h; simp only [hvc, ih h]
  | _ => intro h; rfl
theorem hvcJ_plansW_eq {hop : HOp} {n0 : Nat} : ∀ (c : Code), plansOk pu tb pl c = true → hvcJ hop (drawW n0 (drawBy P pu pl)) c = hvcJ hop (drawW n0 (drawOk P pu pl)) c := by
  intro c
  induction c with
  | scope c _ =>
    intro hp
    have hp' : plansOk pu tb pl c = true := hp
    funext Q fr PS
    simp only [hvcJ]
    have e : HX.once (hvc hop (drawW n0 (drawBy P pu pl))) c Q = HX.once (hvc hop (drawW n0 (drawOk P pu pl))) c Q := by
      funext x fr PS
      cases x with
      | goto l =>
        simp only [HX.once]
        refine propext ⟨fun ⟨rest, hf, h⟩ => ⟨rest, hf, ?_⟩, fun ⟨rest, hf, h⟩ => ⟨rest, hf, ?_⟩⟩
        · rw [← hvc_plansW rest (plansOk_label c l rest hp' hf)]; exact h
        · rw [hvc_plansW rest (plansOk_label c l rest hp' hf)]; exact h
      | _ => rfl
    rw [e, hvc_plansW c hp']
  | seq x y _ ihy =>
    intro hp
    simp only [plansOk, Bool.and_eq_true] at hp
    funext Q fr PS
    simp only [hvcJ, hvc_plansW x hp.1, ihy hp.2]
  | _ =>
    intro hp
    funext Q fr PS
    show hvc _ _ _ Q fr PS = hvc _ _ _ Q fr PS
    rw [hvc_plansW _ hp]
theorem hvcJ_plansW {hop : HOp} {n0 : Nat} (c : Code) (hp : plansOk pu tb pl c = true) (Q : HX → Fr → PL → Prop) (fr : Fr) (PS : PL) (h : hvcJ hop (drawW n0 (drawBy P pu pl)) c Q fr PS) : hvcJ hop (drawW n0 (drawOk P pu pl)) c Q fr PS := by
  rw [← hvcJ_plansW_eq c hp]; exact h
/-- The same, states taken for others behind drawn regions. -/
theorem hcall_of_plansW {f : FuncId} {fn : Func} {c : Code} {args : List HV} {K : HV → PL → Prop} {PS : PL} (tb : Nat → List Row) (pl : Nat → Plan) (pu : Pu) (hm : P.follows .mixedOrders = true) (hfn : P.funcs[f]? = some fn) (hb : fn.body = some c) (hp : plansOk pu tb pl c = true)
    (h : hvcJ (hop P) (drawW PS.length (drawBy P pu pl)) c (hret P fn.results.toList K) (hframe fn.ntmps args) PS) : HCall P f args PS K := by
  intro F e D w vs hr hf
  refine calls_of_wp hfn hb (wp_mono (hvcJ_sound hop_sound (drawW_sound ((drawOk_sound (pu := pu) (pl := pl) hm).at F e D w) hr.len) c _ (hframe fn.ntmps args) PS _ w (hvcJ_plansW c hp _ _ _ h) (F := F) (e0 := e) (D0 := D) (w0 := w) ⟨rfl, e, D, hr, frame_rel _ hf, .refl e D w⟩) ?_)
  rintro x a w' ⟨x', fr, PS', rfl, hq, hd, e', D', hr', hf', ht'⟩
  cases x' with
  | normal =>
    obtain ⟨v, y, h1, h2, h3⟩ := hres_post hr' hf' hq
    exact ⟨hd, v, h1, v, y, PS', e', D', rfl, h3, hr', ht', h2⟩
  | ret =>
    obtain ⟨v, y, h1, h2, h3⟩ := hres_post hr' hf' hq
    exact ⟨hd, v, h1, v, y, PS', e', D', rfl, h3, hr', ht', h2⟩
  | exit id => exact hq.elim
  | goto l => exact hq.elim
end
end Go.Eng
