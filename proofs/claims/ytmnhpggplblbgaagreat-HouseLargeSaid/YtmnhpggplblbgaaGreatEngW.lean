/-
  Regions that draw their order: they hold of the model; functions by plans.
  No conditions.
-/
import Derived.Test.YtmnhpggplblbgaaGreatEngVb
namespace Go.Eng
open Go
set_option linter.unusedSectionVars false
variable [Toks]
set_option linter.unusedSimpArgs false

section
variable {P : Program} {pu : Pu} {ops : Array Oper} {PS PS' : PL} {fr fr' : Fr} {o : Oper} {K : Fr → PL → Prop}
/-- The regions that draw, by plans: checked. -/
def drawOk (P : Program) (pu : Pu) (pl : Nat → Plan) : HDraw := fun id ops K fr PS => planOkT ops (tabOf pu ops) (pl id) ops.size = true ∧ hdrawP P pu ops K (pl id) fr PS
def drawBy (P : Program) (pu : Pu) (pl : Nat → Plan) : HDraw := fun id ops K fr PS => hdrawP P pu ops K (pl id) fr PS
def plansOk (pu : Pu) (tb : Nat → List Row) (pl : Nat → Plan) : Code → Bool
  | .region id ops draw => !draw || (sameTab (tabOf pu ops) (tb id) && planOkT ops (tb id) (pl id) ops.size)
  | .seq x y => plansOk pu tb pl x && plansOk pu tb pl y
  | .cond _ x y => plansOk pu tb pl x && plansOk pu tb pl y
  | .block _ c => plansOk pu tb pl c
  | .loop c => plansOk pu tb pl c
  | .scope c => plansOk pu tb pl c
  | _ => true
theorem hvc_plans {hop : HOp} {tb : Nat → List Row} {pl : Nat → Plan} : ∀ (c : Code), plansOk pu tb pl c = true → hvc hop (drawBy P pu pl) c = hvc hop (drawOk P pu pl) c := by
  intro c
  induction c with
  | region id ops draw =>
    intro h
    funext Q fr PS
    cases draw with
    | false => rfl
    | true =>
      simp only [plansOk, Bool.not_true, Bool.false_or, Bool.and_eq_true] at h
      have h' := h.2
      rw [← sameTab_eq _ _ h.1] at h'
      simp only [hvc, drawBy, drawOk, h', true_and, if_true]
  | seq x y ihx ihy =>
    intro h
    simp only [plansOk, Bool.and_eq_true] at h
    funext Q fr PS
    simp only [hvc, ihx h.1, ihy h.2]
  | cond c x y ihx ihy =>
    intro h
    simp only [plansOk, Bool.and_eq_true] at h
    funext Q fr PS
    simp only [hvc, ihx h.1, ihy h.2]
  | block id c ih => intro h; funext Q fr PS; simp only [plansOk] at h; simp only [hvc, ih h]
  | loop c ih => intro h; funext Q fr PS; simp only [plansOk] at h; simp only [hvc, ih h]
  | scope c ih => intro h; funext Q fr PS; simp only [plansOk] at h; simp only [hvc, ih h]
  | _ => intro h; rfl

variable {F : Nat → Prop} {e0 : List Pos} {D0 : Nat → Nat → Prop} {w0 : World}
theorem drawOk_sound {pl : Nat → Plan} (hm : P.follows .mixedOrders = true) : DrawSound P (drawOk P pu pl) := by
  intro id ops K fr PS F e0 D0 w0 a w h hst
  exact wp_region_any hm (hdrawP_sound (pu := pu) (pl id) h.1 h.2 (hst.drew rfl rfl rfl rfl) (fun fr PS a w hk hs => ⟨.normal, fr, PS, rfl, hk, hs⟩) fun c a w ⟨x', _, _, hx, _⟩ => by cases x' <;> cases hx)

/-- The contract of a function, out of its text: regions that draw by plans. -/
theorem hcall_of_plans {f : FuncId} {fn : Func} {c : Code} {args : List HV} {K : HV → PL → Prop} (tb : Nat → List Row) (pl : Nat → Plan) (pu : Pu) (hm : P.follows .mixedOrders = true) (hfn : P.funcs[f]? = some fn) (hb : fn.body = some c) (hp : plansOk pu tb pl c = true)
    (h : hvc (hop P) (drawBy P pu pl) c (hret P fn.results.toList K) (hframe fn.ntmps args) PS) : HCall P f args PS K :=
  hcall_of_body (drawOk_sound (pu := pu) (pl := pl) hm) hfn hb (hvc_plans c hp ▸ h)
end
end Go.Eng
