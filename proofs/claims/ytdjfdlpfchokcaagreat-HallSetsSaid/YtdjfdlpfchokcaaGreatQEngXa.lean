/-
Loops over functions, for walks: monotone, drawn regions plain, the rules of its simp.
No conditions.
-/
import Derived.Test.YtdjfdlpfchokcaaGreatQEngX
import Derived.Test.YtdjfdlpfchokcaaGreatQEngWd
set_option linter.unusedSectionVars false
set_option linter.unusedSimpArgs false
set_option linter.unusedVariables false
namespace Go.Eng
open Go
variable [Toks]
section
variable {hop' : HOp} {hd hd' : HDraw}
def HMono (h : HOp) : Prop := ∀ (o : Oper) (fr : Fr) (PS : PL) (K K' : HV → PL → Prop), (∀ v PS, K v PS → K' v PS) → h o fr PS K → h o fr PS K'
def DMono (hd hd' : HDraw) : Prop := ∀ (id : Nat) (ops : Array Oper) (K K' : Fr → PL → Prop) (fr : Fr) (PS : PL), (∀ fr PS, K fr PS → K' fr PS) → hd id ops K fr PS → hd' id ops K' fr PS
theorem hopsM (hm : HMono hop') {ops : Array Oper} {K K' : Fr → PL → Prop} (hk : ∀ fr PS, K fr PS → K' fr PS) : ∀ (l : List Oper) (fr : Fr) (PS : PL), hops hop' ops l K fr PS → hops hop' ops l K' fr PS
 | [], fr, PS, h => hk fr PS h
 | o :: os, fr, PS, h => by
  simp only [hops] at h ⊢
  cases hg : o.guard with
  | none => rw [hg] at h; exact hm _ _ _ _ _ (fun v PS' => hopsM hm hk os _ _) h
  | some g => rw [hg] at h; exact hguard_mono (hm _ _ _ _ _ (fun v PS' => hopsM hm hk os _ _)) (hopsM hm hk os _ _) h
theorem hvcM (hm : HMono hop') (hd0 : DMono hd hd') : ∀ (c : Code) (Q Q' : HX → Fr → PL → Prop) (_ : ∀ x fr PS, Q x fr PS → Q' x fr PS) (fr : Fr) (PS : PL), hvc hop' hd c Q fr PS → hvc hop' hd' c Q' fr PS := by
 intro c
 induction c with
 | skip => intro Q Q' hq fr PS h; exact hq _ _ _ h
 | region id ops draw =>
  intro Q Q' hq fr PS h
  cases draw with
  | true => exact hd0 _ _ _ _ _ _ (hq .normal) h
  | false => exact hopsM hm (hq .normal) _ _ _ h
 | seq x y ihx ihy =>
  intro Q Q' hq fr PS h
  refine ihx _ _ (fun x fr PS hh => ?_) fr PS h
  cases x with
  | normal => exact ihy _ _ hq _ _ hh
  | exit id => exact hq _ _ _ hh
  | goto l => exact hq _ _ _ hh
  | ret => exact hq _ _ _ hh
 | cond c x y ihx ihy => intro Q Q' hq fr PS h; exact hcond_mono (ihx _ _ hq _ _) (ihy _ _ hq _ _) h
 | block id c ih =>
  intro Q Q' hq fr PS h
  refine ih _ _ (fun x fr PS hh => ?_) fr PS h
  cases x with
  | normal => exact hq _ _ _ hh
  | exit id' =>
   simp only [HX.inBlock] at hh ⊢
   split
   ·rename_i hi; rw [if_pos hi] at hh; exact hq _ _ _ hh
   ·rename_i hi; rw [if_neg hi] at hh; exact hq _ _ _ hh
  | goto l => exact hq _ _ _ hh
  | ret => exact hq _ _ _ hh
 | loop c ih =>
  intro Q Q' hq fr PS h
  obtain ⟨I, h0, hs⟩ := h
  refine ⟨I, h0, fun n fr PS hi => ih _ _ (fun x fr PS hh => ?_) fr PS (hs n fr PS hi)⟩
  cases x with
  | normal => exact hh
  | exit id => exact hq _ _ _ hh
  | goto l => exact hq _ _ _ hh
  | ret => exact hq _ _ _ hh
 | scope c ih =>
  intro Q Q' hq fr PS h
  refine ih _ _ (fun x fr PS hh => ?_) fr PS h
  cases x with
  | normal => exact hq _ _ _ hh
  | exit id => exact hq _ _ _ hh
  | goto l => exact hh
  | ret => exact hq _ _ _ hh
 | exit id => intro Q Q' hq fr PS h; exact hq _ _ _ h
 | label l => intro Q Q' hq fr PS h; exact hq _ _ _ h
 | goto l => intro Q Q' hq fr PS h; exact hq _ _ _ h
 | ret => intro Q Q' hq fr PS h; exact hq _ _ _ h
 | _ => intro Q Q' hq fr PS h; exact h.elim
end
section
variable {P : Program} {pu : Pu} {pl : Nat → Plan}
theorem hop_M : HMono (hop P) := fun _ _ _ _ _ hk h => hop_mono (fun v PS' _ => hk v PS') h
theorem drawBy_M : DMono (drawBy P pu pl) (drawBy P pu pl) := fun _ _ _ _ fr PS hk h => hdrawP_mono hk _ fr PS h
theorem drawBy_W {n0 : Nat} : DMono (drawBy P pu pl) (drawW n0 (drawBy P pu pl)) := fun _ _ _ _ fr PS hk h => hdrawP_mono (fun fr PS h => ⟨fr, PS, .refl _ _ _, hk fr PS h⟩) _ fr PS h
theorem drawW_M {n0 : Nat} : DMono (drawW n0 (drawBy P pu pl)) (drawW n0 (drawBy P pu pl)) := fun _ _ _ _ fr PS hk h => hdrawP_mono (fun _ _ ⟨fr', PS', h1, h2⟩ => ⟨fr', PS', h1, hk _ _ h2⟩) _ fr PS h
theorem hrndEnd_mono {n ver : Nat} {K K' : HV → PL → Prop} (hk : ∀ v PS, K v PS → K' v PS) {x : HX} {PS : PL} {q : Piece} (h : hrndEnd n ver K x PS q) : hrndEnd n ver K' x PS q := by
 unfold hrndEnd at *
 split at h
 ·exact ⟨h.1, hk _ _ h.2⟩
 ·exact h.elim
theorem hrndBody_mono {n ver : Nat} {B B' : PL → Prop} (hb : ∀ PS, B PS → B' PS) {PS : PL} {q : Piece} (h : hrndBody ver n B PS q) : hrndBody ver n B' PS q := by
 unfold hrndBody at *
 split at h
 ·exact ⟨h.1, hb _ h.2⟩
 ·exact h.elim
theorem yield_rule {h' : HOp} (hm : HMono h') {n ver gl : Nat} {lf : Fr} {ps : List Tmp} {c1 c2 : Code} {xs : List HV} {PS : PL} {K : HV → PL → Prop} (tb : Nat → List Row)
  (hg : getP PS n = .rnd ver .ready none lf ps c1 c2 gl) (hl : xs.length = ps.length) (h1 : plainC c1 = true) (h2 : plainC c2 = true) (h3 : plansOk pu tb pl c1 = true) (h4 : plansOk pu tb pl c2 = true)
  (h : hvc h' (drawBy P pu pl) c1 (HX.then (fun fr1 PS1 => hrndBody ver n (fun PSb =>
   hvc h' (drawBy P pu pl) c2 (fun x _ PS2 => hrndEnd n ver K x PS2 (getP PS2 n)) fr1 PSb) PS1 (getP PS1 n)) (fun _ _ _ => False)) (putAll ps xs lf) PS) : hyield P pu h' n ver xs PS K (getP PS n) := by
 rw [hg]
 refine ⟨rfl, hl, h1, h2, tb, pl, h3, h4, hvcM hm drawBy_W _ _ _ (fun x fr PS hh => ?_) _ _ h⟩
 cases x with
 | normal =>
  rw [HX.then] at hh ⊢
  exact hrndBody_mono (fun PSb hb => hvcM hm drawBy_W _ _ _ (fun _ _ _ h => h) _ _ hb) hh
 | _ => exact hh
theorem hyield_mono {h' : HOp} (hm : HMono h') {n ver : Nat} {xs : List HV} {PS : PL} {K K' : HV → PL → Prop} (hk : ∀ v PS, K v PS → K' v PS) {q : Piece} (h : hyield P pu h' n ver xs PS K q) : hyield P pu h' n ver xs PS K' q := by
 unfold hyield at *
 split at h
 ·obtain ⟨e, hl, h1, h2, tb, pl, h3, h4, h⟩ := h
  refine ⟨e, hl, h1, h2, tb, pl, h3, h4, hvcM hm drawW_M _ _ _ (fun x fr PS hh => ?_) _ _ h⟩
  cases x with
  | normal =>
   rw [HX.then] at hh ⊢
   exact hrndBody_mono (fun PSb hb => hvcM hm drawW_M _ _ _ (fun x fr PS hh => hrndEnd_mono hk hh) _ _ hb) hh
  | _ => exact hh
 ·exact h.elim
theorem hopY_M {h' : HOp} (hm : HMono h') : HMono (hopY P pu h') := by
 intro o fr PS K K' hk h
 unfold hopY at *
 split at h
 ·unfold hcallY at *
  split at h
  ·exact hyield_mono hm hk h
  ·exact hm _ _ _ _ _ hk h
 ·exact hm _ _ _ _ _ hk h
def hvcG (P : Program) (gl : Nat) (hop : HOp) (hdraw : HDraw) : Code → (HX → Fr → PL → Prop) → Fr → PL → Prop
 | .rangeFunc f ps c1 c2, Q, fr, PS => hrf P gl fr PS ps c1 c2 Q (hfun (ev fr f))
 | .seq x y, Q, fr, PS => hvcG P gl hop hdraw x (HX.then (fun fr PS => hvcG P gl hop hdraw y Q fr PS) Q) fr PS
 | .cond c x y, Q, fr, PS => hcond (hvcG P gl hop hdraw x Q fr PS) (hvcG P gl hop hdraw y Q fr PS) (ev fr c)
 | .block id c, Q, fr, PS => hvcG P gl hop hdraw c (HX.inBlock id Q) fr PS
 | c, Q, fr, PS => hvc hop hdraw c Q fr PS
theorem hrfEnd_mono {n : Nat} {fr : Fr} {Q Q' : HX → Fr → PL → Prop} (hq : ∀ x fr PS, Q x fr PS → Q' x fr PS) {PS : PL} {q : Piece} (h : hrfEnd n fr Q PS q) : hrfEnd n fr Q' PS q := by
 unfold hrfEnd at *
 split at h
 ·exact ⟨h.1, hq _ _ _ h.2⟩
 ·exact ⟨h.1, hq _ _ _ h.2⟩
 ·exact ⟨h.1, hq _ _ _ h.2⟩
 ·exact h.elim
theorem hvcG_F {gl : Nat} {h' : HOp} (hm : HMono h') : ∀ (c : Code) (Q Q' : HX → Fr → PL → Prop) (_ : ∀ x fr PS, Q x fr PS → Q' x fr PS) (fr : Fr) (PS : PL), hvcG P gl h' (drawBy P pu pl) c Q fr PS → hvcF P gl h' (drawBy P pu pl) c Q' fr PS := by
 intro c
 induction c with
 | seq x y ihx ihy =>
  intro Q Q' hq fr PS h
  refine ihx _ _ (fun x fr PS hh => ?_) fr PS h
  cases x with
  | normal => exact ihy _ _ hq _ _ hh
  | exit id => exact hq _ _ _ hh
  | goto l => exact hq _ _ _ hh
  | ret => exact hq _ _ _ hh
 | cond c x y ihx ihy => intro Q Q' hq fr PS h; exact hcond_mono (ihx _ _ hq _ _) (ihy _ _ hq _ _) h
 | block id c ih =>
  intro Q Q' hq fr PS h
  refine ih _ _ (fun x fr PS hh => ?_) fr PS h
  cases x with
  | normal => exact hq _ _ _ hh
  | exit id' =>
   simp only [HX.inBlock] at hh ⊢
   split
   ·rename_i hi; rw [if_pos hi] at hh; exact hq _ _ _ hh
   ·rename_i hi; rw [if_neg hi] at hh; exact hq _ _ _ hh
  | goto l => exact hq _ _ _ hh
  | ret => exact hq _ _ _ hh
 | rangeFunc f ps x y _ _ =>
  intro Q Q' hq fr PS h
  show hrf P gl fr PS ps x y Q' (hfun (ev fr f))
  have h : hrf P gl fr PS ps x y Q (hfun (ev fr f)) := h
  unfold hrf at *
  split at h
  ·exact ⟨h.1, h.2.mono fun _ PS' hh => hrfEnd_mono hq hh⟩
  ·exact h.elim
 | _ => intro Q Q' hq fr PS h; exact hvcM hm drawBy_W _ _ _ hq _ _ h
theorem hcall_of_plansG {f : FuncId} {fn : Func} {c : Code} {args : List HV} {K : HV → PL → Prop} {PS : PL} (tb : Nat → List Row) (pl : Nat → Plan) (pu : Pu) (hm : P.follows .mixedOrders = true) (hfn : P.funcs[f]? = some fn) (hb : fn.body = some c) (hn : plainF c = true) (hp : plansOk pu tb pl c = true)
  (h : hvcG P 0 (hopY P pu (hop P)) (drawBy P pu pl) c (hret P fn.results.toList K) (hframe fn.ntmps args) PS) : HCall P f args PS K :=
 hcall_of_plansF (gl := 0) hop_sound tb pl pu hm hfn hb hn hp (hvcG_F (hopY_M hop_M) c _ _ (fun _ _ _ h => h) _ _ h)
theorem loop_ruleY {h' : HOp} (hm : HMono h') {c : Code} {Q : HX → Fr → PL → Prop} {fr : Fr} {PS : PL} {α : Type} (T : List Bool) (C : α → List (Nat × HV)) (μ : α → Nat) (R : α → PL → Prop) (a0 : α)
  (h0 : R a0 PS) (hw : WkF fr (sets (C a0) (junks T fr)))
  (step : ∀ a PS1, R a PS1 → hvc h' (drawBy P pu pl) c (HX.then (fun fr2 PS2 => ∃ b, μ b < μ a ∧ R b PS2 ∧ WkF fr2 (sets (C b) (junks T fr))) Q) (sets (C a) (junks T fr)) PS1) :
  HLoop h' (drawBy P pu pl) c Q fr PS := by
 refine ⟨fun n f PS1 => ∃ a, μ a = n ∧ R a PS1 ∧ f = sets (C a) (junks T fr), ⟨μ a0, _, PS, hw.weak, a0, rfl, h0, rfl⟩, ?_⟩
 rintro n f PS1 ⟨a, rfl, hR, rfl⟩
 refine hvcM hm drawBy_M c _ _ (fun x fr1 PS1 hh => ?_) _ _ (step a PS1 hR)
 cases x with
 | normal => obtain ⟨b, h1, h2, h3⟩ := hh; exact ⟨μ b, _, PS1, h1, h3.weak, b, rfl, h2, rfl⟩
 | exit id => exact hh
 | goto l => exact hh
 | ret => exact hh
end
section
variable (P : Program) (pu : Pu) (gl : Nat) (h' : HOp) (hd : HDraw) (fr fr' : Fr) (PS PS' : PL) (K : HV → PL → Prop) (Q : HX → Fr → PL → Prop) (d : Option Tmp) (ty : TypeId) (p : String) (af : Array Edge) (g : Option (Nat × Bool))
@[congr] theorem c_hvcG {c : Code} {dd : Prop} (_hd : HoldOn = dd) : hvcG P gl h' hd c Q fr PS = hvcG P gl h' hd c Q fr PS := rfl
@[go_sem ↓] theorem hvcG_seq (x y : Code) : hvcG P gl h' hd (.seq x y) Q fr PS = hvcG P gl h' hd x (HX.then (fun fr PS => hvcG P gl h' hd y Q fr PS) Q) fr PS := _root_.id rfl
@[go_sem ↓] theorem hvcG_cond (c : Operand) (x y : Code) : hvcG P gl h' hd (.cond c x y) Q fr PS = hcond (hvcG P gl h' hd x Q fr PS) (hvcG P gl h' hd y Q fr PS) (ev fr c) := _root_.id rfl
@[go_sem ↓] theorem hvcG_block (id : Nat) (c : Code) : hvcG P gl h' hd (.block id c) Q fr PS = hvcG P gl h' hd c (HX.inBlock id Q) fr PS := _root_.id rfl
@[go_sem ↓] theorem hvcG_range (f : Operand) (ps : Array Tmp) (x y : Code) : hvcG P gl h' hd (.rangeFunc f ps x y) Q fr PS = @pend ⟨hrf P gl fr PS ps x y Q (hfun (ev fr f))⟩ := _root_.id rfl
@[go_sem ↓] theorem hvcG_region (id : Nat) (ops : Array Oper) (b : Bool) : hvcG P gl h' hd (.region id ops b) Q fr PS = hvc h' hd (.region id ops b) Q fr PS := _root_.id rfl
@[go_sem ↓] theorem hvcG_skip : hvcG P gl h' hd .skip Q fr PS = Q .normal fr PS := _root_.id rfl
@[go_sem ↓] theorem hvcG_ret : hvcG P gl h' hd .ret Q fr PS = Q .ret fr PS := _root_.id rfl
@[go_sem ↓] theorem hvcG_loop (c : Code) : hvcG P gl h' hd (.loop c) Q fr PS = hvc h' hd (.loop c) Q fr PS := _root_.id rfl
@[congr] theorem c_hcallY {xs xs' : List HV} {A : Prop} {x x' : HV} {dd : Prop} (_hd : HoldOn = dd) (h : xs = xs') (h2 : x = x') : hcallY P pu h' xs PS K A x = hcallY P pu h' xs' PS K A x' := by rw [h, h2]
@[go_sem ↓] theorem hopY_call (f : Operand) (xs : List Operand) (ts : Array TypeId) : hopY P pu h' ⟨d, .call ⟨.value f, List.toArray xs, ts⟩, ty, p, af, g⟩ fr PS K = hcallY P pu h' (xs.map (ev fr)) PS K (h' ⟨d, .call ⟨.value f, List.toArray xs, ts⟩, ty, p, af, g⟩ fr PS K) (ev fr f) := _root_.id rfl
@[go_sem ↓] theorem hopY_builtin (b : Builtin) (xs : Array Operand) (ts : Array TypeId) : hopY P pu h' ⟨d, .call ⟨.builtin b, xs, ts⟩, ty, p, af, g⟩ fr PS K = h' ⟨d, .call ⟨.builtin b, xs, ts⟩, ty, p, af, g⟩ fr PS K := _root_.id rfl
@[go_sem ↓, go_sem] theorem hcallY_ref (xs : List HV) (A : Prop) (n ver : Nat) : hcallY P pu h' xs PS K A (.ref n ver) = @pend ⟨hyield P pu h' n ver xs PS K (getP PS n)⟩ := _root_.id rfl
@[go_sem ↓, go_sem] theorem hcallY_cst (xs : List HV) (A : Prop) (v : Value) : hcallY P pu h' xs PS K A (.cst v) = A := _root_.id rfl
@[go_sem ↓] theorem hopY_move (x : Operand) : hopY P pu h' ⟨d, .move x, ty, p, af, g⟩ fr PS K = h' ⟨d, .move x, ty, p, af, g⟩ fr PS K := _root_.id rfl
@[go_sem ↓] theorem hopY_assign (x : Operand) : hopY P pu h' ⟨d, .assign x, ty, p, af, g⟩ fr PS K = h' ⟨d, .assign x, ty, p, af, g⟩ fr PS K := _root_.id rfl
@[go_sem ↓] theorem hopY_pick (c x y : Operand) : hopY P pu h' ⟨d, .pick c x y, ty, p, af, g⟩ fr PS K = h' ⟨d, .pick c x y, ty, p, af, g⟩ fr PS K := _root_.id rfl
@[go_sem ↓] theorem hopY_load (t : TypeId) (x : Operand) : hopY P pu h' ⟨d, .load t x, ty, p, af, g⟩ fr PS K = h' ⟨d, .load t x, ty, p, af, g⟩ fr PS K := _root_.id rfl
@[go_sem ↓] theorem hopY_bin (op : BinOp) (t : TypeId) (x y : Operand) (t2 : TypeId) : hopY P pu h' ⟨d, .binOp op t x y t2, ty, p, af, g⟩ fr PS K = h' ⟨d, .binOp op t x y t2, ty, p, af, g⟩ fr PS K := _root_.id rfl
@[go_sem ↓] theorem hopY_un (op : UnOp) (t : TypeId) (x : Operand) : hopY P pu h' ⟨d, .unOp op t x, ty, p, af, g⟩ fr PS K = h' ⟨d, .unOp op t x, ty, p, af, g⟩ fr PS K := _root_.id rfl
@[go_sem ↓] theorem hopY_store (t : TypeId) (x y : Operand) : hopY P pu h' ⟨d, .store t x y, ty, p, af, g⟩ fr PS K = h' ⟨d, .store t x y, ty, p, af, g⟩ fr PS K := _root_.id rfl
@[go_sem ↓] theorem hopY_box (t : TypeId) (x : Operand) : hopY P pu h' ⟨d, .box t x, ty, p, af, g⟩ fr PS K = h' ⟨d, .box t x, ty, p, af, g⟩ fr PS K := _root_.id rfl
@[go_sem ↓] theorem hopY_alloc (t : TypeId) : hopY P pu h' ⟨d, .alloc t, ty, p, af, g⟩ fr PS K = h' ⟨d, .alloc t, ty, p, af, g⟩ fr PS K := _root_.id rfl
end
section
variable (n ver gl : Nat) (B : PL → Prop) (K : HV → PL → Prop) (Q : HX → Fr → PL → Prop) (fr lf : Fr) (PS PS' : PL) (ps : List Tmp) (c1 c2 : Code) (x : HX) (q q' : Piece)
@[congr] theorem c_hrndBody {dd : Prop} (_hd : HoldOn = dd) (h : PS = PS') (h2 : q = q') : hrndBody ver n B PS q = hrndBody ver n B PS' q' := by rw [h, h2]
@[congr] theorem c_hrndEnd {dd : Prop} (_hd : HoldOn = dd) (h : PS = PS') (h2 : q = q') : hrndEnd n ver K x PS q = hrndEnd n ver K x PS' q' := by rw [h, h2]
@[congr] theorem c_hrfEnd {dd : Prop} (_hd : HoldOn = dd) (h : PS = PS') (h2 : q = q') : hrfEnd n fr Q PS q = hrfEnd n fr Q PS' q' := by rw [h, h2]
@[go_sem ↓, go_sem] theorem hrndBody_rnd (ver' : Nat) : hrndBody ver n B PS (.rnd ver' .ready none lf ps c1 c2 gl) = (ver = ver' ∧ B (PS.set n (.rnd ver .busy none lf ps c1 c2 gl))) := _root_.id rfl
@[go_sem ↓, go_sem] theorem hrndEnd_normal (ver' : Nat) : hrndEnd n ver K .normal PS (.rnd ver' .busy none lf ps c1 c2 gl) = (ver = ver' ∧ K (.bool true) (PS.set n (.rnd ver .ready none lf ps c1 c2 gl))) := _root_.id rfl
@[go_sem ↓, go_sem] theorem hrndEnd_ret (ver' : Nat) : hrndEnd n ver K .ret PS (.rnd ver' .busy none lf ps c1 c2 gl) = (ver = ver' ∧ K (.bool false) (PS.set n (.rnd ver .done (some .ret) lf ps c1 c2 gl))) := _root_.id rfl
@[go_sem ↓, go_sem] theorem hrfEnd_ready : hrfEnd n fr Q PS (.rnd ver .ready none lf ps c1 c2 gl) = (ver = 0 ∧ Q .normal fr (PS.set n .dead)) := _root_.id rfl
@[go_sem ↓, go_sem] theorem hrfEnd_ret : hrfEnd n fr Q PS (.rnd ver .done (some .ret) lf ps c1 c2 gl) = (ver = 0 ∧ Q .ret fr (PS.set n .dead)) := _root_.id rfl
@[go_sem] theorem putAll_nil (xs : List HV) : putAll [] xs fr = fr := _root_.id rfl
@[go_sem] theorem putAll_cons (t : Tmp) (ts : List Tmp) (y : HV) (ys : List HV) : putAll (t :: ts) (y :: ys) fr = putAll ts ys (fset fr t y) := by unfold fset; rfl
end
end Go.Eng
