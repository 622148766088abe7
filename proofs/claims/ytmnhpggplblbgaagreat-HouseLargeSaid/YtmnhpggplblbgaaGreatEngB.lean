/-
  The abstract meaning of the model's code, over abstract values and pieces, and that it holds of the model: control flow, calls, loops. The operations are a parameter here.
  No conditions.
-/
import Derived.Test.YtmnhpggplblbgaaGreatEngA
namespace Go.Eng
open Go
set_option linter.unusedSectionVars false
variable [Toks]

abbrev Fr := List HV
abbrev PL := List Piece

/-- One way from a state of memory to a later one. -/
structure Tr (e : List Pos) (D : Nat → Nat → Prop) (w : World) (e' : List Pos) (D' : Nat → Nat → Prop) (w' : World) : Prop where
  os : w'.os = w.os
  tape : w'.tape = w.tape
  output : w'.output = w.output
  size : w.heap.size ≤ w'.heap.size
  keep : ∀ b, b < w.heap.size → (∀ i, ¬ D i b) → w'.heap[b]? = w.heap[b]?
  own : ∀ i b, D' i b → (∃ j, D j b) ∨ w.heap.size ≤ b
  env : EnvLe e e'
theorem Tr.refl (e : List Pos) (D : Nat → Nat → Prop) (w : World) : Tr e D w e D w :=
  ⟨rfl, rfl, rfl, Nat.le_refl _, fun _ _ _ => rfl, fun i _ h => .inl ⟨i, h⟩, .refl e⟩
theorem Tr.trans {e e' e'' : List Pos} {D D' D'' : Nat → Nat → Prop} {w w' w'' : World} (h : Tr e D w e' D' w') (k : Tr e' D' w' e'' D'' w'') : Tr e D w e'' D'' w'' where
  os := k.os.trans h.os
  tape := k.tape.trans h.tape
  output := k.output.trans h.output
  size := Nat.le_trans h.size k.size
  keep := fun b hb hn => by
    rw [k.keep b (Nat.lt_of_lt_of_le hb h.size) ?_, h.keep b hb hn]
    intro i hi
    rcases h.own i b hi with ⟨j, hj⟩ | h'
    · exact hn j hj
    · omega
  own := fun i b hi => by
    rcases k.own i b hi with ⟨j, hj⟩ | h'
    · exact h.own j b hj
    · exact .inr (Nat.le_trans h.size h')
  env := h.env.trans k.env
theorem Tr.stays {F : Nat → Prop} {e e' : List Pos} {D D' : Nat → Nat → Prop} {w w' : World} (h : Tr e D w e' D' w') : Stays (Mut F D) w (Mut F D') w' :=
  ⟨h.size, fun b hb hm => h.keep b hb (fun i hi => hm (.inr ⟨i, hi⟩)), fun b hb hm => by
    rcases hm with hm | ⟨i, hi⟩
    · exact .inl hm
    · rcases h.own i b hi with ⟨j, hj⟩ | h'
      · exact .inr ⟨j, hj⟩
      · omega⟩

/-- Slots and values, pairwise. -/
def FRel (M : Nat → Prop) (e : List Pos) (w : World) (fr : Fr) (t : Array Value) : Prop :=
  fr.length = t.size ∧ ∀ (i : Nat) (x : HV) (u : Value), fr[i]? = some x → t[i]? = some u → VRel M e w x u
theorem FRel.mono {M M' : Nat → Prop} {e e' : List Pos} {w w' : World} {fr : Fr} {t : Array Value} (hs : Stays M w M' w') (he : EnvLe e e') (h : FRel M e w fr t) : FRel M' e' w' fr t :=
  ⟨h.1, fun i x u hi hu => (h.2 i x u hi hu).mono hs he⟩

/-- The state that is known: slots, pieces; foreign blocks F; where it began. -/
def St (F : Nat → Prop) (e0 : List Pos) (D0 : Nat → Nat → Prop) (w0 : World) (fr : Fr) (PS : PL) (a : Act) (w : World) : Prop :=
  a.defers = [] ∧ ∃ e D, Rel F e D PS w ∧ FRel (Mut F D) e w fr a.tmps ∧ Tr e0 D0 w0 e D w

def hput (fr : Fr) (d : Option Tmp) (v : HV) : Fr :=
  match d with
  | some d => fr.set d v
  | none => fr
def get (fr : Fr) (t : Nat) : HV := fr.getD t .junk

/-- A constant of the model's, as an abstract value. -/
def ofV : Value → HV
  | .bool b => .bool b
  | .int k n => .int k n
  | .string s => .str s.data.toList
  | .slice none 0 0 => .imm true []
  | v => .cst v
def ev (fr : Fr) : Operand → HV
  | .tmp t => get fr t
  | .const v => ofV v
  | .func f => .cst (.func (.func f) #[] #[])
  | .global _ => .junk

theorem ofV_rel (M : Nat → Prop) (e : List Pos) (w : World) (v : Value) : VRel M e w (ofV v) v := by
  unfold ofV
  split
  · exact .bool _
  · exact .int _ _
  · rename_i s; exact .str s.data.toList
  · exact .imm true [] none 0 0 0 0 (fun _ _ => .bool true) (Nat.le_refl _) (Nat.zero_le _) (fun _ => rfl) (fun _ => rfl) (fun h => absurd h (Nat.lt_irrefl _)) (fun h => absurd rfl h)
      (fun _ h => absurd h (by simp)) (fun _ _ => rfl) (fun i l k x h => by simp at h) (fun i l k x h => by simp at h)
  · exact .cst _

theorem get_rel {M : Nat → Prop} {e : List Pos} {w : World} {fr : Fr} {t : Array Value} (h : FRel M e w fr t) (i : Nat) : VRel M e w (get fr i) (t.getD i undef) := by
  unfold get
  by_cases hi : i < fr.length
  · have hi' : i < t.size := h.1 ▸ hi
    have := h.2 i fr[i] t[i] (by simp [hi]) (by simp [hi'])
    simpa [hi, hi'] using this
  · have : fr.getD i HV.junk = .junk := by simp [List.getD, List.getElem?_eq_none (Nat.le_of_not_lt hi)]
    rw [this]; exact .junk _
theorem ev_rel {M : Nat → Prop} {e : List Pos} {w : World} {fr : Fr} {a : Act} (h : FRel M e w fr a.tmps) (x : Operand) : VRel M e w (ev fr x) (a.eval x) := by
  cases x with
  | tmp t => exact get_rel h t
  | const v => exact ofV_rel M e w v
  | func f => exact .cst _
  | global g => exact .junk _
theorem FRel.put {M : Nat → Prop} {e : List Pos} {w : World} {fr : Fr} {a : Act} (h : FRel M e w fr a.tmps) (d : Option Tmp) {x : HV} {v : Value} (hv : VRel M e w x v) :
    FRel M e w (hput fr d x) (a.put d v).tmps := by
  cases d with
  | none => exact h
  | some d =>
    refine ⟨by simp [hput, Act.put, h.1], fun i y u hi hu => ?_⟩
    simp only [hput, Act.put] at hi hu
    rw [List.getElem?_set] at hi
    rw [Array.getElem?_setIfInBounds] at hu
    by_cases hd : d = i
    · subst hd
      by_cases hl : d < fr.length
      · have hl' : d < a.tmps.size := h.1 ▸ hl
        simp [hl] at hi; simp [hl'] at hu
        subst hi; subst hu; exact hv
      · simp [hl] at hi
    · rw [if_neg hd] at hi hu
      exact h.2 i y u hi hu

/-- What a call of a function comes to, said of the abstract state. -/
def HCall (P : Program) (f : FuncId) (args : List HV) (PS : PL) (K : HV → PL → Prop) : Prop :=
  ∀ F e D w (vs : Array Value), Rel F e D PS w → FRel (Mut F D) e w args vs →
    Calls P f vs w fun en w' => ∃ v x PS' e' D', en = .returned v ∧ K x PS' ∧ Rel F e' D' PS' w' ∧ Tr e D w e' D' w' ∧ VRel (Mut F D') e' w' x v
theorem HCall.mono {P : Program} {f : FuncId} {args : List HV} {PS : PL} {K K' : HV → PL → Prop} (h : HCall P f args PS K) (hk : ∀ x PS, K x PS → K' x PS) : HCall P f args PS K' :=
  fun F e D w vs hr hf => (h F e D w vs hr hf).mono fun _ _ ⟨v, x, PS', e', D', h1, h2, h3⟩ => ⟨v, x, PS', e', D', h1, hk _ _ h2, h3⟩

/-- The abstract meaning of one operation: a parameter. -/
abbrev HOp := Oper → Fr → PL → (HV → PL → Prop) → Prop

def guardVal (ops : Array Oper) (fr : Fr) (j : Nat) : HV :=
  match (ops[j]?).bind (·.dst) with
  | some d => get fr d
  | none => .junk
def hguard (want : Bool) (A B : Prop) : HV → Prop
  | .bool b => (b = want → A) ∧ (¬ b = want → B)
  | .cst (.tuple _) => B
  | _ => False
def hops (hop : HOp) (ops : Array Oper) : List Oper → (Fr → PL → Prop) → Fr → PL → Prop
  | [], K, fr, PS => K fr PS
  | o :: os, K, fr, PS =>
    match o.guard with
    | none => hop o fr PS fun v PS' => hops hop ops os K (hput fr o.dst v) PS'
    | some (j, want) => hguard want (hop o fr PS fun v PS' => hops hop ops os K (hput fr o.dst v) PS') (hops hop ops os K (hput fr o.dst (.cst undef)) PS) (guardVal ops fr j)

inductive HX where
  | normal
  | exit (id : Nat)
  | goto (l : Nat)
  | ret
def HX.toExit : HX → Exit
  | .normal => .normal
  | .exit id => .exit id
  | .goto l => .goto l
  | .ret => .ret
def HX.then (A : Fr → PL → Prop) (Q : HX → Fr → PL → Prop) : HX → Fr → PL → Prop
  | .normal, fr, PS => A fr PS
  | x, fr, PS => Q x fr PS
def HX.inBlock (id : Nat) (Q : HX → Fr → PL → Prop) : HX → Fr → PL → Prop
  | .exit id', fr, PS => if id' = id then Q .normal fr PS else Q (.exit id') fr PS
  | x, fr, PS => Q x fr PS
def HX.noGoto (Q : HX → Fr → PL → Prop) : HX → Fr → PL → Prop
  | .goto _, _, _ => False
  | x, fr, PS => Q x fr PS
def hcond (A B : Prop) : HV → Prop
  | .bool b => (b = true → A) ∧ (b = false → B)
  | .anyb => A ∧ B
  | _ => False

/-- A state says no more than another. -/
def Weak (fr : Fr) (PS : PL) (fr' : Fr) (PS' : PL) : Prop :=
  ∀ F e D w (t : Array Value), Rel F e D PS w → FRel (Mut F D) e w fr t → ∃ e' D', Rel F e' D' PS' w ∧ FRel (Mut F D') e' w fr' t ∧ Tr e D w e' D' w
theorem Weak.refl (fr : Fr) (PS : PL) : Weak fr PS fr PS := fun _ e D w _ hr hf => ⟨e, D, hr, hf, .refl e D w⟩
theorem Weak.trans {fr fr' fr'' : Fr} {PS PS' PS'' : PL} (h : Weak fr PS fr' PS') (k : Weak fr' PS' fr'' PS'') : Weak fr PS fr'' PS'' := fun F e D w t hr hf => by
  obtain ⟨e', D', h1, h2, h3⟩ := h F e D w t hr hf
  obtain ⟨e'', D'', h4, h5, h6⟩ := k F e' D' w t h1 h2
  exact ⟨e'', D'', h4, h5, h3.trans h6⟩
theorem St.weak {F : Nat → Prop} {e0 : List Pos} {D0 : Nat → Nat → Prop} {w0 : World} {fr fr' : Fr} {PS PS' : PL} {a : Act} {w : World} (h : St F e0 D0 w0 fr PS a w) (k : Weak fr PS fr' PS') : St F e0 D0 w0 fr' PS' a w := by
  obtain ⟨hd, e, D, h1, h2, h3⟩ := h
  obtain ⟨e', D', h4, h5, h6⟩ := k F e D w a.tmps h1 h2
  exact ⟨hd, e', D', h4, h5, h3.trans h6⟩

/-- A drawn region: whatever the order; a parameter of the operations' file. -/
abbrev HDraw := Nat → Array Oper → (Fr → PL → Prop) → Fr → PL → Prop

section
variable (hop : HOp) (hdraw : HDraw)
def hvc : Code → (HX → Fr → PL → Prop) → Fr → PL → Prop
  | .skip, Q, fr, PS => Q .normal fr PS
  | .region id ops draw, Q, fr, PS => if draw then hdraw id ops (Q .normal) fr PS else hops hop ops ops.toList (Q .normal) fr PS
  | .seq x y, Q, fr, PS => hvc x (HX.then (fun fr PS => hvc y Q fr PS) Q) fr PS
  | .cond c x y, Q, fr, PS => hcond (hvc x Q fr PS) (hvc y Q fr PS) (ev fr c)
  | .block id c, Q, fr, PS => hvc c (HX.inBlock id Q) fr PS
  | .loop c, Q, fr, PS => ∃ I : Nat → Fr → PL → Prop, (∃ n fr' PS', Weak fr PS fr' PS' ∧ I n fr' PS') ∧
      ∀ n fr PS, I n fr PS → hvc c (HX.then (fun fr1 PS1 => ∃ m fr2 PS2, m < n ∧ Weak fr1 PS1 fr2 PS2 ∧ I m fr2 PS2) Q) fr PS
  | .exit id, Q, fr, PS => Q (.exit id) fr PS
  | .scope c, Q, fr, PS => hvc c (HX.noGoto Q) fr PS
  | .label _, Q, fr, PS => Q .normal fr PS
  | .goto l, Q, fr, PS => Q (.goto l) fr PS
  | .ret, Q, fr, PS => Q .ret fr PS
  | _, _, _, _ => False
end

/-- An operation's abstract meaning holds of the model. -/
def OpSound (P : Program) (hop : HOp) : Prop :=
  ∀ (o : Oper) (fr : Fr) (PS : PL) (K : HV → PL → Prop) F e0 D0 w0 (a : Act) (w : World) (Q : Exit → Act → World → Prop), hop o fr PS K → St F e0 D0 w0 fr PS a w →
    o.wp P a w (fun a' w' => ∃ v PS', K v PS' ∧ St F e0 D0 w0 (hput fr o.dst v) PS' a' w') Q
def PostOf (F : Nat → Prop) (e0 : List Pos) (D0 : Nat → Nat → Prop) (w0 : World) (Q : HX → Fr → PL → Prop) (x : Exit) (a : Act) (w : World) : Prop :=
  ∃ x' fr PS, x = x'.toExit ∧ Q x' fr PS ∧ St F e0 D0 w0 fr PS a w
def DrawSound (P : Program) (hdraw : HDraw) : Prop :=
  ∀ (id : Nat) (ops : Array Oper) (K : Fr → PL → Prop) (fr : Fr) (PS : PL) F e0 D0 w0 (a : Act) (w : World), hdraw id ops K fr PS → St F e0 D0 w0 fr PS a w →
    (Code.region id ops true).wp P (PostOf F e0 D0 w0 (HX.then K fun _ _ _ => False)) a w

/-- The same, from where a function began. -/
def DrawSoundAt (P : Program) (hdraw : HDraw) (F : Nat → Prop) (e0 : List Pos) (D0 : Nat → Nat → Prop) (w0 : World) : Prop :=
  ∀ (id : Nat) (ops : Array Oper) (K : Fr → PL → Prop) (fr : Fr) (PS : PL) (a : Act) (w : World), hdraw id ops K fr PS → St F e0 D0 w0 fr PS a w →
    (Code.region id ops true).wp P (PostOf F e0 D0 w0 (HX.then K fun _ _ _ => False)) a w
theorem DrawSound.at {P : Program} {hdraw : HDraw} (h : DrawSound P hdraw) (F : Nat → Prop) (e0 : List Pos) (D0 : Nat → Nat → Prop) (w0 : World) : DrawSoundAt P hdraw F e0 D0 w0 :=
  fun id ops K fr PS a w h1 h2 => h id ops K fr PS F e0 D0 w0 a w h1 h2

section
variable {P : Program} {hop : HOp} {hdraw : HDraw} {F : Nat → Prop} {e0 : List Pos} {D0 : Nat → Nat → Prop} {w0 : World}

theorem yielded_of_guard {ops : Array Oper} {fr : Fr} {a : Act} {w : World} {PS : PL} {j : Nat} {b : Bool} (hst : St F e0 D0 w0 fr PS a w) (h : guardVal ops fr j = .bool b) : yielded ops a.tmps j = some b := by
  obtain ⟨_, e, D, _, hf, _⟩ := hst
  unfold guardVal at h
  unfold yielded
  cases hd : (ops[j]?).bind (·.dst) with
  | none => rw [hd] at h; simp at h
  | some d =>
    rw [hd] at h
    have := get_rel hf d
    simp only at h
    rw [h] at this
    have hd' : d < a.tmps.size := by
      rcases Nat.lt_or_ge d a.tmps.size with h' | h'
      · exact h'
      · have : get fr d = .junk := by unfold get; simp [List.getD, List.getElem?_eq_none (hf.1 ▸ h')]
        rw [this] at h; cases h
    simp only [Option.bind_some]
    have h2 : a.tmps[d]? = some (a.tmps.getD d undef) := by simp [hd']
    rw [h2]
    generalize a.tmps.getD d undef = u at this
    cases this; rfl

theorem yielded_of_skip {ops : Array Oper} {fr : Fr} {a : Act} {w : World} {PS : PL} {j : Nat} {u : Array Value} (hst : St F e0 D0 w0 fr PS a w) (h : guardVal ops fr j = .cst (.tuple u)) : yielded ops a.tmps j = none := by
  obtain ⟨_, e, D, _, hf, _⟩ := hst
  unfold guardVal at h
  unfold yielded
  cases hd : (ops[j]?).bind (·.dst) with
  | none => rfl
  | some d =>
    rw [hd] at h
    have := get_rel hf d
    simp only at h
    rw [h] at this
    simp only [Option.bind_some]
    cases ht : a.tmps[d]? with
    | none => rfl
    | some v =>
      have hv : a.tmps.getD d undef = v := by simp [ht]
      rw [hv] at this
      cases this; rfl
theorem hops_sound (hs : OpSound P hop) (ops : Array Oper) (K : Fr → PL → Prop) (Q : Exit → Act → World → Prop)
    (hK : ∀ fr PS a w, K fr PS → St F e0 D0 w0 fr PS a w → Q .normal a w) :
    ∀ (l : List Oper) (fr : Fr) (PS : PL) (a : Act) (w : World), hops hop ops l K fr PS → St F e0 D0 w0 fr PS a w → wpList P ops Q l a w := by
  intro l
  induction l with
  | nil => intro fr PS a w h hst; exact hK _ _ _ _ h hst
  | cons o os ih =>
    intro fr PS a w h hst
    have main : hop o fr PS (fun v PS' => hops hop ops os K (hput fr o.dst v) PS') → o.wp P a w (wpList P ops Q os) Q := fun h =>
      Oper.wp_mono (fun a w ⟨v, PS', h1, h2⟩ => ih _ _ _ _ h1 h2) (hs o fr PS _ F e0 D0 w0 a w Q h hst)
    simp only [hops] at h
    simp only [wpList]
    cases hg : o.guard with
    | none =>
      simp only [hg] at h
      simp only [Region.wanted, hg, if_true]
      exact .inl (main h)
    | some g =>
      obtain ⟨j, want⟩ := g
      simp only [hg] at h
      cases hv : guardVal ops fr j with
      | bool b =>
        rw [hv] at h
        have hy := yielded_of_guard hst hv
        simp only [Region.wanted, hg, hy]
        by_cases hb : b = want
        · subst hb
          simp only [beq_self_eq_true, if_true]
          exact .inl (main (h.1 rfl))
        · have : (some b == some want) = false := by simpa using hb
          rw [this]
          simp only [Bool.false_eq_true, if_false]
          refine ih _ _ _ _ (h.2 hb) ?_
          obtain ⟨hd, e, D, h1, h2, h3⟩ := hst
          refine ⟨?_, e, D, h1, h2.put o.dst (.cst _), h3⟩
          cases o.dst <;> exact hd
      | cst v =>
        rw [hv] at h
        cases v with
        | tuple u =>
          have hy := yielded_of_skip hst hv
          have : (none == some want) = false := rfl
          simp only [Region.wanted, hg, hy, this, Bool.false_eq_true, if_false]
          refine ih _ _ _ _ h ?_
          obtain ⟨hd, e, D, h1, h2, h3⟩ := hst
          refine ⟨?_, e, D, h1, h2.put o.dst (.cst _), h3⟩
          cases o.dst <;> exact hd
        | _ => exact h.elim
      | _ => rw [hv] at h; exact h.elim

theorem least_of (p : Nat → Prop) (n : Nat) (h : p n) : ∃ m, p m ∧ ∀ k, p k → m ≤ k := by
  induction n using Nat.strongRecOn with
  | _ n ih =>
    by_cases hx : ∃ k, k < n ∧ p k
    · obtain ⟨k, hk, hp⟩ := hx; exact ih k hk hp
    · exact ⟨n, h, fun k hk => Nat.le_of_not_lt fun hl => hx ⟨k, hl, hk⟩⟩

theorem hvc_sound (hs : OpSound P hop) (hd : DrawSoundAt P hdraw F e0 D0 w0) : ∀ (c : Code) (Q : HX → Fr → PL → Prop) (fr : Fr) (PS : PL) (a : Act) (w : World),
    hvc hop hdraw c Q fr PS → St F e0 D0 w0 fr PS a w → c.wp P (PostOf F e0 D0 w0 Q) a w := by
  intro c
  induction c with
  | skip => intro Q fr PS a w h hst; exact wp_skip ⟨.normal, fr, PS, rfl, h, hst⟩
  | region id ops draw =>
    intro Q fr PS a w h hst
    simp only [hvc] at h
    cases draw with
    | true =>
      simp only [if_true] at h
      refine wp_mono (hd id ops _ fr PS a w h hst) ?_
      rintro x a w ⟨x', fr, PS, rfl, hq, hst⟩
      cases x' with
      | normal => exact ⟨.normal, fr, PS, rfl, hq, hst⟩
      | _ => exact hq.elim
    | false =>
      simp only [Bool.false_eq_true, if_false] at h
      exact wp_region_list (hops_sound hs ops _ _ (fun fr PS a w h hst => ⟨.normal, fr, PS, rfl, h, hst⟩) _ fr PS a w h hst)
  | seq x y ihx ihy =>
    intro Q fr PS a w h hst
    refine wp_seq (wp_mono (ihx _ fr PS a w h hst) ?_)
    rintro e a w ⟨x', fr, PS, rfl, hq, hst⟩
    cases x' with
    | normal => exact ihy _ _ _ _ _ hq hst
    | exit id => exact ⟨.exit id, fr, PS, rfl, hq, hst⟩
    | goto l => exact ⟨.goto l, fr, PS, rfl, hq, hst⟩
    | ret => exact ⟨.ret, fr, PS, rfl, hq, hst⟩
  | cond c x y ihx ihy =>
    intro Q fr PS a w h hst
    simp only [hvc] at h
    have hst' := hst
    obtain ⟨_, e, D, _, hf, _⟩ := hst'
    have hv := ev_rel hf c
    generalize ev fr c = u at h hv
    cases u with
    | bool b =>
      generalize hu : a.eval c = v at hv
      cases hv
      refine wp_cond_split hu (fun hb => ihx _ _ _ _ _ (h.1 hb) hst) (fun hb => ihy _ _ _ _ _ (h.2 hb) hst)
    | anyb =>
      generalize hu : a.eval c = v at hv
      cases hv
      exact wp_cond_split hu (fun _ => ihx _ _ _ _ _ h.1 hst) (fun _ => ihy _ _ _ _ _ h.2 hst)
    | _ => exact h.elim
  | block id c ih =>
    intro Q fr PS a w h hst
    refine wp_block (wp_mono (ih _ fr PS a w h hst) ?_)
    rintro e a w ⟨x', fr, PS, rfl, hq, hst⟩
    cases x' with
    | normal => exact ⟨.normal, fr, PS, rfl, hq, hst⟩
    | exit id' =>
      simp only [HX.toExit, Exit.inBlock]
      simp only [HX.inBlock] at hq
      split
      · rename_i hi; rw [if_pos hi] at hq; exact ⟨.normal, fr, PS, rfl, hq, hst⟩
      · rename_i hi; rw [if_neg hi] at hq; exact ⟨.exit id', fr, PS, rfl, hq, hst⟩
    | goto l => exact ⟨.goto l, fr, PS, rfl, hq, hst⟩
    | ret => exact ⟨.ret, fr, PS, rfl, hq, hst⟩
  | loop c ih =>
    intro Q fr PS a w h hst
    simp only [hvc] at h
    obtain ⟨I, ⟨n, fr', PS', hw, hi⟩, hr⟩ := h
    classical
    let IW : Nat → Act → World → Prop := fun m a w => ∃ fr PS, I m fr PS ∧ St F e0 D0 w0 fr PS a w
    have hex : ∃ m, IW m a w ∧ ∀ k, IW k a w → m ≤ k := least_of _ n ⟨fr', PS', hi, hst.weak hw⟩
    refine wp_loop (fun a w => ∃ m, IW m a w ∧ ∀ k, IW k a w → m ≤ k) (fun a w => if h : ∃ m, IW m a w ∧ ∀ k, IW k a w → m ≤ k then Classical.choose h else 0) hex ?_
    intro a w hI
    have hm := (Classical.choose_spec hI).1
    obtain ⟨fr, PS, hi, hst⟩ := hm
    refine wp_mono (ih _ fr PS a w (hr _ fr PS hi) hst) ?_
    rintro e a' w' ⟨x', fr', PS', rfl, hq, hst'⟩
    cases x' with
    | normal =>
      obtain ⟨m, fr2, PS2, hlt, hw2, hi2⟩ := hq
      have hIW : IW m a' w' := ⟨fr2, PS2, hi2, hst'.weak hw2⟩
      have hex' : ∃ m, IW m a' w' ∧ ∀ k, IW k a' w' → m ≤ k := least_of _ m hIW
      refine ⟨hex', ?_⟩
      simp only [dif_pos hex', dif_pos hI]
      exact Nat.lt_of_le_of_lt ((Classical.choose_spec hex').2 m hIW) hlt
    | exit id => exact ⟨.exit id, fr', PS', rfl, hq, hst'⟩
    | goto l => exact ⟨.goto l, fr', PS', rfl, hq, hst'⟩
    | ret => exact ⟨.ret, fr', PS', rfl, hq, hst'⟩
  | rangeFunc f ps x y _ _ => intro Q fr PS a w h hst; exact h.elim
  | exit id => intro Q fr PS a w h hst; exact wp_exit ⟨.exit id, fr, PS, rfl, h, hst⟩
  | scope c ih =>
    intro Q fr PS a w h hst
    refine wp_scope_straight (wp_mono (ih _ fr PS a w h hst) ?_)
    rintro e a w ⟨x', fr, PS, rfl, hq, hst⟩
    cases x' with
    | normal => exact ⟨.normal, fr, PS, rfl, hq, hst⟩
    | exit id => exact ⟨.exit id, fr, PS, rfl, hq, hst⟩
    | goto l => exact hq.elim
    | ret => exact ⟨.ret, fr, PS, rfl, hq, hst⟩
  | label l => intro Q fr PS a w h hst; exact wp_label ⟨.normal, fr, PS, rfl, h, hst⟩
  | goto l => intro Q fr PS a w h hst; exact wp_goto ⟨.goto l, fr, PS, rfl, h, hst⟩
  | ret => intro Q fr PS a w h hst; exact wp_ret ⟨.ret, fr, PS, rfl, h, hst⟩
  | refuse s => intro Q fr PS a w h hst; exact h.elim

/-- The results of a function, from its slots. -/
def hres (fr : Fr) : List ResultVar → Option (List HV)
  | [] => some []
  | .tmp t :: r => (hres fr r).map (get fr t :: ·)
  | .cell _ _ :: _ => none
def hresult : List HV → HV
  | [x] => x
  | l => .tup l
end
end Go.Eng
