/-
  Regions that draw their order: plans, checked by computation; they hold of the model.
  No conditions.
-/
import Derived.Test.YtmnhpggplblbgaaGreatEngV
namespace Go.Eng
open Go
set_option linter.unusedSectionVars false
variable [Toks]
set_option linter.unusedSimpArgs false

/-- An order: done; a value first; one of several that may come, what is looked at again after it; none more. -/
inductive Plan where
  | done
  | one (i : Nat) (p : Plan)
  | alt (i : Nat) (cs : List Nat) (p q : Plan)
  | none
  | late (J : List Nat) (dp : Nat) (p1 p2 : Plan)
def hres' (P : Program) (pu : Pu) (ops : Array Oper) (fr : Fr) (PS : PL) (A : Prop) : List Nat → Prop
  | [] => A
  | i :: cs => hre P pu ops i fr PS ∧ hres' P pu ops fr PS A cs
def hone1 (P : Program) (pu : Pu) (ops : Array Oper) (i : Nat) (K : Fr → Prop) (fr : Fr) (PS : PL) : Prop :=
  match ops[i]? with
  | none => False
  | some o => hgd ops o fr (hval1 P pu o fr PS fun v => K (hput fr o.dst v)) (K (hput fr o.dst (.cst undef)))
def hplan (P : Program) (pu : Pu) (ops : Array Oper) (K : Fr → PL → Prop) : Plan → Fr → PL → Prop
  | .done, fr, PS => K fr PS
  | .one i p, fr, PS => hone1 P pu ops i (fun fr => hplan P pu ops K p fr PS) fr PS
  | .alt i cs p q, fr, PS => hstep P pu ops i (fun fr PS => hres' P pu ops fr PS (hplan P pu ops K p fr PS) cs) fr PS ∧ hplan P pu ops K q fr PS
  | .none, _, _ => True
  | .late _ _ _ _, _, _ => False

/-- An operation, as numbers: what it writes, looks at, waits for (bits); its class. -/
structure Row where
  dst : Nat
  looks : Nat
  after : Nat
  cls : Nat
def maskOf (l : List Nat) : Nat := l.foldr (fun i m => 2 ^ i ||| m) 0
def rowOf (pu : Pu) (ops : Array Oper) (o : Oper) : Row := ⟨maskOf o.dst.toList, maskOf (o.looksAt ops), maskOf ((o.after.toList.filter fun e => Region.binds .any e).map (·.on)), clsD pu o⟩
def tabOf (pu : Pu) (ops : Array Oper) : List Row := ops.toList.map (rowOf pu ops)
def sameTab : List Row → List Row → Bool
  | [], [] => true
  | x :: l, y :: m => x.dst == y.dst && x.looks == y.looks && x.after == y.after && x.cls == y.cls && sameTab l m
  | _, _ => false
def apartR (x y : Row) : Bool := x.dst &&& y.looks == 0 && x.dst &&& y.dst == 0 && y.dst &&& x.looks == 0
/-- The operations that wait for i: bits. -/
def descT (i : Nat) : List Row → Nat → Nat → Nat
  | [], _, D => D
  | r :: l, j, D => descT i l (j + 1) (if r.after &&& (D ||| 2 ^ i) == 0 then D else D ||| 2 ^ j)
def readyT (lm : Nat) : List Row → Nat → List Nat
  | [], _ => []
  | r :: l, j => if !lm.testBit j && r.after &&& lm == r.after then j :: readyT lm l (j + 1) else readyT lm l (j + 1)
/-- What is not yet done, does not wait for i, and is not i: apart from it. m: done, waiting, i. -/
def allApartT (m : Nat) (x : Row) : List Row → Nat → Bool
  | [], _ => true
  | r :: l, j => (m.testBit j || apartR x r) && allApartT m x l (j + 1)
/-- Of these: what might change what i computes. -/
def conflictsT (m : Nat) (x : Row) : List Row → Nat → List Nat
  | [], _ => []
  | r :: l, j => if !m.testBit j && !compat x.cls r.cls then j :: conflictsT m x l (j + 1) else conflictsT m x l (j + 1)
/-- What was done first, and what might change it. -/
abbrev Pend := List (Nat × List Nat)
def unhurtT (tab : List Row) (x : Row) (L : Pend) : Bool :=
  L.all fun q => match tab[q.1]? with | some r => x.dst &&& r.looks == 0 && x.dst &&& r.dst == 0 | none => true
def planOk (tab : List Row) : Plan → Pend → Nat → Nat → Option (List Nat) → Bool
  | .done, _, _, lm, rest => rest.isNone && (readyT lm tab 0).isEmpty
  | .none, _, _, _, rest => rest == some []
  | .one i p, L, n + 1, lm, rest => (match tab[i]? with
    | some x =>
      let m := lm ||| (2 ^ i ||| descT i tab 0 0)
      rest.isNone && (!lm.testBit i && x.after &&& lm == x.after) && decide (x.cls ≤ 2) && unhurtT tab x L && allApartT m x tab 0 &&
      (match conflictsT m x tab 0 with
       | [] => planOk tab p L n (lm ||| 2 ^ i) none
       | j :: S => x.dst &&& x.looks == 0 && planOk tab p ((i, j :: S) :: L) n (lm ||| 2 ^ i) none)
    | none => false)
  | .alt i cs p q, L, n + 1, lm, rest =>
    let r := rest.getD (readyT lm tab 0)
    r.contains i && decide (i < tab.length) && L.all (fun q => !q.2.contains i || cs.contains q.1) && planOk tab p L n (lm ||| 2 ^ i) none && planOk tab q L (n + 1) lm (some (r.erase i))
  | _, _, _, _, _ => false

section
theorem testBit_maskOf (l : List Nat) (i : Nat) : (maskOf l).testBit i = true ↔ i ∈ l := by
  unfold maskOf
  induction l with
  | nil => simp
  | cons a l ih =>
    simp only [List.foldr_cons, Nat.testBit_or, Bool.or_eq_true, ih, Nat.testBit_two_pow, decide_eq_true_eq, List.mem_cons]
    constructor
    · rintro (h | h)
      · exact .inl h.symm
      · exact .inr h
    · rintro (h | h)
      · exact .inl h.symm
      · exact .inr h
theorem land_zero {a b : Nat} (h : a &&& b = 0) {i : Nat} (ha : a.testBit i = true) : b.testBit i = false := by
  have := congrArg (fun n => n.testBit i) h
  simpa [ha] using this
theorem land_self {a b : Nat} (h : a &&& b = a) {i : Nat} (ha : a.testBit i = true) : b.testBit i = true := by
  have := congrArg (fun n => n.testBit i) h
  simpa [ha] using this
variable {pu : Pu} {ops : Array Oper}
theorem tab_get {i : Nat} {x : Row} (h : (tabOf pu ops)[i]? = some x) : ∃ o, ops[i]? = some o ∧ x = rowOf pu ops o := by
  unfold tabOf at h
  rw [List.getElem?_map] at h
  cases ho : ops[i]? with
  | none => simp [ho] at h
  | some o => simp [ho] at h; exact ⟨o, rfl, h.symm⟩
theorem get_tab {i : Nat} {o : Oper} (h : ops[i]? = some o) : (tabOf pu ops)[i]? = some (rowOf pu ops o) := by
  unfold tabOf
  rw [List.getElem?_map]
  simp [h]
theorem apartR_spec {x y : Oper} (h : apartR (rowOf pu ops x) (rowOf pu ops y) = true) : x.apart ops y = true := by
  unfold apartR at h
  simp only [Bool.and_eq_true, beq_iff_eq, rowOf] at h
  obtain ⟨⟨h1, h2⟩, h3⟩ := h
  unfold Oper.apart
  rw [Bool.and_eq_true]
  constructor
  · cases hd : x.dst with
    | none => rfl
    | some d =>
      have hb : (maskOf x.dst.toList).testBit d = true := (testBit_maskOf _ _).2 (by simp [hd])
      simp only [Bool.and_eq_true, Bool.not_eq_true', bne_iff_ne]
      refine ⟨?_, fun e => ?_⟩
      · have := land_zero h1 hb
        rw [← Bool.not_eq_true] at this
        simpa using fun hm => this ((testBit_maskOf _ _).2 hm)
      · have := land_zero h2 hb
        rw [(testBit_maskOf _ _).2 (by simp [e])] at this
        cases this
  · cases hd : y.dst with
    | none => rfl
    | some d =>
      have hb : (maskOf y.dst.toList).testBit d = true := (testBit_maskOf _ _).2 (by simp [hd])
      have := land_zero h3 hb
      rw [← Bool.not_eq_true] at this
      simpa using fun hm => this ((testBit_maskOf _ _).2 hm)
/-- Bits as the list of what is done. -/
def Bits (ops : Array Oper) (listed : Array Bool) (lm : Nat) : Prop := listed.size = ops.size ∧ ∀ j, listed.getD j false = lm.testBit j
theorem Bits.set {listed : Array Bool} {lm i : Nat} (h : Bits ops listed lm) (hi : i < ops.size) : Bits ops (listed.setIfInBounds i true) (lm ||| 2 ^ i) := by
  refine ⟨by simp [h.1], fun j => ?_⟩
  rw [Nat.testBit_or, Nat.testBit_two_pow, ← h.2 j]
  by_cases hij : i = j
  · subst hij; simp [h.1, hi]
  · rw [getD_set_ne false hij]; simp [hij]
theorem Bits.unlisted {listed : Array Bool} {lm j : Nat} (h : Bits ops listed lm) (hj : j < ops.size) : listed.getD j true = lm.testBit j := by
  rw [← h.2 j]
  have : j < listed.size := h.1 ▸ hj
  simp [this]
theorem mem_readyT {lm j : Nat} : ∀ (l : List Row) (k : Nat), j ∈ readyT lm l k ↔ ∃ i r, l[i]? = some r ∧ j = k + i ∧ lm.testBit j = false ∧ r.after &&& lm = r.after := by
  intro l
  induction l with
  | nil => intro k; simp [readyT]
  | cons x l ih =>
    intro k
    have hsplit : (∃ i r, (x :: l)[i]? = some r ∧ j = k + i ∧ lm.testBit j = false ∧ r.after &&& lm = r.after) ↔ ((j = k ∧ lm.testBit j = false ∧ x.after &&& lm = x.after) ∨ ∃ i r, l[i]? = some r ∧ j = k + 1 + i ∧ lm.testBit j = false ∧ r.after &&& lm = r.after) := by
      constructor
      · rintro ⟨i, r, h1, h2, h3, h4⟩
        cases i with
        | zero => simp at h1; subst h1; exact .inl ⟨h2, h3, h4⟩
        | succ i => exact .inr ⟨i, r, by simpa using h1, by omega, h3, h4⟩
      · rintro (⟨h1, h2, h3⟩ | ⟨i, r, h1, h2, h3, h4⟩)
        · exact ⟨0, x, rfl, h1, h2, h3⟩
        · exact ⟨i + 1, r, by simpa using h1, by omega, h3, h4⟩
    rw [hsplit, ← ih (k + 1)]
    rw [readyT]
    split
    · rename_i hc
      simp only [Bool.and_eq_true, Bool.not_eq_true', beq_iff_eq] at hc
      rw [List.mem_cons]
      constructor
      · rintro (rfl | h)
        · exact .inl ⟨rfl, hc⟩
        · exact .inr h
      · rintro (h | h)
        · exact .inl h.1
        · exact .inr h
    · rename_i hc
      simp only [Bool.and_eq_true, Bool.not_eq_true', beq_iff_eq] at hc
      constructor
      · exact .inr
      · rintro (⟨rfl, h⟩ | h)
        · exact absurd h hc
        · exact h
theorem after_spec {o : Oper} {listed : Array Bool} {lm : Nat} (h : Bits ops listed lm) : (rowOf pu ops o).after &&& lm = (rowOf pu ops o).after ↔ ∀ e ∈ o.after, Region.binds .any e = true → listed.getD e.on false = true := by
  constructor
  · intro ha e he hb
    rw [h.2]
    refine land_self ha ((testBit_maskOf _ _).2 ?_)
    exact List.mem_map.2 ⟨e, List.mem_filter.2 ⟨Array.mem_toList_iff.2 he, hb⟩, rfl⟩
  · intro ha
    refine Nat.eq_of_testBit_eq fun i => ?_
    rw [Nat.testBit_and]
    cases hb : (rowOf pu ops o).after.testBit i with
    | false => rfl
    | true =>
      obtain ⟨e, he, rfl⟩ := List.mem_map.1 ((testBit_maskOf _ _).1 hb)
      obtain ⟨he, hbind⟩ := List.mem_filter.1 he
      rw [← h.2, ha e (Array.mem_toList_iff.1 he) hbind]; rfl
theorem readyT_mem {listed : Array Bool} {lm j : Nat} (h : Bits ops listed lm) : j ∈ readyT lm (tabOf pu ops) 0 ↔ j ∈ Region.ready .any ops listed := by
  rw [mem_readyT, mem_ready]
  constructor
  · rintro ⟨i, r, h1, h2, h3, h4⟩
    obtain ⟨o, ho, rfl⟩ := tab_get h1
    have hij : i = j := by omega
    subst hij
    have hlt : i < ops.size := (Array.getElem?_eq_some_iff.1 ho).1
    exact ⟨(h.unlisted hlt).trans h3, o, ho, (after_spec h).1 h4⟩
  · rintro ⟨h0, o, ho, hall⟩
    have hlt : j < ops.size := (Array.getElem?_eq_some_iff.1 ho).1
    exact ⟨j, _, get_tab ho, by omega, (h.unlisted hlt).symm.trans h0, (after_spec h).2 hall⟩
theorem descT_spec {i : Nat} : ∀ (l : List Row) (k D : Nat), (∀ n, l[n]? = (tabOf pu ops)[k + n]?) → (∀ j, D.testBit j = true → j < ops.size) → Waits ops i (fun j => D.testBit j) → Waits ops i (fun j => (descT i l k D).testBit j) := by
  intro l
  induction l with
  | nil => intro k D _ _ h; exact h
  | cons r l ih =>
    intro k D hl hb h
    have h0 := hl 0
    simp only [List.getElem?_cons_zero, Nat.add_zero] at h0
    obtain ⟨o, ho, hr⟩ := tab_get h0.symm
    have hk : k < ops.size := (Array.getElem?_eq_some_iff.1 ho).1
    have hl' : ∀ n, l[n]? = (tabOf pu ops)[k + 1 + n]? := fun n => by have := hl (n + 1); simpa [Nat.add_assoc, Nat.add_comm 1 n] using this
    unfold descT
    split
    · exact ih (k + 1) _ hl' hb h
    · rename_i hne
      refine ih (k + 1) _ hl' (fun j hj => ?_) ?_
      · simp only [Nat.testBit_or, Nat.testBit_two_pow, Bool.or_eq_true, decide_eq_true_eq] at hj
        rcases hj with hj | rfl
        · exact hb j hj
        · exact hk
      intro X listed hd j o' ho' hX hp hR
      simp only [Nat.testBit_or, Nat.testBit_two_pow, Bool.or_eq_true, decide_eq_true_eq] at hR
      rcases hR with hR | rfl
      · exact h X listed hd j o' ho' hX hp hR
      · rw [ho] at ho'; cases ho'
        subst hr
        have hex : ∃ b, ((rowOf pu ops o).after &&& (D ||| 2 ^ i)).testBit b = true := by
          refine Classical.byContradiction fun hn => hne ?_
          rw [beq_iff_eq]
          refine Nat.eq_of_testBit_eq fun b => ?_
          rw [Nat.zero_testBit]
          cases hb : ((rowOf pu ops o).after &&& (D ||| 2 ^ i)).testBit b with
          | false => rfl
          | true => exact absurd ⟨b, hb⟩ hn
        obtain ⟨b, hb'⟩ := hex
        simp only [Nat.testBit_and, Nat.testBit_or, Nat.testBit_two_pow, Bool.and_eq_true, Bool.or_eq_true, decide_eq_true_eq] at hb'
        obtain ⟨hb1, hb2⟩ := hb'
        obtain ⟨e, he, rfl⟩ := List.mem_map.1 ((testBit_maskOf _ _).1 hb1)
        obtain ⟨he, hbind⟩ := List.mem_filter.1 he
        have hle := hp e (Array.mem_toList_iff.1 he) hbind
        rcases hb2 with hb2 | hb2
        · have hlt := hb _ hb2
          have ho2 : ops[e.on]? = some ops[e.on] := by simp [hlt]
          have hXe := hd.out _ _ ho hX e (Array.mem_toList_iff.1 he) hbind
          exact h X listed hd e.on _ ho2 hXe (fun e' he' hb' => hd.dn e.on _ ho2 hXe hle e' he' hb') hb2
        · exact hb2 ▸ hle
theorem waits_desc (i : Nat) : Waits ops i (fun j => (descT i (tabOf pu ops) 0 0).testBit j) :=
  descT_spec (pu := pu) _ 0 0 (fun n => by simp) (fun j h => by simp at h) (fun X listed _ j o _ _ _ h => by simp at h)
theorem allApartT_spec {m : Nat} {x : Row} : ∀ (l : List Row) (k : Nat), allApartT m x l k = true → ∀ (j : Nat) (r : Row), l[j]? = some r → m.testBit (k + j) = true ∨ apartR x r = true := by
  intro l
  induction l with
  | nil => intro k _ j r h; simp at h
  | cons y l ih =>
    intro k h j r hj
    simp only [allApartT, Bool.and_eq_true, Bool.or_eq_true] at h
    cases j with
    | zero => simp at hj; subst hj; exact h.1
    | succ j => have := ih (k + 1) h.2 j r (by simpa using hj); rwa [show k + (j + 1) = k + 1 + j by omega]
theorem conflictsT_spec {m : Nat} {x : Row} : ∀ (l : List Row) (k : Nat) (j : Nat) (r : Row), l[j]? = some r → m.testBit (k + j) = false → compat x.cls r.cls = false → k + j ∈ conflictsT m x l k := by
  intro l
  induction l with
  | nil => intro k j r h; simp at h
  | cons y l ih =>
    intro k j r hj hm hc
    rw [conflictsT]
    cases j with
    | zero => simp at hj; subst hj; rw [Nat.add_zero] at *; rw [if_pos (by simp [hm, hc])]; exact List.mem_cons_self
    | succ j =>
      have := ih (k + 1) j r (by simpa using hj) (by rwa [show k + 1 + j = k + (j + 1) by omega]) hc
      rw [show k + (j + 1) = k + 1 + j by omega]
      split
      · exact List.mem_cons_of_mem _ this
      · exact this
theorem conflictsT_mem {m : Nat} {x : Row} : ∀ (l : List Row) (k j : Nat), j ∈ conflictsT m x l k → ∃ n r, l[n]? = some r ∧ j = k + n ∧ compat x.cls r.cls = false := by
  intro l
  induction l with
  | nil => intro k j h; cases h
  | cons y l ih =>
    intro k j h
    rw [conflictsT] at h
    split at h
    · rename_i hc
      rcases List.mem_cons.1 h with rfl | h
      · refine ⟨0, y, rfl, rfl, ?_⟩
        simp only [Bool.and_eq_true, Bool.not_eq_true'] at hc
        exact hc.2
      · obtain ⟨n, r, h1, h2, h3⟩ := ih (k + 1) j h
        exact ⟨n + 1, r, by simpa using h1, by omega, h3⟩
    · obtain ⟨n, r, h1, h2, h3⟩ := ih (k + 1) j h
      exact ⟨n + 1, r, by simpa using h1, by omega, h3⟩
theorem sameTab_eq : ∀ (a b : List Row), sameTab a b = true → a = b
  | [], [], _ => rfl
  | [], _ :: _, h => by simp [sameTab] at h
  | _ :: _, [], h => by simp [sameTab] at h
  | x :: l, y :: m, h => by
    simp only [sameTab, Bool.and_eq_true, beq_iff_eq] at h
    obtain ⟨⟨⟨⟨h1, h2⟩, h3⟩, h4⟩, h5⟩ := h
    obtain ⟨a, b, c, d⟩ := x
    obtain ⟨a', b', c', d'⟩ := y
    simp only at h1 h2 h3 h4
    subst h1; subst h2; subst h3; subst h4
    rw [sameTab_eq l m h5]
end
section
variable {P : Program} {pu : Pu} {ops : Array Oper} {PS PS' : PL} {fr fr' : Fr} {o : Oper} {K : Fr → PL → Prop}
def chkL (P : Program) (pu : Pu) (ops : Array Oper) (L : Pend) : Chk := fun j fr PS => ∀ q ∈ L, j ∈ q.2 → hre P pu ops q.1 fr PS
/-- What is pending was done by what only computes, and nothing that only computes hurts it. -/
def PendOk (pu : Pu) (ops : Array Oper) (L : Pend) : Prop := ∀ q ∈ L, ∃ o, ops[q.1]? = some o ∧ clsD pu o ≤ 2 ∧ ∀ j ∈ q.2, ∃ oj, ops[j]? = some oj ∧ 2 < clsD pu oj

theorem hres'_spec {A : Prop} : ∀ (cs : List Nat), hres' P pu ops fr PS A cs → A ∧ ∀ i ∈ cs, hre P pu ops i fr PS
  | [], h => ⟨h, by simp⟩
  | i :: cs, h => by
    obtain ⟨h1, h2⟩ := hres'_spec cs h.2
    refine ⟨h1, fun j hj => ?_⟩
    rcases List.mem_cons.1 hj with rfl | hj
    · exact h.1
    · exact h2 j hj
theorem hre_put {i : Nat} {d : Option Tmp} {v : HV} (ho : ops[i]? = some o) (hc : clsD pu o ≤ 2) (h : ∀ t, d = some t → t ∉ o.looksAt ops) (h2 : ∀ t, d = some t → o.dst ≠ some t) (hr : hre P pu ops i (hput fr d v) PS) : hre P pu ops i fr PS := by
  unfold hre at *
  simp only [ho] at *
  rw [hv1_put hc h] at hr
  refine hv1_mono (fun u hu => ?_) hr
  unfold hsame at *
  cases hd : o.dst with
  | none => trivial
  | some t =>
    rw [hd] at hu
    simp only at hu ⊢
    cases d with
    | none => exact hu
    | some d =>
      have hne : d ≠ t := fun e => h2 d rfl (by rw [hd, e])
      simpa [get, hput, List.getD, List.getElem?_set_ne hne] using hu

theorem hplan_sound {X : Nat → Bool} : ∀ (p : Plan) (L : Pend) (n : Nat) (listed : Array Bool) (lm : Nat) (rest : Option (List Nat)) (fr : Fr) (PS : PL), planOk (tabOf pu ops) p L n lm rest = true → Bits ops listed lm → hplan P pu ops K p fr PS → DownX X ops listed → PendOk pu ops L →
    (rest = none → hany P pu ops (chkL P pu ops L) K n listed fr PS) ∧
    (∀ r, rest = some r → ∀ i ∈ r, ∃ m, n = m + 1 ∧ (i ∈ Region.ready .any ops listed → hstep P pu ops i (fun fr PS => chkL P pu ops L i fr PS ∧ hany P pu ops (chkL P pu ops L) K m (listed.setIfInBounds i true) fr PS) fr PS)) := by
  intro p
  induction p with
  | done =>
    intro L n listed lm rest fr PS hok hbits h hd hL
    simp only [planOk, Bool.and_eq_true, Option.isNone_iff_eq_none, List.isEmpty_iff] at hok
    obtain ⟨rfl, hr⟩ := hok
    refine ⟨fun _ => hany_done ?_ h, fun r hr => by cases hr⟩
    refine List.eq_nil_iff_forall_not_mem.2 fun j hj => ?_
    rw [← readyT_mem (pu := pu) hbits, hr] at hj
    cases hj
  | none =>
    intro L n listed lm rest fr PS hok hbits h hd hL
    simp only [planOk, beq_iff_eq] at hok
    subst hok
    refine ⟨fun h => ?_, fun r hr i hi => ?_⟩
    · cases h
    · cases hr; cases hi
  | one i p ih =>
    intro L n listed lm rest fr PS hok hbits h hd hL
    cases n with
    | zero => simp [planOk] at hok
    | succ n =>
      simp only [planOk] at hok
      cases hx : (tabOf pu ops)[i]? with
      | none => rw [hx] at hok; cases hok
      | some x =>
        rw [hx] at hok
        obtain ⟨oi, hoi, rfl⟩ := tab_get hx
        have hilt : i < ops.size := (Array.getElem?_eq_some_iff.1 hoi).1
        simp only [Bool.and_eq_true, Option.isNone_iff_eq_none, decide_eq_true_eq, Bool.not_eq_true', beq_iff_eq] at hok
        obtain ⟨⟨⟨⟨⟨rfl, hlm, haft⟩, hc⟩, hun⟩, hap⟩, hrest⟩ := hok
        have hrdy : i ∈ Region.ready .any ops listed := mem_ready.2 ⟨(hbits.unlisted hilt).trans hlm, oi, hoi, (after_spec hbits).1 haft⟩
        have hc : clsD pu oi ≤ 2 := hc
        refine ⟨fun _ => ?_, fun r hr => by cases hr⟩
        simp only [hplan, hone1, hoi] at h
        obtain ⟨z, hz, hp⟩ := hv1_wit (K := fun v => hplan P pu ops K p (hput fr oi.dst v) PS) h
        have hz' := hv1_mono (K' := fun v => hput fr oi.dst v = hput fr oi.dst z) (fun v hv => by rw [hv]) hz
        have hinv : ∀ (j : Nat) (fr : Fr) (PS : PL) (v : HV), chkL P pu ops L j (hput fr oi.dst v) PS → chkL P pu ops L j fr PS := by
          intro j fr PS v hk q hq hj
          obtain ⟨o, ho, hco, _⟩ := hL q hq
          have hu := List.all_eq_true.1 hun q hq
          rw [get_tab ho] at hu
          simp only [Bool.and_eq_true, beq_iff_eq, rowOf] at hu
          refine hre_put ho hco (fun t ht hm => ?_) (fun t ht he => ?_) (hk q hq hj)
          · have hb : (maskOf oi.dst.toList).testBit t = true := (testBit_maskOf _ _).2 (by simp [ht])
            have := land_zero hu.1 hb
            rw [(testBit_maskOf _ _).2 hm] at this; cases this
          · have hb : (maskOf oi.dst.toList).testBit t = true := (testBit_maskOf _ _).2 (by simp [ht])
            have := land_zero hu.2 hb
            rw [(testBit_maskOf _ _).2 (by simp [he])] at this; cases this
        have hchi : ∀ fr PS, chkL P pu ops L i fr PS := by
          intro fr PS q hq hi
          obtain ⟨o, ho, hco, hS⟩ := hL q hq
          obtain ⟨oj, hoj, hlt⟩ := hS i hi
          rw [hoi] at hoj; cases hoj
          omega
        have hcond : ∀ j oj, ops[j]? = some oj → j ≠ i → listed.getD j true = false → (descT i (tabOf pu ops) 0 0).testBit j = true ∨ (oi.apart ops oj = true ∧ (compat (clsD pu oi) (clsD pu oj) = true ∨ j ∈ conflictsT (lm ||| (2 ^ i ||| descT i (tabOf pu ops) 0 0)) (rowOf pu ops oi) (tabOf pu ops) 0)) := by
          intro j oj hoj hji hjl
          have hjlt : j < ops.size := (Array.getElem?_eq_some_iff.1 hoj).1
          by_cases hr : (descT i (tabOf pu ops) 0 0).testBit j = true
          · exact .inl hr
          have hm : (lm ||| (2 ^ i ||| descT i (tabOf pu ops) 0 0)).testBit j = false := by
            rw [hbits.unlisted hjlt] at hjl
            have hne : ¬ i = j := fun e => hji e.symm
            simp [Nat.testBit_or, Nat.testBit_two_pow, hjl, hne, hr]
          refine .inr ⟨?_, ?_⟩
          · rcases allApartT_spec _ _ hap j _ (get_tab hoj) with ha | ha
            · rw [Nat.zero_add, hm] at ha; cases ha
            · exact apartR_spec ha
          · by_cases hcp : compat (clsD pu oi) (clsD pu oj) = true
            · exact .inl hcp
            · right
              have := conflictsT_spec (m := lm ||| (2 ^ i ||| descT i (tabOf pu ops) 0 0)) (x := rowOf pu ops oi) _ 0 j _ (get_tab hoj) (by rwa [Nat.zero_add]) (by simpa [rowOf] using hcp)
              rwa [Nat.zero_add] at this
        cases hS : conflictsT (lm ||| (2 ^ i ||| descT i (tabOf pu ops) 0 0)) (rowOf pu ops oi) (tabOf pu ops) 0 with
        | nil =>
          rw [hS] at hrest
          rw [hS] at hcond
          have H := (ih L n _ _ none _ PS hrest (hbits.set hilt) hp (hd.set hrdy) hL).1 rfl
          exact hany_first (S := []) (waits_desc (pu := pu) i) hoi hc hinv hchi (by simp) n listed fr PS hd hcond hrdy hz' (hany_chk (fun j fr PS h => ⟨h, fun hj => by cases hj⟩) _ _ _ _ H)
        | cons j S =>
          rw [hS] at hrest
          have hmem := fun k hk => conflictsT_mem (m := lm ||| (2 ^ i ||| descT i (tabOf pu ops) 0 0)) (x := rowOf pu ops oi) (tabOf pu ops) 0 k hk
          rw [hS] at hcond hmem
          simp only [Bool.and_eq_true, beq_iff_eq] at hrest
          obtain ⟨hself, hrest⟩ := hrest
          have hL' : PendOk pu ops ((i, j :: S) :: L) := by
            intro q hq
            rcases List.mem_cons.1 hq with rfl | hq
            · refine ⟨oi, hoi, hc, fun k hk => ?_⟩
              obtain ⟨n, r, h1, h2, h3⟩ := hmem k hk
              obtain ⟨ok, hok, rfl⟩ := tab_get h1
              rw [Nat.zero_add] at h2
              subst h2
              refine ⟨ok, hok, ?_⟩
              simp only [rowOf] at h3
              unfold compat at h3
              rcases Nat.lt_or_ge 2 (clsD pu ok) with h' | h'
              · exact h'
              · simp [h'] at h3
            · exact hL q hq
          have H := (ih _ n _ _ none _ PS hrest (hbits.set hilt) hp (hd.set hrdy) hL').1 rfl
          refine hany_first (S := j :: S) (waits_desc (pu := pu) i) hoi hc hinv hchi ?_ n listed fr PS hd hcond hrdy hz' (hany_chk (fun k fr PS h => ⟨fun q hq => h q (List.mem_cons_of_mem _ hq), fun hk => h (i, j :: S) List.mem_cons_self hk⟩) _ _ _ _ H)
          intro _ _ d hd hm
          have hb : (maskOf oi.dst.toList).testBit d = true := (testBit_maskOf _ _).2 (by simp [hd])
          have := land_zero hself hb
          rw [show (rowOf pu ops oi).looks = maskOf (oi.looksAt ops) from rfl, (testBit_maskOf _ _).2 hm] at this; cases this
  | late J dp p1 p2 _ _ =>
    intro L n listed lm rest fr PS hok hbits h hd hL
    cases n <;> simp [planOk] at hok
  | alt i cs p q ihp ihq =>
    intro L n listed lm rest fr PS hok hbits h hd hL
    cases n with
    | zero => simp [planOk] at hok
    | succ n =>
      simp only [planOk, Bool.and_eq_true, List.contains_iff_mem, decide_eq_true_eq] at hok
      obtain ⟨⟨⟨⟨hri, hilt⟩, hcs⟩, hp⟩, hq⟩ := hok
      have hilt : i < ops.size := by simpa [tabOf] using hilt
      simp only [hplan] at h
      have Hq := (ihq L (n + 1) listed lm _ fr PS hq hbits h.2 hd hL).2 _ rfl
      have main : ∀ k ∈ rest.getD (readyT lm (tabOf pu ops) 0), ∃ m, n + 1 = m + 1 ∧ (k ∈ Region.ready .any ops listed → hstep P pu ops k (fun fr PS => chkL P pu ops L k fr PS ∧ hany P pu ops (chkL P pu ops L) K m (listed.setIfInBounds k true) fr PS) fr PS) := by
        intro k hk
        by_cases hki : k = i
        · subst hki
          refine ⟨n, rfl, fun hkr => hstep_mono (fun fr PS hh => ?_) h.1⟩
          obtain ⟨h1, h2⟩ := hres'_spec cs hh
          refine ⟨fun q hq hj => ?_, (ihp L n _ _ none fr PS hp (hbits.set hilt) h1 (hd.set hkr) hL).1 rfl⟩
          have := List.all_eq_true.1 hcs q hq
          simp only [Bool.or_eq_true, Bool.not_eq_true', List.contains_iff_mem] at this
          rcases this with h' | h'
          · simp [hj] at h'
          · exact h2 _ h'
        · exact Hq k ((List.mem_erase_of_ne hki).2 hk)
      refine ⟨?_, ?_⟩
      · rintro rfl
        refine ⟨fun h0 => ?_, fun k hk => ?_⟩
        · simp only [Option.getD_none] at hri
          rw [readyT_mem hbits, h0] at hri; cases hri
        · obtain ⟨m, hm, hh⟩ := main k ((readyT_mem hbits).2 hk)
          cases hm
          exact hh hk
      · rintro r rfl k hk
        exact main k hk

variable {F : Nat → Prop} {e0 : List Pos} {D0 : Nat → Nat → Prop} {w0 : World}
theorem wpOp_of_hstep {i : Nat} {K : Fr → PL → Prop} {a : Act} {w : World} {Q : Exit → Act → World → Prop} {X : Act → World → Prop} (hX : ∀ fr PS a w, K fr PS → St F e0 D0 w0 fr PS a w → X a w)
    (h : hstep P pu ops i K fr PS) (hst : St F e0 D0 w0 fr PS a w) : wpOp P ops Q i X a w := by
  unfold hstep at h
  unfold wpOp
  cases ho : ops[i]? with
  | none => rw [ho] at h; exact hX _ _ _ _ h hst
  | some o =>
    rw [ho] at h
    simp only at h ⊢
    have main : hopD P pu o fr PS (fun v PS' => K (hput fr o.dst v) PS') → o.wp P a w X Q := fun hh =>
      Oper.wp_mono (fun a w ⟨v, PS', h1, h2⟩ => hX _ _ _ _ h1 h2) (hop_sound o fr PS _ F e0 D0 w0 a w Q (hopD_hop hh) hst)
    unfold hgd at h
    cases hg : o.guard with
    | none =>
      rw [hg] at h
      simp only [Region.wanted, hg, if_true]
      exact .inl (main h)
    | some g =>
      obtain ⟨j, want⟩ := g
      rw [hg] at h
      simp only at h
      cases hv : guardVal ops fr j with
      | bool b =>
        rw [hv] at h
        have hy := yielded_of_guard hst hv
        simp only [Region.wanted, hg, hy]
        by_cases hb : b = want
        · subst hb
          simp only [beq_self_eq_true, if_true]
          exact .inl (main (h.1 rfl))
        · have : (some b == some want) = false := by simpa using hb
          rw [this]
          simp only [Bool.false_eq_true, if_false]
          refine hX _ _ _ _ (h.2 hb) ?_
          obtain ⟨hd, e, D, h1, h2, h3⟩ := hst
          refine ⟨?_, e, D, h1, h2.put o.dst (.cst _), h3⟩
          cases o.dst <;> exact hd
      | cst v =>
        rw [hv] at h
        cases v with
        | tuple u =>
          have hy := yielded_of_skip hst hv
          have : (none == some want) = false := rfl
          simp only [Region.wanted, hg, hy, this, Bool.false_eq_true, if_false]
          refine hX _ _ _ _ h ?_
          obtain ⟨hd, e, D, h1, h2, h3⟩ := hst
          refine ⟨?_, e, D, h1, h2.put o.dst (.cst _), h3⟩
          cases o.dst <;> exact hd
        | _ => exact h.elim
      | _ => rw [hv] at h; exact h.elim
theorem wpAny_of_hany {chk : Chk} {Q : Exit → Act → World → Prop} (hQ : ∀ fr PS a w, K fr PS → St F e0 D0 w0 fr PS a w → Q .normal a w) : ∀ (n : Nat) (listed : Array Bool) (fr : Fr) (PS : PL) (a : Act) (w : World),
    hany P pu ops chk K n listed fr PS → St F e0 D0 w0 fr PS a w → wpAny P .any ops Q n listed a w := by
  intro n
  induction n with
  | zero => intro listed fr PS a w h hst; exact ⟨h.1, hQ _ _ _ _ h.2 hst⟩
  | succ n ih =>
    intro listed fr PS a w h hst
    exact ⟨fun h0 => hQ _ _ _ _ (h.1 h0) hst, fun i hi => wpOp_of_hstep (fun fr PS a w hk hst => ih _ _ _ _ _ hk.2 hst) (h.2 i hi) hst⟩
theorem down_none : DownX (fun _ => false) ops (Array.replicate ops.size false) := by
  refine ⟨fun j h => (by cases h), fun _ _ _ _ _ _ _ => rfl, ?_⟩
  intro j o ho _ hl
  have : j < ops.size := (Array.getElem?_eq_some_iff.1 ho).1
  simp [this] at hl
theorem St.drew {a : Act} {w w' : World} (h : St F e0 D0 w0 fr PS a w) (hh : w'.heap = w.heap) (ho : w'.os = w.os) (ht : w'.tape = w.tape) (hu : w'.output = w.output) : St F e0 D0 w0 fr PS a w' := by
  obtain ⟨hd, e, D, hr, hf, htr⟩ := h
  have ht' : Tr e D w e D w' := ⟨ho, ht, hu, by rw [hh]; exact Nat.le_refl _, fun b _ _ => by rw [hh], fun i b h => .inl ⟨i, h⟩, .refl e⟩
  refine ⟨hd, e, D, ?_, hf.mono ht'.stays (.refl e), htr.trans ht'⟩
  exact hr.next ht' hr.len (fun i b hb => ⟨(hr.out i b hb).1, by rw [hh]; exact (hr.out i b hb).2.1, (hr.out i b hb).2.2⟩) hr.apart (fun i q p hq hp => .inl ⟨hq, hp, fun _ => Iff.rfl, fun b hb => by rw [hh]⟩)
end
end Go.Eng
