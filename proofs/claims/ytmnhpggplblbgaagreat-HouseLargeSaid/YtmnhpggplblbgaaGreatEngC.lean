/-
  The abstract meaning of the operations that only compute, and of loads; that it holds of the model.
  No conditions.
-/
import Derived.Test.YtmnhpggplblbgaaGreatEngB
namespace Go.Eng
open Go
set_option linter.unusedSectionVars false
variable [Toks]

def isAggD : TypeDesc → Bool
  | .struct _ | .array _ _ => true
  | _ => false
/-- Is a type's value an aggregate; how many cells. -/
def tsz (P : Program) (t : TypeId) : Option (Bool × Nat) :=
  match P.underlying t, P.info? t with
  | some d, some i => some (isAggD d, i.size)
  | _, _ => none
def fldOf (P : Program) (t : TypeId) (f : Nat) : Option (Nat × Nat) :=
  match P.underlying t with
  | some (.struct fs) => match fs[f]? with
    | some x => match P.info? x.type with
      | some i => if i.size = 0 then none else some (x.offset, i.size)
      | none => none
    | none => none
  | _ => none
/-- Of a slice's type: the element's type and cells. -/
def slOf (P : Program) (t : TypeId) : Option (TypeId × Nat) :=
  match P.underlying t with
  | some (.slice e) => match P.info? e with
    | some i => some (e, i.size)
    | none => none
  | _ => none
def arOf (P : Program) (t : TypeId) : Option (Nat × TypeId × Nat) :=
  match P.underlying t with
  | some (.array n e) => match P.info? e with
    | some i => some (n, e, i.size)
    | none => none
  | _ => none
def getP (PS : PL) (n : Nat) : Piece := PS.getD n .dead

/-- The element i of a row. -/
def hrow (q : Piece) (ver i : Nat) (K : List HV → Prop) : Prop :=
  match q with
  | .arr ver' _ E _ => ver = ver' ∧ ∃ l, E[i]? = some l ∧ K l
  | _ => False
def hcells (PS : PL) (s : Nat) (K : List HV → Prop) : HV → Prop
  | .ptr n ver i k => hrow (getP PS n) ver i fun l => k + s ≤ l.length ∧ K ((l.drop k).take s)
  | .iptr l k => k + s ≤ l.length ∧ K ((l.drop k).take s)
  | _ => False
def hone (K : HV → Prop) : List HV → Prop
  | [x] => K x
  | _ => False
def hload (PS : PL) (x : HV) (K : HV → Prop) : Option (Bool × Nat) → Prop
  | some (true, s) => hcells PS s (fun l => K (.agg l)) x
  | some (false, _) => hcells PS 1 (hone K) x
  | none => False

theorem getP_some {PS : PL} {n : Nat} {q : Piece} (h : getP PS n = q) (hq : q ≠ .dead) : PS[n]? = some q := by
  unfold getP at h
  rw [List.getD_eq_getElem?_getD] at h
  cases hp : PS[n]? with
  | none => rw [hp] at h; exact absurd h.symm hq
  | some x => rw [hp] at h; exact congrArg some h

/-- What a live row's name means. -/
theorem Rel.row {F : Nat → Prop} {e : List Pos} {D : Nat → Nat → Prop} {PS : PL} {w : World} (h : Rel F e D PS w) {n ver sz : Nat} {E : List (List HV)} {opn : Bool}
    (hq : getP PS n = .arr ver sz E opn) (hE : opn = false ∨ E ≠ []) : ∃ p b o cap, e[n]? = some p ∧ p.ver = ver ∧ p.kind = .arr b o sz cap ∧ (∀ x, D n x ↔ x = b) ∧ RowAt (Mut F D) e w E opn b o sz cap := by
  have hp := getP_some hq (by simp)
  have hn : n < e.length := by
    rw [h.len]
    rcases Nat.lt_or_ge n PS.length with h' | h'
    · exact h'
    · simp [List.getElem?_eq_none h'] at hp
  have hpos : e[n]? = some e[n] := by simp [hn]
  have hh := h.holds n _ _ hp hpos
  unfold PHolds at hh
  cases hk : e[n].kind with
  | arr b o sz' cap =>
    simp only [hk] at hh
    obtain ⟨h1, rfl, h2, h3⟩ := hh
    exact ⟨e[n], b, o, cap, hpos, h1.symm, hk, h2, h3⟩
  | nil => simp only [hk] at hh; rcases hE with hE | hE; exact absurd (hh.2.2.1.symm.trans hE) (by simp); exact absurd hh.2.1 hE
  | root v => simp only [hk] at hh
  | dead => simp only [hk] at hh

theorem addr_add (b o k : Nat) : (⟨b, o, none⟩ : Addr).add k = ⟨b, o + k, none⟩ := by unfold Addr.add; split <;> simp_all

/-- The cells that an address names, in the model. -/
theorem hcells_sound {F : Nat → Prop} {e : List Pos} {D : Nat → Nat → Prop} {PS : PL} {w : World} (h : Rel F e D PS w) {s : Nat} {K : List HV → Prop} {x : HV} {u : Value}
    (hx : VRel (Mut F D) e w x u) (hc : hcells PS s K x) :
    ∃ (b o : Nat) (l : List HV) (f : Nat → Value), u = .pointer (some ⟨b, o, none⟩) ∧ K l ∧ l.length = s ∧ (∀ j, j < s → w.cell? ⟨b, o + j, none⟩ = some (f j)) ∧ ∀ (j : Nat) (y : HV), l[j]? = some y → VRel (Mut F D) e w y (f j) := by
  cases hx with
  | ptr n ver i k u p hp hv hh h1 =>
    simp only [hcells] at hc
    cases hq : getP PS n with
    | arr ver' sz E opn =>
      rw [hq] at hc
      obtain ⟨rfl, l, hl, hk, hK⟩ := hc
      have hE : E ≠ [] := by rintro rfl; simp at hl
      obtain ⟨p', b, o, cap, hp', hv', hkd, _, hrow⟩ := h.row hq (.inr hE)
      rw [hp] at hp'; cases hp'
      have hpt := hh hv'.symm
      rw [hkd] at hpt
      simp only [PtrAt] at hpt
      obtain ⟨cs, ty, hheap, _, hsz, hcell⟩ := hrow.row
      have hex : ∀ j, j < s → ∃ u, w.cell? ⟨b, o + i * sz + k + j, none⟩ = some u ∧ ∀ y, l[k + j]? = some y → VRel (Mut F D) e w y u := by
        intro j hj
        have hkj : k + j < l.length := by omega
        obtain ⟨u, hu, _, hr⟩ := hcell i l (k + j) l[k + j] hl (by simp [hkj])
        refine ⟨u, ?_, ?_⟩
        · rw [cell_of_row w b _ cs ty (0, 0) hheap, ← hu]; congr 1; omega
        · intro y hy; simp [hkj] at hy; subst hy; exact hr
      classical
      refine ⟨b, o + i * sz + k, (l.drop k).take s, fun j => if hj : j < s then Classical.choose (hex j hj) else undef, hpt, hK, by simp; omega, ?_, ?_⟩
      · intro j hj; simp only [dif_pos hj]; exact (Classical.choose_spec (hex j hj)).1
      · intro j y hy
        have hj : j < s := by
          rcases Nat.lt_or_ge j s with h' | h'
          · exact h'
          · rw [List.getElem?_eq_none (by simp; omega)] at hy; cases hy
        simp only [dif_pos hj]
        rw [List.getElem?_take_of_lt hj, List.getElem?_drop] at hy
        exact (Classical.choose_spec (hex j hj)).2 y hy
    | dead => rw [hq] at hc; exact hc.elim
    | map _ _ _ _ => rw [hq] at hc; exact hc.elim
    | iter _ _ _ _ _ => rw [hq] at hc; exact hc.elim
  | iptr l k b o val hb h1c hcell hval =>
    simp only [hcells] at hc
    obtain ⟨hk, hK⟩ := hc
    refine ⟨b, o + k, (l.drop k).take s, fun j => val (k + j), rfl, hK, by simp; omega, ?_, ?_⟩
    · intro j hj
      have hkj : k + j < l.length := by omega
      have := hcell (k + j) l[k + j] (by simp [hkj])
      rw [← this]; congr 2; omega
    · intro j y hy
      have hj : j < s := by
        rcases Nat.lt_or_ge j s with h' | h'
        · exact h'
        · rw [List.getElem?_eq_none (by simp; omega)] at hy; cases hy
      rw [List.getElem?_take_of_lt hj, List.getElem?_drop] at hy
      exact hval (k + j) y hy
  | _ => exact hc.elim

theorem run_isAgg {P : Program} {t : TypeId} {d : TypeDesc} (h : P.underlying t = some d) (w : World) : (isAgg t).run P w = .ok (isAggD d) w := by
  unfold isAgg
  rw [Sem.run_bind, run_underlying h w]
  cases d <;> simp [isAggD]
theorem run_sizeOf' {P : Program} {t : TypeId} {i : TypeInfo} (h : P.info? t = some i) (w : World) : (sizeOf t).run P w = .ok i.size w := by
  simp [sizeOf, typeInfo, h]

theorem hload_sound {P : Program} {F : Nat → Prop} {e : List Pos} {D : Nat → Nat → Prop} {PS : PL} {w : World} (h : Rel F e D PS w) {t : TypeId} {K : HV → Prop} {x : HV} {u : Value}
    (hx : VRel (Mut F D) e w x u) (hc : hload PS x K (tsz P t)) : ∃ y v, (Instr.loadAt t u).run P w = .ok v w ∧ VRel (Mut F D) e w y v ∧ K y := by
  unfold tsz at hc
  cases hu : P.underlying t with
  | none => simp [hu, hload] at hc
  | some d =>
    cases hi : P.info? t with
    | none => simp [hu, hi, hload] at hc
    | some i =>
      simp only [hu, hi] at hc
      cases hd : isAggD d with
      | true =>
        rw [hd] at hc
        obtain ⟨b, o, l, f, rfl, hK, hl, hcell, hval⟩ := hcells_sound (s := i.size) (K := fun l => K (.agg l)) h hx hc
        refine ⟨.agg l, .agg (List.map f (List.range i.size)).toArray, ?_, ?_, hK⟩
        · have hrun := run_loadCells (P := P) (w := w) ⟨b, o, none⟩ i.size f (fun j hj => by rw [addr_add]; exact hcell j hj)
          simp only [Instr.loadAt, Instr.sureAddr, loadVar, Sem.run_bind, Sem.run_pure, Result.andThen_ok, run_isAgg hu, hd, if_true, run_sizeOf' hi, hrun]
        · refine .agg l _ (by simp [hl]) fun j y v hy hv => ?_
          have hj : j < i.size := by
            rcases Nat.lt_or_ge j i.size with h' | h'
            · exact h'
            · rw [List.getElem?_eq_none (by omega)] at hy; cases hy
          simp [hj] at hv
          subst hv
          exact hval j y hy
      | false =>
        rw [hd] at hc
        obtain ⟨b, o, l, f, rfl, hK, hl, hcell, hval⟩ := hcells_sound (s := 1) (K := hone K) h hx hc
        match l, hl with
        | [y], _ =>
          refine ⟨y, f 0, ?_, hval 0 y rfl, hK⟩
          have hc0 := hcell 0 (by omega)
          simp only [Nat.add_zero] at hc0
          simp only [Instr.loadAt, Instr.sureAddr, loadVar, Sem.run_bind, Sem.run_pure, Result.andThen_ok, run_isAgg hu, hd, Bool.false_eq_true, if_false, load, Sem.run, hc0]
end Go.Eng
