/-
  Equality of structs and arrays of plain cells: cell by cell.
  No conditions.
-/
import Derived.Test.YtmnhpggplblbgaaGreatEngC
import Derived.DeepKeys
import Derived.Laws.StructEq
namespace Go.Eng
open Go
set_option linter.unusedSectionVars false
variable [Toks]
set_option linter.unusedSimpArgs false

abbrev Cells := List (Nat × Nat)
def eqFs (f : TypeId → Option Cells) : List Field → Option Cells
  | [] => some []
  | fd :: fs => if fd.name = "_" then none else
    match f fd.type, eqFs f fs with
    | some l, some m => some (l.map (fun p => (fd.offset + p.1, p.2)) ++ m)
    | _, _ => none
def eqEs (sz : Nat) (l : Cells) : List Nat → Cells
  | [] => []
  | i :: is => l.map (fun p => (i * sz + p.1, p.2)) ++ eqEs sz l is
def eqChk (P : Program) (t : TypeId) (l : Cells) : Option Cells := if l.all (fun p => decide (p.1 < P.cellsOf t)) && (P.info? t).isSome then some l else none
/-- The plain cells of a type: place, and kind (0 bool, 1 integer, 2 string). -/
def eqK (P : Program) : Nat → TypeId → Option Cells
  | 0, _ => none
  | m + 1, t =>
    match P.underlying t with
    | some .bool => some [(0, 0)]
    | some (.int _) => some [(0, 1)]
    | some .string => some [(0, 2)]
    | some (.struct fs) => if P.stoodInHeld t then none else (eqFs (eqK P m) fs.toList).bind (eqChk P t)
    | some (.array n e) => ((eqK P m e).map fun l => eqEs (P.cellsOf e) l (List.range n)).bind (eqChk P t)
    | _ => none
def Fits : Nat → Value → Value → Prop
  | 0, .bool _, .bool _ => True
  | 1, .int k _, .int k' _ => k = k'
  | 2, .string _, .string _ => True
  | _, _, _ => False
def veq : Value → Value → Bool
  | .bool a, .bool b => a == b
  | .int _ a, .int _ b => a == b
  | .string a, .string b => a.toList == b.toList
  | _, _ => false
def vAt (xs : Array Value) (i : Nat) : Value := xs.getD i undef
def FitsAt (off : Nat) (ps : Cells) (xs ys : Array Value) : Prop := ∀ p ∈ ps, off + p.1 < xs.size ∧ off + p.1 < ys.size ∧ Fits p.2 (vAt xs (off + p.1)) (vAt ys (off + p.1))
def allAt (off : Nat) (ps : Cells) (xs ys : Array Value) : Bool := ps.all fun p => veq (vAt xs (off + p.1)) (vAt ys (off + p.1))

section
variable {P : Program}
def AggEq (P : Program) (m : Nat) : Prop := ∀ (c : Nat) (t : TypeId) (ps : Cells) (w : World) (xs ys : Array Value), eqK P m t = some ps → (match P.underlying t with | some (.struct _) | some (.array _ _) => True | _ => False) →
  FitsAt 0 ps xs ys → (Op.equalIn (c + m) t (.agg xs) (.agg ys)).run P w = .ok (allAt 0 ps xs ys) w
theorem eqChk_some {t : TypeId} {l ps : Cells} (h : eqChk P t l = some ps) : l = ps ∧ (∀ p ∈ ps, p.1 < P.cellsOf t) ∧ ∃ i, P.info? t = some i := by
  unfold eqChk at h
  split at h
  · rename_i hh
    cases h
    simp only [Bool.and_eq_true, List.all_eq_true, decide_eq_true_eq] at hh
    exact ⟨rfl, hh.1, Option.isSome_iff_exists.1 hh.2⟩
  · cases h
/-- A part: the same, at a place. -/
theorem run_partEq {m : Nat} (hm : AggEq P m) {c : Nat} {t : TypeId} {ps : Cells} {w : World} {xs ys : Array Value} {off : Nat} (h : eqK P m t = some ps) (hf : FitsAt off ps xs ys) :
    ∃ a b, (part t xs off).run P w = .ok a w ∧ (part t ys off).run P w = .ok b w ∧ (Op.equalIn (c + m) t a b).run P w = .ok (allAt off ps xs ys) w := by
  cases m with
  | zero => cases h
  | succ m =>
    have plain : ∀ (d : TypeDesc) (k : Nat), P.underlying t = some d → isAggD d = false → ps = [(0, k)] →
        (∀ a b, Fits k a b → (Op.equalIn (c + (m + 1)) t a b).run P w = .ok (veq a b) w) →
        ∃ a b, (part t xs off).run P w = .ok a w ∧ (part t ys off).run P w = .ok b w ∧ (Op.equalIn (c + (m + 1)) t a b).run P w = .ok (allAt off ps xs ys) w := by
      intro d k hd ha hp he
      subst hp
      obtain ⟨h1, h2, h3⟩ := hf (0, k) (by simp)
      simp only [Nat.add_zero] at h1 h2 h3
      refine ⟨vAt xs off, vAt ys off, ?_, ?_, ?_⟩
      · simp [part, run_isAgg hd, ha, vAt, h1]
      · simp [part, run_isAgg hd, ha, vAt, h2]
      · rw [he _ _ h3]; simp [allAt]
    have agg : ∀ (d : TypeDesc), P.underlying t = some d → isAggD d = true → (match P.underlying t with | some (.struct _) | some (.array _ _) => True | _ => False) → (∃ i, P.info? t = some i) → (∀ p ∈ ps, p.1 < P.cellsOf t) →
        ∃ a b, (part t xs off).run P w = .ok a w ∧ (part t ys off).run P w = .ok b w ∧ (Op.equalIn (c + (m + 1)) t a b).run P w = .ok (allAt off ps xs ys) w := by
      intro d hd ha hw ⟨i, hi⟩ hlt
      have hsz : P.cellsOf t = i.size := by simp [Program.cellsOf, hi]
      have hat : ∀ (zs : Array Value) (p : Nat × Nat), p ∈ ps → off + p.1 < zs.size → p.1 < (zs.extract off (off + i.size)).size ∧ vAt (zs.extract off (off + i.size)) (0 + p.1) = vAt zs (off + p.1) := by
        intro zs p hp hz
        have := hlt p hp
        refine ⟨by simp; omega, ?_⟩
        simp only [vAt, Array.getD_eq_getD_getElem?, Nat.zero_add]
        rw [Array.getElem?_extract]
        rw [if_pos (by omega)]
      refine ⟨.agg (xs.extract off (off + i.size)), .agg (ys.extract off (off + i.size)), ?_, ?_, ?_⟩
      · simp [part, run_isAgg hd, ha, run_sizeOf' hi]
      · simp [part, run_isAgg hd, ha, run_sizeOf' hi]
      · rw [hm c t ps w _ _ h hw (fun p hp => ?_)]
        · congr 1
          unfold allAt
          rw [Bool.eq_iff_iff, List.all_eq_true, List.all_eq_true]
          have e : ∀ p ∈ ps, veq (vAt (xs.extract off (off + i.size)) (0 + p.1)) (vAt (ys.extract off (off + i.size)) (0 + p.1)) = veq (vAt xs (off + p.1)) (vAt ys (off + p.1)) := fun p hp => by
            obtain ⟨h1, h2, _⟩ := hf p hp
            rw [(hat xs p hp h1).2, (hat ys p hp h2).2]
          exact ⟨fun H p hp => (e p hp) ▸ H p hp, fun H p hp => (e p hp).symm ▸ H p hp⟩
        · obtain ⟨h1, h2, h3⟩ := hf p hp
          refine ⟨by simpa using (hat xs p hp h1).1, by simpa using (hat ys p hp h2).1, ?_⟩
          rw [(hat xs p hp h1).2, (hat ys p hp h2).2]; exact h3
    have h0 := h
    unfold eqK at h
    split at h
    · rename_i hu
      refine plain _ 0 hu rfl (by cases h; rfl) fun a b hab => ?_
      cases a <;> cases b <;> first | exact hab.elim | exact run_equalIn_bool' w (c + m) t _ _ hu
    · rename_i k hu
      refine plain _ 1 hu rfl (by cases h; rfl) fun a b hab => ?_
      cases a <;> cases b <;> first | exact hab.elim | skip
      obtain rfl := hab
      exact run_equalIn_int w (c + m) t _ k _ _ hu
    · rename_i hu
      refine plain _ 2 hu rfl (by cases h; rfl) fun a b hab => ?_
      cases a <;> cases b <;> first | exact hab.elim | exact run_equalIn_string w (c + m) t _ _ hu
    · rename_i fs hu
      split at h
      · cases h
      · simp only [Option.bind_eq_some_iff] at h
        obtain ⟨l, _, h2⟩ := h
        obtain ⟨rfl, h3, h4⟩ := eqChk_some h2
        exact agg _ hu rfl (by rw [hu]; trivial) h4 h3
    · rename_i n e hu
      simp only [Option.bind_eq_some_iff] at h
      obtain ⟨l, _, h2⟩ := h
      obtain ⟨rfl, h3, h4⟩ := eqChk_some h2
      exact agg _ hu rfl (by rw [hu]; trivial) h4 h3
    · cases h
theorem allAt_append (off : Nat) (l m : Cells) (xs ys : Array Value) : allAt off (l ++ m) xs ys = (allAt off l xs ys && allAt off m xs ys) := by simp [allAt]
theorem allAt_map (k : Nat) (l : Cells) (xs ys : Array Value) : allAt 0 (l.map fun p => (k + p.1, p.2)) xs ys = allAt k l xs ys := by
  simp only [allAt, List.all_map, Function.comp_def, Nat.zero_add]
theorem aggEq (P : Program) : ∀ m, AggEq P m
  | 0 => fun c t ps w xs ys h => by cases h
  | m + 1 => by
    intro c t ps w xs ys h hw hf
    have ih := aggEq P m
    unfold eqK at h
    split at h
    · rename_i hu; rw [hu] at hw; exact hw.elim
    · rename_i k hu; rw [hu] at hw; exact hw.elim
    · rename_i hu; rw [hu] at hw; exact hw.elim
    · rename_i fs hu
      split at h
      · cases h
      rename_i hst
      simp only [Option.bind_eq_some_iff] at h
      obtain ⟨l, h1, h2⟩ := h
      obtain ⟨rfl, h3, h4⟩ := eqChk_some h2
      have hfs : P.fieldsOf t = fs := by simp [Program.fieldsOf, hu]
      rw [show c + (m + 1) = (c + m) + 1 from rfl, run_equalIn_struct w (c + m) t xs ys (by rw [hfs]; exact hu) (by simpa using hst), hfs]
      clear h2 h3 h4 hfs hu
      generalize fs.toList = fl at h1
      induction fl generalizing l with
      | nil => cases h1; simp [Op.eqFields, allAt]
      | cons f fl ihf =>
        simp only [eqFs] at h1
        split at h1
        · cases h1
        rename_i hn
        split at h1
        · rename_i a b ha hb
          cases h1
          have hfa : FitsAt f.offset a xs ys := fun p hp => by
            have := hf (f.offset + p.1, p.2) (by simp; exact .inl hp)
            simpa using this
          obtain ⟨u, v, p1, p2, p3⟩ := run_partEq ih (c := c) (w := w) ha hfa
          have := ihf b (fun p hp => hf p (by simp [hp])) hb
          rw [allAt_append, allAt_map]
          simp only [Op.eqFields, hn, ne_eq, not_false_eq_true, if_true, Sem.run_bind, p1, p2, p3, Result.andThen_ok]
          cases allAt f.offset a xs ys
          · simp
          · simpa using this
        · cases h1
    · rename_i n e hu
      simp only [Option.bind_eq_some_iff, Option.map_eq_some_iff] at h
      obtain ⟨l, ⟨a, ha, rfl⟩, h2⟩ := h
      obtain ⟨rfl, h3, h4⟩ := eqChk_some h2
      have hinfo : ∃ i, P.info? e = some i := by
        cases hi : P.info? e with
        | some i => exact ⟨i, rfl⟩
        | none =>
          have : P.underlying e = none := by simp [Program.underlying, hi]
          cases m with
          | zero => cases ha
          | succ m => unfold eqK at ha; rw [this] at ha; cases ha
      obtain ⟨i, hi⟩ := hinfo
      have hsz : P.cellsOf e = i.size := by simp [Program.cellsOf, hi]
      rw [show c + (m + 1) = (c + m) + 1 from rfl, run_equalIn_array w (c + m) xs ys hu hi]
      clear h2 h3 h4
      rw [hsz] at hf ⊢
      generalize List.range n = is at hf
      induction is with
      | nil => simp [Op.eqItems, eqEs, allAt]
      | cons j is ihi =>
        simp only [eqEs] at hf ⊢
        have hfa : FitsAt (j * i.size) a xs ys := fun p hp => by
          have := hf (j * i.size + p.1, p.2) (by simp; exact .inl hp)
          simpa using this
        obtain ⟨u, v, p1, p2, p3⟩ := run_partEq ih (c := c) (w := w) ha hfa
        have := ihi (fun p hp => hf p (by simp [hp]))
        rw [allAt_append, allAt_map]
        simp only [Op.eqItems, Sem.run_bind, p1, p2, p3, Result.andThen_ok]
        cases allAt (j * i.size) a xs ys
        · simp
        · simpa using this
    · cases h
end
end Go.Eng
