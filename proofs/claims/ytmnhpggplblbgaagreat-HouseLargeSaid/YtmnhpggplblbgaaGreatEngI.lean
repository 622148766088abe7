/-
  The operations that make or write memory, and that their abstract meaning holds of the model.
  No conditions.
-/
import Derived.Test.YtmnhpggplblbgaaGreatEngH
import Derived.Laws.AppendOwn
namespace Go.Eng
open Go
set_option linter.unusedSectionVars false
variable [Toks]
set_option linter.unusedSimpArgs false

/-- Rows of s cells, as a list of the model's values. -/
structure RowsIn (M : Nat → Prop) (e : List Pos) (w : World) (s : Nat) (E : List (List HV)) (vs : List Value) : Prop where
  len : vs.length = E.length * s
  sz : ∀ r ∈ E, r.length = s
  one : ∀ v ∈ vs, v.oneCell' = true
  rel : ∀ (i : Nat) (r : List HV) (k : Nat) (y : HV), E[i]? = some r → r[k]? = some y → ∃ v, vs[i * s + k]? = some v ∧ VRel M e w y v

section
variable {M : Nat → Prop} {e : List Pos} {w : World} {s : Nat} {E N : List (List HV)} {vs ns : List Value}
theorem RowsIn.append (h : RowsIn M e w s E vs) (k : RowsIn M e w s N ns) : RowsIn M e w s (E ++ N) (vs ++ ns) where
  len := by simp [h.len, k.len, Nat.add_mul]
  sz := fun r hr => by rcases List.mem_append.1 hr with hr | hr; exact h.sz r hr; exact k.sz r hr
  one := fun v hv => by rcases List.mem_append.1 hv with hv | hv; exact h.one v hv; exact k.one v hv
  rel := fun i r j y hi hj => by
    by_cases hl : i < E.length
    · rw [List.getElem?_append_left hl] at hi
      obtain ⟨v, h1, h2⟩ := h.rel i r j y hi hj
      exact ⟨v, by rw [List.getElem?_append_left (List.getElem?_eq_some_iff.1 h1).1]; exact h1, h2⟩
    · rw [List.getElem?_append_right (by omega)] at hi
      obtain ⟨v, h1, h2⟩ := k.rel _ r j y hi hj
      refine ⟨v, ?_, h2⟩
      have : (i - E.length) * s = i * s - E.length * s := Nat.sub_mul _ _ _
      have h3 : E.length * s ≤ i * s := Nat.mul_le_mul_right _ (by omega)
      rw [List.getElem?_append_right (by rw [h.len]; omega), h.len, ← h1]
      congr 1; omega
theorem RowsIn.mono {M' : Nat → Prop} {e' : List Pos} {w' : World} (h : RowsIn M e w s E vs) (hs : Stays M w M' w') (he : EnvLe e e') : RowsIn M' e' w' s E vs :=
  ⟨h.len, h.sz, h.one, fun i r k y hi hk => by obtain ⟨v, h1, h2⟩ := h.rel i r k y hi hk; exact ⟨v, h1, h2.mono hs he⟩⟩
theorem RowsIn.take (h : RowsIn M e w s E vs) (n : Nat) (hn : n ≤ E.length) : RowsIn M e w s (E.take n) (vs.take (n * s)) where
  len := by
    have : n * s ≤ E.length * s := Nat.mul_le_mul_right _ hn
    simp [h.len, Nat.min_eq_left this, Nat.min_eq_left hn]
  sz := fun r hr => h.sz r (List.mem_of_mem_take hr)
  one := fun v hv => h.one v (List.mem_of_mem_take hv)
  rel := fun i r k y hi hk => by
    rw [List.getElem?_take] at hi
    split at hi
    · rename_i hlt
      obtain ⟨v, h1, h2⟩ := h.rel i r k y hi hk
      have hks : k < s := by rw [← h.sz r (List.mem_of_getElem? hi)]; exact (List.getElem?_eq_some_iff.1 hk).1
      have : (i + 1) * s ≤ n * s := Nat.mul_le_mul_right _ hlt
      rw [Nat.add_mul] at this
      exact ⟨v, by rw [List.getElem?_take_of_lt (by omega)]; exact h1, h2⟩
    · cases hi
theorem RowsIn.drop (h : RowsIn M e w s E vs) (n : Nat) : RowsIn M e w s (E.drop n) (vs.drop (n * s)) where
  len := by simp [h.len, Nat.sub_mul]
  sz := fun r hr => h.sz r (List.mem_of_mem_drop hr)
  one := fun v hv => h.one v (List.mem_of_mem_drop hv)
  rel := fun i r k y hi hk => by
    rw [List.getElem?_drop] at hi
    obtain ⟨v, h1, h2⟩ := h.rel _ r k y hi hk
    exact ⟨v, by rw [List.getElem?_drop, ← h1]; congr 1; rw [Nat.add_mul]; omega, h2⟩
theorem RowsIn.nil : RowsIn M e w s [] [] := ⟨by simp, by simp, by simp, by simp⟩
/-- One row. -/
theorem RowsIn.single {l : List HV} (hl : l.length = s) (hv : vs.length = s) (h1 : ∀ v ∈ vs, v.oneCell' = true) (hr : ∀ (k : Nat) (y : HV) (v : Value), l[k]? = some y → vs[k]? = some v → VRel M e w y v) : RowsIn M e w s [l] vs where
  len := by simp [hv]
  sz := by simpa using hl
  one := h1
  rel := fun i r k y hi hk => by
    cases i with
    | zero =>
      simp at hi; subst hi
      have hkl : k < vs.length := by rw [hv, ← hl]; exact (List.getElem?_eq_some_iff.1 hk).1
      exact ⟨vs[k], by simp [hkl], hr k y vs[k] hk (by simp [hkl])⟩
    | succ i => simp at hi
theorem RowsIn.replicate {l : List HV} (n : Nat) (h : RowsIn M e w s [l] vs) : RowsIn M e w s (List.replicate n l) (List.replicate n vs).flatten := by
  induction n with
  | zero => exact .nil
  | succ n ih =>
    rw [List.replicate_succ, List.replicate_succ, List.flatten_cons]
    exact RowsIn.append h ih
/-- What the piece's row wants. -/
theorem RowsIn.cells (h : RowsIn M e w s E vs) (pre post : List Value) : ∀ (i : Nat) (l : List HV) (k : Nat) (x : HV), E[i]? = some l → l[k]? = some x →
    ∃ u, (pre ++ vs ++ post).toArray[pre.length + i * s + k]? = some u ∧ u.oneCell' = true ∧ VRel M e w x u := fun i l k x hi hk => by
  obtain ⟨v, h1, h2⟩ := h.rel i l k x hi hk
  have hlt := (List.getElem?_eq_some_iff.1 h1).1
  refine ⟨v, ?_, h.one v (List.mem_of_getElem? h1), h2⟩
  simp only [List.getElem?_toArray]
  rw [List.append_assoc, List.getElem?_append_right (by omega), List.getElem?_append_left (by omega), ← h1]
  congr 1; omega
/-- The cells of a piece's row, parted. -/
theorem RowAt.split {opn : Bool} {b o cap : Nat} (h : RowAt M e w E opn b o s cap) : ∃ (cs : Array Value) (ty : TypeId) (pre vs post : List Value), w.heap[b]? = some (.cells cs ty (0, 0)) ∧ o + cap * s ≤ cs.size ∧
    cs.toList = pre ++ vs ++ post ∧ pre.length = o ∧ RowsIn M e w s E vs := by
  obtain ⟨hl, _, _, cs, ty, hb, hc, hsz, hcell⟩ := h
  have hle : E.length * s ≤ cap * s := Nat.mul_le_mul_right _ hl
  refine ⟨cs, ty, cs.toList.take o, (cs.toList.drop o).take (E.length * s), (cs.toList.drop o).drop (E.length * s), hb, hc, ?_, ?_, ?_, hsz, ?_, ?_⟩
  · rw [List.append_assoc, List.take_append_drop, List.take_append_drop]
  · simp; omega
  · simp; omega
  · intro v hv
    obtain ⟨j, hj, rfl⟩ := List.mem_iff_getElem.1 hv
    have hjl : j < E.length * s := by simp at hj; omega
    have hs0 : 0 < s := Nat.pos_of_ne_zero (by rintro rfl; simp at hjl)
    have hi : j / s < E.length := (Nat.div_lt_iff_lt_mul hs0).2 hjl
    have hr : (E[j / s]).length = s := hsz _ (List.getElem_mem hi)
    have hk : j % s < (E[j / s]).length := by rw [hr]; exact Nat.mod_lt _ hs0
    obtain ⟨u, h1, h2, _⟩ := hcell (j / s) E[j / s] (j % s) (E[j / s])[j % s] (by simp [hi]) (by simp [hk])
    have he : o + j / s * s + j % s = o + j := by rw [Nat.add_assoc, Nat.mul_comm, Nat.div_add_mod]
    rw [he] at h1
    have : ((cs.toList.drop o).take (E.length * s))[j] = u := by
      simp only [List.getElem_take, List.getElem_drop, Array.getElem_toList]
      have hlt := (Array.getElem?_eq_some_iff.1 h1)
      exact hlt.2
    rw [this]; exact h2
  · intro i r k y hi hk
    obtain ⟨u, h1, h2, h3⟩ := hcell i r k y hi hk
    have hks : k < s := by rw [← hsz r (List.mem_of_getElem? hi)]; exact (List.getElem?_eq_some_iff.1 hk).1
    have hil : i < E.length := (List.getElem?_eq_some_iff.1 hi).1
    have : (i + 1) * s ≤ E.length * s := Nat.mul_le_mul_right _ hil
    rw [Nat.add_mul] at this
    refine ⟨u, ?_, h3⟩
    rw [List.getElem?_take_of_lt (by omega), List.getElem?_drop]
    simpa [Nat.add_assoc] using h1
end
end Go.Eng
