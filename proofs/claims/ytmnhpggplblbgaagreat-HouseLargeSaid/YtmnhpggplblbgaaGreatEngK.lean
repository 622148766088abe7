/-
  Made slices, slice literals, strings as bytes.
  No conditions.
-/
import Derived.Test.YtmnhpggplblbgaaGreatEngJ
import Derived.Laws.MakeOwn
namespace Go.Eng
open Go
set_option linter.unusedSectionVars false
variable [Toks]
set_option linter.unusedSimpArgs false

section
variable {P : Program} {F : Nat → Prop} {e e0 : List Pos} {D D0 : Nat → Nat → Prop} {PS PS' : PL} {w w0 w' : World} {fr : Fr} {a : Act} {o : Oper} {K : HV → PL → Prop} {Q : Exit → Act → World → Prop} {M : Nat → Prop}

theorem made_rows (z : Array Value) {s : Nat} (hs : z.size = s) (h0 : 0 < s) (h1 : ∀ v ∈ z.toList, v.oneCell' = true) (n : Nat) :
    RowsIn M e w s (List.replicate n (z.toList.map ofV)) (madeCells z (n * s)).toList where
  len := by simp [size_madeCells]
  sz := fun r hr => by rw [(List.mem_replicate.1 hr).2]; simp [hs]
  one := fun v hv => by
    obtain ⟨j, hj, rfl⟩ := List.mem_iff_getElem.1 hv
    have : j % z.size < z.size := Nat.mod_lt _ (by omega)
    simp only [madeCells, Array.getElem_toList, Array.getElem_map, Array.getElem_range]
    rw [getElem!_pos z _ this]
    exact h1 _ (Array.getElem_mem_toList this)
  rel := fun i r k y hi hk => by
    have hr := (List.mem_replicate.1 (List.mem_of_getElem? hi))
    have hil : i < n := by have := (List.getElem?_eq_some_iff.1 hi).1; simpa using this
    obtain ⟨_, rfl⟩ := hr
    have hks : k < s := by have := (List.getElem?_eq_some_iff.1 hk).1; simpa [hs] using this
    rw [List.getElem?_map] at hk
    have hzk : z.toList[k]? = some z[k] := by simp [hs, hks]
    rw [hzk] at hk
    cases hk
    refine ⟨z[k], ?_, ofV_rel M e w _⟩
    have hlt : i * s + k < n * s := by
      have : (i + 1) * s ≤ n * s := Nat.mul_le_mul_right _ hil
      rw [Nat.add_mul] at this; omega
    have hmod : (i * s + k) % z.size = k := by rw [hs, Nat.add_comm, Nat.mul_comm, Nat.add_mul_mod_self_left, Nat.mod_eq_of_lt hks]
    simp only [madeCells, Array.getElem?_toList, Array.getElem?_map, Array.getElem?_range, if_pos hlt, Option.map_some, Option.some.injEq]
    rw [hmod, getElem!_pos z k (by omega)]

theorem sl_new {s b len cap : Nat} {cp : Option Nat} {M' : Nat → Prop} (hl : len ≤ cap) (hm : cap ≤ maxLen) (hc : match cp with | some c => cap = c | none => True) :
    VRel M' (e ++ [⟨0, .arr b 0 s cap⟩]) w' (.sl e.length 0 0 len cp) (.slice (some ⟨b, 0, none⟩) len cap) :=
  .sl e.length 0 0 len cp _ ⟨0, .arr b 0 s cap⟩ (by simp) (Nat.le_refl _) (fun _ => ⟨_, cap, rfl, hl, hm, by simp, by simp, by cases cp <;> simp_all⟩) rfl

theorem hmake_sound {t : TypeId} {x y : Operand} (ho : o.op = .makeSlice t x y) (h : St F e0 D0 w0 fr PS a w) (hc : hmake PS (ev fr x) (ev fr y) K (mkOf P t)) :
    o.wp P a w (fun a' w' => ∃ v PS', K v PS' ∧ St F e0 D0 w0 (hput fr o.dst v) PS' a' w') Q := by
  obtain ⟨hd, e, D, hr, hf, ht⟩ := h
  cases hm : mkOf P t with
  | none => rw [hm] at hc; exact hc.elim
  | some q =>
    obtain ⟨s, b, z⟩ := q
    rw [hm] at hc
    obtain ⟨el, i, zv, hu, hi, hz, hs, hb, hzs, hs0, rfl, h1⟩ := mkOf_some hm
    have hx := ev_rel hf x
    have hy := ev_rel hf y
    generalize ev fr x = xa at hc hx
    generalize ev fr y = ya at hc hy
    simp only [hmake] at hc
    unfold hmake2 at hc
    split at hc
    · rename_i l c
      generalize hxv : a.eval x = xv at hx
      generalize hyv : a.eval y = yv at hy
      cases hx; cases hy
      obtain ⟨g0, g1, g2, g3, hK⟩ := hc
      have hrun := run_make (P := P) w t el i zv hu hi hz .i64 .i64 l c g0 g1 (by rw [hb, Int.mul_comm]; omega) (by omega)
      have hrows := made_rows (M := Mut F D) (e := e) (w := w) zv.cells hzs hs0 h1 c.toNat
      have hadd := hr.addRows (post := []) el c.toNat false hrows (by simp) (by simp) (by simp [maxLen]; omega) (by simp [size_madeCells])
      rw [List.append_nil, Array.toArray_toList] at hadd
      have hp := sl_new (e := e) (w' := w.alloc (.cells (madeCells zv.cells (c.toNat * s)) el)) (M' := Mut F (addD D PS.length w.heap.size)) (s := s) (b := w.heap.size) (len := l.toNat) (cap := c.toNat) (cp := some c.toNat) (by omega) (by simp [maxLen]; omega) rfl
      rw [hr.len] at hp
      rw [hs] at hrun
      exact wp_of_value hd hf ht (by simp [execOp, ho, hxv, hyv, hrun]) hadd (Tr.add _ _ _) hp hK
    · exact hc.elim

/-- A block that nobody writes any more, as an immutable slice. -/
theorem imm_of_rows {s b c : Nat} {E : List (List HV)} {vs post : List Value} {ty : TypeId} {fz : Nat × Nat} (hr : RowsIn M e w s E vs) (hb : w.heap[b]? = some (.cells (vs ++ post).toArray ty fz)) (hM : ¬ M b)
    (t : Bool) (hc : E.length ≤ c) (hm : c ≤ maxLen) (ht : t = true → c = E.length) : VRel M e w (.imm t E) (.slice (some ⟨b, 0, none⟩) E.length c) := by
  have hex : ∀ i k, ∃ v : Value, v.oneCell' = true ∧ ∀ (r : List HV) (y : HV), E[i]? = some r → r[k]? = some y → vs[i * s + k]? = some v ∧ VRel M e w y v := by
    intro i k
    by_cases hx : ∃ (r : List HV) (y : HV), E[i]? = some r ∧ r[k]? = some y
    · obtain ⟨r, y, h1, h2⟩ := hx
      obtain ⟨v, h3, h4⟩ := hr.rel i r k y h1 h2
      refine ⟨v, hr.one v (List.mem_of_getElem? h3), fun r' y' h1' h2' => ?_⟩
      rw [h1] at h1'; cases h1'
      rw [h2] at h2'; cases h2'
      exact ⟨h3, h4⟩
    · exact ⟨.bool true, rfl, fun r y h1 h2 => absurd ⟨r, y, h1, h2⟩ hx⟩
  refine .imm t E _ c b 0 s (fun i k => Classical.choose (hex i k)) hc hm ht (by simp) (fun _ => rfl) (fun _ => ⟨hM, (Array.getElem?_eq_some_iff.1 hb).1⟩) hr.sz (fun i k => (Classical.choose_spec (hex i k)).1) ?_ ?_
  · intro i r k y hi hk
    have := ((Classical.choose_spec (hex i k)).2 r y hi hk).1
    rw [cell_of_row w b _ _ ty fz hb, Nat.zero_add]
    simp only [List.getElem?_toArray]
    rw [List.getElem?_append_left (List.getElem?_eq_some_iff.1 this).1]
    exact this
  · intro i r k y hi hk
    exact ((Classical.choose_spec (hex i k)).2 r y hi hk).2
end

/-- A slice literal: rows that are set. -/
def hfillr (s : Nat) (K : List (List HV) → Prop) : List (List HV) → List (Nat × HV) → Prop
  | E, [] => K E
  | E, (i, x) :: r => hst x fun l => l.length = s ∧ i < E.length ∧ hfillr s K (E.set i l) r
def hbsl (n : Nat) (parts : List (Nat × HV)) (K : HV → Prop) : Option (Nat × Nat × List HV) → Prop
  | some (s, _, z) => n * s ≤ 16777216 ∧ n ≤ 65536 ∧ hfillr s (fun E => K (.imm true E)) (List.replicate n z) parts
  | none => False

section
variable {P : Program} {F : Nat → Prop} {e e0 : List Pos} {D D0 : Nat → Nat → Prop} {PS PS' : PL} {w w0 w' : World} {fr : Fr} {a : Act} {o : Oper} {K : HV → PL → Prop} {Q : Exit → Act → World → Prop} {M : Nat → Prop}
theorem RowsIn.set {s i : Nat} {E : List (List HV)} {vs : List Value} {l : List HV} {ls : List Value} (h : RowsIn M e w s E vs) (hi : i < E.length) (hl : RowsIn M e w s [l] ls) :
    RowsIn M e w s (E.set i l) (hsplice (i * s) ls vs) := by
  have hls : ls.length = s := by have := hl.len; simpa using this
  have hle : (i + 1) * s ≤ E.length * s := Nat.mul_le_mul_right _ hi
  rw [Nat.add_mul] at hle
  have hfit : i * s + ls.length ≤ vs.length := by rw [h.len]; omega
  refine ⟨by rw [splice_len _ _ _ hfit]; simpa using h.len, fun r hr => ?_, fun v hv => ?_, fun i' r k y hi' hk => ?_⟩
  · rcases List.mem_or_eq_of_mem_set hr with hr | rfl
    · exact h.sz r hr
    · exact hl.sz _ (by simp)
  · unfold hsplice at hv
    rcases List.mem_append.1 hv with hv | hv
    · exact h.one v (List.mem_of_mem_take hv)
    · rcases List.mem_append.1 hv with hv | hv
      · exact hl.one v hv
      · exact h.one v (List.mem_of_mem_drop hv)
  · rw [splice_get _ _ _ hfit]
    by_cases hii : i' = i
    · subst hii
      simp [hi] at hi'
      subst hi'
      have hks : k < s := by rw [← hl.sz l (by simp)]; exact (List.getElem?_eq_some_iff.1 hk).1
      obtain ⟨v, h1, h2⟩ := hl.rel 0 l k y rfl hk
      rw [if_pos (by omega)]
      refine ⟨v, ?_, h2⟩
      rw [← h1]; congr 1; omega
    · rw [List.getElem?_set_ne (fun hh => hii hh.symm)] at hi'
      have hks : k < s := by rw [← h.sz r (List.mem_of_getElem? hi')]; exact (List.getElem?_eq_some_iff.1 hk).1
      rw [if_neg ?_]
      · exact h.rel i' r k y hi' hk
      · rintro ⟨h1, h2⟩
        exact row_ne (sz := s) (k := i' * s + k - i * s) (k' := k) hii (by omega) hks (by omega)

theorem fillr_sound {s : Nat} {K : List (List HV) → Prop} : ∀ (ps : List (Nat × HV)) (vs : List (Nat × Value)) (E : List (List HV)) (cs : Array Value), RowsIn (Mut F D) e w s E cs.toList →
      ps.length = vs.length → (∀ (i : Nat) (p : Nat × HV) (q : Nat × Value), ps[i]? = some p → vs[i]? = some q → p.1 = q.1 ∧ VRel (Mut F D) e w p.2 q.2) → hfillr s K E ps →
      ∃ E' cs', Instr.fill (fun i => some (i * s, s)) cs vs = some cs' ∧ RowsIn (Mut F D) e w s E' cs'.toList ∧ E'.length = E.length ∧ K E' := by
  intro ps
  induction ps with
  | nil =>
    intro vs E cs hr hlen _ h
    obtain rfl : vs = [] := List.eq_nil_of_length_eq_zero hlen.symm
    exact ⟨E, cs, rfl, hr, rfl, h⟩
  | cons p ps ih =>
    intro vs E cs hr hlen hps h
    obtain ⟨i, x⟩ := p
    cases vs with
    | nil => simp at hlen
    | cons q vs =>
      obtain ⟨i', u⟩ := q
      obtain ⟨h1, h2⟩ := hps 0 (i, x) (i', u) rfl rfl
      simp only at h1 h2
      subst h1
      obtain ⟨l, ⟨hl, hi, hf⟩, hrows, hsz⟩ := hst_sound h2 h
      rw [hl] at hrows
      have hset := hr.set hi hrows
      have hle : (i + 1) * s ≤ E.length * s := Nat.mul_le_mul_right _ hi
      rw [Nat.add_mul] at hle
      have hcl : cs.size = E.length * s := by simpa using hr.len
      have hfs := foldl_set u.cells.toList (i * s) 0 cs (by simp; omega)
      have hz : u.cells.zipIdx.foldl (fun cs (c, j) => cs.setIfInBounds (i * s + j) c) cs = (hsplice (i * s) u.cells.toList cs.toList).toArray := by
        have : u.cells.zipIdx.foldl (fun cs (c, j) => cs.setIfInBounds (i * s + j) c) cs = (u.cells.toList.zipIdx 0).foldl (fun cs (c, j) => cs.setIfInBounds (i * s + j) c) cs := by
          rw [← Array.foldl_toList]; simp
        rw [this]
        apply Array.ext_getElem?
        intro j
        rw [hfs.2 j]
        simp only [List.getElem?_toArray]
        rw [splice_get _ _ _ (by simp; omega)]
        simp
      obtain ⟨E', cs', r1, r2, r3, r4⟩ := ih vs (E.set i l) (hsplice (i * s) u.cells.toList cs.toList).toArray (by simpa using hset) (by simpa using hlen) (fun j p q hp hq => hps (j + 1) p q (by simpa using hp) (by simpa using hq)) hf
      refine ⟨E', cs', ?_, r2, by simpa using r3, r4⟩
      simp only [Instr.fill]
      rw [if_neg (by simp; omega), hz]
      exact r1

theorem hbsl_sound {t : TypeId} {n : Nat} {parts : Array (Nat × Operand)} (ho : o.op = .buildSlice t n parts) (h : St F e0 D0 w0 fr PS a w)
    (hc : hbsl n (parts.toList.map fun p => (p.1, ev fr p.2)) (fun x => K x PS) (mkOf P t)) :
    o.wp P a w (fun a' w' => ∃ v PS', K v PS' ∧ St F e0 D0 w0 (hput fr o.dst v) PS' a' w') Q := by
  obtain ⟨hd, e, D, hr, hf, ht⟩ := h
  cases hm : mkOf P t with
  | none => rw [hm] at hc; exact hc.elim
  | some q =>
    obtain ⟨s, b, z⟩ := q
    rw [hm] at hc
    obtain ⟨el, i, zv, hu, hi, hz, hs, hb, hzs, hs0, rfl, h1⟩ := mkOf_some hm
    obtain ⟨g1, g2, hc⟩ := hc
    have hrows := made_rows (M := Mut F D) (e := e) (w := w) zv.cells hzs hs0 h1 n
    obtain ⟨E, cs, hfill, hE, hEl, hK⟩ := fillr_sound (F := F) (D := D) (e := e) (w := w) (parts.toList.map fun p => (p.1, ev fr p.2)) (parts.toList.map fun p => (p.1, a.eval p.2)) _ _ hrows (by simp) (by
      intro j p q hp hq
      rw [List.getElem?_map] at hp hq
      cases hx : parts.toList[j]? with
      | none => rw [hx] at hp; cases hp
      | some y => rw [hx] at hp hq; cases hp; cases hq; exact ⟨rfl, ev_rel hf y.2⟩) hc
    simp only [List.length_replicate] at hEl
    have hcs : (Instr.buildSlice t n (parts.map fun p => (p.1, a.eval p.2))).run P w = .ok (.slice (some ⟨w.heap.size, 0, none⟩) n n) (w.alloc (.cells cs el)) := by
      have hfill' : Instr.fill (fun i => some (i * s, s)) ((Array.range (n * s)).map (zv.cells[· % zv.cells.size]!)) (parts.map fun p => (p.1, a.eval p.2)).toList = some cs := by
        rw [Array.toList_map]; exact hfill
      have hsmall : ¬ 16777216 < n * s := by omega
      by_cases hn : n * s = 0
      · have hn0 : n = 0 := by rcases Nat.mul_eq_zero.1 hn with h | h; exact h; omega
        subst hn0
        simp only [Nat.zero_mul] at hfill'
        have e0 : ((Array.range 0).map (zv.cells[· % zv.cells.size]!)) = #[] := by simp
        rw [e0] at hfill'
        simp only [Instr.buildSlice, Sem.run_bind, run_underlying hu, run_sizeOf' hi, Result.andThen_ok, hs, Nat.zero_mul, Nat.reducePow, gt_iff_lt, Nat.not_lt_zero, if_false, if_true, Sem.run_pure]
        have e1 : Array.range 0 = #[] := rfl
        rw [e1, Array.map_empty, hfill']
        simp [newRow, newObj, Sem.run]
      · have hzr : (zeroValue el).run P w = .ok zv w := by simp [zeroValue, typeInfo, hi, hz]
        simp only [Instr.buildSlice, Sem.run_bind, run_underlying hu, run_sizeOf' hi, Result.andThen_ok, hs, Nat.reducePow, gt_iff_lt, hsmall, hn, if_false, Sem.run_pure, hzr, hfill']
        simp [newRow, newObj, Sem.run]
    have hal := hr.alloc (.cells cs el)
    have htr : Tr e D w e D (w.alloc (.cells cs el)) := Tr.alloc _
    have hnm : ¬ Mut F D w.heap.size := by
      rintro (hx | ⟨j, hx⟩)
      · exact Nat.lt_irrefl _ (hr.fore _ hx)
      · exact Nat.lt_irrefl _ (hr.out j _ hx).2.1
    have hv := imm_of_rows (M := Mut F D) (e := e) (w := w.alloc (.cells cs el)) (post := []) (b := w.heap.size) (c := n) (ty := el) (fz := (0, 0)) (hE.mono htr.stays htr.env) (by rw [List.append_nil, Array.toArray_toList]; exact heap_alloc_new w _) hnm true (by omega) (by simp [maxLen]; omega) (fun _ => hEl.symm)
    rw [hEl] at hv
    exact wp_of_value hd hf ht (by simp [execOp, ho, hcs]) hal htr hv hK
end
end Go.Eng
