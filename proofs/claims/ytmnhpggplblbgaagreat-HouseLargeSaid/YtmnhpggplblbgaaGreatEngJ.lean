/-
  New variables, stores, made slices: abstract meaning and soundness.
  No conditions.
-/
import Derived.Test.YtmnhpggplblbgaaGreatEngI
namespace Go.Eng
open Go
set_option linter.unusedSectionVars false
variable [Toks]
set_option linter.unusedSimpArgs false

def halloc (P : Program) (t : TypeId) (PS : PL) (K : HV → PL → Prop) : Prop :=
  match zcells P t with
  | some l => K (.ptr PS.length 0 0 0) (PS ++ [.arr 0 l.length [l] false])
  | none => False
/-- The cells of a value that may be stored. -/
def hst (x : HV) (K : List HV → Prop) : Prop :=
  match x with
  | .agg l => (∀ y ∈ l, HV.one y = true) ∧ K l
  | x => HV.one x = true ∧ K [x]
def hbox (x : HV) (PS : PL) (K : HV → PL → Prop) : Prop :=
  hst x fun l => K (.ptr PS.length 0 0 0) (PS ++ [.arr 0 l.length [l] false])
def hstore (PS : PL) (a x : HV) (K : PL → Prop) : Option (Bool × Nat) → Prop
  | some (_, s) => hst x fun c => c.length = s ∧ match a with
    | .ptr n ver i k => (match getP PS n with
      | .arr ver' sz E opn => ver = ver' ∧ ∃ l, E[i]? = some l ∧ k + s ≤ l.length ∧ K (PS.set n (.arr ver sz (E.set i (hsplice k c l)) opn))
      | _ => False)
    | _ => False
  | none => False
/-- Of a slice's type: the element's cells, bytes, zero cells. -/
def mkOf (P : Program) (t : TypeId) : Option (Nat × Nat × List HV) :=
  match P.underlying t with
  | some (.slice e) => match P.info? e with
    | some i => match i.zero with
      | some z => if z.cells.size = i.size ∧ 0 < i.size ∧ z.cells.all (·.oneCell') then some (i.size, i.bytes, z.cells.toList.map ofV) else none
      | none => none
    | none => none
  | _ => none
def hmake2 (PS : PL) (s b : Nat) (z : List HV) (K : HV → PL → Prop) : HV → HV → Prop
  | .int .i64 l, .int .i64 c => 0 ≤ l ∧ l ≤ c ∧ c ≤ 140737488355328 ∧ c * b ≤ 140737488355328 ∧ K (.sl PS.length 0 0 l.toNat (some c.toNat)) (PS ++ [.arr 0 s (List.replicate c.toNat z) false])
  | _, _ => False
def hmake (PS : PL) (l c : HV) (K : HV → PL → Prop) : Option (Nat × Nat × List HV) → Prop
  | some (s, b, z) => hmake2 PS s b z K l c
  | none => False

section
variable {P : Program} {F : Nat → Prop} {e e0 : List Pos} {D D0 : Nat → Nat → Prop} {PS PS' : PL} {w w0 w' : World} {fr : Fr} {a : Act} {o : Oper} {K : HV → PL → Prop} {Q : Exit → Act → World → Prop}
theorem FRel.puts {e' : List Pos} {D' : Nat → Nat → Prop} {d : Option Tmp} {x : HV} {u : Value} (hf : FRel (Mut F D) e w fr a.tmps) (ht : Tr e D w e' D' w') (hv : VRel (Mut F D') e' w' x u) :
    FRel (Mut F D') e' w' (hput fr d x) (a.put d u).tmps := (hf.mono ht.stays ht.env).put d hv
/-- An operation that yields a value. -/
theorem wp_of_value {e' : List Pos} {D' : Nat → Nat → Prop} {x : HV} {u : Value} (hd : a.defers = []) (hf : FRel (Mut F D) e w fr a.tmps) (h0 : Tr e0 D0 w0 e D w)
    (hrun : (execOp a.eval o).run P w = .ok (.value u) w') (hr : Rel F e' D' PS' w') (ht : Tr e D w e' D' w') (hv : VRel (Mut F D') e' w' x u) (hK : K x PS') :
    o.wp P a w (fun a' w' => ∃ v PS', K v PS' ∧ St F e0 D0 w0 (hput fr o.dst v) PS' a' w') Q := by
  unfold Oper.wp
  rw [hrun, Oper.upon_value]
  refine ⟨x, PS', hK, ?_, e', D', hr, hf.puts ht hv, h0.trans ht⟩
  cases o.dst <;> exact hd
theorem wp_of_skip {e' : List Pos} {D' : Nat → Nat → Prop} (hd : a.defers = []) (hf : FRel (Mut F D) e w fr a.tmps) (h0 : Tr e0 D0 w0 e D w)
    (hrun : (execOp a.eval o).run P w = .ok .skip w') (hr : Rel F e' D' PS' w') (ht : Tr e D w e' D' w') (hK : K .junk PS') :
    o.wp P a w (fun a' w' => ∃ v PS', K v PS' ∧ St F e0 D0 w0 (hput fr o.dst v) PS' a' w') Q := by
  unfold Oper.wp
  rw [hrun, Oper.upon_skip]
  refine ⟨.junk, PS', hK, ?_, e', D', hr, hf.puts ht (.junk _), h0.trans ht⟩
  cases o.dst <;> exact hd

/-- The new block's piece. -/
theorem Rel.addRows (h : Rel F e D PS w) {s : Nat} {E : List (List HV)} {vs post : List Value} (ty : TypeId) (cap : Nat) (opn : Bool) (hr : RowsIn (Mut F D) e w s E vs) (h1 : E.length ≤ cap) (h2 : opn = false → E.length = cap) (h3 : cap ≤ maxLen)
    (h4 : cap * s ≤ (vs ++ post).length) :
    Rel F (e ++ [⟨0, .arr w.heap.size 0 s cap⟩]) (addD D PS.length w.heap.size) (PS ++ [.arr 0 s E opn]) (w.alloc (.cells (vs ++ post).toArray ty)) :=
  h.add (vs ++ post).toArray ty s cap E opn h1 h2 h3 (by simpa using h4) hr.sz (fun i l k x hi hk => by simpa using hr.cells [] post i l k x hi hk)
theorem ptr_new (cap sz b : Nat) : VRel (Mut F (addD D PS.length w.heap.size)) (e ++ [⟨0, .arr b 0 sz cap⟩]) w' (.ptr e.length 0 0 0) (.pointer (some ⟨b, 0, none⟩)) :=
  .ptr e.length 0 0 0 _ ⟨0, .arr b 0 sz cap⟩ (by simp) (Nat.le_refl _) (fun _ => by simp [PtrAt]) rfl

theorem hst_sound {x : HV} {u : Value} {K : List HV → Prop} (hx : VRel (Mut F D) e w x u) (hc : hst x K) :
    ∃ l, K l ∧ RowsIn (Mut F D) e w l.length [l] u.cells.toList ∧ u.cells.size = l.length := by
  have main : ∀ l, hvcells x = l → (∀ y ∈ l, HV.one y = true) → (x.one = true ∨ ∃ c, x = .agg c) → K l → ∃ l, K l ∧ RowsIn (Mut F D) e w l.length [l] u.cells.toList ∧ u.cells.size = l.length := by
    intro l hl h1 ha hK
    obtain ⟨hs, hr⟩ := cells_rel hx ha
    rw [hl] at hs hr
    refine ⟨l, hK, .single rfl (by simpa using hs) (fun v hv => ?_) (fun k y v hk hv => hr k y v hk (by simpa using hv)), hs⟩
    obtain ⟨j, hj, rfl⟩ := List.mem_iff_getElem.1 hv
    have hj' : j < l.length := by rw [← hs]; simpa using hj
    exact one_cells (hr j l[j] _ (by simp [hj']) (by simp at hj; simp [hj])) (h1 _ (List.getElem_mem hj'))
  cases x with
  | agg l => exact main l rfl hc.1 (.inr ⟨l, rfl⟩) hc.2
  | tup l => exact absurd hc.1 (by simp [HV.one])
  | junk => exact absurd hc.1 (by simp [HV.one])
  | _ => exact main _ rfl (by simpa [hvcells] using hc.1) (.inl hc.1) hc.2

theorem ofV_rows {M : Nat → Prop} (vs : List Value) (h1 : ∀ v ∈ vs, v.oneCell' = true) : RowsIn M e w vs.length [vs.map ofV] vs :=
  .single (by simp) rfl h1 (fun k y v hk hv => by
    rw [List.getElem?_map, hv] at hk
    cases hk
    exact ofV_rel M e w v)

theorem hbox_sound {t : TypeId} {x : Operand} (ho : o.op = .box t x) (h : St F e0 D0 w0 fr PS a w) (hc : hbox (ev fr x) PS K) :
    o.wp P a w (fun a' w' => ∃ v PS', K v PS' ∧ St F e0 D0 w0 (hput fr o.dst v) PS' a' w') Q := by
  obtain ⟨hd, e, D, hr, hf, ht⟩ := h
  obtain ⟨l, hK, hrows, hs⟩ := hst_sound (ev_rel hf x) hc
  have hadd := hr.addRows (post := []) t 1 false hrows (by simp) (by simp) (by simp [maxLen]) (by simp [hs])
  rw [List.append_nil, Array.toArray_toList] at hadd
  have hp := ptr_new (F := F) (e := e) (D := D) (PS := PS) (w := w) (w' := w.alloc (.cells (a.eval x).cells t)) 1 l.length w.heap.size
  rw [hr.len] at hp
  exact wp_of_value hd hf ht (u := .pointer (some ⟨w.heap.size, 0, none⟩)) (by simp [execOp, ho, Instr.box, newVar, newRow, newObj, Sem.run]) hadd (Tr.add _ _ _) hp hK

theorem halloc_sound {t : TypeId} (ho : o.op = .alloc t) (h : St F e0 D0 w0 fr PS a w) (hc : halloc P t PS K) :
    o.wp P a w (fun a' w' => ∃ v PS', K v PS' ∧ St F e0 D0 w0 (hput fr o.dst v) PS' a' w') Q := by
  obtain ⟨hd, e, D, hr, hf, ht⟩ := h
  unfold halloc at hc
  cases hz : zcells P t with
  | none => rw [hz] at hc; exact hc.elim
  | some l =>
    rw [hz] at hc
    obtain ⟨i, z, hi, hz0, rfl, hk⟩ := zcells_some hz
    have hrows := ofV_rows (M := Mut F D) (e := e) (w := w) z.cells.toList hk
    have hadd := hr.addRows (post := []) t 1 false hrows (by simp) (by simp) (by simp [maxLen]) (by simp)
    rw [List.append_nil, Array.toArray_toList] at hadd
    have hp := ptr_new (F := F) (e := e) (D := D) (PS := PS) (w := w) (w' := w.alloc (.cells z.cells t)) 1 z.cells.toList.length w.heap.size
    rw [hr.len] at hp
    have hzr : (zeroValue t).run P w = .ok z w := by simp [zeroValue, typeInfo, hi, hz0]
    simp only [List.length_map] at hc
    exact wp_of_value hd hf ht (u := .pointer (some ⟨w.heap.size, 0, none⟩)) (by simp [execOp, ho, Instr.alloc, hzr, newVar, newRow, newObj, Sem.run]) hadd (Tr.add _ _ _) hp hc

theorem row_ne {i i' k k' sz : Nat} (h : i' ≠ i) (hk : k < sz) (hk' : k' < sz) : i' * sz + k' ≠ i * sz + k := by
  intro he
  rcases Nat.lt_or_gt_of_ne h with h1 | h1
  · have : (i' + 1) * sz ≤ i * sz := Nat.mul_le_mul_right _ h1
    rw [Nat.add_mul] at this; omega
  · have : (i + 1) * sz ≤ i' * sz := Nat.mul_le_mul_right _ h1
    rw [Nat.add_mul] at this; omega

/-- Cells of a live row are written. -/
theorem Rel.splice (h : Rel F e D PS w) {n ver sz : Nat} {E : List (List HV)} {opn : Bool} (hq : getP PS n = .arr ver sz E opn) {i k : Nat} {l : List HV} (hl : E[i]? = some l)
    {c : List HV} {vs : List Value} (hk : k + c.length ≤ l.length) (hrows : RowsIn (Mut F D) e w c.length [c] vs) :
    ∃ p b o cap e', e[n]? = some p ∧ p.ver = ver ∧ p.kind = .arr b o sz cap ∧ ∃ w', (∀ P : Program, (storeCells ⟨b, o + i * sz + k, none⟩ vs).run P w = .ok () w') ∧ Rel F e' D (PS.set n (.arr ver sz (E.set i (hsplice k c l)) opn)) w' ∧ Tr e D w e' D w' := by
  have hE : E ≠ [] := by rintro rfl; simp at hl
  obtain ⟨p, b, o, cap, hp, hpv, hkd, hD, hrow⟩ := h.row hq (.inr hE)
  obtain ⟨h1, h2, h3, cs, ty, hb, h4, h5, h6⟩ := hrow
  have hlsz := h5 l (List.mem_of_getElem? hl)
  have hil : i < E.length := (List.getElem?_eq_some_iff.1 hl).1
  have hvl : vs.length = c.length := by have := hrows.len; simpa using this
  have hrowle : (i + 1) * sz ≤ cap * sz := Nat.mul_le_mul_right _ (by omega)
  rw [Nat.add_mul] at hrowle
  have hrun : ∀ P : Program, (storeCells ⟨b, o + i * sz + k, none⟩ vs).run P w = .ok () (w.setRow b (hsplice (o + i * sz + k) vs cs.toList).toArray) := by
    intro P
    have := run_storeCells_at P b (o + i * sz + k) ty vs 0 cs w hb (by omega) hrows.one
    rw [this]
    simp [hsplice]
  have hs : (hsplice (o + i * sz + k) vs cs.toList).length = cs.toList.length := splice_len _ _ _ (by simp; omega)
  obtain ⟨hrel, ht⟩ := h.write (cap := cap) (E' := E.set i (hsplice k c l)) (opn' := opn) (ver' := ver) hq hp hpv hD hb (hsplice (o + i * sz + k) vs cs.toList).toArray (.inl ⟨rfl, hkd⟩)
    (by simpa using h1) (fun hh => by simpa using h2 hh) h3 (by simp only [List.size_toArray, hs]; simpa using h4) (by
      intro r hr
      rcases List.mem_or_eq_of_mem_set hr with hr | rfl
      · exact h5 r hr
      · rw [splice_len _ _ _ hk]; exact hlsz) (by
      intro i' r k' y hi hk'
      simp only [List.getElem?_toArray]
      rw [splice_get _ _ _ (by simp; omega)]
      by_cases hii : i' = i
      · subst hii
        simp [hil] at hi
        subst hi
        rw [splice_get _ _ _ hk] at hk'
        by_cases hkk : k ≤ k' ∧ k' < k + c.length
        · rw [if_pos hkk] at hk'
          obtain ⟨v, h7, h8⟩ := hrows.rel 0 c (k' - k) y rfl hk'
          rw [if_pos (by omega)]
          refine ⟨v, ?_, hrows.one v (List.mem_of_getElem? h7), h8⟩
          rw [← h7]; congr 1; omega
        · rw [if_neg hkk] at hk'
          have hk'' : k' < sz := by rw [← hlsz]; exact (List.getElem?_eq_some_iff.1 hk').1
          rw [if_neg (by omega)]
          simpa using h6 i' l k' y hl hk'
      · rw [List.getElem?_set_ne (fun hh => hii hh.symm)] at hi
        have hk'' : k' < sz := by rw [← h5 r (List.mem_of_getElem? hi)]; exact (List.getElem?_eq_some_iff.1 hk').1
        rw [if_neg ?_]
        · simpa using h6 i' r k' y hi hk'
        · rintro ⟨ha, hb'⟩
          have hne := row_ne (sz := sz) (k := o + i' * sz + k' - (o + i * sz)) (k' := k') hii (by omega) hk''
          omega)
  exact ⟨p, b, o, cap, _, hp, hpv, hkd, _, hrun, hrel, ht⟩

theorem hstore_sound {t : TypeId} {x y : Operand} (ho : o.op = .store t x y) (h : St F e0 D0 w0 fr PS a w) (hc : hstore PS (ev fr x) (ev fr y) (fun PS' => K .junk PS') (tsz P t)) :
    o.wp P a w (fun a' w' => ∃ v PS', K v PS' ∧ St F e0 D0 w0 (hput fr o.dst v) PS' a' w') Q := by
  obtain ⟨hd, e, D, hr, hf, ht⟩ := h
  unfold tsz at hc
  cases hu : P.underlying t with
  | none => simp [hu, hstore] at hc
  | some d =>
    cases hi : P.info? t with
    | none => simp [hu, hi, hstore] at hc
    | some ti =>
      simp only [hu, hi, hstore] at hc
      obtain ⟨c, ⟨hcl, hc⟩, hrows, hs⟩ := hst_sound (ev_rel hf y) hc
      have hx := ev_rel hf x
      generalize ev fr x = xa at hc hx
      cases xa with
      | ptr n ver i k =>
        simp only at hc
        cases hq : getP PS n with
        | arr ver' sz E opn =>
          rw [hq] at hc
          obtain ⟨rfl, l, hl, hk, hK⟩ := hc
          have hE : E ≠ [] := by rintro rfl; simp at hl
          have hlv : hlive (getP PS n) ver := by rw [hq]; exact ⟨rfl, .inr hE⟩
          obtain ⟨p', b', o', sz', cap', hp', hv', hkd', hxv⟩ := ptr_live hr hx hlv
          obtain ⟨p, b, o1, cap, e', hp, hpv, hkd, w', hrun, hrel, htr⟩ := hr.splice (k := k) hq hl (c := c) (by omega) hrows
          rw [hp] at hp'; cases hp'
          rw [hkd] at hkd'; cases hkd'
          refine wp_of_skip hd hf ht (e' := e') (D' := D) ?_ hrel htr hK
          simp only [execOp, ho, Instr.storeAt, hxv, Instr.sureAddr, storeVar, Sem.run_bind, Sem.run_pure, Result.andThen_ok, run_sizeOf' hi]
          rw [if_neg (by rw [hs, hcl]; simp)]
          simp [hrun P]
        | dead => rw [hq] at hc; exact hc.elim
        | map _ _ _ _ => rw [hq] at hc; exact hc.elim
        | iter _ _ _ _ _ => rw [hq] at hc; exact hc.elim
      | _ => exact hc.elim

theorem mkOf_some {t : TypeId} {s b : Nat} {z : List HV} (h : mkOf P t = some (s, b, z)) : ∃ el i zv, P.underlying t = some (.slice el) ∧ P.info? el = some i ∧ i.zero = some zv ∧ i.size = s ∧ i.bytes = b ∧ zv.cells.size = s ∧ 0 < s ∧
    z = zv.cells.toList.map ofV ∧ ∀ v ∈ zv.cells.toList, v.oneCell' = true := by
  unfold mkOf at h
  cases hu : P.underlying t with
  | none => rw [hu] at h; cases h
  | some d =>
    cases d with
    | slice el =>
      rw [hu] at h
      cases hi : P.info? el with
      | none => simp only [hi] at h; cases h
      | some i =>
        cases hz : i.zero with
        | none => simp only [hi, hz] at h; cases h
        | some zv =>
          simp only [hi, hz] at h
          split at h
          · rename_i hh
            cases h
            refine ⟨el, i, zv, rfl, hi, hz, rfl, rfl, hh.1, hh.2.1, rfl, fun v hv => ?_⟩
            have ha := hh.2.2
            rw [Array.all_eq_true_iff_forall_mem] at ha
            exact ha v (Array.mem_toList_iff.1 hv)
          · cases h
    | _ => rw [hu] at h; cases h
end
end Go.Eng
