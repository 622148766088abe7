/-
  Maps with integer keys, and iterators over them: their abstract meaning holds of the model.
  No conditions.
-/
import Derived.Test.YtmnhpggplblbgaaGreatEngM
import Derived.MapKept
namespace Go.Eng
open Go Go.MapKept
set_option linter.unusedSectionVars false
variable [Toks]
set_option linter.unusedSimpArgs false

abbrev Ents := List (Nat × Int × HV)
def mget (x : Int) : Ents → Option HV
  | [] => none
  | e :: E => if e.2.1 = x then some e.2.2 else mget x E
def mput (x : Int) (v : HV) (clock : Nat) : Ents → Ents
  | [] => [(clock, x, v)]
  | e :: E => if e.2.1 = x then (e.1, x, v) :: E else e :: mput x v clock E
def mdel (x : Int) : Ents → Ents
  | [] => []
  | e :: E => if e.2.1 = x then E else e :: mdel x E
/-- A zero value. -/
def zv : Value → HV
  | .agg cs => .agg (cs.toList.map ofV)
  | v => ofV v
def mapZ (P : Program) (t : TypeId) : Option (IntKind × HV) :=
  match P.underlying t with
  | some (.map kt et) => (match P.underlying kt with | some (.int q) => ((P.info? et).bind (·.zero)).map fun z => (q, zv z) | _ => none)
  | _ => none
def mapK (P : Program) (t : TypeId) : Option IntKind :=
  match P.underlying t with
  | some (.map kt _) => (match P.underlying kt with | some (.int k) => some k | _ => none)
  | _ => none
def hmapOf (q : Piece) (C : Nat → Nat → IntKind → Ents → Prop) : Prop :=
  match q with
  | .map ver clock k E => C ver clock k E
  | _ => False
def hiterOf (q : Piece) (C : Nat → HV → Nat → List Nat → Nat → Prop) : Prop :=
  match q with
  | .iter ver x since seen last => C ver x since seen last
  | _ => False
def hmkmap (PS : PL) (K : HV → PL → Prop) : Option IntKind → Prop
  | some k => K (.ref PS.length 0) (PS ++ [.map 0 0 k []])
  | none => False
def hlookup (PS : PL) (m ix : HV) (ok : Bool) (K : HV → Prop) : Option (IntKind × HV) → Prop
  | some (q, z) => (match m, ix with
    | .ref n ver, .int k x => hmapOf (getP PS n) fun ver' _ k' E => ver = ver' ∧ k = k' ∧ k = q ∧ K (if ok then .tup [(mget x E).getD z, .bool (mget x E).isSome] else (mget x E).getD z)
    | _, _ => False)
  | none => False
def hmapset (PS : PL) (m ix v : HV) (K : PL → Prop) : Option (IntKind × HV) → Prop
  | some (q, _) => (match m, ix with
    | .ref n ver, .int k x => hmapOf (getP PS n) fun ver' clock k' E => ver = ver' ∧ k = k' ∧ k = q ∧ K (PS.set n (.map ver (if (mget x E).isSome then clock else clock + 1) k (mput x v clock E)))
    | _, _ => False)
  | none => False
def hmapdel (PS : PL) (m ix : HV) (K : HV → PL → Prop) : Option (IntKind × HV) → Prop
  | some (q, _) => (match m, ix with
    | .ref n ver, .int k x => hmapOf (getP PS n) fun ver' clock k' E => ver = ver' ∧ k = k' ∧ k = q ∧ K (.tup []) (PS.set n (.map ver clock k (mdel x E)))
    | _, _ => False)
  | none => False
def hrange (PS : PL) (m : HV) (K : HV → PL → Prop) : Option (IntKind × HV) → Prop
  | some _ => (match m with
    | .ref n ver => hmapOf (getP PS n) fun ver' clock _ _ => ver = ver' ∧ K (.ref PS.length 0) (PS ++ [.iter 0 (.ref n ver) clock [] clock])
    | _ => False)
  | none => False
def hnext (PS : PL) (it : HV) (K : HV → PL → Prop) : Prop :=
  match it with
  | .ref n ver => hiterOf (getP PS n) fun ver' x since seen last => ver = ver' ∧ (match x with
    | .ref m mver => hmapOf (getP PS m) fun mv clock k E => mver = mv ∧ clock = since ∧ clock = last ∧
        (∀ (i b : Nat) (key : Int) (y : HV), E[i]? = some (b, key, y) → b ∉ seen → K (.tup [.bool true, .int k key, y]) (PS.set n (.iter ver x since (seen ++ [b]) clock))) ∧
        ((∀ (i b : Nat) (key : Int) (y : HV), E[i]? = some (b, key, y) → b ∈ seen) → K (.tup [.bool false]) PS)
    | _ => False)
  | _ => False
def ment (b : Nat) : Ents → Option (Int × HV)
  | [] => none
  | e :: E => if e.1 = b then some e.2 else ment b E
def hentry (PS : PL) (it : HV) (K : HV → Prop) : Prop :=
  match it with
  | .ref n ver => hiterOf (getP PS n) fun ver' x _ seen last => ver = ver' ∧ (match x with
    | .ref m mver => hmapOf (getP PS m) fun mv clock k E => mver = mv ∧ clock = last ∧ (match seen.getLast?.bind (ment · E) with
      | some (key, y) => K (.tup [.int k key, y])
      | none => False)
    | _ => False)
  | _ => False

theorem zv_rel (M : Nat → Prop) (e : List Pos) (w : World) (v : Value) : VRel M e w (zv v) v := by
  unfold zv
  split
  · rename_i cs
    refine .agg _ _ (by simp) fun i x u hx hu => ?_
    have hu' : cs.toList[i]? = some u := by simpa using hu
    rw [List.getElem?_map, hu'] at hx
    simp at hx
    subst hx
    exact ofV_rel M e w u
  · exact ofV_rel M e w v
theorem mapZ_some {P : Program} {t : TypeId} {q : IntKind} {z : HV} (h : mapZ P t = some (q, z)) : ∃ kt et i zv0, P.underlying t = some (.map kt et) ∧ P.underlying kt = some (.int q) ∧ P.info? et = some i ∧ i.zero = some zv0 ∧ z = zv zv0 := by
  unfold mapZ at h
  split at h
  · rename_i kt et hu
    split at h
    · rename_i q hk
      cases hi : P.info? et with
      | none => rw [hi] at h; cases h
      | some i =>
        rw [hi] at h
        simp only [Option.bind_some] at h
        cases hz : i.zero with
        | none => rw [hz] at h; cases h
        | some v => rw [hz] at h; simp only [Option.bind_some, Option.map_some, Option.some.injEq, Prod.mk.injEq] at h; obtain ⟨rfl, rfl⟩ := h; exact ⟨kt, et, i, v, hu, hk, hi, hz, rfl⟩
    · cases h
  · cases h
theorem mapK_some {P : Program} {t : TypeId} {k : IntKind} (h : mapK P t = some k) : ∃ kt et, P.underlying t = some (.map kt et) ∧ P.underlying kt = some (.int k) := by
  unfold mapK at h
  split at h
  · rename_i kt et hu
    split at h
    · rename_i q hk
      cases h
      exact ⟨kt, et, hu, hk⟩
    · cases h
  · cases h

/-- Where a key stands. -/
theorem find_ents (q k : IntKind) (x : Int) : ∀ (es : List MapEntry) (E : Ents) (i0 : Nat), es.length = E.length → (∀ (i n : Nat) (y : Int) (z : HV) (u : MapEntry), E[i]? = some (n, y, z) → es[i]? = some u → u.key = .int k y) →
    (mget x E = none ∧ Instr.findNow (.int q) (.int k x) es i0 = some none ∧ (∀ v c, mput x v c E = E ++ [(c, x, v)]) ∧ mdel x E = E) ∨
    ∃ (j n : Nat) (z : HV) (u : MapEntry), mget x E = some z ∧ E[j]? = some (n, x, z) ∧ es[j]? = some u ∧ Instr.findNow (.int q) (.int k x) es i0 = some (some (i0 + j, u.val)) ∧ (∀ v c, mput x v c E = E.set j (n, x, v)) ∧ mdel x E = E.eraseIdx j
  | [], [], _, _, _ => .inl ⟨rfl, rfl, fun _ _ => rfl, rfl⟩
  | u :: es, (n, y, z) :: E, i0, hl, hk => by
    have hu : u.key = .int k y := hk 0 n y z u rfl rfl
    have ih := find_ents q k x es E (i0 + 1) (by simpa using hl) (fun i n y z u h1 h2 => hk (i + 1) n y z u (by simpa using h1) (by simpa using h2))
    by_cases hy : y = x
    · subst hy
      refine .inr ⟨0, n, z, u, by simp [mget], rfl, rfl, ?_, fun v c => by simp [mput], by simp [mdel]⟩
      simp [Instr.findNow, Instr.sameNow, hu]
    · have hxy : (x == y) = false := by simpa using fun h => hy h.symm
      have hf : Instr.findNow (.int q) (.int k x) (u :: es) i0 = Instr.findNow (.int q) (.int k x) es (i0 + 1) := by
        simp only [Instr.findNow, Instr.sameNow, hu, if_true, hxy]
      rcases ih with ⟨h1, h2, h3, h4⟩ | ⟨j, n', z', u', h1, h2, h3, h4, h5, h6⟩
      · exact .inl ⟨by simp [mget, hy, h1], hf.trans h2, fun v c => by simp [mput, hy, h3], by simp [mdel, hy, h4]⟩
      · exact .inr ⟨j + 1, n', z', u', by simp [mget, hy, h1], by simpa using h2, by simpa using h3, by rw [hf, h4]; congr 3; omega, fun v c => by simp [mput, hy, h5], by simp [mdel, hy, h6]⟩
  | [], _ :: _, _, hl, _ => by simp at hl
  | _ :: _, [], _, hl, _ => by simp at hl

section
variable {P : Program} {F : Nat → Prop} {e e0 e' : List Pos} {D D0 D' : Nat → Nat → Prop} {PS PS' : PL} {w w0 w' : World} {fr : Fr} {a : Act} {o : Oper} {Q : Exit → Act → World → Prop}
theorem Rel.root (h : Rel F e D PS w) {n : Nat} {q : Piece} (hq : getP PS n = q) (hne : q ≠ .dead) : ∃ p, PS[n]? = some q ∧ e[n]? = some p ∧ PHolds (Mut F D) e w (D n) q p := by
  have h1 := getP_some hq hne
  have hn : n < e.length := by rw [h.len]; exact (List.getElem?_eq_some_iff.1 h1).1
  exact ⟨e[n], h1, by simp [hn], h.holds n q _ h1 (by simp [hn])⟩
theorem Rel.mapAt (h : Rel F e D PS w) {n ver clock : Nat} {k : IntKind} {E : Ents} (hq : getP PS n = .map ver clock k E) :
    ∃ p b, PS[n]? = some (.map ver clock k E) ∧ e[n]? = some p ∧ p.ver = ver ∧ p.kind = .root (.map (some b)) ∧ (∀ x, D n x ↔ x = b) ∧ MapAt (Mut F D) e w clock k E b := by
  obtain ⟨p, h1, h2, h3⟩ := h.root hq (by simp)
  unfold PHolds at h3
  cases hk : p.kind with
  | root v =>
    simp only [hk] at h3
    obtain ⟨hv, b, rfl, hD, hm⟩ := h3
    exact ⟨p, b, h1, h2, hv.symm, hk, hD, hm⟩
  | arr b o sz' cap => simp only [hk] at h3
  | nil => simp only [hk] at h3
  | dead => simp only [hk] at h3
theorem Rel.iterAt (h : Rel F e D PS w) {n ver since last : Nat} {x : HV} {seen : List Nat} (hq : getP PS n = .iter ver x since seen last) :
    ∃ p b m, PS[n]? = some (.iter ver x since seen last) ∧ e[n]? = some p ∧ p.ver = ver ∧ p.kind = .root (.pointer (some ⟨b, 0, none⟩)) ∧ (∀ x, D n x ↔ x = b) ∧ VRel (Mut F D) e w x (.map (some m)) ∧ w.heap[b]? = some (.mapIter (some m) since seen.toArray last) := by
  obtain ⟨p, h1, h2, h3⟩ := h.root hq (by simp)
  unfold PHolds at h3
  cases hk : p.kind with
  | root v =>
    simp only [hk] at h3
    obtain ⟨hv, b, rfl, hD, m, hm, hb⟩ := h3
    exact ⟨p, b, m, h1, h2, hv.symm, hk, hD, hm, hb⟩
  | arr b o sz' cap => simp only [hk] at h3
  | nil => simp only [hk] at h3
  | dead => simp only [hk] at h3
theorem ref_val {M : Nat → Prop} {n ver : Nat} {u v : Value} {p : Pos} (hx : VRel M e w (.ref n ver) u) (hp : e[n]? = some p) (hv : p.ver = ver) (hk : p.kind = .root v) : u = v := by
  cases hx with
  | ref _ _ _ p' hp' hv' h h1 =>
    rw [hp] at hp'; cases hp'
    have := h hv.symm
    rw [hk] at this
    exact this

theorem hlookup_sound (hr : Rel F e D PS w) {t : TypeId} {m ix : HV} {u v : Value} {ok : Bool} {K : HV → Prop} (hm : VRel (Mut F D) e w m u) (hi : VRel (Mut F D) e w ix v) (hc : hlookup PS m ix ok K (mapZ P t)) :
    ∃ y r, (Instr.lookup t u v ok).run P w = .ok r w ∧ VRel (Mut F D) e w y r ∧ K y := by
  cases hz : mapZ P t with
  | none => rw [hz] at hc; exact hc.elim
  | some qz =>
    obtain ⟨q, z⟩ := qz
    rw [hz] at hc
    obtain ⟨kt, et, i, zv0, hu, hkt, hinf, hzero, rfl⟩ := mapZ_some hz
    cases m <;> first | exact hc.elim | skip
    rename_i n ver
    cases ix <;> first | exact hc.elim | skip
    rename_i k x
    cases hi
    simp only [hlookup] at hc
    cases hq : getP PS n <;> rw [hq] at hc <;> first | exact hc.elim | skip
    rename_i ver' clock k' E
    obtain ⟨rfl, rfl, rfl, hK⟩ := hc
    obtain ⟨p, b, _, hp, hpv, hk, _, es, hb, hl, hent⟩ := hr.mapAt hq
    obtain rfl := ref_val hm hp hpv hk
    have hck := run_checkKey (P := P) (w := w) hkt (k := .int k x) (by simp [IsKey]) es.isEmpty 9999
    have hzr : (zeroValue et).run P w = .ok zv0 w := by simp [zeroValue, typeInfo, hinf, hzero]
    have key := find_ents k k x es.toList E 0 (by simpa using hl) (fun i n y z u h1 h2 => (hent i n y z u h1 (by simpa using h2)).2.2.1)
    have hrun : ∀ (r : Option (Nat × Value)) (vv : Value) (bb : Bool), Instr.findNow (.int k) (.int k x) es.toList 0 = some r → (match r with | some (_, v) => (v, true) | none => (zv0, false)) = (vv, bb) →
        (Instr.lookup t (.map (some b)) (.int k x) ok).run P w = .ok (if ok then .tuple #[vv, .bool bb] else vv) w := by
      intro r vv bb h1 h2
      unfold Instr.lookup
      simp only [Sem.run_bind, run_underlying hu, Result.andThen_ok, Go.MapKept.run_getObj_map hb, Sem.run_pure, hck, run_findKey hkt h1]
      cases r with
      | none => simp at h2; simp [hzr, h2]
      | some r => obtain ⟨j, v⟩ := r; simp at h2; simp [h2]
    rcases key with ⟨h1, h2, _, _⟩ | ⟨j, n', z', u', h1, h2, h3, h4, _, _⟩
    · rw [h1] at hK
      refine ⟨_, _, hrun none zv0 false h2 rfl, ?_, hK⟩
      cases ok
      · exact zv_rel _ _ _ _
      · refine .tup _ _ rfl fun i a b ha hb => ?_
        match i with
        | 0 => simp at ha hb; subst ha; subst hb; exact zv_rel _ _ _ _
        | 1 => simp at ha hb; subst ha; subst hb; exact .bool false
        | i + 2 => simp at ha
    · rw [h1] at hK
      have hval := (hent j n' x z' u' h2 (by simpa using h3)).2.2.2
      refine ⟨_, _, hrun (some (0 + j, u'.val)) u'.val true h4 rfl, ?_, hK⟩
      cases ok
      · exact hval
      · refine .tup _ _ rfl fun i a b ha hb => ?_
        match i with
        | 0 => simp at ha hb; subst ha; subst hb; exact hval
        | 1 => simp at ha hb; subst ha; subst hb; exact .bool true
        | i + 2 => simp at ha

/-- A new object, known by its root. -/
theorem Rel.addObj (h : Rel F e D PS w) (ob : Obj) (q : Piece) (v : Value)
    (hq : ∀ Dn : Nat → Prop, (∀ x, Dn x ↔ x = w.heap.size) → PHolds (Mut F (addD D PS.length w.heap.size)) (e ++ [⟨0, .root v⟩]) (w.alloc ob) Dn q ⟨0, .root v⟩) :
    Rel F (e ++ [⟨0, .root v⟩]) (addD D PS.length w.heap.size) (PS ++ [q]) (w.alloc ob) := by
  have ht : Tr e D w (e ++ [⟨0, .root v⟩]) (addD D PS.length w.heap.size) (w.alloc ob) := Tr.add _ _ _
  refine h.next ht (by simp [h.len]) ?_ ?_ ?_
  · intro i b hb
    rcases hb with hb | ⟨rfl, rfl⟩
    · have := h.out i b hb
      exact ⟨by simp; omega, by simp; omega, this.2.2⟩
    · exact ⟨by simp, by simp, fun hf => Nat.lt_irrefl _ (h.fore _ hf)⟩
  · intro i j b hi hj
    rcases hi with hi | ⟨rfl, rfl⟩ <;> rcases hj with hj | ⟨rfl, hb⟩
    · exact h.apart i j b hi hj
    · have := (h.out i b hi).2.1; omega
    · have := (h.out j _ hj).2.1; omega
    · rfl
  · intro i q' p hq' hp
    by_cases hi : i < PS.length
    · left
      rw [List.getElem?_append_left hi] at hq'
      rw [List.getElem?_append_left (by rw [h.len]; exact hi)] at hp
      refine ⟨hq', hp, fun b => ⟨fun hb => ?_, fun hb => .inl hb⟩, fun b hb => RowKit.Below.heap_alloc w _ b (h.out i b hb).2.1⟩
      rcases hb with hb | ⟨rfl, _⟩
      · exact hb
      · exact absurd hi (Nat.lt_irrefl _)
    · right
      have hi' : i = PS.length := by
        have := (List.getElem?_eq_some_iff.1 hq').1
        simp at this; omega
      subst hi'
      simp at hq'
      rw [← h.len] at hp
      simp at hp
      subst hq'; subst hp
      refine hq _ fun x => ⟨fun hx => ?_, fun hx => .inr ⟨rfl, hx⟩⟩
      rcases hx with hx | ⟨_, hx⟩
      · exact absurd (h.out _ _ hx).1 (Nat.lt_irrefl _)
      · exact hx
abbrev setB (w : World) (b : Nat) (ob : Obj) : World := { w with heap := w.heap.setIfInBounds b ob }
theorem Tr.put {n b : Nat} {ob : Obj} (hD : D n b) : Tr e D w e D (setB w b ob) :=
  ⟨rfl, rfl, rfl, by simp [setB], fun x hx hn => by
    have : b ≠ x := fun hh => hn n (hh ▸ hD)
    simp [setB, Array.getElem?_setIfInBounds, this], fun i x h => .inl ⟨i, h⟩, .refl e⟩
/-- An object is replaced, its root stays. -/
theorem Rel.putObj (h : Rel F e D PS w) {n b : Nat} {q q' : Piece} {p : Pos} {ob : Obj} (hn : PS[n]? = some q) (hp : e[n]? = some p) (hD : ∀ x, D n x ↔ x = b)
    (hq : PHolds (Mut F D) e (setB w b ob) (D n) q' p) : Rel F e D (PS.set n q') (setB w b ob) := by
  have hnl : n < PS.length := (List.getElem?_eq_some_iff.1 hn).1
  refine h.next (Tr.put ((hD b).2 rfl)) (by simp [h.len]) (fun i x hx => ?_) h.apart (fun i r s hr hs => ?_)
  · have := h.out i x hx
    exact ⟨by simpa using this.1, by simpa [setB] using this.2.1, this.2.2⟩
  · by_cases hi : n = i
    · subst hi
      right
      simp [hnl] at hr
      rw [hp] at hs; cases hs
      subst hr
      exact hq
    · left
      rw [List.getElem?_set_ne hi] at hr
      refine ⟨hr, hs, fun _ => Iff.rfl, fun x hx => ?_⟩
      have : b ≠ x := fun hh => hi (h.apart n i x ((hD x).2 hh.symm) hx)
      simp [setB, Array.getElem?_setIfInBounds, this]

theorem hmapset_sound (hr : Rel F e D PS w) {t : TypeId} {m ix x : HV} {u v y : Value} {K : PL → Prop} (hm : VRel (Mut F D) e w m u) (hi : VRel (Mut F D) e w ix v) (hx : VRel (Mut F D) e w x y) (hc : hmapset PS m ix x K (mapZ P t)) :
    ∃ PS' w', (Instr.mapUpdate t u v y).run P w = .ok () w' ∧ Rel F e D PS' w' ∧ Tr e D w e D w' ∧ K PS' := by
  cases hz : mapZ P t with
  | none => rw [hz] at hc; exact hc.elim
  | some qz =>
    obtain ⟨q, z⟩ := qz
    rw [hz] at hc
    obtain ⟨kt, et, i, zv0, hu, hkt, hinf, hzero, rfl⟩ := mapZ_some hz
    cases m <;> first | exact hc.elim | skip
    rename_i n ver
    cases ix <;> first | exact hc.elim | skip
    rename_i k key
    cases hi
    simp only [hmapset] at hc
    cases hq : getP PS n <;> rw [hq] at hc <;> first | exact hc.elim | skip
    rename_i ver' clock k' E
    obtain ⟨rfl, rfl, rfl, hK⟩ := hc
    obtain ⟨p, b, hn, hp, hpv, hk, hD, es, hb, hl, hent⟩ := hr.mapAt hq
    obtain rfl := ref_val hm hp hpv hk
    have hck := run_checkKey (P := P) (w := w) hkt (k := .int k key) (by simp [IsKey]) false 9999
    have hfk := find_ents k k key es.toList E 0 (by simpa using hl) (fun i n y z u h1 h2 => (hent i n y z u h1 (by simpa using h2)).2.2.1)
    have hDb := (hD b).2 rfl
    have hbs : ∀ ob : Obj, (setB w b ob).heap[b]? = some ob := fun ob => (heap_set (o' := ob) hb).1
    have fin : ∀ (es' : Array MapEntry) (clock' : Nat) (E' : Ents), es'.size = E'.length →
        (∀ (i : Nat) (n : Nat) (z : Int) (y : HV) (u : MapEntry), E'[i]? = some (n, z, y) → es'[i]? = some u → u.born = n ∧ n < clock' ∧ u.key = .int k z ∧ VRel (Mut F D) e w y u.val) →
        Rel F e D (PS.set n (.map ver clock' k E')) (setB w b (.map es' clock')) := by
      intro es' clock' E' h1 h2
      refine hr.putObj hn hp hD ?_
      unfold PHolds
      simp only [hk]
      refine ⟨hpv.symm, b, rfl, hD, es', hbs _, h1, fun i nn z y u h3 h4 => ?_⟩
      obtain ⟨a1, a2, a3, a4⟩ := h2 i nn z y u h3 h4
      exact ⟨a1, a2, a3, a4.mono (Tr.put (e := e) (n := n) (ob := .map es' clock') hDb).stays (.refl e)⟩
    rcases hfk with ⟨h1, h2, h3, _⟩ | ⟨j, n', z', u', h1, h2, h3, h4, h5, _⟩
    · rw [h1, h3] at hK
      simp only [Option.isSome_none, Bool.false_eq_true, if_false] at hK
      refine ⟨_, setB w b (.map (es.push { key := .int k key, val := y, born := clock }) (clock + 1)), ?_, fin _ _ _ (by simp [hl]) (fun i n z yy uu h6 h7 => ?_), Tr.put hDb, hK⟩
      · unfold Instr.mapUpdate
        simp only [Sem.run_bind, run_underlying hu, Result.andThen_ok, Go.MapKept.run_getObj_map hb, hck, run_findKey hkt h2, Go.MapKept.run_setObj_map _ hb]
      · rw [Array.getElem?_push] at h7
        by_cases hil : i < E.length
        · rw [List.getElem?_append_left hil] at h6
          rw [if_neg (by omega)] at h7
          obtain ⟨a1, a2, a3, a4⟩ := hent i n z yy uu h6 h7
          exact ⟨a1, by omega, a3, a4⟩
        · have hie : i = E.length := by
            have := (List.getElem?_eq_some_iff.1 h6).1
            simp at this; omega
          subst hie
          rw [if_pos (by omega)] at h7
          simp at h6
          cases h7
          obtain ⟨rfl, rfl, rfl⟩ := h6
          exact ⟨rfl, by omega, rfl, hx⟩
    · rw [h1, h5] at hK
      simp only [Option.isSome_some, if_true] at hK
      have hu' := hent j n' key z' u' h2 (by simpa using h3)
      refine ⟨_, setB w b (.map (es.modify j fun e => { e with key := .int k key, val := y }) clock), ?_, fin _ _ _ (by simp [hl]) (fun i n z yy uu h6 h7 => ?_), Tr.put hDb, hK⟩
      · unfold Instr.mapUpdate
        have h3' : es[j]? = some u' := by simpa using h3
        simp only [Sem.run_bind, run_underlying hu, Result.andThen_ok, Go.MapKept.run_getObj_map hb, hck, run_findKey hkt h4, Nat.zero_add, h3', Option.map_some, Option.getD_some, hu'.2.2.1, Instr.keyThatStays, Instr.sameBits, beq_self_eq_true, Bool.and_self, if_true, Sem.run_pure, Go.MapKept.run_setObj_map _ hb]
      · rw [Array.getElem?_modify] at h7
        rw [List.getElem?_set] at h6
        by_cases hij : j = i
        · subst hij
          have h3' : es[j]? = some u' := by simpa using h3
          have hjl : j < E.length := (List.getElem?_eq_some_iff.1 h2).1
          simp only [if_true, hjl, Option.some.injEq, Prod.mk.injEq] at h6
          rw [if_pos rfl, h3'] at h7
          simp at h7
          obtain ⟨rfl, rfl, rfl⟩ := h6
          subst h7
          exact ⟨hu'.1, hu'.2.1, rfl, hx⟩
        · rw [if_neg hij] at h6 h7
          exact hent i n z yy uu h6 h7

theorem hmapdel_sound (hr : Rel F e D PS w) {t : TypeId} {m ix : HV} {u v : Value} {ty : TypeId} {ts : Array TypeId} {K : HV → PL → Prop} (ht0 : ts[0]? = some t) (hm : VRel (Mut F D) e w m u) (hi : VRel (Mut F D) e w ix v) (hc : hmapdel PS m ix K (mapZ P t)) :
    ∃ PS' w', (Builtin.delete_ ts ty #[u, v]).run P w = .ok (.tuple #[]) w' ∧ Rel F e D PS' w' ∧ Tr e D w e D w' ∧ K (.tup []) PS' := by
  cases hz : mapZ P t with
  | none => rw [hz] at hc; exact hc.elim
  | some qz =>
    obtain ⟨q, z⟩ := qz
    rw [hz] at hc
    obtain ⟨kt, et, i, zv0, hu, hkt, hinf, hzero, rfl⟩ := mapZ_some hz
    cases m <;> first | exact hc.elim | skip
    rename_i n ver
    cases ix <;> first | exact hc.elim | skip
    rename_i k key
    cases hi
    simp only [hmapdel] at hc
    cases hq : getP PS n <;> rw [hq] at hc <;> first | exact hc.elim | skip
    rename_i ver' clock k' E
    obtain ⟨rfl, rfl, rfl, hK⟩ := hc
    obtain ⟨p, b, hn, hp, hpv, hk, hD, es, hb, hl, hent⟩ := hr.mapAt hq
    obtain rfl := ref_val hm hp hpv hk
    have hck := run_checkKey (P := P) (w := w) hkt (k := .int k key) (by simp [IsKey]) es.isEmpty 9999
    have hfk := find_ents k k key es.toList E 0 (by simpa using hl) (fun i n y z u h1 h2 => (hent i n y z u h1 (by simpa using h2)).2.2.1)
    have hDb := (hD b).2 rfl
    have hbs : ∀ ob : Obj, (setB w b ob).heap[b]? = some ob := fun ob => (heap_set (o' := ob) hb).1
    have fin : ∀ (es' : Array MapEntry) (E' : Ents), es'.size = E'.length →
        (∀ (i : Nat) (n : Nat) (z : Int) (y : HV) (u : MapEntry), E'[i]? = some (n, z, y) → es'[i]? = some u → u.born = n ∧ n < clock ∧ u.key = .int k z ∧ VRel (Mut F D) e w y u.val) →
        Rel F e D (PS.set n (.map ver clock k E')) (setB w b (.map es' clock)) := by
      intro es' E' h1 h2
      refine hr.putObj hn hp hD ?_
      unfold PHolds
      simp only [hk]
      refine ⟨hpv.symm, b, rfl, hD, es', hbs _, h1, fun i nn z y u h3 h4 => ?_⟩
      obtain ⟨a1, a2, a3, a4⟩ := h2 i nn z y u h3 h4
      exact ⟨a1, a2, a3, a4.mono (Tr.put (e := e) (n := n) (ob := .map es' clock) hDb).stays (.refl e)⟩
    rcases hfk with ⟨_, h2, _, h3⟩ | ⟨j, n', z', u', _, h2, h3, h4, _, h5⟩
    · rw [h3] at hK
      refine ⟨_, setB w b (.map es clock), ?_, fin _ _ hl hent, Tr.put hDb, hK⟩
      unfold Builtin.delete_
      simp only [ht0, List.getElem?_toArray, List.getElem?_cons_zero, List.getElem?_cons_succ, Sem.run_bind, run_underlying hu, Result.andThen_ok, Go.MapKept.run_getObj_map hb, hck, run_findKey hkt h2, Go.MapKept.run_setObj_map _ hb, Sem.run_pure]
    · rw [h5] at hK
      have hjl : j < es.size := by rw [hl]; exact (List.getElem?_eq_some_iff.1 h2).1
      refine ⟨_, setB w b (.map (es.eraseIdxIfInBounds j) clock), ?_, fin _ _ ?_ (fun i n z yy uu h6 h7 => ?_), Tr.put hDb, hK⟩
      · unfold Builtin.delete_
        simp only [ht0, List.getElem?_toArray, List.getElem?_cons_zero, List.getElem?_cons_succ, Sem.run_bind, run_underlying hu, Result.andThen_ok, Go.MapKept.run_getObj_map hb, hck, run_findKey hkt h4, Nat.zero_add, Go.MapKept.run_setObj_map _ hb, Sem.run_pure]
      · have hjE := (List.getElem?_eq_some_iff.1 h2).1
        simp [Array.eraseIdxIfInBounds, hjl, List.length_eraseIdx, hjE, hl]
      · have h8 : (es.eraseIdxIfInBounds j)[i]? = (es.toList.eraseIdx j)[i]? := by
          rw [← Array.getElem?_toList]; simp [Array.eraseIdxIfInBounds, hjl]
        rw [h8, List.getElem?_eraseIdx] at h7
        rw [List.getElem?_eraseIdx] at h6
        split at h6
        · rename_i hij
          rw [if_pos hij] at h7
          exact hent i n z yy uu h6 (by simpa using h7)
        · rename_i hij
          rw [if_neg hij] at h7
          exact hent (i + 1) n z yy uu h6 (by simpa using h7)
theorem hmkmap_sound (hr : Rel F e D PS w) {t : TypeId} {K : HV → PL → Prop} (hc : hmkmap PS K (mapK P t)) :
    ∃ y r PS' e' D' w', (Instr.makeMap t none).run P w = .ok r w' ∧ Rel F e' D' PS' w' ∧ Tr e D w e' D' w' ∧ VRel (Mut F D') e' w' y r ∧ K y PS' := by
  cases hz : mapK P t with
  | none => rw [hz] at hc; exact hc.elim
  | some k =>
    rw [hz] at hc
    refine ⟨_, .map (some w.heap.size), _, _, _, w.alloc (.map #[] 0), rfl, hr.addObj (.map #[] 0) (.map 0 0 k []) (.map (some w.heap.size)) (fun Dn hD => ?_), Tr.add _ _ _, ?_, hc⟩
    · exact ⟨rfl, w.heap.size, rfl, hD, #[], heap_alloc_new w _, rfl, by simp⟩
    · exact .ref _ 0 _ ⟨0, .root _⟩ (by simp [← hr.len]) (Nat.le_refl _) (fun _ => rfl) rfl
theorem hrange_sound (hr : Rel F e D PS w) {t : TypeId} {m : HV} {u : Value} {K : HV → PL → Prop} (hm : VRel (Mut F D) e w m u) (hc : hrange PS m K (mapZ P t)) :
    ∃ y r PS' e' D' w', (Instr.range t u).run P w = .ok r w' ∧ Rel F e' D' PS' w' ∧ Tr e D w e' D' w' ∧ VRel (Mut F D') e' w' y r ∧ K y PS' := by
  cases hz : mapZ P t with
  | none => rw [hz] at hc; exact hc.elim
  | some qz =>
    obtain ⟨q, z⟩ := qz
    rw [hz] at hc
    obtain ⟨kt, et, i, zv0, hu, hkt, hinf, hzero, rfl⟩ := mapZ_some hz
    cases m <;> first | exact hc.elim | skip
    rename_i n ver
    simp only [hrange] at hc
    cases hq : getP PS n <;> rw [hq] at hc <;> first | exact hc.elim | skip
    rename_i ver' clock k' E
    obtain ⟨rfl, hK⟩ := hc
    obtain ⟨p, b, hn, hp, hpv, hk, hD, es, hb, hl, hent⟩ := hr.mapAt hq
    have hm' := hm
    obtain rfl := ref_val hm hp hpv hk
    refine ⟨_, .pointer (some ⟨w.heap.size, 0, none⟩), _, _, _, w.alloc (.mapIter (some b) clock #[] clock), ?_, hr.addObj (.mapIter (some b) clock #[] clock) (.iter 0 (.ref n ver) clock [] clock) (.pointer (some ⟨w.heap.size, 0, none⟩)) (fun Dn hD' => ?_), Tr.add _ _ _, ?_, hK⟩
    · unfold Instr.range
      simp only [Sem.run_bind, run_underlying hu, Result.andThen_ok, Go.MapKept.run_getObj_map hb, Sem.run_pure]
      rfl
    · exact ⟨rfl, w.heap.size, rfl, hD', b, hm'.mono (Tr.add (e := e) (.mapIter (some b) clock #[] clock) PS.length ⟨0, .root (.pointer (some ⟨w.heap.size, 0, none⟩))⟩).stays (Tr.add (e := e) (D := D) (w := w) (.mapIter (some b) clock #[] clock) PS.length _).env, heap_alloc_new w _⟩
    · exact .ref _ 0 _ ⟨0, .root _⟩ (by simp [← hr.len]) (Nat.le_refl _) (fun _ => rfl) rfl
theorem hentry_sound (hr : Rel F e D PS w) {it : HV} {u : Value} {K : HV → Prop} (hm : VRel (Mut F D) e w it u) (hc : hentry PS it K) :
    ∃ y r, (Instr.entry u).run P w = .ok r w ∧ VRel (Mut F D) e w y r ∧ K y := by
  cases it <;> first | exact hc.elim | skip
  rename_i n ver
  simp only [hentry] at hc
  cases hq : getP PS n <;> rw [hq] at hc <;> first | exact hc.elim | skip
  rename_i ver' x since seen last
  obtain ⟨rfl, hc⟩ := hc
  obtain ⟨p, b, m, hn, hp, hpv, hk, hD, hx, hb⟩ := hr.iterAt hq
  obtain rfl := ref_val hm hp hpv hk
  cases x <;> first | exact hc.elim | skip
  rename_i nm mver
  simp only at hc
  cases hqm : getP PS nm <;> rw [hqm] at hc <;> first | exact hc.elim | skip
  rename_i mv clock k E
  obtain ⟨rfl, rfl, hc⟩ := hc
  obtain ⟨pm, bm, hnm, hpm, hpvm, hkm, hDm, es, hbm, hl, hent⟩ := hr.mapAt hqm
  have := ref_val hx hpm hpvm hkm
  simp only [Value.map.injEq, Option.some.injEq] at this
  subst this
  cases hs : seen.getLast? with
  | none => rw [hs] at hc; exact hc.elim
  | some bb =>
    rw [hs] at hc
    simp only [Option.bind_some] at hc
    cases he : ment bb E with
    | none => rw [he] at hc; exact hc.elim
    | some ky =>
      obtain ⟨key, y⟩ := ky
      rw [he] at hc
      have find : ∀ (es : List MapEntry) (E : Ents), es.length = E.length → (∀ (i : Nat) (n : Nat) (x : Int) (y : HV) (u : MapEntry), E[i]? = some (n, x, y) → es[i]? = some u → u.born = n ∧ n < clock ∧ u.key = .int k x ∧ VRel (Mut F D) e w y u.val) →
          ment bb E = some (key, y) → ∃ u, es.find? (fun u => u.born == bb) = some u ∧ u.key = .int k key ∧ VRel (Mut F D) e w y u.val := by
        intro es
        induction es with
        | nil => intro E hl _ he; cases E <;> simp at hl; simp [ment] at he
        | cons u es ih =>
          intro E hl hh he
          obtain _ | ⟨⟨n, x, yy⟩, E⟩ := E
          · simp at hl
          · obtain ⟨a1, a2, a3, a4⟩ := hh 0 n x yy u rfl rfl
            simp only [ment] at he
            by_cases hb : n = bb
            · rw [if_pos hb] at he
              cases he
              exact ⟨u, by simp [List.find?_cons, a1, hb], a3, a4⟩
            · rw [if_neg hb] at he
              obtain ⟨u', h1, h2⟩ := ih E (by simpa using hl) (fun i n x y u h1 h2 => hh (i + 1) n x y u (by simpa using h1) (by simpa using h2)) he
              exact ⟨u', by rw [List.find?_cons_of_neg (by simpa [a1] using hb)]; exact h1, h2⟩
      obtain ⟨ue, h1, h2, h3⟩ := find es.toList E (by simpa using hl) (fun i n x y u h1 h2 => hent i n x y u h1 (by simpa using h2)) he
      refine ⟨_, .tuple #[ue.key, ue.val], ?_, ?_, hc⟩
      · have hback : seen.toArray.back? = some bb := by rw [List.back?_toArray]; exact hs
        have hfind : es.find? (fun u => u.born == bb) = some ue := by rw [← Array.find?_toList]; exact h1
        unfold Instr.entry
        simp [Sem.run_bind, getObj, Sem.run, hb, hbm, hback, hfind]
      · rw [h2]
        refine .tup _ _ rfl fun i a b ha hb => ?_
        match i with
        | 0 => simp at ha hb; subst ha; subst hb; exact .int _ _
        | 1 => simp at ha hb; subst ha; subst hb; exact h3
        | i + 2 => simp at ha
theorem run_choose_next {n : Nat} (hn : 0 < n) : ∃ c w1, (choose (.mapNext n)).run P w = .ok c w1 ∧ c < n ∧ (w1 = w ∨ w1 = w.drew) := by
  rw [run_choose_drew]
  by_cases h : (Question.mapNext n).forced = true
  · rw [if_pos h]; exact ⟨0, w, rfl, hn, .inl rfl⟩
  · rw [if_neg h]; exact ⟨_, w.drew, rfl, Nat.mod_lt _ hn, .inr rfl⟩
theorem hnext_sound (hr : Rel F e D PS w) {it : HV} {u : Value} {ty : TypeId} {K : HV → PL → Prop} (hm : VRel (Mut F D) e w it u) (hc : hnext PS it K) :
    ∃ y r PS' w', (Instr.next u false ty).run P w = .ok r w' ∧ Rel F e D PS' w' ∧ Tr e D w e D w' ∧ VRel (Mut F D) e w' y r ∧ K y PS' := by
  cases it <;> first | exact hc.elim | skip
  rename_i n ver
  simp only [hnext] at hc
  cases hq : getP PS n <;> rw [hq] at hc <;> first | exact hc.elim | skip
  rename_i ver' x since seen last
  obtain ⟨rfl, hc⟩ := hc
  obtain ⟨p, b, m, hn, hp, hpv, hk, hD, hx, hb⟩ := hr.iterAt hq
  obtain rfl := ref_val hm hp hpv hk
  cases x <;> first | exact hc.elim | skip
  rename_i nm mver
  simp only at hc
  cases hqm : getP PS nm <;> rw [hqm] at hc <;> first | exact hc.elim | skip
  rename_i mv clock k E
  obtain ⟨rfl, rfl, rfl, hstep, hover⟩ := hc
  obtain ⟨pm, bm, hnm, hpm, hpvm, hkm, hDm, es, hbm, hl, hent⟩ := hr.mapAt hqm
  have := ref_val hx hpm hpvm hkm
  simp only [Value.map.injEq, Option.some.injEq] at this
  subst this
  have hborn : ∀ u ∈ es, u.born < clock := by
    intro u hu
    obtain ⟨i, hi⟩ := Array.getElem?_of_mem hu
    have hiE : i < E.length := by rw [← hl]; exact (Array.getElem?_eq_some_iff.1 hi).1
    have hEi : E[i]? = some (E[i].1, E[i].2.1, E[i].2.2) := by simp [hiE]
    obtain ⟨a1, a2, _⟩ := hent i _ _ _ u hEi hi
    omega
  have hchk : (!seen.toArray.isEmpty && !es.isEmpty && es.all (fun u => decide (u.born ≥ clock))) = false := by
    cases hes : es.isEmpty
    · have : es.all (fun u => decide (u.born ≥ clock)) = false := by
        rw [Array.all_eq_false]
        have hpos : 0 < es.size := by
          rcases Nat.eq_zero_or_pos es.size with h | h
          · rw [Array.isEmpty] at hes; simp [h] at hes
          · exact h
        refine ⟨0, hpos, ?_⟩
        have := hborn es[0] (Array.getElem_mem hpos)
        simp; omega
      simp [this]
    · simp
  have hold : (es.filter fun u => !seen.toArray.contains u.born).filter (fun u => decide (u.born < clock)) = es.filter fun u => !seen.toArray.contains u.born := by
    rw [Array.filter_eq_self]
    intro u hu
    have := hborn u (Array.mem_filter.1 hu).1
    simpa using this
  have hnew : (es.filter fun u => !seen.toArray.contains u.born).filter (fun u => decide (u.born ≥ clock)) = #[] := by
    rw [Array.filter_eq_empty_iff]
    intro u hu
    have := hborn u (Array.mem_filter.1 hu).1
    simp; omega
  generalize hleft : (es.filter fun u => !seen.toArray.contains u.born) = left at hold hnew
  have hmem : ∀ u, u ∈ left ↔ u ∈ es ∧ u.born ∉ seen := by
    intro u; rw [← hleft, Array.mem_filter]; simp
  have hDb := (hD b).2 rfl
  have hcd : 0 < ((if left.isEmpty then #[none] else #[]) ++ (left ++ #[]).map some : Array (Option MapEntry)).size := by
    cases hle : left.isEmpty
    · rcases Nat.eq_zero_or_pos left.size with h | h
      · rw [Array.isEmpty] at hle; simp [h] at hle
      · simp; omega
    · simp; omega
  obtain ⟨c, w1, hch, hcl, hw1⟩ := run_choose_next (P := P) (w := w) hcd
  have hr1 : Rel F e D PS w1 ∧ Tr e D w e D w1 ∧ w1.heap = w.heap := by
    rcases hw1 with rfl | rfl
    · exact ⟨hr, .refl _ _ _, rfl⟩
    · exact ⟨grown_rel hr, Tr.drew w, rfl⟩
  obtain ⟨hr1, ht1, hheap⟩ := hr1
  obtain ⟨x, hcx⟩ : ∃ x, ((if left.isEmpty then #[none] else #[]) ++ (left ++ #[]).map some : Array (Option MapEntry))[c]? = some x := ⟨_, Array.getElem?_eq_getElem hcl⟩
  have hb1 : w1.heap[b]? = some (.mapIter (some m) clock seen.toArray clock) := by rw [hheap]; exact hb
  have hrun : (Instr.next (.pointer (some ⟨b, 0, none⟩)) false ty).run P w = (match x with
      | some u => Result.ok (.tuple #[.bool true, u.key, u.val]) (setB w1 b (.mapIter (some m) clock (seen.toArray.push u.born) clock))
      | none => .ok (.tuple #[.bool false]) w1) := by
    unfold Instr.next
    simp only [Sem.run_bind, getObj, Sem.run, hb, hbm, hchk, Result.andThen, Bool.false_eq_true, if_false]
    simp only [hleft, hold, hnew]
    have hch' : Sem.run P (choose (Question.mapNext ((if left.isEmpty then #[none] else #[]) ++ (left ++ #[]).map some : Array (Option MapEntry)).size)) w = .ok c w1 := hch
    rw [hch']
    simp only [hcx]
    cases x with
    | none => rfl
    | some u => simp only [Sem.run_bind, setObj, Sem.run, hb1, Result.andThen]; rfl
  cases x with
  | none =>
    have hemp : left.isEmpty = true := by
      cases hle : left.isEmpty
      · rw [hle] at hcx
        simp at hcx
      · rfl
    refine ⟨_, _, PS, w1, hrun, hr1, ht1, ?_, hover fun i b key y hE => ?_⟩
    · refine .tup _ _ rfl fun i a b ha hb => ?_
      match i with
      | 0 => simp at ha hb; subst ha; subst hb; exact .bool false
      | i + 1 => simp at ha
    · have hies : i < es.size := by rw [hl]; exact (List.getElem?_eq_some_iff.1 hE).1
      have hei : es[i]? = some es[i] := by simp [hies]
      obtain ⟨a1, _⟩ := hent i b key y es[i] hE hei
      by_cases hs : b ∈ seen
      · exact hs
      · have : es[i] ∈ left := (hmem _).2 ⟨Array.getElem_mem hies, by rw [a1]; exact hs⟩
        rw [Array.isEmpty_iff.1 hemp] at this
        simp at this
  | some u =>
    have hul : u ∈ left := by
      have := Array.mem_of_getElem? hcx
      rw [Array.mem_append] at this
      rcases this with h | h
      · cases hle : left.isEmpty <;> rw [hle] at h <;> simp at h
      · simpa using h
    obtain ⟨hues, hus⟩ := (hmem u).1 hul
    obtain ⟨i, hi⟩ := Array.getElem?_of_mem hues
    have hiE : i < E.length := by rw [← hl]; exact (Array.getElem?_eq_some_iff.1 hi).1
    have hEi : E[i]? = some (E[i].1, E[i].2.1, E[i].2.2) := by simp [hiE]
    obtain ⟨a1, a2, a3, a4⟩ := hent i _ _ _ u hEi hi
    have hK := hstep i E[i].1 E[i].2.1 E[i].2.2 hEi (by rw [← a1]; exact hus)
    have htp : Tr e D w1 e D (setB w1 b (.mapIter (some m) clock (seen.toArray.push u.born) clock)) := Tr.put hDb
    refine ⟨_, _, _, _, hrun, hr1.putObj hn hp hD (q' := .iter ver (.ref nm mver) clock (seen ++ [E[i].1]) clock) ?_, ht1.trans htp, ?_, hK⟩
    · unfold PHolds
      simp only [hk]
      refine ⟨hpv.symm, b, rfl, hD, m, hx.mono (ht1.trans htp).stays (.refl e), ?_⟩
      rw [← a1]
      have := (heap_set (o' := Obj.mapIter (some m) clock (seen.toArray.push u.born) clock) hb1).1
      simpa using this
    · have hv4 := a4.mono (ht1.trans htp).stays (.refl e)
      rw [a3]
      refine .tup _ _ rfl fun i a b ha hb => ?_
      match i with
      | 0 => simp at ha hb; subst ha; subst hb; exact .bool true
      | 1 => simp at ha hb; subst ha; subst hb; exact .int _ _
      | 2 => simp at ha hb; subst ha; subst hb; exact hv4
      | i + 3 => simp at ha
end
end Go.Eng
