/-
  How pieces of memory stand behind a change: a new block, a row that is written, a row that grows.
  No conditions.
-/
import Derived.Test.YtmnhpggplblbgaaGreatEngG
namespace Go.Eng
open Go
set_option linter.unusedSectionVars false
variable [Toks]
set_option linter.unusedSimpArgs false

theorem RowAt.mono {M M' : Nat → Prop} {e e' : List Pos} {w w' : World} {E : List (List HV)} {opn : Bool} {b o sz cap : Nat} (h : RowAt M e w E opn b o sz cap)
    (hs : Stays M w M' w') (he : EnvLe e e') (hb : w'.heap[b]? = w.heap[b]?) : RowAt M' e' w' E opn b o sz cap := by
  obtain ⟨h1, h2, h3, cs, ty, h4, h5, h6, h7⟩ := h
  refine ⟨h1, h2, h3, cs, ty, hb.trans h4, h5, h6, fun i l k x hi hk => ?_⟩
  obtain ⟨u, a1, a2, a3⟩ := h7 i l k x hi hk
  exact ⟨u, a1, a2, a3.mono hs he⟩
theorem PHolds.mono {M M' : Nat → Prop} {e e' : List Pos} {w w' : World} {D D' : Nat → Prop} {q : Piece} {p : Pos} (h : PHolds M e w D q p) (hs : Stays M w M' w') (he : EnvLe e e')
    (hD : ∀ b, D' b ↔ D b) (hb : ∀ b, D b → w'.heap[b]? = w.heap[b]?) (hlt : ∀ b, D b → b < w.heap.size) (hM : ∀ b, D b → M' b) : PHolds M' e' w' D' q p := by
  have hDD : D' = D := funext fun b => propext (hD b)
  subst hDD
  unfold PHolds at h ⊢
  cases q with
  | dead => exact h
  | arr ver sz E opn =>
    cases hk : p.kind with
    | arr b o sz' cap =>
      simp only [hk] at h ⊢
      obtain ⟨h1, h2, h3, h4⟩ := h
      exact ⟨h1, h2, h3, h4.mono hs he (hb b ((h3 b).2 rfl))⟩
    | nil => simp only [hk] at h ⊢; exact h
    | root v => simp only [hk] at h
    | dead => simp only [hk] at h
  | map ver clock k E =>
    cases hk : p.kind with
    | root v =>
      simp only [hk] at h ⊢
      obtain ⟨h1, b, h2, h3, es, h4, h5, h6⟩ := h
      exact ⟨h1, b, h2, h3, es, (hb b ((h3 b).2 rfl)).trans h4, h5, fun i n x y u hi hu => by
        obtain ⟨a1, a2, a3, a4⟩ := h6 i n x y u hi hu
        exact ⟨a1, a2, a3, a4.mono hs he⟩⟩
    | arr b o sz' cap => simp only [hk] at h
    | nil => simp only [hk] at h
    | dead => simp only [hk] at h
  | iter ver x since seen last =>
    cases hk : p.kind with
    | root v =>
      simp only [hk] at h ⊢
      obtain ⟨h1, b, h2, h3, m, h4, h5⟩ := h
      exact ⟨h1, b, h2, h3, m, h4.mono hs he, (hb b ((h3 b).2 rfl)).trans h5⟩
    | arr b o sz' cap => simp only [hk] at h
    | nil => simp only [hk] at h
    | dead => simp only [hk] at h

section
variable {F : Nat → Prop} {e e' : List Pos} {D D' : Nat → Nat → Prop} {PS PS' : PL} {w w' : World}
theorem Rel.next (h : Rel F e D PS w) (ht : Tr e D w e' D' w') (hlen : e'.length = PS'.length) (hout : ∀ i b, D' i b → i < PS'.length ∧ b < w'.heap.size ∧ ¬ F b)
    (hap : ∀ i j b, D' i b → D' j b → i = j)
    (hp : ∀ (i : Nat) (q : Piece) (p : Pos), PS'[i]? = some q → e'[i]? = some p →
      (PS[i]? = some q ∧ e[i]? = some p ∧ (∀ b, D' i b ↔ D i b) ∧ ∀ b, D i b → w'.heap[b]? = w.heap[b]?) ∨ PHolds (Mut F D') e' w' (D' i) q p) : Rel F e' D' PS' w' where
  len := hlen
  out := hout
  fore := fun b hb => Nat.lt_of_lt_of_le (h.fore b hb) ht.size
  apart := hap
  holds := fun i q p hq hpp => by
    rcases hp i q p hq hpp with ⟨h1, h2, h3, h4⟩ | h'
    · exact (h.holds i q p h1 h2).mono ht.stays ht.env h3 h4 (fun b hb => (h.out i b hb).2.1) (fun b hb => .inr ⟨i, (h3 b).2 hb⟩)
    · exact h'

/-- Only the count of what was drawn has turned, or nothing. -/
theorem Tr.same (hh : w'.heap = w.heap) (ho : w'.os = w.os) (ht : w'.tape = w.tape) (hu : w'.output = w.output) : Tr e D w e D w' :=
  ⟨ho, ht, hu, by rw [hh]; exact Nat.le_refl _, fun b _ _ => by rw [hh], fun i b h => .inl ⟨i, h⟩, .refl e⟩
theorem Rel.same (h : Rel F e D PS w) (hh : w'.heap = w.heap) (ho : w'.os = w.os) (ht : w'.tape = w.tape) (hu : w'.output = w.output) : Rel F e D PS w' :=
  h.next (Tr.same hh ho ht hu) h.len (fun i b hb => by rw [hh]; exact h.out i b hb) h.apart (fun i q p hq hp => .inl ⟨hq, hp, fun _ => Iff.rfl, fun b _ => by rw [hh]⟩)

/-- A new block that is nobody's. -/
theorem Tr.alloc (o : Obj) : Tr e D w e D (w.alloc o) :=
  ⟨rfl, rfl, rfl, by simp, fun b hb _ => RowKit.Below.heap_alloc w o b hb, fun i b h => .inl ⟨i, h⟩, .refl e⟩
theorem Rel.alloc (h : Rel F e D PS w) (o : Obj) : Rel F e D PS (w.alloc o) :=
  h.next (Tr.alloc o) h.len (fun i b hb => ⟨(h.out i b hb).1, by have := (h.out i b hb).2.1; simp; omega, (h.out i b hb).2.2⟩) h.apart
    (fun i q p hq hp => .inl ⟨hq, hp, fun _ => Iff.rfl, fun b hb => RowKit.Below.heap_alloc w o b (h.out i b hb).2.1⟩)

/-- A new block that is a new piece. -/
def addD (D : Nat → Nat → Prop) (n b : Nat) : Nat → Nat → Prop := fun i x => D i x ∨ (i = n ∧ x = b)
theorem Tr.add (o : Obj) (n : Nat) (p : Pos) : Tr e D w (e ++ [p]) (addD D n w.heap.size) (w.alloc o) :=
  ⟨rfl, rfl, rfl, by simp, fun b hb _ => RowKit.Below.heap_alloc w o b hb, fun i b h => by
    rcases h with h | ⟨_, rfl⟩
    · exact .inl ⟨i, h⟩
    · exact .inr (Nat.le_refl _), EnvLe.snoc e p⟩
theorem Rel.add (h : Rel F e D PS w) (cs : Array Value) (ty : TypeId) (sz cap : Nat) (E : List (List HV)) (opn : Bool) (h1 : E.length ≤ cap) (h2 : opn = false → E.length = cap) (h3 : cap ≤ maxLen)
    (h4 : cap * sz ≤ cs.size) (h5 : ∀ l ∈ E, l.length = sz)
    (h6 : ∀ (i : Nat) (l : List HV) (k : Nat) (x : HV), E[i]? = some l → l[k]? = some x → ∃ u, cs[i * sz + k]? = some u ∧ u.oneCell' = true ∧ VRel (Mut F D) e w x u) :
    Rel F (e ++ [⟨0, .arr w.heap.size 0 sz cap⟩]) (addD D PS.length w.heap.size) (PS ++ [.arr 0 sz E opn]) (w.alloc (.cells cs ty)) := by
  have ht : Tr e D w (e ++ [⟨0, .arr w.heap.size 0 sz cap⟩]) (addD D PS.length w.heap.size) (w.alloc (.cells cs ty)) := Tr.add _ _ _
  refine h.next ht (by simp [h.len]) ?_ ?_ ?_
  · intro i b hb
    rcases hb with hb | ⟨rfl, rfl⟩
    · have := h.out i b hb
      exact ⟨by simp; omega, by simp; omega, this.2.2⟩
    · exact ⟨by simp, by simp, fun hf => Nat.lt_irrefl _ (h.fore _ hf)⟩
  · intro i j b hi hj
    rcases hi with hi | ⟨rfl, rfl⟩ <;> rcases hj with hj | ⟨rfl, hb⟩
    · exact h.apart i j b hi hj
    · have := (h.out i b hi).2.1; omega
    · have := (h.out j _ hj).2.1; omega
    · rfl
  · intro i q p hq hp
    by_cases hi : i < PS.length
    · left
      rw [List.getElem?_append_left hi] at hq
      rw [List.getElem?_append_left (by rw [h.len]; exact hi)] at hp
      refine ⟨hq, hp, fun b => ⟨fun hb => ?_, fun hb => .inl hb⟩, fun b hb => RowKit.Below.heap_alloc w _ b (h.out i b hb).2.1⟩
      rcases hb with hb | ⟨rfl, _⟩
      · exact hb
      · exact absurd hi (Nat.lt_irrefl _)
    · right
      have hi' : i = PS.length := by
        have : i < (PS ++ [Piece.arr 0 sz E opn]).length := by
          rcases Nat.lt_or_ge i (PS ++ [Piece.arr 0 sz E opn]).length with h' | h'
          · exact h'
          · rw [List.getElem?_eq_none h'] at hq; cases hq
        simp at this; omega
      subst hi'
      simp at hq
      rw [← h.len] at hp
      simp at hp
      subst hq; subst hp
      refine ⟨rfl, rfl, fun x => ⟨fun hx => ?_, fun hx => .inr ⟨rfl, hx⟩⟩, h1, h2, h3, cs, ty, heap_alloc_new w _, by simpa using h4, h5, fun i l k x hi hk => ?_⟩
      · rcases hx with hx | ⟨_, hx⟩
        · exact absurd (h.out _ _ hx).1 (Nat.lt_irrefl _)
        · exact hx
      · obtain ⟨u, a1, a2, a3⟩ := h6 i l k x hi hk
        exact ⟨u, by rw [Nat.zero_add]; exact a1, a2, a3.mono ht.stays ht.env⟩

/-- A row is written in place; it may have grown, or be cut at its head. -/
theorem Tr.write {n b : Nat} {t : TypeId} {fr : Nat × Nat} {cur : Array Value} (cs : Array Value) (_hb : w.heap[b]? = some (.cells cur t fr)) (hD : D n b) {p q : Pos} (hp : e[n]? = some p) (hq : q = p ∨ p.ver < q.ver) :
    Tr e D w (e.set n q) D (w.setRow b cs) := by
  refine ⟨rfl, rfl, rfl, by simp [World.setRow], fun x hx hn => setRow_other w b x cs (fun hh => hn n (hh ▸ hD)), fun i x h => .inl ⟨i, h⟩, ?_⟩
  rcases hq with rfl | hq
  · have : e.set n q = e := by
      apply List.ext_getElem?
      intro m
      rw [List.getElem?_set]
      split
      · rename_i hm; subst hm; split
        · exact hp.symm
        · rename_i hl; rw [List.getElem?_eq_none (by omega)]
      · rfl
    rw [this]; exact .refl e
  · exact EnvLe.set e n p q hp hq
theorem Rel.write (h : Rel F e D PS w) {n b o sz cap : Nat} {ver ver' : Nat} {E E' : List (List HV)} {opn opn' : Bool} {p : Pos} (hq : getP PS n = .arr ver sz E opn) (hp : e[n]? = some p) (hpv : p.ver = ver)
    (hD : ∀ x, D n x ↔ x = b) {t : TypeId} {cur : Array Value} (hb : w.heap[b]? = some (.cells cur t (0, 0))) (cs : Array Value) (hv : (ver' = ver ∧ p.kind = .arr b o sz cap) ∨ ver < ver')
    (h1 : E'.length ≤ cap) (h2 : opn' = false → E'.length = cap) (h3 : cap ≤ maxLen) (h4 : o + cap * sz ≤ cs.size) (h5 : ∀ l ∈ E', l.length = sz)
    (h6 : ∀ (i : Nat) (l : List HV) (k : Nat) (x : HV), E'[i]? = some l → l[k]? = some x → ∃ u, cs[o + i * sz + k]? = some u ∧ u.oneCell' = true ∧ VRel (Mut F D) e w x u) :
    Rel F (e.set n ⟨ver', .arr b o sz cap⟩) D (PS.set n (.arr ver' sz E' opn')) (w.setRow b cs) ∧ Tr e D w (e.set n ⟨ver', .arr b o sz cap⟩) D (w.setRow b cs) := by
  have hn : n < PS.length := by
    have := getP_some hq (by simp)
    exact (List.getElem?_eq_some_iff.1 this).1
  have ht : Tr e D w (e.set n ⟨ver', .arr b o sz cap⟩) D (w.setRow b cs) := Tr.write cs hb ((hD b).2 rfl) hp (by
    rcases hv with ⟨rfl, hk⟩ | hv
    · left; cases p; simp_all
    · right; simpa [hpv] using hv)
  refine ⟨h.next ht (by simp [h.len]) (fun i x hx => ?_) h.apart (fun i q r hq' hr => ?_), ht⟩
  · have := h.out i x hx
    exact ⟨by simpa using this.1, by simpa [World.setRow] using this.2.1, this.2.2⟩
  · by_cases hi : n = i
    · subst hi
      right
      simp [hn] at hq'
      simp [h.len, hn] at hr
      subst hq'; subst hr
      refine ⟨rfl, rfl, hD, h1, h2, h3, cs, t, setRow_heap w b cur _ t _ hb, h4, h5, fun i l k x hi hk => ?_⟩
      obtain ⟨u, a1, a2, a3⟩ := h6 i l k x hi hk
      exact ⟨u, a1, a2, a3.mono ht.stays ht.env⟩
    · left
      rw [List.getElem?_set_ne hi] at hq'
      rw [List.getElem?_set_ne hi] at hr
      refine ⟨hq', hr, fun _ => Iff.rfl, fun x hx => setRow_other w b x cs (fun hh => hi ?_)⟩
      subst hh
      exact h.apart n i x ((hD x).2 rfl) hx

/-- A row moves to a new block. -/
def movD (D : Nat → Nat → Prop) (n b : Nat) : Nat → Nat → Prop := fun i x => if i = n then x = b else D i x
theorem Rel.move (h : Rel F e D PS w) {n sz cap : Nat} {ver ver' : Nat} {E E' : List (List HV)} {opn opn' : Bool} {p : Pos} (hq : getP PS n = .arr ver sz E opn) (hp : e[n]? = some p) (hpv : p.ver = ver)
    (cs : Array Value) (ty : TypeId) (hv : ver < ver')
    (h1 : E'.length ≤ cap) (h2 : opn' = false → E'.length = cap) (h3 : cap ≤ maxLen) (h4 : cap * sz ≤ cs.size) (h5 : ∀ l ∈ E', l.length = sz)
    (h6 : ∀ (i : Nat) (l : List HV) (k : Nat) (x : HV), E'[i]? = some l → l[k]? = some x → ∃ u, cs[i * sz + k]? = some u ∧ u.oneCell' = true ∧ VRel (Mut F D) e w x u) :
    Rel F (e.set n ⟨ver', .arr w.heap.size 0 sz cap⟩) (movD D n w.heap.size) (PS.set n (.arr ver' sz E' opn')) (w.alloc (.cells cs ty)) ∧
      Tr e D w (e.set n ⟨ver', .arr w.heap.size 0 sz cap⟩) (movD D n w.heap.size) (w.alloc (.cells cs ty)) := by
  have hn : n < PS.length := by
    have := getP_some hq (by simp)
    exact (List.getElem?_eq_some_iff.1 this).1
  have ht : Tr e D w (e.set n ⟨ver', .arr w.heap.size 0 sz cap⟩) (movD D n w.heap.size) (w.alloc (.cells cs ty)) :=
    ⟨rfl, rfl, rfl, by simp, fun b hb _ => RowKit.Below.heap_alloc w _ b hb, fun i b hb => by
      unfold movD at hb
      split at hb
      · exact .inr (by omega)
      · exact .inl ⟨i, hb⟩, EnvLe.set e n p _ hp (by simpa [hpv] using hv)⟩
  refine ⟨h.next ht (by simp [h.len]) (fun i x hx => ?_) (fun i j x hi hj => ?_) (fun i q r hq' hr => ?_), ht⟩
  · unfold movD at hx
    split at hx
    · rename_i hi; subst hi; subst hx; exact ⟨by simpa using hn, by simp, fun hf => Nat.lt_irrefl _ (h.fore _ hf)⟩
    · have := h.out i x hx; exact ⟨by simpa using this.1, by simp; omega, this.2.2⟩
  · unfold movD at hi hj
    split at hi <;> split at hj
    · omega
    · have := (h.out j x hj).2.1; omega
    · have := (h.out i x hi).2.1; omega
    · exact h.apart i j x hi hj
  · by_cases hi : n = i
    · subst hi
      right
      simp [hn] at hq'
      simp [h.len, hn] at hr
      subst hq'; subst hr
      refine ⟨rfl, rfl, fun x => by simp [movD], h1, h2, h3, cs, ty, heap_alloc_new w _, by simpa using h4, h5, fun i l k x hi hk => ?_⟩
      obtain ⟨u, a1, a2, a3⟩ := h6 i l k x hi hk
      exact ⟨u, by rw [Nat.zero_add]; exact a1, a2, a3.mono ht.stays ht.env⟩
    · left
      rw [List.getElem?_set_ne hi] at hq'
      rw [List.getElem?_set_ne hi] at hr
      refine ⟨hq', hr, fun x => ?_, fun x hx => RowKit.Below.heap_alloc w _ x (h.out i x hx).2.1⟩
      unfold movD
      rw [if_neg (fun hh => hi hh.symm)]
end
end Go.Eng
