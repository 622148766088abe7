/-
  An operation that only computes has one outcome.
  No conditions.
-/
import Derived.Test.YtmnhpggplblbgaaGreatEngQ
namespace Go.Eng
open Go
set_option linter.unusedSectionVars false
variable [Toks]
set_option linter.unusedSimpArgs false
section
variable {P : Program} {PS PS' : PL} {K : HV → Prop}
theorem hrow_wit {q : Piece} {v i : Nat} {α : Type} {C : List HV → Prop} {f : List HV → α} {K : α → Prop} (h : hrow q v i fun l => C l ∧ K (f l)) : ∃ x, (hrow q v i fun l => C l ∧ f l = x) ∧ K x := by
  unfold hrow at *; cases q <;> first | exact h.elim | skip
  obtain ⟨h1, l, h2, h3, h4⟩ := h
  exact ⟨f l, ⟨h1, l, h2, h3, rfl⟩, h4⟩
theorem hcells_wit {s : Nat} {α : Type} {f : List HV → α} {K : α → Prop} {x : HV} (h : hcells PS s (fun l => K (f l)) x) : ∃ y, hcells PS s (fun l => f l = y) x ∧ K y := by
  unfold hcells at *; cases x <;> first | exact h.elim | skip
  · exact ⟨_, ⟨h.1, rfl⟩, h.2⟩
  · exact hrow_wit (f := fun l => f ((l.drop _).take s)) h
theorem hload_wit {x : HV} {o : Option (Bool × Nat)} (h : hload PS x K o) : ∃ y, hload PS x (fun v => v = y) o ∧ K y := by
  unfold hload at *
  split at h
  · exact hcells_wit (f := HV.agg) h
  · -- one cell
    have : hcells PS 1 (fun l => ∃ y, l = [y] ∧ K y) x := hcells_mono (fun l hl => by unfold hone at hl; split at hl; exact ⟨_, rfl, hl⟩; exact hl.elim) h
    obtain ⟨l, h1, y, rfl, h2⟩ := hcells_wit (f := fun l => l) (K := fun l => ∃ y, l = [y] ∧ K y) this
    exact ⟨y, hcells_mono (fun l hl => by subst hl; rfl) h1, h2⟩
  · exact h.elim
theorem hnil_wit {x : HV} (h : hnil PS x K) : ∃ y, hnil PS x (fun v => v = y) ∧ K y := by
  unfold hnil at *; split at h <;> first | exact ⟨_, ⟨h.1, rfl⟩, h.2⟩ | exact ⟨_, rfl, h⟩ | exact h.elim
theorem hpick_wit {c x y : HV} (h : hpick c x y K) : ∃ z, hpick c x y (fun v => v = z) ∧ K z := by
  unfold hpick at *
  cases c <;> first | exact h.elim | skip
  rename_i b
  cases b
  · exact ⟨y, ⟨fun e => (by cases e), fun _ => rfl⟩, h.2 rfl⟩
  · exact ⟨x, ⟨fun _ => rfl, fun e => (by cases e)⟩, h.1 rfl⟩
theorem hfit_wit {k : IntKind} {n : Int} (h : hfit k n K) : ∃ y, hfit k n (fun v => v = y) ∧ K y := by
  cases k <;> first | exact ⟨_, ⟨h.1, rfl⟩, h.2⟩ | exact ⟨_, rfl, h⟩
theorem hint_wit {op : BinOp} {k k' : IntKind} {a b : Int} (h : hint op k a k' b K) : ∃ y, hint op k a k' b (fun v => v = y) ∧ K y := by
  cases op <;> first
    | exact ⟨_, ⟨h.1, rfl⟩, h.2⟩
    | exact ⟨_, ⟨h.1, h.2.1, rfl⟩, h.2.2⟩
    | (obtain ⟨y, h1, h2⟩ := hfit_wit h.2; exact ⟨y, ⟨h.1, h1⟩, h2⟩)
    | (obtain ⟨y, h1, h2⟩ := hfit_wit h.2.2; exact ⟨y, ⟨h.1, h.2.1, h1⟩, h2⟩)
theorem hstr_wit {op : BinOp} {a b : List UInt8} (h : hstr op a b K) : ∃ y, hstr op a b (fun v => v = y) ∧ K y := by
  cases op <;> first | exact h.elim | exact ⟨_, rfl, h⟩ | exact ⟨_, ⟨h.1, rfl⟩, h.2⟩
theorem hbt_wit {op : BinOp} {r : Bool} (h : hbt op r K) : ∃ z, hbt op r (fun v => v = z) ∧ K z := by
  cases op <;> first | exact h.elim | exact ⟨_, rfl, h⟩
theorem hbin_wit {op : BinOp} {t : TypeId} {x y : HV} (h : hbin P PS op t x y K) : ∃ z, hbin P PS op t x y (fun v => v = z) ∧ K z := by
  unfold hbin at *
  split at h
  · exact hint_wit h
  · exact hstr_wit h
  · obtain ⟨z, h1, h2⟩ := hbt_wit h.2; exact ⟨z, ⟨h.1, h1⟩, h2⟩
  · obtain ⟨z, h1, h2⟩ := hbt_wit h.2.2; exact ⟨z, ⟨h.1, h.2.1, h1⟩, h2⟩
  · obtain ⟨z, h1, h2⟩ := hbt_wit h.2; exact ⟨z, ⟨h.1, h1⟩, h2⟩
  · obtain ⟨z, h1, h2⟩ := hbt_wit h.2; exact ⟨z, ⟨h.1, h1⟩, h2⟩
  · obtain ⟨z, h1, h2⟩ := hbt_wit h.2.2.2.2; exact ⟨z, ⟨h.1, h.2.1, h.2.2.1, h.2.2.2.1, h1⟩, h2⟩
  · unfold heqs at *
    split at h
    · obtain ⟨z, h1, h2⟩ := hbt_wit h.2; exact ⟨z, ⟨h.1, h1⟩, h2⟩
    · exact h.elim
  · obtain ⟨z, h1, h2⟩ := hint_wit h
    obtain ⟨z', h3, h4⟩ := rename_wit h2
    exact ⟨z', hint_mono (fun v hv => by rw [hv]; exact h3) h1, h4⟩
  · obtain ⟨z, h1, h2⟩ := hint_wit h
    obtain ⟨z', h3, h4⟩ := rename_wit h2
    exact ⟨z', hint_mono (fun v hv => by rw [hv]; exact h3) h1, h4⟩
  · obtain ⟨z, h1, h2⟩ := hint_wit h
    obtain ⟨z', h3, h4⟩ := rename_wit h2
    exact ⟨z', hint_mono (fun v hv => by rw [hv]; exact h3) h1, h4⟩
  · exact hstr_wit h
  · exact hstr_wit h
  · exact hstr_wit h
  · exact h.elim
theorem hun_wit {op : UnOp} {x : HV} (h : hun op x K) : ∃ z, hun op x (fun v => v = z) ∧ K z := by
  unfold hun at *
  split at h
  · exact hfit_wit h
  · exact ⟨_, rfl, h⟩
  · exact ⟨_, rfl, h⟩
  · exact h.elim
theorem hfield_wit {x : HV} {o : Option (Nat × Nat)} (h : hfield PS x K o) : ∃ z, hfield PS x (fun v => v = z) o ∧ K z := by
  unfold hfield at *
  split at h
  · cases x <;> first | exact h.elim | exact ⟨_, ⟨h.1, rfl⟩, h.2⟩ | exact ⟨_, rfl, h⟩
  · exact h.elim
theorem hindexAddr_wit {t : TypeId} {x i : HV} (h : hindexAddr P PS t x i K) : ∃ z, hindexAddr P PS t x i (fun v => v = z) ∧ K z := by
  unfold hindexAddr at *
  split at h
  · unfold hixsl at *
    split at h
    · split at h
      · obtain ⟨h1, l, h2, h3, h4⟩ := h; exact ⟨_, ⟨h1, l, h2, h3, rfl⟩, h4⟩
      · obtain ⟨h1, h2, h3⟩ := h
        obtain ⟨z, h4, h5⟩ := hrow_wit (f := fun _ => HV.ptr _ _ _ 0) h3
        exact ⟨z, ⟨h1, h2, h4⟩, h5⟩
      · exact ⟨_, ⟨h.1, h.2.1, h.2.2.1, rfl⟩, h.2.2.2⟩
      · exact h.elim
    · exact h.elim
  · unfold hixar at *
    split at h
    · split at h
      · exact ⟨_, ⟨h.1, h.2.1, h.2.2.1, rfl⟩, h.2.2.2⟩
      · exact ⟨_, ⟨h.1, h.2.1, rfl⟩, h.2.2⟩
      · exact h.elim
    · exact h.elim
theorem hpart_wit {b : Bool} {s off : Nat} {l : List HV} (h : hpart b s off l K) : ∃ z, hpart b s off l (fun v => v = z) ∧ K z := by
  unfold hpart at *
  cases b
  · simp only [Bool.false_eq_true, if_false] at *
    obtain ⟨y, h1, h2⟩ := h; exact ⟨y, ⟨y, h1, rfl⟩, h2⟩
  · simp only [if_true] at *
    exact ⟨_, ⟨h.1, rfl⟩, h.2⟩
theorem hindex_wit {t : TypeId} {x i : HV} (h : hindex P t x i K) : ∃ z, hindex P t x i (fun v => v = z) ∧ K z := by
  unfold hindex at *
  split at h
  · split at h
    · obtain ⟨h1, b, h2, h3⟩ := h; exact ⟨_, ⟨h1, b, h2, rfl⟩, h3⟩
    · exact h.elim
  · split at h
    · obtain ⟨h1, h2, h3⟩ := h
      split at h3
      · obtain ⟨z, h4, h5⟩ := hpart_wit h3; exact ⟨z, ⟨h1, h2, h4⟩, h5⟩
      · exact h3.elim
    · exact h.elim
  · exact h.elim
theorem hext_wit {x : HV} {i : Nat} (h : hext x i K) : ∃ z, hext x i (fun v => v = z) ∧ K z := by
  unfold hext at *
  cases x <;> first | exact h.elim | (obtain ⟨y, h1, h2⟩ := h; exact ⟨y, ⟨y, h1, rfl⟩, h2⟩)
theorem hfieldv_wit {t : TypeId} {x : HV} {f : Nat} (h : hfieldv P t x f K) : ∃ z, hfieldv P t x f (fun v => v = z) ∧ K z := by
  unfold hfieldv at *
  split at h
  · split at h
    · split at h
      · exact hpart_wit h
      · exact h.elim
    · exact h.elim
  · exact h.elim
theorem hbnd_wit {x : Option HV} {d : Int} {K : Int → Prop} (h : hbnd x d K) : ∃ n, hbnd x d (fun m => m = n) ∧ K n := by
  unfold hbnd at *; split at h <;> first | exact ⟨_, rfl, h⟩ | exact h.elim
theorem hslice3_wit {K : Nat → Nat → Option Nat → Prop} {len lim : Nat} {l h m : Option HV} (hh : hslice3 len lim l h m K) : ∃ a b c, hslice3 len lim l h m (fun a' b' c' => a' = a ∧ b' = b ∧ c' = c) ∧ K a b c := by
  unfold hslice3 at *
  obtain ⟨a, h1, h2⟩ := hbnd_wit hh
  obtain ⟨b, h3, h4⟩ := hbnd_wit h2
  cases m with
  | none =>
    obtain ⟨c1, c2, c3, hK⟩ := h4
    exact ⟨_, _, _, hbnd_mono (fun a' ha => by subst ha; exact hbnd_mono (fun b' hb => by subst hb; exact ⟨c1, c2, c3, rfl, rfl, rfl⟩) h3) h1, hK⟩
  | some m =>
    cases m <;> first | exact h4.elim | skip
    obtain ⟨c1, c2, c3, c4, c5, hK⟩ := h4
    exact ⟨_, _, _, hbnd_mono (fun a' ha => by subst ha; exact hbnd_mono (fun b' hb => by subst hb; exact ⟨c1, c2, c3, c4, c5, rfl, rfl, rfl⟩) h3) h1, hK⟩
theorem hslsl_wit {s : Nat} {x : HV} {l h m : Option HV} (hh : hslsl PS s x l h m K) : ∃ z, hslsl PS s x l h m (fun v => v = z) ∧ K z := by
  unfold hslsl at *
  split at hh
  · obtain ⟨h1, h2⟩ := hh
    obtain ⟨a, b, c, h3, h4⟩ := hslice3_wit h2
    cases c
    · exact ⟨_, ⟨h1, hslice3_mono (fun a' b' c' hx => by obtain ⟨rfl, rfl, rfl⟩ := hx; rfl) h3⟩, h4⟩
    · exact ⟨_, ⟨h1, hslice3_mono (fun a' b' c' hx => by obtain ⟨rfl, rfl, rfl⟩ := hx; rfl) h3⟩, h4⟩
  · obtain ⟨h0, h1, h2⟩ := hh
    obtain ⟨a, b, c, h3, h4⟩ := hslice3_wit h2
    cases c
    · exact ⟨_, ⟨h0, h1, hslice3_mono (fun a' b' c' hx => by obtain ⟨rfl, rfl, rfl⟩ := hx; rfl) h3⟩, h4⟩
    · exact ⟨_, ⟨h0, h1, hslice3_mono (fun a' b' c' hx => by obtain ⟨rfl, rfl, rfl⟩ := hx; rfl) h3⟩, h4⟩
  · obtain ⟨h1, h2⟩ := hh
    obtain ⟨a, b, c, h3, h4⟩ := hslice3_wit h2
    cases c
    · exact ⟨_, ⟨h1, hslice3_mono (fun a' b' c' hx => by obtain ⟨rfl, rfl, rfl⟩ := hx; rfl) h3⟩, h4⟩
    · exact ⟨_, ⟨h1, hslice3_mono (fun a' b' c' hx => by obtain ⟨rfl, rfl, rfl⟩ := hx; rfl) h3⟩, h4⟩
  · exact hh.elim
theorem hslar_wit {N s : Nat} {x : HV} {l h m : Option HV} (hh : hslar PS N s x l h m K) : ∃ z, hslar PS N s x l h m (fun v => v = z) ∧ K z := by
  unfold hslar at *
  split at hh
  · obtain ⟨h0, h1, h2⟩ := hh
    obtain ⟨a, b, c, h3, h4⟩ := hslice3_wit h2
    exact ⟨_, ⟨h0, h1, hslice3_mono (fun a' b' c' hx => by obtain ⟨rfl, rfl, rfl⟩ := hx; rfl) h3⟩, h4⟩
  · obtain ⟨h0, h1, h5, h2⟩ := hh
    obtain ⟨a, b, c, h3, h4⟩ := hslice3_wit h2
    exact ⟨_, ⟨h0, h1, h5, hslice3_mono (fun a' b' c' hx => by obtain ⟨rfl, rfl, rfl⟩ := hx; rfl) h3⟩, h4⟩
  · exact hh.elim
theorem hslice_wit {t : TypeId} {x : HV} {l h m : Option HV} (hh : hslice P PS t x l h m K) : ∃ z, hslice P PS t x l h m (fun v => v = z) ∧ K z := by
  unfold hslice at *
  split at hh
  · unfold hslstr at *
    cases x <;> first | exact hh.elim | skip
    obtain ⟨h1, h2⟩ := hh
    obtain ⟨a, b, c, h3, h4⟩ := hslice3_wit h2
    exact ⟨_, ⟨h1, hslice3_mono (fun a' b' c' hx => by obtain ⟨rfl, rfl, rfl⟩ := hx; rfl) h3⟩, h4⟩
  · split at hh
    · exact hslsl_wit hh
    · exact hh.elim
  · split at hh
    · exact hslar_wit hh
    · exact hh.elim
  · split at hh
    · exact hslar_wit hh
    · exact hh.elim
  · exact hh.elim
theorem hkind_wit {k : IntKind} {n : Int} (h : hkind k n K) : ∃ z, hkind k n (fun v => v = z) ∧ K z := by
  cases k <;> first | exact ⟨_, ⟨h.1, rfl⟩, h.2⟩ | exact ⟨_, rfl, h⟩
theorem hrows_wit {K : List (List HV) → Prop} {s : Nat} {x : HV} (h : hrows PS s x K) : ∃ E, hrows PS s x (fun v => v = E) ∧ K E := by
  unfold hrows at *
  split at h
  · exact ⟨_, ⟨h.1, rfl⟩, h.2⟩
  · split at h
    · exact ⟨_, ⟨h.1, h.2.1, h.2.2.1, rfl⟩, h.2.2.2⟩
    · exact h.elim
  · obtain ⟨h1, h2⟩ := h
    obtain ⟨E, h3, h4⟩ := hrow_wit (f := fun l => ((l.drop _).take _).map fun y => [y]) h2
    exact ⟨E, ⟨h1, h3⟩, h4⟩
  · exact h.elim
theorem hconv_wit {s d : TypeId} {x : HV} (h : hconv P PS s d x K) : ∃ z, hconv P PS s d x (fun v => v = z) ∧ K z := by
  unfold hconv at *
  split at h
  · exact h.elim
  · split at h
    · cases x <;> first | exact hkind_wit h | exact h.elim | (obtain ⟨z, h1, h2⟩ := hkind_wit h; obtain ⟨z', h3, h4⟩ := rename_wit h2; exact ⟨z', hkind_mono (fun v hv => by rw [hv]; exact h3) h1, h4⟩)
    · split at h
      · exact ⟨_, rfl, h⟩
      · obtain ⟨h1, h2⟩ := h
        obtain ⟨E, h3, l, h4, h5⟩ := hrows_wit h2
        exact ⟨_, ⟨h1, hrows_mono (fun E' hE => by subst hE; exact ⟨l, h4, rfl⟩) h3⟩, h5⟩
      · exact h.elim
    · exact h.elim
theorem hconvert_wit {s d : TypeId} {x : HV} (h : hconvert P PS s d x K) : ∃ z, hconvert P PS s d x (fun v => v = z) ∧ K z := by
  unfold hconvert at *
  split at h
  · split at h
    · unfold hstrb at *
      split at h
      · exact ⟨_, ⟨h.1, h.2.1, h.2.2.1, rfl⟩, h.2.2.2⟩
      · exact h.elim
    · exact hconv_wit h
  · exact hconv_wit h
theorem hfill_wit {K : List HV → Prop} {t : TypeId} : ∀ (ps : List (Nat × HV)) (l : List HV), hfill P t K l ps → ∃ z, hfill P t (fun v => v = z) l ps ∧ K z := by
  intro ps
  induction ps with
  | nil => intro l h; exact ⟨l, rfl, h⟩
  | cons p ps ih =>
    intro l h
    obtain ⟨i, x⟩ := p
    simp only [hfill] at h ⊢
    split at h
    · exact h.elim
    · obtain ⟨h1, h2, h3, h4⟩ := h
      obtain ⟨z, h5, h6⟩ := ih _ h4
      exact ⟨z, ⟨h1, h2, h3, h5⟩, h6⟩
theorem hbuild_wit {t : TypeId} {ps : List (Nat × HV)} (h : hbuild P t ps K) : ∃ z, hbuild P t ps (fun v => v = z) ∧ K z := by
  unfold hbuild at *
  obtain ⟨h1, h⟩ := h
  split at h
  · obtain ⟨z, h2, h3⟩ := hfill_wit _ _ h
    exact ⟨_, ⟨h1, hfill_mono (fun l hl => by subst hl; rfl) _ _ h2⟩, h3⟩
  · exact h.elim
theorem hst_wit {K : List HV → Prop} {x : HV} (h : hst x K) : ∃ z, hst x (fun v => v = z) ∧ K z := by
  unfold hst at *; split at h <;> exact ⟨_, ⟨h.1, rfl⟩, h.2⟩
theorem hfillr_wit {K : List (List HV) → Prop} {s : Nat} : ∀ (ps : List (Nat × HV)) (E : List (List HV)), hfillr s K E ps → ∃ z, hfillr s (fun v => v = z) E ps ∧ K z := by
  intro ps
  induction ps with
  | nil => intro l h; exact ⟨l, rfl, h⟩
  | cons p ps ih =>
    intro E h
    obtain ⟨i, x⟩ := p
    simp only [hfillr] at h ⊢
    obtain ⟨l, h1, h2, h3, h4⟩ := hst_wit h
    obtain ⟨z, h5, h6⟩ := ih _ h4
    exact ⟨z, hst_mono (fun l' hl => by subst hl; exact ⟨h2, h3, h5⟩) h1, h6⟩
theorem hbsl_wit {n : Nat} {ps : List (Nat × HV)} {o : Option (Nat × Nat × List HV)} (h : hbsl n ps K o) : ∃ z, hbsl n ps (fun v => v = z) o ∧ K z := by
  unfold hbsl at *
  split at h
  · obtain ⟨h1, h2, h⟩ := h
    obtain ⟨z, h3, h4⟩ := hfillr_wit _ _ h
    exact ⟨_, ⟨h1, h2, hfillr_mono (fun l hl => by subst hl; rfl) _ _ h3⟩, h4⟩
  · exact h.elim
theorem hmki_wit {t : TypeId} {x : HV} (h : hmki P t x K) : ∃ z, hmki P t x (fun v => v = z) ∧ K z := by
  unfold hmki at *
  split at h <;> first | exact ⟨_, rfl, h⟩ | exact h.elim
theorem hlookup_wit {m ix : HV} {ok : Bool} {z : Option (IntKind × HV)} (h : hlookup PS m ix ok K z) : ∃ y, hlookup PS m ix ok (fun v => v = y) z ∧ K y := by
  unfold hlookup at *
  split at h
  · split at h
    · unfold hmapOf at *
      split at h
      · exact ⟨_, ⟨h.1, h.2.1, h.2.2.1, rfl⟩, h.2.2.2⟩
      · exact h.elim
    · exact h.elim
  · exact h.elim
theorem hminmax_wit {b : Bool} {l : List HV} (h : hminmax b K l) : ∃ z, hminmax b (fun v => v = z) l ∧ K z := by
  unfold hminmax at *
  split at h
  · exact ⟨_, ⟨h.1, rfl⟩, h.2⟩
  · exact h.elim
/-- A length: outright. -/
def hlenP (P : Program) (PS : PL) (t : TypeId) (x : HV) (K : HV → Prop) : Prop :=
  match P.underlying t with
  | some .string => (match x with | .str s => K (.int .i64 s.length) | .stok i => (match Toks.slen i with | some j => K (.tok .i64 j) | none => False) | _ => False)
  | some (.slice _) => (match x with
    | .imm _ E => K (.int .i64 E.length)
    | .sl n ver _ len _ => hver (getP PS n) ver ∧ K (.int .i64 len)
    | .isl n ver _ _ len _ => hver (getP PS n) ver ∧ K (.int .i64 len)
    | _ => False)
  | some (.array n _) => K (.int .i64 n)
  | some (.pointer ar) => (match P.underlying ar with | some (.array n _) => K (.int .i64 n) | _ => False)
  | _ => False
theorem hlen_wit {t : TypeId} {x : HV} (h : hlenP P PS t x K) : ∃ z, hlen P PS t x (fun v => v = z) ∧ K z := by
  unfold hlenP at *
  unfold hlen
  split at h <;> rename_i hu <;> simp only [hu]
  · cases x with
    | str s => exact ⟨_, rfl, h⟩
    | stok i =>
      simp only at h ⊢
      cases hj : Toks.slen i with
      | none => rw [hj] at h; exact h.elim
      | some j => rw [hj] at h; exact ⟨_, rfl, h⟩
    | _ => exact h.elim
  · cases x <;> first | exact ⟨_, fun _ => rfl, h⟩ | exact ⟨_, ⟨h.1, fun _ => rfl⟩, h.2⟩ | exact h.elim
  · exact ⟨_, rfl, h⟩
  · split at h
    · rename_i hu2; simp only [hu2]; exact ⟨_, rfl, h⟩
    · exact h.elim
  · exact h.elim
end
end Go.Eng
