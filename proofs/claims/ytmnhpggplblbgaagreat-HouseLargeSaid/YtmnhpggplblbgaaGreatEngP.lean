/-
  The abstract meaning of an operation grows with what is asked of its outcome.
  No conditions.
-/
import Derived.Test.YtmnhpggplblbgaaGreatEngO
namespace Go.Eng
open Go
set_option linter.unusedSectionVars false
variable [Toks]
section
variable {P : Program} {PS PS' : PL} {K K' : HV → Prop}
theorem hrow_mono {q : Piece} {v i : Nat} {K K' : List HV → Prop} (hk : ∀ v, K v → K' v) (h : hrow q v i K) : hrow q v i K' := by
  unfold hrow at *; cases q <;> first | exact h.elim | exact ⟨h.1, h.2.imp fun l hl => ⟨hl.1, hk _ hl.2⟩⟩
theorem hcells_mono {s : Nat} {K K' : List HV → Prop} (hk : ∀ v, K v → K' v) {x : HV} (h : hcells PS s K x) : hcells PS s K' x := by
  unfold hcells at *; cases x <;> first | exact h.elim | exact hrow_mono (fun v hv => ⟨hv.1, hk _ hv.2⟩) h | exact ⟨h.1, hk _ h.2⟩
theorem hone_mono (hk : ∀ v, K v → K' v) {l : List HV} (h : hone K l) : hone K' l := by
  unfold hone at *; split at h <;> first | exact hk _ h | exact h.elim
theorem hload_mono (hk : ∀ v, K v → K' v) {x : HV} {o : Option (Bool × Nat)} (h : hload PS x K o) : hload PS x K' o := by
  unfold hload at *
  split at h
  · exact hcells_mono (fun v => hk _) h
  · exact hcells_mono (fun v => hone_mono hk) h
  · exact h
theorem hnil_mono (hk : ∀ v, K v → K' v) {x : HV} (h : hnil PS x K) : hnil PS x K' := by
  unfold hnil at *; split at h <;> first | exact ⟨h.1, hk _ h.2⟩ | exact hk _ h | exact h.elim
theorem hpick_mono (hk : ∀ v, K v → K' v) {c x y : HV} (h : hpick c x y K) : hpick c x y K' := by
  unfold hpick at *; cases c <;> first | exact ⟨fun e => hk _ (h.1 e), fun e => hk _ (h.2 e)⟩ | exact h.elim
theorem hfit_mono (hk : ∀ v, K v → K' v) {k : IntKind} {n : Int} (h : hfit k n K) : hfit k n K' := by
  cases k <;> first | exact ⟨h.1, hk _ h.2⟩ | exact hk _ h
theorem hint_mono (hk : ∀ v, K v → K' v) {op : BinOp} {k k' : IntKind} {a b : Int} (h : hint op k a k' b K) : hint op k a k' b K' := by
  cases op <;> first | exact ⟨h.1, hk _ h.2⟩ | exact ⟨h.1, hfit_mono hk h.2⟩ | exact ⟨h.1, h.2.1, hfit_mono hk h.2.2⟩ | exact ⟨h.1, h.2.1, hk _ h.2.2⟩
theorem hstr_mono (hk : ∀ v, K v → K' v) {op : BinOp} {a b : List UInt8} (h : hstr op a b K) : hstr op a b K' := by
  cases op <;> first | exact hk _ h | exact ⟨h.1, hk _ h.2⟩ | exact h.elim
theorem hbt_mono (hk : ∀ v, K v → K' v) {op : BinOp} {r : Bool} (h : hbt op r K) : hbt op r K' := by
  cases op <;> first | exact hk _ h | exact h.elim
theorem hbin_mono (hk : ∀ v, K v → K' v) {op : BinOp} {t : TypeId} {x y : HV} (h : hbin P PS op t x y K) : hbin P PS op t x y K' := by
  unfold hbin at *
  split at h
  · exact hint_mono hk h
  · exact hstr_mono hk h
  · exact ⟨h.1, hbt_mono hk h.2⟩
  · exact ⟨h.1, h.2.1, hbt_mono hk h.2.2⟩
  · exact ⟨h.1, hbt_mono hk h.2⟩
  · exact ⟨h.1, hbt_mono hk h.2⟩
  · exact ⟨h.1, h.2.1, h.2.2.1, h.2.2.2.1, hbt_mono hk h.2.2.2.2⟩
  · unfold heqs at *
    split at h
    · exact ⟨h.1, hbt_mono hk h.2⟩
    · exact h
  · exact hint_mono (fun v => rename_mono hk) h
  · exact hint_mono (fun v => rename_mono hk) h
  · exact hint_mono (fun v => rename_mono hk) h
  · exact hstr_mono hk h
  · exact hstr_mono hk h
  · exact hstr_mono hk h
  · exact h
theorem hun_mono (hk : ∀ v, K v → K' v) {op : UnOp} {x : HV} (h : hun op x K) : hun op x K' := by
  unfold hun at *
  split at h
  · exact hfit_mono hk h
  · exact hk _ h
  · exact hk _ h
  · exact h.elim
theorem hfield_mono (hk : ∀ v, K v → K' v) {x : HV} {o : Option (Nat × Nat)} (h : hfield PS x K o) : hfield PS x K' o := by
  unfold hfield at *
  split at h
  · cases x <;> first | exact ⟨h.1, hk _ h.2⟩ | exact hk _ h | exact h.elim
  · exact h
theorem hindexAddr_mono (hk : ∀ v, K v → K' v) {t : TypeId} {x i : HV} (h : hindexAddr P PS t x i K) : hindexAddr P PS t x i K' := by
  unfold hindexAddr at *
  split at h
  · unfold hixsl at *
    split at h
    · split at h
      · exact ⟨h.1, h.2.imp fun l hl => ⟨hl.1, hl.2.1, hk _ hl.2.2⟩⟩
      · exact ⟨h.1, h.2.1, hrow_mono (fun v hv => ⟨hv.1, hk _ hv.2⟩) h.2.2⟩
      · exact ⟨h.1, h.2.1, h.2.2.1, hk _ h.2.2.2⟩
      · exact h
    · exact h
  · unfold hixar at *
    split at h
    · split at h
      · exact ⟨h.1, h.2.1, h.2.2.1, hk _ h.2.2.2⟩
      · exact ⟨h.1, h.2.1, hk _ h.2.2⟩
      · exact h
    · exact h
theorem hpart_mono (hk : ∀ v, K v → K' v) {b : Bool} {s off : Nat} {l : List HV} (h : hpart b s off l K) : hpart b s off l K' := by
  unfold hpart at *
  split at h
  · rename_i hb; rw [if_pos hb]; exact ⟨h.1, hk _ h.2⟩
  · rename_i hb; rw [if_neg hb]; exact h.imp fun y hy => ⟨hy.1, hk _ hy.2⟩
theorem hindex_mono (hk : ∀ v, K v → K' v) {t : TypeId} {x i : HV} (h : hindex P t x i K) : hindex P t x i K' := by
  unfold hindex at *
  split at h
  · split at h
    · exact ⟨h.1, h.2.imp fun l hl => ⟨hl.1, hk _ hl.2⟩⟩
    · exact h
  · split at h
    · refine ⟨h.1, h.2.1, ?_⟩
      have h := h.2.2
      split at h
      · exact hpart_mono hk h
      · exact h
    · exact h
  · exact h
theorem hext_mono (hk : ∀ v, K v → K' v) {x : HV} {i : Nat} (h : hext x i K) : hext x i K' := by
  unfold hext at *
  cases x <;> first | exact h.elim | exact h.imp fun y hy => ⟨hy.1, hk _ hy.2⟩
theorem hfieldv_mono (hk : ∀ v, K v → K' v) {t : TypeId} {x : HV} {f : Nat} (h : hfieldv P t x f K) : hfieldv P t x f K' := by
  unfold hfieldv at *
  split at h
  · split at h
    · split at h
      · exact hpart_mono hk h
      · exact h
    · exact h
  · exact h
theorem hbnd_mono {K K' : Int → Prop} (hk : ∀ v, K v → K' v) {x : Option HV} {d : Int} (h : hbnd x d K) : hbnd x d K' := by
  unfold hbnd at *; split at h <;> first | exact hk _ h | exact h.elim
theorem hslice3_mono {K K' : Nat → Nat → Option Nat → Prop} (hk : ∀ l h m, K l h m → K' l h m) {len lim : Nat} {l h m : Option HV} (hh : hslice3 len lim l h m K) : hslice3 len lim l h m K' := by
  unfold hslice3 at *
  refine hbnd_mono (fun a ha => hbnd_mono (fun b hb => ?_) ha) hh
  split at hb
  · exact ⟨hb.1, hb.2.1, hb.2.2.1, hk _ _ _ hb.2.2.2⟩
  · exact ⟨hb.1, hb.2.1, hb.2.2.1, hb.2.2.2.1, hb.2.2.2.2.1, hk _ _ _ hb.2.2.2.2.2⟩
  · exact hb
theorem hslsl_mono (hk : ∀ v, K v → K' v) {s : Nat} {x : HV} {l h m : Option HV} (hh : hslsl PS s x l h m K) : hslsl PS s x l h m K' := by
  unfold hslsl at *
  split at hh
  · exact ⟨hh.1, hslice3_mono (fun l h m hm => by cases m <;> exact hk _ hm) hh.2⟩
  · exact ⟨hh.1, hh.2.1, hslice3_mono (fun l h m hm => by cases m <;> exact hk _ hm) hh.2.2⟩
  · exact ⟨hh.1, hslice3_mono (fun l h m hm => by cases m <;> exact hk _ hm) hh.2⟩
  · exact hh
theorem hslar_mono (hk : ∀ v, K v → K' v) {N s : Nat} {x : HV} {l h m : Option HV} (hh : hslar PS N s x l h m K) : hslar PS N s x l h m K' := by
  unfold hslar at *
  split at hh
  · exact ⟨hh.1, hh.2.1, hslice3_mono (fun l h m hm => hk _ hm) hh.2.2⟩
  · exact ⟨hh.1, hh.2.1, hh.2.2.1, hslice3_mono (fun l h m hm => hk _ hm) hh.2.2.2⟩
  · exact hh
theorem hslice_mono (hk : ∀ v, K v → K' v) {t : TypeId} {x : HV} {l h m : Option HV} (hh : hslice P PS t x l h m K) : hslice P PS t x l h m K' := by
  unfold hslice at *
  split at hh
  · unfold hslstr at *
    cases x <;> first | exact ⟨hh.1, hslice3_mono (fun l h m hm => hk _ hm) hh.2⟩ | exact hh.elim
  · split at hh
    · exact hslsl_mono hk hh
    · exact hh
  · split at hh
    · exact hslar_mono hk hh
    · exact hh
  · split at hh
    · exact hslar_mono hk hh
    · exact hh
  · exact hh
theorem hkind_mono (hk : ∀ v, K v → K' v) {k : IntKind} {n : Int} (h : hkind k n K) : hkind k n K' := by
  cases k <;> first | exact ⟨h.1, hk _ h.2⟩ | exact hk _ h
theorem hrows_mono {K K' : List (List HV) → Prop} (hk : ∀ v, K v → K' v) {s : Nat} {x : HV} (h : hrows PS s x K) : hrows PS s x K' := by
  unfold hrows at *
  split at h
  · exact ⟨h.1, hk _ h.2⟩
  · split at h
    · exact ⟨h.1, h.2.1, h.2.2.1, hk _ h.2.2.2⟩
    · exact h
  · exact ⟨h.1, hrow_mono (fun l hl => ⟨hl.1, hk _ hl.2⟩) h.2⟩
  · exact h
theorem hconv_mono (hk : ∀ v, K v → K' v) {s d : TypeId} {x : HV} (h : hconv P PS s d x K) : hconv P PS s d x K' := by
  unfold hconv at *
  split at h
  · exact h
  · split at h
    · cases x <;> first | exact hkind_mono hk h | exact hkind_mono (fun v => rename_mono hk) h | exact h.elim
    · split at h
      · exact hk _ h
      · exact ⟨h.1, hrows_mono (fun E hE => hE.imp fun l hl => ⟨hl.1, hk _ hl.2⟩) h.2⟩
      · exact h
    · exact h
theorem hconvert_mono (hk : ∀ v, K v → K' v) {s d : TypeId} {x : HV} (h : hconvert P PS s d x K) : hconvert P PS s d x K' := by
  unfold hconvert at *
  split at h
  · split at h
    · unfold hstrb at *
      split at h
      · exact ⟨h.1, h.2.1, h.2.2.1, hk _ h.2.2.2⟩
      · exact h
    · exact hconv_mono hk h
  · exact hconv_mono hk h
theorem hfill_mono {K K' : List HV → Prop} (hk : ∀ v, K v → K' v) {t : TypeId} : ∀ (ps : List (Nat × HV)) (l : List HV), hfill P t K l ps → hfill P t K' l ps := by
  intro ps
  induction ps with
  | nil => intro l h; exact hk _ h
  | cons p ps ih =>
    intro l h
    obtain ⟨i, x⟩ := p
    simp only [hfill] at h ⊢
    split at h
    · exact h
    · exact ⟨h.1, h.2.1, h.2.2.1, ih _ h.2.2.2⟩
theorem hbuild_mono (hk : ∀ v, K v → K' v) {t : TypeId} {ps : List (Nat × HV)} (h : hbuild P t ps K) : hbuild P t ps K' := by
  unfold hbuild at *
  refine ⟨h.1, ?_⟩
  have h := h.2
  split at h
  · exact hfill_mono (fun l => hk _) _ _ h
  · exact h
theorem hst_mono {K K' : List HV → Prop} (hk : ∀ v, K v → K' v) {x : HV} (h : hst x K) : hst x K' := by
  unfold hst at *; split at h <;> exact ⟨h.1, hk _ h.2⟩
theorem hfillr_mono {K K' : List (List HV) → Prop} (hk : ∀ v, K v → K' v) {s : Nat} : ∀ (ps : List (Nat × HV)) (E : List (List HV)), hfillr s K E ps → hfillr s K' E ps := by
  intro ps
  induction ps with
  | nil => intro l h; exact hk _ h
  | cons p ps ih =>
    intro E h
    obtain ⟨i, x⟩ := p
    simp only [hfillr] at h ⊢
    exact hst_mono (fun l hl => ⟨hl.1, hl.2.1, ih _ hl.2.2⟩) h
theorem hbsl_mono (hk : ∀ v, K v → K' v) {n : Nat} {ps : List (Nat × HV)} {o : Option (Nat × Nat × List HV)} (h : hbsl n ps K o) : hbsl n ps K' o := by
  unfold hbsl at *
  split at h
  · exact ⟨h.1, h.2.1, hfillr_mono (fun E => hk _) _ _ h.2.2⟩
  · exact h
theorem hmki_mono (hk : ∀ v, K v → K' v) {t : TypeId} {x : HV} (h : hmki P t x K) : hmki P t x K' := by
  unfold hmki at *
  split at h <;> first | exact hk _ h | exact h
theorem hlen_mono (hk : ∀ v, K v → K' v) {t : TypeId} {x : HV} (h : hlen P PS t x K) : hlen P PS t x K' := by
  unfold hlen at *
  split at h
  · cases x with
    | str s => exact hk _ h
    | stok i =>
      simp only at h ⊢
      cases hj : Toks.slen i with
      | none => rw [hj] at h; exact h.elim
      | some j => rw [hj] at h; exact hk _ h
    | _ => exact h.elim
  · cases x <;> first | exact fun e => hk _ (h e) | exact ⟨h.1, fun e => hk _ (h.2 e)⟩ | exact h.elim
  · exact hk _ h
  · split at h
    · exact hk _ h
    · exact h
  · exact h
theorem hlookup_mono (hk : ∀ v, K v → K' v) {m ix : HV} {ok : Bool} {z : Option (IntKind × HV)} (h : hlookup PS m ix ok K z) : hlookup PS m ix ok K' z := by
  unfold hlookup at *
  split at h
  · split at h
    · unfold hmapOf at *
      split at h
      · exact ⟨h.1, h.2.1, h.2.2.1, hk _ h.2.2.2⟩
      · exact h
    · exact h
  · exact h
theorem hminmax_mono (hk : ∀ v, K v → K' v) {b : Bool} {l : List HV} (h : hminmax b K l) : hminmax b K' l := by
  unfold hminmax at *
  split at h
  · exact ⟨h.1, hk _ h.2⟩
  · exact h
end
end Go.Eng
