/-
  Operations by what they hang on: what only computes, what looks at memory, what makes memory, what writes.
  No conditions.
-/
import Derived.Test.YtmnhpggplblbgaaGreatEngP
namespace Go.Eng
open Go
set_option linter.unusedSectionVars false
variable [Toks]
set_option linter.unusedSimpArgs false

/-- The operations that leave the pieces as they are. -/
def hval (P : Program) (o : Oper) (fr : Fr) (PS : PL) (K : HV → Prop) : Prop :=
  match o.op with
  | .move x => K (ev fr x)
  | .assign x => K (ev fr x)
  | .pick c x y => hpick (ev fr c) (ev fr x) (ev fr y) K
  | .load t x => hload PS (ev fr x) K (tsz P t)
  | .nilCheck x => hnil PS (ev fr x) K
  | .binOp op t x y _ => hbin P PS op t (ev fr x) (ev fr y) K
  | .unOp op _ x => hun op (ev fr x) K
  | .convert s d x => hconvert P PS s d (ev fr x) K
  | .fieldAddr s x f => hfield PS (ev fr x) K (fldOf P s f)
  | .field t x f => hfieldv P t (ev fr x) f K
  | .indexAddr t x i => hindexAddr P PS t (ev fr x) (ev fr i) K
  | .index t x i => hindex P t (ev fr x) (ev fr i) K
  | .extract x i => hext (ev fr x) i K
  | .slice t x l h m => hslice P PS t (ev fr x) (l.map (ev fr)) (h.map (ev fr)) (m.map (ev fr)) K
  | .build t ps => hbuild P t (ps.toList.map fun p => (p.1, ev fr p.2)) K
  | .buildSlice t n ps => hbsl n (ps.toList.map fun p => (p.1, ev fr p.2)) K (mkOf P t)
  | .makeInterface t x => hmki P t (ev fr x) K
  | .lookup t m x ok => hlookup PS (ev fr m) (ev fr x) ok K (mapZ P t)
  | .makeFunc fn f c => K (.func fn (f.toList.map (ev fr)) (c.toList.map (ev fr)))
  | .call ⟨.builtin .len, args, ts⟩ => (match ts.toList, args.toList.map (ev fr) with | [t], [x] => hlen P PS t x K | _, _ => False)
  | .call ⟨.builtin .min, args, _⟩ => hminmax false K (args.toList.map (ev fr))
  | .call ⟨.builtin .max, args, _⟩ => hminmax true K (args.toList.map (ev fr))
  | _ => False
/-- 0: hangs on no piece; 1: on how pieces are shaped; 2: on what they hold; 3: makes a piece; 4: writes cells; 5: all else. -/
def cls (o : Oper) : Nat :=
  match o.op with
  | .move _ | .assign _ | .pick .. | .unOp .. | .field .. | .index .. | .extract .. | .build .. | .buildSlice .. | .makeInterface .. | .makeFunc .. => 0
  | .call ⟨.builtin .min, _, _⟩ | .call ⟨.builtin .max, _, _⟩ => 0
  | .binOp _ _ _ y _ => if isNilSl y then 5 else 1
  | .nilCheck _ | .fieldAddr .. | .indexAddr .. | .slice .. => 1
  | .call ⟨.builtin .len, _, _⟩ => 1
  | .load .. | .convert .. | .lookup .. => 2
  | .alloc _ | .box .. | .makeSlice .. => 3
  | .store .. => 4
  | _ => 5
section
variable {P : Program} {PS PS' : PL} {fr fr' : Fr} {o : Oper}
theorem hop_val (h : cls o ≤ 2) (K : HV → PL → Prop) : hop P o fr PS K = hval P o fr PS (fun v => K v PS) := by
  obtain ⟨dst, op, ty, pos, after, guard⟩ := o
  cases op with
  | call c =>
    obtain ⟨callee, args, ts⟩ := c
    cases callee with
    | builtin b =>
      cases b <;> first | (simp only [cls] at h; omega) | skip
      · rcases ts with ⟨_ | ⟨t, _ | ⟨t2, ts⟩⟩⟩ <;> rcases args with ⟨_ | ⟨x, _ | ⟨y, args⟩⟩⟩ <;> simp [hop, hval, hbuiltin]
      · simp only [hop, hval, hbuiltin]
      · simp only [hop, hval, hbuiltin]
    | _ => simp only [cls] at h; omega
  | binOp op t x y t2 =>
    cases hy : isNilSl y
    · simp only [hop, hval, hbinO, hy, Bool.false_eq_true, if_false]
    · simp only [cls, hy, if_true] at h; omega
  | _ => first | rfl | (simp only [cls] at h; omega)
theorem hval_mono {K K' : HV → Prop} (hk : ∀ v, K v → K' v) (h : hval P o fr PS K) : hval P o fr PS K' := by
  obtain ⟨dst, op, ty, pos, after, guard⟩ := o
  cases op with
  | move x => exact hk _ h
  | assign x => exact hk _ h
  | pick c x y => exact hpick_mono hk h
  | load t x => exact hload_mono hk h
  | nilCheck x => exact hnil_mono hk h
  | binOp op t x y _ => exact hbin_mono hk h
  | unOp op _ x => exact hun_mono hk h
  | convert s d x => exact hconvert_mono hk h
  | fieldAddr s x f => exact hfield_mono hk h
  | field t x f => exact hfieldv_mono hk h
  | indexAddr t x i => exact hindexAddr_mono hk h
  | index t x i => exact hindex_mono hk h
  | extract x i => exact hext_mono hk h
  | slice t x l h' m => exact hslice_mono hk h
  | build t ps => exact hbuild_mono hk h
  | buildSlice t n ps => exact hbsl_mono hk h
  | makeInterface t x => exact hmki_mono hk h
  | lookup t m x ok => exact hlookup_mono hk h
  | makeFunc fn f c => exact hk _ h
  | call c =>
    obtain ⟨callee, args, ts⟩ := c
    cases callee with
    | builtin b =>
      cases b <;> first | exact h.elim | skip
      · simp only [hval] at h ⊢
        split at h
        · exact hlen_mono hk h
        · exact h
      · exact hminmax_mono hk h
      · exact hminmax_mono hk h
    | _ => exact h.elim
  | _ => exact h.elim

/-- Pieces that were there are as they were. -/
def Pre (PS PS' : PL) : Prop := ∀ n, getP PS n = .dead ∨ getP PS' n = getP PS n
/-- Pieces that were there are shaped as they were. -/
def Shp (PS PS' : PL) : Prop := ∀ n ver sz E opn, getP PS n = .arr ver sz E opn → ∃ E', getP PS' n = .arr ver sz E' opn ∧ E'.length = E.length ∧ ∀ (i : Nat) (l : List HV), E[i]? = some l → ∃ l' : List HV, E'[i]? = some l' ∧ l'.length = l.length
theorem Pre.refl (PS : PL) : Pre PS PS := fun _ => .inr rfl
theorem Pre.shp (h : Pre PS PS') : Shp PS PS' := fun n ver sz E opn hq => by
  rcases h n with h | h
  · rw [h] at hq; cases hq
  · exact ⟨E, h.trans hq, rfl, fun i l hl => ⟨l, hl, rfl⟩⟩
theorem Shp.live (h : Shp PS PS') {n ver : Nat} (hl : hlive (getP PS n) ver) : hlive (getP PS' n) ver := by
  cases hq : getP PS n with
  | arr ver' sz E opn =>
    rw [hq] at hl
    obtain ⟨rfl, hE⟩ := hl
    obtain ⟨E', h1, h2, _⟩ := h n ver sz E opn hq
    rw [h1]
    refine ⟨rfl, hE.imp id fun hE => ?_⟩
    rintro rfl
    exact hE (List.eq_nil_of_length_eq_zero h2.symm)
  | dead => rw [hq] at hl; exact hl.elim
  | map _ _ _ _ => rw [hq] at hl; exact hl.elim
  | iter _ _ _ _ _ => rw [hq] at hl; exact hl.elim
theorem Shp.lim (h : Shp PS PS') {n i len s : Nat} {cp : Option Nat} (hl : hsz (getP PS n) s) : hlim (getP PS' n) i len cp = hlim (getP PS n) i len cp := by
  cases cp with
  | some c => rfl
  | none =>
    cases hq : getP PS n with
    | arr ver' sz E opn =>
      obtain ⟨E', h1, h2, _⟩ := h _ _ _ _ _ hq
      rw [h1]
      simp only [hlim, hrest, h2]
    | _ => rw [hq] at hl; exact hl.elim
theorem Shp.szl (h : Shp PS PS') {n ver k k' : Nat} (hl : hszl (getP PS n) ver k k') : hszl (getP PS' n) ver k k' := by
  unfold hszl at hl
  split at hl
  · rename_i v sz E opn hq
    obtain ⟨E', h1, h2, _⟩ := h n v sz E opn hq
    rw [h1]
    refine ⟨hl.1, hl.2.1.imp id fun h0 h1 => h0 ?_, hl.2.2⟩
    rw [h1] at h2
    exact List.eq_nil_of_length_eq_zero h2.symm
  · exact hl.elim
theorem Shp.ver (h : Shp PS PS') {n ver : Nat} (hl : hver (getP PS n) ver) : hver (getP PS' n) ver := by
  cases hq : getP PS n with
  | arr ver' sz E opn =>
    rw [hq] at hl
    obtain rfl := hl
    obtain ⟨E', h1, h2, _⟩ := h n ver sz E opn hq
    rw [h1]; rfl
  | dead => rw [hq] at hl; exact hl.elim
  | map _ _ _ _ => rw [hq] at hl; exact hl.elim
  | iter _ _ _ _ _ => rw [hq] at hl; exact hl.elim
theorem Shp.sz (h : Shp PS PS') {n s : Nat} (hl : hsz (getP PS n) s) : hsz (getP PS' n) s := by
  cases hq : getP PS n with
  | arr ver' sz E opn =>
    rw [hq] at hl
    obtain ⟨E', h1, h2, _⟩ := h n ver' sz E opn hq
    rw [h1]; exact hl
  | dead => rw [hq] at hl; exact hl.elim
  | map _ _ _ _ => rw [hq] at hl; exact hl.elim
  | iter _ _ _ _ _ => rw [hq] at hl; exact hl.elim
theorem Shp.row (h : Shp PS PS') {n ver i s : Nat} {X : Prop} (hl : hrow (getP PS n) ver i fun l => l.length = s ∧ X) : hrow (getP PS' n) ver i fun l => l.length = s ∧ X := by
  cases hq : getP PS n with
  | arr ver' sz E opn =>
    rw [hq] at hl
    obtain ⟨rfl, l, hl1, hl2⟩ := hl
    obtain ⟨E', h1, h2, h3⟩ := h n ver sz E opn hq
    obtain ⟨l', h4, h5⟩ := h3 i l hl1
    rw [h1]; exact ⟨rfl, l', h4, by omega, hl2.2⟩
  | dead => rw [hq] at hl; exact hl.elim
  | map _ _ _ _ => rw [hq] at hl; exact hl.elim
  | iter _ _ _ _ _ => rw [hq] at hl; exact hl.elim
theorem Pre.row (h : Pre PS PS') {n ver i : Nat} {K : List HV → Prop} (hl : hrow (getP PS n) ver i K) : hrow (getP PS' n) ver i K := by
  rcases h n with h | h
  · rw [h] at hl; exact hl.elim
  · rwa [h]
theorem hcells_pre (h : Pre PS PS') {s : Nat} {K : List HV → Prop} {x : HV} (hc : hcells PS s K x) : hcells PS' s K x := by
  unfold hcells at *; cases x <;> first | exact hc.elim | exact h.row hc | exact hc
theorem hrows_pre (h : Pre PS PS') {s : Nat} {K : List (List HV) → Prop} {x : HV} (hc : hrows PS s x K) : hrows PS' s x K := by
  unfold hrows at *
  cases x with
  | sl n ver i len cp =>
    simp only at hc ⊢
    rcases h n with h | h
    · rw [h] at hc; exact hc.elim
    · rwa [h]
  | isl n ver i k len cp => exact ⟨hc.1, h.row hc.2⟩
  | _ => exact hc

theorem hval_shp (hs : Shp PS PS') (hcl : cls o ≤ 1) {K : HV → Prop} (h : hval P o fr PS K) : hval P o fr PS' K := by
  obtain ⟨dst, op, ty, pos, after, guard⟩ := o
  cases op with
  | nilCheck x =>
    simp only [hval] at h ⊢
    unfold hnil at *
    split at h <;> first | exact ⟨hs.live h.1, h.2⟩ | exact h
  | binOp op t x y _ =>
    simp only [hval] at h ⊢
    unfold hbin at *
    split at h <;> first | exact h | exact ⟨hs.live h.1, h.2⟩ | exact ⟨h.1, h.2.1, hs.szl h.2.2.1, h.2.2.2⟩
  | lookup t m x ok => simp [cls] at hcl
  | fieldAddr s x f =>
    simp only [hval] at h ⊢
    unfold hfield at *
    split at h
    · split at h <;> first | exact ⟨hs.live h.1, h.2⟩ | exact h
    · exact h
  | indexAddr t x i =>
    simp only [hval] at h ⊢
    unfold hindexAddr at *
    split at h
    · unfold hixsl at *
      split at h
      · split at h
        · exact h
        · exact ⟨h.1, h.2.1, hs.row h.2.2⟩
        · exact ⟨h.1, h.2.1, hs.live h.2.2.1, h.2.2.2⟩
        · exact h
      · exact h
    · unfold hixar at *
      split at h
      · split at h
        · exact ⟨h.1, h.2.1, hs.live h.2.2.1, h.2.2.2⟩
        · exact h
        · exact h
      · exact h
  | slice t x l hh m =>
    simp only [hval] at h ⊢
    unfold hslice at *
    split at h
    · exact h
    · split at h
      · unfold hslsl at *
        split at h
        · exact h
        · exact ⟨hs.live h.1, hs.sz h.2.1, by rw [hs.lim h.2.1]; exact h.2.2⟩
        · exact ⟨hs.live h.1, h.2⟩
        · exact h
      · exact h
    · split at h
      · unfold hslar at *
        split at h
        · exact ⟨h.1, hs.live h.2.1, h.2.2⟩
        · exact h
        · exact h
      · exact h
    · split at h
      · unfold hslar at *
        split at h
        · exact ⟨h.1, hs.live h.2.1, h.2.2⟩
        · exact h
        · exact h
      · exact h
    · exact h
  | call c =>
    obtain ⟨callee, args, ts⟩ := c
    cases callee with
    | builtin b =>
      cases b <;> first | exact h.elim | skip
      · simp only [hval] at h ⊢
        split at h
        · unfold hlen at *
          split at h
          · exact h
          · split at h <;> first | exact h | exact ⟨hs.ver h.1, h.2⟩
          · exact h
          · exact h
          · exact h
        · exact h
      · exact h
      · exact h
    | _ => exact h.elim
  | load t x => simp [cls] at hcl
  | convert s d x => simp [cls] at hcl
  | _ => first | exact h | exact h.elim
theorem hmapOf_pre (hs : Pre PS PS') {n : Nat} {C : Nat → Nat → IntKind → Ents → Prop} (h : hmapOf (getP PS n) C) : hmapOf (getP PS' n) C := by
  rcases hs n with h2 | h2
  · rw [h2] at h; exact h.elim
  · rw [h2]; exact h
theorem hval_pre (hs : Pre PS PS') (hcl : cls o ≤ 2) {K : HV → Prop} (h : hval P o fr PS K) : hval P o fr PS' K := by
  by_cases h1 : cls o ≤ 1
  · exact hval_shp hs.shp h1 h
  · obtain ⟨dst, op, ty, pos, after, guard⟩ := o
    cases op with
    | load t x =>
      simp only [hval] at h ⊢
      unfold hload at *
      split at h
      · exact hcells_pre hs h
      · exact hcells_pre hs h
      · exact h
    | convert s d x =>
      simp only [hval] at h ⊢
      have main : ∀ x, hconv P PS s d x K → hconv P PS' s d x K := by
        intro x h
        unfold hconv at *
        split at h
        · exact h
        · split at h
          · exact h
          · split at h
            · exact h
            · exact ⟨h.1, hrows_pre hs h.2⟩
            · exact h
          · exact h
      unfold hconvert at *
      split at h
      · split at h
        · exact h
        · exact main _ h
      · exact main _ h
    | lookup t m x ok =>
      simp only [hval] at h ⊢
      unfold hlookup at *
      split at h
      · split at h
        · exact hmapOf_pre hs h
        · exact h
      · exact h
    | binOp op t x y t2 => cases hy : isNilSl y <;> simp [cls, hy] at h1 hcl
    | call c =>
      obtain ⟨callee, args, ts⟩ := c
      cases callee with
      | builtin b => cases b <;> (simp [cls] at h1 hcl)
      | _ => simp [cls] at hcl
    | _ => first | (simp [cls] at h1; done) | (simp [cls] at hcl; done)
theorem hval_free (hcl : cls o = 0) {K : HV → Prop} (h : hval P o fr PS K) : hval P o fr PS' K := by
  obtain ⟨dst, op, ty, pos, after, guard⟩ := o
  cases op with
  | call c =>
    obtain ⟨callee, args, ts⟩ := c
    cases callee with
    | builtin b => cases b <;> first | exact h | (simp [cls] at hcl; done)
    | _ => simp [cls] at hcl
  | binOp op t x y t2 => cases hy : isNilSl y <;> simp [cls, hy] at hcl
  | _ => first | exact h | (simp [cls] at hcl; done)
end
end Go.Eng
