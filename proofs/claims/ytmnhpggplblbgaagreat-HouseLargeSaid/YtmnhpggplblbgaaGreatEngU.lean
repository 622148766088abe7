/-
  Regions that draw their order: a plan of the orders that matter.
  No conditions.
-/
import Derived.Test.YtmnhpggplblbgaaGreatEngT
namespace Go.Eng
open Go
set_option linter.unusedSectionVars false
variable [Toks]
set_option linter.unusedSimpArgs false

/-- A call that reads the pieces, and leaves them. -/
def Reads (P : Program) (f : FuncId) (args : List HV) (PS : PL) (res : HV) : Prop := ∀ PS', Pre PS PS' → HCall P f args PS' fun x PS'' => x = res ∧ PS'' = PS'
theorem Pre.trans {PS PS' PS'' : PL} (h : Pre PS PS') (k : Pre PS' PS'') : Pre PS PS'' := fun n => by
  rcases h n with h | h
  · exact .inl h
  · rcases k n with k | k
    · exact .inl (h ▸ k)
    · exact .inr (k.trans h)
/-- Which calls only compute (0), only read (2). -/
abbrev Pu := List (Nat × Nat)
def callCls (pu : Pu) (o : Oper) : Option Nat :=
  match o.op with
  | .call ⟨.value (.func g), _, _⟩ => (match pu.lookup g with | some 0 => some 0 | some _ => some 2 | none => none)
  | _ => none
def clsD (pu : Pu) (o : Oper) : Nat := (callCls pu o).getD (cls o)
def hcallP (P : Program) (c : Nat) (args : List HV) (PS : PL) (K : HV → Prop) : Option (FuncId × List HV × List HV) → Prop
  | some (g, f, cp) => callable P g = true ∧ (match c with
    | 0 => ∃ x, Pure P g (f ++ (args ++ cp)) x ∧ K x
    | _ => ∃ x, Reads P g (f ++ (args ++ cp)) PS x ∧ K x)
  | none => False
def hcallO (P : Program) (c : Nat) (o : Oper) (fr : Fr) (PS : PL) (K : HV → Prop) : Prop :=
  match o.op with
  | .call ⟨.value f, args, _⟩ => hcallP P c (args.toList.map (ev fr)) PS K (hfun (ev fr f))
  | _ => False
def hlenO (P : Program) (o : Oper) (fr : Fr) (PS : PL) (K : HV → Prop) : Prop :=
  match o.op with
  | .call ⟨.builtin .len, args, ts⟩ => (match ts.toList, args.toList.map (ev fr) with | [t], [x] => hlenP P PS t x K | _, _ => False)
  | _ => hval P o fr PS K
def hval1 (P : Program) (pu : Pu) (o : Oper) (fr : Fr) (PS : PL) (K : HV → Prop) : Prop :=
  match callCls pu o with
  | some c => hcallO P c o fr PS K
  | none => hlenO P o fr PS K
def hopD (P : Program) (pu : Pu) (o : Oper) (fr : Fr) (PS : PL) (K : HV → PL → Prop) : Prop :=
  match callCls pu o with
  | some c => hcallO P c o fr PS (fun v => K v PS)
  | none => hop P o fr PS K
section
variable {P : Program} {pu : Pu} {PS PS' : PL} {fr fr' : Fr} {o : Oper} {K K' : HV → PL → Prop}
theorem callCls_some {c : Nat} (h : callCls pu o = some c) : (c = 0 ∨ c = 2) ∧ ∃ g args ts, o.op = .call ⟨.value (.func g), args, ts⟩ := by
  unfold callCls at h
  split at h
  · rename_i g args ts he
    refine ⟨?_, g, args, ts, he⟩
    split at h <;> cases h <;> simp
  · cases h
theorem hcallP_mono {c : Nat} {args : List HV} {q : Option (FuncId × List HV × List HV)} {K K' : HV → Prop} (hk : ∀ v, K v → K' v) (h : hcallP P c args PS K q) : hcallP P c args PS K' q := by
  unfold hcallP at *
  split at h
  · refine ⟨h.1, ?_⟩
    have h2 := h.2
    split at h2 <;> obtain ⟨x, h3, h4⟩ := h2 <;> exact ⟨x, h3, hk _ h4⟩
  · exact h
theorem hcallO_mono {c : Nat} {K K' : HV → Prop} (hk : ∀ v, K v → K' v) (h : hcallO P c o fr PS K) : hcallO P c o fr PS K' := by
  unfold hcallO at *
  split at h
  · exact hcallP_mono hk h
  · exact h
theorem hcallO_wit {c : Nat} {K : HV → Prop} (h : hcallO P c o fr PS K) : ∃ z, hcallO P c o fr PS (fun v => v = z) ∧ K z := by
  unfold hcallO hcallP at *
  split at h
  · split at h
    · obtain ⟨h1, h2⟩ := h
      split at h2 <;> obtain ⟨x, h3, h4⟩ := h2 <;> exact ⟨x, ⟨h1, x, h3, rfl⟩, h4⟩
    · exact h.elim
  · exact h.elim
theorem hcallO_pre {c : Nat} {K : HV → Prop} (hp : c = 0 ∨ Pre PS PS') (h : hcallO P c o fr PS K) : hcallO P c o fr PS' K := by
  unfold hcallO hcallP at *
  split at h
  · split at h
    · refine ⟨h.1, ?_⟩
      have h2 := h.2
      rcases c with _ | c
      · exact h2
      · obtain ⟨x, h3, h4⟩ := h2
        exact ⟨x, fun PS'' hq => h3 PS'' ((hp.resolve_left (by omega)).trans hq), h4⟩
    · exact h
  · exact h
theorem hcallO_hop {c : Nat} (h : hcallO P c o fr PS (fun v => K v PS)) : hop P o fr PS K := by
  obtain ⟨dst, op, ty, pos, after, guard⟩ := o
  unfold hcallO at h
  split at h
  · rename_i f args ts he
    simp only at he
    subst he
    simp only [hop]
    generalize hfun (ev fr f) = q at h
    cases q with
    | none => exact h.elim
    | some q =>
      obtain ⟨g, ff, cp⟩ := q
      refine ⟨h.1, ?_⟩
      have h2 := h.2
      rcases c with _ | c
      · obtain ⟨x, h3, h4⟩ := h2; exact h3.call h4
      · obtain ⟨x, h3, h4⟩ := h2; exact (h3 PS (Pre.refl PS)).mono (by rintro x PS' ⟨rfl, rfl⟩; exact h4)
  · exact h.elim
theorem hopD_hop (h : hopD P pu o fr PS K) : hop P o fr PS K := by
  unfold hopD at h
  split at h
  · exact hcallO_hop h
  · exact h
theorem hlenP_hlen {t : TypeId} {x : HV} {K : HV → Prop} (h : hlenP P PS t x K) : hlen P PS t x K := by
  obtain ⟨z, h1, h2⟩ := hlen_wit h
  exact hlen_mono (fun v hv => by subst hv; exact h2) h1
theorem hlenO_hval {K : HV → Prop} (h : hlenO P o fr PS K) : hval P o fr PS K := by
  obtain ⟨dst, op, ty, pos, after, guard⟩ := o
  unfold hlenO at h
  split at h
  · rename_i args ts he
    simp only at he
    subst he
    simp only [hval]
    generalize ts.toList = tl at h
    generalize List.map (ev fr) args.toList = xl at h
    split at h
    · exact hlenP_hlen h
    · exact h.elim
  · exact h
theorem hval1_hopD (hc : clsD pu o ≤ 2) (h : hval1 P pu o fr PS (fun v => K v PS)) : hopD P pu o fr PS K := by
  unfold hval1 at h
  unfold hopD
  unfold clsD at hc
  split at h
  · exact h
  · rename_i hn
    rw [hn] at hc
    rw [hop_val hc]
    exact hlenO_hval h
theorem hopD_mono (hk : ∀ v PS', Kept (clsD pu o) PS PS' → K v PS' → K' v PS') (h : hopD P pu o fr PS K) : hopD P pu o fr PS K' := by
  unfold hopD at *
  unfold clsD at hk
  split at h
  · rename_i c hc
    rw [hc] at hk
    obtain ⟨hc2, _⟩ := callCls_some hc
    exact hcallO_mono (fun v => hk v PS ⟨fun _ => rfl, fun _ => .refl PS, fun _ => (Pre.refl PS).shp⟩) h
  · rename_i hn
    rw [hn] at hk
    exact hop_mono hk h
theorem hlenP_wit {t : TypeId} {x : HV} {K : HV → Prop} (h : hlenP P PS t x K) : ∃ z, hlenP P PS t x (fun v => v = z) ∧ K z := by
  unfold hlenP at *
  split at h <;> rename_i hu
  · cases x with
    | str s => exact ⟨_, rfl, h⟩
    | stok i =>
      simp only at h ⊢
      cases hj : Toks.slen i with
      | none => rw [hj] at h; exact h.elim
      | some j => rw [hj] at h; exact ⟨_, rfl, h⟩
    | _ => exact h.elim
  · cases x <;> first | exact ⟨_, rfl, h⟩ | exact ⟨_, ⟨h.1, rfl⟩, h.2⟩ | exact h.elim
  · exact ⟨_, rfl, h⟩
  · split at h
    · exact ⟨_, rfl, h⟩
    · exact h.elim
  · exact h.elim
theorem hlenP_mono {t : TypeId} {x : HV} {K K' : HV → Prop} (hk : ∀ v, K v → K' v) (h : hlenP P PS t x K) : hlenP P PS t x K' := by
  unfold hlenP at *
  split at h <;> rename_i hu
  · cases x with
    | str s => exact hk _ h
    | stok i =>
      simp only at h ⊢
      cases hj : Toks.slen i with
      | none => rw [hj] at h; exact h.elim
      | some j => rw [hj] at h; exact hk _ h
    | _ => exact h
  · cases x <;> first | exact hk _ h | exact ⟨h.1, hk _ h.2⟩ | exact h
  · exact hk _ h
  · split at h
    · exact hk _ h
    · exact h
  · exact h
theorem hlenP_shp (hs : Shp PS PS') {t : TypeId} {x : HV} {K : HV → Prop} (h : hlenP P PS t x K) : hlenP P PS' t x K := by
  unfold hlenP at *
  split at h <;> rename_i hu
  · cases x <;> exact h
  · cases x <;> first | exact h | exact ⟨hs.ver h.1, h.2⟩
  · exact h
  · split at h
    · exact h
    · exact h
  · exact h
theorem hlenO_mono {K K' : HV → Prop} (hk : ∀ v, K v → K' v) (h : hlenO P o fr PS K) : hlenO P o fr PS K' := by
  unfold hlenO at *
  split at h
  · split at h
    · exact hlenP_mono hk h
    · exact h
  · exact hval_mono hk h
theorem hval1_mono {K K' : HV → Prop} (hk : ∀ v, K v → K' v) (h : hval1 P pu o fr PS K) : hval1 P pu o fr PS K' := by
  unfold hval1 at *
  split at h
  · exact hcallO_mono hk h
  · exact hlenO_mono hk h
theorem hval_wit (hn : ∀ args ts, o.op ≠ .call ⟨.builtin .len, args, ts⟩) {K : HV → Prop} (h : hval P o fr PS K) : ∃ z, hval P o fr PS (fun v => v = z) ∧ K z := by
  obtain ⟨dst, op, ty, pos, after, guard⟩ := o
  cases op with
  | move x => exact ⟨_, rfl, h⟩
  | assign x => exact ⟨_, rfl, h⟩
  | pick c x y => exact hpick_wit h
  | load t x => exact hload_wit h
  | nilCheck x => exact hnil_wit h
  | binOp op t x y _ => exact hbin_wit h
  | unOp op _ x => exact hun_wit h
  | convert s d x => exact hconvert_wit h
  | fieldAddr s x f => exact hfield_wit h
  | field t x f => exact hfieldv_wit h
  | indexAddr t x i => exact hindexAddr_wit h
  | index t x i => exact hindex_wit h
  | extract x i => exact hext_wit h
  | slice t x l h' m => exact hslice_wit h
  | build t ps => exact hbuild_wit h
  | buildSlice t n ps => exact hbsl_wit h
  | makeInterface t x => exact hmki_wit h
  | lookup t m x ok => exact hlookup_wit h
  | makeFunc fn f c => exact ⟨_, rfl, h⟩
  | call c =>
    obtain ⟨callee, args, ts⟩ := c
    cases callee with
    | builtin b =>
      cases b <;> first | exact h.elim | skip
      · exact absurd rfl (hn args ts)
      · exact hminmax_wit h
      · exact hminmax_wit h
    | _ => exact h.elim
  | _ => exact h.elim
theorem hval1_wit {K : HV → Prop} (h : hval1 P pu o fr PS K) : ∃ z, hval1 P pu o fr PS (fun v => v = z) ∧ K z := by
  unfold hval1 at *
  split at h
  · exact hcallO_wit h
  · unfold hlenO at *
    split at h
    · split at h
      · exact hlenP_wit h
      · exact h.elim
    · rename_i hn
      exact hval_wit (fun args ts he => hn args ts he) h
/-- May an operation of class a be done ahead of one of class c. -/
def compat (a c : Nat) : Bool := c ≤ 2 || a == 0 || (a == 1 && c ≤ 4) || c == 3
theorem hval1_kept {c : Nat} (hc : clsD pu o ≤ 2) (hcomp : compat (clsD pu o) c = true) (hk : Kept c PS PS') {K : HV → Prop} (h : hval1 P pu o fr PS K) : hval1 P pu o fr PS' K := by
  by_cases h2 : c ≤ 2
  · rw [hk.1 h2]; exact h
  have h34 : clsD pu o = 0 ∨ (clsD pu o = 1 ∧ Shp PS PS') ∨ Pre PS PS' := by
    unfold compat at hcomp
    simp only [Bool.or_eq_true, Bool.and_eq_true, decide_eq_true_eq, beq_iff_eq] at hcomp
    rcases hcomp with ((h' | h') | h') | h'
    · omega
    · exact .inl h'
    · rcases (by omega : c = 3 ∨ c = 4) with h3 | h3
      · exact .inr (.inr (hk.2.1 h3))
      · exact .inr (.inl ⟨h'.1, hk.2.2 h3⟩)
    · exact .inr (.inr (hk.2.1 h'))
  unfold hval1 at *
  unfold clsD at hc h34
  cases hcc : callCls pu o with
  | some d =>
    rw [hcc] at h h34
    obtain ⟨hd, _⟩ := callCls_some hcc
    refine hcallO_pre ?_ h
    rcases h34 with h' | h' | h'
    · exact .inl h'
    · have := h'.1; simp only [Option.getD_some] at this; omega
    · exact .inr h'
  | none =>
    rw [hcc] at h h34 hc
    simp only [Option.getD_none] at h34 hc
    simp only at h ⊢
    unfold hlenO at *
    split at h
    · rename_i args ts he
      have : cls o = 1 := by unfold cls; simp [he]
      split at h
      · rcases h34 with h' | h' | h'
        · omega
        · exact hlenP_shp h'.2 h
        · exact hlenP_shp h'.shp h
      · exact h
    · rcases h34 with h' | h' | h'
      · exact hval_free h' h
      · exact hval_shp h'.2 (by omega) h
      · exact hval_pre h' hc h

theorem ev_put {dst : Option Tmp} {v : HV} {x : Operand} (h : ∀ d, dst = some d → x ≠ .tmp d) : ev (hput fr dst v) x = ev fr x := by
  cases dst with
  | none => rfl
  | some d =>
    cases x with
    | tmp t =>
      have hne : d ≠ t := fun e => h d rfl (e ▸ rfl)
      simp [ev, get, hput, List.getD, List.getElem?_set_ne hne]
    | _ => rfl
theorem hput_comm (fr : Fr) {x y : Option Tmp} (v u : HV) (h : ∀ d, x = some d → y ≠ some d) : hput (hput fr x v) y u = hput (hput fr y u) x v := by
  cases x with
  | none => rfl
  | some d =>
    cases y with
    | none => rfl
    | some e =>
      have hne : d ≠ e := fun he => h d rfl (he ▸ rfl)
      simp [hput, List.set_comm _ _ hne]
theorem hval_hop {K : HV → Prop} (h : cls o ≤ 2) : hval P o fr PS K = hop P o fr PS (fun v _ => K v) := (hop_val h (fun v _ => K v)).symm
theorem hcallO_congr {c : Nat} {K : HV → Prop} (h : ∀ x ∈ o.op.operands, ev fr x = ev fr' x) : hcallO P c o fr PS K = hcallO P c o fr' PS K := by
  obtain ⟨dst, op, ty, pos, after, guard⟩ := o
  cases op <;> simp only [hcallO]
  case call cl =>
    obtain ⟨callee, args, ts⟩ := cl
    cases callee with
    | value f =>
      have hf : ev fr f = ev fr' f := h f (by simp [Op.operands, Call.operands])
      have ha : args.toList.map (ev fr) = args.toList.map (ev fr') := List.map_congr_left fun x hx => h x (by simp [Op.operands, Call.operands]; right; exact Array.mem_toList_iff.1 hx)
      simp only [hf, ha]
    | _ => rfl
theorem hopD_congr (h : ∀ x ∈ o.op.operands, ev fr x = ev fr' x) : hopD P pu o fr PS K = hopD P pu o fr' PS K := by
  unfold hopD
  split
  · exact hcallO_congr h
  · exact hop_congr h
theorem hval1_congr (hc : clsD pu o ≤ 2) {K : HV → Prop} (h : ∀ x ∈ o.op.operands, ev fr x = ev fr' x) : hval1 P pu o fr PS K = hval1 P pu o fr' PS K := by
  unfold hval1
  unfold clsD at hc
  split
  · exact hcallO_congr h
  · rename_i hn
    rw [hn] at hc
    simp only [Option.getD_none] at hc
    unfold hlenO
    split
    · rename_i args ts he
      have ha : args.toList.map (ev fr) = args.toList.map (ev fr') := List.map_congr_left fun x hx => h x (by simp [he, Op.operands, Call.operands]; exact Array.mem_toList_iff.1 hx)
      rw [ha]
    · rw [hval_hop hc, hval_hop hc]; exact hop_congr h
end
end Go.Eng
