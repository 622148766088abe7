/-
  Operations: more of what follows gives more of what they mean; what they leave of the pieces, by class; they hang on their operands alone.
  No conditions.
-/
import Derived.Test.YtmnhpggplblbgaaGreatEngR
namespace Go.Eng
open Go
set_option linter.unusedSectionVars false
variable [Toks]
set_option linter.unusedSimpArgs false

/-- What an operation of a class leaves. -/
def Kept (c : Nat) (PS PS' : PL) : Prop := (c ≤ 2 → PS' = PS) ∧ (c = 3 → Pre PS PS') ∧ (c = 4 → Shp PS PS')
section
variable {P : Program} {PS PS' : PL} {fr fr' : Fr} {o : Oper} {K K' : HV → PL → Prop}
theorem pre_append (PS : PL) (p : Piece) : Pre PS (PS ++ [p]) := fun n => by
  unfold getP
  by_cases h : n < PS.length
  · right; simp [List.getD, List.getElem?_append_left h]
  · left; simp [List.getD, List.getElem?_eq_none (Nat.le_of_not_lt h)]
theorem shp_set {n i k : Nat} {ver sz : Nat} {E : List (List HV)} {opn : Bool} {l c : List HV} (h : getP PS n = .arr ver sz E opn) (hi : E[i]? = some l) (hk : k + c.length ≤ l.length) :
    Shp PS (PS.set n (.arr ver sz (E.set i (hsplice k c l)) opn)) := by
  intro m ver' sz' E' opn' hm
  by_cases hn : m = n
  · subst hn
    rw [h] at hm; cases hm
    have hlt : m < PS.length := by
      rcases Nat.lt_or_ge m PS.length with h' | h'
      · exact h'
      · unfold getP at h; simp [List.getD, List.getElem?_eq_none h'] at h
    refine ⟨E.set i (hsplice k c l), ?_, by simp, ?_⟩
    · unfold getP; simp [List.getD, hlt]
    · intro j lj hj
      by_cases hij : j = i
      · subst hij
        rw [hi] at hj; cases hj
        have hlt2 : j < E.length := (List.getElem?_eq_some_iff.1 hi).1
        refine ⟨hsplice k c l, by simp [hlt2], ?_⟩
        unfold hsplice; simp; omega
      · exact ⟨lj, by rw [List.getElem?_set_ne (Ne.symm hij)]; exact hj, rfl⟩
  · refine ⟨E', ?_, rfl, fun j lj hj => ⟨lj, hj, rfl⟩⟩
    unfold getP at *
    simpa [List.getD, List.getElem?_set_ne (Ne.symm hn)] using hm
theorem halloc_mono {t : TypeId} (hk : ∀ v PS', Pre PS PS' → K v PS' → K' v PS') (h : halloc P t PS K) : halloc P t PS K' := by
  unfold halloc at *; split at h
  · exact hk _ _ (pre_append _ _) h
  · exact h
theorem hbox_mono {x : HV} (hk : ∀ v PS', Pre PS PS' → K v PS' → K' v PS') (h : hbox x PS K) : hbox x PS K' :=
  hst_mono (fun _ h => hk _ _ (pre_append _ _) h) h
theorem hmake_mono {l c : HV} {q : Option (Nat × Nat × List HV)} (hk : ∀ v PS', Pre PS PS' → K v PS' → K' v PS') (h : hmake PS l c K q) : hmake PS l c K' q := by
  unfold hmake at *; split at h
  · unfold hmake2 at *; split at h
    · obtain ⟨h1, h2, h3, h4, h5⟩ := h; exact ⟨h1, h2, h3, h4, hk _ _ (pre_append _ _) h5⟩
    · exact h
  · exact h
theorem hstore_mono {a x : HV} {q : Option (Bool × Nat)} {K K' : PL → Prop} (hk : ∀ PS', Shp PS PS' → K PS' → K' PS') (h : hstore PS a x K q) : hstore PS a x K' q := by
  unfold hstore at *; split at h
  · refine hst_mono ?_ h
    rintro c ⟨h1, h2⟩
    refine ⟨h1, ?_⟩
    split at h2
    · split at h2
      · rename_i hg
        obtain ⟨h3, l, h4, h5, h6⟩ := h2
        subst h3
        exact ⟨rfl, l, h4, h5, hk _ (shp_set hg h4 (by omega)) h6⟩
      · exact h2
    · exact h2
  · exact h
theorem hsrc_mono {K K' : List (List HV) → Prop} {s : Nat} {x : HV} (hk : ∀ v, K v → K' v) (h : hsrc PS s x K) : hsrc PS s x K' := by
  unfold hsrc at *; split at h
  · exact ⟨h.1, hk _ h.2⟩
  · exact hrows_mono hk h
theorem happ2_mono {s b : Nat} {x : HV} {N : List (List HV)} (hk : ∀ v PS', K v PS' → K' v PS') (h : happ2 PS s b x N K) : happ2 PS s b x N K' := by
  unfold happ2 at *; split at h
  · obtain ⟨h1, h2, h3, h4, h5⟩ := h; exact ⟨h1, h2, h3, h4, hk _ _ h5⟩
  · split at h
    · obtain ⟨h1, h2, h3 | h3⟩ := h
      · exact ⟨h1, h2, .inl ⟨h3.1, h3.2.1, hk _ _ h3.2.2⟩⟩
      · exact ⟨h1, h2, .inr ⟨h3.1, h3.2.1, hk _ _ h3.2.2⟩⟩
    · exact h
  · split at h
    · obtain ⟨h1, h2, h3, h4, h5, h6⟩ := h; exact ⟨h1, h2, h3, h4, h5, hk _ _ h6⟩
    · exact h
  · exact h
theorem happY_mono {s b : Nat} {x y : HV} {z : List HV} {A B : Prop} (hk : ∀ v PS', K v PS' → K' v PS') (h : happY PS x A B K s b z y) : happY PS x A B K' s b z y := by
  cases y
  case int k n =>
    cases k <;> first | exact ⟨h.1, h.2.1, h.2.2.1, h.2.2.2.1, happ2_mono hk h.2.2.2.2⟩ | exact ⟨h.1, hsrc_mono (fun N => happ2_mono hk) h.2⟩
  all_goals exact ⟨h.1, hsrc_mono (fun N => happ2_mono hk) h.2⟩
theorem hput2_mono {s : Nat} {x : HV} {N : Nat → List (List HV)} {K K' : PL → Prop} (hk : ∀ PS', K PS' → K' PS') (h : hput2 PS s x N K) : hput2 PS s x N K' := by
  unfold hput2 at *; split at h
  · split at h
    · obtain ⟨h1, h2, h3, h4, h5⟩ := h; exact ⟨h1, h2, h3, h4, hk _ h5⟩
    · exact h
  · obtain ⟨h0, h⟩ := h
    refine ⟨h0, ?_⟩
    split at h
    · obtain ⟨h1, l, h2, h3, h4⟩ := h; exact ⟨h1, l, h2, h3, hk _ h4⟩
    · exact h
  · exact h
theorem hbuiltin_mono {b : Builtin} {ts : List TypeId} {xs : List HV} (hk : ∀ v PS', K v PS' → K' v PS') (h : hbuiltin P b ts xs PS K) : hbuiltin P b ts xs PS K' := by
  unfold hbuiltin at *; split at h
  · exact hlen_mono (fun v => hk v PS) h
  · unfold happ at *; split at h
    · exact happY_mono hk h
    · exact h
  · unfold hcopy at *; split at h
    · exact hsrc_mono (fun N => hput2_mono fun PS' => hk _ _) h
    · exact h
  · unfold hclear at *; split at h
    · exact hput2_mono (fun PS' => hk _ _) h
    · exact h
  · unfold hmapdel at *; split at h
    · split at h
      · unfold hmapOf at *; split at h
        · exact ⟨h.1, h.2.1, h.2.2.1, hk _ _ h.2.2.2⟩
        · exact h
      · exact h
    · exact h
  · exact hminmax_mono (fun v => hk v PS) h
  · exact hminmax_mono (fun v => hk v PS) h
  · exact h
theorem hslnil_mono {op : BinOp} {t : TypeId} {x : HV} {K K' : HV → Prop} (hk : ∀ v, K v → K' v) (h : hslnil P PS op t x K) : hslnil P PS op t x K' := by
  unfold hslnil at *
  refine ⟨h.1, ?_⟩
  have h := h.2
  split at h
  · exact ⟨fun e => (h.1 e).imp (hbt_mono hk) (hbt_mono hk), fun e => hbt_mono hk (h.2 e)⟩
  · exact ⟨h.1, fun e => (h.2.1 e).imp (hbt_mono hk) (hbt_mono hk), fun e => hbt_mono hk (h.2.2 e)⟩
  · exact h
theorem hmapset_mono {m ix x : HV} {K K' : PL → Prop} {z : Option (IntKind × HV)} (hk : ∀ v, K v → K' v) (h : hmapset PS m ix x K z) : hmapset PS m ix x K' z := by
  unfold hmapset at *
  split at h
  · split at h
    · unfold hmapOf at *
      split at h
      · exact ⟨h.1, h.2.1, h.2.2.1, hk _ h.2.2.2⟩
      · exact h
    · exact h
  · exact h
theorem hmkmap_mono {z : Option IntKind} (hk : ∀ v PS', K v PS' → K' v PS') (h : hmkmap PS K z) : hmkmap PS K' z := by
  unfold hmkmap at *
  split at h
  · exact hk _ _ h
  · exact h
theorem hrange_mono {m : HV} {z : Option (IntKind × HV)} (hk : ∀ v PS', K v PS' → K' v PS') (h : hrange PS m K z) : hrange PS m K' z := by
  unfold hrange at *
  split at h
  · split at h
    · unfold hmapOf at *
      split at h
      · exact ⟨h.1, hk _ _ h.2⟩
      · exact h
    · exact h
  · exact h
theorem hnext_mono {it : HV} (hk : ∀ v PS', K v PS' → K' v PS') (h : hnext PS it K) : hnext PS it K' := by
  unfold hnext at *
  split at h
  · unfold hiterOf at *
    split at h
    · refine ⟨h.1, ?_⟩
      have h := h.2
      split at h
      · unfold hmapOf at *
        split at h
        · exact ⟨h.1, h.2.1, h.2.2.1, fun i b key y h1 h2 => hk _ _ (h.2.2.2.1 i b key y h1 h2), fun h1 => hk _ _ (h.2.2.2.2 h1)⟩
        · exact h
      · exact h
    · exact h
  · exact h
theorem hentry_mono {it : HV} {K K' : HV → Prop} (hk : ∀ v, K v → K' v) (h : hentry PS it K) : hentry PS it K' := by
  unfold hentry at *
  split at h
  · unfold hiterOf at *
    split at h
    · refine ⟨h.1, ?_⟩
      have h := h.2
      split at h
      · unfold hmapOf at *
        split at h
        · refine ⟨h.1, h.2.1, ?_⟩
          have h := h.2.2
          split at h
          · exact hk _ h
          · exact h
        · exact h
      · exact h
    · exact h
  · exact h
theorem hcallv_mono {args : List HV} {q : Option (FuncId × List HV × List HV)} (hk : ∀ v PS', K v PS' → K' v PS') (h : hcallv P args PS K q) : hcallv P args PS K' q := by
  unfold hcallv at *; split at h
  · exact ⟨h.1, h.2.mono hk⟩
  · exact h
theorem hinvoke_mono {nm : String} {x : HV} {args : List HV} (hk : ∀ v PS', K v PS' → K' v PS') (h : hinvoke P nm x args PS K) : hinvoke P nm x args PS K' := by
  cases x with
  | iface t y =>
    simp only [hinvoke] at h ⊢
    cases hg : hmeth P t nm with
    | none => rw [hg] at h; exact h.elim
    | some g => rw [hg] at h; exact ⟨h.1, h.2.mono hk⟩
  | _ => exact h.elim
theorem hassert_mono {t : TypeId} {x : HV} {ok : Bool} {d : Option TypeDesc} {K K' : HV → Prop} (hk : ∀ v, K v → K' v) (h : hassert P t x ok K d) : hassert P t x ok K' d := by
  have main : hassV P t ok K x → hassV P t ok K' x := by
    intro h
    cases x with
    | iface t' y =>
      simp only [hassV] at h ⊢
      by_cases ht : t' = t
      · rw [if_pos ht] at h ⊢; exact hk _ h
      · rw [if_neg ht] at h ⊢
        refine ⟨h.1, ?_⟩
        have h2 := h.2
        cases hz : (P.info? t).bind (·.zero) with
        | none => rw [hz] at h2; exact h2.elim
        | some z => rw [hz] at h2; exact hk _ h2
    | _ => exact h.elim
  cases d with
  | none => exact h
  | some d => cases d <;> first | exact main h | exact h
theorem hop_mono (hk : ∀ v PS', Kept (cls o) PS PS' → K v PS' → K' v PS') (h : hop P o fr PS K) : hop P o fr PS K' := by
  by_cases hc : cls o ≤ 2
  · rw [hop_val hc] at *
    exact hval_mono (fun v hv => hk v PS ⟨fun _ => rfl, fun h3 => by omega, fun h4 => by omega⟩ hv) h
  · obtain ⟨dst, op, ty, pos, after, guard⟩ := o
    cases op with
    | alloc t => exact halloc_mono (fun v PS' hp => hk v PS' ⟨fun h => by simp [cls] at h, fun _ => hp, fun _ => hp.shp⟩) h
    | box t x => exact hbox_mono (fun v PS' hp => hk v PS' ⟨fun h => by simp [cls] at h, fun _ => hp, fun _ => hp.shp⟩) h
    | makeSlice t l c => exact hmake_mono (fun v PS' hp => hk v PS' ⟨fun h => by simp [cls] at h, fun _ => hp, fun _ => hp.shp⟩) h
    | store t x y => exact hstore_mono (fun PS' hp => hk _ PS' ⟨fun h => by simp [cls] at h, fun h => by simp [cls] at h, fun _ => hp⟩) h
    | binOp op t x y t2 =>
      cases hy : isNilSl y
      · simp [cls, hy] at hc
      · simp only [hop, hbinO, hy, if_true] at h ⊢
        exact hslnil_mono (fun v hv => hk v PS ⟨fun _ => rfl, fun h => by simp [cls, hy] at h, fun h => by simp [cls, hy] at h⟩ hv) h
    | makeMap t r => cases r with
      | none => exact hmkmap_mono (fun v PS' => hk v PS' ⟨fun h => by simp [cls] at h, fun h => by simp [cls] at h, fun h => by simp [cls] at h⟩) h
      | some r => exact h.elim
    | mapUpdate t m x y => exact hmapset_mono (fun PS' => hk _ PS' ⟨fun h => by simp [cls] at h, fun h => by simp [cls] at h, fun h => by simp [cls] at h⟩) h
    | range t m => exact hrange_mono (fun v PS' => hk v PS' ⟨fun h => by simp [cls] at h, fun h => by simp [cls] at h, fun h => by simp [cls] at h⟩) h
    | next it s => cases s with
      | true => exact h.elim
      | false => exact hnext_mono (fun v PS' => hk v PS' ⟨fun h => by simp [cls] at h, fun h => by simp [cls] at h, fun h => by simp [cls] at h⟩) h
    | entry it => exact hentry_mono (fun v hv => hk v PS ⟨fun _ => rfl, fun h => by simp [cls] at h, fun h => by simp [cls] at h⟩ hv) h
    | call c =>
      obtain ⟨callee, args, ts⟩ := c
      cases callee with
      | builtin b =>
        refine hbuiltin_mono (fun v PS' => hk v PS' ?_) h
        refine ⟨fun h => absurd h hc, fun h => ?_, fun h => ?_⟩ <;> cases b <;> simp [cls] at h
      | value f => exact hcallv_mono (fun v PS' => hk v PS' ⟨fun h => by simp [cls] at h, fun h => by simp [cls] at h, fun h => by simp [cls] at h⟩) h
      | invoke r nm => exact hinvoke_mono (fun v PS' => hk v PS' ⟨fun h => by simp [cls] at h, fun h => by simp [cls] at h, fun h => by simp [cls] at h⟩) h
    | typeAssert x xt t ok => exact hassert_mono (fun v hv => hk v PS ⟨fun _ => rfl, fun h => by simp [cls] at h, fun h => by simp [cls] at h⟩ hv) h
    | _ => first | exact h.elim | (simp [cls] at hc; done)

theorem map_congr_ev {l : List Operand} (h : ∀ x ∈ l, ev fr x = ev fr' x) : l.map (ev fr) = l.map (ev fr') := List.map_congr_left h
theorem hop_congr (h : ∀ x ∈ o.op.operands, ev fr x = ev fr' x) : hop P o fr PS K = hop P o fr' PS K := by
  obtain ⟨dst, op, ty, pos, after, guard⟩ := o
  have arr : ∀ l : Array Operand, (∀ x ∈ l, ev fr x = ev fr' x) → l.toList.map (ev fr) = l.toList.map (ev fr') := fun l hl => List.map_congr_left fun x hx => hl x (Array.mem_toList_iff.1 hx)
  have pairs : ∀ ps : Array (Nat × Operand), (∀ x ∈ ps.map (·.2), ev fr x = ev fr' x) → (ps.toList.map fun p => (p.1, ev fr p.2)) = (ps.toList.map fun p => (p.1, ev fr' p.2)) := fun ps hp =>
    List.map_congr_left fun p hm => by
      rw [hp p.2 (Array.mem_map.2 ⟨p, Array.mem_toList_iff.1 hm, rfl⟩)]
  have opt : ∀ x : Option Operand, (∀ y, x = some y → ev fr y = ev fr' y) → x.map (ev fr) = x.map (ev fr') := fun x hx => by
    cases x with
    | none => rfl
    | some y => simp [hx y rfl]
  cases op <;> simp only [Op.operands] at h <;> (try simp only [hop])
  case makeMap t r => cases r <;> rfl
  case next it s =>
    cases s with
    | true => rfl
    | false => have e1 : ev fr it = ev fr' it := h it (by simp); simp only [hop, e1]
  case build t ps => rw [pairs ps (by simpa using h)]
  case buildSlice t n ps => rw [pairs ps (by simpa using h)]
  case makeFunc fn first captured => rw [arr first fun x hx => h x (by simp [hx]), arr captured fun x hx => h x (by simp [hx])]
  case call c =>
    obtain ⟨callee, args, ts⟩ := c
    have ha := arr args fun x hx => h x (by simp [Call.operands, hx])
    cases callee with
    | builtin b => simp only [ha]
    | value f =>
      have hf : ev fr f = ev fr' f := h f (by simp [Call.operands])
      simp only [ha, hf]
    | invoke r nm =>
      have hf : ev fr r = ev fr' r := h r (by simp [Call.operands])
      simp only [ha, hf]
  case slice t x lo hi mx =>
    have e1 : ev fr x = ev fr' x := h x (by cases lo <;> cases hi <;> cases mx <;> simp)
    rw [e1, opt lo fun y hy => h y (by subst hy; simp), opt hi fun y hy => h y (by subst hy; cases lo <;> simp), opt mx fun y hy => h y (by subst hy; cases lo <;> cases hi <;> simp)]
  all_goals (first | rfl | (simp_all; done))
end
end Go.Eng
