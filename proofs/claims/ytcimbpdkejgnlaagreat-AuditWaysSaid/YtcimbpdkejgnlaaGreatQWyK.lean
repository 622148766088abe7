/-
  The blocks that are reached, sorted: whatever the order in which the map tells them.
  No conditions.
-/
import Derived.Test.YtcimbpdkejgnlaaGreatQWyA
set_option linter.unusedSectionVars false
set_option linter.unusedSimpArgs false
set_option linter.unusedVariables false
namespace Go.Proofs.YtcimbpdkejgnlaaGreat
open Go Go.Eng Go.Mo
variable [Toks]
set_option maxRecDepth 20000
attribute [local irreducible] hvc hops hop hplan hdrawP hval1 hopD HLoop
/-- Of the entries so far: their births, their keys. -/
def seenOf (l : Ents) : List Nat := l.map fun e => e.1
def keysOf (l : Ents) : List Int := l.map fun e => e.2.1
def rowAt (q : Nat) (l : Ents) : HV := if l = [] then .imm true [] else .sl q (l.length - 1) 0 l.length none
theorem nodupOf {l : Ents} (h : (seenOf l).Nodup) : l.Nodup := (List.pairwise_map.1 h).imp fun h e => h (by rw [e])
theorem bub_ok : ∀ (n : Nat) (A : List Int) (x : Int) (R : List Int), A.length = n → A.Pairwise (· ≤ ·) → ∃ B, bub n (A ++ x :: R) = B ++ R ∧ B.Perm (x :: A) ∧ B.Pairwise (· ≤ ·)
  | 0, A, x, R, hA, _ => by
    obtain rfl := List.eq_nil_of_length_eq_zero hA
    exact ⟨[x], rfl, .refl _, by simp⟩
  | n + 1, A, x, R, hA, hs => by
    have hne : A ≠ [] := by rintro rfl; simp at hA
    obtain ⟨A', a, rfl⟩ : ∃ A' a, A = A' ++ [a] := ⟨A.dropLast, A.getLast hne, (List.dropLast_concat_getLast hne).symm⟩
    have hn : A'.length = n := by simpa using hA
    subst hn
    have g1 : (A' ++ [a] ++ x :: R).getD (A'.length + 1) 0 = x := by simp [List.getD, List.getElem?_append]
    have g0 : (A' ++ [a] ++ x :: R).getD A'.length 0 = a := by simp [List.getD, List.getElem?_append]
    rw [List.pairwise_append] at hs
    rw [bub, g1, g0]
    by_cases h : x < a
    · rw [if_pos h]
      have e : ((A' ++ [a] ++ x :: R).set (A'.length + 1) a).set A'.length x = A' ++ x :: (a :: R) := by simp [List.set_append]
      rw [e]
      obtain ⟨B, h1, h2, h3⟩ := bub_ok A'.length A' x (a :: R) rfl hs.1
      refine ⟨B ++ [a], by rw [h1]; simp, ?_, List.pairwise_append.2 ⟨h3, by simp, fun u hu v hv => ?_⟩⟩
      · exact (h2.append_right [a]).trans (by simp)
      · rw [List.mem_singleton.1 hv]
        rcases List.mem_cons.1 (h2.mem_iff.1 hu) with rfl | hu
        · omega
        · exact hs.2.2 u hu a (by simp)
    · rw [if_neg h]
      refine ⟨A' ++ [a] ++ [x], by simp, ?_, List.pairwise_append.2 ⟨List.pairwise_append.2 hs, by simp, fun u hu v hv => ?_⟩⟩
      · exact List.perm_append_comm.trans (by simp)
      · rw [List.mem_singleton.1 hv]
        rcases List.mem_append.1 hu with hu | hu
        · have := hs.2.2 u hu a (by simp); omega
        · rw [List.mem_singleton.1 hu]; omega
theorem srt_go : ∀ (R A : List Int), A.Pairwise (· ≤ ·) → (srt R.length A.length (A ++ R)).Perm (A ++ R) ∧ (srt R.length A.length (A ++ R)).Pairwise (· ≤ ·)
  | [], A, h => by simpa [srt] using h
  | x :: R, A, h => by
    obtain ⟨B, h1, h2, h3⟩ := bub_ok A.length A x R rfl h
    have hl : B.length = A.length + 1 := by simpa using h2.length_eq
    rw [List.length_cons, srt, h1, ← hl]
    obtain ⟨h4, h5⟩ := srt_go R B h3
    refine ⟨h4.trans ((h2.append_right R).trans ?_), h5⟩
    exact (List.perm_middle (l₁ := A) (a := x) (l₂ := R)).symm
theorem srt_ok (l : List Int) (h : 0 < l.length) : (srt (l.length - 1) 1 l).Perm l ∧ (srt (l.length - 1) 1 l).Pairwise (· ≤ ·) := by
  cases l with
  | nil => cases h
  | cons a l => exact srt_go l [a] (by simp)
theorem srt_of {l ks : List Int} (hp : l.Perm ks) (h : 0 < l.length) (hk : ks.Pairwise (· ≤ ·)) : srt (l.length - 1) 1 l = ks :=
  List.Perm.eq_of_pairwise (fun a b _ _ h1 h2 => Int.le_antisymm h1 h2) (srt_ok l h).2 hk ((srt_ok l h).1.trans hp)
def tailAt (l : Ents) : PL := if l = [] then [] else [.arr (l.length - 1) 1 ((keysOf l).map kidL) true]
theorem mapLt {PS : PL} {n ver clock : Nat} {k : IntKind} {E : Ents} (h : getP PS n = .map ver clock k E) : n < PS.length := by
  by_cases hn : n < PS.length
  · exact hn
  · simp [getP, List.getD, List.getElem?_eq_none (Nat.le_of_not_lt hn)] at h
theorem hnext_at {PS : PL} {p n ver clock : Nat} {k : IntKind} {seen : List Nat} {E : Ents} {K : HV → PL → Prop} (gi : getP PS p = .iter 0 (.ref n ver) clock seen clock) (gm : getP PS n = .map ver clock k E)
    (h1 : ∀ (i b : Nat) (key : Int) (y : HV), E[i]? = some (b, key, y) → b ∉ seen → K (.tup [.bool true, .int k key, y]) (PS.set p (.iter 0 (.ref n ver) clock (seen ++ [b]) clock)))
    (h2 : (∀ (i b : Nat) (key : Int) (y : HV), E[i]? = some (b, key, y) → b ∈ seen) → K (.tup [.bool false]) PS) : hnext PS (.ref p 0) K := by
  show hiterOf (getP PS p) _
  rw [gi]
  refine ⟨rfl, ?_⟩
  show hmapOf (getP PS n) _
  rw [gm]
  exact ⟨rfl, rfl, rfl, h1, h2⟩
theorem hentry_at {PS : PL} {p n ver clock b : Nat} {k : IntKind} {seen : List Nat} {E : Ents} {K : HV → Prop} {key : Int} {y : HV} (gi : getP PS p = .iter 0 (.ref n ver) clock (seen ++ [b]) clock) (gm : getP PS n = .map ver clock k E)
    (he : ment b E = some (key, y)) (h : K (.tup [.int k key, y])) : hentry PS (.ref p 0) K := by
  show hiterOf (getP PS p) _
  rw [gi]
  refine ⟨rfl, ?_⟩
  show hmapOf (getP PS n) _
  rw [gm]
  refine ⟨rfl, rfl, ?_⟩
  rw [List.getLast?_concat, Option.bind_some, he]
  exact h
theorem ment_of {b : Nat} {key : Int} {y : HV} : ∀ {E : Ents} {i : Nat}, (seenOf E).Nodup → E[i]? = some (b, key, y) → ment b E = some (key, y)
  | [], i, _, h => by cases h
  | e :: E, 0, _, h => by cases h; simp [ment]
  | e :: E, i + 1, hn, h => by
    have h' : E[i]? = some (b, key, y) := h
    have hn' := List.nodup_cons.1 hn
    have hb : b ∈ seenOf E := List.mem_map.2 ⟨_, List.mem_of_getElem? h', rfl⟩
    have : e.1 ≠ b := fun hh => hn'.1 (by show e.1 ∈ seenOf E; rw [hh]; exact hb)
    simp only [ment, if_neg this]
    exact ment_of hn'.2 h'
theorem blocks_ {x : HV} {PS : PL} {ks : List Int} {k' : List Int}
    (hr : HCall Tryz.prog 129 [x] PS fun r PS1 => ∃ n ver clock E, r = .ref n ver ∧ getP PS1 n = .map ver clock .i64 E ∧ Ext [] PS PS1 ∧ keysOf E = ks ∧ (seenOf E).Nodup)
    (h0 : 0 < ks.length) (h1 : ks.length ≤ 12) (hs : ∀ l : List Int, l.Perm ks → srt (l.length - 1) 1 l = k') :
    HCall Tryz.prog 39 [x] PS fun r PS' => r = .imm false (k'.map kidL) ∧ PS' = PS := by
  refine HCall.data (.imm _ _ fun i l k y hi hk => ?_) ?_
  · rw [List.getElem?_map] at hi
    cases hj : k'[i]? with
    | none => rw [hj] at hi; cases hi
    | some z => rw [hj] at hi; cases hi; exact (by match k, hk with | 0, hk => cases hk; exact .int _ _)
  refine HCall.frz ?_
  refine enter_39 (by unfold Tryz.f39; exact rfl) ?_
  simp only [go_sem, seval, -List.reduceReplicate]
  refine pend_intro (hr.mono ?_)
  rintro _ PS1 ⟨n, ver, clock, E, rfl, hm, hx, hk, hn⟩
  simp only [go_sem, seval, -List.reduceReplicate, hm]
  have hnl := mapLt hm
  refine pend_intro (loop_rule (α := Ents) [false, false, false, false, true, false, false, false, true, true, true, true, true, true, true, true] (fun l => [(3, rowAt (PS1.length + 1) l)]) (fun l => E.length - l.length) (fun l PS' => ((∀ e ∈ l, e ∈ E) ∧ (seenOf l).Nodup) ∧ PS' = PS1 ++ .iter 0 (.ref n ver) clock (seenOf l) clock :: tailAt l) [] ⟨⟨by simp, by simp [seenOf]⟩, rfl⟩ ?_ ?_)
  · simp only [go_sem, seval, -List.reduceReplicate, rowAt]
  rintro l PS' ⟨⟨hl, hln⟩, rfl⟩
  have gi : ∀ T, getP (PS1 ++ .iter 0 (.ref n ver) clock (seenOf l) clock :: T) PS1.length = .iter 0 (.ref n ver) clock (seenOf l) clock := fun T => by simp [getP, List.getD]
  have gm : ∀ T, getP (PS1 ++ T) n = .map ver clock .i64 E := fun T => by rw [getP_app' T hnl]; exact hm
  simp only [go_sem, seval, -List.reduceReplicate]
  refine hnext_at (gi _) (gm _) (fun i b key y hE hb => ?_) (fun hall => ?_)
  · have hset : ∀ T s, (PS1 ++ Piece.iter 0 (.ref n ver) clock (seenOf l) clock :: T).set PS1.length s = PS1 ++ s :: T := fun T s => by simp [List.set_append]
    rw [hset]
    simp only [go_sem, seval, -List.reduceReplicate]
    refine hentry_at (seen := seenOf l) (b := b) (by simp [getP, List.getD]) (gm _) (ment_of hn hE) ?_
    have ht : seenOf (l ++ [(b, key, y)]) = seenOf l ++ [b] := by simp [seenOf]
    have hk' : keysOf (l ++ [(b, key, y)]) = keysOf l ++ [key] := by simp [keysOf]
    have fin : ((∀ e ∈ l ++ [(b, key, y)], e ∈ E) ∧ (seenOf (l ++ [(b, key, y)])).Nodup) := by
      refine ⟨fun e he => ?_, ?_⟩
      · rcases List.mem_append.1 he with h | h
        · exact hl e h
        · rw [List.mem_singleton.1 h]; exact List.mem_of_getElem? hE
      · rw [ht]; exact List.nodup_append.2 ⟨hln, by simp, fun a ha c hc => by rw [List.mem_singleton.1 hc]; exact fun e => hb (e ▸ ha)⟩
    have hlen : l.length < E.length := by
      refine List.Nodup.length_le_of_subset (l₁ := (b, key, y) :: l) (List.nodup_cons.2 ⟨fun h => hb (List.mem_map.2 ⟨_, h, rfl⟩), nodupOf hln⟩) fun a ha => ?_
      rcases List.mem_cons.1 ha with rfl | ha
      · exact List.mem_of_getElem? hE
      · exact hl a ha
    cases l with
    | nil =>
      simp only [go_sem, seval, -List.reduceReplicate, rowAt, tailAt]
      refine ⟨by simp, by simp, [(b, key, y)], by simp at hlen ⊢; omega, ⟨fin, ?_⟩, .inl ?_⟩
      · simp [seenOf, keysOf, kidL]
      · simp
    | cons a l =>
      have hkl : l.length + 1 = (keysOf (a :: l)).length := by simp [keysOf]
      have hel : E.length ≤ 12 := by rw [← hk] at h1; simpa [keysOf] using h1
      simp only [go_sem, seval, -List.reduceReplicate, rowAt, tailAt]
      simp only [List.length_cons] at hlen
      refine ⟨by simp, .inl ⟨hkl, ⟨by omega, by omega⟩, (a :: l) ++ [(b, key, y)], by simp; omega, ⟨fin, ?_⟩, .inl ?_⟩⟩
      · simp [seenOf, keysOf, kidL]
      · simp
  · have hp : (keysOf l).Perm ks := by
      rw [← hk]
      refine List.Perm.map _ ((List.perm_ext_iff_of_nodup (nodupOf hln) (nodupOf hn)).2 fun a => ⟨hl a, fun ha => ?_⟩)
      obtain ⟨i, hi⟩ := List.mem_iff_getElem?.1 ha
      obtain ⟨b, key, y⟩ := a
      obtain ⟨⟨b', k2, y2⟩, ha', rfl⟩ := List.mem_map.1 (hall i b key y hi)
      obtain ⟨i', hi'⟩ := List.mem_iff_getElem?.1 (hl _ ha')
      have e1 := ment_of hn hi
      rw [ment_of hn hi'] at e1
      cases e1
      exact ha'
    have hne : l ≠ [] := by
      rintro rfl
      have := hp.length_eq
      simp [keysOf] at this; omega
    have hkl : (keysOf l).length = l.length := by simp [keysOf]
    have hle : l.length = ks.length := by rw [← hkl]; exact hp.length_eq
    simp only [go_sem, seval, -List.reduceReplicate, rowAt, if_neg hne]
    have gq : getP (PS1 ++ Piece.iter 0 (.ref n ver) clock (seenOf l) clock :: tailAt l) (PS1.length + 1) = .arr (l.length - 1) 1 ((keysOf l).map kidL) true := by
      rw [tailAt, if_neg hne]; simp [getP, List.getD]
    have hso := sort_int _ (keysOf l) (PS1.length + 1) (l.length - 1) true none (by omega) (by omega) gq
    rw [hkl] at hso
    refine pend_intro (hso.mono ?_)
    rintro _ _ ⟨rfl, rfl⟩
    simp only [go_sem, seval, -List.reduceReplicate]
    have e1 : PS1 ++ Piece.iter 0 (.ref n ver) clock (seenOf l) clock :: lset (tailAt l) 0 (.arr (l.length - 1) 1 ((srt (l.length - 1) 1 (keysOf l)).map kidL) true) = (PS1 ++ [Piece.iter 0 (.ref n ver) clock (seenOf l) clock]) ++ [.arr (l.length - 1) 1 (k'.map kidL) true] := by
      have := hs _ hp
      rw [hkl] at this
      rw [this, tailAt, if_neg hne]; simp [lset]
    rw [e1]
    have hk'l : (k'.map kidL).length = l.length := by rw [List.length_map, ← hs _ hp, (srt_ok (keysOf l) (by omega)).1.length_eq, hkl]
    have e2 : PS1.length + 1 = (PS1 ++ [Piece.iter 0 (.ref n ver) clock (seenOf l) clock]).length := by simp
    rw [e2]
    have e3 : (k'.map kidL).take l.length = k'.map kidL := List.take_of_length_le (by omega)
    refine ⟨_, _, _, _, _, _, _, getP_last _ _, .sl 0 _ _ (by omega), FrzPS.last0, ?_, ?_⟩
    · simp [e3]
    · exact (hx.trans (Ext.app _ _)).trans (Ext.app _ _)
end Go.Proofs.YtcimbpdkejgnlaaGreat
