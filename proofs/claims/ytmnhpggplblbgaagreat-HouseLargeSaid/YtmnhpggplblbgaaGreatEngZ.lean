/-
  From the abstract contract of a law to the row's statement.
  No conditions.
-/
import Derived.Test.YtmnhpggplblbgaaGreatEngY
import Derived.ProofKit
import Derived.OpenShut
import Derived.Below
import Derived.ChangeSame
import Derived.Deep.Slices
import Derived.Carry
namespace Go.Eng
open Go Go.RowKit Go.WideShapes Go.ChangeShapes Go.Deep
set_option linter.unusedSectionVars false
variable [Toks]

theorem rel_start (w : World) : Rel (fun _ => False) [] (fun _ _ => False) [] w := ⟨rfl, fun _ _ h => h.elim, fun _ h => h.elim, fun _ _ _ h => h.elim, fun i q p h => by simp at h⟩
/-- A law's walk, out of its abstract contract. -/
theorem walk_of {P : Program} {f : FuncId} {args : List HV} {vs : Array Value} {w : World} (h : HCall P f args [] fun r _ => r = .bool true)
    (hf : FRel (Mut (fun _ => False) fun _ _ => False) [] w args vs) : Calls P f vs w fun e w' => e = .returned (.bool true) ∧ Below w.heap.size w w' := by
  refine (h _ [] _ w vs (rel_start w) hf).mono ?_
  rintro en w' ⟨v, x, PS', e', D', rfl, rfl, _, ht, hv⟩
  cases hv with
  | bool b => exact ⟨rfl, ht.os, ht.tape, ht.output, ht.size, fun b hb => ht.keep b hb (fun _ h => h)⟩
theorem frel_nil {M : Nat → Prop} {e : List Pos} {w : World} : FRel M e w [] #[] := ⟨rfl, by simp⟩
theorem frel_cons {M : Nat → Prop} {e : List Pos} {w : World} {x : HV} {u : Value} {l : List HV} {vs : List Value} (h : VRel M e w x u) (k : FRel M e w l vs.toArray) : FRel M e w (x :: l) (u :: vs).toArray := by
  refine ⟨by have := k.1; simp at this ⊢; omega, fun i y v hi hv => ?_⟩
  cases i with
  | zero => simp at hi hv; subst hi; subst hv; exact h
  | succ i => exact k.2 i y v (by simpa using hi) (by simpa using hv)

theorem i64_of_wf {a : Int} (h : (Lit.int .i64 a).wf = true) : InR64 a := by
  have h : (decide (IntKind.i64.min ≤ a) && decide (a ≤ IntKind.i64.max)) = true := h
  rw [Bool.and_eq_true, decide_eq_true_iff, decide_eq_true_iff] at h
  exact h
theorem u8_of_wf {a : Int} (h : (Lit.int .u8 a).wf = true) : ∃ x : UInt8, a = x.toNat := by
  have h : (decide (IntKind.u8.min ≤ a) && decide (a ≤ IntKind.u8.max)) = true := h
  rw [Bool.and_eq_true, decide_eq_true_iff, decide_eq_true_iff] at h
  have h1 : (0 : Int) ≤ a := h.1
  have h2 : a ≤ 255 := h.2
  exact ⟨UInt8.ofNat a.toNat, by simp; omega⟩
section
variable {H : Type} {enc : TypeId × Value → H} {P : Program}
/-- The row's last step where all that is known of the call's end is that what was there is as it was. -/
theorem post_new {f : Func} {s : ChangeSpec} {apart fresh handsOn again : Bool} {W W' : World} {args : Array Value} {v : Value} {ds gs : List (DataW H)} {before pa pv : List MemPlace}
    (hW : DataW.Whole enc P f.params.toList s.vars apart W args.toList ds gs before)
    (hres : ∀ (b : Nat) (sp : Nat → Bool) (hd : Bool), DataW.TrodAll enc P W' b sp hd f.resultTypes.toList (v.resultList f.resultTypes.size) (s.fn H (ds ++ gs)).results [])
    (hargs : ∀ sp : Nat → Bool, (∀ p ∈ before, sp p.block = true) → DataW.TrodAll enc P W' 0 sp true f.params.toList args.toList (s.fn H (ds ++ gs)).args pa)
    (hvars : ∀ sp : Nat → Bool, (∀ p ∈ before, sp p.block = true) → DataW.TrodVars enc P W' sp s.vars (s.fn H (ds ++ gs)).vars pv)
    (hps : before = pa ++ pv) (hb : Below W.heap.size W W')
    (hok : ∀ (j : Nat) (t : TypeId) (r : Value), f.resultTypes[j]? = some t → (v.resultList f.resultTypes.size)[j]? = some r → Value.okWide P W' .any 0 t r) :
    s.post enc P f apart fresh handsOn again W args v W' := by
  have lt : ∀ p ∈ before, p.block < W.heap.size := fun p hp => hW.lt p hp
  have old : ∀ p ∈ before, (fun b => decide (b < W.heap.size)) p.block = true := fun p hp => by simpa using lt p hp
  subst hps
  refine ⟨ds, gs, pa ++ pv, [], pa, pv, hW, hres _ _ _, hargs _ old, hvars _ old, World.keptBut_mono (fun p hp => ⟨hp, .inr (List.mem_append.1 hp)⟩) (hb.frame (· ∈ pa ++ pv)), fun _ => ?_⟩
  obtain ⟨_, _, _, _, _, hz, hn⟩ := hW
  refine ⟨hok, _, _, ([] ++ pa) ++ pv, ⟨[] ++ pa, pv, trodAll_append (hargs _ (fun _ _ => rfl)) (hres _ _ _), hvars _ (fun _ _ => rfl), rfl, fun b off hp => ?_, fun ha => ?_⟩, fun p hp _ => ?_⟩
  · have hin : MemPlace.cell b off ∈ pa ++ pv := by simpa using hp
    rw [hb.frozen (lt _ hin)]
    exact hz b off hin
  · simpa using hn ha
  · simpa using hp
abbrev M0 : Nat → Prop := Mut (fun _ => False) fun _ _ => False
theorem not_m0 (b : Nat) : ¬ M0 b := by rintro (h | ⟨_, h⟩) <;> exact h
/-- A slice that came in, as rows of what its elements are. -/
theorem vrel_rows {w : World} {base fuel sz : Nat} {held : Bool} {t e : TypeId} {cs : List Value} {x : DataW H × List MemPlace} (ht : P.underlying t = some (.slice e)) (hC : P.cellsOf e = sz) (hsz : 0 < sz)
    (h : DataW.trod enc P w base (fun _ => true) held fuel t cs = some x) (Q : List HV → Prop)
    (hel : ∀ (n : Nat) (cs' : List Value) (y : DataW H × List MemPlace), cs'.length = sz → DataW.trod enc P w base (fun _ => true) held n e cs' = some y →
      ∃ r : List HV, r.length = sz ∧ Q r ∧ ∀ (k : Nat) (z : HV) (u : Value), r[k]? = some z → cs'[k]? = some u → VRel M0 [] w z u ∧ u.oneCell' = true) :
    ∃ (v : Value) (E : List (List HV)), cs = [v] ∧ VRel M0 [] w (.imm false E) v ∧ (∀ r ∈ E, Q r) ∧ E.length ≤ maxLen := by
  rcases open_slice ht h with ⟨rfl, _⟩ | ⟨a, len, cap, m, n, D, Pl, rfl, _, hlc, hcm, hm, _, hi⟩
  · exact ⟨_, [], rfl, .imm false [] none 0 0 0 0 (fun _ _ => .bool true) (Nat.le_refl _) (Nat.zero_le _) (by simp) (fun _ => rfl) (fun h => absurd h (Nat.lt_irrefl _)) (fun h => absurd rfl h) (by simp) (fun _ _ => rfl) (by simp) (by simp), by simp, Nat.zero_le _⟩
  · simp only [if_true] at hm
    subst hm
    have key : ∀ i, i < m → ∃ (cs' : List Value) (r : List HV), r.length = sz ∧ cs'.length = sz ∧ Q r ∧ (∀ k, k < sz → w.cell? (a.add (i * sz + k)) = cs'[k]?) ∧ ∀ (k : Nat) (z : HV) (u : Value), r[k]? = some z → cs'[k]? = some u → VRel M0 [] w z u ∧ u.oneCell' = true := by
      intro i him
      obtain ⟨cs', h1, h2⟩ := hi i him
      obtain ⟨_, h3, h4⟩ := World.cells?_some h1
      rw [hC] at h3 h4
      obtain ⟨r, h5, h6, h7⟩ := hel n cs' _ h3 h2
      refine ⟨cs', r, h5, h3, h6, fun k hk => ?_, h7⟩
      rw [← h4 k hk, Go.Deep.add_add]
    classical
    let C : Nat → List Value := fun i => if h : i < m then Classical.choose (key i h) else []
    let R : Nat → List HV := fun i => if h : i < m then Classical.choose (Classical.choose_spec (key i h)) else []
    have hR : ∀ i, i < m → (R i).length = sz ∧ (C i).length = sz ∧ Q (R i) ∧ (∀ k, k < sz → w.cell? (a.add (i * sz + k)) = (C i)[k]?) ∧ ∀ (k : Nat) (z : HV) (u : Value), (R i)[k]? = some z → (C i)[k]? = some u → VRel M0 [] w z u ∧ u.oneCell' = true := by
      intro i him
      simp only [C, R, dif_pos him]
      exact Classical.choose_spec (Classical.choose_spec (key i him))
    have hspot : 0 < m → a = ⟨a.block, a.off, none⟩ ∧ a.block < w.heap.size := by
      intro hm0
      obtain ⟨_, h2, _, h4, _⟩ := hR 0 hm0
      have h5 := h4 0 hsz
      have h6 : ∃ u, (C 0)[0]? = some u := get_of_lt (by omega)
      obtain ⟨u, hu⟩ := h6
      rw [hu] at h5
      have hadd : a.add (0 * sz + 0) = a := by
        have : a.add 0 = a := by unfold Addr.add; cases a with | mk b o s => cases s <;> simp
        simpa using this
      rw [hadd] at h5
      unfold World.cell? at h5
      split at h5
      · rename_i c _ _ hh
        split at h5
        · cases h5
        · rename_i hs
          refine ⟨?_, (Array.getElem?_eq_some_iff.1 hh).1⟩
          cases a with
          | mk b o s => cases s with
            | none => rfl
            | some _ => simp at hs
      · cases h5
    have hE : ((List.range len).map R).length = len := by simp
    have hget : ∀ (i : Nat) (l : List HV), ((List.range len).map R)[i]? = some l → i < len ∧ l = R i := by
      intro i l hl
      have hil : i < len := by have := lt_of_get hl; simpa using this
      rw [List.getElem?_map, List.getElem?_range hil] at hl
      simp at hl
      exact ⟨hil, hl.symm⟩
    refine ⟨_, (List.range len).map R, rfl, ?_, fun r hr => ?_, by rw [hE]; omega⟩
    · have : VRel M0 [] w (.imm false ((List.range len).map R)) (.slice (some a) ((List.range len).map R).length m) := by
        refine .imm false _ (some a) m a.block a.off sz (fun i k => let u := (C i).getD k (.bool true); if u.oneCell' then u else .bool true) (by rw [hE]; exact hlc) hcm (by simp) (by simp) (fun h0 => by rw [(hspot h0).1]) (fun hne => ⟨not_m0 _, (hspot ?_).2⟩) (fun l hl => ?_) (fun i k => ?_) (fun i l k z hil hk => ?_) (fun i l k z hil hk => ?_)
        · rcases Nat.eq_zero_or_pos m with h | h
          · have : len = 0 := by omega
            subst this; simp at hne
          · exact h
        · obtain ⟨i, hil⟩ := List.getElem?_of_mem hl
          obtain ⟨h1, rfl⟩ := hget i l hil
          exact (hR i (by omega)).1
        · show Value.oneCell' (if _ then _ else _) = true
          split
          · assumption
          · rfl
        · obtain ⟨h1, rfl⟩ := hget i l hil
          obtain ⟨h2, h3, _, h4, h5⟩ := hR i (by omega)
          have hks : k < sz := h2 ▸ lt_of_get hk
          obtain ⟨u, hu⟩ := get_of_lt (show k < (C i).length by omega)
          have h6 := h5 k z u hk hu
          have : (C i).getD k (.bool true) = u := by simp [List.getD, hu]
          simp only [this, h6.2, if_true]
          have h7 := h4 k hks
          rw [hu] at h7
          have ha := (hspot (by omega)).1
          rw [ha] at h7
          rw [← h7]
          show _ = World.cell? w (Addr.add _ _)
          rw [addr_add]
          congr 2
          omega
        · obtain ⟨h1, rfl⟩ := hget i l hil
          obtain ⟨h2, h3, _, h4, h5⟩ := hR i (by omega)
          obtain ⟨u, hu⟩ := get_of_lt (show k < (C i).length by have := lt_of_get hk; omega)
          have h6 := h5 k z u hk hu
          have : (C i).getD k (.bool true) = u := by simp [List.getD, hu]
          simp only [this, h6.2, if_true]
          exact h6.1
      rw [hE] at this
      exact this
    · obtain ⟨i, hil⟩ := List.getElem?_of_mem hr
      obtain ⟨h1, rfl⟩ := hget i r hil
      exact (hR i (by omega)).2.2.1
/-- A row of one integer, a row of one bool. -/
theorem row_int {w : World} {base n : Nat} {held : Bool} {spare : Nat → Bool} {e : TypeId} {k : IntKind} {cs : List Value} {y : DataW H × List MemPlace} (he : P.underlying e = some (.int k)) (h : DataW.trod enc P w base spare held n e cs = some y) :
    ∃ z : Int, (Lit.int k z).wf = true ∧ cs = [.int k z] := by
  obtain ⟨z, h1, _, h2⟩ := DataW.trod_int he h
  exact ⟨z, h2, h1⟩
theorem row_bool {w : World} {base n : Nat} {held : Bool} {spare : Nat → Bool} {e : TypeId} {cs : List Value} {y : DataW H × List MemPlace} (he : P.underlying e = some .bool) (h : DataW.trod enc P w base spare held n e cs = some y) :
    ∃ z : Bool, cs = [.bool z] := by
  obtain ⟨z, h1, _⟩ := DataW.trod_bool he h
  exact ⟨z, h1⟩
theorem one_row {w : World} {x : HV} {u : Value} (h : VRel M0 [] w x u) (h1 : u.oneCell' = true) : ∀ (k : Nat) (z : HV) (v : Value), [x][k]? = some z → [u][k]? = some v → VRel M0 [] w z v ∧ v.oneCell' = true := by
  intro k z v hz hv
  cases k with
  | zero => simp at hz hv; subst hz; subst hv; exact ⟨h, h1⟩
  | succ k => simp at hz
end
end Go.Eng
