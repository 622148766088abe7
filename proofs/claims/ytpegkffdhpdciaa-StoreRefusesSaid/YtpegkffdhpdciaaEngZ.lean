/-
  From the abstract contract of a law to the row's statement.
  No conditions.
-/
import Derived.Test.YtpegkffdhpdciaaEngY
import Derived.ProofKit
import Derived.OpenShut
import Derived.Below
import Derived.ChangeSame
namespace Go.Eng
open Go Go.RowKit Go.WideShapes Go.ChangeShapes

theorem rel_start (w : World) : Rel (fun _ => False) [] (fun _ _ => False) [] w := ⟨rfl, fun _ _ h => h.elim, fun _ h => h.elim, fun _ _ _ h => h.elim, fun i q p h => by simp at h⟩
/-- A law's walk, out of its abstract contract. -/
theorem walk_of {P : Program} {f : FuncId} {args : List HV} {vs : Array Value} {w : World} (h : HCall P f args [] fun r _ => r = .bool true)
    (hf : FRel (Mut (fun _ => False) fun _ _ => False) [] w args vs) : Calls P f vs w fun e w' => e = .returned (.bool true) ∧ Below w.heap.size w w' := by
  refine (h _ [] _ w vs (rel_start w) hf).mono ?_
  rintro en w' ⟨v, x, PS', e', D', rfl, rfl, _, ht, hv⟩
  cases hv with
  | bool b => exact ⟨rfl, ht.os, ht.tape, ht.output, ht.size, fun b hb => ht.keep b hb (fun _ h => h)⟩
theorem frel_nil {M : Nat → Prop} {e : List Pos} {w : World} : FRel M e w [] #[] := ⟨rfl, by simp⟩
theorem frel_cons {M : Nat → Prop} {e : List Pos} {w : World} {x : HV} {u : Value} {l : List HV} {vs : List Value} (h : VRel M e w x u) (k : FRel M e w l vs.toArray) : FRel M e w (x :: l) (u :: vs).toArray := by
  refine ⟨by have := k.1; simp at this ⊢; omega, fun i y v hi hv => ?_⟩
  cases i with
  | zero => simp at hi hv; subst hi; subst hv; exact h
  | succ i => exact k.2 i y v (by simpa using hi) (by simpa using hv)

theorem i64_of_wf {a : Int} (h : (Lit.int .i64 a).wf = true) : InR64 a := by
  have h : (decide (IntKind.i64.min ≤ a) && decide (a ≤ IntKind.i64.max)) = true := h
  rw [Bool.and_eq_true, decide_eq_true_iff, decide_eq_true_iff] at h
  exact h
theorem u8_of_wf {a : Int} (h : (Lit.int .u8 a).wf = true) : ∃ x : UInt8, a = x.toNat := by
  have h : (decide (IntKind.u8.min ≤ a) && decide (a ≤ IntKind.u8.max)) = true := h
  rw [Bool.and_eq_true, decide_eq_true_iff, decide_eq_true_iff] at h
  have h1 : (0 : Int) ≤ a := h.1
  have h2 : a ≤ 255 := h.2
  exact ⟨UInt8.ofNat a.toNat, by simp; omega⟩
section
variable {H : Type} {enc : TypeId × Value → H} {P : Program}
/-- The row's last step where all that is known of the call's end is that what was there is as it was. -/
theorem post_new {f : Func} {s : ChangeSpec} {apart fresh handsOn again : Bool} {W W' : World} {args : Array Value} {v : Value} {ds gs : List (DataW H)} {before pa pv : List MemPlace}
    (hW : DataW.Whole enc P f.params.toList s.vars apart W args.toList ds gs before)
    (hres : ∀ (b : Nat) (sp : Nat → Bool) (hd : Bool), DataW.TrodAll enc P W' b sp hd f.resultTypes.toList (v.resultList f.resultTypes.size) (s.fn H (ds ++ gs)).results [])
    (hargs : ∀ sp : Nat → Bool, (∀ p ∈ before, sp p.block = true) → DataW.TrodAll enc P W' 0 sp true f.params.toList args.toList (s.fn H (ds ++ gs)).args pa)
    (hvars : ∀ sp : Nat → Bool, (∀ p ∈ before, sp p.block = true) → DataW.TrodVars enc P W' sp s.vars (s.fn H (ds ++ gs)).vars pv)
    (hps : before = pa ++ pv) (hb : Below W.heap.size W W')
    (hok : ∀ (j : Nat) (t : TypeId) (r : Value), f.resultTypes[j]? = some t → (v.resultList f.resultTypes.size)[j]? = some r → Value.okWide P W' .any 0 t r) :
    s.post enc P f apart fresh handsOn again W args v W' := by
  have lt : ∀ p ∈ before, p.block < W.heap.size := fun p hp => hW.lt p hp
  have old : ∀ p ∈ before, (fun b => decide (b < W.heap.size)) p.block = true := fun p hp => by simpa using lt p hp
  subst hps
  refine ⟨ds, gs, pa ++ pv, [], pa, pv, hW, hres _ _ _, hargs _ old, hvars _ old, World.keptBut_mono (fun p hp => ⟨hp, .inr (List.mem_append.1 hp)⟩) (hb.frame (· ∈ pa ++ pv)), fun _ => ?_⟩
  obtain ⟨_, _, _, _, _, hz, hn⟩ := hW
  refine ⟨hok, _, _, ([] ++ pa) ++ pv, ⟨[] ++ pa, pv, trodAll_append (hargs _ (fun _ _ => rfl)) (hres _ _ _), hvars _ (fun _ _ => rfl), rfl, fun b off hp => ?_, fun ha => ?_⟩, fun p hp _ => ?_⟩
  · have hin : MemPlace.cell b off ∈ pa ++ pv := by simpa using hp
    rw [hb.frozen (lt _ hin)]
    exact hz b off hin
  · simpa using hn ha
  · simpa using hp
end
end Go.Eng
