/-
The latch; slices that are owned.
No conditions.
-/
import Derived.Test.YtdjfdlpfchokcaaGreatQHm1
import Derived.Test.YtdjfdlpfchokcaaGreatQEngZ
import Derived.Test.YtdjfdlpfchokcaaGreatQHm2
import Derived.Shelf.Spec.SlicesInsertGrow
import Derived.Test.YtdjfdlpfchokcaaGreatQHm6
set_option linter.unusedSectionVars false
set_option linter.unusedSimpArgs false
set_option linter.unusedVariables false
namespace Go.Mo
open Go Go.Eng
variable [Toks]
structure Wn where
 t : Int
 w : Bool
 deriving DecidableEq
structure Lt where
 rd : List Int
 wr : Int
 q : List Wn
 deriving DecidableEq
def wnL (a : Wn) : List HV := [.int .i64 a.t, .bool a.w]
def below (l : List Int) (t : Int) : Nat := (l.takeWhile fun x => decide (x < t)).length
def ins (l : List Int) (t : Int) : List Int := l.take (below l t) ++ t :: l.drop (below l t)
def Lt.none : Lt := ⟨[], -1, []⟩
def Lt.has (l : Lt) (t : Int) : Bool := decide (l.wr = t) || l.rd.contains t
def Lt.waits (l : Lt) (t : Int) : Bool := l.q.any fun a => decide (a.t = t)
def Lt.opn (l : Lt) (w : Bool) : Bool := decide (l.wr = -1) && (!w || l.rd.isEmpty)
def Lt.give (l : Lt) (t : Int) (w : Bool) : Lt := if w then { l with wr := t } else { l with rd := ins l.rd t }
def Lt.may (l : Lt) (t : Int) : Bool := decide (0 ≤ t) && !l.has t && !l.waits t
def Lt.can (l : Lt) (t : Int) (w : Bool) : Bool := l.may t && l.q.isEmpty && l.opn w
def lets (rd : List Int) (wr : Int) : List Wn → Lt × List Int
 | [] => (⟨rd, wr, []⟩, [])
 | a :: q => if Lt.opn ⟨rd, wr, []⟩ a.w then (let m := Lt.give ⟨rd, wr, []⟩ a.t a.w; let r := lets m.rd m.wr q; (r.1, a.t :: r.2)) else (⟨rd, wr, a :: q⟩, [])
def Lt.take (l : Lt) (t : Int) (w : Bool) : Lt × Bool := if l.can t w then (l.give t w, true) else if l.may t then ({ l with q := l.q ++ [⟨t, w⟩] }, false) else (l, false)
def Lt.drop (l : Lt) (t : Int) : Lt × List Int := lets (l.rd.filter fun x => decide (x ≠ t)) (if l.wr = t then -1 else l.wr) (l.q.filter fun a => decide (a.t ≠ t))
def Up : List Int → Prop
 | [] => True
 | a :: l => (∀ b ∈ l, a < b) ∧ Up l
def Diff : List Int → Prop
 | [] => True
 | a :: l => a ∉ l ∧ Diff l
def isT (t : Int) : Prop := 0 ≤ t ∧ t < 8
structure okL (l : Lt) : Prop where
 up : Up l.rd
 rd : ∀ t ∈ l.rd, isT t
 wr : l.wr = -1 ∨ isT l.wr
 diff : Diff (l.q.map Wn.t)
 q : ∀ a ∈ l.q, isT a.t
 apart : ∀ a ∈ l.q, a.t ∉ l.rd
theorem below_le (l : List Int) (t : Int) : below l t ≤ l.length := by
 unfold below
 induction l with
 | nil => simp
 | cons a l ih => rw [List.takeWhile_cons]; split <;> simp; omega
theorem below_eq {l : List Int} {t : Int} {i : Nat} (h1 : ∀ k x, k < i → l[k]? = some x → x < t) (h2 : i ≤ l.length) (h3 : ∀ x, l[i]? = some x → t ≤ x) : below l t = i := by
 unfold below
 induction l generalizing i with
 | nil => simp at h2; simp [h2]
 | cons a l ih =>
  rw [List.takeWhile_cons]
  cases i with
  | zero =>
   have := h3 a rfl
   rw [if_neg (by simp; omega)]; rfl
  | succ i =>
   have := h1 0 a (by omega) rfl
   rw [if_pos (by simp; omega), List.length_cons, ih (fun k x hk hx => h1 (k + 1) x (by omega) hx) (by simpa using h2) (fun x hx => h3 x hx)]
theorem below_lt {l : List Int} {t : Int} : ∀ k x, k < below l t → l[k]? = some x → x < t := by
 unfold below
 induction l with
 | nil => intro k x _ h; simp at h
 | cons a l ih =>
  intro k x hk hx
  rw [List.takeWhile_cons] at hk
  split at hk
  ·rename_i h
   cases k with
   | zero => simp at hx; subst hx; simpa using h
   | succ k => exact ih k x (by simpa using hk) (by simpa using hx)
  ·simp at hk
theorem below_ge {l : List Int} {t : Int} : ∀ x, l[below l t]? = some x → t ≤ x := by
 unfold below
 induction l with
 | nil => intro x h; simp at h
 | cons a l ih =>
  intro x hx
  rw [List.takeWhile_cons] at hx
  split at hx
  ·exact ih x (by simpa using hx)
  ·rename_i h; simp at hx; subst hx; simpa using h
theorem Up.get {l : List Int} (h : Up l) : ∀ (i j : Nat) (x y : Int), i < j → l[i]? = some x → l[j]? = some y → x < y := by
 induction l with
 | nil => intro i j x y _ h; simp at h
 | cons a l ih =>
  intro i j x y hij hx hy
  obtain ⟨j, rfl⟩ : ∃ j', j = j' + 1 := ⟨j - 1, by omega⟩
  cases i with
  | zero => simp at hx; subst hx; exact h.1 y (List.mem_of_getElem? (by simpa using hy))
  | succ i => exact ih h.2 i j x y (by omega) (by simpa using hx) (by simpa using hy)
theorem diff_len : ∀ (n : Nat) (l : List Int), Diff l → (∀ t ∈ l, 0 ≤ t ∧ t < n) → l.length ≤ n := by
 intro n
 induction n with
 | zero => intro l _ h; cases l with | nil => simp | cons a l => have := h a (List.mem_cons_self ..); omega
 | succ n ih =>
  intro l hd h
  have key : ∀ l : List Int, Diff l → Diff (l.filter fun x => decide (x ≠ (n : Int))) ∧ l.length ≤ (l.filter fun x => decide (x ≠ (n : Int))).length + 1 ∧ ((n : Int) ∉ l → (l.filter fun x => decide (x ≠ (n : Int))) = l) := by
   intro l
   induction l with
   | nil => intro _; simp [Diff]
   | cons a l ih =>
    intro hd
    obtain ⟨h1, h2, h3⟩ := ih hd.2
    by_cases ha : a = (n : Int)
    ·have hn : (n : Int) ∉ l := ha ▸ hd.1
     rw [List.filter_cons, if_neg (by simp [ha])]
     rw [h3 hn]
     exact ⟨hd.2, by simp, fun hx => absurd (by simp [ha]) hx⟩
    ·rw [List.filter_cons, if_pos (by simp [ha])]
     refine ⟨⟨fun hm => hd.1 ((List.mem_filter.1 hm).1), h1⟩, by simp only [List.length_cons]; omega, fun hx => ?_⟩
     rw [h3 (fun hm => hx (List.mem_cons_of_mem _ hm))]
  obtain ⟨h1, h2, _⟩ := key l hd
  have := ih _ h1 (fun t ht => by
   have hm := (List.mem_filter.1 ht).1
   have h0 := h t hm
   have hne := (List.mem_filter.1 ht).2
   simp at hne
   omega)
  omega
theorem Up.diff : ∀ {l : List Int}, Up l → Diff l
 | [], _ => trivial
 | a :: l, h => ⟨fun hm => by have := h.1 a hm; omega, Up.diff h.2⟩
theorem okL.rd_len {l : Lt} (h : okL l) : l.rd.length ≤ 8 := diff_len 8 l.rd h.up.diff fun t ht => h.rd t ht
theorem okL.q_len {l : Lt} (h : okL l) : l.q.length ≤ 8 := by
 have := diff_len 8 (l.q.map Wn.t) h.diff fun t ht => by obtain ⟨a, ha, rfl⟩ := List.mem_map.1 ht; exact h.q a ha
 simpa using this
theorem mem_ins {l : List Int} {t x : Int} : x ∈ ins l t ↔ x = t ∨ x ∈ l := by
 unfold ins
 rw [List.mem_append, List.mem_cons]
 constructor
 ·rintro (h | h | h)
  ·exact .inr (List.mem_of_mem_take h)
  ·exact .inl h
  ·exact .inr (List.mem_of_mem_drop h)
 ·rintro (h | h)
  ·exact .inr (.inl h)
  ·rw [← List.take_append_drop (below l t) l, List.mem_append] at h
   rcases h with h | h
   ·exact .inl h
   ·exact .inr (.inr h)
theorem up_append {a b : List Int} : Up (a ++ b) ↔ Up a ∧ Up b ∧ ∀ x ∈ a, ∀ y ∈ b, x < y := by
 induction a with
 | nil => simp [Up]
 | cons c a ih =>
  simp only [List.cons_append, Up, ih, List.mem_append, List.mem_cons]
  constructor
  ·rintro ⟨h1, h2, h3, h4⟩
   exact ⟨⟨fun b hb => h1 b (.inl hb), h2⟩, h3, fun x hx y hy => by rcases hx with rfl | hx; exact h1 y (.inr hy); exact h4 x hx y hy⟩
  ·rintro ⟨⟨h1, h2⟩, h3, h4⟩
   exact ⟨fun y hy => by rcases hy with hy | hy; exact h1 y hy; exact h4 c (.inl rfl) y hy, h2, h3, fun x hx y hy => h4 x (.inr hx) y hy⟩
theorem up_ins {l : List Int} {t : Int} (h : Up l) (ht : t ∉ l) : Up (ins l t) := by
 have h0 : Up (l.take (below l t) ++ l.drop (below l t)) := by rw [List.take_append_drop]; exact h
 obtain ⟨h1, h2, h3⟩ := up_append.1 h0
 have hlo : ∀ x ∈ l.take (below l t), x < t := fun x hx => by
  obtain ⟨i, hi⟩ := List.getElem?_of_mem hx
  rw [List.getElem?_take] at hi
  split at hi
  ·rename_i hlt; exact below_lt i x hlt hi
  ·cases hi
 have hhi : ∀ x ∈ l.drop (below l t), t < x := fun x hx => by
  obtain ⟨i, hi⟩ := List.getElem?_of_mem hx
  rw [List.getElem?_drop] at hi
  have hne : x ≠ t := fun e => ht (e ▸ List.mem_of_getElem? hi)
  have hb : below l t < l.length := by have := (List.getElem?_eq_some_iff.1 hi).1; omega
  have h5 := below_ge (l := l) (t := t) l[below l t] (by simp [hb])
  by_cases hi0 : i = 0
  ·subst hi0
   have : l[below l t]? = some x := by simpa using hi
   have := below_ge (l := l) (t := t) x this
   omega
  ·have := h.get (below l t) (below l t + i) l[below l t] x (by omega) (by simp [hb]) hi
   omega
 unfold ins
 rw [up_append]
 refine ⟨h1, ⟨hhi, h2⟩, fun x hx y hy => ?_⟩
 rcases List.mem_cons.1 hy with rfl | hy
 ·exact hlo x hx
 ·exact h3 x hx y hy
theorem okL.none : okL Lt.none := ⟨trivial, by simp [Lt.none], .inl rfl, trivial, by simp [Lt.none], by simp [Lt.none]⟩
theorem okL.give {l : Lt} (h : okL l) {t : Int} (w : Bool) (ht : isT t) (hr : t ∉ l.rd) (hq : ∀ a ∈ l.q, a.t ≠ t) : okL (l.give t w) := by
 unfold Lt.give
 cases w with
 | true => exact ⟨h.up, h.rd, .inr ht, h.diff, h.q, h.apart⟩
 | false =>
  refine ⟨up_ins h.up hr, fun x hx => ?_, h.wr, h.diff, h.q, fun a ha hm => ?_⟩
  ·rcases mem_ins.1 hx with rfl | hx
   ·exact ht
   ·exact h.rd x hx
  ·rcases mem_ins.1 hm with e | hm
   ·exact hq a ha e
   ·exact h.apart a ha hm
theorem Lt.give_q (l : Lt) (t : Int) (w : Bool) : (l.give t w).q = l.q := by unfold Lt.give; cases w <;> rfl
theorem okL.front {l : Lt} (h : okL l) {a : Wn} {q : List Wn} (hq : l.q = a :: q) : okL (Lt.give { l with q := q } a.t a.w) := by
 have hd := h.diff
 rw [hq] at hd
 have ha : a ∈ l.q := by rw [hq]; exact List.mem_cons_self ..
 have hs : ∀ b ∈ q, b ∈ l.q := fun b hb => by rw [hq]; exact List.mem_cons_of_mem _ hb
 have h2 : okL { l with q := q } := ⟨h.up, h.rd, h.wr, hd.2, fun b hb => h.q b (hs b hb), fun b hb => h.apart b (hs b hb)⟩
 exact h2.give a.w (h.q a ha) (h.apart a ha) fun b hb e => hd.1 (by rw [← e]; exact List.mem_map.2 ⟨b, hb, rfl⟩)
theorem okL.pop {l : Lt} (h : okL l) {a : Wn} {q : List Wn} (hq : l.q = a :: q) : okL { l with q := q } := by
 have hd := h.diff
 rw [hq] at hd
 have hs : ∀ b ∈ q, b ∈ l.q := fun b hb => by rw [hq]; exact List.mem_cons_of_mem _ hb
 exact ⟨h.up, h.rd, h.wr, hd.2, fun b hb => h.q b (hs b hb), fun b hb => h.apart b (hs b hb)⟩
theorem lets_ok (q : List Wn) : ∀ (rd : List Int) (wr : Int), okL ⟨rd, wr, q⟩ → okL (lets rd wr q).1 ∧ (lets rd wr q).2.length ≤ q.length := by
 induction q with
 | nil => intro rd wr h; exact ⟨h, by simp [lets]⟩
 | cons a q ih =>
  intro rd wr h
  unfold lets
  split
  ·have h2 := h.front (a := a) (q := q) rfl
   have h3 : Lt.give ⟨rd, wr, q⟩ a.t a.w = ⟨(Lt.give ⟨rd, wr, []⟩ a.t a.w).rd, (Lt.give ⟨rd, wr, []⟩ a.t a.w).wr, q⟩ := by unfold Lt.give; cases a.w <;> rfl
   simp only at h2
   rw [h3] at h2
   obtain ⟨h4, h5⟩ := ih _ _ h2
   exact ⟨h4, by simp only [List.length_cons]; omega⟩
  ·exact ⟨h, by simp⟩
theorem up_filter {l : List Int} (p : Int → Bool) (h : Up l) : Up (l.filter p) := by
 induction l with
 | nil => trivial
 | cons a l ih =>
  rw [List.filter_cons]
  split
  ·exact ⟨fun b hb => h.1 b (List.mem_filter.1 hb).1, ih h.2⟩
  ·exact ih h.2
theorem diff_filter {q : List Wn} (p : Wn → Bool) (h : Diff (q.map Wn.t)) : Diff ((q.filter p).map Wn.t) := by
 induction q with
 | nil => trivial
 | cons a q ih =>
  rw [List.filter_cons]
  split
  ·refine ⟨fun hm => h.1 ?_, ih h.2⟩
   obtain ⟨b, hb, e⟩ := List.mem_map.1 hm
   exact List.mem_map.2 ⟨b, (List.mem_filter.1 hb).1, e⟩
  ·exact ih h.2
theorem filter_none {α : Type} (f : α → Int) (t : Int) : ∀ (l : List α), (∀ a ∈ l, f a ≠ t) → l.filter (fun a => decide (f a ≠ t)) = l := fun l h => by
 rw [List.filter_eq_self]; intro a ha; simpa using h a ha
theorem filter_erase {α : Type} (f : α → Int) (t : Int) : ∀ (l : List α) (i : Nat) (a : α), Diff (l.map f) → l[i]? = some a → f a = t → l.filter (fun a => decide (f a ≠ t)) = l.eraseIdx i := by
 intro l
 induction l with
 | nil => intro i a _ h; simp at h
 | cons b l ih =>
  intro i a hd hi ha
  cases i with
  | zero =>
   simp at hi; subst hi
   rw [List.filter_cons, if_neg (by simp [ha]), List.eraseIdx_cons_zero]
   exact filter_none f t l fun c hc e => hd.1 (by rw [ha, ← e]; exact List.mem_map.2 ⟨c, hc, rfl⟩)
  | succ i =>
   have hbi : f b ≠ t := fun e => hd.1 (by rw [e, ← ha]; exact List.mem_map.2 ⟨a, List.mem_of_getElem? (by simpa using hi), rfl⟩)
   rw [List.filter_cons, if_pos (by simpa using hbi), List.eraseIdx_cons_succ, ih i a hd.2 (by simpa using hi) ha]
theorem okL.drop {l : Lt} (h : okL l) (t : Int) : okL (l.drop t).1 := by
 refine (lets_ok _ _ _ ?_).1
 refine ⟨up_filter _ h.up, fun x hx => h.rd x (List.mem_filter.1 hx).1, ?_, diff_filter _ h.diff, fun a ha => h.q a (List.mem_filter.1 ha).1, fun a ha hm => h.apart a (List.mem_filter.1 ha).1 (List.mem_filter.1 hm).1⟩
 simp only
 split
 ·exact .inl rfl
 ·exact h.wr
theorem okL.take {l : Lt} (h : okL l) {t : Int} (w : Bool) (ht : t < 8) : okL (l.take t w).1 := by
 unfold Lt.take
 split
 ·rename_i hc
  simp only [Lt.can, Lt.may, Lt.has, Bool.and_eq_true, decide_eq_true_iff, Bool.not_eq_true', Bool.or_eq_false_iff, List.isEmpty_iff] at hc
  refine h.give w ⟨hc.1.1.1.1, ht⟩ (by simpa using hc.1.1.1.2.2) (by rw [hc.1.2]; simp)
 ·split
  ·rename_i hc
   simp only [Lt.may, Lt.has, Lt.waits, Bool.and_eq_true, decide_eq_true_iff, Bool.not_eq_true', Bool.or_eq_false_iff, List.any_eq_false] at hc
   refine ⟨h.up, h.rd, h.wr, ?_, fun a ha => ?_, fun a ha => ?_⟩
   ·have key : ∀ q : List Wn, Diff (q.map Wn.t) → (∀ a ∈ q, ¬ a.t = t) → Diff ((q ++ [(⟨t, w⟩ : Wn)]).map Wn.t) := by
     intro q
     induction q with
     | nil => intro _ _; simp [Diff]
     | cons a q ih =>
      intro h1 h2
      refine ⟨fun hm => ?_, ih h1.2 fun b hb => h2 b (List.mem_cons_of_mem _ hb)⟩
      obtain ⟨b, hb, e⟩ := List.mem_map.1 hm
      rcases List.mem_append.1 hb with hb | hb
      ·exact h1.1 (e ▸ List.mem_map.2 ⟨b, hb, rfl⟩)
      ·simp at hb; subst hb; exact h2 a (List.mem_cons_self ..) e.symm
    exact key _ h.diff (by simpa using hc.2)
   ·rcases List.mem_append.1 ha with ha | ha
    ·exact h.q a ha
    ·simp at ha; subst ha; exact ⟨hc.1.1, ht⟩
   ·rcases List.mem_append.1 ha with ha | ha
    ·exact h.apart a ha
    ·simp at ha; subst ha; simpa using hc.1.2.2
  ·exact h
end Go.Mo
namespace Go.Proofs.YtdjfdlpfchokcaaGreat
open Go Go.Eng Go.Mo Go.Shelf Go.Proofs
variable [Toks]
def insRen : Ren := ⟨fun | 21 => 129 | 27 => 138 | 28 => 139 | 35 => 144 | 39 => 146 | n => n, fun | 0 => 0 | 3 => 3 | 4 => 4 | 22 => 27 | n => n, fun n => n⟩
set_option maxRecDepth 100000 in
theorem insLays : Lays2.n21 Tryz.prog insRen where
 mixed := by kernel_rfl
 f21 := Tryz.func129.trans (congrArg some (by kernel_rfl))
 f27 := Tryz.func138.trans (congrArg some (by kernel_rfl))
 f28 := Tryz.func139.trans (congrArg some (by kernel_rfl))
 f35 := Tryz.func144.trans (congrArg some (by kernel_rfl))
 f39 := Tryz.func146.trans (congrArg some (by kernel_rfl))
 t0 := Tryz.underlying0
 a0 := Tryz.isAgg0
 z0 := Tryz.sizeOf0
 v0 := Tryz.zeroValue0
 t3 := Tryz.underlying3
 a3 := Tryz.isAgg3
 z3 := Tryz.sizeOf3
 v3 := Tryz.zeroValue3
 t4 := Tryz.underlying4
 a4 := Tryz.isAgg4
 z4 := Tryz.sizeOf4
 v4 := Tryz.zeroValue4
 t22 := Tryz.underlying27
 a22 := Tryz.isAgg27
 z22 := Tryz.sizeOf27
 v22 := Tryz.zeroValue27
 i3 := by kernel_rfl
theorem setRow_setRow (w : World) (g : Nat) (a b : Array Value) : (w.setRow g a).setRow g b = w.setRow g b := by
 unfold World.setRow
 congr 1
 refine Array.ext_getElem? fun i => ?_
 simp only [Array.getElem?_modify]
 by_cases h : g = i
 ·subst h
  simp only [if_true]
  cases w.heap[g]? with
  | none => rfl
  | some x => cases x <;> rfl
 ·simp [h]
theorem setCell_row (w : World) (b o : Nat) (cs : Array Value) (ty : TypeId) (fr : Nat × Nat) (hb : w.heap[b]? = some (.cells cs ty fr)) (v : Value) : w.setCell ⟨b, o, none⟩ v = w.setRow b (cs.setIfInBounds o v) := by
 unfold World.setCell World.setRow
 congr 1
 refine Array.ext_getElem? fun i => ?_
 simp only [Array.getElem?_modify]
 by_cases h : b = i
 ·subst h; rw [hb]; simp
 ·simp [h]
theorem setCells_row (b : Nat) : ∀ (vs : List Value) (o : Nat) (w : World) (cs : Array Value) (ty : TypeId) (fr : Nat × Nat), w.heap[b]? = some (.cells cs ty fr) → o + vs.length ≤ cs.size → w.setCells b o vs = w.setRow b (hsplice o vs cs.toList).toArray
 | [], o, w, cs, ty, fr, hb, _ => by simp [World.setCells, hsplice, setRow_self w b cs ty fr hb]
 | v :: vs, o, w, cs, ty, fr, hb, hl => by
  simp only [List.length_cons] at hl
  rw [World.setCells, setCell_row w b o cs ty fr hb v, setCells_row b vs (o + 1) _ (cs.setIfInBounds o v) ty fr (setRow_heap w b cs _ ty fr hb) (by simp; omega), setRow_setRow]
  congr 2
  have h2 : (cs.setIfInBounds o v).toList = cs.toList.set o v := by simp
  have ho : o < cs.toList.length := by simp; omega
  rw [h2]
  unfold hsplice
  refine List.ext_getElem? fun i => ?_
  simp only [List.getElem?_append, List.length_take, List.length_set, List.getElem?_take, List.getElem?_drop, List.length_cons, List.getElem?_set, List.getElem?_cons, Array.length_toList]
  repeat' split
  all_goals first | omega | rfl | (congr 1; omega) | skip
  all_goals simp_all
  all_goals first | omega | rfl | (congr 1; omega)
theorem alloc_setRow (w : World) (A B : Array Value) (ty : TypeId) : (w.alloc (.cells A ty)).setRow w.heap.size B = w.alloc (.cells B ty) := by
 unfold World.setRow World.alloc
 congr 1
 refine Array.ext_getElem? fun i => ?_
 simp only [Array.getElem?_modify, Array.getElem?_push]
 by_cases h : w.heap.size = i
 ·subst h; simp
 ·have h' : ¬ i = w.heap.size := fun hh => h hh.symm
  simp [h, h']
theorem splice_app {α : Type} (A v L : List α) : hsplice A.length v (A ++ L) = A ++ (v ++ L.drop v.length) := by
 unfold hsplice
 rw [List.take_left' rfl, ← List.drop_drop, List.drop_left' rfl]
theorem splice_ins {α : Type} (pre a b v post : List α) (z : α) (hv : v.length = 1) : hsplice (pre.length + a.length) v (hsplice (pre.length + (a.length + 1)) b (pre ++ (a ++ b) ++ (z :: post))) = pre ++ (a ++ (v ++ b)) ++ post := by
 obtain ⟨y, t, ht⟩ : ∃ y t, b ++ z :: post = y :: t := by cases b with | nil => exact ⟨_, _, rfl⟩ | cons y b => exact ⟨_, _, rfl⟩
 have htd : t.drop b.length = post := by
  have : t = (b ++ z :: post).drop 1 := by rw [ht]; rfl
  rw [this, List.drop_drop, Nat.add_comm, ← List.drop_drop, List.drop_left' rfl]; rfl
 have e1 : pre ++ (a ++ b) ++ (z :: post) = (pre ++ a ++ [y]) ++ t := by simp [← ht]
 have l1 : pre.length + (a.length + 1) = (pre ++ a ++ [y]).length := by simp [Nat.add_assoc]
 have l2 : pre.length + a.length = (pre ++ a).length := by simp
 rw [e1, l1, splice_app, htd, l2, List.append_assoc (pre ++ a), splice_app, hv]
 simp
theorem splice_grow {α : Type} (a v b zs : List α) (hv : v.length = 1) : hsplice (a.length + 1) b (hsplice a.length v (a ++ zs)) = (a ++ (v ++ b)) ++ (zs.drop 1).drop b.length := by
 have l1 : a.length + 1 = (a ++ v).length := by simp [hv]
 rw [splice_app, ← List.append_assoc a v, l1, splice_app, hv]
 simp
theorem VRel.imm_one {M : Nat → Prop} {e : List Pos} {w : World} {y : HV} {v : Value} (h : VRel M e w (.imm true [[y]]) v) :
  ∃ b o c u, 1 ≤ c ∧ v = .slice (some ⟨b, o, none⟩) 1 c ∧ ¬ M b ∧ b < w.heap.size ∧ w.cell? ⟨b, o, none⟩ = some u ∧ u.oneCell' = true ∧ VRel M e w y u := by
 cases h with
 | imm _ _ a c b o sz val hc hm ht hn ha hb hsz h1c hcell hval =>
  have h0 : 0 < c := by simp at hc; omega
  obtain rfl := ha h0
  obtain ⟨h1, h2⟩ := hb (by simp)
  exact ⟨b, o, c, val 0 0, h0, rfl, h1, h2, by simpa using hcell 0 [y] 0 y rfl rfl, h1c _ _, hval 0 [y] 0 y rfl rfl⟩
theorem VRel.sl_inv {M : Nat → Prop} {e : List Pos} {w : World} {n ver i len : Nat} {cp : Option Nat} {v : Value} (h : VRel M e w (.sl n ver i len cp) v) : ∃ p, e[n]? = some p ∧ (ver = p.ver → SlAt p.kind i 0 len cp v) := by
 cases h with
 | sl n ver i len cp u p hp hv hs h1 => exact ⟨p, hp, hs⟩
theorem overlaps_no (w : World) (a b : Addr) (la ca lb cb : Nat) (hne : a.block ≠ b.block) (tA tB : TypeId) (kA kB : Nat) (hsa : w.shape? a.block = some (tA, kA)) (hsb : w.shape? b.block = some (tB, kB)) (hkA : kA ≠ 0) (hfb : w.frozen? b = false) (hfe : w.frozen? { block := b.block, off := kB } = false) :
  (Extern.SlicesOverlaps.overlaps #[27, 27] #[4] #[.slice (some a) la ca, .slice (some b) lb cb]).run Tryz.prog w = .ok (.bool false) w := by
 have h1 : (a.block != b.block) = true := by simpa using hne
 have h2 : (a.block == b.block) = false := by simpa using hne
 delta Extern.SlicesOverlaps.overlaps
 delta Extern.SlicesOverlaps.overlaps.match_4
 dsimp only
 have hsz : (#[Value.slice (some a) la ca, Value.slice (some b) lb cb] : Array Value).size = 2 := rfl
 rw [dif_pos hsz]
 have hz := insLays.z3 w
 have g1 : (#[27, 27] : Array TypeId)[0]? = some 27 := rfl
 by_cases h0 : la = 0 ∨ lb = 0
 ·simp [Array.getLit, Extern.SlicesOverlaps.overlaps._sparseCasesOn_4, run_underlying (Tryz.underlying27), Tryz.sizeOf3, h0]
 ·obtain ⟨h3, h4⟩ := not_or.1 h0
  obtain ⟨kA', rfl⟩ : ∃ k, kA = k + 1 := ⟨kA - 1, by omega⟩
  cases hfa : w.frozen? a <;> simp [Array.getLit, Extern.SlicesOverlaps.overlaps._sparseCasesOn_4, run_underlying (Tryz.underlying27), Tryz.sizeOf3, h3, h4, h1, h2, frozen, noView, viewAt, mayBeOne, stringish, shape, Sem.run, hsa, hsb, hfa, hfb, hfe]
set_option maxHeartbeats 2000000 in
set_option maxRecDepth 100000 in
theorem ins_shift (b off n c i vb voff vc : Nat) (cs vs : List Value) (w : World) (hi : i < n) (hroom : n + 1 ≤ c) (hc : c ≤ 9223372036854775807) (hvb : vb ≠ b) (hcl : cs.length = n) (hvl : vs.length = 1)
  (hcs : ∀ j v, cs[j]? = some v → w.cell? ⟨b, off + j, none⟩ = some v) (hsp : ∀ j, j < n + 1 → (w.cell? ⟨b, off + j, none⟩).isSome = true) (hfz : ∀ j, w.frozen? ⟨b, j, none⟩ = false)
  (hvs : ∀ j v, vs[j]? = some v → w.cell? ⟨vb, voff + j, none⟩ = some v) (h1c : ∀ v ∈ cs, v.oneCell' = true) (h1v : ∀ v ∈ vs, v.oneCell' = true)
  (tA tB : TypeId) (kA kB : Nat) (hsa : w.shape? vb = some (tA, kA)) (hsb : w.shape? b = some (tB, kB)) (hkA : kA ≠ 0) :
  Calls Tryz.prog 129 #[.slice (some ⟨b, off, none⟩) n c, .int .i64 i, .slice (some ⟨vb, voff, none⟩) 1 vc] w fun e w' =>
   e = .returned (.slice (some ⟨b, off, none⟩) (n + 1) c) ∧ w' = (w.drew.setCells b (off + (i + 1)) (cs.drop i)).setCells b (off + i) vs := by
 have hov : ∀ lb cb, (callFunc 138 #[.slice (some ⟨vb, voff, none⟩) 1 vc, .slice (some ⟨b, off + (i + 1), none⟩) lb cb]).run Tryz.prog w = .ok (.value (.bool false)) w := fun lb cb => by
  rw [run_callFunc_extern Tryz.func138 (by kernel_rfl) (by kernel_rfl) (by kernel_rfl) (e := Extern.SlicesOverlaps.overlaps #[27, 27] #[4]) (by kernel_rfl),
   overlaps_no w ⟨vb, voff, none⟩ ⟨b, off + (i + 1), none⟩ 1 vc lb cb hvb tA tB kA kB hsa hsb hkA (hfz _) (hfz _)]
  rfl
 have hdl : (cs.drop i).length = n - i := by rw [List.length_drop, hcl]
 have hsz : (Tryz.prog.info? 3).map (·.size) = some 1 := by kernel_rfl
 have w1 : IntKind.i64.wrap ((i : Int) + 1) = (i : Int) + 1 := by rw [IntKind.wrap_i64]; omega
 have w2 : IntKind.i64.wrap ((n : Int) + 1) = (n : Int) + 1 := by rw [IntKind.wrap_i64]; omega
 have n1 : ((i : Int) + 1).toNat = i + 1 := by omega
 have n2 : ((n : Int) + 1).toNat = n + 1 := by omega
 have b1 : (0 : Int) ≤ (i : Int) + 1 := by omega
 have b2 : ¬ (c = i + 1) := by omega
 have b3 : (i : Int) ≤ (n : Int) + 1 := by omega
 have b4 : ¬ (c = i) := by omega
 have b5 : ¬ ((i : Int) = (n : Int)) := by omega
 have b6 : i ≤ n := by omega
 have b7 : ¬ ((c : Int) < (n : Int) + 1) := by omega
 have b8 : i + 1 ≤ n + 1 := by omega
 obtain ⟨W1, hW1⟩ : ∃ W1, W1 = w.drew.setCells b (off + (i + 1)) (cs.drop i) := ⟨_, rfl⟩
 have hsp1 : ∀ k, k < n + 1 → (W1.cell? ⟨b, off + k, none⟩).isSome = true := fun k hk => by
  rw [hW1]
  exact isSome_setCells b _ _ _ (fun j hj => by rw [Nat.add_assoc]; exact hsp _ (by omega)) _ (hsp k hk)
 have cp1 : ∀ ty dc sc, (Builtin.copy_ #[27, 27] ty #[.slice (some ⟨b, off + (i + 1), none⟩) (n - i) dc, .slice (some ⟨b, off + i, none⟩) (n + 1 - i) sc]).run Tryz.prog w.drew = .ok (goInt (cs.drop i).length) W1 := fun ty dc sc => by
  rw [hW1]
  exact run_copy_cells w.drew _ _ ty 3 b (off + (i + 1)) (n - i) dc ⟨b, off + i, none⟩ (n + 1 - i) sc (cs.drop i) (Tryz.underlying27) hsz (by rw [hdl]; simp only [Nat.min_def]; split <;> omega)
   (fun j v hj => by rw [Addr.add_lit, Nat.add_assoc]; exact hcs (i + j) v (by rwa [List.getElem?_drop] at hj))
   (fun j hj => by rw [Nat.add_assoc]; exact hsp _ (by omega)) (fun j _ => hfz _) (fun v hv => h1c v (List.mem_of_mem_drop hv))
 have cp2 : ∀ (W : World), (∀ x, W.cell? x = W1.cell? x) → (∀ x, W.frozen? x = W1.frozen? x) → ∀ ty dc, (Builtin.copy_ #[27, 27] ty #[.slice (some ⟨b, off + i, none⟩) (n + 1 - i) dc, .slice (some ⟨vb, voff, none⟩) 1 vc]).run Tryz.prog W = .ok (goInt vs.length) (W.setCells b (off + i) vs) := fun W hWc hWf ty dc =>
  run_copy_cells W _ _ ty 3 b (off + i) (n + 1 - i) dc ⟨vb, voff, none⟩ 1 vc vs (Tryz.underlying27) hsz (by rw [hvl]; simp only [Nat.min_def]; split <;> omega)
   (fun j v hj => by rw [Addr.add_lit, hWc, hW1, World.cell?_setCells_out b _ _ _ _ (fun h _ => absurd h hvb)]; exact hvs j v hj)
   (fun j hj => by rw [hWc, Nat.add_assoc]; exact hsp1 _ (by omega)) (fun j _ => by rw [hWf, hW1, World.frozen?_setCells]; exact hfz _) h1v
 have ul := Tryz.underlying27
 have mixed : Tryz.prog.follows .mixedOrders = true := insLays.mixed
 go_enter Tryz.func129, Tryz.ntmps129
 go_wp2_with (simp only [hov])
 go_region_law_o (refine step_copy_runI rfl _ _ 27 27 rfl _ _ (by simp [Act.eval, Act.put]) (by simp [Act.eval, Act.put]) (cp1 _ _ _) ?_)
 go_wp2_with (at_builtin; refine wpList_copy_runI _ rfl _ _ 27 27 rfl _ _ rfl rfl (cp2 _ (fun _ => rfl) (fun _ => rfl) _ _) ?_)
 go_ret
 exact ⟨rfl, rfl⟩
theorem insert_int (PS : PL) (q ver i : Nat) (l : List Int) (x : Int) (sp : List (List HV)) (hq : getP PS q = .arr ver 1 (l.map kidL ++ sp) true) (hsp : l.map kidL ++ sp ≠ []) (hi : i ≤ l.length) (hl : l.length ≤ 1000) :
  HCall Tryz.prog 129 [.sl q ver 0 l.length none, .int .i64 i, .imm true [kidL x]] PS fun r PS' => r = .sl q (ver + 1) 0 (l.length + 1) none ∧ PS' = PS.set q (.arr (ver + 1) 1 ((l.take i ++ x :: l.drop i).map kidL) true) := by
 intro F e D w vs hr hf
 obtain ⟨hl', hv⟩ := hf
 match vs, hl' with
 | ⟨[u0, u1, u2]⟩, _ =>
  have h0 : VRel (Mut F D) e w (.sl q ver 0 l.length none) u0 := hv 0 _ _ rfl rfl
  have h1 : VRel (Mut F D) e w (.int .i64 i) u1 := hv 1 _ _ rfl rfl
  have h2 : VRel (Mut F D) e w (.imm true [kidL x]) u2 := hv 2 _ _ rfl rfl
  have hmx : maxLen = 9223372036854775807 := rfl
  obtain ⟨p, b, o, cap, hp, hpv, hkd, hD, hrow⟩ := hr.row hq (.inr hsp)
  cases h1
  obtain ⟨p', hp', hs⟩ := VRel.sl_inv h0
  rw [hp] at hp'; cases hp'
  have hsl := hs hpv.symm
  rw [hkd] at hsl
  obtain ⟨a, c, rfl, hlc, hcm, hn0, ha, _, hic⟩ := hsl
  obtain ⟨b2, off2, c2, u, hc2, rfl, hnM, hbs, hcell2', h1u, hru⟩ := VRel.imm_one h2
  have hbb : b2 ≠ b := fun h => hnM (.inr ⟨q, (hD b2).2 h⟩)
  have hc0 : 0 < c := by have h1 := hrow.len; have h2 := List.length_pos_iff.2 hsp; omega
  obtain rfl := ha hc0
  obtain ⟨cs, ty, pre, evs, post, hb, hfit, hcs, hpre, hE⟩ : ∃ (cs : Array Value) (ty : TypeId) (pre vs post : List Value), w.heap[b]? = some (.cells cs ty (0, 0)) ∧ o + cap * 1 ≤ cs.size ∧ cs.toList = pre ++ vs ++ post ∧ pre.length = o ∧ Go.Eng.RowsIn (Mut F D) e w 1 (l.map kidL) vs := by
   obtain ⟨cs, ty, pre, evs, post, hb, hfit, hcs, hpre, hE⟩ := hrow.split
   have e1 := hE.take l.length (by simp)
   rw [List.take_left' (by simp), Nat.mul_one] at e1
   exact ⟨cs, ty, pre, evs.take l.length, evs.drop l.length ++ post, hb, hfit, by rw [hcs]; simp only [List.append_assoc]; rw [← List.append_assoc (evs.take _), List.take_append_drop], hpre, e1⟩
  obtain ⟨evs2, hev2⟩ : ∃ l : List Value, l = [u] := ⟨_, rfl⟩
  have hE2 : Go.Eng.RowsIn (Mut F D) e w 1 [kidL x] evs2 := by
   rw [hev2]
   exact .single rfl rfl (by simpa using h1u) (fun k y v hk hv => by
    cases k with
    | zero => simp [kidL] at hk hv; subst hk; subst hv; exact hru
    | succ k => simp at hv)
  obtain ⟨cs2, ty2, fr2, hb2, hk2⟩ : ∃ cs2 ty2 fr2, w.heap[b2]? = some (.cells cs2 ty2 fr2) ∧ cs2.size ≠ 0 := by
   unfold World.cell? at hcell2'
   split at hcell2'
   ·rename_i c e f hh
    refine ⟨c, e, f, hh, fun h0 => ?_⟩
    simp at hcell2'
    have := (Array.getElem?_eq_some_iff.1 hcell2').1
    omega
   ·cases hcell2'
  have hel := hE.len
  have hel2 := hE2.len
  rw [List.length_map, Nat.mul_one] at hel
  simp only [List.length_singleton, Nat.mul_one] at hel2
  have hcl : cs.size = pre.length + evs.length + post.length := by have := congrArg List.length hcs; simpa [Nat.add_assoc] using this
  have hcell : ∀ j v, evs[j]? = some v → w.cell? ⟨b, o + 0 * 1 + 0 + j, none⟩ = some v := fun j v hj => by
   have hjl := (List.getElem?_eq_some_iff.1 hj).1
   rw [cell_of_row w b _ cs ty (0, 0) hb]
   have : cs[o + 0 * 1 + 0 + j]? = cs.toList[o + 0 * 1 + 0 + j]? := by simp
   rw [this, hcs, List.append_assoc, List.getElem?_append_right (by omega), List.getElem?_append_left (by omega), ← hj]
   congr 1; omega
  have hcell2 : ∀ j v, evs2[j]? = some v → w.cell? ⟨b2, off2 + j, none⟩ = some v := fun j v hj => by
   rw [hev2] at hj
   cases j with
   | zero => simp at hj; subst hj; exact hcell2'
   | succ j => simp at hj
  have hfrz : ∀ (b : Nat) (cs : Array Value) (ty : TypeId) (k : Nat), w.heap[b]? = some (.cells cs ty (0, 0)) → w.frozen? ⟨b, k, none⟩ = false := fun b cs ty k h => by simp [World.frozen?, h]
  have hEi : Go.Eng.RowsIn (Mut F D) e w 1 ((l.take i ++ x :: l.drop i).map kidL) (evs.take i ++ (evs2 ++ evs.drop i)) := by
   have e1 := hE.take i (by simp; omega)
   have e2 := hE.drop i
   rw [Nat.mul_one] at e1 e2
   have := e1.append (hE2.append e2)
   rw [← List.map_take, ← List.map_drop] at this
   rw [List.map_append, List.map_cons]
   simpa using this
  have hn : q < e.length := (List.getElem?_eq_some_iff.1 hp).1
  by_cases hie : i = l.length
  ·subst hie
   have hE2' : (evs.take l.length ++ (evs2 ++ evs.drop l.length)) = evs ++ evs2 := by rw [List.take_of_length_le (by omega), List.drop_of_length_le (by omega), List.append_nil]
   rw [hE2'] at hEi
   by_cases hroom : l.length + 1 ≤ c
   ·have hcall := Any2.slices_Insert_int_end_room insLays b (o + 0 * 1 + 0) l.length c b2 off2 1 c2 evs2 w (by omega) hroom (by omega) hel2
     (fun j hj => by rw [cell_of_row w b _ cs ty (0, 0) hb]; rw [Array.getElem?_eq_getElem (by omega)]; rfl) (fun j _ => hfrz b cs ty _ hb) hcell2 hE2.one
    refine hcall.mono ?_
    rintro en w' ⟨rfl, rfl⟩
    rw [setCells_row b _ _ w cs ty (0, 0) hb (by omega)]
    have hfin : hsplice (o + 0 * 1 + 0 + l.length) evs2 cs.toList = pre ++ (evs ++ evs2) ++ post.drop 1 := by
     have l1 : o + 0 * 1 + 0 + l.length = (pre ++ evs).length := by rw [List.length_append]; omega
     rw [hcs, l1, splice_app, hel2]; simp
    rw [hfin]
    obtain ⟨hrel', htr⟩ := hr.write (b := b) (o := o) (sz := 1) (cap := cap) (ver' := ver + 1) (E' := (l.take l.length ++ x :: l.drop l.length).map kidL) (opn' := true) hq hp hpv hD hb (pre ++ (evs ++ evs2) ++ post.drop 1).toArray (.inr (by omega))
     (by simp; omega) (by simp) (by have := hrow.most; omega) (by simp; omega) hEi.sz (fun j l k x hj hk' => by
      have := hEi.cells pre (post.drop 1) j l k x hj hk'
      rw [hpre] at this
      exact this)
    refine ⟨_, _, _, _, _, rfl, ⟨rfl, rfl⟩, hrel', htr, ?_⟩
    exact sl_at (b := b) (o := o) (s := 1) (cap := cap) (by simp [hn]) ⟨_, _, rfl, hroom, hcm, by simp, fun _ => by simp, rfl, hic⟩
   ·have hcall := Any2.slices_Insert_int_end_grow insLays (some ⟨b, o + 0 * 1 + 0, none⟩) l.length c b2 off2 1 c2 evs evs2 w (by omega) hlc (by omega) (by omega) hel hel2 (by simp) (fun a ha j v hj => by cases ha; rw [addr_add]; exact hcell j v hj) hcell2 hE2.one
    refine hcall.mono ?_
    rintro en w' ⟨rfl, rfl⟩
    obtain ⟨G, hG⟩ : ∃ G, G = grownCap w (l.length + 1) c (insRen.t 3) := ⟨_, rfl⟩
    have hg1 : l.length + 1 ≤ G := by rw [hG]; exact grownCap_ge w (l.length + 1) c _
    have hg2 : G ≤ maxLen := by rw [hG]; exact grownCap_le_maxLen w (l.length + 1) c _ (by omega)
    rw [← hG]
    obtain ⟨zs, hzs, hzl⟩ : ∃ zs : List Value, (evs ++ evs2).toArray ++ Builtin.zeroCells (Value.int .i64 0).cells (G - (l.length + 1)) = (evs ++ evs2 ++ zs).toArray ∧ (evs ++ evs2 ++ zs).length = G := ⟨(Builtin.zeroCells (Value.int .i64 0).cells (G - (l.length + 1))).toList, by simp, by simp [size_zeroCells, Value.cells]; omega⟩
    rw [hzs]
    obtain ⟨hrel', htr⟩ := (grown_rel hr).move (ver' := ver + 1) (cap := G) (E' := (l.take l.length ++ x :: l.drop l.length).map kidL) (opn' := true) hq hp hpv (evs ++ evs2 ++ zs).toArray (insRen.t 3) (by omega) (by simp; omega) (by simp) hg2 (by rw [List.size_toArray, hzl]; omega) hEi.sz (fun j l k x hj hk' => by
      have := hEi.cells [] zs j l k x hj hk'
      obtain ⟨u, a1, a2, a3⟩ := this
      exact ⟨u, by simpa using a1, a2, a3.mono (Tr.same (D := D) (e := e) (w := w) (w' := w.drew) rfl rfl rfl rfl).stays (.refl e)⟩)
    refine ⟨_, _, _, _, _, rfl, ⟨rfl, rfl⟩, hrel', (Tr.drew w).trans htr, ?_⟩
    exact sl_at (b := w.drew.heap.size) (o := 0) (s := 1) (cap := G) (by simp [hn]) ⟨_, _, rfl, hg1, hg2, by simp, fun _ => by simp, rfl, by simp⟩
  replace hi : i < l.length := by omega
  by_cases hroom : l.length + 1 ≤ c
  ·have hcall := ins_shift b (o + 0 * 1 + 0) l.length c i b2 off2 c2 evs evs2 w hi hroom (by omega) hbb hel hel2 hcell
    (fun j hj => by rw [cell_of_row w b _ cs ty (0, 0) hb]; rw [Array.getElem?_eq_getElem (by omega)]; rfl)
    (fun j => hfrz b cs ty _ hb) hcell2 hE.one hE2.one ty2 ty cs2.size cs.size (by simp [World.shape?, hb2]) (by simp [World.shape?, hb]) hk2
   refine hcall.mono ?_
   rintro en w' ⟨rfl, rfl⟩
   have hw1 : w.drew.heap[b]? = some (.cells cs ty (0, 0)) := hb
   have hl1 : (hsplice (o + 0 * 1 + 0 + (i + 1)) (evs.drop i) cs.toList).length = cs.size := by
    rw [splice_len]
    ·simp
    ·simp; omega
   rw [setCells_row b _ _ w.drew cs ty (0, 0) hw1 (by simp; omega), setCells_row b _ _ _ _ ty (0, 0) (setRow_heap _ b cs _ ty (0, 0) hw1) (by simp only [List.size_toArray, hl1]; omega), setRow_setRow]
   have hfin : hsplice (o + 0 * 1 + 0 + i) evs2 (hsplice (o + 0 * 1 + 0 + (i + 1)) (evs.drop i) cs.toList).toArray.toList = pre ++ (evs.take i ++ (evs2 ++ evs.drop i)) ++ post.drop 1 := by
    obtain ⟨z, post', rfl⟩ : ∃ z post', post = z :: post' := by cases post with | nil => simp at hcl; omega | cons z p => exact ⟨_, _, rfl⟩
    have hl9 : o + 0 * 1 + 0 = pre.length := by omega
    have hia : i = (evs.take i).length := by simp; omega
    rw [hcs, hl9]
    have := splice_ins pre (evs.take i) (evs.drop i) evs2 post' z hel2
    rw [List.take_append_drop, ← hia] at this
    exact this
   rw [hfin]
   obtain ⟨hrel', htr⟩ := (grown_rel hr).write (b := b) (o := o) (sz := 1) (cap := cap) (ver' := ver + 1) (E' := (l.take i ++ x :: l.drop i).map kidL) (opn' := true) hq hp hpv hD hb (pre ++ (evs.take i ++ (evs2 ++ evs.drop i)) ++ post.drop 1).toArray (.inr (by omega))
    (by simp; omega) (by simp) (by have := hrow.most; omega) (by simp; omega) hEi.sz (fun j l k x hj hk' => by
     have := hEi.cells pre (post.drop 1) j l k x hj hk'
     rw [hpre] at this
     obtain ⟨u, a1, a2, a3⟩ := this
     exact ⟨u, a1, a2, a3.mono (Tr.same (D := D) (e := e) (w := w) (w' := w.drew) rfl rfl rfl rfl).stays (.refl e)⟩)
   refine ⟨_, _, _, _, _, rfl, ⟨rfl, rfl⟩, hrel', (Tr.drew w).trans htr, ?_⟩
   exact sl_at (b := b) (o := o) (s := 1) (cap := cap) (by simp [hn]) ⟨_, _, rfl, hroom, hcm, by simp, fun _ => by simp, rfl, hic⟩
  ·have hcall := Any2.slices_Insert_int_grow insLays b (o + 0 * 1 + 0) l.length c i b2 off2 1 c2 evs evs2 w hi (by omega) hlc (by omega) (by omega) hel hel2 hcell hcell2 hE.one hE2.one
   refine hcall.mono ?_
   rintro en w' ⟨rfl, rfl⟩
   obtain ⟨G, hG⟩ : ∃ G, G = grownCap w (l.length + 1) c (insRen.t 3) := ⟨_, rfl⟩
   have hg1 : l.length + 1 ≤ G := by rw [hG]; exact grownCap_ge w (l.length + 1) c _
   have hg2 : G ≤ maxLen := by rw [hG]; exact grownCap_le_maxLen w (l.length + 1) c _ (by omega)
   rw [← hG]
   generalize hA : (evs.take i).toArray ++ Builtin.zeroCells (Value.int .i64 0).cells (l.length + 1 - i) ++ Builtin.zeroCells (Value.int .i64 0).cells (G - (l.length + 1)) = A
   have hAl : A.size = G := by rw [← hA]; simp [size_zeroCells, Value.cells]; omega
   have hia : i = (evs.take i).length := by simp; omega
   have hAt : ∃ zs, A.toList = evs.take i ++ zs := ⟨_, by rw [← hA]; simp [List.append_assoc]; rfl⟩
   obtain ⟨zs, hzs⟩ := hAt
   have hfin : hsplice (i + 1) (evs.drop i) (hsplice i evs2 A.toList).toArray.toList = evs.take i ++ (evs2 ++ evs.drop i) ++ (zs.drop 1).drop (evs.drop i).length := by
    have := splice_grow (evs.take i) evs2 (evs.drop i) zs hel2
    rw [← hia] at this
    rw [hzs]
    exact this
   have hAl' : A.size = A.toList.length := by simp
   have hl1 : (hsplice i evs2 A.toList).length = A.size := by rw [splice_len]; simp; simp; omega
   have hwr : (((w.alloc (.cells A (insRen.t 3))).drew.setCells w.heap.size i evs2).drew).setCells w.heap.size (i + 1) (evs.drop i) = w.drew.drew.alloc (.cells (evs.take i ++ (evs2 ++ evs.drop i) ++ (zs.drop 1).drop (evs.drop i).length).toArray (insRen.t 3)) := by
    have a1 : (w.alloc (.cells A (insRen.t 3))).drew.heap[w.heap.size]? = some (.cells A (insRen.t 3) (0, 0)) := by show (w.heap.push _)[w.heap.size]? = _; simp
    rw [setCells_row _ _ _ _ A (insRen.t 3) (0, 0) a1 (by omega)]
    have a3 : ∀ (W : World) (B : Array Value), (W.setRow w.heap.size B).drew = W.drew.setRow w.heap.size B := fun _ _ => rfl
    rw [a3]
    have a4 : (w.alloc (.cells A (insRen.t 3))).drew.drew.heap[w.heap.size]? = some (.cells A (insRen.t 3) (0, 0)) := a1
    have a2 := setRow_heap _ _ _ (hsplice i evs2 A.toList).toArray _ _ a4
    rw [setCells_row _ _ _ _ _ (insRen.t 3) (0, 0) a2 (by simp only [List.size_toArray, hl1, List.length_drop]; omega), setRow_setRow, hfin]
    exact alloc_setRow w.drew.drew A _ _
   rw [hwr]
   have hpost : (evs.take i ++ (evs2 ++ evs.drop i) ++ (zs.drop 1).drop (evs.drop i).length).length = G := by
    rw [← hfin]
    have e1 : (hsplice i evs2 A.toList).toArray.toList.length = G := by rw [← hAl, ← hl1]
    rw [splice_len, e1]
    rw [e1, List.length_drop]; omega
   obtain ⟨hrel', htr⟩ := (grown_rel (grown_rel hr)).move (ver' := ver + 1) (cap := G) (E' := (l.take i ++ x :: l.drop i).map kidL) (opn' := true) hq hp hpv (evs.take i ++ (evs2 ++ evs.drop i) ++ (zs.drop 1).drop (evs.drop i).length).toArray (insRen.t 3) (by omega) (by simp; omega) (by simp) hg2 (by rw [List.size_toArray, hpost]; omega) hEi.sz (fun j l k x hj hk' => by
     have := hEi.cells [] ((zs.drop 1).drop (evs.drop i).length) j l k x hj hk'
     obtain ⟨u, a1, a2, a3⟩ := this
     exact ⟨u, by simpa using a1, a2, a3.mono (Tr.same (D := D) (e := e) (w := w) (w' := w.drew.drew) rfl rfl rfl rfl).stays (.refl e)⟩)
   refine ⟨_, _, _, _, _, rfl, ⟨rfl, rfl⟩, hrel', ((Tr.drew w).trans (Tr.drew w.drew)).trans htr, ?_⟩
   exact sl_at (b := w.drew.drew.heap.size) (o := 0) (s := 1) (cap := G) (by simp [hn]) ⟨_, _, rfl, hg1, hg2, by simp, fun _ => by simp, rfl, by simp⟩
set_option maxRecDepth 20000
attribute [local irreducible] hvc hops hop hplan hdrawP hval1 hopD HLoop
theorem insert_nil (PS : PL) (x : Int) :
  HCall Tryz.prog 129 [.imm true [], .int .i64 0, .imm true [kidL x]] PS fun r PS' => r = .sl PS.length 0 0 1 none ∧ PS' = PS ++ [.arr 0 1 [kidL x] true] := by
 have hmx : maxLen = 9223372036854775807 := rfl
 refine enter_129 (by unfold Tryz.f129; exact rfl) ?_
 simp only [go_sem, seval, kidL]
 exact ⟨by simp, fun _ _ => ⟨by simp [kidL], by simp⟩⟩
end Go.Proofs.YtdjfdlpfchokcaaGreat
namespace Go.Proofs.YtdjfdlpfchokcaaGreat
open Go Go.Eng Go.Mo
variable [Toks]
set_option maxRecDepth 20000
attribute [local irreducible] hvc hops hop hplan hdrawP hval1 hopD HLoop
theorem latch_new (PS : PL) : HCall Tryz.prog 19 [] PS fun r PS' => r = .ptr PS.length 0 0 0 ∧ PS' = PS ++ [.arr 0 4 [[.int .i64 0, .imm true [], .int .i64 (-1), .imm true []]] false] := by
 refine enter_19 (by unfold Tryz.f19; exact rfl) ?_
 simp only [go_sem, seval]
end Go.Proofs.YtdjfdlpfchokcaaGreat
namespace Go.Mo
open Go Go.Eng
variable [Toks]
def SlO (PS : PL) (s : Nat) (x : HV) (own : List Nat) (rows : List (List HV)) : Prop :=
 (x = .imm true [] ∧ rows = [] ∧ own = []) ∨ ∃ q ver pre sp, x = .sl q ver pre.length rows.length none ∧ getP PS q = .arr ver s (pre ++ (rows ++ sp)) true ∧ own = [q]
def SlR (PS : PL) (s : Nat) (x : HV) (own : List Nat) (rows : List (List HV)) : Prop :=
 (x = .imm true [] ∧ rows = [] ∧ own = []) ∨ ∃ q ver sp, x = .sl q ver 0 rows.length none ∧ getP PS q = .arr ver s (rows ++ sp) true ∧ rows ++ sp ≠ [] ∧ own = [q]
def Sees (PS : PL) (s : Nat) (x : HV) (rows : List (List HV)) : Prop :=
 (∃ t, x = .imm t rows) ∨ ∃ q ver pre sp o cp, x = .sl q ver pre.length rows.length cp ∧ getP PS q = .arr ver s (pre ++ (rows ++ sp)) o
theorem SlO.sees {PS : PL} {s : Nat} {x : HV} {own : List Nat} {rows : List (List HV)} (h : SlO PS s x own rows) : Sees PS s x rows := by
 rcases h with ⟨rfl, rfl, _⟩ | ⟨q, ver, pre, sp, rfl, h, _⟩
 ·exact .inl ⟨true, rfl⟩
 ·exact .inr ⟨q, ver, pre, sp, true, none, rfl, h⟩
theorem SlR.slO {PS : PL} {s : Nat} {x : HV} {own : List Nat} {rows : List (List HV)} (h : SlR PS s x own rows) : SlO PS s x own rows := by
 rcases h with ⟨rfl, rfl, rfl⟩ | ⟨q, ver, sp, rfl, h, _, rfl⟩
 ·exact .inl ⟨rfl, rfl, rfl⟩
 ·exact .inr ⟨q, ver, [], sp, rfl, h, rfl⟩
theorem SlO.lt {PS : PL} {s : Nat} {x : HV} {own : List Nat} {rows : List (List HV)} (h : SlO PS s x own rows) : ∀ n ∈ own, n < PS.length := by
 rcases h with ⟨_, _, rfl⟩ | ⟨q, ver, pre, sp, _, h, rfl⟩
 ·simp
 ·intro n hn; simp at hn; subst hn; exact getP_lt h
theorem SlO.keep {PS PS' : PL} {s : Nat} {x : HV} {own : List Nat} {rows : List (List HV)} (h : SlO PS s x own rows) (hk : ∀ n ∈ own, getP PS' n = getP PS n) : SlO PS' s x own rows := by
 rcases h with ⟨rfl, rfl, rfl⟩ | ⟨q, ver, pre, sp, rfl, h, rfl⟩
 ·exact .inl ⟨rfl, rfl, rfl⟩
 ·exact .inr ⟨q, ver, pre, sp, rfl, (hk q (by simp)).trans h, rfl⟩
theorem SlR.keep {PS PS' : PL} {s : Nat} {x : HV} {own : List Nat} {rows : List (List HV)} (h : SlR PS s x own rows) (hk : ∀ n ∈ own, getP PS' n = getP PS n) : SlR PS' s x own rows := by
 rcases h with ⟨rfl, rfl, rfl⟩ | ⟨q, ver, sp, rfl, h, hne, rfl⟩
 ·exact .inl ⟨rfl, rfl, rfl⟩
 ·exact .inr ⟨q, ver, sp, rfl, (hk q (by simp)).trans h, hne, rfl⟩
theorem at_row {α : Type} {pre sp : List (List HV)} {f : α → List HV} {l : List α} {i : Nat} {x : α} (h : l[i]? = some x) : (pre ++ (l.map f ++ sp))[pre.length + i]? = some (f x) := by
 have hl := (List.getElem?_eq_some_iff.1 h).1
 rw [List.getElem?_append_right (by omega), Nat.add_sub_cancel_left, List.getElem?_append_left (by simpa using hl), List.getElem?_map, h]; rfl
theorem placeOf_mem (l : List Int) (x : Int) : decide (0 ≤ placeOf l x) = l.contains x := by
 by_cases hx : x ∈ l
 ·rw [List.contains_iff_mem.2 hx, decide_eq_true_iff]
  unfold placeOf
  split
  ·omega
  ·rename_i h
   rw [List.findIdx?_eq_none_iff] at h
   have := h x hx
   simp at this
 ·have : l.contains x = false := by simpa using hx
  rw [this, decide_eq_false_iff_not]
  rw [placeOf_none (fun j _ hj => hx (List.mem_of_getElem? hj))]
  omega
end Go.Mo
namespace Go.Proofs.YtdjfdlpfchokcaaGreat
open Go Go.Eng Go.Mo
variable [Toks]
set_option maxRecDepth 20000
attribute [local irreducible] hvc hops hop hplan hdrawP hval1 hopD HLoop
theorem index_sl (PS : PL) (l : List Int) (x : Int) (q ver : Nat) (pre sp : List (List HV)) (o : Bool) (cp : Option Nat) (hq : getP PS q = .arr ver 1 (pre ++ (l.map kidL ++ sp)) o) :
  HCall Tryz.prog 76 [.sl q ver pre.length l.length cp, .int .i64 x] PS fun r PS' => r = .int .i64 (placeOf l x) ∧ PS' = PS := by
 refine HCall.data (.int _ _) ?_
 have hmx : maxLen = 9223372036854775807 := rfl
 refine enter_76 (by unfold Tryz.f76; exact rfl) ?_
 simp only [go_sem, seval, hq]
 intro _
 refine pend_intro (loop_rule (α := Nat) [false, false, false, false, true, true, false, false, false, true, true, true, true, true, true, true, true, true, true] (fun i => [(8, .int .i64 i)]) (fun i => l.length - i) (fun i PS' => (i ≤ l.length ∧ ∀ j, j < i → l[j]? ≠ some x) ∧ PS' = PS) 0 ⟨⟨Nat.zero_le _, fun j h => absurd h (Nat.not_lt_zero _)⟩, rfl⟩ ?_ ?_)
 ·simp only [go_sem, seval, Int.natCast_zero]
 ·intro i PS' hr
  obtain ⟨⟨hi, hu⟩, rfl⟩ := hr
  by_cases hlt : i < l.length
  ·have ha1 : l[i]? = some l[i] := by simp [hlt]
   have hg := at_row (pre := pre) (sp := sp) (f := kidL) ha1
   simp only [go_sem, seval, hlt, hq, hg, kidL]
   by_cases hx : x = l[i]
   ·simp only [go_sem, seval, hx]
    rw [placeOf_some ha1 (fun j hj => hx ▸ hu j hj)]
    exact ⟨rfl, Ext.refl _⟩
   ·simp only [go_sem, seval, hx]
    refine ⟨by omega, i + 1, by omega, ⟨by omega, fun j hj hjx => ?_⟩, by simp⟩
    by_cases hji : j < i
    ·exact hu j hji hjx
    ·have : j = i := by omega
     subst this; rw [ha1] at hjx; cases hjx; exact hx rfl
  ·simp only [go_sem, seval, hlt]
   rw [placeOf_none (fun j hj => hu j (by omega))]
   exact ⟨rfl, Ext.refl _⟩
theorem index_sees (PS : PL) (l : List Int) (x : Int) (y : HV) (h : Sees PS 1 y (l.map kidL)) : HCall Tryz.prog 76 [y, .int .i64 x] PS fun r PS' => r = .int .i64 (placeOf l x) ∧ PS' = PS := by
 rcases h with ⟨t, rfl⟩ | ⟨q, ver, pre, sp, o, cp, rfl, h⟩
 ·exact index_pure t l x PS
 ·rw [List.length_map]; exact index_sl PS l x q ver pre sp o cp h
theorem contains_sees (PS : PL) (l : List Int) (x : Int) (y : HV) (h : Sees PS 1 y (l.map kidL)) : HCall Tryz.prog 74 [y, .int .i64 x] PS fun r PS' => r = .bool (l.contains x) ∧ PS' = PS := by
 refine enter_74 (by unfold Tryz.f74; exact rfl) ?_
 simp only [go_sem, seval]
 refine pend_intro ((index_sees PS l x y h).mono ?_)
 rintro r PS' ⟨rfl, rfl⟩
 simp only [go_sem, seval]
 rw [placeOf_mem l x]
end Go.Proofs.YtdjfdlpfchokcaaGreat
namespace Go.Mo
open Go Go.Eng
variable [Toks]
@[go_sem ↓, go_sem] theorem ones_wn (a : Wn) : ones (wnL a) = True := eq_true ((ones_iff _).2 (by intro y hy; simp [wnL] at hy; rcases hy with rfl | rfl <;> rfl))
@[go_sem ↓, go_sem] theorem wnL_len (a : Wn) : (wnL a).length = 2 := _root_.id rfl
@[go_sem ↓, go_sem] theorem wn_t (a : Wn) : (wnL a).take 1 = [.int .i64 a.t] := _root_.id rfl
@[go_sem ↓, go_sem] theorem wn_all (a : Wn) : (wnL a).take 2 = wnL a := _root_.id rfl
@[go_sem ↓, go_sem] theorem wn_w (a : Wn) : ((wnL a).drop 1).take 1 = [.bool a.w] := _root_.id rfl
theorem shr1 (n : Nat) : ((n : Int)).fdiv 2 = ((n / 2 : Nat) : Int) := by
 rw [Int.fdiv_eq_ediv_of_nonneg _ (by omega)]; rfl
theorem splice_app' {α : Type} (A v L : List α) : hsplice A.length v (A ++ L) = A ++ (v ++ L.drop v.length) := by
 unfold hsplice
 rw [List.take_left' rfl, ← List.drop_drop, List.drop_left' rfl]
theorem rows_mid {α : Type} (f : α → List HV) (pre : List (List HV)) (l : List α) (sp : List (List HV)) (i : Nat) (h : i ≤ l.length) : List.take (l.length - i) (List.drop (pre.length + i) (pre ++ (l.map f ++ sp))) = (l.drop i).map f := by
 rw [← List.drop_drop, List.drop_left' rfl, List.drop_append_of_le_length (by simpa using h), List.take_append_of_le_length (by simp), List.take_of_length_le (by simp), List.map_drop]
theorem rows_del {α : Type} (f : α → List HV) (pre : List (List HV)) (l : List α) (sp : List (List HV)) {i : Nat} (h : i < l.length) : ∃ z sp', hsplice (pre.length + i) ((l.drop (i + 1)).map f) (pre ++ (l.map f ++ sp)) = pre ++ ((l.eraseIdx i).map f ++ z :: sp') := by
 have e1 : pre ++ (l.map f ++ sp) = (pre ++ (l.take i).map f) ++ ((l.drop i).map f ++ sp) := by
  have : l.map f = (l.take i).map f ++ (l.drop i).map f := by rw [← List.map_append, List.take_append_drop]
  rw [List.append_assoc, ← List.append_assoc ((l.take i).map f), ← this]
 have l1 : pre.length + i = (pre ++ (l.take i).map f).length := by simp; omega
 have l2 : ((l.drop (i + 1)).map f).length = l.length - (i + 1) := by simp
 rw [e1, l1, splice_app', l2]
 have l3 : l.length - (i + 1) < ((l.drop i).map f ++ sp).length := by simp; omega
 refine ⟨((l.drop i).map f ++ sp)[l.length - (i + 1)], ((l.drop i).map f ++ sp).drop (l.length - (i + 1) + 1), ?_⟩
 rw [List.drop_eq_getElem_cons l3, List.eraseIdx_eq_take_drop_succ]
 simp
end Go.Mo
namespace Go.Proofs.YtdjfdlpfchokcaaGreat
open Go Go.Eng Go.Mo
variable [Toks]
set_option maxRecDepth 20000
attribute [local irreducible] hvc hops hop hplan hdrawP hval1 hopD HLoop
theorem isnan_pure (y : Int) : Pure Tryz.prog 143 [.int .i64 y] (.bool false) := by
 intro PS
 refine enter_143 (by unfold Tryz.f143; exact rfl) ?_
 simp only [go_sem, seval]
theorem isnan2_pure (y : Int) : Pure Tryz.prog 137 [.int .i64 y] (.bool false) := by
 intro PS
 refine enter_137 (by unfold Tryz.f137; exact rfl) ?_
 simp only [go_sem, seval]
theorem less_pure (x y : Int) : Pure Tryz.prog 136 [.int .i64 x, .int .i64 y] (.bool (decide (x < y))) := by
 intro PS
 refine enter_136 (by unfold Tryz.f136; exact rfl) ?_
 simp only [go_sem, seval]
 refine pend_intro ((isnan_pure x).call ?_)
 simp only [go_sem, seval]
theorem bs_int (PS : PL) (l : List Int) (x : Int) (q ver : Nat) (sp : List (List HV)) (o : Bool) (cp : Option Nat) (hup : Up l) (hl : l.length ≤ 1000) (hq : getP PS q = .arr ver 1 (l.map kidL ++ sp) o) :
  HCall Tryz.prog 128 [.sl q ver 0 l.length cp, .int .i64 x] PS fun r PS' => r = .tup [.int .i64 (below l x), .bool (decide (l[below l x]? = some x))] ∧ PS' = PS := by
 refine HCall.data (tup2_scoped (.int _ _) (.bool _)) ?_
 have hmx : maxLen = 9223372036854775807 := rfl
 refine enter_128 (by unfold Tryz.f128; exact rfl) ?_
 simp only [go_sem, seval, hq]
 intro _
 refine pend_intro (loop_rule (α := Nat × Nat) [false, false, false, false, false, false, false, false, false, true, false, false, false, true, true, true, true, true, true, true, true, true, true, true, true, true, true, true, true, true, true] (fun p => [(7, .int .i64 p.1), (8, .int .i64 p.2)]) (fun p => p.2 - p.1) (fun p PS' => ((p.1 ≤ p.2 ∧ p.2 ≤ l.length) ∧ (∀ k y, k < p.1 → l[k]? = some y → y < x) ∧ ∀ k y, p.2 ≤ k → l[k]? = some y → x ≤ y) ∧ PS' = PS) (0, l.length) ⟨⟨⟨Nat.zero_le _, Nat.le_refl _⟩, fun k y h => absurd h (Nat.not_lt_zero _), fun k y hk hy => by rw [List.getElem?_eq_none hk] at hy; cases hy⟩, rfl⟩ ?_ ?_)
 ·simp only [go_sem, seval, Int.natCast_zero]
 ·rintro ⟨i, j⟩ PS' ⟨⟨⟨h1, h2⟩, h3, h4⟩, rfl⟩
  simp only at h1 h2 h3 h4
  by_cases hlt : i < j
  ·have hw : IntKind.u64.wrap ((i : Int) + j) = ((i + j : Nat) : Int) := by show ((i : Int) + j) % 18446744073709551616 = _; omega
   obtain ⟨h, hh⟩ : ∃ h, h = (i + j) / 2 := ⟨_, rfl⟩
   have hf : ((i : Int) + j).fdiv (2 ^ min 1 64) = (h : Int) := by
    have := shr1 (i + j)
    rw [← hh] at this
    simpa using this
   have hhl : h < l.length := by omega
   have ha1 : l[h]? = some l[h] := by simp [hhl]
   have hg : (l.map kidL ++ sp)[h]? = some (kidL l[h]) := by simpa using at_row (pre := []) (sp := sp) (f := kidL) ha1
   simp only [go_sem, seval, hlt, hq, hf, hg, hhl, kidL]
   refine ⟨by omega, by omega, by omega, pend_intro ((less_pure _ _).call ?_)⟩
   by_cases hx : l[h] < x
   ·simp only [go_sem, seval, hx]
    refine ⟨by omega, (h + 1, j), by simp only; omega, ⟨⟨by simp only; omega, by simp only; omega⟩, fun k y hk hy => ?_, h4⟩, by simp⟩
    by_cases hkh : k = h
    ·subst hkh; rw [ha1] at hy; cases hy; exact hx
    ·have := hup.get k h y _ (by simp only at hk; omega) hy ha1; omega
   ·simp only [go_sem, seval, hx]
    refine ⟨(i, h), by simp only; omega, ⟨⟨by simp only; omega, by simp only; omega⟩, h3, fun k y hk hy => ?_⟩, by simp⟩
    by_cases hkh : k = h
    ·subst hkh; rw [ha1] at hy; cases hy; omega
    ·have := hup.get h k _ y (by simp only at hk; omega) ha1 hy; omega
  ·have hij : i = j := by omega
   subst hij
   have hb : below l x = i := below_eq h3 h2 (fun y hy => h4 i y (Nat.le_refl _) hy)
   rw [hb]
   by_cases hil : i < l.length
   ·have ha1 : l[i]? = some l[i] := by simp [hil]
    have hg : (l.map kidL ++ sp)[i]? = some (kidL l[i]) := by simpa using at_row (pre := []) (sp := sp) (f := kidL) ha1
    by_cases hx : l[i] = x
    ·simp only [go_sem, seval, hlt, hq, hil, hg, kidL, hx]
     rw [ha1, hx]
     exact ⟨by simp, Ext.refl _⟩
    ·simp only [go_sem, seval, hlt, hq, hil, hg, kidL, hx]
     refine pend_intro ((isnan2_pure _).call ?_)
     simp only [go_sem, seval]
     rw [ha1]
     exact ⟨by simp [hx], Ext.refl _⟩
   ·have ha1 : l[i]? = none := by simp; omega
    simp only [go_sem, seval, hlt, hq, hil, ha1]
    exact Ext.refl _
theorem waits_fn (PS : PL) (m v : Nat) (x : Int) (a : Wn) (hm : getP PS m = .arr v 1 [[.int .i64 x]] false) : HCall Tryz.prog 115 [.agg (wnL a), .ptr m v 0 0] PS fun r PS' => r = .bool (decide (a.t = x)) ∧ PS' = PS := by
 refine HCall.data (.bool _) ?_
 refine enter_115 (by unfold Tryz.f115; exact rfl) ?_
 have hx : ∀ l, getP (PS ++ l) m = .arr v 1 [[.int .i64 x]] false := fun l => by rw [getP_app' l (getP_lt hm), hm]
 simp only [go_sem, seval, hx]
 exact Ext.app _ _
theorem ixf_want (PS : PL) (l : List Wn) (x : Int) (q ver m v : Nat) (pre sp : List (List HV)) (o : Bool) (cp : Option Nat) (hl : l.length ≤ 1000) (hq : getP PS q = .arr ver 2 (pre ++ (l.map wnL ++ sp)) o) (hm : getP PS m = .arr v 1 [[.int .i64 x]] false) :
  HCall Tryz.prog 114 [.sl q ver pre.length l.length cp, .func (.func 115) [] [.ptr m v 0 0]] PS fun r PS' => r = .int .i64 (placeOf (l.map Wn.t) x) ∧ PS' = PS := by
 refine HCall.data (.int _ _) ?_
 have hmx : maxLen = 9223372036854775807 := rfl
 refine enter_114 (by unfold Tryz.f114; exact rfl) ?_
 simp only [go_sem, seval, hq]
 intro _
 refine pend_intro (loop_rule (α := Nat) [false, false, false, false, true, true, false, false, false, true, true, true, true, true, true, true, true, true, true] (fun i => [(8, .int .i64 i)]) (fun i => l.length - i) (fun i PS' => (i ≤ l.length ∧ ∀ j, j < i → (l.map Wn.t)[j]? ≠ some x) ∧ PS' = PS) 0 ⟨⟨Nat.zero_le _, fun j h => absurd h (Nat.not_lt_zero _)⟩, rfl⟩ ?_ ?_)
 ·simp only [go_sem, seval, Int.natCast_zero]
 ·intro i PS' hr
  obtain ⟨⟨hi, hu⟩, rfl⟩ := hr
  by_cases hlt : i < l.length
  ·have ha1 : l[i]? = some l[i] := by simp [hlt]
   have hg := at_row (pre := pre) (sp := sp) (f := wnL) ha1
   have ha2 : (l.map Wn.t)[i]? = some l[i].t := by rw [List.getElem?_map, ha1]; rfl
   simp only [go_sem, seval, hlt, hq, hg]
   refine pend_intro ((waits_fn _ _ _ _ _ hm).mono ?_)
   rintro _ _ ⟨rfl, rfl⟩
   by_cases hx : l[i].t = x
   ·simp only [go_sem, seval, hx]
    rw [placeOf_some (hx ▸ ha2) hu]
    exact ⟨rfl, Ext.refl _⟩
   ·simp only [go_sem, seval, hx]
    refine ⟨by omega, i + 1, by omega, ⟨by omega, fun j hj hjx => ?_⟩, by simp⟩
    rw [← List.getElem?_map] at hjx
    by_cases hji : j < i
    ·exact hu j hji hjx
    ·have : j = i := by omega
     subst this; rw [ha2] at hjx; cases hjx; exact hx rfl
  ·simp only [go_sem, seval, hlt]
   rw [placeOf_none (fun j hj => hu j (by simp at hj; omega))]
   exact ⟨rfl, Ext.refl _⟩
theorem del_int (PS : PL) (l : List Int) (i : Nat) (q ver : Nat) (pre sp : List (List HV)) (hi : i < l.length) (hl : l.length ≤ 1000) (hq : getP PS q = .arr ver 1 (pre ++ (l.map kidL ++ sp)) true) :
  HCall Tryz.prog 77 [.sl q ver pre.length l.length none, .int .i64 i, .int .i64 ((i : Int) + 1)] PS fun r PS' => r = .sl q ver pre.length (l.length - 1) none ∧ ∃ sp', sp' ≠ [] ∧ PS' = PS.set q (.arr ver 1 (pre ++ ((l.eraseIdx i).map kidL ++ sp')) true) := by
 have hmx : maxLen = 9223372036854775807 := rfl
 refine enter_77 (by unfold Tryz.f77; exact rfl) ?_
 have hne : ¬ (pre ++ (l.map kidL ++ sp) = []) := by cases l with | nil => simp at hi | cons a l => simp
 have h1 : ¬ (i : Int) = i + 1 := by omega
 have h2 : ((i : Int) + 1).toNat = i + 1 := by omega
 have ht : List.take (l.length - (i + 1)) (List.drop (pre.length + (i + 1)) (pre ++ (l.map kidL ++ sp))) = (l.drop (i + 1)).map kidL := rows_mid kidL pre l sp (i + 1) (by omega)
 have hle : (pre ++ (l.map kidL ++ sp)).length = pre.length + (l.length + sp.length) := by simp
 obtain ⟨z, sp1, hz⟩ := rows_del kidL pre l sp hi
 have hx : ∀ Q, getP (PS.set q Q) q = Q := fun Q => getP_set_eq Q hq
 have hdl : ((l.drop (i + 1)).map kidL).length = l.length - (i + 1) := by simp
 simp only [go_sem, seval, hq, hne, h1, h2, ht, hle, hdl]
 intro _
 refine ⟨by omega, by omega, fun _ => ⟨by omega, by omega, by omega, by omega, .inr ⟨by omega, ?_⟩⟩⟩
 have h3 : ¬ (pre ++ ((l.eraseIdx i).map kidL ++ z :: sp1) = []) := by simp
 rw [ht]
 have hln : (pre ++ ((l.eraseIdx i).map kidL ++ z :: sp1)).length = pre.length + (l.length - 1 + (sp1.length + 1)) := by simp [List.length_eraseIdx, hi]
 have hsl : pre.length + (l.length + sp.length) = (pre ++ ((l.eraseIdx i).map kidL ++ z :: sp1)).length := by rw [← hz, splice_len]; simp; simp; omega
 rw [hln] at hsl
 simp only [go_sem, seval, hx, hz, hdl, h3, ht, hle, hln]
 have e1 : i + (l.length - (i + 1)) = l.length - 1 := by omega
 have e2 : l.length - (l.length - 1) = 1 := by omega
 rw [e1, e2]
 refine ⟨by omega, fun _ => ⟨by omega, by omega, by omega, rfl, ?_⟩⟩
 have l1 : pre.length + (l.length - 1) = (pre ++ (l.eraseIdx i).map kidL).length := by simp [List.length_eraseIdx, hi]
 rw [← List.append_assoc pre, l1, splice_app', List.set_set, List.append_assoc]
 refine ⟨_, ?_, rfl⟩
 simp
theorem del_want (PS : PL) (l : List Wn) (i : Nat) (q ver : Nat) (pre sp : List (List HV)) (hi : i < l.length) (hl : l.length ≤ 1000) (hq : getP PS q = .arr ver 2 (pre ++ (l.map wnL ++ sp)) true) :
  HCall Tryz.prog 79 [.sl q ver pre.length l.length none, .int .i64 i, .int .i64 ((i : Int) + 1)] PS fun r PS' => r = .sl q ver pre.length (l.length - 1) none ∧ ∃ sp', sp' ≠ [] ∧ PS' = PS.set q (.arr ver 2 (pre ++ ((l.eraseIdx i).map wnL ++ sp')) true) := by
 have hmx : maxLen = 9223372036854775807 := rfl
 refine enter_79 (by unfold Tryz.f79; exact rfl) ?_
 have hne : ¬ (pre ++ (l.map wnL ++ sp) = []) := by cases l with | nil => simp at hi | cons a l => simp
 have h1 : ¬ (i : Int) = i + 1 := by omega
 have h2 : ((i : Int) + 1).toNat = i + 1 := by omega
 have ht : List.take (l.length - (i + 1)) (List.drop (pre.length + (i + 1)) (pre ++ (l.map wnL ++ sp))) = (l.drop (i + 1)).map wnL := rows_mid wnL pre l sp (i + 1) (by omega)
 have hle : (pre ++ (l.map wnL ++ sp)).length = pre.length + (l.length + sp.length) := by simp
 obtain ⟨z, sp1, hz⟩ := rows_del wnL pre l sp hi
 have hx : ∀ Q, getP (PS.set q Q) q = Q := fun Q => getP_set_eq Q hq
 have hdl : ((l.drop (i + 1)).map wnL).length = l.length - (i + 1) := by simp
 simp only [go_sem, seval, hq, hne, h1, h2, ht, hle, hdl]
 intro _
 refine ⟨by omega, by omega, fun _ => ⟨by omega, by omega, by omega, by omega, .inr ⟨by omega, ?_⟩⟩⟩
 have h3 : ¬ (pre ++ ((l.eraseIdx i).map wnL ++ z :: sp1) = []) := by simp
 rw [ht]
 have hln : (pre ++ ((l.eraseIdx i).map wnL ++ z :: sp1)).length = pre.length + (l.length - 1 + (sp1.length + 1)) := by simp [List.length_eraseIdx, hi]
 have hsl : pre.length + (l.length + sp.length) = (pre ++ ((l.eraseIdx i).map wnL ++ z :: sp1)).length := by rw [← hz, splice_len]; simp; simp; omega
 rw [hln] at hsl
 simp only [go_sem, seval, hx, hz, hdl, h3, ht, hle, hln]
 have e1 : i + (l.length - (i + 1)) = l.length - 1 := by omega
 have e2 : l.length - (l.length - 1) = 1 := by omega
 rw [e1, e2]
 refine ⟨by omega, fun _ => ⟨by omega, by omega, by omega, rfl, ?_⟩⟩
 have l1 : pre.length + (l.length - 1) = (pre ++ (l.eraseIdx i).map wnL).length := by simp [List.length_eraseIdx, hi]
 rw [← List.append_assoc pre, l1, splice_app', List.set_set, List.append_assoc]
 refine ⟨_, ?_, rfl⟩
 simp
theorem ixf_want_sees (PS : PL) (l : List Wn) (x : Int) (y : HV) (m v : Nat) (hl : l.length ≤ 1000) (h : Sees PS 2 y (l.map wnL)) (hm : getP PS m = .arr v 1 [[.int .i64 x]] false) :
  HCall Tryz.prog 114 [y, .func (.func 115) [] [.ptr m v 0 0]] PS fun r PS' => r = .int .i64 (placeOf (l.map Wn.t) x) ∧ PS' = PS := by
 rcases h with ⟨t, rfl⟩ | ⟨q, ver, pre, sp, o, cp, rfl, h⟩
 ·refine HCall.data (.int _ _) ?_
  have hmx : maxLen = 9223372036854775807 := rfl
  refine enter_114 (by unfold Tryz.f114; exact rfl) ?_
  simp only [go_sem, seval, List.length_map]
  intro _
  refine pend_intro (loop_rule (α := Nat) [false, false, false, false, true, true, false, false, false, true, true, true, true, true, true, true, true, true, true] (fun i => [(8, .int .i64 i)]) (fun i => l.length - i) (fun i PS' => (i ≤ l.length ∧ ∀ j, j < i → (l.map Wn.t)[j]? ≠ some x) ∧ PS' = PS) 0 ⟨⟨Nat.zero_le _, fun j h => absurd h (Nat.not_lt_zero _)⟩, rfl⟩ ?_ ?_)
  ·simp only [go_sem, seval, Int.natCast_zero]
  ·intro i PS' hr
   obtain ⟨⟨hi, hu⟩, rfl⟩ := hr
   by_cases hlt : i < l.length
   ·have ha1 : l[i]? = some l[i] := by simp [hlt]
    have ha2 : (l.map Wn.t)[i]? = some l[i].t := by rw [List.getElem?_map, ha1]; rfl
    have hg : (l.map wnL)[i]? = some (wnL l[i]) := by rw [List.getElem?_map, ha1]; rfl
    simp only [go_sem, seval, hlt, hg, List.length_map]
    refine pend_intro ((waits_fn _ _ _ _ _ hm).mono ?_)
    rintro _ _ ⟨rfl, rfl⟩
    by_cases hx : l[i].t = x
    ·simp only [go_sem, seval, hx]
     rw [placeOf_some (hx ▸ ha2) hu]
     exact ⟨rfl, Ext.refl _⟩
    ·simp only [go_sem, seval, hx]
     refine ⟨by omega, i + 1, by omega, ⟨by omega, fun j hj hjx => ?_⟩, by simp⟩
     rw [← List.getElem?_map] at hjx
     by_cases hji : j < i
     ·exact hu j hji hjx
     ·have : j = i := by omega
      subst this; rw [ha2] at hjx; cases hjx; exact hx rfl
   ·simp only [go_sem, seval, hlt, List.length_map]
    rw [placeOf_none (fun j hj => hu j (by simp at hj; omega))]
    exact ⟨rfl, Ext.refl _⟩
 ·rw [List.length_map]; exact ixf_want PS l x q ver m v pre sp o cp hl h hm
end Go.Proofs.YtdjfdlpfchokcaaGreat
namespace Go.Mo
open Go Go.Eng
variable [Toks]
def LaP (PS : PL) (n : Nat) (own : List Nat) (l : Lt) : Prop :=
 ∃ xr xq o1 o2, getP PS n = .arr 0 4 [[.int .i64 0, xr, .int .i64 l.wr, xq]] false ∧ SlR PS 1 xr o1 (l.rd.map kidL) ∧ SlO PS 2 xq o2 (l.q.map wnL) ∧ own = n :: (o1 ++ o2) ∧ own.Nodup
theorem LaP.keep {PS PS' : PL} {n : Nat} {own : List Nat} {l : Lt} (h : LaP PS n own l) (hk : ∀ m ∈ own, getP PS' m = getP PS m) : LaP PS' n own l := by
 obtain ⟨xr, xq, o1, o2, h1, h2, h3, rfl, h5⟩ := h
 exact ⟨xr, xq, o1, o2, (hk n (by simp)).trans h1, h2.keep fun m hm => hk m (by simp [hm]), h3.keep fun m hm => hk m (by simp [hm]), rfl, h5⟩
theorem LaP.lt {PS : PL} {n : Nat} {own : List Nat} {l : Lt} (h : LaP PS n own l) : ∀ m ∈ own, m < PS.length := by
 obtain ⟨xr, xq, o1, o2, h1, h2, h3, rfl, h5⟩ := h
 intro m hm
 simp only [List.mem_cons, List.mem_append] at hm
 rcases hm with rfl | hm | hm
 ·exact getP_lt h1
 ·exact h2.slO.lt m hm
 ·exact h3.lt m hm
theorem eqb_comm (a b : Int) : decide (a = b) = (b == a) := by by_cases h : a = b <;> simp [h]; exact fun e => h e.symm
theorem waits_mem (l : Lt) (x : Int) : l.waits x = decide (0 ≤ placeOf (l.q.map Wn.t) x) := by
 rw [placeOf_mem]
 unfold Lt.waits
 induction l.q with
 | nil => rfl
 | cons a q ih => rw [List.any_cons, ih, List.map_cons, List.contains_cons]; congr 1; exact eqb_comm a.t x
theorem Ext.app_keep {PS : PL} (l : PL) (own : List Nat) (h : ∀ m ∈ own, m < PS.length) : ∀ m ∈ own, getP (PS ++ l) m = getP PS m := fun m hm => getP_app' l (h m hm)
end Go.Mo
namespace Go.Proofs.YtdjfdlpfchokcaaGreat
open Go Go.Eng Go.Mo
variable [Toks]
set_option maxRecDepth 20000
attribute [local irreducible] hvc hops hop hplan hdrawP hval1 hopD HLoop
theorem latch_waits (PS : PL) (n : Nat) (own : List Nat) (l : Lt) (x : Int) (h : LaP PS n own l) (ok : okL l) : HCall Tryz.prog 78 [.ptr n 0 0 0, .int .i64 x] PS fun r PS' => r = .int .i64 (placeOf (l.q.map Wn.t) x) ∧ PS' = PS := by
 refine HCall.data (.int _ _) ?_
 have hk := h.keep (Ext.app_keep [.arr 0 1 [[.int .i64 x]] false] own h.lt)
 obtain ⟨xr, xq, o1, o2, h1, h2, h3, rfl, h5⟩ := hk
 have hq := ok.q_len
 refine enter_78 (by unfold Tryz.f78; exact rfl) ?_
 simp only [go_sem, seval, h1]
 refine pend_intro ((ixf_want_sees _ l.q x xq PS.length 0 (by omega) h3.sees (getP_last _ _)).mono ?_)
 rintro _ _ ⟨rfl, rfl⟩
 simp only [go_sem, seval]
 exact Ext.app _ _
theorem latch_may (PS : PL) (n : Nat) (own : List Nat) (l : Lt) (x : Int) (h : LaP PS n own l) (ok : okL l) : HCall Tryz.prog 64 [.ptr n 0 0 0, .int .i64 x] PS fun r PS' => r = .bool (l.may x) ∧ PS' = PS := by
 obtain ⟨xr, xq, o1, o2, h1, h2, h3, _, h5⟩ := id h
 refine enter_64 (by unfold Tryz.f64; exact rfl) ?_
 have hm : l.may x = (decide (0 ≤ x) && !(decide (l.wr = x) || l.rd.contains x) && !l.waits x) := rfl
 rw [hm]
 by_cases hx : (0 : Int) ≤ x
 ·by_cases hw : l.wr = x
  ·simp only [go_sem, seval, h1, hx, hw, Bool.true_or, Bool.not_true, Bool.and_false, Bool.false_and]
  ·simp only [go_sem, seval, h1, hx, hw]
   refine pend_intro ((contains_sees PS l.rd x xr h2.slO.sees).mono ?_)
   rintro _ _ ⟨rfl, rfl⟩
   by_cases hc : l.rd.contains x = true
   ·simp only [go_sem, seval, hc, Bool.or_true, Bool.not_true, Bool.and_false, Bool.false_and]
   ·have hc' : l.rd.contains x = false := by simpa using hc
    simp only [go_sem, seval, hc']
    refine pend_intro ((latch_waits _ _ _ _ _ h ok).mono ?_)
    rintro _ _ ⟨rfl, rfl⟩
    simp only [go_sem, seval]
    have := waits_mem l x
    rw [this]
    by_cases hq : placeOf (l.q.map Wn.t) x < 0
    ·have hq' : ¬ 0 ≤ placeOf (l.q.map Wn.t) x := by omega
     have hc2 : ¬ x ∈ l.rd := by simpa using hc'
     simp [hq, hq', hx, hw, hc2]
    ·have hq' : 0 ≤ placeOf (l.q.map Wn.t) x := by omega
     simp [hq, hq']
 ·simp only [go_sem, seval, h1, hx, Bool.false_and]
theorem latch_open (PS : PL) (n : Nat) (own : List Nat) (l : Lt) (w : Bool) (h : LaP PS n own l) : HCall Tryz.prog 82 [.ptr n 0 0 0, .bool w] PS fun r PS' => r = .bool (l.opn w) ∧ PS' = PS := by
 obtain ⟨xr, xq, o1, o2, h1, h2, h3, _, h5⟩ := id h
 have hmx : maxLen = 9223372036854775807 := rfl
 refine enter_82 (by unfold Tryz.f82; exact rfl) ?_
 by_cases hx : l.wr = -1
 ·cases w with
  | true =>
   rcases h2 with ⟨rfl, h2, _⟩ | ⟨q, ver, sp, rfl, hq, hne, _⟩
   ·have hr : l.rd = [] := by simpa using h2
    simp only [go_sem, seval, h1, hx]
    simp [Lt.opn, hx, hr]
   ·simp only [go_sem, seval, h1, hx, hq, List.length_map]
    intro _
    cases hr : l.rd <;> simp [Lt.opn, hx, hr]
    omega
  | false =>
   simp only [go_sem, seval, h1, hx]
   simp [Lt.opn, hx]
 ·simp only [go_sem, seval, h1, hx]
  simp [Lt.opn, hx]
theorem latch_writer (PS : PL) (n : Nat) (own : List Nat) (l : Lt) (h : LaP PS n own l) : HCall Tryz.prog 29 [.ptr n 0 0 0] PS fun r PS' => r = .int .i64 l.wr ∧ PS' = PS := by
 obtain ⟨xr, xq, o1, o2, h1, h2, h3, _, h5⟩ := id h
 refine enter_29 (by unfold Tryz.f29; exact rfl) ?_
 simp only [go_sem, seval, h1]
theorem latch_idle (PS : PL) (n : Nat) (own : List Nat) (l : Lt) (h : LaP PS n own l) : HCall Tryz.prog 43 [.ptr n 0 0 0] PS fun r PS' => r = .bool (l.opn true && l.q.isEmpty) ∧ PS' = PS := by
 obtain ⟨xr, xq, o1, o2, h1, h2, h3, _, h5⟩ := id h
 refine enter_43 (by unfold Tryz.f43; exact rfl) ?_
 simp only [go_sem, seval, h1]
 refine pend_intro ((latch_open _ _ _ _ _ h).mono ?_)
 rintro _ _ ⟨rfl, rfl⟩
 by_cases ho : l.opn true = true
 ·rcases h3 with ⟨rfl, h3, _⟩ | ⟨q, ver, pre, sp, rfl, hq, _⟩
  ·have hr : l.q = [] := by simpa using h3
   simp only [go_sem, seval, h1, ho]
   simp [hr, ho]
  ·by_cases he : (l.q.length : Int) = 0
   ·have hr : l.q = [] := List.length_eq_zero_iff.1 (by omega)
    simp only [go_sem, seval, h1, ho, hq, List.length_map, he]
    simp [hr, ho]
   ·have hr : l.q.isEmpty = false := by cases hr : l.q with | nil => rw [hr] at he; simp at he | cons a q => rfl
    simp only [go_sem, seval, h1, ho, hq, List.length_map, he]
    simp [hr, ho]
 ·have ho' : l.opn true = false := by simpa using ho
  simp only [go_sem, seval, h1, ho', Bool.false_and]
end Go.Proofs.YtdjfdlpfchokcaaGreat
namespace Go.Mo
open Go Go.Eng
variable [Toks]
def Upd (own : List Nat) (PS PS' : PL) (own' : List Nat) : Prop := Ext own PS PS' ∧ ∀ m ∈ own', m ∈ own ∨ PS.length ≤ m
theorem Upd.refl (own : List Nat) (PS : PL) : Upd own PS PS own := ⟨(Ext.refl PS).mono (by simp), fun m hm => .inl hm⟩
theorem Upd.trans {own own' own'' : List Nat} {PS PS' PS'' : PL} (h : Upd own PS PS' own') (k : Upd own' PS' PS'' own'') : Upd own PS PS'' own'' :=
 ⟨h.1.since k.1 h.2, fun m hm => by
  rcases k.2 m hm with hm | hm
  ·exact h.2 m hm
  ·exact .inr (Nat.le_trans h.1.1 hm)⟩
theorem LaP.upd {PS PS' : PL} {n : Nat} {o1 o2 o1' o2' : List Nat} {xr xq : HV} {l' : Lt} (h1 : getP PS' n = .arr 0 4 [[.int .i64 0, xr, .int .i64 l'.wr, xq]] false) (h2 : SlR PS' 1 xr o1' (l'.rd.map kidL)) (h3 : SlO PS' 2 xq o2' (l'.q.map wnL))
  (hd : (n :: (o1' ++ o2')).Nodup) (hx : Ext (n :: (o1 ++ o2)) PS PS') (hnew : ∀ m ∈ o1' ++ o2', m ∈ o1 ++ o2 ∨ PS.length ≤ m) : ∃ own', LaP PS' n own' l' ∧ Upd (n :: (o1 ++ o2)) PS PS' own' :=
 ⟨n :: (o1' ++ o2'), ⟨xr, xq, o1', o2', h1, h2, h3, rfl, hd⟩, hx, fun m hm => by
  rcases List.mem_cons.1 hm with rfl | hm
  ·exact .inl (List.mem_cons_self ..)
  ·rcases hnew m hm with h | h
   ·exact .inl (List.mem_cons_of_mem _ h)
   ·exact .inr h⟩
theorem Upd.apart {own own' other : List Nat} {PS PS' : PL} (h : Upd own PS PS' own') (hl : ∀ m ∈ other, m < PS.length) (hd : ∀ m ∈ other, m ∉ own) : ∀ m ∈ other, m ∉ own' := fun m hm hm' => by
 rcases h.2 m hm' with h' | h'
 ·exact hd m hm h'
 ·exact absurd (hl m hm) (by omega)
end Go.Mo
namespace Go.Proofs.YtdjfdlpfchokcaaGreat
open Go Go.Eng Go.Mo
variable [Toks]
set_option maxRecDepth 20000
attribute [local irreducible] hvc hops hop hplan hdrawP hval1 hopD HLoop
theorem bs_nil (PS : PL) (x : Int) : HCall Tryz.prog 128 [.imm true [], .int .i64 x] PS fun r PS' => r = .tup [.int .i64 0, .bool false] ∧ PS' = PS := by
 refine HCall.data (tup2_scoped (.int _ _) (.bool _)) ?_
 have hmx : maxLen = 9223372036854775807 := rfl
 refine enter_128 (by unfold Tryz.f128; exact rfl) ?_
 simp only [go_sem, seval]
 intro _
 refine pend_intro (loop_rule (α := Nat) [false, false, false, false, false, false, false, false, false, true, false, false, false, true, true, true, true, true, true, true, true, true, true, true, true, true, true, true, true, true, true] (fun p => [(7, .int .i64 0), (8, .int .i64 0)]) (fun p => p) (fun p PS' => PS' = PS) 0 rfl ?_ ?_)
 ·simp only [go_sem, seval, Int.natCast_zero]
 ·rintro _ _ rfl
  simp only [go_sem, seval]
  exact Ext.refl _
theorem latch_give (PS : PL) (n : Nat) (own : List Nat) (l : Lt) (t : Int) (w : Bool) (h : LaP PS n own l) (ok : okL l) : HCall Tryz.prog 108 [.ptr n 0 0 0, .int .i64 t, .bool w] PS fun _ PS' => ∃ own', LaP PS' n own' (l.give t w) ∧ Upd own PS PS' own' := by
 obtain ⟨xr, xq, o1, o2, h1, h2, h3, rfl, h5⟩ := id h
 have hlt := h.lt
 have hnl := getP_lt h1
 have hrl := ok.rd_len
 rw [List.nodup_cons] at h5
 obtain ⟨hn, h5⟩ := h5
 simp only [List.mem_append, not_or] at hn
 refine enter_108 (by unfold Tryz.f108; exact rfl) ?_
 cases w with
 | true =>
  simp only [go_sem, seval, h1]
  have hx : ∀ Q, getP (PS.set n Q) n = Q := fun Q => getP_set_eq Q h1
  refine ⟨n :: (o1 ++ o2), ⟨xr, xq, o1, o2, hx _, h2.keep fun m hm => getP_set_ne _ (fun e => hn.1 (e ▸ hm)), h3.keep fun m hm => getP_set_ne _ (fun e => hn.2 (e ▸ hm)), rfl, List.nodup_cons.2 ⟨by simp only [List.mem_append, not_or]; exact hn, h5⟩⟩, (Ext.set PS n _).mono (by simp), fun m hm => .inl hm⟩
 | false =>
  simp only [go_sem, seval, h1]
  rcases h2 with ⟨rfl, h2, rfl⟩ | ⟨q, ver, sp, rfl, hq, hne, rfl⟩
  ·refine pend_intro ((bs_nil _ _).mono ?_)
   rintro _ PS ⟨rfl, rfl⟩
   simp only [go_sem, seval, h1]
   have hr : l.rd = [] := by simpa using h2
   refine pend_intro ((insert_nil _ t).mono ?_)
   rintro _ _ ⟨rfl, rfl⟩
   have h1' := (getP_app' [Piece.arr 0 1 [kidL t] true] hnl).trans h1
   simp only [go_sem, seval, h1, h1']
   have hno : ∀ m ∈ o2, m ≠ n ∧ m < PS.length := fun m hm => ⟨fun e => hn.2 (e ▸ hm), h3.lt m hm⟩
   have hlen : PS.length ∉ o2 := fun hm => absurd (hno _ hm).2 (Nat.lt_irrefl _)
   have hgr : (l.give t false).rd = [t] := by simp [Lt.give, ins, hr]
   refine LaP.upd (o1 := []) (o1' := [PS.length]) (o2' := o2) (getP_set_eq _ h1') (.inr ⟨PS.length, 0, [], by rw [hgr]; rfl, (getP_set_ne _ (by omega)).trans (by rw [hgr]; exact getP_last _ _), by rw [hgr]; simp, rfl⟩) (h3.keep fun m hm => (getP_set_ne _ (hno m hm).1.symm).trans (getP_app' _ (hno m hm).2)) ?_ ?_ ?_
   ·simp only [List.cons_append, List.nil_append, List.nodup_cons, List.mem_cons, not_or]
    exact ⟨⟨by omega, hn.2⟩, hlen, by simpa using h5⟩
   ·exact (((Ext.app PS _).mono (by simp)).since (Ext.set _ n _) (by simp))
   ·intro m hm
    simp only [List.cons_append, List.nil_append, List.mem_cons] at hm
    rcases hm with rfl | hm
    ·exact .inr (Nat.le_refl _)
    ·exact .inl (by simpa using hm)
  ·rw [List.length_map]
   refine pend_intro ((bs_int _ l.rd t q ver sp true none ok.up (by omega) hq).mono ?_)
   rintro _ PS ⟨rfl, rfl⟩
   simp only [go_sem, seval, h1]
   refine pend_intro ((insert_int _ q ver (below l.rd t) l.rd t sp hq hne (below_le _ _) (by omega)).mono ?_)
   rintro _ _ ⟨rfl, rfl⟩
   have hnq : q ≠ n := fun e => hn.1 (by simp [e])
   have h1' := fun Q => (getP_set_ne Q hnq).trans h1
   simp only [go_sem, seval, h1, h1']
   have hq2 : q ∉ o2 := fun hm => by simp at h5; exact h5.1 hm
   have hgr : (l.give t false).rd = ins l.rd t := rfl
   have hil : (ins l.rd t).length = l.rd.length + 1 := by have := below_le l.rd t; simp [ins]; omega
   refine LaP.upd (o1 := [q]) (o1' := [q]) (o2' := o2) (getP_set_eq _ (h1' _)) (.inr ⟨q, ver + 1, [], by rw [hgr, List.length_map, hil], (getP_set_ne _ (fun e => hnq e.symm)).trans ((getP_set_eq _ hq).trans (by rw [hgr, List.append_nil]; rfl)), by rw [hgr]; simp [ins], rfl⟩) (h3.keep fun m hm => (getP_set_ne _ (fun e => hn.2 (by rw [e]; exact hm))).trans (getP_set_ne _ (fun e => hq2 (by rw [e]; exact hm)))) ?_ ?_ ?_
   ·simp only [List.cons_append, List.nil_append, List.nodup_cons, List.mem_cons, not_or]
    exact ⟨⟨hnq.symm, hn.2⟩, hq2, by simp at h5; exact h5.2⟩
   ·exact (((Ext.set PS q _).mono (by simp)).since (Ext.set _ n _) (by simp))
   ·exact fun m hm => .inl hm
end Go.Proofs.YtdjfdlpfchokcaaGreat
namespace Go.Mo
open Go Go.Eng
variable [Toks]
theorem LAt.done {P : Program} {f : FuncId} {args : List HV} {PS : PL} {sz : Nat} {R : List (List HV)} {K : PL → Prop}
  (h : HCall P f args PS fun r PS' => LAt PS sz PS' r R ∧ (∀ p ver, r = .sl p ver 0 R.length none → K (PS'.set p .dead)) ∧ (r = .imm true [] → K PS')) : HCall P f args PS fun r PS' => r = .imm (decide (R = [])) R ∧ K PS' := by
 by_cases hR : R = []
 ·refine h.mono ?_
  rintro r PS' ⟨h1, h2, h3⟩
  rcases h1 with ⟨_, rfl⟩ | ⟨hn, _⟩
  ·exact ⟨by simp [hR], h3 rfl⟩
  ·exact absurd hR hn
 ·refine HCall.frz (h.mono ?_)
  rintro r PS' ⟨h1, h2, h3⟩
  rcases h1 with ⟨hn, _⟩ | ⟨_, p, ver, rfl, hp, hg⟩
  ·exact absurd hn hR
  ·refine ⟨_, _, _, _, _, _, PS'.set p .dead, hg, .sl 0 _ none (by omega), FrzPS.only (getP_lt hg), ?_, h2 p ver rfl⟩
   simp [hR]
def LNo (x : HV) (own : List Nat) : Prop := ∀ p ver i len c, x = .sl p ver i len c → p ∉ own
theorem LAt.keep {B PS PS' : PL} {sz : Nat} {x : HV} {R : List (List HV)} {own own' : List Nat} (h : LAt B sz PS x R) (hu : Upd own PS PS' own') (hn : LNo x own) : LAt B sz PS' x R ∧ LNo x own' := by
 rcases h with ⟨rfl, rfl⟩ | ⟨hR, p, ver, rfl, hp, hg⟩
 ·exact ⟨.inl ⟨rfl, rfl⟩, fun p ver i len c e => by cases e⟩
 ·have hpn := hn p ver 0 R.length none rfl
  have hpl := getP_lt hg
  refine ⟨.inr ⟨hR, p, ver, rfl, hp, (hu.1.2 p hpl hpn).trans hg⟩, fun p' ver' i len c e => ?_⟩
  cases e
  intro hm
  rcases hu.2 p hm with h | h
  ·exact hpn h
  ·omega
end Go.Mo
namespace Go.Proofs.YtdjfdlpfchokcaaGreat
open Go Go.Eng Go.Mo
variable [Toks]
set_option maxRecDepth 20000
attribute [local irreducible] hvc hops hop hplan hdrawP hval1 hopD HLoop
theorem latch_let (PS : PL) (n : Nat) (own : List Nat) (l : Lt) (h : LaP PS n own l) (ok : okL l) : HCall Tryz.prog 80 [.ptr n 0 0 0] PS fun r PS' => r = .imm (decide ((lets l.rd l.wr l.q).2.map kidL = [])) ((lets l.rd l.wr l.q).2.map kidL) ∧ ∃ own', LaP PS' n own' (lets l.rd l.wr l.q).1 ∧ Upd own PS PS' own' := by
 have hmx : maxLen = 9223372036854775807 := rfl
 refine LAt.done (sz := 1) ?_
 refine enter_80 (by unfold Tryz.f80; exact rfl) ?_
 simp only [go_sem, seval]
 refine pend_intro (loop_rule (α := Lt × List Int × HV) [false, false, false, false, true, true, true, true, true, true, true, true, true, true, true, true, true, true, true, true, true, true, true, true, true, true, true, true, true, true, true, true, true, true, true, true, true, true, true, true, true, true, true, true, true, true, true] (fun b => [(3, b.2.2)]) (fun b => b.1.q.length) (fun b PS' => (okL b.1 ∧ (lets b.1.rd b.1.wr b.1.q).1 = (lets l.rd l.wr l.q).1 ∧ b.2.1 ++ (lets b.1.rd b.1.wr b.1.q).2 = (lets l.rd l.wr l.q).2 ∧ b.2.1.length + b.1.q.length ≤ 8) ∧ LAt PS 1 PS' b.2.2 (b.2.1.map kidL) ∧ ∃ own', LaP PS' n own' b.1 ∧ Upd own PS PS' own' ∧ LNo b.2.2 own') (l, [], .imm true []) ⟨⟨ok, rfl, rfl, by have := ok.q_len; simpa using this⟩, .inl ⟨rfl, rfl⟩, own, h, .refl _ _, fun p ver i len c e => by cases e⟩ ?_ ?_)
 ·simp only [go_sem, seval]
 rintro ⟨m, done, x⟩ PS1 ⟨⟨okm, e1, e2, e3⟩, hx, own1, hm, hu, hno⟩
 simp only at okm e1 e2 e3 hx hm hno
 have hm' := hm
 obtain ⟨xr, xq, o1, o2, h1, h2, h3, ho1, h5⟩ := hm'
 have fin : lets m.rd m.wr m.q = (m, []) → LAt PS 1 PS1 x (List.map kidL (lets l.rd l.wr l.q).snd) ∧ (∀ p ver, x = .sl p ver 0 (lets l.rd l.wr l.q).snd.length none → ∃ own', LaP (PS1.set p .dead) n own' (lets l.rd l.wr l.q).fst ∧ Upd own PS (PS1.set p .dead) own') ∧ (x = .imm true [] → ∃ own', LaP PS1 n own' (lets l.rd l.wr l.q).fst ∧ Upd own PS PS1 own') := by
  intro hf
  rw [hf] at e1 e2
  simp only [List.append_nil] at e1 e2
  rw [← e1, ← e2]
  refine ⟨hx, fun p ver hxp => ?_, fun _ => ⟨own1, hm, hu⟩⟩
  subst hxp
  rcases hx with ⟨_, hx⟩ | ⟨_, p', ver', hx, hp, hg⟩
  ·cases hx
  ·injection hx with i1 i2 i3 i4 i5
   subst i1
   have hpo := hno p ver 0 _ none rfl
   exact ⟨own1, hm.keep fun k hk => getP_set_ne _ (fun e => hpo (e ▸ hk)), hu.1.since (Ext.set _ p _) (by intro k hk; simp at hk; subst hk; exact .inr hp), hu.2⟩
 cases hq : m.q with
 | nil =>
  have hf : lets m.rd m.wr m.q = (m, []) := by rw [hq]; unfold lets; cases m; simp at hq; subst hq; rfl
  rw [hq] at h3
  rcases h3 with ⟨rfl, _, _⟩ | ⟨q, ver, pre, sp, rfl, hg, _⟩
  ·simp only [go_sem, seval, h1]
   exact fun _ => fin hf
  ·simp only [go_sem, seval, h1, hg, List.map_nil, List.length_nil]
   exact fun _ => fin hf
 | cons a rest =>
  rw [hq] at h3 e3
  rcases h3 with ⟨_, hz, _⟩ | ⟨q, ver, pre, sp, rfl, hg, rfl⟩
  ·cases hz
  have hpos : (0 : Int) < ((rest.length + 1 : Nat) : Int) := by omega
  have hg0 : (pre ++ (wnL a :: (rest.map wnL ++ sp)))[pre.length]? = some (wnL a) := by simp
  have hne : ¬ (pre ++ (wnL a :: (rest.map wnL ++ sp)) = []) := by simp
  simp only [go_sem, seval, h1, hg, List.map_cons, List.length_cons, hpos, hg0, List.length_map, List.cons_append, hne]
  intro _
  refine pend_intro ((latch_open PS1 n own1 m a.w hm).mono ?_)
  rintro _ PS1 ⟨rfl, rfl⟩
  by_cases ho : m.opn a.w = true
  rotate_left
  ·have ho' : m.opn a.w = false := by simpa using ho
   have hf : lets m.rd m.wr m.q = (m, []) := by
    rw [hq]; unfold lets
    have : Lt.opn ⟨m.rd, m.wr, []⟩ a.w = m.opn a.w := rfl
    rw [this, ho', if_neg (by simp)]
    cases m; simp at hq; subst hq; rfl
   simp only [go_sem, seval, ho']
   exact fin hf
  simp only [go_sem, seval, ho, h1, hg, hg0, List.map_cons, List.length_cons, hpos, List.length_map, List.cons_append, hne]
  have hnl := getP_lt h1
  have hql := getP_lt hg
  have hn1 := fun L => (getP_app' L hnl).trans h1
  have hq1 := fun L => (getP_app' L hql).trans hg
  have hw1 : ∀ Q W, getP ((PS1 ++ [W]).set n Q) PS1.length = W := fun Q W => (getP_set_ne Q (by omega)).trans (getP_last _ _)
  simp only [go_sem, Int.reduceToNat, Int.reduceLE, Int.reduceLT, Int.reduceAdd, Int.reduceSub, Int.reduceMul, Int.reduceNeg, Int.reduceEq, Nat.reduceAdd, Nat.reduceSub, Nat.reduceMul, Nat.reduceLeDiff, Nat.reduceLT, Nat.reduceEqDiff, reduceCtorEq, ↓reduceIte, hn1, hq1, hw1, hne]
  have okp := okm.pop hq
  have okf := okm.front hq
  have hsub : rest.length + 1 - 1 = rest.length := by omega
  rw [hsub]
  have hqn : q ≠ n := fun e => by rw [ho1] at h5; simp at h5; exact h5.1.2 e.symm
  have hm2 : LaP ((PS1 ++ [Piece.arr 0 2 [wnL a] false]).set n (Piece.arr 0 4 [[HV.int IntKind.i64 0, xr, HV.int IntKind.i64 m.wr, HV.sl q ver (pre.length + 1) rest.length none]] false)) n own1 { m with q := rest } := by
   have hko : ∀ k ∈ own1, k ≠ n → getP ((PS1 ++ [Piece.arr 0 2 [wnL a] false]).set n (Piece.arr 0 4 [[HV.int IntKind.i64 0, xr, HV.int IntKind.i64 m.wr, HV.sl q ver (pre.length + 1) rest.length none]] false)) k = getP PS1 k := fun k hk hne => (getP_set_ne _ (fun e => hne e.symm)).trans (getP_app' _ (hm.lt k hk))
   have hnd := h5
   rw [ho1, List.nodup_cons] at hnd
   refine ⟨xr, _, o1, [q], getP_set_eq _ (hn1 _), h2.keep fun k hk => hko k (by rw [ho1]; simp [hk]) (fun e => hnd.1 (by rw [← e]; simp [hk])), .inr ⟨q, ver, pre ++ [wnL a], sp, ?_, (hko q (by rw [ho1]; simp) hqn).trans (hg.trans ?_), rfl⟩, ho1, h5⟩
   ·simp
   ·simp
  have hx2 : LAt PS 1 ((PS1 ++ [Piece.arr 0 2 [wnL a] false]).set n (Piece.arr 0 4 [[HV.int IntKind.i64 0, xr, HV.int IntKind.i64 m.wr, HV.sl q ver (pre.length + 1) rest.length none]] false)) x (done.map kidL) := by
   rcases hx with h | ⟨hR, p, v, rfl, hp, hgp⟩
   ·exact .inl h
   ·have hpo := hno p v 0 _ none rfl
    exact .inr ⟨hR, p, v, rfl, hp, (getP_set_ne _ (fun e => hpo (by rw [ho1, ← e]; simp))).trans ((getP_app' _ (getP_lt hgp)).trans hgp)⟩
  have hu2 : Upd own PS ((PS1 ++ [Piece.arr 0 2 [wnL a] false]).set n (Piece.arr 0 4 [[HV.int IntKind.i64 0, xr, HV.int IntKind.i64 m.wr, HV.sl q ver (pre.length + 1) rest.length none]] false)) own1 :=
   hu.trans ⟨((Ext.app PS1 _).mono (by simp)).since (Ext.set _ n _) (by intro k hk; simp at hk; subst hk; rw [ho1]; simp), fun k hk => .inl hk⟩
  have hW2 := hw1 (Piece.arr 0 4 [[HV.int IntKind.i64 0, xr, HV.int IntKind.i64 m.wr, HV.sl q ver (pre.length + 1) rest.length none]] false) (Piece.arr 0 2 [wnL a] false)
  have hWo : PS1.length ∉ own1 := fun hk => absurd (hm.lt _ hk) (Nat.lt_irrefl _)
  refine ⟨by omega, pend_intro ?_⟩
  generalize (PS1 ++ [Piece.arr 0 2 [wnL a] false]).set n (Piece.arr 0 4 [[HV.int IntKind.i64 0, xr, HV.int IntKind.i64 m.wr, HV.sl q ver (pre.length + 1) rest.length none]] false) = PS2 at hm2 hx2 hu2 hW2 ⊢
  refine (latch_give PS2 n own1 _ a.t a.w hm2 okp).mono ?_
  rintro _ PS3 ⟨own3, hm3, hu3⟩
  have hW3 := (hu3.1.2 _ (getP_lt hW2) hWo).trans hW2
  obtain ⟨hx3, hno3⟩ := hx2.keep hu3 hno
  have hu4 := hu2.trans hu3
  have hl3 := hm3.lt
  simp only [go_sem, seval, hW3]
  have hb : PS.length ≤ PS3.length := hu4.1.1
  have e1' : (lets (Lt.give { m with q := rest } a.t a.w).rd (Lt.give { m with q := rest } a.t a.w).wr rest).1 = (lets l.rd l.wr l.q).1 ∧ done ++ a.t :: (lets (Lt.give { m with q := rest } a.t a.w).rd (Lt.give { m with q := rest } a.t a.w).wr rest).2 = (lets l.rd l.wr l.q).2 := by
   rw [hq, lets] at e1 e2
   have h1 : Lt.opn ⟨m.rd, m.wr, []⟩ a.w = true := ho
   have hg1 : (Lt.give ⟨m.rd, m.wr, []⟩ a.t a.w).rd = (Lt.give { m with q := rest } a.t a.w).rd := by unfold Lt.give; cases a.w <;> rfl
   have hg2 : (Lt.give ⟨m.rd, m.wr, []⟩ a.t a.w).wr = (Lt.give { m with q := rest } a.t a.w).wr := by unfold Lt.give; cases a.w <;> rfl
   rw [if_pos h1] at e1 e2
   simp only [hg1, hg2] at e1 e2
   exact ⟨e1, e2⟩
  have hgq : (Lt.give { m with q := rest } a.t a.w).q = rest := Lt.give_q _ _ _
  have hlen3 : (done ++ [a.t]).length + (Lt.give { m with q := rest } a.t a.w).q.length ≤ 8 := by rw [hgq, List.length_append]; simp only [List.length_cons, List.length_nil] at e3 ⊢; omega
  rw [hgq] at hlen3
  rcases hx3 with ⟨hR, rfl⟩ | ⟨hR, p, v, rfl, hp, hgp⟩
  ·simp only [go_sem, seval]
   have hd : done = [] := by simpa using hR
   subst hd
   refine ⟨by simp, by simp, (Lt.give { m with q := rest } a.t a.w, [] ++ [a.t], .sl PS3.length 0 0 1 none), by simp only [hgq]; omega, ⟨⟨okf, by rw [hgq]; exact e1'.1, by rw [hgq]; simpa using e1'.2, by simp only [hgq]; exact hlen3⟩, .inr ⟨by simp, PS3.length, 0, rfl, hb, getP_last _ _⟩, own3, hm3.keep (Ext.app_keep _ _ hl3), hu4.trans ⟨(Ext.app PS3 _).mono (by simp), fun k hk => .inl hk⟩, fun p ver i len c e => by cases e; exact fun hk => absurd (hl3 _ hk) (Nat.lt_irrefl _)⟩, .inl rfl⟩
  ·simp only [go_sem, seval, hgp, List.length_map]
   have hpo := hno3 p v 0 _ none rfl
   refine ⟨by simp, .inl ⟨⟨by simp at hlen3; omega, by simp at hlen3; omega⟩, (Lt.give { m with q := rest } a.t a.w, done ++ [a.t], .sl p (v + 1) 0 (done.length + 1) none), by simp only [hgq]; omega, ⟨⟨okf, by rw [hgq]; exact e1'.1, by rw [hgq]; simpa using e1'.2, by simp only [hgq]; exact hlen3⟩, .inr ⟨by simp, p, v + 1, by simp, hp, (getP_set_eq _ hgp).trans (by simp [kidL])⟩, own3, hm3.keep fun k hk => getP_set_ne _ (fun e => hpo (e ▸ hk)), ⟨hu4.1.since (Ext.set _ p _) (by intro k hk; simp at hk; subst hk; exact .inr hp), hu4.2⟩, fun p' ver i len c e => by cases e; exact hpo⟩, .inl rfl⟩⟩
theorem latch_try (PS : PL) (n : Nat) (own : List Nat) (l : Lt) (t : Int) (w : Bool) (h : LaP PS n own l) (ok : okL l) : HCall Tryz.prog 65 [.ptr n 0 0 0, .int .i64 t, .bool w] PS fun r PS' => r = .bool (l.can t w) ∧ ∃ own', LaP PS' n own' (if l.can t w then l.give t w else l) ∧ Upd own PS PS' own' := by
 have hmx : maxLen = 9223372036854775807 := rfl
 have hc : l.can t w = (l.may t && l.q.isEmpty && l.opn w) := rfl
 obtain ⟨xr, xq, o1, o2, h1, h2, h3, _, h5⟩ := id h
 have same : ∃ own', LaP PS n own' l ∧ Upd own PS PS own' := ⟨own, h, .refl _ _⟩
 refine enter_65 (by unfold Tryz.f65; exact rfl) ?_
 simp only [go_sem, seval]
 refine pend_intro ((latch_may PS n own l t h ok).mono ?_)
 rintro _ PS ⟨rfl, rfl⟩
 by_cases hm : l.may t = true
 rotate_left
 ·have hm' : l.may t = false := by simpa using hm
  rw [hc, hm']
  simp only [go_sem, seval, hm', Bool.false_and]
  exact same
 rw [hc, hm]
 have fin : HCall Tryz.prog 82 [.ptr n 0 0 0, .bool w] PS fun r PS' => r = .bool (l.opn w) ∧ PS' = PS := latch_open PS n own l w h
 by_cases hq : l.q = []
 ·have hqe : l.q.isEmpty = true := by simp [hq]
  rw [hqe]
  have hl0 : ¬ (0 : Int) < (l.q.length : Int) := by rw [hq]; simp
  rcases h3 with ⟨rfl, _, _⟩ | ⟨q, ver, pre, sp, rfl, hg, _⟩
  ·simp only [go_sem, seval, hm, h1]
   intro _
   refine pend_intro (fin.mono ?_)
   rintro _ PS ⟨rfl, rfl⟩
   cases ho : l.opn w with
   | false =>
    simp only [go_sem, seval, Bool.and_false]
    exact same
   | true =>
    simp only [go_sem, seval, Bool.and_true]
    refine pend_intro ((latch_give PS n own l t w h ok).mono ?_)
    rintro _ PS2 ⟨own', h6, h7⟩
    simp only [go_sem, seval]
    exact ⟨own', h6, h7⟩
  ·simp only [go_sem, seval, hm, h1, hg, List.length_map, hl0]
   intro _
   refine pend_intro (fin.mono ?_)
   rintro _ PS ⟨rfl, rfl⟩
   cases ho : l.opn w with
   | false =>
    simp only [go_sem, seval, Bool.and_false]
    exact same
   | true =>
    simp only [go_sem, seval, Bool.and_true]
    refine pend_intro ((latch_give PS n own l t w h ok).mono ?_)
    rintro _ PS2 ⟨own', h6, h7⟩
    simp only [go_sem, seval]
    exact ⟨own', h6, h7⟩
 ·have hqe : l.q.isEmpty = false := by cases hq' : l.q with | nil => exact absurd hq' hq | cons a q => rfl
  rw [hqe]
  have hl0 : (0 : Int) < (l.q.length : Int) := by have := List.length_pos_iff.2 hq; omega
  rcases h3 with ⟨_, hz, _⟩ | ⟨q, ver, pre, sp, rfl, hg, _⟩
  ·exact absurd (by simpa using hz) hq
  ·simp only [go_sem, seval, hm, h1, hg, List.length_map, hl0, Bool.and_false, Bool.false_and]
   exact fun _ => same
theorem latch_take (PS : PL) (n : Nat) (own : List Nat) (l : Lt) (t : Int) (w : Bool) (h : LaP PS n own l) (ok : okL l) : HCall Tryz.prog 27 [.ptr n 0 0 0, .int .i64 t, .bool w] PS fun r PS' => r = .bool (l.take t w).2 ∧ ∃ own', LaP PS' n own' (l.take t w).1 ∧ Upd own PS PS' own' := by
 have hmx : maxLen = 9223372036854775807 := rfl
 have hc : l.can t w = (l.may t && l.q.isEmpty && l.opn w) := rfl
 have same : ∃ own', LaP PS n own' l ∧ Upd own PS PS own' := ⟨own, h, .refl _ _⟩
 refine enter_27 (by unfold Tryz.f27; exact rfl) ?_
 simp only [go_sem, seval]
 refine pend_intro ((latch_may PS n own l t h ok).mono ?_)
 rintro _ PS ⟨rfl, rfl⟩
 by_cases hm : l.may t = true
 rotate_left
 ·have hm' : l.may t = false := by simpa using hm
  have ht : l.take t w = (l, false) := by unfold Lt.take; rw [hc, hm']; rfl
  rw [ht]
  simp only [go_sem, seval, hm']
  exact same
 simp only [go_sem, seval, hm]
 refine pend_intro ((latch_try PS n own l t w h ok).mono ?_)
 rintro _ PS1 ⟨rfl, own1, h6, h7⟩
 by_cases hcan : l.can t w = true
 ·have ht : l.take t w = (l.give t w, true) := by unfold Lt.take; rw [hcan]; rfl
  rw [hcan, if_pos rfl] at h6
  rw [ht]
  simp only [go_sem, seval, hcan]
  exact ⟨own1, h6, h7⟩
 ·have hcan' : l.can t w = false := by simpa using hcan
  have ht : l.take t w = ({ l with q := l.q ++ [⟨t, w⟩] }, false) := by unfold Lt.take; rw [hcan', hm]; rfl
  rw [hcan', if_neg (by simp)] at h6
  rw [ht]
  obtain ⟨xr, xq, o1, o2, h1, h2, h3, ho, h5⟩ := id h6
  have hlt := h6.lt
  have hql := ok.q_len
  have hnl := getP_lt h1
  rcases h3 with ⟨rfl, hq0, rfl⟩ | ⟨q, ver, pre, sp, rfl, hg, rfl⟩
  ·have hq : l.q = [] := by simpa using hq0
   have h1' := fun L => (getP_app' L hnl).trans h1
   simp only [go_sem, seval, hcan', h1, h1']
   refine ⟨by simp, by simp, ?_⟩
   have hno : ∀ m ∈ o1, m ≠ n ∧ m < PS1.length := fun m hm => ⟨fun e => by rw [ho, List.nodup_cons] at h5; exact h5.1 (by rw [← e]; simp [hm]), h2.slO.lt m hm⟩
   rw [ho] at h7 hlt
   obtain ⟨own2, h8, h9⟩ := LaP.upd (PS := PS1) (o1 := o1) (o2 := []) (o1' := o1) (o2' := [PS1.length]) (l' := { l with q := l.q ++ [⟨t, w⟩] }) (getP_set_eq (.arr 0 4 [[.int .i64 0, xr, .int .i64 l.wr, .sl PS1.length 0 0 1 none]] false) (h1' [.arr 0 2 [[.int .i64 t, .bool w]] true])) (h2.keep fun m hm => (getP_set_ne _ (hno m hm).1.symm).trans (getP_app' _ (hno m hm).2)) (.inr ⟨PS1.length, 0, [], [], by rw [hq]; rfl, (getP_set_ne _ (by omega)).trans ((getP_last _ _).trans (by rw [hq]; rfl)), rfl⟩)
    (by
     rw [ho] at h5
     simp only [List.append_nil, List.nodup_cons] at h5
     simp only [List.nodup_cons, List.mem_append, List.mem_singleton, not_or, List.nodup_append, List.nodup_nil, List.not_mem_nil]
     refine ⟨⟨h5.1, by omega⟩, h5.2, by simp, fun a ha b hb => ?_⟩
     subst hb
     have := (hno a ha).2
     omega)
    (((Ext.app PS1 _).mono (by simp)).since (Ext.set _ n _) (by simp)) (fun m hm => by
     rcases List.mem_append.1 hm with hm | hm
     ·exact .inl (by simpa using hm)
     ·simp at hm; exact .inr (by omega))
   exact ⟨own2, h8, h7.trans h9⟩
  ·have hqn : q ≠ n := fun e => by rw [ho, List.nodup_cons] at h5; exact h5.1 (by simp [e])
   have hq1 : q ∉ o1 := fun hm => by rw [ho, List.nodup_cons, List.nodup_append] at h5; exact h5.2.2.2 q hm q (by simp) rfl
   have h1' := fun Q => (getP_set_ne Q hqn).trans h1
   have hno : ∀ m ∈ o1, m ≠ n := fun m hm e => by rw [ho, List.nodup_cons] at h5; exact h5.1 (by rw [← e]; simp [hm])
   rw [ho] at h7 hlt
   have fin : ∀ ver' pre' sp', ∃ own', LaP ((PS1.set q (.arr ver' 2 (pre' ++ ((l.q ++ [(⟨t, w⟩ : Wn)]).map wnL ++ sp')) true)).set n (.arr 0 4 [[.int .i64 0, xr, .int .i64 l.wr, .sl q ver' pre'.length (l.q.length + 1) none]] false)) n own' { l with q := l.q ++ [⟨t, w⟩] } ∧ Upd own PS ((PS1.set q (.arr ver' 2 (pre' ++ ((l.q ++ [(⟨t, w⟩ : Wn)]).map wnL ++ sp')) true)).set n (.arr 0 4 [[.int .i64 0, xr, .int .i64 l.wr, .sl q ver' pre'.length (l.q.length + 1) none]] false)) own' := fun ver' pre' sp' => by
    obtain ⟨own2, h8, h9⟩ := LaP.upd (PS := PS1) (o1 := o1) (o2 := [q]) (o1' := o1) (o2' := [q]) (l' := { l with q := l.q ++ [⟨t, w⟩] }) (getP_set_eq (.arr 0 4 [[.int .i64 0, xr, .int .i64 l.wr, .sl q ver' pre'.length (l.q.length + 1) none]] false) (h1' (.arr ver' 2 (pre' ++ ((l.q ++ [(⟨t, w⟩ : Wn)]).map wnL ++ sp')) true))) (h2.keep fun m hm => (getP_set_ne _ (hno m hm).symm).trans (getP_set_ne _ (fun e => hq1 (e ▸ hm)))) (.inr ⟨q, ver', pre', sp', by simp, (getP_set_ne _ hqn.symm).trans (getP_set_eq _ hg), rfl⟩) (ho ▸ h5)
     (((Ext.set PS1 q _).mono (by simp)).since (Ext.set _ n _) (by simp)) (fun m hm => .inl hm)
    exact ⟨own2, h8, h7.trans h9⟩
   have hdr : List.drop pre.length (pre ++ (l.q.map wnL ++ sp)) = l.q.map wnL ++ sp := List.drop_left' rfl
   have hwl : [HV.int .i64 t, HV.bool w] = wnL ⟨t, w⟩ := rfl
   simp only [go_sem, seval, hcan', h1, hg, List.length_map]
   refine ⟨by simp, ?_⟩
   cases sp with
   | nil =>
    refine .inl ⟨by simp, ⟨by omega, by omega⟩, ?_⟩
    rw [hdr]
    simp only [go_sem, seval, h1']
    have := fin (ver + 1) [] []
    simpa [hwl] using this
   | cons z sp =>
    refine .inr ⟨by simp, by simp; omega, ?_⟩
    have e1 : pre ++ (l.q.map wnL ++ z :: sp) = (pre ++ l.q.map wnL) ++ z :: sp := by simp
    have e2 : pre.length + l.q.length = (pre ++ l.q.map wnL).length := by simp
    rw [e1, e2, splice_app']
    simp only [go_sem, seval, h1']
    have := fin ver pre sp
    simpa [hwl] using this
theorem latch_readers (PS : PL) (n : Nat) (own : List Nat) (l : Lt) (h : LaP PS n own l) (ok : okL l) : HCall Tryz.prog 75 [.ptr n 0 0 0] PS fun r PS' => r = .imm false (l.rd.map kidL) ∧ PS' = PS := by
 refine HCall.data ?_ ?_
 ·rw [scoped_imm]; intro r hr x hx; simp at hr; obtain ⟨a, _, rfl⟩ := hr; simp [kidL] at hx; subst hx; exact .int _ _
 obtain ⟨xr, xq, o1, o2, h1, h2, h3, ho, h5⟩ := id h
 refine HCall.frz ?_
 refine enter_75 (by unfold Tryz.f75; exact rfl) ?_
 simp only [go_sem, seval, h1]
 have hrl := ok.rd_len
 have fin : ∀ PS' : PL, Ext [] PS PS' → ∃ n ver sz E opn r' PS2, getP (PS' ++ [Piece.arr 0 1 (l.rd.map kidL) true]) n = .arr ver sz E opn ∧ FrzV n ver E (HV.sl PS'.length 0 0 l.rd.length none) r' ∧ FrzPS n ver E (PS' ++ [Piece.arr 0 1 (l.rd.map kidL) true]) PS2 ∧ r' = .imm false (l.rd.map kidL) ∧ Ext [] PS PS2 := fun PS' hx =>
  ⟨PS'.length, 0, 1, _, true, _, _, getP_last _ _, .sl 0 _ none (by simp), FrzPS.last0, by rw [List.drop_zero, List.take_of_length_le (by simp)], hx.trans (Ext.app _ _)⟩
 rcases h2 with ⟨rfl, h2, _⟩ | ⟨q, ver, sp, rfl, hg, hne, _⟩
 ·have hr : l.rd = [] := by simpa using h2
  refine pend_intro ((cl_int_imm PS true [] (by simp) (by simp [hroom])).mono ?_)
  rintro _ _ ⟨rfl, rfl⟩
  simp only [go_sem, seval]
  have := fin PS (Ext.refl PS)
  rw [hr] at this
  simpa [hr] using this
 ·refine pend_intro ((cl_int_sl PS q ver 0 (l.rd.map kidL).length none 1 _ true hg (.inr rfl) (by simp) (by simp [hroom]; omega)).mono ?_)
  rintro _ _ ⟨rfl, rfl⟩
  simp only [go_sem, seval, List.length_map]
  have := fin PS (Ext.refl PS)
  have e1 : List.take l.rd.length (List.drop 0 (l.rd.map kidL ++ sp)) = l.rd.map kidL := by rw [List.drop_zero, List.take_left' (by simp)]
  rw [List.drop_zero] at e1
  simpa [e1] using this
end Go.Proofs.YtdjfdlpfchokcaaGreat
namespace Go.Mo
open Go Go.Eng
variable [Toks]
theorem placeOf_cases (l : List Int) (t : Int) : (placeOf l t < 0 ∧ t ∉ l) ∨ ∃ i : Nat, placeOf l t = i ∧ l[i]? = some t ∧ i < l.length := by
 unfold placeOf
 split
 ·rename_i i h
  rw [List.findIdx?_eq_some_iff_getElem] at h
  obtain ⟨h1, h2, _⟩ := h
  exact .inr ⟨i, rfl, by simp [h1]; simpa using h2, h1⟩
 ·rename_i h
  rw [List.findIdx?_eq_none_iff] at h
  exact .inl ⟨by omega, fun hm => by have := h t hm; simp at this⟩
end Go.Mo
namespace Go.Proofs.YtdjfdlpfchokcaaGreat
open Go Go.Eng Go.Mo
variable [Toks]
set_option maxRecDepth 20000
attribute [local irreducible] hvc hops hop hplan hdrawP hval1 hopD HLoop
theorem latch_queue (PS : PL) (n : Nat) (own : List Nat) (l : Lt) (h : LaP PS n own l) (ok : okL l) : HCall Tryz.prog 84 [.ptr n 0 0 0] PS fun r PS' => r = .imm false (l.q.map wnL) ∧ PS' = PS := by
 refine HCall.data ?_ ?_
 ·rw [scoped_imm]; intro r hr x hx; simp at hr; obtain ⟨a, _, rfl⟩ := hr; simp [wnL] at hx; rcases hx with rfl | rfl; exact .int _ _; exact .bool _
 obtain ⟨xr, xq, o1, o2, h1, h2, h3, ho, h5⟩ := id h
 refine HCall.frz ?_
 refine enter_84 (by unfold Tryz.f84; exact rfl) ?_
 simp only [go_sem, seval, h1]
 have hrl := ok.q_len
 have fin : ∀ PS' : PL, Ext [] PS PS' → ∃ n ver sz E opn r' PS2, getP (PS' ++ [Piece.arr 0 2 (l.q.map wnL) true]) n = .arr ver sz E opn ∧ FrzV n ver E (HV.sl PS'.length 0 0 l.q.length none) r' ∧ FrzPS n ver E (PS' ++ [Piece.arr 0 2 (l.q.map wnL) true]) PS2 ∧ r' = .imm false (l.q.map wnL) ∧ Ext [] PS PS2 := fun PS' hx =>
  ⟨PS'.length, 0, 2, _, true, _, _, getP_last _ _, .sl 0 _ none (by simp), FrzPS.last0, by rw [List.drop_zero, List.take_of_length_le (by simp)], hx.trans (Ext.app _ _)⟩
 rcases h3 with ⟨rfl, h3, _⟩ | ⟨q, ver, pre, sp, rfl, hg, _⟩
 ·have hr : l.q = [] := by simpa using h3
  refine pend_intro ((cl_want_imm PS true [] (by simp) (by simp [hroom])).mono ?_)
  rintro _ _ ⟨rfl, rfl⟩
  simp only [go_sem, seval]
  have := fin PS (Ext.refl PS)
  rw [hr] at this
  simpa [hr] using this
 ·refine pend_intro ((cl_want_sl PS q ver pre.length (l.q.map wnL).length none 2 _ true hg (.inr rfl) (by simp) (by simp [hroom]; omega)).mono ?_)
  rintro _ _ ⟨rfl, rfl⟩
  simp only [go_sem, seval, List.length_map]
  have := fin PS (Ext.refl PS)
  have e1 : List.take l.q.length (List.drop pre.length (pre ++ (l.q.map wnL ++ sp))) = l.q.map wnL := by rw [List.drop_left' rfl, List.take_left' (by simp)]
  simpa [e1] using this
theorem latch_drop (PS : PL) (n : Nat) (own : List Nat) (l : Lt) (t : Int) (ht : 0 ≤ t) (h : LaP PS n own l) (ok : okL l) : HCall Tryz.prog 34 [.ptr n 0 0 0, .int .i64 t] PS fun r PS' => r = .imm (decide ((l.drop t).2.map kidL = [])) ((l.drop t).2.map kidL) ∧ ∃ own', LaP PS' n own' (l.drop t).1 ∧ Upd own PS PS' own' := by
 have hmx : maxLen = 9223372036854775807 := rfl
 have ht' : ¬ t < 0 := by omega
 have ok1 : ∀ w, w = -1 ∨ isT w → okL { l with wr := w } := fun w hw => ⟨ok.up, ok.rd, hw, ok.diff, ok.q, ok.apart⟩
 have okb : ∀ w, w = -1 ∨ isT w → okL { l with wr := w, rd := l.rd.filter fun x => decide (x ≠ t) } := fun w hw => ⟨up_filter _ ok.up, fun x hx => ok.rd x (List.mem_filter.1 hx).1, hw, ok.diff, ok.q, fun a ha hm => ok.apart a ha (List.mem_filter.1 hm).1⟩
 have okc : ∀ w, w = -1 ∨ isT w → okL ⟨l.rd.filter fun x => decide (x ≠ t), w, l.q.filter fun a => decide (a.t ≠ t)⟩ := fun w hw => ⟨(okb w hw).up, (okb w hw).rd, hw, diff_filter _ ok.diff, fun a ha => ok.q a (List.mem_filter.1 ha).1, fun a ha => (okb w hw).apart a (List.mem_filter.1 ha).1⟩
 have hdrop : l.drop t = lets (l.rd.filter fun x => decide (x ≠ t)) (if l.wr = t then -1 else l.wr) (l.q.filter fun a => decide (a.t ≠ t)) := rfl
 rw [hdrop]
 obtain ⟨xr, xq, o1, o2, h1, h2, h3, ho, h5⟩ := id h
 rw [ho] at h5
 refine enter_34 (by unfold Tryz.f34; exact rfl) ?_
 by_cases hw : l.wr = t
 ·rw [if_pos hw]
  have ok2 := okb (-1) (.inl rfl)
  have ok3 := okc (-1) (.inl rfl)
  have hx : ∀ Q, getP (PS.set n Q) n = Q := fun Q => getP_set_eq Q h1
  have hn := List.nodup_cons.1 h5
  have hk2 : ∀ m ∈ o2, getP (PS.set n (.arr 0 4 [[.int .i64 0, xr, .int .i64 (-1), xq]] false)) m = getP PS m := fun m hm => getP_set_ne _ (fun e => hn.1 (by rw [e]; simp [hm]))
  have haP : LaP (PS.set n (.arr 0 4 [[.int .i64 0, xr, .int .i64 (-1), xq]] false)) n own { l with wr := -1 } :=
   ⟨xr, xq, o1, o2, hx _, h2.keep fun m hm => getP_set_ne _ (fun e => hn.1 (by rw [e]; simp [hm])), h3.keep hk2, ho, ho ▸ h5⟩
  have hua : Upd own PS (PS.set n (.arr 0 4 [[.int .i64 0, xr, .int .i64 (-1), xq]] false)) own := ⟨(Ext.set PS n _).mono (by rw [ho]; simp), fun m hm => .inl hm⟩
  have ha1 := hx (.arr 0 4 [[.int .i64 0, xr, .int .i64 (-1), xq]] false)
  have ha2 : SlR (PS.set n (.arr 0 4 [[.int .i64 0, xr, .int .i64 (-1), xq]] false)) 1 xr o1 (l.rd.map kidL) := h2.keep fun m hm => getP_set_ne _ (fun e => hn.1 (by rw [e]; simp [hm]))
  have hkeep := hk2
  simp only [go_sem, seval, h1, ht', hw, hx]
  generalize PS.set n (.arr 0 4 [[.int .i64 0, xr, .int .i64 (-1), xq]] false) = PSa at haP hua ha1 ha2 hkeep ⊢
  refine pend_intro ((index_sees PSa l.rd t xr ha2.slO.sees).mono ?_)
  rintro _ PSx ⟨rfl, hps⟩
  rw [hps]
  clear hps
  rcases placeOf_cases l.rd t with ⟨hp, hnm⟩ | ⟨i, hp, hi, hil⟩
  ·have hp' : ¬ 0 ≤ placeOf l.rd t := by omega
   have hrf : l.rd.filter (fun x => decide (x ≠ t)) = l.rd := filter_none id t l.rd fun a ha e => hnm (by rw [← e]; exact ha)
   have hb : LaP PSa n own { l with wr := (-1), rd := l.rd.filter fun x => decide (x ≠ t) } := by rw [hrf]; exact haP
   have hub := hua
   simp only [go_sem, seval, hp']
   refine pend_intro ((latch_waits PSa n own _ t hb ok2).mono ?_)
   rintro _ PSx ⟨rfl, hps⟩
   rw [hps]
   clear hps
   rcases placeOf_cases (l.q.map Wn.t) t with ⟨hp, hnm⟩ | ⟨i, hp, hi, hil⟩
   ·have hp' : ¬ 0 ≤ placeOf (l.q.map Wn.t) t := by omega
    have hqf : l.q.filter (fun a => decide (a.t ≠ t)) = l.q := filter_none Wn.t t l.q fun a ha e => hnm (by rw [← e]; exact List.mem_map.2 ⟨a, ha, rfl⟩)
    have hc := hb
    have huc := hub
    rw [← hqf] at hc
    simp only [go_sem, seval, hp']
    refine pend_intro ((latch_let _ n _ _ hc ok3).mono ?_)
    rintro r PSd ⟨rfl, own', h6, h7⟩
    simp only [go_sem, seval]
    first | exact ⟨own', h6, huc.trans h7⟩ | exact ⟨rfl, own', h6, huc.trans h7⟩
   ·rw [List.getElem?_map] at hi
    obtain ⟨a, ha, hat⟩ := Option.map_eq_some_iff.1 hi
    have hil' : i < l.q.length := (List.getElem?_eq_some_iff.1 ha).1
    have hqf : l.q.filter (fun a => decide (a.t ≠ t)) = l.q.eraseIdx i := filter_erase Wn.t t l.q i a ok.diff ha hat
    have hp0 : (0 : Int) ≤ (i : Int) := by omega
    obtain ⟨yr, yq, p1, p2, b1, b2, b3, bo, b5⟩ := id hb
    have hql := ok.q_len
    rcases b3 with ⟨_, hz, _⟩ | ⟨q, ver, pre, sp, rfl, hg, rfl⟩
    ·simp at hz; rw [hz] at hil'; simp at hil'
    have hqn : q ≠ n := fun e => by rw [bo, List.nodup_cons] at b5; exact b5.1 (by simp [e])
    have hq1 : q ∉ p1 := fun hm => by rw [bo, List.nodup_cons, List.nodup_append] at b5; exact b5.2.2.2 q hm q (by simp) rfl
    have hno : ∀ m ∈ p1, m ≠ n := fun m hm e => by rw [bo, List.nodup_cons] at b5; exact b5.1 (by rw [← e]; simp [hm])
    have b1' := fun Q => (getP_set_ne Q hqn).trans b1
    simp only [go_sem, seval, hp, hp0, b1, hg, List.length_map]
    refine ⟨by omega, pend_intro ((del_want PSa l.q i q ver pre sp hil' (by omega) hg).mono ?_)⟩
    rintro _ _ ⟨rfl, sp', _, rfl⟩
    simp only [go_sem, seval, b1, b1']
    have hlen : (l.q.eraseIdx i).length = l.q.length - 1 := by simp [List.length_eraseIdx, hil']
    obtain ⟨ownc, hc, hcu⟩ := LaP.upd (PS := PSa) (o1 := p1) (o2 := [q]) (o1' := p1) (o2' := [q]) (l' := ⟨l.rd.filter fun x => decide (x ≠ t), (-1), l.q.filter fun a => decide (a.t ≠ t)⟩) (getP_set_eq (.arr 0 4 [[.int .i64 0, yr, .int .i64 (-1), .sl q ver pre.length (l.q.length - 1) none]] false) (b1' (.arr ver 2 (pre ++ ((l.q.eraseIdx i).map wnL ++ sp')) true))) (b2.keep fun m hm => (getP_set_ne _ (hno m hm).symm).trans (getP_set_ne _ (fun e => hq1 (e ▸ hm)))) (.inr ⟨q, ver, pre, sp', by rw [hqf, List.length_map, hlen], (getP_set_ne _ hqn.symm).trans ((getP_set_eq _ hg).trans (by rw [hqf])), rfl⟩) (bo ▸ b5)
     (((Ext.set PSa q _).mono (by simp)).since (Ext.set _ n _) (by simp)) (fun m hm => .inl hm)
    rw [← bo] at hcu
    have huc := hub.trans hcu
    refine pend_intro ((latch_let _ n _ _ hc ok3).mono ?_)
    rintro r PSd ⟨rfl, own', h6, h7⟩
    simp only [go_sem, seval]
    first | exact ⟨own', h6, huc.trans h7⟩ | exact ⟨rfl, own', h6, huc.trans h7⟩
  ·have hrf : l.rd.filter (fun x => decide (x ≠ t)) = l.rd.eraseIdx i := filter_erase id t l.rd i t (by rw [List.map_id]; exact ok.up.diff) hi rfl
   have hp0 : (0 : Int) ≤ (i : Int) := by omega
   have hrl := ok.rd_len
   rcases ha2 with ⟨_, hz, _⟩ | ⟨q, ver, sp, rfl, hg, hne, rfl⟩
   ·simp at hz; rw [hz] at hil; simp at hil
   have hqn : q ≠ n := fun e => by rw [List.nodup_cons] at h5; exact h5.1 (by simp [e])
   have hq1 : q ∉ o2 := fun hm => by rw [List.nodup_cons] at h5; simp at h5; exact h5.2.1 hm
   have hno : ∀ m ∈ o2, m ≠ n := fun m hm e => by rw [List.nodup_cons] at h5; exact h5.1 (by rw [← e]; simp [hm])
   have b1' := fun Q => (getP_set_ne Q hqn).trans ha1
   simp only [go_sem, seval, hp, hp0, ha1, hg, List.length_map]
   refine ⟨by omega, pend_intro ((del_int PSa l.rd i q ver [] sp hil (by omega) hg).mono ?_)⟩
   rintro _ _ ⟨rfl, sp', hsp', rfl⟩
   simp only [go_sem, seval, ha1, b1']
   have hlen : (l.rd.eraseIdx i).length = l.rd.length - 1 := by simp [List.length_eraseIdx, hil]
   have hnd : own.Nodup := ho ▸ h5
   have hb : LaP ((PSa.set q (.arr ver 1 ((l.rd.eraseIdx i).map kidL ++ sp') true)).set n (.arr 0 4 [[.int .i64 0, .sl q ver 0 (l.rd.length - 1) none, .int .i64 (-1), xq]] false)) n own { l with wr := (-1), rd := l.rd.filter fun x => decide (x ≠ t) } :=
    ⟨_, xq, [q], o2, getP_set_eq _ (b1' _), .inr ⟨q, ver, sp', by rw [hrf, List.length_map, hlen], (getP_set_ne _ hqn.symm).trans ((getP_set_eq _ hg).trans (by rw [hrf] <;> rfl)), by simp [hsp'], rfl⟩, h3.keep fun m hm => (getP_set_ne _ (hno m hm).symm).trans ((getP_set_ne _ (by intro e; subst e; exact hq1 hm)).trans (hkeep m hm)), ho, hnd⟩
   have hub := hua.trans (own'' := own) ⟨((Ext.set PSa q (.arr ver 1 ((l.rd.eraseIdx i).map kidL ++ sp') true)).mono (by rw [ho]; simp)).since (Ext.set _ n (.arr 0 4 [[.int .i64 0, .sl q ver 0 (l.rd.length - 1) none, .int .i64 (-1), xq]] false)) (by rw [ho]; simp), fun m hm => .inl hm⟩
   generalize (PSa.set q (.arr ver 1 ((l.rd.eraseIdx i).map kidL ++ sp') true)).set n (.arr 0 4 [[.int .i64 0, .sl q ver 0 (l.rd.length - 1) none, .int .i64 (-1), xq]] false) = PSb at hb hub ⊢
   refine pend_intro ((latch_waits PSb n own _ t hb ok2).mono ?_)
   rintro _ PSx ⟨rfl, hps⟩
   rw [hps]
   clear hps
   rcases placeOf_cases (l.q.map Wn.t) t with ⟨hp, hnm⟩ | ⟨i, hp, hi, hil⟩
   ·have hp' : ¬ 0 ≤ placeOf (l.q.map Wn.t) t := by omega
    have hqf : l.q.filter (fun a => decide (a.t ≠ t)) = l.q := filter_none Wn.t t l.q fun a ha e => hnm (by rw [← e]; exact List.mem_map.2 ⟨a, ha, rfl⟩)
    have hc := hb
    have huc := hub
    rw [← hqf] at hc
    simp only [go_sem, seval, hp']
    refine pend_intro ((latch_let _ n _ _ hc ok3).mono ?_)
    rintro r PSd ⟨rfl, own', h6, h7⟩
    simp only [go_sem, seval]
    first | exact ⟨own', h6, huc.trans h7⟩ | exact ⟨rfl, own', h6, huc.trans h7⟩
   ·rw [List.getElem?_map] at hi
    obtain ⟨a, ha, hat⟩ := Option.map_eq_some_iff.1 hi
    have hil' : i < l.q.length := (List.getElem?_eq_some_iff.1 ha).1
    have hqf : l.q.filter (fun a => decide (a.t ≠ t)) = l.q.eraseIdx i := filter_erase Wn.t t l.q i a ok.diff ha hat
    have hp0 : (0 : Int) ≤ (i : Int) := by omega
    obtain ⟨yr, yq, p1, p2, b1, b2, b3, bo, b5⟩ := id hb
    have hql := ok.q_len
    rcases b3 with ⟨_, hz, _⟩ | ⟨q, ver, pre, sp, rfl, hg, rfl⟩
    ·simp at hz; rw [hz] at hil'; simp at hil'
    have hqn : q ≠ n := fun e => by rw [bo, List.nodup_cons] at b5; exact b5.1 (by simp [e])
    have hq1 : q ∉ p1 := fun hm => by rw [bo, List.nodup_cons, List.nodup_append] at b5; exact b5.2.2.2 q hm q (by simp) rfl
    have hno : ∀ m ∈ p1, m ≠ n := fun m hm e => by rw [bo, List.nodup_cons] at b5; exact b5.1 (by rw [← e]; simp [hm])
    have b1' := fun Q => (getP_set_ne Q hqn).trans b1
    simp only [go_sem, seval, hp, hp0, b1, hg, List.length_map]
    refine ⟨by omega, pend_intro ((del_want PSb l.q i q ver pre sp hil' (by omega) hg).mono ?_)⟩
    rintro _ _ ⟨rfl, sp', _, rfl⟩
    simp only [go_sem, seval, b1, b1']
    have hlen : (l.q.eraseIdx i).length = l.q.length - 1 := by simp [List.length_eraseIdx, hil']
    obtain ⟨ownc, hc, hcu⟩ := LaP.upd (PS := PSb) (o1 := p1) (o2 := [q]) (o1' := p1) (o2' := [q]) (l' := ⟨l.rd.filter fun x => decide (x ≠ t), (-1), l.q.filter fun a => decide (a.t ≠ t)⟩) (getP_set_eq (.arr 0 4 [[.int .i64 0, yr, .int .i64 (-1), .sl q ver pre.length (l.q.length - 1) none]] false) (b1' (.arr ver 2 (pre ++ ((l.q.eraseIdx i).map wnL ++ sp')) true))) (b2.keep fun m hm => (getP_set_ne _ (hno m hm).symm).trans (getP_set_ne _ (fun e => hq1 (e ▸ hm)))) (.inr ⟨q, ver, pre, sp', by rw [hqf, List.length_map, hlen], (getP_set_ne _ hqn.symm).trans ((getP_set_eq _ hg).trans (by rw [hqf])), rfl⟩) (bo ▸ b5)
     (((Ext.set PSb q _).mono (by simp)).since (Ext.set _ n _) (by simp)) (fun m hm => .inl hm)
    rw [← bo] at hcu
    have huc := hub.trans hcu
    refine pend_intro ((latch_let _ n _ _ hc ok3).mono ?_)
    rintro r PSd ⟨rfl, own', h6, h7⟩
    simp only [go_sem, seval]
    first | exact ⟨own', h6, huc.trans h7⟩ | exact ⟨rfl, own', h6, huc.trans h7⟩
 ·rw [if_neg hw]
  have ok2 := okb l.wr ok.wr
  have ok3 := okc l.wr ok.wr
  have haP : LaP PS n own { l with wr := l.wr } := h
  have hua := Upd.refl own PS
  have ha1 := h1
  have ha2 := h2
  have hkeep : ∀ m ∈ o2, getP PS m = getP PS m := fun _ _ => rfl
  simp only [go_sem, seval, h1, ht', hw]
  refine pend_intro ((index_sees PS l.rd t xr ha2.slO.sees).mono ?_)
  rintro _ PSx ⟨rfl, hps⟩
  rw [hps]
  clear hps
  rcases placeOf_cases l.rd t with ⟨hp, hnm⟩ | ⟨i, hp, hi, hil⟩
  ·have hp' : ¬ 0 ≤ placeOf l.rd t := by omega
   have hrf : l.rd.filter (fun x => decide (x ≠ t)) = l.rd := filter_none id t l.rd fun a ha e => hnm (by rw [← e]; exact ha)
   have hb : LaP PS n own { l with wr := l.wr, rd := l.rd.filter fun x => decide (x ≠ t) } := by rw [hrf]; exact haP
   have hub := hua
   simp only [go_sem, seval, hp']
   refine pend_intro ((latch_waits PS n own _ t hb ok2).mono ?_)
   rintro _ PSx ⟨rfl, hps⟩
   rw [hps]
   clear hps
   rcases placeOf_cases (l.q.map Wn.t) t with ⟨hp, hnm⟩ | ⟨i, hp, hi, hil⟩
   ·have hp' : ¬ 0 ≤ placeOf (l.q.map Wn.t) t := by omega
    have hqf : l.q.filter (fun a => decide (a.t ≠ t)) = l.q := filter_none Wn.t t l.q fun a ha e => hnm (by rw [← e]; exact List.mem_map.2 ⟨a, ha, rfl⟩)
    have hc := hb
    have huc := hub
    rw [← hqf] at hc
    simp only [go_sem, seval, hp']
    refine pend_intro ((latch_let _ n _ _ hc ok3).mono ?_)
    rintro r PSd ⟨rfl, own', h6, h7⟩
    simp only [go_sem, seval]
    first | exact ⟨own', h6, huc.trans h7⟩ | exact ⟨rfl, own', h6, huc.trans h7⟩
   ·rw [List.getElem?_map] at hi
    obtain ⟨a, ha, hat⟩ := Option.map_eq_some_iff.1 hi
    have hil' : i < l.q.length := (List.getElem?_eq_some_iff.1 ha).1
    have hqf : l.q.filter (fun a => decide (a.t ≠ t)) = l.q.eraseIdx i := filter_erase Wn.t t l.q i a ok.diff ha hat
    have hp0 : (0 : Int) ≤ (i : Int) := by omega
    obtain ⟨yr, yq, p1, p2, b1, b2, b3, bo, b5⟩ := id hb
    have hql := ok.q_len
    rcases b3 with ⟨_, hz, _⟩ | ⟨q, ver, pre, sp, rfl, hg, rfl⟩
    ·simp at hz; rw [hz] at hil'; simp at hil'
    have hqn : q ≠ n := fun e => by rw [bo, List.nodup_cons] at b5; exact b5.1 (by simp [e])
    have hq1 : q ∉ p1 := fun hm => by rw [bo, List.nodup_cons, List.nodup_append] at b5; exact b5.2.2.2 q hm q (by simp) rfl
    have hno : ∀ m ∈ p1, m ≠ n := fun m hm e => by rw [bo, List.nodup_cons] at b5; exact b5.1 (by rw [← e]; simp [hm])
    have b1' := fun Q => (getP_set_ne Q hqn).trans b1
    simp only [go_sem, seval, hp, hp0, b1, hg, List.length_map]
    refine ⟨by omega, pend_intro ((del_want PS l.q i q ver pre sp hil' (by omega) hg).mono ?_)⟩
    rintro _ _ ⟨rfl, sp', _, rfl⟩
    simp only [go_sem, seval, b1, b1']
    have hlen : (l.q.eraseIdx i).length = l.q.length - 1 := by simp [List.length_eraseIdx, hil']
    obtain ⟨ownc, hc, hcu⟩ := LaP.upd (PS := PS) (o1 := p1) (o2 := [q]) (o1' := p1) (o2' := [q]) (l' := ⟨l.rd.filter fun x => decide (x ≠ t), l.wr, l.q.filter fun a => decide (a.t ≠ t)⟩) (getP_set_eq (.arr 0 4 [[.int .i64 0, yr, .int .i64 l.wr, .sl q ver pre.length (l.q.length - 1) none]] false) (b1' (.arr ver 2 (pre ++ ((l.q.eraseIdx i).map wnL ++ sp')) true))) (b2.keep fun m hm => (getP_set_ne _ (hno m hm).symm).trans (getP_set_ne _ (fun e => hq1 (e ▸ hm)))) (.inr ⟨q, ver, pre, sp', by rw [hqf, List.length_map, hlen], (getP_set_ne _ hqn.symm).trans ((getP_set_eq _ hg).trans (by rw [hqf])), rfl⟩) (bo ▸ b5)
     (((Ext.set PS q _).mono (by simp)).since (Ext.set _ n _) (by simp)) (fun m hm => .inl hm)
    rw [← bo] at hcu
    have huc := hub.trans hcu
    refine pend_intro ((latch_let _ n _ _ hc ok3).mono ?_)
    rintro r PSd ⟨rfl, own', h6, h7⟩
    simp only [go_sem, seval]
    first | exact ⟨own', h6, huc.trans h7⟩ | exact ⟨rfl, own', h6, huc.trans h7⟩
  ·have hrf : l.rd.filter (fun x => decide (x ≠ t)) = l.rd.eraseIdx i := filter_erase id t l.rd i t (by rw [List.map_id]; exact ok.up.diff) hi rfl
   have hp0 : (0 : Int) ≤ (i : Int) := by omega
   have hrl := ok.rd_len
   rcases ha2 with ⟨_, hz, _⟩ | ⟨q, ver, sp, rfl, hg, hne, rfl⟩
   ·simp at hz; rw [hz] at hil; simp at hil
   have hqn : q ≠ n := fun e => by rw [List.nodup_cons] at h5; exact h5.1 (by simp [e])
   have hq1 : q ∉ o2 := fun hm => by rw [List.nodup_cons] at h5; simp at h5; exact h5.2.1 hm
   have hno : ∀ m ∈ o2, m ≠ n := fun m hm e => by rw [List.nodup_cons] at h5; exact h5.1 (by rw [← e]; simp [hm])
   have b1' := fun Q => (getP_set_ne Q hqn).trans ha1
   simp only [go_sem, seval, hp, hp0, ha1, hg, List.length_map]
   refine ⟨by omega, pend_intro ((del_int PS l.rd i q ver [] sp hil (by omega) hg).mono ?_)⟩
   rintro _ _ ⟨rfl, sp', hsp', rfl⟩
   simp only [go_sem, seval, ha1, b1']
   have hlen : (l.rd.eraseIdx i).length = l.rd.length - 1 := by simp [List.length_eraseIdx, hil]
   have hnd : own.Nodup := ho ▸ h5
   have hb : LaP ((PS.set q (.arr ver 1 ((l.rd.eraseIdx i).map kidL ++ sp') true)).set n (.arr 0 4 [[.int .i64 0, .sl q ver 0 (l.rd.length - 1) none, .int .i64 l.wr, xq]] false)) n own { l with wr := l.wr, rd := l.rd.filter fun x => decide (x ≠ t) } :=
    ⟨_, xq, [q], o2, getP_set_eq _ (b1' _), .inr ⟨q, ver, sp', by rw [hrf, List.length_map, hlen], (getP_set_ne _ hqn.symm).trans ((getP_set_eq _ hg).trans (by rw [hrf] <;> rfl)), by simp [hsp'], rfl⟩, h3.keep fun m hm => (getP_set_ne _ (hno m hm).symm).trans ((getP_set_ne _ (by intro e; subst e; exact hq1 hm)).trans (hkeep m hm)), ho, hnd⟩
   have hub := hua.trans (own'' := own) ⟨((Ext.set PS q (.arr ver 1 ((l.rd.eraseIdx i).map kidL ++ sp') true)).mono (by rw [ho]; simp)).since (Ext.set _ n (.arr 0 4 [[.int .i64 0, .sl q ver 0 (l.rd.length - 1) none, .int .i64 l.wr, xq]] false)) (by rw [ho]; simp), fun m hm => .inl hm⟩
   generalize (PS.set q (.arr ver 1 ((l.rd.eraseIdx i).map kidL ++ sp') true)).set n (.arr 0 4 [[.int .i64 0, .sl q ver 0 (l.rd.length - 1) none, .int .i64 l.wr, xq]] false) = PSb at hb hub ⊢
   refine pend_intro ((latch_waits PSb n own _ t hb ok2).mono ?_)
   rintro _ PSx ⟨rfl, hps⟩
   rw [hps]
   clear hps
   rcases placeOf_cases (l.q.map Wn.t) t with ⟨hp, hnm⟩ | ⟨i, hp, hi, hil⟩
   ·have hp' : ¬ 0 ≤ placeOf (l.q.map Wn.t) t := by omega
    have hqf : l.q.filter (fun a => decide (a.t ≠ t)) = l.q := filter_none Wn.t t l.q fun a ha e => hnm (by rw [← e]; exact List.mem_map.2 ⟨a, ha, rfl⟩)
    have hc := hb
    have huc := hub
    rw [← hqf] at hc
    simp only [go_sem, seval, hp']
    refine pend_intro ((latch_let _ n _ _ hc ok3).mono ?_)
    rintro r PSd ⟨rfl, own', h6, h7⟩
    simp only [go_sem, seval]
    first | exact ⟨own', h6, huc.trans h7⟩ | exact ⟨rfl, own', h6, huc.trans h7⟩
   ·rw [List.getElem?_map] at hi
    obtain ⟨a, ha, hat⟩ := Option.map_eq_some_iff.1 hi
    have hil' : i < l.q.length := (List.getElem?_eq_some_iff.1 ha).1
    have hqf : l.q.filter (fun a => decide (a.t ≠ t)) = l.q.eraseIdx i := filter_erase Wn.t t l.q i a ok.diff ha hat
    have hp0 : (0 : Int) ≤ (i : Int) := by omega
    obtain ⟨yr, yq, p1, p2, b1, b2, b3, bo, b5⟩ := id hb
    have hql := ok.q_len
    rcases b3 with ⟨_, hz, _⟩ | ⟨q, ver, pre, sp, rfl, hg, rfl⟩
    ·simp at hz; rw [hz] at hil'; simp at hil'
    have hqn : q ≠ n := fun e => by rw [bo, List.nodup_cons] at b5; exact b5.1 (by simp [e])
    have hq1 : q ∉ p1 := fun hm => by rw [bo, List.nodup_cons, List.nodup_append] at b5; exact b5.2.2.2 q hm q (by simp) rfl
    have hno : ∀ m ∈ p1, m ≠ n := fun m hm e => by rw [bo, List.nodup_cons] at b5; exact b5.1 (by rw [← e]; simp [hm])
    have b1' := fun Q => (getP_set_ne Q hqn).trans b1
    simp only [go_sem, seval, hp, hp0, b1, hg, List.length_map]
    refine ⟨by omega, pend_intro ((del_want PSb l.q i q ver pre sp hil' (by omega) hg).mono ?_)⟩
    rintro _ _ ⟨rfl, sp', _, rfl⟩
    simp only [go_sem, seval, b1, b1']
    have hlen : (l.q.eraseIdx i).length = l.q.length - 1 := by simp [List.length_eraseIdx, hil']
    obtain ⟨ownc, hc, hcu⟩ := LaP.upd (PS := PSb) (o1 := p1) (o2 := [q]) (o1' := p1) (o2' := [q]) (l' := ⟨l.rd.filter fun x => decide (x ≠ t), l.wr, l.q.filter fun a => decide (a.t ≠ t)⟩) (getP_set_eq (.arr 0 4 [[.int .i64 0, yr, .int .i64 l.wr, .sl q ver pre.length (l.q.length - 1) none]] false) (b1' (.arr ver 2 (pre ++ ((l.q.eraseIdx i).map wnL ++ sp')) true))) (b2.keep fun m hm => (getP_set_ne _ (hno m hm).symm).trans (getP_set_ne _ (fun e => hq1 (e ▸ hm)))) (.inr ⟨q, ver, pre, sp', by rw [hqf, List.length_map, hlen], (getP_set_ne _ hqn.symm).trans ((getP_set_eq _ hg).trans (by rw [hqf])), rfl⟩) (bo ▸ b5)
     (((Ext.set PSb q _).mono (by simp)).since (Ext.set _ n _) (by simp)) (fun m hm => .inl hm)
    rw [← bo] at hcu
    have huc := hub.trans hcu
    refine pend_intro ((latch_let _ n _ _ hc ok3).mono ?_)
    rintro r PSd ⟨rfl, own', h6, h7⟩
    simp only [go_sem, seval]
    first | exact ⟨own', h6, huc.trans h7⟩ | exact ⟨rfl, own', h6, huc.trans h7⟩
end Go.Proofs.YtdjfdlpfchokcaaGreat
namespace Go.Ow
open Go Go.Eng
variable [Toks]
theorem hst_one {x : HV} {C : List HV → Prop} (h : HV.one x = true) : hst x C = C [x] := by cases x <;> first | (cases h; done) | simp_all [hst]
def at_ (x : HV) (i k : Nat) (r : List HV) : HV :=
 match x with
 | .imm _ _ => .iptr r k
 | .sl n ver j _ _ => .ptr n ver (j + i) k
 | _ => .junk
def Sees (PS : PL) (s : Nat) (x : HV) (rows : List (List HV)) : Prop :=
 ((∃ t, x = .imm t rows) ∨ ∃ q ver pre sp o cp, x = .sl q ver pre.length rows.length cp ∧ getP PS q = .arr ver s (pre ++ (rows ++ sp)) o ∧ (o = false ∨ pre ++ (rows ++ sp) ≠ [])) ∧ ∀ r ∈ rows, r.length = s
section
variable {PS PS' : PL} {s : Nat} {x : HV} {rows : List (List HV)} {P : Program} {K : HV → Prop} {i : Nat} {r : List HV}
theorem Sees.imm (PS : PL) (t : Bool) {rows : List (List HV)} (h : ∀ r ∈ rows, r.length = s) : Sees PS s (.imm t rows) rows := ⟨.inl ⟨t, rfl⟩, h⟩
theorem Sees.pre (h : Sees PS s x rows) (hp : Pre PS PS') : Sees PS' s x rows := by
 refine ⟨?_, h.2⟩
 rcases h.1 with h | ⟨q, ver, pre, sp, o, cp, rfl, hg, ho⟩
 ·exact .inl h
 ·exact .inr ⟨q, ver, pre, sp, o, cp, rfl, hp.arr hg, ho⟩
theorem Sees.app (h : Sees PS s x rows) (l : PL) : Sees (PS ++ l) s x rows := h.pre (Ext.app PS l).pre
theorem Sees.len (h : Sees PS s x rows) (e : TypeId) : hlenU P PS x K (some (.slice e)) = (rows.length ≤ maxLen → K (.int .i64 rows.length)) := by
 rcases h.1 with ⟨t, rfl⟩ | ⟨q, ver, pre, sp, o, cp, rfl, hg, ho⟩
 ·rfl
 ·simp [hlenU, hver, hg]
theorem Sees.row {q ver : Nat} {pre sp : List (List HV)} {o : Bool} (hg : getP PS q = .arr ver s (pre ++ (rows ++ sp)) o) (hi : rows[i]? = some r) : (pre ++ (rows ++ sp))[pre.length + i]? = some r := by
 have hl := (List.getElem?_eq_some_iff.1 hi).1
 rw [List.getElem?_append_right (by omega), Nat.add_sub_cancel_left, List.getElem?_append_left hl, hi]
theorem Sees.live {q ver : Nat} {E : List (List HV)} {o : Bool} (hg : getP PS q = .arr ver s E o) (ho : o = false ∨ E ≠ []) : hlive (getP PS q) ver := by
 rw [hg]; exact ⟨rfl, ho⟩
theorem Sees.ix (h : Sees PS s x rows) (hi : rows[i]? = some r) (k : IntKind) (t : TypeId) (s' : Nat) : hixsl PS x (.int k (i : Int)) K (some (t, s')) = (s = s' ∧ K (at_ x i 0 r)) := by
 have hr := h.2 r (List.mem_of_getElem? hi)
 have hl := (List.getElem?_eq_some_iff.1 hi).1
 rcases h.1 with ⟨t, rfl⟩ | ⟨q, ver, pre, sp, o, cp, rfl, hg, ho⟩
 ·simp [hixsl, hi, hr, at_]
 ·have := Sees.row hg hi
  simp [hixsl, hrow, hg, this, at_, hr, hl]
theorem Sees.ix0 (h : Sees PS s x rows) (hi : rows[0]? = some r) (k : IntKind) (t : TypeId) (s' : Nat) : hixsl PS x (.int k 0) K (some (t, s')) = (s = s' ∧ K (at_ x 0 0 r)) := h.ix hi k t s'
theorem Sees.fld (h : Sees PS s x rows) (hi : rows[i]? = some r) (k off n : Nat) : hfield PS (at_ x i k r) K (some (off, n)) = K (at_ x i (k + off) r) := by
 rcases h.1 with ⟨t, rfl⟩ | ⟨q, ver, pre, sp, o, cp, rfl, hg, ho⟩
 ·rfl
 ·simp only [hfield, at_]
  exact propext ⟨fun h => h.2, fun h => ⟨Sees.live hg ho, h⟩⟩
theorem Sees.ld {C : List HV → Prop} (h : Sees PS s x rows) (hi : rows[i]? = some r) (k s' : Nat) : hcells PS s' C (at_ x i k r) = (k + s' ≤ r.length ∧ C ((r.drop k).take s')) := by
 rcases h.1 with ⟨t, rfl⟩ | ⟨q, ver, pre, sp, o, cp, rfl, hg, ho⟩
 ·rfl
 ·have := Sees.row hg hi
  simp [hcells, at_, hrow, hg, this]
end
def SlO (PS : PL) (s : Nat) (x : HV) (own : List Nat) (rows : List (List HV)) : Prop :=
 ((x = .imm true [] ∧ rows = [] ∧ own = []) ∨ ∃ q ver pre sp, x = .sl q ver pre.length rows.length none ∧ getP PS q = .arr ver s (pre ++ (rows ++ sp)) true ∧ pre ++ (rows ++ sp) ≠ [] ∧ own = [q]) ∧ ∀ r ∈ rows, r.length = s
def Upd (own : List Nat) (PS PS' : PL) (own' : List Nat) : Prop := Ext own PS PS' ∧ ∀ m ∈ own', m ∈ own ∨ PS.length ≤ m
theorem Upd.refl (own : List Nat) (PS : PL) : Upd own PS PS own := ⟨(Ext.refl PS).mono (by simp), fun m hm => .inl hm⟩
theorem Upd.trans {own own' own'' : List Nat} {PS PS' PS'' : PL} (h : Upd own PS PS' own') (k : Upd own' PS' PS'' own'') : Upd own PS PS'' own'' :=
 ⟨h.1.since k.1 h.2, fun m hm => by
  rcases k.2 m hm with hm | hm
  ·exact h.2 m hm
  ·exact .inr (Nat.le_trans h.1.1 hm)⟩
theorem Upd.apart {own own' other : List Nat} {PS PS' : PL} (h : Upd own PS PS' own') (hl : ∀ m ∈ other, m < PS.length) (hd : ∀ m ∈ other, m ∉ own) : ∀ m ∈ other, m ∉ own' := fun m hm hm' => by
 rcases h.2 m hm' with h' | h'
 ·exact hd m hm h'
 ·exact absurd (hl m hm) (by omega)
section
variable {PS PS' : PL} {s : Nat} {x : HV} {own : List Nat} {rows : List (List HV)}
theorem SlO.sees (h : SlO PS s x own rows) : Sees PS s x rows := by
 refine ⟨?_, h.2⟩
 rcases h.1 with ⟨rfl, rfl, _⟩ | ⟨q, ver, pre, sp, rfl, h, hne, _⟩
 ·exact .inl ⟨true, rfl⟩
 ·exact .inr ⟨q, ver, pre, sp, true, none, rfl, h, .inr hne⟩
theorem SlO.nil (PS : PL) (s : Nat) : SlO PS s (.imm true []) [] [] := ⟨.inl ⟨rfl, rfl, rfl⟩, by simp⟩
theorem SlO.lt (h : SlO PS s x own rows) : ∀ n ∈ own, n < PS.length := by
 rcases h.1 with ⟨_, _, rfl⟩ | ⟨q, ver, pre, sp, _, hg, _, rfl⟩
 ·simp
 ·intro n hn; simp at hn; subst hn; exact getP_lt hg
theorem SlO.keep (h : SlO PS s x own rows) (hk : ∀ n ∈ own, getP PS' n = getP PS n) : SlO PS' s x own rows := by
 refine ⟨?_, h.2⟩
 rcases h.1 with ⟨rfl, rfl, rfl⟩ | ⟨q, ver, pre, sp, rfl, hg, hne, rfl⟩
 ·exact .inl ⟨rfl, rfl, rfl⟩
 ·exact .inr ⟨q, ver, pre, sp, rfl, (hk q (by simp)).trans hg, hne, rfl⟩
theorem SlO.pre (h : SlO PS s x own rows) (hp : Pre PS PS') : SlO PS' s x own rows := by
 refine ⟨?_, h.2⟩
 rcases h.1 with ⟨rfl, rfl, rfl⟩ | ⟨q, ver, pre, sp, rfl, hg, hne, rfl⟩
 ·exact .inl ⟨rfl, rfl, rfl⟩
 ·exact .inr ⟨q, ver, pre, sp, rfl, hp.arr hg, hne, rfl⟩
theorem SlO.one (h : SlO PS s x own rows) : HV.one x = true := by
 rcases h.1 with ⟨rfl, _⟩ | ⟨q, ver, pre, sp, rfl, _⟩ <;> rfl
theorem SlO.app {b : Nat} {N : List (List HV)} {L : HV → PL → Prop} (h : SlO PS s x own rows) (hN : ∀ r ∈ N, r.length = s) (h1 : N.length = 1) (hr : hroom (rows.length + N.length) b)
  (k : ∀ x' PS' own', SlO PS' s x' own' (rows ++ N) → Upd own PS PS' own' → HV.one x' = true → L x' PS') : happ2 PS s b x N L := by
 have hall : ∀ r ∈ rows ++ N, r.length = s := by intro r hr; rcases List.mem_append.1 hr with hr | hr; exact h.2 r hr; exact hN r hr
 have h0 : N ≠ [] := by intro e; rw [e] at h1; cases h1
 rcases h.1 with ⟨rfl, rfl, rfl⟩ | ⟨q, ver, pre, sp, rfl, hg, hne, rfl⟩
 ·rw [happ2_imm]
  refine ⟨rfl, .inl rfl, by simp, by simpa using hr, k _ _ [PS.length] ⟨.inr ⟨PS.length, 0, [], [], by simp, (getP_last _ _).trans (by simp), by simpa using h0, rfl⟩, hall⟩ ⟨(Ext.app PS _), fun m hm => .inr (by simp at hm; omega)⟩ rfl⟩
 ·rw [happ2_open, hg, harr_arr]
  refine ⟨rfl, rfl, ?_⟩
  by_cases hs : sp = []
  ·subst hs
   refine .inl ⟨by simp, hr, ?_⟩
   have e : (pre ++ (rows ++ [])).drop pre.length ++ N = rows ++ N := by rw [List.append_nil, List.drop_left' rfl]
   rw [e]
   refine k _ _ [q] ⟨.inr ⟨q, ver + 1, [], [], by simp, (getP_set_eq _ hg).trans (by simp), by simpa using fun _ => h0, rfl⟩, hall⟩ ⟨Ext.set PS q _, fun m hm => .inl hm⟩ rfl
  ·by_cases hle : N.length ≤ sp.length
   ·have hpos : 0 < sp.length := List.length_pos_iff.2 hs
    refine .inr ⟨by simp; omega, by simp; omega, ?_⟩
    have e : hsplice (pre.length + rows.length) N (pre ++ (rows ++ sp)) = pre ++ ((rows ++ N) ++ sp.drop N.length) := by
     have e1 : pre ++ (rows ++ sp) = (pre ++ rows) ++ sp := by simp
     have e2 : pre.length + rows.length = (pre ++ rows).length := by simp
     rw [e1, e2]
     unfold hsplice
     rw [List.take_left' rfl, ← List.drop_drop, List.drop_left' rfl]
     simp
    rw [e]
    have e3 : rows.length + N.length = (rows ++ N).length := by simp
    rw [e3]
    exact k _ _ [q] ⟨.inr ⟨q, ver, pre, sp.drop N.length, rfl, getP_set_eq _ hg, by simp [h0], rfl⟩, hall⟩ ⟨Ext.set PS q _, fun m hm => .inl hm⟩ rfl
   ·exact absurd h1 (by have := List.length_pos_iff.2 hs; omega)
end
def Bld (PS0 PS : PL) (s : Nat) (x : HV) (R : List (List HV)) : Prop :=
 ((R = [] ∧ x = .imm true []) ∨ (R ≠ [] ∧ ∃ p ver, x = .sl p ver 0 R.length none ∧ PS0.length ≤ p ∧ getP PS p = .arr ver s R true)) ∧ (∀ r ∈ R, r.length = s) ∧ Ext [] PS0 PS
section
variable {PS0 PS PS' : PL} {s : Nat} {x : HV} {R : List (List HV)}
theorem Bld.nil (s : Nat) (h : Ext [] PS0 PS) : Bld PS0 PS s (.imm true []) [] := ⟨.inl ⟨rfl, rfl⟩, by simp, h⟩
theorem Bld.ext (h : Bld PS0 PS s x R) : Ext [] PS0 PS := h.2.2
theorem Bld.more (h : Bld PS0 PS s x R) (l : PL) : Bld PS0 (PS ++ l) s x R := by
 refine ⟨?_, h.2.1, h.2.2.trans (Ext.app _ _)⟩
 rcases h.1 with h | ⟨h1, p, ver, h2, h3, h4⟩
 ·exact .inl h
 ·exact .inr ⟨h1, p, ver, h2, h3, getP_app l h4⟩
theorem Bld.app {b : Nat} {N : List (List HV)} {L : HV → PL → Prop} (h : Bld PS0 PS s x R) (hN : ∀ r ∈ N, r.length = s) (h0 : N ≠ []) (hr : hroom (R.length + N.length) b)
  (k : ∀ x' PS', Bld PS0 PS' s x' (R ++ N) → L x' PS') : happ2 PS s b x N L := by
 have hall : ∀ r ∈ R ++ N, r.length = s := by intro r hr; rcases List.mem_append.1 hr with hr | hr; exact h.2.1 r hr; exact hN r hr
 have hne : R ++ N ≠ [] := by simp [h0]
 rcases h.1 with ⟨rfl, rfl⟩ | ⟨hR, p, ver, rfl, hp, hg⟩
 ·rw [happ2_imm]
  exact ⟨rfl, .inl rfl, by simp, by simpa using hr, k _ _ ⟨.inr ⟨hne, PS.length, 0, by simp, h.2.2.1, (getP_last _ _).trans (by simp)⟩, hall, h.2.2.trans (Ext.app _ _)⟩⟩
 ·rw [happ2_open, hg, harr_arr]
  refine ⟨rfl, rfl, .inl ⟨by simp, hr, ?_⟩⟩
  rw [List.drop_zero]
  refine k _ _ ⟨.inr ⟨hne, p, ver + 1, by simp, hp, getP_set_eq _ hg⟩, hall, h.2.2.since (Ext.set _ p _) ?_⟩
  intro n hn; simp at hn; subst hn; exact .inr hp
theorem Bld.sees (h : Bld PS0 PS s x R) : Sees PS s x R := by
 refine ⟨?_, h.2.1⟩
 rcases h.1 with ⟨rfl, rfl⟩ | ⟨hR, p, ver, rfl, hp, hg⟩
 ·exact .inl ⟨true, rfl⟩
 ·exact .inr ⟨p, ver, [], [], true, none, rfl, by simpa using hg, .inr (by simpa using hR)⟩
def Apart (x y : HV) : Prop := ∀ p v i l c p' v' i' l' c', x = .sl p v i l c → y = .sl p' v' i' l' c' → p ≠ p'
theorem Apart.symm {x y : HV} (h : Apart x y) : Apart y x := fun p v i l c p' v' i' l' c' h1 h2 e => h p' v' i' l' c' p v i l c h2 h1 e.symm
theorem Apart.imm {t : Bool} {E : List (List HV)} (y : HV) : Apart (.imm t E) y := fun p v i l c p' v' i' l' c' h1 _ => by cases h1
def NotIn (q : Nat) (x : HV) : Prop := ∀ p v i l c, x = .sl p v i l c → q ≠ p
theorem Bld.notIn {q : Nat} (h : Bld PS0 PS s x R) (hq : PS.length ≤ q) : NotIn q x := by
 intro p v i l c hx
 rcases h.1 with ⟨_, rfl⟩ | ⟨_, p', v', rfl, _, hg⟩
 ·cases hx
 ·injection hx with h1 _ _ _ _
  have := getP_lt hg; omega
theorem Bld.app2 {b : Nat} {N : List (List HV)} {L : HV → PL → Prop} {s' : Nat} {y : HV} {R' : List (List HV)} (h : Bld PS0 PS s x R) (hy : Bld PS0 PS s' y R') (ha : Apart x y) (hN : ∀ r ∈ N, r.length = s) (h0 : N ≠ []) (hr : hroom (R.length + N.length) b)
  (k : ∀ x' PS', Bld PS0 PS' s x' (R ++ N) → Bld PS0 PS' s' y R' → Apart x' y → (∀ q, q < PS.length → NotIn q x → getP PS' q = getP PS q) → L x' PS') : happ2 PS s b x N L := by
 have hall : ∀ r ∈ R ++ N, r.length = s := by intro r hr; rcases List.mem_append.1 hr with hr | hr; exact h.2.1 r hr; exact hN r hr
 have hne : R ++ N ≠ [] := by simp [h0]
 rcases h.1 with ⟨rfl, rfl⟩ | ⟨hR, p, ver, rfl, hp, hg⟩
 ·rw [happ2_imm]
  refine ⟨rfl, .inl rfl, by simp, by simpa using hr, k _ _ ⟨.inr ⟨hne, PS.length, 0, by simp, h.2.2.1, (getP_last _ _).trans (by simp)⟩, hall, h.2.2.trans (Ext.app _ _)⟩ (hy.more _) ?_ (fun q hq _ => getP_app' _ hq)⟩
  intro p v i l c p' v' i' l' c' h1 h2 e
  injection h1 with h1 _ _ _ _
  rcases hy.1 with ⟨_, rfl⟩ | ⟨_, q, vq, rfl, _, hq⟩
  ·cases h2
  ·injection h2 with h2 _ _ _ _
   have := getP_lt hq; omega
 ·rw [happ2_open, hg, harr_arr]
  refine ⟨rfl, rfl, .inl ⟨by simp, hr, ?_⟩⟩
  rw [List.drop_zero]
  have hext : Ext [] PS0 (PS.set p (.arr (ver + 1) s (R ++ N) true)) := h.2.2.since (Ext.set _ p _) (by intro n hn; simp at hn; subst hn; exact .inr hp)
  refine k _ _ ⟨.inr ⟨hne, p, ver + 1, by simp, hp, getP_set_eq _ hg⟩, hall, hext⟩ ⟨?_, hy.2.1, hext⟩ ?_ (fun q _ hn => getP_set_ne _ (hn _ _ _ _ _ rfl).symm)
  ·rcases hy.1 with h1 | ⟨h1, q, vq, rfl, h3, h4⟩
   ·exact .inl h1
   ·exact .inr ⟨h1, q, vq, rfl, h3, (getP_set_ne _ (ha _ _ _ _ _ _ _ _ _ _ rfl rfl)).trans h4⟩
  ·intro p' v i l c q v' i' l' c' h1 h2
   injection h1 with h1 _ _ _ _
   subst h1
   exact ha _ _ _ _ _ _ _ _ _ _ rfl h2
theorem Bld.done {P : Program} {f : FuncId} {args : List HV} (hs : ∀ l ∈ R, ∀ y ∈ l, Scoped PS.length y) (h : HCall P f args PS fun r PS' => Bld PS PS' s r R) : HCall P f args PS fun r PS' => r = .imm (decide (R = [])) R ∧ PS' = PS := by
 refine HCall.data (scoped_imm.2 hs) ?_
 by_cases hR : R = []
 ·refine h.mono ?_
  rintro r PS' ⟨h1, h2, h3⟩
  rcases h1 with ⟨_, rfl⟩ | ⟨hn, _⟩
  ·exact ⟨by simp [hR], h3⟩
  ·exact absurd hR hn
 ·refine HCall.frz (h.mono ?_)
  rintro r PS' ⟨h1, h2, h3⟩
  rcases h1 with ⟨hn, _⟩ | ⟨_, p, ver, rfl, hp, hg⟩
  ·exact absurd hn hR
  ·refine ⟨_, _, _, _, _, _, PS'.set p .dead, hg, .sl 0 _ none (by omega), FrzPS.only (getP_lt hg), by simp [hR], h3.since (Ext.set _ p _) ?_⟩
   intro n hn; simp at hn; subst hn; exact .inr hp
end
theorem HCall.copy {P : Program} {f : FuncId} {args : List HV} {PS : PL} {sz : Nat} {E : List (List HV)} (hs : ∀ l ∈ E, ∀ y ∈ l, Scoped PS.length y)
  (h : HCall P f args PS fun r PS' => r = .sl PS.length 0 0 E.length none ∧ PS' = PS ++ [.arr 0 sz E true]) : HCall P f args PS fun r PS' => r = .imm false E ∧ PS' = PS := by
 refine HCall.data (scoped_imm.2 hs) (HCall.frz (h.mono ?_))
 rintro r PS' ⟨rfl, rfl⟩
 refine ⟨PS.length, 0, sz, E, true, _, _, getP_last _ _, .sl 0 _ none (by omega), FrzPS.last0, by simp, Ext.app _ _⟩
theorem HCall.frzOr {P : Program} {f : FuncId} {args : List HV} {PS : PL} {K : HV → PL → Prop} (h : HCall P f args PS fun r PS' => K r PS' ∨ ∃ n ver sz E opn r' PS2, getP PS' n = .arr ver sz E opn ∧ FrzV n ver E r r' ∧ FrzPS n ver E PS' PS2 ∧ K r' PS2) : HCall P f args PS K := by
 intro F e D w vs hr hf
 refine (h F e D w vs hr hf).mono ?_
 rintro en w' ⟨v, x, PS', e', D', rfl, h1, hr', ht, hv⟩
 rcases h1 with hk | ⟨n, ver, sz, E, opn, r', PS2, hq, hx, hc, hk⟩
 ·exact ⟨v, x, PS', e', D', rfl, hk, hr', ht, hv⟩
 ·obtain ⟨D2, h1, h2, h3⟩ := hr'.frz hq hc
  exact ⟨v, r', PS2, e', D2, rfl, hk, h1, ht.trans h2, h3 x r' v hx hv⟩
def SlE (PS : PL) (s : Nat) (x : HV) (own : List Nat) (R : List (List HV)) : Prop :=
 ((R = [] ∧ x = .imm true [] ∧ own = []) ∨ (R ≠ [] ∧ ∃ p ver, x = .sl p ver 0 R.length none ∧ getP PS p = .arr ver s R true ∧ own = [p])) ∧ ∀ r ∈ R, r.length = s
section
variable {PS PS' : PL} {s : Nat} {x : HV} {own : List Nat} {R : List (List HV)}
theorem SlE.nil (PS : PL) (s : Nat) : SlE PS s (.imm true []) [] [] := ⟨.inl ⟨rfl, rfl, rfl⟩, by simp⟩
theorem SlE.slO (h : SlE PS s x own R) : SlO PS s x own R := by
 refine ⟨?_, h.2⟩
 rcases h.1 with ⟨rfl, rfl, rfl⟩ | ⟨hR, p, ver, rfl, hg, rfl⟩
 ·exact .inl ⟨rfl, rfl, rfl⟩
 ·exact .inr ⟨p, ver, [], [], rfl, by simpa using hg, by simpa using hR, rfl⟩
theorem SlE.keep (h : SlE PS s x own R) (hk : ∀ n ∈ own, getP PS' n = getP PS n) : SlE PS' s x own R := by
 refine ⟨?_, h.2⟩
 rcases h.1 with h | ⟨hR, p, ver, rfl, hg, rfl⟩
 ·exact .inl h
 ·exact .inr ⟨hR, p, ver, rfl, (hk p (by simp)).trans hg, rfl⟩
theorem SlE.app {b : Nat} {N : List (List HV)} {L : HV → PL → Prop} (h : SlE PS s x own R) (hN : ∀ r ∈ N, r.length = s) (h0 : N ≠ []) (hr : hroom (R.length + N.length) b)
  (k : ∀ x' PS' own', SlE PS' s x' own' (R ++ N) → Upd own PS PS' own' → HV.one x' = true → L x' PS') : happ2 PS s b x N L := by
 have hall : ∀ r ∈ R ++ N, r.length = s := by intro r hr; rcases List.mem_append.1 hr with hr | hr; exact h.2 r hr; exact hN r hr
 have hne : R ++ N ≠ [] := by simp [h0]
 rcases h.1 with ⟨rfl, rfl, rfl⟩ | ⟨hR, p, ver, rfl, hg, rfl⟩
 ·rw [happ2_imm]
  exact ⟨rfl, .inl rfl, by simp, by simpa using hr, k _ _ [PS.length] ⟨.inr ⟨hne, PS.length, 0, by simp, (getP_last _ _).trans (by simp), rfl⟩, hall⟩ ⟨Ext.app _ _, fun m hm => .inr (by simp at hm; omega)⟩ rfl⟩
 ·rw [happ2_open, hg, harr_arr]
  refine ⟨rfl, rfl, .inl ⟨by simp, hr, ?_⟩⟩
  rw [List.drop_zero]
  exact k _ _ [p] ⟨.inr ⟨hne, p, ver + 1, by simp, getP_set_eq _ hg, rfl⟩, hall⟩ ⟨Ext.set PS p _, fun m hm => .inl hm⟩ rfl
end
theorem getP_set_self {PS : PL} {n : Nat} (q : Piece) (h : n < PS.length) : getP (PS.set n q) n = q := by simp [getP, List.getD, h]
theorem Upd.set {own own' : List Nat} {PS PS1 : PL} (h : Upd own PS PS1 own') {q : Nat} (Q : Piece) (hq : q ∈ own ∨ PS.length ≤ q) : Upd own PS (PS1.set q Q) own' := ⟨h.1.since (Ext.set PS1 q Q) (by intro m hm; simp at hm; subst hm; exact hq), h.2⟩
theorem Upd.more {own own' : List Nat} {PS PS1 : PL} (h : Upd own PS PS1 own') (l : PL) : Upd own PS (PS1 ++ l) own' := ⟨h.1.since (Ext.app PS1 l) (by simp), h.2⟩
end Go.Ow
