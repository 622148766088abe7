/-
Entries put into a list that rises: it rises still.
Slices that an object owns, or that are only read, by what they hold: lengths, elements, appends.
Which pieces are whose: by colours.
The document's leaf: Find, Put; the law's entries and leaf by numbers.
The law's entries and leaf by numbers.
No conditions.
-/
import Derived.Test.YtpcnblbjidiapaaGreatQHm2
import Derived.Test.YtpcnblbjidiapaaGreatQEngZ
import Derived.Test.YtpcnblbjidiapaaGreatQHm1
import Derived.Test.YtpcnblbjidiapaaGreatQHm3
set_option linter.unusedSectionVars false
set_option linter.unusedSimpArgs false
set_option linter.unusedVariables false
namespace Go.Mo
open Go Go.Eng
variable [Toks]
theorem cmpB_self : ∀ a : Bs, cmpB a a = 0
  | [] => rfl
  | x :: a => by
    show Lib.compareBytes (x :: a) (x :: a) = 0
    rw [Lib.compareBytes, if_neg (UInt8.lt_irrefl x), if_neg (UInt8.lt_irrefl x)]
    exact cmpB_self a
theorem cmpB_eq : ∀ {a b : Bs}, cmpB a b = 0 → a = b
  | [], [], _ => rfl
  | [], _ :: _, h => by simp [cmpB, Lib.compareBytes] at h
  | _ :: _, [], h => by simp [cmpB, Lib.compareBytes] at h
  | x :: a, y :: b, h => by
    have h : Lib.compareBytes (x :: a) (y :: b) = 0 := h
    rw [Lib.compareBytes] at h
    split at h
    · cases h
    · split at h
      · cases h
      · rename_i h1 h2
        have : x = y := UInt8.toNat_inj.1 (by rw [UInt8.lt_iff_toNat_lt] at h1 h2; omega)
        rw [this, cmpB_eq h]
theorem cmpB_lt_cons {x y : UInt8} {a b : Bs} : cmpB (x :: a) (y :: b) < 0 ↔ x.toNat < y.toNat ∨ x = y ∧ cmpB a b < 0 := by
  show Lib.compareBytes (x :: a) (y :: b) < 0 ↔ _
  rw [Lib.compareBytes]
  simp only [UInt8.lt_iff_toNat_lt]
  split
  · rename_i h; exact ⟨fun _ => .inl h, fun _ => by omega⟩
  · split
    · rename_i h1 h2
      refine ⟨fun h => by omega, fun h => ?_⟩
      rcases h with h | ⟨rfl, _⟩ <;> omega
    · rename_i h1 h2
      have : x = y := UInt8.toNat_inj.1 (by omega)
      exact ⟨fun h => .inr ⟨this, h⟩, fun h => by rcases h with h | h; omega; exact h.2⟩
theorem cmpB_trans : ∀ {a b c : Bs}, cmpB a b < 0 → cmpB b c < 0 → cmpB a c < 0
  | [], [], _, h, _ => by simp [cmpB, Lib.compareBytes] at h
  | _ :: _, [], _, h, _ => by simp [cmpB, Lib.compareBytes] at h
  | _, _ :: _, [], _, h => by simp [cmpB, Lib.compareBytes] at h
  | [], _ :: _, _ :: _, _, _ => by simp [cmpB, Lib.compareBytes]
  | x :: a, y :: b, z :: c, h, k => by
    rw [cmpB_lt_cons] at *
    rcases h with h | ⟨rfl, h⟩
    · rcases k with k | ⟨rfl, k⟩
      · exact .inl (by omega)
      · exact .inl h
    · rcases k with k | ⟨rfl, k⟩
      · exact .inl k
      · exact .inr ⟨rfl, cmpB_trans h k⟩
theorem cmpB_gt : ∀ {a b : Bs}, 0 < cmpB a b → cmpB b a < 0
  | [], [], h => by simp [cmpB, Lib.compareBytes] at h
  | _ :: _, [], _ => by simp [cmpB, Lib.compareBytes]
  | [], _ :: _, h => by simp [cmpB, Lib.compareBytes] at h
  | x :: a, y :: b, h => by
    rw [cmpB_lt_cons]
    have h : 0 < Lib.compareBytes (x :: a) (y :: b) := h
    rw [Lib.compareBytes] at h
    simp only [UInt8.lt_iff_toNat_lt] at h
    split at h
    · cases h
    · split at h
      · rename_i h1 h2; exact .inl h2
      · rename_i h1 h2
        exact .inr ⟨UInt8.toNat_inj.1 (by omega), cmpB_gt h⟩
/-- Entries with another one put; p: it stands already. -/
def putGo (k v : Bs) : Bool → List (Bs × Bs) → List (Bs × Bs)
  | p, [] => if p then [] else [(k, v)]
  | p, e :: l => (if 0 ≤ cmpB e.1 k ∧ p = false then [(k, v)] else []) ++ ((if cmpB e.1 k = 0 then [] else [e]) ++ putGo k v (p || decide (0 ≤ cmpB e.1 k)) l)
def rises (l : List (Bs × Bs)) : Prop := l.Pairwise fun a b => cmpB a.1 b.1 < 0
section
variable {k v : Bs} {l : List (Bs × Bs)} {p : Bool} {x : Bs × Bs}
theorem putGo_true : ∀ l : List (Bs × Bs), putGo k v true l = l.filter fun e => decide (cmpB e.1 k ≠ 0)
  | [] => rfl
  | e :: l => by
    rw [putGo, Bool.true_or, putGo_true l]
    by_cases h : cmpB e.1 k = 0 <;> simp [h]
theorem putGo_mem : ∀ (l : List (Bs × Bs)) (p : Bool), x ∈ putGo k v p l → x = (k, v) ∨ x ∈ l
  | [], p, h => by
    rw [putGo] at h
    split at h <;> simp at h
    exact .inl h
  | e :: l, p, h => by
    rw [putGo] at h
    simp only [List.mem_append] at h
    rcases h with h | h | h
    · split at h <;> simp at h
      exact .inl h
    · split at h <;> simp at h
      exact .inr (by simp [h])
    · rcases putGo_mem l _ h with h | h
      · exact .inl h
      · exact .inr (by simp [h])
theorem putGo_len : ∀ (l : List (Bs × Bs)) (p : Bool), (putGo k v p l).length ≤ l.length + if p then 0 else 1
  | [], p => by cases p <;> simp [putGo]
  | e :: l, p => by
    rw [putGo]
    have := putGo_len l (p || decide (0 ≤ cmpB e.1 k))
    cases p <;> by_cases h : 0 ≤ cmpB e.1 k <;> by_cases h2 : cmpB e.1 k = 0 <;> simp [h, h2] at this ⊢ <;> omega
theorem putGo_rises : ∀ l : List (Bs × Bs), rises l → rises (putGo k v false l)
  | [], _ => by simp [putGo, rises]
  | e :: l, h => by
    obtain ⟨h1, h2⟩ := List.pairwise_cons.1 h
    rw [putGo]
    by_cases hc : 0 ≤ cmpB e.1 k
    · rw [if_pos ⟨hc, rfl⟩, decide_eq_true hc, Bool.false_or, putGo_true]
      have h3 := h2.filter fun e => decide (cmpB e.1 k ≠ 0)
      by_cases h0 : cmpB e.1 k = 0
      · rw [if_pos h0, List.nil_append, List.cons_append, List.nil_append]
        refine List.pairwise_cons.2 ⟨fun y hy => ?_, h3⟩
        rw [← cmpB_eq h0]
        exact h1 y (List.mem_filter.1 hy).1
      · rw [if_neg h0, List.cons_append, List.nil_append, List.cons_append, List.nil_append]
        have hk : cmpB k e.1 < 0 := cmpB_gt (by omega)
        refine List.pairwise_cons.2 ⟨fun y hy => ?_, List.pairwise_cons.2 ⟨fun y hy => h1 y (List.mem_filter.1 hy).1, h3⟩⟩
        rcases List.mem_cons.1 hy with rfl | hy
        · exact hk
        · exact cmpB_trans hk (h1 y (List.mem_filter.1 hy).1)
    · rw [if_neg (fun hh => hc hh.1), if_neg (by omega), decide_eq_false hc, Bool.false_or, List.nil_append, List.cons_append, List.nil_append]
      refine List.pairwise_cons.2 ⟨fun y hy => ?_, putGo_rises l h2⟩
      rcases putGo_mem l _ hy with rfl | hy
      · show cmpB e.1 k < 0; omega
      · exact h1 y hy
theorem putGo_grows : ∀ l : List (Bs × Bs), rises l → l.length ≤ (putGo k v false l).length
  | [], _ => Nat.zero_le _
  | e :: l, h => by
    obtain ⟨h1, h2⟩ := List.pairwise_cons.1 h
    rw [putGo]
    by_cases hc : 0 ≤ cmpB e.1 k
    · rw [if_pos ⟨hc, rfl⟩, decide_eq_true hc, Bool.false_or, putGo_true, List.filter_eq_self.2 fun y hy => ?_]
      · by_cases h0 : cmpB e.1 k = 0 <;> simp [h0]
      · refine decide_eq_true fun h0 => ?_
        have := h1 y hy
        rw [cmpB_eq h0] at this
        omega
    · have := putGo_grows l h2
      rw [if_neg (fun hh => hc hh.1), if_neg (by omega), decide_eq_false hc, Bool.false_or]
      simp only [List.nil_append, List.cons_append, List.length_cons]
      omega
theorem rises_ok (h : rises l) : entsOk l := by
  intro i a b hi ha hb
  simp only [List.getElem?_map, Option.map_eq_some_iff] at ha hb
  obtain ⟨x, hx, rfl⟩ := ha
  obtain ⟨y, hy, rfl⟩ := hb
  obtain ⟨h1, rfl⟩ := List.getElem?_eq_some_iff.1 hx
  obtain ⟨h2, rfl⟩ := List.getElem?_eq_some_iff.1 hy
  exact List.pairwise_iff_getElem.1 h (i - 1) i h1 h2 (by omega)
end
end Go.Mo
namespace Go.Ow
open Go Go.Eng
variable [Toks]
theorem hst_one {x : HV} {C : List HV → Prop} (h : HV.one x = true) : hst x C = C [x] := by cases x <;> first | (cases h; done) | simp_all [hst]
/-- Where an element lies of a slice that is read: cells k of the row r. -/
def at_ (x : HV) (i k : Nat) (r : List HV) : HV :=
  match x with
  | .imm _ _ => .iptr r k
  | .sl n ver j _ _ => .ptr n ver (j + i) k
  | _ => .junk
/-- What a slice that is read shows: its rows. -/
def Sees (PS : PL) (s : Nat) (x : HV) (rows : List (List HV)) : Prop :=
  ((∃ t, x = .imm t rows) ∨ ∃ q ver pre sp o cp, x = .sl q ver pre.length rows.length cp ∧ getP PS q = .arr ver s (pre ++ (rows ++ sp)) o ∧ (o = false ∨ pre ++ (rows ++ sp) ≠ [])) ∧ ∀ r ∈ rows, r.length = s
section
variable {PS PS' : PL} {s : Nat} {x : HV} {rows : List (List HV)} {P : Program} {K : HV → Prop} {i : Nat} {r : List HV}
theorem Sees.imm (PS : PL) (t : Bool) {rows : List (List HV)} (h : ∀ r ∈ rows, r.length = s) : Sees PS s (.imm t rows) rows := ⟨.inl ⟨t, rfl⟩, h⟩
theorem Sees.pre (h : Sees PS s x rows) (hp : Pre PS PS') : Sees PS' s x rows := by
  refine ⟨?_, h.2⟩
  rcases h.1 with h | ⟨q, ver, pre, sp, o, cp, rfl, hg, ho⟩
  · exact .inl h
  · exact .inr ⟨q, ver, pre, sp, o, cp, rfl, hp.arr hg, ho⟩
theorem Sees.app (h : Sees PS s x rows) (l : PL) : Sees (PS ++ l) s x rows := h.pre (Ext.app PS l).pre
theorem Sees.len (h : Sees PS s x rows) (e : TypeId) : hlenU P PS x K (some (.slice e)) = (rows.length ≤ maxLen → K (.int .i64 rows.length)) := by
  rcases h.1 with ⟨t, rfl⟩ | ⟨q, ver, pre, sp, o, cp, rfl, hg, ho⟩
  · rfl
  · simp [hlenU, hver, hg]
theorem Sees.lenV (h : Sees PS s x rows) (e : TypeId) : hlenV P PS x K (some (.slice e)) = K (.int .i64 rows.length) := by
  rcases h.1 with ⟨t, rfl⟩ | ⟨q, ver, pre, sp, o, cp, rfl, hg, ho⟩
  · rfl
  · simp [hlenV, hver, hg]
theorem Sees.row {q ver : Nat} {pre sp : List (List HV)} {o : Bool} (hg : getP PS q = .arr ver s (pre ++ (rows ++ sp)) o) (hi : rows[i]? = some r) : (pre ++ (rows ++ sp))[pre.length + i]? = some r := by
  have hl := (List.getElem?_eq_some_iff.1 hi).1
  rw [List.getElem?_append_right (by omega), Nat.add_sub_cancel_left, List.getElem?_append_left hl, hi]
theorem Sees.live {q ver : Nat} {E : List (List HV)} {o : Bool} (hg : getP PS q = .arr ver s E o) (ho : o = false ∨ E ≠ []) : hlive (getP PS q) ver := by
  rw [hg]; exact ⟨rfl, ho⟩
theorem Sees.ix (h : Sees PS s x rows) (hi : rows[i]? = some r) (k : IntKind) (t : TypeId) (s' : Nat) : hixsl PS x (.int k (i : Int)) K (some (t, s')) = (s = s' ∧ K (at_ x i 0 r)) := by
  have hr := h.2 r (List.mem_of_getElem? hi)
  have hl := (List.getElem?_eq_some_iff.1 hi).1
  rcases h.1 with ⟨t, rfl⟩ | ⟨q, ver, pre, sp, o, cp, rfl, hg, ho⟩
  · simp [hixsl, hi, hr, at_]
  · have := Sees.row hg hi
    simp [hixsl, hrow, hg, this, at_, hr, hl]
theorem Sees.ix0 (h : Sees PS s x rows) (hi : rows[0]? = some r) (k : IntKind) (t : TypeId) (s' : Nat) : hixsl PS x (.int k 0) K (some (t, s')) = (s = s' ∧ K (at_ x 0 0 r)) := h.ix hi k t s'
theorem Sees.fld (h : Sees PS s x rows) (hi : rows[i]? = some r) (k off n : Nat) : hfield PS (at_ x i k r) K (some (off, n)) = K (at_ x i (k + off) r) := by
  rcases h.1 with ⟨t, rfl⟩ | ⟨q, ver, pre, sp, o, cp, rfl, hg, ho⟩
  · rfl
  · simp only [hfield, at_]
    exact propext ⟨fun h => h.2, fun h => ⟨Sees.live hg ho, h⟩⟩
theorem Sees.ld {C : List HV → Prop} (h : Sees PS s x rows) (hi : rows[i]? = some r) (k s' : Nat) : hcells PS s' C (at_ x i k r) = (k + s' ≤ r.length ∧ C ((r.drop k).take s')) := by
  rcases h.1 with ⟨t, rfl⟩ | ⟨q, ver, pre, sp, o, cp, rfl, hg, ho⟩
  · rfl
  · have := Sees.row hg hi
    simp [hcells, at_, hrow, hg, this]
/-- As a source of rows. -/
theorem Sees.src {C : List (List HV) → Prop} (h : Sees PS s x rows) : hsrc PS s x C = C rows := by
  rcases h.1 with ⟨t, rfl⟩ | ⟨q, ver, pre, sp, o, cp, rfl, hg, ho⟩
  · simp only [hsrc, hrows]
    exact propext ⟨fun h => h.2, fun hc => ⟨h.2, hc⟩⟩
  · have : ((pre ++ (rows ++ sp)).drop pre.length).take rows.length = rows := by rw [List.drop_left' rfl, List.take_left' rfl]
    have h2 : pre.length + rows.length ≤ (pre ++ (rows ++ sp)).length := by simp
    simp only [hsrc, hrows_sl, hg, harr_arr, this]
    exact propext ⟨fun h => h.2.2.2, fun h => ⟨trivial, .inr trivial, h2, h⟩⟩
theorem Sees.appY {z : List HV} {b : Nat} {y : HV} {A B : Prop} {L : HV → PL → Prop} (h : Sees PS s x rows) : happY PS y A B L s b z x = (A ∧ happ2 PS s b y rows L) := by
  have h1 := h.src (C := fun N => happ2 PS s b y N L)
  rcases h.1 with ⟨t, rfl⟩ | ⟨q, ver, pre, sp, o, cp, rfl, hg, ho⟩
  · simp only [happY_imm, h1]
  · simp only [happY_sl, h1]
end
/-- A slice that an object owns: nothing, or a part of an open row of its own. -/
def SlO (PS : PL) (s : Nat) (x : HV) (own : List Nat) (rows : List (List HV)) : Prop :=
  ((x = .imm true [] ∧ rows = [] ∧ own = []) ∨ ∃ q ver pre sp, x = .sl q ver pre.length rows.length none ∧ getP PS q = .arr ver s (pre ++ (rows ++ sp)) true ∧ pre ++ (rows ++ sp) ≠ [] ∧ own = [q]) ∧ ∀ r ∈ rows, r.length = s
/-- An object has changed, and nothing else. -/
def Upd (own : List Nat) (PS PS' : PL) (own' : List Nat) : Prop := Ext own PS PS' ∧ ∀ m ∈ own', m ∈ own ∨ PS.length ≤ m
theorem Upd.refl (own : List Nat) (PS : PL) : Upd own PS PS own := ⟨(Ext.refl PS).mono (by simp), fun m hm => .inl hm⟩
theorem Upd.trans {own own' own'' : List Nat} {PS PS' PS'' : PL} (h : Upd own PS PS' own') (k : Upd own' PS' PS'' own'') : Upd own PS PS'' own'' :=
  ⟨h.1.since k.1 h.2, fun m hm => by
    rcases k.2 m hm with hm | hm
    · exact h.2 m hm
    · exact .inr (Nat.le_trans h.1.1 hm)⟩
/-- What others have stays as it was. -/
theorem Upd.keep {own own' other : List Nat} {PS PS' : PL} (h : Upd own PS PS' own') (hl : ∀ m ∈ other, m < PS.length) (hd : ∀ m ∈ other, m ∉ own) : ∀ m ∈ other, getP PS' m = getP PS m := fun m hm => h.1.2 m (hl m hm) (hd m hm)
theorem Upd.apart {own own' other : List Nat} {PS PS' : PL} (h : Upd own PS PS' own') (hl : ∀ m ∈ other, m < PS.length) (hd : ∀ m ∈ other, m ∉ own) : ∀ m ∈ other, m ∉ own' := fun m hm hm' => by
  rcases h.2 m hm' with h' | h'
  · exact hd m hm h'
  · exact absurd (hl m hm) (by omega)
section
variable {PS PS' : PL} {s : Nat} {x : HV} {own : List Nat} {rows : List (List HV)}
theorem SlO.sees (h : SlO PS s x own rows) : Sees PS s x rows := by
  refine ⟨?_, h.2⟩
  rcases h.1 with ⟨rfl, rfl, _⟩ | ⟨q, ver, pre, sp, rfl, h, hne, _⟩
  · exact .inl ⟨true, rfl⟩
  · exact .inr ⟨q, ver, pre, sp, true, none, rfl, h, .inr hne⟩
theorem SlO.nil (PS : PL) (s : Nat) : SlO PS s (.imm true []) [] [] := ⟨.inl ⟨rfl, rfl, rfl⟩, by simp⟩
theorem SlO.lt (h : SlO PS s x own rows) : ∀ n ∈ own, n < PS.length := by
  rcases h.1 with ⟨_, _, rfl⟩ | ⟨q, ver, pre, sp, _, hg, _, rfl⟩
  · simp
  · intro n hn; simp at hn; subst hn; exact getP_lt hg
theorem SlO.keep (h : SlO PS s x own rows) (hk : ∀ n ∈ own, getP PS' n = getP PS n) : SlO PS' s x own rows := by
  refine ⟨?_, h.2⟩
  rcases h.1 with ⟨rfl, rfl, rfl⟩ | ⟨q, ver, pre, sp, rfl, hg, hne, rfl⟩
  · exact .inl ⟨rfl, rfl, rfl⟩
  · exact .inr ⟨q, ver, pre, sp, rfl, (hk q (by simp)).trans hg, hne, rfl⟩
theorem SlO.pre (h : SlO PS s x own rows) (hp : Pre PS PS') : SlO PS' s x own rows := by
  refine ⟨?_, h.2⟩
  rcases h.1 with ⟨rfl, rfl, rfl⟩ | ⟨q, ver, pre, sp, rfl, hg, hne, rfl⟩
  · exact .inl ⟨rfl, rfl, rfl⟩
  · exact .inr ⟨q, ver, pre, sp, rfl, hp.arr hg, hne, rfl⟩
theorem SlO.one (h : SlO PS s x own rows) : HV.one x = true := by
  rcases h.1 with ⟨rfl, _⟩ | ⟨q, ver, pre, sp, rfl, _⟩ <;> rfl
/-- Rows are appended. -/
theorem SlO.app {b : Nat} {N : List (List HV)} {L : HV → PL → Prop} (h : SlO PS s x own rows) (hN : ∀ r ∈ N, r.length = s) (h1 : N.length = 1) (hr : hroom (rows.length + N.length) b)
    (k : ∀ x' PS' own', SlO PS' s x' own' (rows ++ N) → Upd own PS PS' own' → HV.one x' = true → L x' PS') : happ2 PS s b x N L := by
  have hall : ∀ r ∈ rows ++ N, r.length = s := by intro r hr; rcases List.mem_append.1 hr with hr | hr; exact h.2 r hr; exact hN r hr
  have h0 : N ≠ [] := by intro e; rw [e] at h1; cases h1
  rcases h.1 with ⟨rfl, rfl, rfl⟩ | ⟨q, ver, pre, sp, rfl, hg, hne, rfl⟩
  · rw [happ2_imm]
    refine ⟨rfl, .inl rfl, by simp, by simpa using hr, k _ _ [PS.length] ⟨.inr ⟨PS.length, 0, [], [], by simp, (getP_last _ _).trans (by simp), by simpa using h0, rfl⟩, hall⟩ ⟨(Ext.app PS _), fun m hm => .inr (by simp at hm; omega)⟩ rfl⟩
  · rw [happ2_open, hg, harr_arr]
    refine ⟨rfl, rfl, ?_⟩
    by_cases hs : sp = []
    · subst hs
      refine .inl ⟨by simp, hr, ?_⟩
      have e : (pre ++ (rows ++ [])).drop pre.length ++ N = rows ++ N := by rw [List.append_nil, List.drop_left' rfl]
      rw [e]
      refine k _ _ [q] ⟨.inr ⟨q, ver + 1, [], [], by simp, (getP_set_eq _ hg).trans (by simp), by simpa using fun _ => h0, rfl⟩, hall⟩ ⟨Ext.set PS q _, fun m hm => .inl hm⟩ rfl
    · by_cases hle : N.length ≤ sp.length
      · have hpos : 0 < sp.length := List.length_pos_iff.2 hs
        refine .inr ⟨by simp; omega, by simp; omega, ?_⟩
        have e : hsplice (pre.length + rows.length) N (pre ++ (rows ++ sp)) = pre ++ ((rows ++ N) ++ sp.drop N.length) := by
          have e1 : pre ++ (rows ++ sp) = (pre ++ rows) ++ sp := by simp
          have e2 : pre.length + rows.length = (pre ++ rows).length := by simp
          rw [e1, e2]
          unfold hsplice
          rw [List.take_left' rfl, ← List.drop_drop, List.drop_left' rfl]
          simp
        rw [e]
        have e3 : rows.length + N.length = (rows ++ N).length := by simp
        rw [e3]
        exact k _ _ [q] ⟨.inr ⟨q, ver, pre, sp.drop N.length, rfl, getP_set_eq _ hg, by simp [h0], rfl⟩, hall⟩ ⟨Ext.set PS q _, fun m hm => .inl hm⟩ rfl
      · exact absurd h1 (by have := List.length_pos_iff.2 hs; omega)
end
/-- A list that is being built, in a piece of its own, made since. -/
def Bld (PS0 PS : PL) (s : Nat) (x : HV) (R : List (List HV)) : Prop :=
  ((R = [] ∧ x = .imm true []) ∨ (R ≠ [] ∧ ∃ p ver, x = .sl p ver 0 R.length none ∧ PS0.length ≤ p ∧ getP PS p = .arr ver s R true)) ∧ (∀ r ∈ R, r.length = s) ∧ Ext [] PS0 PS
section
variable {PS0 PS PS' : PL} {s : Nat} {x : HV} {R : List (List HV)}
theorem Bld.nil (s : Nat) (h : Ext [] PS0 PS) : Bld PS0 PS s (.imm true []) [] := ⟨.inl ⟨rfl, rfl⟩, by simp, h⟩
theorem Bld.ext (h : Bld PS0 PS s x R) : Ext [] PS0 PS := h.2.2
theorem Bld.more (h : Bld PS0 PS s x R) (l : PL) : Bld PS0 (PS ++ l) s x R := by
  refine ⟨?_, h.2.1, h.2.2.trans (Ext.app _ _)⟩
  rcases h.1 with h | ⟨h1, p, ver, h2, h3, h4⟩
  · exact .inl h
  · exact .inr ⟨h1, p, ver, h2, h3, getP_app l h4⟩
theorem Bld.one (h : Bld PS0 PS s x R) : HV.one x = true := by
  rcases h.1 with ⟨_, rfl⟩ | ⟨_, p, ver, rfl, _⟩ <;> rfl
theorem Bld.app {b : Nat} {N : List (List HV)} {L : HV → PL → Prop} (h : Bld PS0 PS s x R) (hN : ∀ r ∈ N, r.length = s) (h0 : N ≠ []) (hr : hroom (R.length + N.length) b)
    (k : ∀ x' PS', Bld PS0 PS' s x' (R ++ N) → L x' PS') : happ2 PS s b x N L := by
  have hall : ∀ r ∈ R ++ N, r.length = s := by intro r hr; rcases List.mem_append.1 hr with hr | hr; exact h.2.1 r hr; exact hN r hr
  have hne : R ++ N ≠ [] := by simp [h0]
  rcases h.1 with ⟨rfl, rfl⟩ | ⟨hR, p, ver, rfl, hp, hg⟩
  · rw [happ2_imm]
    exact ⟨rfl, .inl rfl, by simp, by simpa using hr, k _ _ ⟨.inr ⟨hne, PS.length, 0, by simp, h.2.2.1, (getP_last _ _).trans (by simp)⟩, hall, h.2.2.trans (Ext.app _ _)⟩⟩
  · rw [happ2_open, hg, harr_arr]
    refine ⟨rfl, rfl, .inl ⟨by simp, hr, ?_⟩⟩
    rw [List.drop_zero]
    refine k _ _ ⟨.inr ⟨hne, p, ver + 1, by simp, hp, getP_set_eq _ hg⟩, hall, h.2.2.since (Ext.set _ p _) ?_⟩
    intro n hn; simp at hn; subst hn; exact .inr hp
theorem Bld.sees (h : Bld PS0 PS s x R) : Sees PS s x R := by
  refine ⟨?_, h.2.1⟩
  rcases h.1 with ⟨rfl, rfl⟩ | ⟨hR, p, ver, rfl, hp, hg⟩
  · exact .inl ⟨true, rfl⟩
  · exact .inr ⟨p, ver, [], [], true, none, rfl, by simpa using hg, .inr (by simpa using hR)⟩
/-- Slices of unlike pieces. -/
def Apart (x y : HV) : Prop := ∀ p v i l c p' v' i' l' c', x = .sl p v i l c → y = .sl p' v' i' l' c' → p ≠ p'
theorem Apart.symm {x y : HV} (h : Apart x y) : Apart y x := fun p v i l c p' v' i' l' c' h1 h2 e => h p' v' i' l' c' p v i l c h2 h1 e.symm
theorem Apart.imm {t : Bool} {E : List (List HV)} (y : HV) : Apart (.imm t E) y := fun p v i l c p' v' i' l' c' h1 _ => by cases h1
/-- A piece that a slice is not of. -/
def NotIn (q : Nat) (x : HV) : Prop := ∀ p v i l c, x = .sl p v i l c → q ≠ p
theorem Bld.notIn {q : Nat} (h : Bld PS0 PS s x R) (hq : PS.length ≤ q) : NotIn q x := by
  intro p v i l c hx
  rcases h.1 with ⟨_, rfl⟩ | ⟨_, p', v', rfl, _, hg⟩
  · cases hx
  · injection hx with h1 _ _ _ _
    have := getP_lt hg; omega
/-- .. and another list stays as it was. -/
theorem Bld.app2 {b : Nat} {N : List (List HV)} {L : HV → PL → Prop} {s' : Nat} {y : HV} {R' : List (List HV)} (h : Bld PS0 PS s x R) (hy : Bld PS0 PS s' y R') (ha : Apart x y) (hN : ∀ r ∈ N, r.length = s) (h0 : N ≠ []) (hr : hroom (R.length + N.length) b)
    (k : ∀ x' PS', Bld PS0 PS' s x' (R ++ N) → Bld PS0 PS' s' y R' → Apart x' y → (∀ q, q < PS.length → NotIn q x → getP PS' q = getP PS q) → L x' PS') : happ2 PS s b x N L := by
  have hall : ∀ r ∈ R ++ N, r.length = s := by intro r hr; rcases List.mem_append.1 hr with hr | hr; exact h.2.1 r hr; exact hN r hr
  have hne : R ++ N ≠ [] := by simp [h0]
  rcases h.1 with ⟨rfl, rfl⟩ | ⟨hR, p, ver, rfl, hp, hg⟩
  · rw [happ2_imm]
    refine ⟨rfl, .inl rfl, by simp, by simpa using hr, k _ _ ⟨.inr ⟨hne, PS.length, 0, by simp, h.2.2.1, (getP_last _ _).trans (by simp)⟩, hall, h.2.2.trans (Ext.app _ _)⟩ (hy.more _) ?_ (fun q hq _ => getP_app' _ hq)⟩
    intro p v i l c p' v' i' l' c' h1 h2 e
    injection h1 with h1 _ _ _ _
    rcases hy.1 with ⟨_, rfl⟩ | ⟨_, q, vq, rfl, _, hq⟩
    · cases h2
    · injection h2 with h2 _ _ _ _
      have := getP_lt hq; omega
  · rw [happ2_open, hg, harr_arr]
    refine ⟨rfl, rfl, .inl ⟨by simp, hr, ?_⟩⟩
    rw [List.drop_zero]
    have hext : Ext [] PS0 (PS.set p (.arr (ver + 1) s (R ++ N) true)) := h.2.2.since (Ext.set _ p _) (by intro n hn; simp at hn; subst hn; exact .inr hp)
    refine k _ _ ⟨.inr ⟨hne, p, ver + 1, by simp, hp, getP_set_eq _ hg⟩, hall, hext⟩ ⟨?_, hy.2.1, hext⟩ ?_ (fun q _ hn => getP_set_ne _ (hn _ _ _ _ _ rfl).symm)
    · rcases hy.1 with h1 | ⟨h1, q, vq, rfl, h3, h4⟩
      · exact .inl h1
      · exact .inr ⟨h1, q, vq, rfl, h3, (getP_set_ne _ (ha _ _ _ _ _ _ _ _ _ _ rfl rfl)).trans h4⟩
    · intro p' v i l c q v' i' l' c' h1 h2
      injection h1 with h1 _ _ _ _
      subst h1
      exact ha _ _ _ _ _ _ _ _ _ _ rfl h2
theorem Bld.seesSet {q : Nat} (h : Bld PS0 PS s x R) (hq : q < PS0.length) (Q : Piece) : Sees (PS.set q Q) s x R := by
  refine ⟨?_, h.2.1⟩
  rcases h.1 with ⟨rfl, rfl⟩ | ⟨hR, p, ver, rfl, hp, hg⟩
  · exact .inl ⟨true, rfl⟩
  · exact .inr ⟨p, ver, [], [], true, none, rfl, by rw [getP_set_ne _ (by omega)]; simpa using hg, .inr (by simpa using hR)⟩
/-- The list, as data. -/
theorem Bld.done {P : Program} {f : FuncId} {args : List HV} (hs : ∀ l ∈ R, ∀ y ∈ l, Scoped PS.length y) (h : HCall P f args PS fun r PS' => Bld PS PS' s r R) : HCall P f args PS fun r PS' => r = .imm (decide (R = [])) R ∧ PS' = PS := by
  refine HCall.data (scoped_imm.2 hs) ?_
  by_cases hR : R = []
  · refine h.mono ?_
    rintro r PS' ⟨h1, h2, h3⟩
    rcases h1 with ⟨_, rfl⟩ | ⟨hn, _⟩
    · exact ⟨by simp [hR], h3⟩
    · exact absurd hR hn
  · refine HCall.frz (h.mono ?_)
    rintro r PS' ⟨h1, h2, h3⟩
    rcases h1 with ⟨hn, _⟩ | ⟨_, p, ver, rfl, hp, hg⟩
    · exact absurd hn hR
    · refine ⟨_, _, _, _, _, _, PS'.set p .dead, hg, .sl 0 _ none (by omega), FrzPS.only (getP_lt hg), by simp [hR], h3.since (Ext.set _ p _) ?_⟩
      intro n hn; simp at hn; subst hn; exact .inr hp
end
/-- A copy, as data. -/
theorem HCall.copy {P : Program} {f : FuncId} {args : List HV} {PS : PL} {sz : Nat} {E : List (List HV)} (hs : ∀ l ∈ E, ∀ y ∈ l, Scoped PS.length y)
    (h : HCall P f args PS fun r PS' => r = .sl PS.length 0 0 E.length none ∧ PS' = PS ++ [.arr 0 sz E true]) : HCall P f args PS fun r PS' => r = .imm false E ∧ PS' = PS := by
  refine HCall.data (scoped_imm.2 hs) (HCall.frz (h.mono ?_))
  rintro r PS' ⟨rfl, rfl⟩
  refine ⟨PS.length, 0, sz, E, true, _, _, getP_last _ _, .sl 0 _ none (by omega), FrzPS.last0, by simp, Ext.app _ _⟩
/-- A row is frozen, where there is one. -/
theorem HCall.frzOr {P : Program} {f : FuncId} {args : List HV} {PS : PL} {K : HV → PL → Prop} (h : HCall P f args PS fun r PS' => K r PS' ∨ ∃ n ver sz E opn r' PS2, getP PS' n = .arr ver sz E opn ∧ FrzV n ver E r r' ∧ FrzPS n ver E PS' PS2 ∧ K r' PS2) : HCall P f args PS K := by
  intro F e D w vs hr hf
  refine (h F e D w vs hr hf).mono ?_
  rintro en w' ⟨v, x, PS', e', D', rfl, h1, hr', ht, hv⟩
  rcases h1 with hk | ⟨n, ver, sz, E, opn, r', PS2, hq, hx, hc, hk⟩
  · exact ⟨v, x, PS', e', D', rfl, hk, hr', ht, hv⟩
  · obtain ⟨D2, h1, h2, h3⟩ := hr'.frz hq hc
    exact ⟨v, r', PS2, e', D2, rfl, hk, h1, ht.trans h2, h3 x r' v hx hv⟩
/-- A slice that an object owns, the whole of its row. -/
def SlE (PS : PL) (s : Nat) (x : HV) (own : List Nat) (R : List (List HV)) : Prop :=
  ((R = [] ∧ x = .imm true [] ∧ own = []) ∨ (R ≠ [] ∧ ∃ p ver, x = .sl p ver 0 R.length none ∧ getP PS p = .arr ver s R true ∧ own = [p])) ∧ ∀ r ∈ R, r.length = s
section
variable {PS PS' : PL} {s : Nat} {x : HV} {own : List Nat} {R : List (List HV)}
theorem SlE.nil (PS : PL) (s : Nat) : SlE PS s (.imm true []) [] [] := ⟨.inl ⟨rfl, rfl, rfl⟩, by simp⟩
theorem SlE.slO (h : SlE PS s x own R) : SlO PS s x own R := by
  refine ⟨?_, h.2⟩
  rcases h.1 with ⟨rfl, rfl, rfl⟩ | ⟨hR, p, ver, rfl, hg, rfl⟩
  · exact .inl ⟨rfl, rfl, rfl⟩
  · exact .inr ⟨p, ver, [], [], rfl, by simpa using hg, by simpa using hR, rfl⟩
theorem SlE.keep (h : SlE PS s x own R) (hk : ∀ n ∈ own, getP PS' n = getP PS n) : SlE PS' s x own R := by
  refine ⟨?_, h.2⟩
  rcases h.1 with h | ⟨hR, p, ver, rfl, hg, rfl⟩
  · exact .inl h
  · exact .inr ⟨hR, p, ver, rfl, (hk p (by simp)).trans hg, rfl⟩
theorem SlE.app {b : Nat} {N : List (List HV)} {L : HV → PL → Prop} (h : SlE PS s x own R) (hN : ∀ r ∈ N, r.length = s) (h0 : N ≠ []) (hr : hroom (R.length + N.length) b)
    (k : ∀ x' PS' own', SlE PS' s x' own' (R ++ N) → Upd own PS PS' own' → HV.one x' = true → L x' PS') : happ2 PS s b x N L := by
  have hall : ∀ r ∈ R ++ N, r.length = s := by intro r hr; rcases List.mem_append.1 hr with hr | hr; exact h.2 r hr; exact hN r hr
  have hne : R ++ N ≠ [] := by simp [h0]
  rcases h.1 with ⟨rfl, rfl, rfl⟩ | ⟨hR, p, ver, rfl, hg, rfl⟩
  · rw [happ2_imm]
    exact ⟨rfl, .inl rfl, by simp, by simpa using hr, k _ _ [PS.length] ⟨.inr ⟨hne, PS.length, 0, by simp, (getP_last _ _).trans (by simp), rfl⟩, hall⟩ ⟨Ext.app _ _, fun m hm => .inr (by simp at hm; omega)⟩ rfl⟩
  · rw [happ2_open, hg, harr_arr]
    refine ⟨rfl, rfl, .inl ⟨by simp, hr, ?_⟩⟩
    rw [List.drop_zero]
    exact k _ _ [p] ⟨.inr ⟨hne, p, ver + 1, by simp, getP_set_eq _ hg, rfl⟩, hall⟩ ⟨Ext.set PS p _, fun m hm => .inl hm⟩ rfl
end
theorem getP_set_self {PS : PL} {n : Nat} (q : Piece) (h : n < PS.length) : getP (PS.set n q) n = q := by simp [getP, List.getD, h]
theorem Upd.set {own own' : List Nat} {PS PS1 : PL} (h : Upd own PS PS1 own') {q : Nat} (Q : Piece) (hq : q ∈ own ∨ PS.length ≤ q) : Upd own PS (PS1.set q Q) own' := ⟨h.1.since (Ext.set PS1 q Q) (by intro m hm; simp at hm; subst hm; exact hq), h.2⟩
theorem Upd.more {own own' : List Nat} {PS PS1 : PL} (h : Upd own PS PS1 own') (l : PL) : Upd own PS (PS1 ++ l) own' := ⟨h.1.since (Ext.app PS1 l) (by simp), h.2⟩
end Go.Ow
namespace Go.Proofs.YtpcnblbjidiapaaGreat
open Go Go.Eng Go.Ow
open Go.Mo
variable [Toks]
set_option maxRecDepth 20000
attribute [local irreducible] hvc hops hop hplan hdrawP hval1 hopD HLoop
theorem rfind (t : Bool) (l : List (Bs × Bs)) (k : Bs) (ok : ∀ e ∈ l, okK e.1 ∧ okV e.2) : ∃ w b, okV w ∧ Pure Tryz.prog 104 [.imm t (l.map entL), .agg (keyL k)] (.tup [.agg (valL w), .bool b]) := by
  refine ⟨((l.find? fun e => decide (e.1 = k)).map Prod.snd).getD [], (l.find? fun e => decide (e.1 = k)).isSome, ?_, Pure.of_ext ?_ fun PS => ?_⟩
  · cases hf : l.find? fun e => decide (e.1 = k) with
    | none => simp [okV]
    | some e => exact (ok e (List.mem_of_find?_eq_some hf)).2
  · exact tup2_scoped (scoped_agg.2 (sc_val _)) (.bool _)
  refine enter_104 (by unfold Tryz.f104; exact rfl) ?_
  simp only [go_sem, seval, -List.reduceReplicate]
  refine pend_intro (loop_rule (α := Nat) [false, false, false, false, false, true, false, true, true, true, true, true, true, true, true, true, true, true, true, true, true, true, true, true, true] (fun i => [(6, .int .i64 i)]) (fun i => l.length - i) (fun i PS' => (i ≤ l.length ∧ ∀ e ∈ l.take i, e.1 ≠ k) ∧ PS' = PS ++ [.arr 0 9 [keyL k] false, .arr 0 17 [.int .i64 0 :: List.replicate 16 (.int .u8 0)] false]) 0 ⟨⟨Nat.zero_le _, by simp⟩, rfl⟩ ?_ ?_)
  · simp only [go_sem, seval, -List.reduceReplicate, Int.natCast_zero]
  · rintro i _ ⟨⟨hi, hu⟩, rfl⟩
    by_cases hlt : i < l.length
    · have ha1 : l[i]? = some l[i] := by simp [hlt]
      have oi := ok _ (List.getElem_mem hlt)
      simp only [go_sem, seval, -List.reduceReplicate, hlt, List.getElem?_map, Option.map_some, ha1, List.length_map, entL, hcmp_key oi.1]
      intro hm
      have hmx : maxLen = 9223372036854775807 := rfl
      split
      · rename_i he
        have hf : l.find? (fun e => decide (e.1 = k)) = some l[i] := by
          have h1 : (l.take i).find? (fun e => decide (e.1 = k)) = none := List.find?_eq_none.2 fun e he2 => by simpa using hu e he2
          have h2 : l.find? (fun e => decide (e.1 = k)) = (l.take i ++ l.drop i).find? (fun e => decide (e.1 = k)) := by rw [List.take_append_drop]
          rw [h2, List.find?_append, h1, List.drop_eq_getElem_cons hlt, Option.none_or, List.find?_cons]
          simp only [decide_eq_true he]
        rw [hf]
        refine ⟨by omega, rfl, Ext.app _ _⟩
      · rename_i hne
        refine ⟨⟨by omega, by omega⟩, i + 1, by omega, ⟨by omega, fun e he => ?_⟩, rfl⟩
        rw [List.take_succ_eq_append_getElem hlt] at he
        rcases List.mem_append.1 he with he | he
        · exact hu e he
        · simp at he; subst he; exact hne
    · simp only [go_sem, seval, -List.reduceReplicate, hlt, List.length_map]
      intro hm
      have hf : l.find? (fun e => decide (e.1 = k)) = none := List.find?_eq_none.2 fun e he => by
        have := hu e (by rw [List.take_of_length_le (by omega)]; exact he)
        simpa using this
      rw [hf]
      exact ⟨(ones_iff _).2 fun y hy => by rw [List.eq_of_mem_replicate hy]; rfl, by decide, rfl, Ext.app _ _⟩
theorem rapply_put (t : Bool) (w : Bs) (b : Bool) (m : Ms) (hm : m.kind = 1) : Pure Tryz.prog 105 [.agg (valL w), .bool b, .agg (msgL m)] (.tup [.agg (valL m.val), .bool true]) := by
  refine Pure.of_ext (tup2_scoped (scoped_agg.2 (sc_val _)) (.bool _)) fun PS => ?_
  refine enter_105 (by unfold Tryz.f105; exact rfl) ?_
  simp only [go_sem, seval, -List.reduceReplicate, hm, msgL]
  exact ⟨((ones_iff _).2 fun y hy => msgL_one m y (by simp only [msgL, List.mem_cons]; exact .inr (.inr hy))), by decide, Ext.app _ _⟩
theorem hent (k v : Bs) : hsplice 9 (valL v) (keyL k ++ List.drop 8 (List.replicate 8 (HV.int IntKind.u8 0) ++ [HV.int IntKind.i64 0] ++ List.replicate 16 (HV.int IntKind.u8 0))) = entL (k, v) := by
  have e : 9 + (valL v).length = (keyL k).length + 17 := by rw [valL_len, keyL_len]
  unfold hsplice
  rw [List.take_left' (keyL_len k), e, List.drop_append]
  simp [entL]
theorem rput (t : Bool) (l : List (Bs × Bs)) (m : Ms) (hm : m.kind = 1) (okm : okM m) (ok : ∀ e ∈ l, okK e.1 ∧ okV e.2) (hl : l.length ≤ 1000) : Pure Tryz.prog 63 [.imm t (l.map entL), .agg (msgL m)] (.imm (decide ((putGo m.key m.val false l).map entL = [])) ((putGo m.key m.val false l).map entL)) := by
  intro PS
  refine Bld.done (s := 26) (by intro x hx y hy; simp at hx; obtain ⟨a, b, _, rfl⟩ := hx; exact sc_ent _ y hy) ?_
  obtain ⟨w, b, hw, hf⟩ := rfind t l m.key ok
  refine enter_63 (by unfold Tryz.f63; exact rfl) ?_
  simp only [go_sem, seval, -List.reduceReplicate]
  refine pend_intro (hf.call ?_)
  simp only [go_sem, seval, -List.reduceReplicate]
  refine ⟨by decide, pend_intro ((rapply_put t w b m hm).call ?_)⟩
  simp only [go_sem, seval, -List.reduceReplicate]
  have hmx : maxLen = 9223372036854775807 := rfl
  have hv : valL m.val ++ List.drop 16 (List.replicate 16 (HV.int IntKind.u8 0)) = valL m.val := by simp
  rw [hv]
  have hx0 : Ext [] PS (PS ++ [Piece.arr 0 29 [msgL m] false, Piece.arr 0 17 [valL w ++ List.drop 16 (List.replicate 16 (HV.int IntKind.u8 0))] false, Piece.arr 0 17 [valL m.val] false]) := Ext.app _ _
  have g0 : getP (PS ++ [Piece.arr 0 29 [msgL m] false, Piece.arr 0 17 [valL w ++ List.drop 16 (List.replicate 16 (HV.int IntKind.u8 0))] false, Piece.arr 0 17 [valL m.val] false]) PS.length = .arr 0 29 [msgL m] false := by simp [getP]
  have g2 : getP (PS ++ [Piece.arr 0 29 [msgL m] false, Piece.arr 0 17 [valL w ++ List.drop 16 (List.replicate 16 (HV.int IntKind.u8 0))] false, Piece.arr 0 17 [valL m.val] false]) (PS.length + 2) = .arr 0 17 [valL m.val] false := by simp [getP]
  have hlen : (PS ++ [Piece.arr 0 29 [msgL m] false, Piece.arr 0 17 [valL w ++ List.drop 16 (List.replicate 16 (HV.int IntKind.u8 0))] false, Piece.arr 0 17 [valL m.val] false]).length = PS.length + 3 := by simp
  generalize PS ++ [Piece.arr 0 29 [msgL m] false, Piece.arr 0 17 [valL w ++ List.drop 16 (List.replicate 16 (HV.int IntKind.u8 0))] false, Piece.arr 0 17 [valL m.val] false] = PA at hx0 g0 g2 hlen ⊢
  refine pend_intro (loop_rule (α := Nat × Bool × HV) [false, false, false, false, false, false, false, false, false, false, false, false, true, false, false, false, false, false, false, false, false, false, false, false, false, false, false, true, true, true, true, true, true, true, true, true, true, true, true, true, true, true, true, true, true, true, true, true, true, true, true, true, true, true, true, true, true, true, true, true, true, true, true, true] (fun b => [(11, .int .i64 b.1), (10, .bool b.2.1), (9, b.2.2)]) (fun b => l.length - b.1) (fun b PS' => b.1 ≤ l.length ∧ ∃ R, R.length ≤ 2 * b.1 ∧ R ++ putGo m.key m.val b.2.1 (l.drop b.1) = putGo m.key m.val false l ∧ Bld PA PS' 26 b.2.2 (R.map entL)) (0, false, .imm true []) ⟨Nat.zero_le _, [], by simp, rfl, Bld.nil 26 (Ext.refl _)⟩ ?_ ?_)
  · simp only [go_sem, seval, -List.reduceReplicate, Int.natCast_zero]
  · rintro ⟨i, p, y⟩ PS1 ⟨hi, R, hR, hE, hb⟩
    simp only at hi hR hE hb
    have h0 := (hb.ext.2 PS.length (by omega) (by simp)).trans g0
    have h2 := (hb.ext.2 (PS.length + 2) (by omega) (by simp)).trans g2
    by_cases hlt : i < l.length
    · have ha1 : l[i]? = some l[i] := by simp [hlt]
      have oi := ok _ (List.getElem_mem hlt)
      have hroomR : R.length ≤ 2 * l.length := by omega
      have hdr : l.drop i = l[i] :: l.drop (i + 1) := List.drop_eq_getElem_cons hlt
      rw [hdr, putGo] at hE
      simp only [go_sem, seval, -List.reduceReplicate, hlt, List.getElem?_map, Option.map_some, ha1, List.length_map, h0]
      intro _
      refine pend_intro ((rkey_cmp _ _ oi.1 okm.key).to ?_)
      by_cases hc : 0 ≤ cmpB l[i].1 m.key
      · rw [decide_eq_true hc, Bool.or_true] at hE
        cases p with
        | false =>
          rw [if_pos ⟨hc, rfl⟩] at hE
          simp only [go_sem, seval, -List.reduceReplicate, hc, h0, h2, hent]
          refine ⟨by simp, by simp [entL_len], hb.app (by simp [entL_len]) (by simp) (by simp [hroom]; omega) fun v PS2 hb2 => ?_⟩
          have hb2 : Bld PA PS2 26 v ((R ++ [(m.key, m.val)]).map entL) := by simpa using hb2
          by_cases h00 : cmpB l[i].1 m.key = 0
          · rw [if_pos h00] at hE
            simp only [go_sem, seval, -List.reduceReplicate, h00]
            refine ⟨⟨by omega, by omega⟩, (i + 1, true, v), by simp only; omega, ⟨by simp only; omega, R ++ [(m.key, m.val)], by simp; omega, ?_, hb2⟩, .inl rfl, rfl, rfl⟩
            simpa using hE
          · rw [if_neg h00] at hE
            simp only [go_sem, seval, -List.reduceReplicate, h00, hlt, List.getElem?_map, Option.map_some, ha1, List.length_map, entL_len]
            refine ⟨?_, hb2.app (by simp [entL_len]) (by simp) (by simp [hroom]; omega) fun v PS3 hb3 => ?_⟩
            · simp [entL_len]
            refine ⟨⟨by omega, by omega⟩, (i + 1, true, v), by simp only; omega, ⟨by simp only; omega, R ++ [(m.key, m.val)] ++ [l[i]], by simp; omega, ?_, by simpa using hb3⟩, .inl rfl, rfl, rfl⟩
            simpa using hE
        | true =>
          rw [if_neg (by simp)] at hE
          by_cases h00 : cmpB l[i].1 m.key = 0
          · rw [if_pos h00] at hE
            simp only [go_sem, seval, -List.reduceReplicate, hc, h00]
            refine ⟨⟨by omega, by omega⟩, (i + 1, true, y), by simp only; omega, ⟨by simp only; omega, R, by omega, ?_, hb⟩, .inl rfl, rfl, rfl⟩
            simpa using hE
          · rw [if_neg h00] at hE
            simp only [go_sem, seval, -List.reduceReplicate, hc, h00, hlt, List.getElem?_map, Option.map_some, ha1, List.length_map, entL_len]
            refine ⟨?_, hb.app (by simp [entL_len]) (by simp) (by simp [hroom]; omega) fun v PS3 hb3 => ?_⟩
            · simp [entL_len]
            refine ⟨⟨by omega, by omega⟩, (i + 1, true, v), by simp only; omega, ⟨by simp only; omega, R ++ [l[i]], by simp; omega, ?_, by simpa using hb3⟩, .inl rfl, rfl, rfl⟩
            simpa using hE
      · have h00 : ¬ cmpB l[i].1 m.key = 0 := by omega
        rw [if_neg (fun hh => hc hh.1), if_neg h00, decide_eq_false hc, Bool.or_false] at hE
        simp only [go_sem, seval, -List.reduceReplicate, hc, h00, hlt, List.getElem?_map, Option.map_some, ha1, List.length_map, entL_len]
        refine ⟨?_, hb.app (by simp [entL_len]) (by simp) (by simp [hroom]; omega) fun v PS3 hb3 => ?_⟩
        · simp [entL_len]
        refine ⟨⟨by omega, by omega⟩, (i + 1, p, v), by simp only; omega, ⟨by simp only; omega, R ++ [l[i]], by simp; omega, ?_, by simpa using hb3⟩, .inl rfl, rfl, rfl⟩
        simpa using hE
    · rw [List.drop_of_length_le (by omega)] at hE
      have hw : ∀ {v : HV} {PS3 : PL} {R : List (List HV)}, Bld PA PS3 26 v R → Bld PS PS3 26 v R := fun h => by
        refine ⟨?_, h.2.1, hx0.trans h.2.2⟩
        rcases h.1 with h | ⟨h1, p, ver, h2, h3, h4⟩
        · exact .inl h
        · exact .inr ⟨h1, p, ver, h2, Nat.le_trans hx0.1 h3, h4⟩
      cases p with
      | false =>
        simp only [go_sem, seval, -List.reduceReplicate, hlt, List.length_map, h0, h2, hent]
        intro _
        refine ⟨by simp, by simp [entL_len], hb.app (by simp [entL_len]) (by simp) (by simp [hroom]; omega) fun v PS2 hb2 => ?_⟩
        rw [← hE]
        exact hw (by simpa [putGo] using hb2)
      | true =>
        simp only [go_sem, seval, -List.reduceReplicate, hlt, List.length_map]
        intro _
        rw [← hE]
        exact hw (by simpa [putGo] using hb)
end Go.Proofs.YtpcnblbjidiapaaGreat
namespace Go.Proofs.YtpcnblbjidiapaaGreat
open Go Go.Eng Go.Ow
open Go.Mo
variable [Toks]
set_option maxRecDepth 20000
attribute [local irreducible] hvc hops hop hplan hdrawP hval1 hopD HLoop
noncomputable def gk (v : Int) : Bs := Classical.choose (gen_key v)
theorem gk_ok (v : Int) : okK (gk v) := (Classical.choose_spec (gen_key v)).1
theorem gk_gen (v : Int) : Pure Tryz.prog 64 [.int .i64 v] (.agg (keyL (gk v))) := (Classical.choose_spec (gen_key v)).2.2
theorem gk0 : gk 0 = [97] := (Classical.choose_spec (gen_key 0)).2.1.1 rfl
theorem gk8 : gk 8 = [98] := (Classical.choose_spec (gen_key 8)).2.1.2 rfl
noncomputable def gv (v : Int) : Bs := Classical.choose (gen_value v)
theorem gv_ok (v : Int) : okV (gv v) := (Classical.choose_spec (gen_value v)).1
theorem gv_gen (v : Int) : Pure Tryz.prog 65 [.int .i64 v] (.agg (valL (gv v))) := (Classical.choose_spec (gen_value v)).2
/-- One more entry, if there is room. -/
noncomputable def entStep (L : List (Bs × Bs)) (x : Int) : List (Bs × Bs) :=
  let more := putGo (gk (x % 1099511627776)) (gv ((x % 1099511627776) / 16)) false L
  if entsBytes more ≤ 248 then more else L
noncomputable def entsOf (l : List Int) : List (Bs × Bs) := l.foldl entStep []
structure EntsOk (n : Nat) (L : List (Bs × Bs)) : Prop where
  ok : ∀ e ∈ L, okK e.1 ∧ okV e.2
  up : rises L
  by_ : entsBytes L ≤ 248
  few : L.length ≤ n
theorem entStep_ok {n : Nat} {L : List (Bs × Bs)} (h : EntsOk n L) (x : Int) : EntsOk (n + 1) (entStep L x) := by
  unfold entStep
  simp only
  split
  · rename_i hb
    refine ⟨fun e he => ?_, putGo_rises _ h.up, hb, ?_⟩
    · rcases putGo_mem _ _ he with rfl | he
      · exact ⟨gk_ok _, gv_ok _⟩
      · exact h.ok e he
    · have := putGo_len (k := gk (x % 1099511627776)) (v := gv ((x % 1099511627776) / 16)) L false
      have := h.few
      simp at *; omega
  · exact ⟨h.ok, h.up, h.by_, by have := h.few; omega⟩
theorem entsOf_ok (l : List Int) : EntsOk l.length (entsOf l) := by
  have : ∀ (l : List Int) (n : Nat) (L : List (Bs × Bs)), EntsOk n L → EntsOk (n + l.length) (l.foldl entStep L) := by
    intro l
    induction l with
    | nil => intro n L h; exact h
    | cons x l ih => intro n L h; have := ih _ _ (entStep_ok h x); rw [List.foldl_cons, List.length_cons]; rwa [Nat.add_assoc, Nat.add_comm 1] at this
  have := this l 0 [] ⟨by simp, List.Pairwise.nil, by simp [entsBytes], by simp⟩
  rwa [Nat.zero_add] at this
theorem entStep_pos {L : List (Bs × Bs)} {x : Int} (h : entsBytes (putGo (gk (x % 1099511627776)) (gv ((x % 1099511627776) / 16)) false L) ≤ 248) : entStep L x = putGo (gk (x % 1099511627776)) (gv ((x % 1099511627776) / 16)) false L := by
  unfold entStep
  simp only
  rw [if_pos h]
theorem entStep_len {n : Nat} {L : List (Bs × Bs)} (h : EntsOk n L) (x : Int) : L.length ≤ (entStep L x).length := by
  unfold entStep
  simp only
  split
  · exact putGo_grows _ h.up
  · exact Nat.le_refl _
theorem fold_len (l : List Int) : ∀ (n : Nat) (L : List (Bs × Bs)), EntsOk n L → L.length ≤ (l.foldl entStep L).length := by
  induction l with
  | nil => intro n L _; exact Nat.le_refl _
  | cons x l ih => intro n L h; rw [List.foldl_cons]; exact Nat.le_trans (entStep_len h x) (ih _ _ (entStep_ok h x))
theorem entsOf_two (l : List Int) : 2 ≤ (entsOf (0 :: 8 :: l)).length := by
  have m0 : (0 : Int) % 1099511627776 = 0 := rfl
  have m8 : (8 : Int) % 1099511627776 = 8 := rfl
  have h0 := gv_ok (0 / 16)
  have h8 := gv_ok (8 / 16)
  unfold okV at h0 h8
  have e0 : entStep [] 0 = [([97], gv (0 / 16))] := by
    have : entsBytes (putGo (gk (0 % 1099511627776)) (gv ((0 % 1099511627776) / 16)) false []) ≤ 248 := by
      rw [m0, gk0]
      simp only [putGo, Bool.false_eq_true, if_false, entsBytes, entBytes, List.map_cons, List.map_nil, List.sum_cons, List.sum_nil, List.length_cons, List.length_nil]
      omega
    rw [entStep_pos this, m0, gk0]
    rfl
  have e8 : entStep [([97], gv (0 / 16))] 8 = [([97], gv (0 / 16)), ([98], gv (8 / 16))] := by
    have hp : putGo (gk (8 % 1099511627776)) (gv ((8 % 1099511627776) / 16)) false [([97], gv (0 / 16))] = [([97], gv (0 / 16)), ([98], gv (8 / 16))] := by
      rw [m8, gk8]
      rfl
    have : entsBytes (putGo (gk (8 % 1099511627776)) (gv ((8 % 1099511627776) / 16)) false [([97], gv (0 / 16))]) ≤ 248 := by
      rw [hp]
      simp only [entsBytes, entBytes, List.map_cons, List.map_nil, List.sum_cons, List.sum_nil, List.length_cons, List.length_nil]
      omega
    rw [entStep_pos this, hp]
  have ok := entsOf_ok [0, 8]
  have e : entsOf [0, 8] = [([97], gv (0 / 16)), ([98], gv (8 / 16))] := by
    unfold entsOf
    rw [List.foldl_cons, List.foldl_cons, List.foldl_nil, e0, e8]
  have := fold_len l _ _ ok
  rw [e] at this
  unfold entsOf
  rw [List.foldl_cons, List.foldl_cons, e0, e8]
  exact this
theorem gen_ents (t : Bool) (l : List Int) : Pure Tryz.prog 27 [.imm t (l.map kidL), .int .i64 248] (.imm (decide ((entsOf (l.take 80)).map entL = [])) ((entsOf (l.take 80)).map entL)) := by
  refine Pure.of_ext (sc_rows _ entL _ sc_ent) fun PS => ?_
  have hmx : maxLen = 9223372036854775807 := rfl
  refine enter_27 (by unfold Tryz.f27; exact rfl) ?_
  simp only [go_sem, seval, -List.reduceReplicate]
  refine pend_intro (loop_rule (α := Nat) [false, false, false, false, false, false, false, true, true, true, true, true, true, true, true, true, true, true, true, true, true, true, true, true, true, true, true, true, true, true, true, true, true, true, true, true, true] (fun i => [(6, .int .i64 i), (5, .imm (decide ((entsOf (l.take i)).map entL = [])) ((entsOf (l.take i)).map entL))]) (fun i => l.length - i) (fun i PS' => (i ≤ l.length ∧ i ≤ 80) ∧ Ext [] PS PS') 0 ⟨⟨Nat.zero_le _, Nat.zero_le _⟩, Ext.refl _⟩ ?_ ?_)
  · simp only [go_sem, seval, -List.reduceReplicate, Int.natCast_zero]
    rfl
  · rintro i PS1 ⟨hi, hx⟩
    by_cases hlt : i < l.length
    · by_cases hq : (i : Int) < 80
      rotate_left
      · simp only [go_sem, seval, -List.reduceReplicate, hlt, List.getElem?_map, List.length_map, hq]
        intro _
        have h80 : i = 80 := by omega
        subst h80
        exact ⟨rfl, hx⟩
      have ha1 : l[i]? = some l[i] := by simp [hlt]
      have ok := entsOf_ok (l.take i)
      have hst : entsOf (l.take (i + 1)) = entStep (entsOf (l.take i)) l[i] := by
        unfold entsOf
        rw [List.take_succ_eq_append_getElem hlt, List.foldl_append]; rfl
      have hp := place_ l[i] 1099511627776 (by omega) (by omega)
      have hk0 : 0 ≤ l[i] % 1099511627776 := Int.emod_nonneg _ (by omega)
      have hd : (l[i] % 1099511627776).tdiv 16 = l[i] % 1099511627776 / 16 := Int.tdiv_eq_ediv_of_nonneg hk0
      have hfew : (l.take i).length ≤ 80 := by rw [List.length_take]; omega
      have hkb : l[i] % 1099511627776 < 1099511627776 := Int.emod_lt_of_pos _ (by omega)
      simp only [go_sem, seval, -List.reduceReplicate, hlt, List.getElem?_map, Option.map_some, ha1, List.length_map, hq, kidL]
      intro _
      refine pend_intro (hp.call ?_)
      simp only [go_sem, seval, -List.reduceReplicate]
      refine pend_intro ((gk_gen _).call ?_)
      simp only [go_sem, seval, -List.reduceReplicate, hd]
      refine ⟨⟨by omega, by omega⟩, pend_intro ((gv_gen _).call ?_)⟩
      simp only [go_sem, seval, -List.reduceReplicate]
      have hmsg : HV.int .i64 1 :: HV.int .u64 0 :: hsplice 9 (valL (gv (l[i] % 1099511627776 / 16))) (keyL (gk (l[i] % 1099511627776)) ++ List.drop 8 (List.replicate 8 (HV.int IntKind.u8 0) ++ [HV.int IntKind.i64 0] ++ List.replicate 16 (HV.int IntKind.u8 0) ++ [HV.int IntKind.u64 0])) = msgL ⟨1, 0, gk (l[i] % 1099511627776), gv (l[i] % 1099511627776 / 16), 0⟩ := by
        have hz1 : List.drop 8 (List.replicate 8 (HV.int .u8 0) ++ [HV.int .i64 0] ++ List.replicate 16 (HV.int .u8 0) ++ [HV.int .u64 0]) = valL [] ++ [HV.int .u64 0] := rfl
        rw [hz1, hsplice, List.take_left' (keyL_len _), valL_len, ← List.drop_drop, List.drop_left' (keyL_len _), List.drop_left' (valL_len _)]
        rfl
      rw [hmsg]
      have hput := rput (decide (List.map entL (entsOf (List.take i l)) = [])) (entsOf (l.take i)) ⟨1, 0, gk (l[i] % 1099511627776), gv (l[i] % 1099511627776 / 16), 0⟩ rfl ⟨by simp, by simp, gk_ok _, gv_ok _, by simp⟩ ok.ok (by have := ok.few; omega)
      refine ⟨by simp, pend_intro (hput.call ?_)⟩
      simp only
      have hmo : ∀ e ∈ putGo (gk (l[i] % 1099511627776)) (gv (l[i] % 1099511627776 / 16)) false (entsOf (l.take i)), okK e.1 ∧ okV e.2 := fun e he => by
        rcases putGo_mem _ _ he with rfl | he
        · exact ⟨gk_ok _, gv_ok _⟩
        · exact ok.ok e he
      have hml := putGo_len (k := gk (l[i] % 1099511627776)) (v := gv (l[i] % 1099511627776 / 16)) (entsOf (l.take i)) false
      unfold entStep at hst
      simp only at hst
      generalize putGo (gk (l[i] % 1099511627776)) (gv (l[i] % 1099511627776 / 16)) false (entsOf (l.take i)) = more at hst hmo hml ⊢
      simp only [Bool.false_eq_true, if_false] at hml
      simp only [go_sem, seval, -List.reduceReplicate]
      have hbt := rents_bytes (decide (List.map entL more = [])) more (by have := ok.few; omega) hmo
      change Pure _ _ _ (.int .i64 (entsBytes more : Nat)) at hbt
      refine pend_intro (hbt.call ?_)
      by_cases hb : entsBytes more ≤ 248
      · rw [if_pos hb] at hst
        have hb' : ((entsBytes more : Nat) : Int) ≤ 248 := by omega
        simp only [go_sem, seval, -List.reduceReplicate, hb']
        exact ⟨⟨by omega, by omega⟩, i + 1, by omega, ⟨⟨by omega, by omega⟩, hx⟩, by rw [hst], rfl⟩
      · rw [if_neg hb] at hst
        have hb' : ¬ ((entsBytes more : Nat) : Int) ≤ 248 := by omega
        simp only [go_sem, seval, -List.reduceReplicate, hb']
        exact ⟨⟨by omega, by omega⟩, i + 1, by omega, ⟨⟨by omega, by omega⟩, hx⟩, by rw [hst], rfl⟩
    · simp only [go_sem, seval, -List.reduceReplicate, hlt, List.length_map]
      intro _
      rw [List.take_of_length_le (show l.length ≤ i by omega), List.take_of_length_le (show l.length ≤ 80 by omega)]
      exact ⟨rfl, hx⟩
/-- A leaf by numbers. -/
noncomputable def leafOf (l : List Int) : Nd := ⟨true, entsOf (l.take 80), [], [], []⟩
theorem leafOf_ok (l : List Int) : okN (leafOf l) ∧ nodFits (leafOf l) := by
  have h := entsOf_ok (l.take 80)
  have h80 : (l.take 80).length ≤ 80 := List.length_take_le ..
  refine ⟨⟨h.ok, by simp [leafOf], by simp [leafOf], by have := h.few; simp [leafOf]; omega⟩, ?_, ?_⟩
  · unfold nodOk leafOf
    rw [if_pos rfl]
    exact ⟨rises_ok h.up, rfl, rfl, rfl⟩
  · have := h.by_
    simpa [nodBytes, leafOf] using this
theorem gen_leaf (t : Bool) (l : List Int) : Pure Tryz.prog 7 [.imm t (l.map kidL)] (.agg (nodL ⟨decide ((entsOf (l.take 80)).map entL = []), true, true, true⟩ (leafOf l))) := by
  refine Pure.of_ext (sc_nod _ _) fun PS => ?_
  refine enter_7 (by unfold Tryz.f7; exact rfl) ?_
  simp only [go_sem, seval, -List.reduceReplicate]
  refine pend_intro ((gen_ents t l).call ?_)
  simp only [go_sem, seval, -List.reduceReplicate]
  exact ⟨rfl, Ext.app _ _⟩
end Go.Proofs.YtpcnblbjidiapaaGreat
