/-
  Copy, clear, strings as bytes, calls: and all operations as one abstract meaning that holds of the model.
  No conditions.
-/
import Derived.Test.YtmnhpggplblbgaaGreatEngL
namespace Go.Eng
open Go
set_option linter.unusedSectionVars false
variable [Toks]
set_option linter.unusedSimpArgs false

/-- Rows, or cells of a row, that are written. -/
def hput2 (PS : PL) (s : Nat) (x : HV) (N : Nat → List (List HV)) (K : PL → Prop) : Prop :=
  match x with
  | .sl n ver i len _ => (match getP PS n with
    | .arr ver' sz E opn => ver = ver' ∧ sz = s ∧ (opn = false ∨ E ≠ []) ∧ i + len ≤ E.length ∧ K (PS.set n (.arr ver s (hsplice i (N len) E) opn))
    | _ => False)
  | .isl n ver i k len _ => s = 1 ∧ (match getP PS n with
    | .arr ver' sz E opn => ver = ver' ∧ ∃ l, E[i]? = some l ∧ k + len ≤ l.length ∧ K (PS.set n (.arr ver sz (E.set i (hsplice k (N len).flatten l)) opn))
    | _ => False)
  | _ => False
def hsllen : HV → Nat
  | .sl _ _ _ len _ => len
  | .isl _ _ _ _ len _ => len
  | _ => 0
def hcopy (P : Program) (PS : PL) (t : TypeId) (x y : HV) (K : HV → PL → Prop) : Prop :=
  match slOf P t with
  | some (_, s) => hsrc PS s y fun N => hput2 PS s x (fun len => N.take len) fun PS' => K (.int .i64 ((min N.length (hsllen x) : Nat) : Int)) PS'
  | none => False
def hclear (P : Program) (PS : PL) (t : TypeId) (x : HV) (K : HV → PL → Prop) : Prop :=
  match mkOf P t with
  | some (s, _, z) => hput2 PS s x (fun len => List.replicate len z) fun PS' => K (.tup []) PS'
  | none => False
def hstrb (P : Program) (src dst : TypeId) (l : List UInt8) (K : HV → Prop) : Prop :=
  match P.underlying dst with
  | some (.slice e) => P.underlying src = some .string ∧ P.underlying e = some (.int .u8) ∧ l.length ≤ 140737488355328 ∧ K (.imm false (bytesRows l))
  | _ => False
def callable (P : Program) (g : FuncId) : Bool :=
  match P.funcs[g]? with
  | some fn => fn.name != "runtime.NumGoroutine" && fn.body.isSome
  | none => false
def hfun : HV → Option (FuncId × List HV × List HV)
  | .cst (.func (.func g) ⟨[]⟩ ⟨[]⟩) => some (g, [], [])
  | .func (.func g) f c => some (g, f, c)
  | _ => none
def hcallv (P : Program) (args : List HV) (PS : PL) (K : HV → PL → Prop) : Option (FuncId × List HV × List HV) → Prop
  | some (g, f, c) => callable P g = true ∧ HCall P g (f ++ (args ++ c)) PS K
  | none => False
def hminmax (mx : Bool) (K : HV → Prop) : List HV → Prop
  | [.int k a, .int k' b] => k = k' ∧ K (.int k (if mx then (if b > a then b else a) else (if b < a then b else a)))
  | _ => False

section
variable {P : Program} {F : Nat → Prop} {e e0 : List Pos} {D D0 : Nat → Nat → Prop} {PS PS' : PL} {w w0 w' : World} {fr : Fr} {a : Act} {o : Oper} {K : HV → PL → Prop} {Q : Exit → Act → World → Prop} {M : Nat → Prop}

theorem flatten_rows {s : Nat} {N : List (List HV)} {vs : List Value} (h : RowsIn M e w s N vs) : RowsIn M e w N.flatten.length [N.flatten] vs := by
  have hlen : N.flatten.length = N.length * s := by
    have : ∀ N : List (List HV), (∀ r ∈ N, r.length = s) → N.flatten.length = N.length * s := by
      intro N
      induction N with
      | nil => intro _; simp
      | cons r N ih => intro hN; simp only [List.flatten_cons, List.length_append, List.length_cons]; rw [ih (fun r hr => hN r (by simp [hr])), hN r (by simp), Nat.add_mul]; omega
    exact this N h.sz
  refine .single rfl (by rw [h.len, hlen]) h.one (fun k y v hk hv => ?_)
  -- by rows
  have : ∀ (N : List (List HV)) (vs : List Value), RowsIn M e w s N vs → ∀ (k : Nat) (y : HV) (v : Value), N.flatten[k]? = some y → vs[k]? = some v → VRel M e w y v := by
    intro N
    induction N with
    | nil => intro vs _ k y v hk; simp at hk
    | cons r N ih =>
      intro vs h k y v hk hv
      have hr := h.sz r (by simp)
      rw [List.flatten_cons] at hk
      by_cases hlt : k < r.length
      · rw [List.getElem?_append_left hlt] at hk
        obtain ⟨v', h1, h2⟩ := h.rel 0 r k y rfl hk
        simp only [Nat.zero_mul, Nat.zero_add] at h1
        rw [h1] at hv; cases hv; exact h2
      · rw [List.getElem?_append_right (by omega)] at hk
        have hd := h.drop 1
        simp only [List.drop_succ_cons, List.drop_zero, Nat.one_mul] at hd
        refine ih (vs.drop s) hd (k - r.length) y v hk ?_
        rw [List.getElem?_drop, ← hv, hr]; congr 1; omega
  exact this N vs h k y v hk hv

theorem hput2_sound (hr : Rel F e D PS w) {s : Nat} {x : HV} {u : Value} {N : Nat → List (List HV)} {vs : Nat → List Value} {K : PL → Prop} (hx : VRel (Mut F D) e w x u) (hN : ∀ len, RowsIn (Mut F D) e w s (N len) (vs len)) (hl : ∀ len, (N len).length ≤ len)
    (hc : hput2 PS s x N K) : ∃ (ad : Option Addr) (c : Nat) (PS' : PL) (e' : List Pos) (w' : World), u = .slice ad (hsllen x) c ∧ (∀ P : Program, ∀ a, ad = some a → (storeCells a (vs (hsllen x))).run P w = .ok () w') ∧ (ad = none → w' = w ∧ hsllen x = 0) ∧
      Rel F e' D PS' w' ∧ Tr e D w e' D w' ∧ K PS' := by
  cases x with
  | sl n ver i len cp =>
    simp only [hput2] at hc
    cases hq : getP PS n with
    | arr ver' sz E opn => ?_
    | dead => rw [hq] at hc; exact hc.elim
    | map _ _ _ _ => rw [hq] at hc; exact hc.elim
    | iter _ _ _ _ _ => rw [hq] at hc; exact hc.elim
    rw [hq] at hc
    obtain ⟨rfl, rfl, hE, hle, hK⟩ := hc
    obtain ⟨p, b, o, cap, e', hp, hpv, hkd, hp', w', hrun, hrel, htr⟩ := hr.spliceRows hq hE (j := i) (hN len) (by have := hl len; omega)
    cases hx with
    | sl n ver i len cp u p0 hp0 hv'' hs h1 =>
      rw [hp] at hp0; cases hp0
      have hsl := hs hpv.symm
      rw [hkd] at hsl
      obtain ⟨ad, c, rfl, hlc, hcm, hn0, ha, hcc⟩ := hsl
      have hz : len = 0 → w' = w := by
        intro h0
        have hv : vs len = [] := List.eq_nil_of_length_eq_zero (by rw [(hN len).len]; have := hl len; rw [show (N len).length = 0 from by omega]; simp)
        have := hrun default _ rfl
        rw [hv, storeCells_nil] at this
        injection this with _ h; exact h.symm
      refine ⟨ad, c, _, e', w', rfl, fun P a had => ?_, fun hh => ?_, hrel, htr, hK⟩
      · by_cases h0 : 0 < c
        · rw [ha h0] at had; cases had
          exact hrun P _ (by omega)
        · have hl0 : len = 0 := by omega
          rw [hz hl0]
          have hv : vs len = [] := List.eq_nil_of_length_eq_zero (by rw [(hN len).len]; have := hl len; rw [show (N len).length = 0 from by omega]; simp)
          simp only [hsllen, hv]
          exact storeCells_nil a
      · have := hn0 hh
        have hl0 : len = 0 := by omega
        exact ⟨hz hl0, hl0⟩
  | isl n ver i k len cp =>
    obtain ⟨rfl, hc⟩ := hc
    cases hq : getP PS n with
    | arr ver' sz E opn => ?_
    | dead => rw [hq] at hc; exact hc.elim
    | map _ _ _ _ => rw [hq] at hc; exact hc.elim
    | iter _ _ _ _ _ => rw [hq] at hc; exact hc.elim
    rw [hq] at hc
    obtain ⟨rfl, l, hil, hle, hK⟩ := hc
    have hfl := flatten_rows (hN len)
    have hfll : (N len).flatten.length ≤ len := by
      have h1 : (vs len).length = (N len).flatten.length := by simpa only [List.length_singleton, Nat.one_mul] using hfl.len
      have h2 := (hN len).len
      have := hl len
      omega
    obtain ⟨p, b, o, cap, e', hp, hpv, hkd, w', hrun, hrel, htr⟩ := hr.splice (k := k) hq hil (c := (N len).flatten) (by omega) hfl
    cases hx with
    | isl n ver i k len cp u p0 hp0 hv'' hs h1 =>
      rw [hp] at hp0; cases hp0
      have hsl := hs hpv.symm
      rw [hkd] at hsl
      obtain ⟨ad, c, rfl, hlc, hcm, hn0, ha, hcc⟩ := hsl
      have hz : len = 0 → w' = w := by
        intro h0
        have hv : vs len = [] := List.eq_nil_of_length_eq_zero (by have h1 := (hN len).len; have h2 := hl len; omega)
        have := hrun default
        rw [hv, storeCells_nil] at this
        injection this with _ h; exact h.symm
      refine ⟨ad, c, _, e', w', rfl, fun P a had => ?_, fun hh => ?_, hrel, htr, hK⟩
      · by_cases h0 : 0 < c
        · rw [ha h0] at had; cases had
          exact hrun P
        · have hl0 : len = 0 := by omega
          rw [hz hl0]
          have hv : vs len = [] := List.eq_nil_of_length_eq_zero (by have h1 := (hN len).len; have h2 := hl len; omega)
          simp only [hsllen, hv]
          exact storeCells_nil a
      · have := hn0 hh
        have hl0 : len = 0 := by omega
        exact ⟨hz hl0, hl0⟩
  | _ => exact hc.elim

theorem slOf_some {t : TypeId} {el : TypeId} {s : Nat} (h : slOf P t = some (el, s)) : ∃ i, P.underlying t = some (.slice el) ∧ P.info? el = some i ∧ i.size = s := by
  unfold slOf at h
  cases hu : P.underlying t with
  | none => rw [hu] at h; cases h
  | some d =>
    cases d with
    | slice e' =>
      rw [hu] at h
      cases hi : P.info? e' with
      | none => simp only [hi] at h; cases h
      | some i => simp only [hi, Option.some.injEq, Prod.mk.injEq] at h; obtain ⟨rfl, rfl⟩ := h; exact ⟨i, rfl, hi, rfl⟩
    | _ => rw [hu] at h; cases h

theorem hcopy_sound {t t2 ty : TypeId} {x y : HV} {u v : Value} (hr : Rel F e D PS w) (hx : VRel (Mut F D) e w x u) (hy : VRel (Mut F D) e w y v) (hc : hcopy P PS t x y K) :
    ∃ z r PS' e' D' w', (Builtin.copy_ #[t, t2] ty #[u, v]).run P w = .ok r w' ∧ Rel F e' D' PS' w' ∧ Tr e D w e' D' w' ∧ VRel (Mut F D') e' w' z r ∧ K z PS' := by
  unfold hcopy at hc
  cases hm : slOf P t with
  | none => rw [hm] at hc; exact hc.elim
  | some q =>
    obtain ⟨el, s⟩ := q
    rw [hm] at hc
    obtain ⟨i, hu, hi, rfl⟩ := slOf_some hm
    obtain ⟨N, vs, hc, hsrc⟩ := hsrc_sound (P := P) hr hy hc
    obtain ⟨ad, c, PS', e', w', rfl, hst, hnone, hrel, htr, hK⟩ := hput2_sound hr hx (vs := fun len => vs.take (min N.length len * i.size)) (fun len => by
      have := hsrc.rows.take (min N.length len) (Nat.min_le_left _ _)
      rwa [show N.take (min N.length len) = N.take len from by
        rcases Nat.le_total len N.length with h | h
        · rw [Nat.min_eq_right h]
        · rw [Nat.min_eq_left h, List.take_length, List.take_of_length_le h]] at this) (fun len => by simp; omega) hc
    refine ⟨_, .int .i64 ((min N.length (hsllen x) : Nat) : Int), PS', e', D, w', ?_, hrel, htr, .int _ _, hK⟩
    have hf := hsrc.first w (min N.length (hsllen x)) rfl (Nat.min_le_left _ _)
    cases ad with
    | none =>
      obtain ⟨rfl, h0⟩ := hnone rfl
      simp [Builtin.copy_, run_underlying hu, run_sizeOf' hi, hsrc.len, Nat.min_def, goInt] at hf ⊢
      simp [hf]
    | some a =>
      have hst' := hst P a rfl
      simp only [Builtin.copy_, List.getElem?_toArray, List.getElem?_cons_zero, List.getElem?_cons_succ, Sem.run_bind, run_underlying hu, Result.andThen_ok, hsrc.len, run_sizeOf' hi]
      rw [show Nat.min N.length (hsllen x) = min N.length (hsllen x) from rfl, hf]
      simp [hst', goInt]
end
end Go.Eng
