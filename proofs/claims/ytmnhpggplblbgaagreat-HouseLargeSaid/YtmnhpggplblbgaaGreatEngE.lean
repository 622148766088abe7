/-
  More operations that only compute: slices, lengths, conversions, parts of aggregates.
  No conditions.
-/
import Derived.Test.YtmnhpggplblbgaaGreatEngD
namespace Go.Eng
open Go
set_option linter.unusedSectionVars false
variable [Toks]
set_option linter.unusedSimpArgs false

/-! ### Slices of slices, strings, arrays -/
/-- The bounds of a slice expression: (low, high, max), all within cap; the abstract high within lim. -/
def hbnd (x : Option HV) (d : Int) (K : Int → Prop) : Prop :=
  match x with
  | none => K d
  | some (.int _ n) => K n
  | some _ => False
def hslice3 (len lim : Nat) (low high max : Option HV) (K : Nat → Nat → Option Nat → Prop) : Prop :=
  hbnd low 0 fun l => hbnd high len fun h => match max with
    | none => 0 ≤ l ∧ l ≤ h ∧ h ≤ lim ∧ K l.toNat h.toNat none
    | some (.int _ m) => high.isSome = true ∧ 0 ≤ l ∧ l ≤ h ∧ h ≤ m ∧ m ≤ lim ∧ K l.toNat h.toNat (some m.toNat)
    | some _ => False
/-- The cells of an element of a row. -/
def hsz (q : Piece) (s : Nat) : Prop :=
  match q with
  | .arr _ sz _ _ => sz = s
  | _ => False
/-- How far a slice may reach: as far as is known. -/
def hrest (q : Piece) (i len : Nat) : Nat :=
  match q with
  | .arr _ _ E _ => max len (E.length - i)
  | _ => len
def hlim (q : Piece) (i len : Nat) : Option Nat → Nat
  | some c => c
  | none => hrest q i len
def hslsl (PS : PL) (s : Nat) (x : HV) (low high max : Option HV) (K : HV → Prop) : Prop :=
  match x with
  | .imm t E => (∀ r ∈ E, r.length = s) ∧ hslice3 E.length E.length low high max fun l h m => match m with
    | some m => K (.imm (decide (m = h)) ((E.take h).drop l))
    | none => K (.imm (t && (high.isNone || decide (h = E.length))) ((E.take h).drop l))
  | .sl n ver i len cp => hlive (getP PS n) ver ∧ hsz (getP PS n) s ∧ hslice3 len (hlim (getP PS n) i len cp) low high max fun l h m => match m with
    | some m => K (.sl n ver (i + l) (h - l) (some (m - l)))
    | none => K (.sl n ver (i + l) (h - l) (cp.map (· - l)))
  | .isl n ver i k len cp => hlive (getP PS n) ver ∧ hslice3 len cp low high max fun l h m => match m with
    | some m => K (.isl n ver i (k + l * s) (h - l) (m - l))
    | none => K (.isl n ver i (k + l * s) (h - l) (cp - l))
  | _ => False
/-- Of an array in memory. -/
def hslar (PS : PL) (N s : Nat) (x : HV) (low high max : Option HV) (K : HV → Prop) : Prop :=
  match x with
  | .ptr n ver i k => N ≤ 65536 ∧ hlive (getP PS n) ver ∧ hslice3 N N low high max fun l h m => K (.isl n ver i (k + l * s) (h - l) (m.getD N - l))
  | .iptr c k => N ≤ 65536 ∧ s = 1 ∧ k + N ≤ c.length ∧ hslice3 N N low high max fun l h m => K (.imm (decide (m.getD N = h)) (((c.drop (k + l)).take (h - l)).map fun y => [y]))
  | _ => False
def hslstr (x : HV) (low high max : Option HV) (K : HV → Prop) : Prop :=
  match x with
  | .str s => max.isNone = true ∧ hslice3 s.length s.length low high none fun l h _ => K (.str ((s.take h).drop l))
  | _ => False
def hslice (P : Program) (PS : PL) (t : TypeId) (x : HV) (low high max : Option HV) (K : HV → Prop) : Prop :=
  match P.underlying t with
  | some .string => hslstr x low high max K
  | some (.slice _) => (match slOf P t with | some (_, s) => hslsl PS s x low high max K | none => False)
  | some (.array _ _) => (match arOf P t with | some (N, _, s) => hslar PS N s x low high max K | none => False)
  | some (.pointer ar) => (match arOf P ar with | some (N, _, s) => hslar PS N s x low high max K | none => False)
  | _ => False

theorem hbnd_sound {M : Nat → Prop} {e : List Pos} {w : World} {x : Option HV} {u : Option Value} {d : Int} {K : Int → Prop} (h : hbnd x d K)
    (hr : ∀ y v, x = some y → u = some v → VRel M e w y v) (hs : x.isSome = u.isSome) : (x = none ∧ u = none ∧ K d) ∨ ∃ k n, x = some (.int k n) ∧ u = some (.int k n) ∧ K n := by
  unfold hbnd at h
  split at h
  · left; refine ⟨rfl, ?_, h⟩; cases u <;> simp_all
  · rename_i k n
    right
    cases u with
    | none => simp at hs
    | some v => have := hr _ _ rfl rfl; cases this; exact ⟨k, n, rfl, rfl, h⟩
  · exact h.elim

theorem run_sliceBound {P : Program} (k : IntKind) (n : Int) (y : Nat) (c : BoundsCode) (h0 : 0 ≤ n) (h1 : n ≤ y) (w : World) : (Instr.sliceBound (.int k n) y c).run P w = .ok n.toNat w := by
  simp [Instr.sliceBound, asIntOf, h0, h1]

/-- The bounds as the model reckons them. -/
theorem hslice3_sound {P : Program} {M : Nat → Prop} {e : List Pos} {w : World} {len lim cap : Nat} {low high max : Option HV} {vl vh vm : Option Value} {K : Nat → Nat → Option Nat → Prop} (isS : Bool)
    (h : hslice3 len lim low high max K) (hlen : len ≤ lim) (hcap : lim ≤ cap)
    (hl : ∀ y v, low = some y → vl = some v → VRel M e w y v) (hl' : low.isSome = vl.isSome)
    (hh : ∀ y v, high = some y → vh = some v → VRel M e w y v) (hh' : high.isSome = vh.isSome)
    (hm : ∀ y v, max = some y → vm = some v → VRel M e w y v) (hm' : max.isSome = vm.isSome) :
    ∃ (l h : Nat) (m : Option Nat), (Instr.sliceBounds isS len cap vl vh vm).run P w = .ok (l, h, m.getD cap) w ∧ l ≤ h ∧ h ≤ m.getD lim ∧ m.getD lim ≤ lim ∧ (high = none → h = len) ∧ K l h m := by
  have hlow : ∀ (L : Int) (y : Nat) (c : BoundsCode), ((low = none ∧ vl = none ∧ L = 0) ∨ ∃ k, vl = some (.int k L)) → 0 ≤ L → L ≤ y →
      (match vl with | some v => Instr.sliceBound v y c | none => pure 0 : Sem Nat).run P w = .ok L.toNat w := by
    intro L y c h h0 h1
    rcases h with ⟨_, rfl, rfl⟩ | ⟨k, rfl⟩
    · rfl
    · exact run_sliceBound k L y c h0 h1 w
  unfold hslice3 at h
  rcases hbnd_sound h hl hl' with ⟨a1, a2, h⟩ | ⟨k, L, a1, a2, h⟩ <;> rcases hbnd_sound h hh hh' with ⟨b1, b2, h⟩ | ⟨k', H, b1, b2, h⟩
  · cases max with
    | none =>
      obtain rfl : vm = none := by cases vm <;> simp_all
      obtain ⟨c1, c2, c3, hK⟩ := h
      subst a2 b2
      refine ⟨0, len, none, ?_, Nat.zero_le _, hlen, Nat.le_refl _, fun _ => rfl, by simpa using hK⟩
      simp [Instr.sliceBounds]
    | some m => cases m <;> first | exact h.elim | (obtain ⟨c0, _⟩ := h; simp_all)
  · cases max with
    | none =>
      obtain rfl : vm = none := by cases vm <;> simp_all
      obtain ⟨c1, c2, c3, hK⟩ := h
      subst a2 b2
      refine ⟨0, H.toNat, none, ?_, Nat.zero_le _, by simp; omega, Nat.le_refl _, fun q => by simp_all, by simpa using hK⟩
      simp [Instr.sliceBounds, run_sliceBound k' H cap _ c2 (by omega) w]
    | some m =>
      cases m with
      | int km M' =>
        cases vm with
        | none => simp at hm'
        | some v =>
          have := hm _ _ rfl rfl; cases this
          obtain ⟨_, c1, c2, c3, c4, hK⟩ := h
          subst a2 b2
          refine ⟨0, H.toNat, some M'.toNat, ?_, Nat.zero_le _, by simp; omega, by simp; omega, fun q => by simp_all, by simpa using hK⟩
          have e1 := run_sliceBound (P := P) km M' cap (if isS then .slice3Acap else .slice3Alen) (by omega) (by omega) w
          have e2 := run_sliceBound (P := P) k' H M'.toNat .slice3B c2 (by omega) w
          simp [Instr.sliceBounds, e1, e2]
      | _ => exact h.elim
  · cases max with
    | none =>
      obtain rfl : vm = none := by cases vm <;> simp_all
      obtain ⟨c1, c2, c3, hK⟩ := h
      subst a2 b2
      refine ⟨L.toNat, len, none, ?_, by omega, hlen, Nat.le_refl _, fun _ => rfl, by simpa using hK⟩
      simp [Instr.sliceBounds, run_sliceBound k L len _ c1 (by omega) w]
    | some m => cases m <;> first | exact h.elim | (obtain ⟨c0, _⟩ := h; simp_all)
  · cases max with
    | none =>
      obtain rfl : vm = none := by cases vm <;> simp_all
      obtain ⟨c1, c2, c3, hK⟩ := h
      subst a2 b2
      refine ⟨L.toNat, H.toNat, none, ?_, by omega, by simp; omega, Nat.le_refl _, fun q => by simp_all, by simpa using hK⟩
      have e2 := run_sliceBound (P := P) k' H cap (if isS then .sliceAcap else .sliceAlen) (by omega) (by omega) w
      have e3 := run_sliceBound (P := P) k L H.toNat .sliceB c1 (by omega) w
      simp [Instr.sliceBounds, e2, e3]
    | some m =>
      cases m with
      | int km M' =>
        cases vm with
        | none => simp at hm'
        | some v =>
          have := hm _ _ rfl rfl; cases this
          obtain ⟨_, c1, c2, c3, c4, hK⟩ := h
          subst a2 b2
          refine ⟨L.toNat, H.toNat, some M'.toNat, ?_, by omega, by simp; omega, by simp; omega, fun q => by simp_all, by simpa using hK⟩
          have e1 := run_sliceBound (P := P) km M' cap (if isS then .slice3Acap else .slice3Alen) (by omega) (by omega) w
          have e2 := run_sliceBound (P := P) k' H M'.toNat .slice3B (by omega) (by omega) w
          have e3 := run_sliceBound (P := P) k L H.toNat .slice3C c1 (by omega) w
          simp [Instr.sliceBounds, e1, e2, e3]
      | _ => exact h.elim

section
variable {P : Program} {F : Nat → Prop} {e : List Pos} {D : Nat → Nat → Prop} {PS : PL} {w : World}
theorem imm_cut {M : Nat → Prop} {t : Bool} {E : List (List HV)} {a : Option Addr} {c s l h m : Nat} (hx : VRel M e w (.imm t E) (.slice a E.length c)) (hs : ∀ r ∈ E, r.length = s)
    (h1 : l ≤ h) (h2 : h ≤ E.length) (h3 : h ≤ m) (h4 : m ≤ c) (t' : Bool) (ht' : t' = true → m = h) :
    VRel M e w (.imm t' ((E.take h).drop l)) (.slice (if m = l then a else a.map (·.add (l * s))) (h - l) (m - l)) := by
  cases hx with
  | imm t E a c b o sz val hc hm ht hn ha hb hsz h1c hcell hval =>
    have hlen : ((E.take h).drop l).length = h - l := by simp; omega
    have hszs : l * sz = l * s := by
      by_cases hE : E = []
      · subst hE; simp at h2; obtain rfl : l = 0 := by omega
        simp
      · obtain ⟨r, hr⟩ := List.exists_mem_of_ne_nil E hE
        rw [← hsz r hr, ← hs r hr]
    have hget : ∀ (i : Nat) (r : List HV), ((E.take h).drop l)[i]? = some r → E[l + i]? = some r := by
      intro i r hr
      rw [List.getElem?_drop, List.getElem?_take] at hr
      split at hr
      · exact hr
      · cases hr
    have := VRel.imm (M := M) (e := e) (w := w) t' ((E.take h).drop l) (if m = l then a else a.map (·.add (l * s))) (m - l) b (o + l * sz) sz (fun i k => val (l + i) k)
      (by rw [hlen]; omega) (by omega) (fun q => by rw [hlen, ht' q]) (by
        intro q
        split at q
        · omega
        · cases a with
          | none => have := hn rfl; omega
          | some a => simp at q) (by
        intro q
        rw [if_neg (by omega), ha (by omega)]
        simp [addr_add, hszs]) (by
        intro q
        refine hb ?_
        rintro rfl; simp at q) (by
        intro r hr
        exact hsz r (List.mem_of_mem_take (List.mem_of_mem_drop hr))) (fun _ _ => h1c _ _) (by
        intro i r k x hr hk
        rw [← hcell (l + i) r k x (hget i r hr) hk, Nat.add_mul]; congr 2; omega) (by
        intro i r k x hr hk
        exact hval (l + i) r k x (hget i r hr) hk)
    rw [hlen] at this
    exact this

theorem sl_cut {b o sz cap i k len c l h m : Nat} {a : Option Addr} {cp : Option Nat} {s : Nat} {u : Value} (hu : u = .slice a len c) (hx : SlAt (.arr b o sz cap) i k len cp u)
    (h1 : l ≤ h) (h3 : h ≤ m) (h4 : m ≤ c) (cp' : Option Nat) (i' k' : Nat) (hik : i' * sz + k' = i * sz + k + l * s) (hcp : match cp' with | some c' => m - l = c' | none => k' = 0 ∧ i' + (m - l) = cap) :
    SlAt (.arr b o sz cap) i' k' (h - l) cp' (.slice (if m = l then a else a.map (·.add (l * s))) (h - l) (m - l)) := by
  obtain ⟨a', c', hu', hlc, hm, hn, ha, hc⟩ := hx
  rw [hu] at hu'
  injection hu' with e1 e2 e3
  subst e1; subst e3
  refine ⟨_, _, rfl, by omega, by omega, ?_, ?_, hcp⟩
  · intro q
    split at q
    · omega
    · cases a with
      | none => have := hn rfl; omega
      | some a => simp at q
  · intro q
    rw [if_neg (by omega), ha (by omega)]
    simp only [Option.map_some, addr_add]
    congr 2; omega

theorem run_slice_sl {t e' : TypeId} {ti : TypeInfo} (hu : P.underlying t = some (.slice e')) (hi : P.info? e' = some ti) {a : Option Addr} {len c : Nat} {vl vh vm : Option Value} {l h m : Nat}
    (hb : (Instr.sliceBounds true len c vl vh vm).run P w = .ok (l, h, m) w) :
    (Instr.sliceAt t (.slice a len c) vl vh vm).run P w = .ok (.slice (if m = l then a else a.map (·.add (l * ti.size))) (h - l) (m - l)) w := by
  simp [Instr.sliceAt, Instr.slice, run_underlying hu, hb, run_sizeOf' hi]
theorem run_slice_ar {t e' : TypeId} {N : Nat} {ti : TypeInfo} (hu : P.underlying t = some (.array N e')) (hi : P.info? e' = some ti) {b o : Nat} {vl vh vm : Option Value} {l h m : Nat}
    (hb : (Instr.sliceBounds false N N vl vh vm).run P w = .ok (l, h, m) w) :
    (Instr.sliceAt t (.pointer (some ⟨b, o, none⟩)) vl vh vm).run P w = .ok (.slice (if m = l then some ⟨b, o, none⟩ else (some ⟨b, o, none⟩ : Option Addr).map (·.add (l * ti.size))) (h - l) (m - l)) w := by
  simp [Instr.sliceAt, Instr.sureAddr, run_underlying hu, hb, run_sizeOf' hi]
  split <;> simp_all
theorem run_slice_pa {t ar e' : TypeId} {N : Nat} {ti : TypeInfo} (hp : P.underlying t = some (.pointer ar)) (hu : P.underlying ar = some (.array N e')) (hi : P.info? e' = some ti) {b o : Nat} {vl vh vm : Option Value} {l h m : Nat}
    (hb : (Instr.sliceBounds false N N vl vh vm).run P w = .ok (l, h, m) w) :
    (Instr.sliceAt t (.pointer (some ⟨b, o, none⟩)) vl vh vm).run P w = .ok (.slice (if m = l then some ⟨b, o, none⟩ else (some ⟨b, o, none⟩ : Option Addr).map (·.add (l * ti.size))) (h - l) (m - l)) w := by
  simp [Instr.sliceAt, Instr.slice, asAddr, run_underlying hu, run_underlying hp, hb, run_sizeOf' hi]
  split <;> simp_all

/-- The array's part as a slice. -/
theorem hslar_sound (h : Rel F e D PS w) {N s : Nat} {x : HV} {u : Value} {low high max : Option HV} {vl vh vm : Option Value} {K : HV → Prop} (hx : VRel (Mut F D) e w x u)
    (hl : ∀ y v, low = some y → vl = some v → VRel (Mut F D) e w y v) (hl' : low.isSome = vl.isSome)
    (hh : ∀ y v, high = some y → vh = some v → VRel (Mut F D) e w y v) (hh' : high.isSome = vh.isSome)
    (hm : ∀ y v, max = some y → vm = some v → VRel (Mut F D) e w y v) (hm' : max.isSome = vm.isSome) (hc : hslar PS N s x low high max K) :
    ∃ b o l h m y, u = .pointer (some ⟨b, o, none⟩) ∧ (Instr.sliceBounds false N N vl vh vm).run P w = .ok (l, h, m) w ∧
      VRel (Mut F D) e w y (.slice (if m = l then some ⟨b, o, none⟩ else (some ⟨b, o, none⟩ : Option Addr).map (·.add (l * s))) (h - l) (m - l)) ∧ K y := by
  cases x with
  | ptr n ver i k =>
    obtain ⟨hN, hlv, hc⟩ := hc
    have hN : N ≤ maxLen := Nat.le_trans hN (by simp [maxLen])
    obtain ⟨p, b, o, sz, cap, hp, hv, hkd, rfl⟩ := ptr_live h hx hlv
    obtain ⟨l, hi, m, hrun, h1, h2, h3, _, hK⟩ := hslice3_sound (P := P) (cap := N) false hc (Nat.le_refl _) (Nat.le_refl _) hl hl' hh hh' hm hm'
    refine ⟨b, _, l, hi, m.getD N, _, rfl, hrun, .isl n ver i (k + l * s) (hi - l) (m.getD N - l) _ p hp (by omega) (fun _ => ?_) rfl, hK⟩
    rw [hkd]
    refine sl_cut (s := s) (cp := some N) (i := i) (k := k) (len := N) (c := N) rfl ⟨_, _, rfl, Nat.le_refl _, hN, by simp, fun _ => rfl, rfl⟩ h1 h2 h3 (some (m.getD N - l)) i (k + l * s) (by omega) rfl
  | iptr c k =>
    obtain ⟨hN, rfl, hk, hc⟩ := hc
    have hN : N ≤ maxLen := Nat.le_trans hN (by simp [maxLen])
    cases hx with
    | iptr c k b o val hb h1c hcell hval =>
      obtain ⟨l, hi, m, hrun, h1, h2, h3, _, hK⟩ := hslice3_sound (P := P) (cap := N) false hc (Nat.le_refl _) (Nat.le_refl _) hl hl' hh hh' hm hm'
      refine ⟨b, _, l, hi, m.getD N, _, rfl, hrun, ?_, hK⟩
      have hlen : (((c.drop (k + l)).take (hi - l)).map fun y => [y]).length = hi - l := by simp; omega
      have hget : ∀ (i : Nat) (r : List HV), (((c.drop (k + l)).take (hi - l)).map fun y => [y])[i]? = some r → ∃ y, r = [y] ∧ c[k + l + i]? = some y := by
        intro i r hr
        rw [List.getElem?_map, List.getElem?_take, List.getElem?_drop] at hr
        split at hr
        · cases hy : c[k + l + i]? with
          | none => rw [hy] at hr; cases hr
          | some y => rw [hy] at hr; cases hr; exact ⟨y, rfl, rfl⟩
        · cases hr
      have := VRel.imm (M := Mut F D) (e := e) (w := w) (decide (m.getD N = hi)) (((c.drop (k + l)).take (hi - l)).map fun y => [y])
        (if m.getD N = l then some ⟨b, o + k, none⟩ else (some ⟨b, o + k, none⟩ : Option Addr).map (·.add (l * 1))) (m.getD N - l) b (o + k + l) 1 (fun i _ => val (k + l + i))
        (by rw [hlen]; omega) (by omega) (fun q => by rw [hlen]; have := of_decide_eq_true q; omega) (by intro q; split at q <;> simp at q) (by
          intro q
          rw [if_neg (by omega)]
          simp [addr_add]) (fun _ => hb) (by
          intro r hr
          obtain ⟨y, _, rfl⟩ := List.mem_map.1 hr
          rfl) (fun _ _ => h1c _) (by
          intro i r j x hr hj
          obtain ⟨y, rfl, hy⟩ := hget i r hr
          cases j with
          | zero => rw [← hcell _ _ hy]; congr 2; omega
          | succ j => simp at hj) (by
          intro i r j x hr hj
          obtain ⟨y, rfl, hy⟩ := hget i r hr
          cases j with
          | zero => simp at hj; subst hj; exact hval _ _ hy
          | succ j => simp at hj)
      rw [hlen] at this
      exact this
  | _ => exact hc.elim

theorem hslice_sound (h : Rel F e D PS w) {t : TypeId} {x : HV} {u : Value} {low high max : Option HV} {vl vh vm : Option Value} {K : HV → Prop} (hx : VRel (Mut F D) e w x u)
    (hl : ∀ y v, low = some y → vl = some v → VRel (Mut F D) e w y v) (hl' : low.isSome = vl.isSome)
    (hh : ∀ y v, high = some y → vh = some v → VRel (Mut F D) e w y v) (hh' : high.isSome = vh.isSome)
    (hm : ∀ y v, max = some y → vm = some v → VRel (Mut F D) e w y v) (hm' : max.isSome = vm.isSome) (hc : hslice P PS t x low high max K) :
    ∃ y v, (Instr.sliceAt t u vl vh vm).run P w = .ok v w ∧ VRel (Mut F D) e w y v ∧ K y := by
  unfold hslice at hc
  split at hc
  · rename_i hu
    cases x with
    | str s => ?_
    | _ => exact hc.elim
    cases hx
    obtain ⟨hn, hc⟩ := hc
    obtain rfl : vm = none := by cases vm <;> simp_all
    obtain ⟨l, hi, m, hrun, h1, h2, h3, _, hK⟩ := hslice3_sound (P := P) (cap := s.length) (max := none) (vm := none) false hc (Nat.le_refl _) (Nat.le_refl _) hl hl' hh hh' (by simp) rfl
    refine ⟨_, _, ?_, .str _, hK⟩
    have : (⟨s.toArray⟩ : ByteArray).size = s.length := by simp [ByteArray.size]
    simp only [Instr.sliceAt, Instr.slice, Sem.run_bind, run_underlying hu, Result.andThen_ok, this, hrun, Option.isSome_none, Bool.false_eq_true, if_false, Sem.run_pure]
    congr 2
    apply ByteArray.ext
    simp [ByteArray.data_extract]
    rw [List.drop_take]
  · rename_i e' hu
    simp only [slOf, hu] at hc
    cases hi : P.info? e' with
    | none => simp [hi] at hc
    | some ti =>
      simp only [hi] at hc
      cases x with
      | imm t' E =>
        obtain ⟨hs, hc⟩ := hc
        cases hx' : u with
        | slice a len c =>
          subst hx'
          have hlen : len = E.length := by cases hx; rfl
          subst hlen
          have hcl : E.length ≤ c ∧ (t' = true → c = E.length) := by cases hx with | imm t E a c b o sz val hc hm ht => exact ⟨hc, ht⟩
          obtain ⟨l, hh2, m, hrun, h1, h2, h3, h4, hK⟩ := hslice3_sound (P := P) (cap := c) true hc (Nat.le_refl _) hcl.1 hl hl' hh hh' hm hm'
          cases m with
          | none =>
            refine ⟨_, _, run_slice_sl hu hi hrun, imm_cut hx hs h1 (by simpa using h2) (by have := hcl.1; simp only [Option.getD_none] at h2 ⊢; omega) (Nat.le_refl _) _ ?_, hK⟩
            intro q
            simp at q
            try rw [Option.getD_none]
            rw [hcl.2 q.1]
            rcases q.2 with q | q
            · exact (h4 q).symm
            · exact q.symm
          | some m =>
            simp at h2 h3
            refine ⟨_, _, run_slice_sl hu hi hrun, imm_cut hx hs h1 (by omega) (by simpa using h2) (by simp; omega) _ ?_, hK⟩
            intro q
            simpa using q
        | _ => subst hx'; cases hx
      | sl n ver i len cp =>
        obtain ⟨hlv, hsz', hc⟩ := hc
        obtain ⟨E, opn, p, b, o, sz, cap, hq, hp, hv, hkd, _, hrow⟩ := h.live hlv
        rw [hq] at hsz'
        simp only [hsz] at hsz'
        subst hsz'
        cases hx with
        | sl n ver i len cp u p' hp' hv' hh2 h1' =>
          rw [hp] at hp'; cases hp'
          have hsl := hh2 hv.symm
          rw [hkd] at hsl
          obtain ⟨a, c, rfl, hlc, hcm, hn, ha, hcc⟩ := id hsl
          have hrl := hrow.len
          have hlim : len ≤ hlim (getP PS n) i len cp ∧ hlim (getP PS n) i len cp ≤ c := by
            cases cp with
            | none => rw [hq]; simp only [Go.Eng.hlim, hrest]; have := hcc.2; exact ⟨Nat.le_max_left _ _, by omega⟩
            | some c' => simp only at hcc; subst hcc; exact ⟨hlc, Nat.le_refl _⟩
          obtain ⟨l, hi2, m, hrun, h1, h2, h3, h4, hK⟩ := hslice3_sound (P := P) (cap := c) true hc hlim.1 hlim.2 hl hl' hh hh' hm hm'
          cases m with
          | none =>
            simp only [Option.getD_none] at h2 h3 hrun
            refine ⟨_, _, run_slice_sl hu hi hrun, .sl n ver (i + l) (hi2 - l) (cp.map (· - l)) _ p hp (by omega) (fun _ => ?_) rfl, hK⟩
            rw [hkd]
            refine sl_cut (s := ti.size) rfl hsl h1 (by omega) (Nat.le_refl _) _ (i + l) 0 (by rw [Nat.add_mul]; omega) ?_
            cases cp with
            | none => exact ⟨rfl, by have := hcc.2; omega⟩
            | some c' => simp only at hcc; subst hcc; rfl
          | some m =>
            simp only [Option.getD_some] at h2 h3 hrun
            refine ⟨_, _, run_slice_sl hu hi hrun, .sl n ver (i + l) (hi2 - l) (some (m - l)) _ p hp (by omega) (fun _ => ?_) rfl, hK⟩
            rw [hkd]
            exact sl_cut (s := ti.size) rfl hsl h1 (by omega) (by omega) _ (i + l) 0 (by rw [Nat.add_mul]; omega) rfl
      | isl n ver i k len cp =>
        obtain ⟨hlv, hc⟩ := hc
        obtain ⟨E, opn, p, b, o, sz, cap, hq, hp, hv, hkd, _, hrow⟩ := h.live hlv
        cases hx with
        | isl n ver i k len cp u p' hp' hv' hh2 h1' =>
          rw [hp] at hp'; cases hp'
          have hsl := hh2 hv.symm
          rw [hkd] at hsl
          obtain ⟨a, c, rfl, hlc, hcm, hn, ha, hcc⟩ := id hsl
          simp only at hcc
          subst hcc
          obtain ⟨l, hi2, m, hrun, h1, h2, h3, h4, hK⟩ := hslice3_sound (P := P) (cap := c) true hc hlc (Nat.le_refl _) hl hl' hh hh' hm hm'
          cases m with
          | none =>
            simp only [Option.getD_none] at h2 h3 hrun
            refine ⟨_, _, run_slice_sl hu hi hrun, .isl n ver i (k + l * ti.size) (hi2 - l) (c - l) _ p hp (by omega) (fun _ => ?_) rfl, hK⟩
            rw [hkd]
            exact sl_cut (s := ti.size) rfl hsl h1 (by omega) (Nat.le_refl _) _ i _ (by omega) rfl
          | some m =>
            simp only [Option.getD_some] at h2 h3 hrun
            refine ⟨_, _, run_slice_sl hu hi hrun, .isl n ver i (k + l * ti.size) (hi2 - l) (m - l) _ p hp (by omega) (fun _ => ?_) rfl, hK⟩
            rw [hkd]
            exact sl_cut (s := ti.size) rfl hsl h1 (by omega) (by omega) _ i _ (by omega) rfl
      | _ => exact hc.elim
  · rename_i N e' hu
    simp only [arOf, hu] at hc
    cases hi : P.info? e' with
    | none => simp [hi] at hc
    | some ti =>
      simp only [hi] at hc
      obtain ⟨b, o, l, h2, m, y, rfl, hrun, hv, hK⟩ := hslar_sound (P := P) h hx hl hl' hh hh' hm hm' hc
      exact ⟨y, _, run_slice_ar hu hi hrun, hv, hK⟩
  · rename_i ar hu
    unfold arOf at hc
    cases hu2 : P.underlying ar with
    | none => simp [hu2] at hc
    | some d =>
      cases d with
      | array N e' =>
        cases hi : P.info? e' with
        | none => simp [hu2, hi] at hc
        | some ti =>
          simp only [hu2, hi] at hc
          obtain ⟨b, o, l, h2, m, y, rfl, hrun, hv, hK⟩ := hslar_sound (P := P) h hx hl hl' hh hh' hm hm' hc
          exact ⟨y, _, run_slice_pa hu hu2 hi hrun, hv, hK⟩
      | _ => simp [hu2] at hc
  · exact hc.elim
end
end Go.Eng
