/-
  The abstract meaning of the operations that only compute a value from slots and memory, and that it holds of the model.
  No conditions.
-/
import Derived.Test.YtmnhpggplblbgaaGreatEngC
import Derived.Test.YtmnhpggplblbgaaGreatEngCa
namespace Go.Eng
open Go
set_option linter.unusedSectionVars false
variable [Toks]
set_option linter.unusedSimpArgs false

def InR64 (n : Int) : Prop := -9223372036854775808 ≤ n ∧ n ≤ 9223372036854775807
def InU64 (n : Int) : Prop := 0 ≤ n ∧ n ≤ 18446744073709551615
theorem wrap_i64 {n : Int} (h : InR64 n) : IntKind.i64.wrap n = n := by
  obtain ⟨h1, h2⟩ := h
  simp only [IntKind.wrap, IntKind.bits, IntKind.signed]
  simp only [Bool.true_and, Bool.false_and, Nat.reduceSub, Int.reducePow, ge_iff_le, decide_eq_true_eq, Bool.false_eq_true, if_false]
  omega
theorem wrap_u64 {n : Int} (h : InU64 n) : IntKind.u64.wrap n = n := by
  obtain ⟨h1, h2⟩ := h
  simp only [IntKind.wrap, IntKind.bits, IntKind.signed]
  simp only [Bool.true_and, Bool.false_and, Nat.reduceSub, Int.reducePow, ge_iff_le, decide_eq_true_eq, Bool.false_eq_true, if_false]
  omega
/-- A sum of an int: it must fit; of the other kinds: it wraps. -/
def hfit (k : IntKind) (n : Int) (K : HV → Prop) : Prop :=
  match k with
  | .i64 => InR64 n ∧ K (.int .i64 n)
  | k => K (.int k (k.wrap n))
def hbits (op : BinOp) (k : IntKind) (x y : Int) : Int :=
  let a := BitVec.ofInt k.bits x
  let b := BitVec.ofInt k.bits y
  match op with
  | .and => k.wrap (a &&& b).toNat
  | .or => k.wrap (a ||| b).toNat
  | .xor => k.wrap (a ^^^ b).toNat
  | _ => k.wrap (a &&& ~~~b).toNat
def hint (op : BinOp) (k : IntKind) (a : Int) (k' : IntKind) (b : Int) (K : HV → Prop) : Prop :=
  match op with
  | .shl => 0 ≤ b ∧ K (.int k (k.wrap (a * 2 ^ (min b.toNat k.bits))))
  | .shr => 0 ≤ b ∧ K (.int k (a.fdiv (2 ^ (min b.toNat k.bits))))
  | .add => k = k' ∧ hfit k (a + b) K
  | .sub => k = k' ∧ hfit k (a - b) K
  | .mul => k = k' ∧ hfit k (a * b) K
  | .quo => k = k' ∧ b ≠ 0 ∧ hfit k (a.tdiv b) K
  | .rem => k = k' ∧ b ≠ 0 ∧ K (.int k (a.tmod b))
  | .and | .or | .xor | .andNot => k = k' ∧ K (.int k (hbits op k a b))
  | .eql => k = k' ∧ K (.bool (decide (a = b)))
  | .neq => k = k' ∧ K (.bool (!decide (a = b)))
  | .lss => k = k' ∧ K (.bool (decide (a < b)))
  | .leq => k = k' ∧ K (.bool (decide (a ≤ b)))
  | .gtr => k = k' ∧ K (.bool (decide (b < a)))
  | .geq => k = k' ∧ K (.bool (decide (b ≤ a)))
def hstr (op : BinOp) (a b : List UInt8) (K : HV → Prop) : Prop :=
  match op with
  | .add => a.length + b.length ≤ maxLen ∧ K (.str (a ++ b))
  | .eql => K (.bool (decide (a = b)))
  | .neq => K (.bool (!decide (a = b)))
  | .lss => K (.bool (Op.bytesLess a b))
  | .leq => K (.bool (Op.bytesLess a b || decide (a = b)))
  | .gtr => K (.bool (!(Op.bytesLess a b || decide (a = b))))
  | .geq => K (.bool (!Op.bytesLess a b))
  | _ => False
/-- Is a pointer to a row that lives. -/
def hlive (q : Piece) (ver : Nat) : Prop :=
  match q with
  | .arr ver' _ E opn => ver = ver' ∧ (opn = false ∨ E ≠ [])
  | _ => False
/-- A test's outcome. -/
def hbt : BinOp → Bool → (HV → Prop) → Prop
  | .eql, r, K => K (.bool r)
  | .neq, r, K => K (.bool (!r))
  | _, _, _ => False
/-- Cells of two aggregates that may be compared, and whether they are alike. -/
def hfits : Nat → HV → HV → Prop
  | 0, .bool _, .bool _ => True
  | 1, .int k _, .int k' _ => k = k'
  | 2, .str _, .str _ => True
  | 1, .tok k _, .int k' _ => k = k'
  | 1, .int k _, .tok k' _ => k = k'
  | 1, .tok k _, .tok k' _ => k = k'
  | 2, .stok _, .str _ => True
  | 2, .str _, .stok _ => True
  | 2, .stok _, .stok _ => True
  | _, _, _ => False
def heqv : HV → HV → Bool
  | .bool a, .bool b => a == b
  | .int _ a, .int _ b => decide (a = b)
  | .str a, .str b => decide (a = b)
  | .tok _ i, .int _ b => decide (Toks.num i = b)
  | .int _ a, .tok _ j => decide (a = Toks.num j)
  | .tok _ i, .tok _ j => decide (Toks.num i = Toks.num j)
  | .stok i, .str b => decide (Toks.str i = b)
  | .str a, .stok j => decide (a = Toks.str j)
  | .stok i, .stok j => decide (Toks.str i = Toks.str j)
  | _, _ => false
def hfitAll (ps : Cells) (a b : List HV) : Prop := ∀ p ∈ ps, hfits p.2 (get a p.1) (get b p.1)
def hcmp (ps : Cells) (a b : List HV) : Bool := ps.all fun p => heqv (get a p.1) (get b p.1)
def eqO (P : Program) (t : TypeId) : Option Cells :=
  if P.eqGuardType P.depth t then none else
  match P.underlying t with
  | some (.struct _) | some (.array _ _) => eqK P 40 t
  | _ => none
def heqs (a b : List HV) (op : BinOp) (K : HV → Prop) : Option Cells → Prop
  | some ps => hfitAll ps a b ∧ hbt op (hcmp ps a b) K
  | none => False
/-- Pointers into one row. -/
def psz (P : Program) (t : TypeId) : Bool :=
  match P.underlying t with
  | some (.pointer s) => (match P.info? s with | some i => i.size != 0 | none => false)
  | _ => false
def hszl (q : Piece) (ver k k' : Nat) : Prop :=
  match q with
  | .arr v sz E opn => ver = v ∧ (opn = false ∨ E ≠ []) ∧ k < sz ∧ k' < sz
  | _ => False
/-- A number told by its name. -/
def rename (f : Option Nat) (K : HV → Prop) (v : HV) : Prop :=
  match f with
  | some j => (match v with | .int k n => n = Toks.num j ∧ K (.tok k j) | _ => False)
  | none => K v
theorem rename_mono {f : Option Nat} {K K' : HV → Prop} (hk : ∀ v, K v → K' v) {v : HV} (h : rename f K v) : rename f K' v := by
  unfold rename at *
  split at h
  · split at h
    · exact ⟨h.1, hk _ h.2⟩
    · exact h
  · exact hk _ h
theorem rename_wit {f : Option Nat} {K : HV → Prop} {v : HV} (h : rename f K v) : ∃ z, rename f (fun u => u = z) v ∧ K z := by
  unfold rename at *
  split at h
  · split at h
    · exact ⟨_, ⟨h.1, rfl⟩, h.2⟩
    · exact h.elim
  · exact ⟨v, rfl, h⟩
theorem rename_rel {M : Nat → Prop} {e : List Pos} {w : World} {f : Option Nat} {K : HV → Prop} {y : HV} {v : Value} (hv : VRel M e w y v) (h : rename f K y) : ∃ z, VRel M e w z v ∧ K z := by
  unfold rename at h
  split at h
  · split at h
    · obtain ⟨rfl, h2⟩ := h
      cases hv; exact ⟨_, .tok _ _, h2⟩
    · exact h.elim
  · exact ⟨y, hv, h⟩
def plusOf (op : BinOp) (i : Nat) (b : Int) : Option Nat :=
  match op with
  | .add => Toks.plus i b
  | .sub => Toks.plus i (-b)
  | _ => none
def plusOf' (op : BinOp) (a : Int) (j : Nat) : Option Nat :=
  match op with
  | .add => Toks.plus j a
  | _ => none
def sumOf (op : BinOp) (i j : Nat) : Option Nat :=
  match op with
  | .add => Toks.sum i j
  | _ => none
def hbin (P : Program) (PS : PL) (op : BinOp) (t : TypeId) (x y : HV) (K : HV → Prop) : Prop :=
  match x, y with
  | .int k a, .int k' b => hint op k a k' b K
  | .str a, .str b => hstr op a b K
  | .bool a, .bool b => P.underlying t = some .bool ∧ hbt op (a == b) K
  | .ptr n ver _ _, .cst (.pointer none) => hlive (getP PS n) ver ∧ (∃ s, P.underlying t = some (.pointer s)) ∧ hbt op false K
  | .iptr _ _, .cst (.pointer none) => (∃ s, P.underlying t = some (.pointer s)) ∧ hbt op false K
  | .cst (.pointer none), .cst (.pointer none) => (∃ s, P.underlying t = some (.pointer s)) ∧ hbt op true K
  | .ptr n ver i k, .ptr n' ver' i' k' => n = n' ∧ ver = ver' ∧ hszl (getP PS n) ver k k' ∧ psz P t = true ∧ hbt op (decide (i = i') && decide (k = k')) K
  | .agg a, .agg b => heqs a b op K (eqO P t)
  | .tok k i, .int k' b => hint op k (Toks.num i) k' b (rename (plusOf op i b) K)
  | .int k a, .tok k' j => hint op k a k' (Toks.num j) (rename (plusOf' op a j) K)
  | .tok k i, .tok k' j => hint op k (Toks.num i) k' (Toks.num j) (rename (sumOf op i j) K)
  | .stok i, .str b => hstr op (Toks.str i) b K
  | .str a, .stok j => hstr op a (Toks.str j) K
  | .stok i, .stok j => hstr op (Toks.str i) (Toks.str j) K
  | _, _ => False
def hun (op : UnOp) (x : HV) (K : HV → Prop) : Prop :=
  match op, x with
  | .neg, .int k n => hfit k (0 - n) K
  | .xor, .int k n => K (.int k (hbits .xor k (if k.signed then -1 else k.max) n))
  | .not, .bool b => K (.bool !b)
  | _, _ => False

theorem run_binOp_int {P : Program} {op : BinOp} {t : TypeId} {k k' : IntKind} {a b : Int} {K : HV → Prop} {w : World} (h : hint op k a k' b K) :
    ∃ y, (do eqGuard op t (.tmp 0) (.tmp 0) (.int k a) (.int k' b); binOp op t (.int k a) (.int k' b) : Sem Value).run P w = .ok y w ∧ ∃ x, (∀ M e, VRel M e w x y) ∧ K x := by
  have hfit' : ∀ n : Int, hfit k n K → ∃ y, Sem.run P (pure (Value.int k (k.wrap n)) : Sem Value) w = .ok y w ∧ ∃ x, (∀ M e, VRel M e w x y) ∧ K x := by
    intro n hn
    cases k with
    | i64 => obtain ⟨h1, h2⟩ := hn; exact ⟨_, rfl, _, fun _ _ => by rw [wrap_i64 h1]; exact .int _ _, h2⟩
    | _ => exact ⟨_, rfl, _, fun _ _ => .int _ _, hn⟩
  have hg : (eqGuard op t (.tmp 0) (.tmp 0) (.int k a) (.int k' b) : Sem Unit).run P w = .ok () w := by
    unfold eqGuard; cases op <;> simp
  rw [Sem.run_bind, hg]
  simp only [Result.andThen_ok]
  cases op <;> simp only [hint] at h
  case add => obtain ⟨rfl, h⟩ := h; simpa [binOp, Op.intArith] using hfit' _ h
  case sub => obtain ⟨rfl, h⟩ := h; simpa [binOp, Op.intArith] using hfit' _ h
  case mul => obtain ⟨rfl, h⟩ := h; simpa [binOp, Op.intArith] using hfit' _ h
  case quo => obtain ⟨rfl, h0, h⟩ := h; simpa [binOp, Op.intDiv, h0] using hfit' _ h
  case rem => obtain ⟨rfl, h0, h⟩ := h; exact ⟨_, by first | (simp [binOp, Op.intDiv, h0]; done) | (simp [binOp, Op.intDiv, h0]; rfl), _, fun _ _ => .int _ _, h⟩
  case shl => obtain ⟨h0, h⟩ := h; exact ⟨_, by first | (simp [binOp, Op.shift, Int.not_lt.2 h0]; done) | (simp [binOp, Op.shift, Int.not_lt.2 h0]; rfl), _, fun _ _ => .int _ _, h⟩
  case shr => obtain ⟨h0, h⟩ := h; exact ⟨_, by first | (simp [binOp, Op.shift, Int.not_lt.2 h0]; done) | (simp [binOp, Op.shift, Int.not_lt.2 h0]; rfl), _, fun _ _ => .int _ _, h⟩
  case and => obtain ⟨rfl, h⟩ := h; exact ⟨_, by first | (simp [binOp, Op.intBits]; done) | (simp [binOp, Op.intBits]; rfl), _, fun _ _ => .int _ _, h⟩
  case or => obtain ⟨rfl, h⟩ := h; exact ⟨_, by first | (simp [binOp, Op.intBits]; done) | (simp [binOp, Op.intBits]; rfl), _, fun _ _ => .int _ _, h⟩
  case xor => obtain ⟨rfl, h⟩ := h; exact ⟨_, by first | (simp [binOp, Op.intBits]; done) | (simp [binOp, Op.intBits]; rfl), _, fun _ _ => .int _ _, h⟩
  case andNot => obtain ⟨rfl, h⟩ := h; exact ⟨_, by simp only [binOp, Op.intBits, ne_eq, not_true_eq_false, if_false]; rfl, _, fun _ _ => .int _ _, h⟩
  case eql => obtain ⟨rfl, h⟩ := h; exact ⟨_, by first | (simp [binOp, Op.intCmp]; done) | (simp [binOp, Op.intCmp]; rfl), _, fun _ _ => .bool _, h⟩
  case neq => obtain ⟨rfl, h⟩ := h; exact ⟨.bool (!decide (a = b)), by first | (simp [binOp, Op.intCmp, bne]; done) | (simp [binOp, Op.intCmp, bne]; rfl), _, fun _ _ => .bool _, h⟩
  case lss => obtain ⟨rfl, h⟩ := h; exact ⟨_, by first | (simp [binOp, Op.intCmp]; done) | (simp [binOp, Op.intCmp]; rfl), _, fun _ _ => .bool _, h⟩
  case leq => obtain ⟨rfl, h⟩ := h; exact ⟨_, by first | (simp [binOp, Op.intCmp]; done) | (simp [binOp, Op.intCmp]; rfl), _, fun _ _ => .bool _, h⟩
  case gtr => obtain ⟨rfl, h⟩ := h; exact ⟨_, by first | (simp [binOp, Op.intCmp]; done) | (simp [binOp, Op.intCmp]; rfl), _, fun _ _ => .bool _, h⟩
  case geq => obtain ⟨rfl, h⟩ := h; exact ⟨_, by first | (simp [binOp, Op.intCmp]; done) | (simp [binOp, Op.intCmp]; rfl), _, fun _ _ => .bool _, h⟩

/-! ### Addresses -/
def hfield (PS : PL) (x : HV) (K : HV → Prop) : Option (Nat × Nat) → Prop
  | some (off, _) => match x with
    | .ptr n ver i k => hlive (getP PS n) ver ∧ K (.ptr n ver i (k + off))
    | .iptr l k => K (.iptr l (k + off))
    | _ => False
  | none => False
def hixsl (PS : PL) (x i : HV) (K : HV → Prop) : Option (TypeId × Nat) → Prop
  | some (_, s) => match x, i with
    | .imm _ E, .int _ i => 0 ≤ i ∧ ∃ l, E[i.toNat]? = some l ∧ l.length = s ∧ K (.iptr l 0)
    | .sl n ver i0 len _, .int _ i => 0 ≤ i ∧ i < len ∧ hrow (getP PS n) ver (i0 + i.toNat) fun l => l.length = s ∧ K (.ptr n ver (i0 + i.toNat) 0)
    | .isl n ver i0 k len _, .int _ i => 0 ≤ i ∧ i < len ∧ hlive (getP PS n) ver ∧ K (.ptr n ver i0 (k + i.toNat * s))
    | _, _ => False
  | none => False
def hixar (PS : PL) (x i : HV) (K : HV → Prop) : Option (Nat × TypeId × Nat) → Prop
  | some (N, _, s) => match x, i with
    | .ptr n ver i0 k, .int _ i => 0 ≤ i ∧ i < N ∧ hlive (getP PS n) ver ∧ K (.ptr n ver i0 (k + i.toNat * s))
    | .iptr l k, .int _ i => 0 ≤ i ∧ i < N ∧ K (.iptr l (k + i.toNat * s))
    | _, _ => False
  | none => False
def hindexAddr (P : Program) (PS : PL) (t : TypeId) (x i : HV) (K : HV → Prop) : Prop :=
  match slOf P t with
  | some r => hixsl PS x i K (some r)
  | none => hixar PS x i K (arOf P t)

theorem Rel.live {F : Nat → Prop} {e : List Pos} {D : Nat → Nat → Prop} {PS : PL} {w : World} (h : Rel F e D PS w) {n ver : Nat} (hl : hlive (getP PS n) ver) :
    ∃ E opn p b o sz cap, getP PS n = .arr ver sz E opn ∧ e[n]? = some p ∧ p.ver = ver ∧ p.kind = .arr b o sz cap ∧ (∀ x, D n x ↔ x = b) ∧ RowAt (Mut F D) e w E opn b o sz cap := by
  cases hq : getP PS n with
  | arr ver' sz E opn =>
    rw [hq] at hl
    obtain ⟨rfl, hE⟩ := hl
    obtain ⟨p, b, o, cap, h1, h2, h3, h4, h5⟩ := h.row hq hE
    exact ⟨E, opn, p, b, o, sz, cap, rfl, h1, h2, h3, h4, h5⟩
  | dead => rw [hq] at hl; exact hl.elim
  | map _ _ _ _ => rw [hq] at hl; exact hl.elim
  | iter _ _ _ _ _ => rw [hq] at hl; exact hl.elim
theorem hlive_of_row {q : Piece} {ver i : Nat} {K : List HV → Prop} (h : hrow q ver i K) : hlive q ver := by
  unfold hrow at h; unfold hlive
  cases q with
  | arr ver' sz E opn => obtain ⟨h1, l, h2, _⟩ := h; exact ⟨h1, .inr (by rintro rfl; simp at h2)⟩
  | _ => exact h.elim

section
variable {P : Program} {F : Nat → Prop} {e : List Pos} {D : Nat → Nat → Prop} {PS : PL} {w : World}
theorem ptr_live (h : Rel F e D PS w) {n ver i k : Nat} {u : Value} (hx : VRel (Mut F D) e w (.ptr n ver i k) u) (hl : hlive (getP PS n) ver) :
    ∃ p b o sz cap, e[n]? = some p ∧ p.ver = ver ∧ p.kind = .arr b o sz cap ∧ u = .pointer (some ⟨b, o + i * sz + k, none⟩) := by
  obtain ⟨E, opn, p, b, o, sz, cap, _, hp, hv, hk, _⟩ := h.live hl
  cases hx with
  | ptr n ver i k u p' hp' hv' hh h1 =>
    rw [hp] at hp'; cases hp'
    have := hh hv.symm
    rw [hk] at this
    exact ⟨p, b, o, sz, cap, hp, hv, hk, this⟩
theorem hfield_sound (h : Rel F e D PS w) {t : TypeId} {f : Nat} {x : HV} {u : Value} {K : HV → Prop} (hx : VRel (Mut F D) e w x u) (hc : hfield PS x K (fldOf P t f)) :
    ∃ y v, (Instr.fieldAt t u f).run P w = .ok v w ∧ VRel (Mut F D) e w y v ∧ K y := by
  unfold fldOf at hc
  cases hu : P.underlying t with
  | none => simp [hu, hfield] at hc
  | some d =>
    cases d with
    | struct fs =>
      cases hf : fs[f]? with
      | none => simp [hu, hf, hfield] at hc
      | some g =>
        cases hi : P.info? g.type with
        | none => simp [hu, hf, hi, hfield] at hc
        | some i =>
          by_cases hz : i.size = 0
          · simp [hu, hf, hi, hz, hfield] at hc
          · simp only [hu, hf, hi, hz, if_false] at hc
            have run : ∀ b o : Nat, (Instr.fieldAt t (.pointer (some ⟨b, o, none⟩)) f).run P w = .ok (.pointer (some ⟨b, o + g.offset, none⟩)) w := by
              intro b o
              simp only [Instr.fieldAt, Sem.run_bind, run_underlying hu, Result.andThen_ok, hf, Instr.sureAddr, Sem.run_pure, fieldPlace, run_sizeOf' hi, hz, if_false, addr_add]
            cases x with
            | ptr n ver j k =>
              obtain ⟨hl, hK⟩ := hc
              obtain ⟨p, b, o, sz, cap, hp, hv, hkd, rfl⟩ := ptr_live h hx hl
              refine ⟨_, _, run _ _, .ptr n ver j (k + g.offset) _ p hp (by omega) (fun _ => ?_) rfl, hK⟩
              rw [hkd]; simp only [PtrAt]; congr 3; omega
            | iptr l k =>
              cases hx with
              | iptr l k b o val hb h1c hcell hval =>
                refine ⟨_, _, run _ _, ?_, hc⟩
                rw [Nat.add_assoc]
                exact .iptr l (k + g.offset) b o val hb h1c hcell hval
            | _ => exact hc.elim
    | _ => simp [hu, hfield] at hc

theorem run_indexAt_slice {t e' : TypeId} {i : TypeInfo} (hu : P.underlying t = some (.slice e')) (hi : P.info? e' = some i) (b o len c : Nat) (k : IntKind) (j : Int) (h0 : 0 ≤ j) (h1 : j < len) (w : World) :
    (Instr.indexAt t (.slice (some ⟨b, o, none⟩) len c) (.int k j)).run P w = .ok (.pointer (some ⟨b, o + j.toNat * i.size, none⟩)) w := by
  simp [Instr.indexAt, asIntOf, run_underlying hu, h0, h1, run_sizeOf' hi, addr_add]
theorem run_indexAt_array {t e' : TypeId} {N : Nat} {i : TypeInfo} (hu : P.underlying t = some (.array N e')) (hi : P.info? e' = some i) (b o : Nat) (k : IntKind) (j : Int) (h0 : 0 ≤ j) (h1 : j < N) (w : World) :
    (Instr.indexAt t (.pointer (some ⟨b, o, none⟩)) (.int k j)).run P w = .ok (.pointer (some ⟨b, o + j.toNat * i.size, none⟩)) w := by
  simp [Instr.indexAt, asIntOf, run_underlying hu, h0, h1, run_sizeOf' hi, addr_add, Instr.sureAddr]

theorem hindexAddr_sound (h : Rel F e D PS w) {t : TypeId} {x i : HV} {u v : Value} {K : HV → Prop} (hx : VRel (Mut F D) e w x u) (hiv : VRel (Mut F D) e w i v)
    (hc : hindexAddr P PS t x i K) : ∃ y z, (Instr.indexAt t u v).run P w = .ok z w ∧ VRel (Mut F D) e w y z ∧ K y := by
  unfold hindexAddr at hc
  unfold slOf at hc
  cases hu : P.underlying t with
  | none => simp [hu, arOf, hixar] at hc
  | some d =>
    cases d with
    | slice e' =>
      cases hi : P.info? e' with
      | none => simp [hu, hi, arOf, hixar] at hc
      | some ti =>
        simp only [hu, hi] at hc
        cases x with
        | imm t' E =>
          cases i with
          | int k j =>
            obtain ⟨h0, l, hl, hs, hK⟩ := hc
            cases hiv
            cases hx with
            | imm t' E a c b o sz val hcl hm ht hn ha hb hsz h1c hcell hval =>
              have hlt : j.toNat < E.length := (List.getElem?_eq_some_iff.1 hl).1
              have hE : E ≠ [] := by rintro rfl; simp at hl
              obtain rfl := ha (by omega)
              have hsz' : sz = ti.size := by rw [← hs]; exact (hsz l (List.mem_of_getElem? hl)).symm
              refine ⟨_, _, run_indexAt_slice hu hi b o _ c k j h0 (by omega) w, ?_, hK⟩
              have := VRel.iptr (M := Mut F D) (e := e) (w := w) l 0 b (o + j.toNat * ti.size) (fun q => val j.toNat q) (hb hE) (fun q => h1c _ _)
                (fun q y hy => by rw [← hsz']; exact hcell j.toNat l q y hl hy) (fun q y hy => hval j.toNat l q y hl hy)
              simpa using this
          | _ => exact hc.elim
        | sl n ver i0 len cp =>
          cases i with
          | int k j =>
            obtain ⟨h0, h1, hr⟩ := hc
            cases hiv
            have hl := hlive_of_row hr
            obtain ⟨E, opn, p, b, o, sz, cap, hq, hp, hv, hkd, _, hrow⟩ := h.live hl
            rw [hq] at hr
            obtain ⟨_, l, hl', hs, hK⟩ := hr
            obtain ⟨cs, ty, _, _, hszs, _⟩ := hrow.row
            have hsz' : sz = ti.size := by rw [← hs]; exact (hszs l (List.mem_of_getElem? hl')).symm
            cases hx with
            | sl n ver i0 len cp u p' hp' hv' hh h1' =>
              rw [hp] at hp'; cases hp'
              have := hh hv.symm
              rw [hkd] at this
              obtain ⟨a, c, rfl, hlc, _, _, ha, _⟩ := this
              obtain rfl := ha (by omega)
              refine ⟨_, _, run_indexAt_slice hu hi b _ len c k j h0 h1 w, .ptr n ver (i0 + j.toNat) 0 _ p hp (by omega) (fun _ => ?_) rfl, hK⟩
              rw [hkd]; simp only [PtrAt]; rw [hsz', Nat.add_mul]; congr 3; omega
          | _ => exact hc.elim
        | isl n ver i0 k0 len cp =>
          cases i with
          | int k j =>
            obtain ⟨h0, h1, hl, hK⟩ := hc
            cases hiv
            obtain ⟨E, opn, p, b, o, sz, cap, hq, hp, hv, hkd, _, hrow⟩ := h.live hl
            cases hx with
            | isl n ver i0 k0 len cp u p' hp' hv' hh h1' =>
              rw [hp] at hp'; cases hp'
              have := hh hv.symm
              rw [hkd] at this
              obtain ⟨a, c, rfl, hlc, _, _, ha, _⟩ := this
              obtain rfl := ha (by omega)
              refine ⟨_, _, run_indexAt_slice hu hi b _ len c k j h0 h1 w, .ptr n ver i0 (k0 + j.toNat * ti.size) _ p hp (by omega) (fun _ => ?_) rfl, hK⟩
              rw [hkd]; simp only [PtrAt]; congr 3; omega
          | _ => exact hc.elim
        | _ => exact hc.elim
    | array N e' =>
      simp only [hu, arOf] at hc
      cases hi : P.info? e' with
      | none => simp [hi, hixar] at hc
      | some ti =>
        simp only [hi] at hc
        cases x with
        | ptr n ver i0 k0 =>
          cases i with
          | int k j =>
            obtain ⟨h0, h1, hl, hK⟩ := hc
            cases hiv
            obtain ⟨p, b, o, sz, cap, hp, hv, hkd, rfl⟩ := ptr_live h hx hl
            refine ⟨_, _, run_indexAt_array hu hi b _ k j h0 h1 w, .ptr n ver i0 (k0 + j.toNat * ti.size) _ p hp (by omega) (fun _ => ?_) rfl, hK⟩
            rw [hkd]; simp only [PtrAt]; congr 3; omega
          | _ => exact hc.elim
        | iptr l k0 =>
          cases i with
          | int k j =>
            obtain ⟨h0, h1, hK⟩ := hc
            cases hiv
            cases hx with
            | iptr l k0 b o val hb h1c hcell hval =>
              refine ⟨_, _, run_indexAt_array hu hi b _ k j h0 h1 w, ?_, hK⟩
              rw [Nat.add_assoc]
              exact .iptr l (k0 + j.toNat * ti.size) b o val hb h1c hcell hval
          | _ => exact hc.elim
        | _ => exact hc.elim
    | _ => simp [hu, arOf, hixar] at hc
end
end Go.Eng
