/-
  The abstract values, pieces of memory and their relation to the model's worlds. No program in sight.
  No conditions.
-/
import Derived.Test.YtmnhpggplblbgaaGreatRows
import Derived.WalkKit
import Derived.Orders
namespace Go.Eng
open Go

/-- An abstract value: what a slot or a cell holds, said of data (slices of immutable memory by their contents) and of named pieces of memory. -/
inductive HV where
  | bool (b : Bool)
  | int (k : IntKind) (n : Int)
  | str (s : List UInt8)
  | cst (v : Value)
  | imm (t : Bool) (E : List (List HV))
  | iptr (c : List HV) (k : Nat)
  | ptr (n ver i k : Nat)
  | sl (n ver i len : Nat) (cap : Option Nat)
  | isl (n ver i k len cap : Nat)
  | ref (n ver : Nat)
  | agg (c : List HV)
  | tup (c : List HV)
  | func (fn : Fn) (first cap : List HV)
  | iface (t : TypeId) (x : HV)
  | any (k : IntKind) (q r : Int)
  | anyb
  | tok (k : IntKind) (i : Nat)
  | stok (i : Nat)
  | junk

/-- Unknown numbers and strings, by their names; what is known of them: between which numbers they lie, the names of sums, of lengths, which of two is less. -/
class Toks where
  num : Nat → Int
  str : Nat → List UInt8
  lo : Nat → Int
  hi : Nat → Int
  plus : Nat → Int → Option Nat
  sum : Nat → Nat → Option Nat
  conv : Nat → IntKind → Option Nat
  slen : Nat → Option Nat
  ord : Nat → Nat → Option Ordering
  rem : Nat → Int → Option Int
  rng : ∀ i, lo i ≤ num i ∧ num i ≤ hi i
  plus_ok : ∀ i b j, plus i b = some j → num j = num i + b
  sum_ok : ∀ i j l, sum i j = some l → num l = num i + num j
  conv_ok : ∀ i k j, conv i k = some j → num j = num i
  slen_ok : ∀ i j, slen i = some j → num j = (str i).length
  ord_ok : ∀ i j o, ord i j = some o → compare (num i) (num j) = o
  rem_ok : ∀ i b r, rem i b = some r → (num i).tmod b = r
/-- Numbers and strings of which nothing more is told. -/
abbrev Toks.of (num : Nat → Int) (str : Nat → List UInt8) : Toks where
  num := num
  str := str
  lo := num
  hi := num
  plus _ _ := none
  sum _ _ := none
  conv _ _ := none
  slen _ := none
  ord _ _ := none
  rem _ _ := none
  rng _ := ⟨Int.le_refl _, Int.le_refl _⟩
  plus_ok _ _ _ h := by cases h
  sum_ok _ _ _ h := by cases h
  conv_ok _ _ _ h := by cases h
  slen_ok _ _ h := by cases h
  ord_ok _ _ _ h := by cases h
  rem_ok _ _ _ h := by cases h
set_option linter.unusedSectionVars false
variable [Toks]

/-- Where a piece lies. -/
inductive PosK where
  | arr (b o sz cap : Nat)
  | nil
  | root (v : Value)
  | dead
structure Pos where
  ver : Nat
  kind : PosK

def EnvLe (e e' : List Pos) : Prop := ∀ (n : Nat) (p : Pos), e[n]? = some p → ∃ p' : Pos, e'[n]? = some p' ∧ (p' = p ∨ p.ver < p'.ver)
theorem EnvLe.refl (e : List Pos) : EnvLe e e := fun _ p h => ⟨p, h, .inl rfl⟩
theorem EnvLe.trans {a b c : List Pos} (h : EnvLe a b) (k : EnvLe b c) : EnvLe a c := by
  intro n p hp
  obtain ⟨p', h1, h2⟩ := h n p hp
  obtain ⟨p'', h3, h4⟩ := k n p' h1
  refine ⟨p'', h3, ?_⟩
  rcases h2 with rfl | h2 <;> rcases h4 with rfl | h4
  · exact .inl rfl
  · exact .inr h4
  · exact .inr h2
  · exact .inr (Nat.lt_trans h2 h4)
theorem EnvLe.snoc (e : List Pos) (p : Pos) : EnvLe e (e ++ [p]) := fun n q h => by
  have hn : n < e.length := by
    rcases Nat.lt_or_ge n e.length with h' | h'
    · exact h'
    · simp [List.getElem?_eq_none h'] at h
  exact ⟨q, by rw [List.getElem?_append_left hn]; exact h, .inl rfl⟩
theorem EnvLe.set (e : List Pos) (n : Nat) (p q : Pos) (h : e[n]? = some p) (hv : p.ver < q.ver) : EnvLe e (e.set n q) := fun m r hr => by
  by_cases hm : n = m
  · subst hm
    rw [h] at hr; cases hr
    have hn : n < e.length := by
      rcases Nat.lt_or_ge n e.length with h' | h'
      · exact h'
      · simp [List.getElem?_eq_none h'] at h
    exact ⟨q, by simp [hn], .inr hv⟩
  · exact ⟨r, by simp [hm, hr], .inl rfl⟩

/-- The slice value of a row's part. -/
def SlAt (p : PosK) (i k len : Nat) (cp : Option Nat) (v : Value) : Prop :=
  match p with
  | .arr b o sz cap => ∃ a c, v = .slice a len c ∧ len ≤ c ∧ c ≤ maxLen ∧ (a = none → c = 0) ∧ (0 < c → a = some ⟨b, o + i * sz + k, none⟩) ∧
      (match cp with | some c' => c = c' | none => k = 0 ∧ i + c = cap)
  | .nil => (∃ a, v = .slice a 0 0) ∧ len = 0 ∧ (cp = none ∨ cp = some 0)
  | _ => True
def PtrAt (p : PosK) (i k : Nat) (v : Value) : Prop :=
  match p with
  | .arr b o sz _ => v = .pointer (some ⟨b, o + i * sz + k, none⟩)
  | _ => True
def RefAt (p : PosK) (v : Value) : Prop :=
  match p with
  | .root u => v = u
  | _ => True

section
variable (M : Nat → Prop) (e : List Pos) (w : World)
/-- The abstract value x describes the value v of the model. -/
inductive VRel : HV → Value → Prop where
  | bool (b : Bool) : VRel (.bool b) (.bool b)
  | int (k : IntKind) (n : Int) : VRel (.int k n) (.int k n)
  | str (s : List UInt8) : VRel (.str s) (.string ⟨s.toArray⟩)
  | cst (v : Value) : VRel (.cst v) v
  | junk (v : Value) : VRel .junk v
  | any (k : IntKind) (q r n : Int) (h : n % q = r) : VRel (.any k q r) (.int k n)
  | anyb (b : Bool) : VRel .anyb (.bool b)
  | tok (k : IntKind) (i : Nat) : VRel (.tok k i) (.int k (Toks.num i))
  | stok (i : Nat) : VRel (.stok i) (.string ⟨(Toks.str i).toArray⟩)
  | imm (t : Bool) (E : List (List HV)) (a : Option Addr) (c : Nat) (b o sz : Nat) (val : Nat → Nat → Value)
      (hc : E.length ≤ c) (hm : c ≤ maxLen) (ht : t = true → c = E.length) (hn : a = none → c = 0)
      (ha : 0 < c → a = some ⟨b, o, none⟩) (hb : E ≠ [] → ¬ M b ∧ b < w.heap.size)
      (hsz : ∀ l ∈ E, l.length = sz) (h1c : ∀ i k, (val i k).oneCell' = true)
      (hcell : ∀ (i : Nat) (l : List HV) (k : Nat) (x : HV), E[i]? = some l → l[k]? = some x → w.cell? ⟨b, o + i * sz + k, none⟩ = some (val i k))
      (hval : ∀ (i : Nat) (l : List HV) (k : Nat) (x : HV), E[i]? = some l → l[k]? = some x → VRel x (val i k)) : VRel (.imm t E) (.slice a E.length c)
  | iptr (l : List HV) (k : Nat) (b o : Nat) (val : Nat → Value) (hb : ¬ M b ∧ b < w.heap.size) (h1c : ∀ j, (val j).oneCell' = true)
      (hcell : ∀ (j : Nat) (x : HV), l[j]? = some x → w.cell? ⟨b, o + j, none⟩ = some (val j))
      (hval : ∀ (j : Nat) (x : HV), l[j]? = some x → VRel x (val j)) : VRel (.iptr l k) (.pointer (some ⟨b, o + k, none⟩))
  | ptr (n ver i k : Nat) (v : Value) (p : Pos) (hp : e[n]? = some p) (hv : ver ≤ p.ver) (h : ver = p.ver → PtrAt p.kind i k v) (h1 : v.oneCell' = true) : VRel (.ptr n ver i k) v
  | sl (n ver i len : Nat) (cp : Option Nat) (v : Value) (p : Pos) (hp : e[n]? = some p) (hv : ver ≤ p.ver) (h : ver = p.ver → SlAt p.kind i 0 len cp v) (h1 : v.oneCell' = true) : VRel (.sl n ver i len cp) v
  | isl (n ver i k len cp : Nat) (v : Value) (p : Pos) (hp : e[n]? = some p) (hv : ver ≤ p.ver) (h : ver = p.ver → SlAt p.kind i k len (some cp) v) (h1 : v.oneCell' = true) : VRel (.isl n ver i k len cp) v
  | ref (n ver : Nat) (v : Value) (p : Pos) (hp : e[n]? = some p) (hv : ver ≤ p.ver) (h : ver = p.ver → RefAt p.kind v) (h1 : v.oneCell' = true) : VRel (.ref n ver) v
  | agg (l : List HV) (vs : Array Value) (hl : vs.size = l.length) (h : ∀ (i : Nat) (x : HV) (u : Value), l[i]? = some x → vs[i]? = some u → VRel x u) : VRel (.agg l) (.agg vs)
  | tup (l : List HV) (vs : Array Value) (hl : vs.size = l.length) (h : ∀ (i : Nat) (x : HV) (u : Value), l[i]? = some x → vs[i]? = some u → VRel x u) : VRel (.tup l) (.tuple vs)
  | func (fn : Fn) (f c : List HV) (fs cs : Array Value) (hf : fs.size = f.length) (hc : cs.size = c.length)
      (h : ∀ (i : Nat) (x : HV) (u : Value), f[i]? = some x → fs[i]? = some u → VRel x u) (h' : ∀ (i : Nat) (x : HV) (u : Value), c[i]? = some x → cs[i]? = some u → VRel x u) : VRel (.func fn f c) (.func fn fs cs)
  | iface (t : TypeId) (x : HV) (u : Value) (h : VRel x u) : VRel (.iface t x) (.iface t u)
end

/-- What stays: what lies below the heap's size and is not mutable is as it was; nothing that was there becomes mutable. -/
structure Stays (M : Nat → Prop) (w : World) (M' : Nat → Prop) (w' : World) : Prop where
  size : w.heap.size ≤ w'.heap.size
  same : ∀ b, b < w.heap.size → ¬ M b → w'.heap[b]? = w.heap[b]?
  less : ∀ b, b < w.heap.size → M' b → M b
theorem Stays.refl (M : Nat → Prop) (w : World) : Stays M w M w := ⟨Nat.le_refl _, fun _ _ _ => rfl, fun _ _ h => h⟩
theorem Stays.trans {M M' M'' : Nat → Prop} {w w' w'' : World} (h : Stays M w M' w') (k : Stays M' w' M'' w'') : Stays M w M'' w'' :=
  ⟨Nat.le_trans h.size k.size, fun b hb hm => (k.same b (Nat.lt_of_lt_of_le hb h.size) (fun h' => hm (h.less b hb h'))).trans (h.same b hb hm),
   fun b hb hm => h.less b hb (k.less b (Nat.lt_of_lt_of_le hb h.size) hm)⟩

theorem VRel.mono {M M' : Nat → Prop} {e e' : List Pos} {w w' : World} (hs : Stays M w M' w') (he : EnvLe e e') {x : HV} {v : Value} (h : VRel M e w x v) : VRel M' e' w' x v := by
  induction h with
  | bool b => exact .bool b
  | int k n => exact .int k n
  | str s => exact .str s
  | cst v => exact .cst v
  | junk v => exact .junk v
  | any k q r n h => exact .any k q r n h
  | anyb b => exact .anyb b
  | tok k i => exact .tok k i
  | stok i => exact .stok i
  | imm t E a c b o sz val hc hm ht hn ha hb hsz h1c hcell _ ih =>
    refine .imm t E a c b o sz val hc hm ht hn ha ?_ hsz h1c ?_ ih
    · intro hE
      obtain ⟨h1, h2⟩ := hb hE
      exact ⟨fun h' => h1 (hs.less b h2 h'), Nat.lt_of_lt_of_le h2 hs.size⟩
    · intro i l k x hi hk
      have hE : E ≠ [] := by rintro rfl; simp at hi
      obtain ⟨h1, h2⟩ := hb hE
      rw [← hcell i l k x hi hk]
      exact World.cell?_of_block (hs.same b h2 h1)
  | iptr l k b o val hb h1c hcell _ ih =>
    refine .iptr l k b o val ⟨fun h' => hb.1 (hs.less b hb.2 h'), Nat.lt_of_lt_of_le hb.2 hs.size⟩ h1c ?_ ih
    intro j x hj
    rw [← hcell j x hj]
    exact World.cell?_of_block (hs.same b hb.2 hb.1)
  | ptr n ver i k v p hp hv h h1' =>
    obtain ⟨p', h1, h2⟩ := he n p hp
    rcases h2 with rfl | h2
    · exact .ptr n ver i k v p' h1 hv h h1'
    · exact .ptr n ver i k v p' h1 (by omega) (fun h' => by omega) h1'
  | sl n ver i len cp v p hp hv h h1' =>
    obtain ⟨p', h1, h2⟩ := he n p hp
    rcases h2 with rfl | h2
    · exact .sl n ver i len cp v p' h1 hv h h1'
    · exact .sl n ver i len cp v p' h1 (by omega) (fun h' => by omega) h1'
  | isl n ver i k len cp v p hp hv h h1' =>
    obtain ⟨p', h1, h2⟩ := he n p hp
    rcases h2 with rfl | h2
    · exact .isl n ver i k len cp v p' h1 hv h h1'
    · exact .isl n ver i k len cp v p' h1 (by omega) (fun h' => by omega) h1'
  | ref n ver v p hp hv h h1' =>
    obtain ⟨p', h1, h2⟩ := he n p hp
    rcases h2 with rfl | h2
    · exact .ref n ver v p' h1 hv h h1'
    · exact .ref n ver v p' h1 (by omega) (fun h' => by omega) h1'
  | agg l vs hl _ ih => exact .agg l vs hl ih
  | tup l vs hl _ ih => exact .tup l vs hl ih
  | func fn f c fs cs hf hc _ _ ih ih' => exact .func fn f c fs cs hf hc ih ih'
  | iface t x u _ ih => exact .iface t x u ih

inductive Piece where
  | dead
  | arr (ver sz : Nat) (E : List (List HV)) (opn : Bool)
  | map (ver clock : Nat) (k : IntKind) (E : List (Nat × Int × HV))
  | iter (ver : Nat) (x : HV) (since : Nat) (seen : List Nat) (last : Nat)

/-- Row of a piece: the block's cells. -/
structure RowAt (M : Nat → Prop) (e : List Pos) (w : World) (E : List (List HV)) (opn : Bool) (b o sz cap : Nat) : Prop where
  len : E.length ≤ cap
  shut : opn = false → E.length = cap
  most : cap ≤ maxLen
  row : ∃ cs ty, w.heap[b]? = some (.cells cs ty (0, 0)) ∧ o + cap * sz ≤ cs.size ∧
    (∀ l ∈ E, l.length = sz) ∧ ∀ (i : Nat) (l : List HV) (k : Nat) (x : HV), E[i]? = some l → l[k]? = some x → ∃ u, cs[o + i * sz + k]? = some u ∧ u.oneCell' = true ∧ VRel M e w x u

/-- A map's entries, and the count of those that were made. -/
def MapAt (M : Nat → Prop) (e : List Pos) (w : World) (clock : Nat) (k : IntKind) (E : List (Nat × Int × HV)) (b : Nat) : Prop :=
  ∃ es : Array MapEntry, w.heap[b]? = some (.map es clock) ∧ es.size = E.length ∧
    ∀ (i : Nat) (n : Nat) (x : Int) (y : HV) (u : MapEntry), E[i]? = some (n, x, y) → es[i]? = some u → u.born = n ∧ n < clock ∧ u.key = .int k x ∧ VRel M e w y u.val
def PHolds (M : Nat → Prop) (e : List Pos) (w : World) (D : Nat → Prop) (q : Piece) (p : Pos) : Prop :=
  match q, p.kind with
  | .dead, _ => ∀ b, ¬ D b
  | .arr ver sz E opn, .arr b o sz' cap => ver = p.ver ∧ sz = sz' ∧ (∀ x, D x ↔ x = b) ∧ RowAt M e w E opn b o sz cap
  | .arr ver _ E opn, .nil => ver = p.ver ∧ E = [] ∧ opn = true ∧ ∀ b, ¬ D b
  | .map ver clock k E, .root v => ver = p.ver ∧ ∃ b, v = .map (some b) ∧ (∀ x, D x ↔ x = b) ∧ MapAt M e w clock k E b
  | .iter ver x since seen last, .root v => ver = p.ver ∧ ∃ b, v = .pointer (some ⟨b, 0, none⟩) ∧ (∀ x, D x ↔ x = b) ∧
      ∃ m, VRel M e w x (.map (some m)) ∧ w.heap[b]? = some (.mapIter (some m) since seen.toArray last)
  | _, _ => False

/-- The blocks that may be written. -/
def Mut (F : Nat → Prop) (D : Nat → Nat → Prop) (b : Nat) : Prop := F b ∨ ∃ i, D i b

structure Rel (F : Nat → Prop) (e : List Pos) (D : Nat → Nat → Prop) (PS : List Piece) (w : World) : Prop where
  len : e.length = PS.length
  out : ∀ i b, D i b → i < PS.length ∧ b < w.heap.size ∧ ¬ F b
  fore : ∀ b, F b → b < w.heap.size
  apart : ∀ i j b, D i b → D j b → i = j
  holds : ∀ (i : Nat) (q : Piece) (p : Pos), PS[i]? = some q → e[i]? = some p → PHolds (Mut F D) e w (D i) q p
end Go.Eng
