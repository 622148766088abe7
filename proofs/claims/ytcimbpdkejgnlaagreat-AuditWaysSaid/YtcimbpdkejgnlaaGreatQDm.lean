/-
  The data of the document: keys, values, messages, entries, nodes; what is computed of them. No program in sight.
  No conditions.
-/
import Derived.Test.YtcimbpdkejgnlaaGreatQEngZ
set_option linter.unusedSectionVars false
set_option linter.unusedSimpArgs false
set_option linter.unusedVariables false
namespace Go.Mo
open Go Go.Eng
variable [Toks]

abbrev Bs := List UInt8
structure Ms where
  kind : Int
  seq : Nat
  key : Bs
  val : Bs
  by_ : Nat
  deriving DecidableEq
structure Nd where
  leaf : Bool
  ents : List (Bs × Bs)
  kids : List Int
  pivs : List Bs
  msgs : List Ms
  deriving DecidableEq
/-- Bytes, and 0 behind them. -/
def pad (n : Nat) (b : Bs) : Bs := (b ++ List.replicate n 0).take n
def u8s (b : Bs) : List HV := b.map fun x => .int .u8 x.toNat
def keyL (k : Bs) : List HV := .int .i64 k.length :: u8s (pad 8 k)
def valL (v : Bs) : List HV := .int .i64 v.length :: u8s (pad 16 v)
def entL (e : Bs × Bs) : List HV := keyL e.1 ++ valL e.2
def msgL (m : Ms) : List HV := .int .i64 m.kind :: .int .u64 m.seq :: (keyL m.key ++ (valL m.val ++ [.int .u64 m.by_]))
def kidL (i : Int) : List HV := [.int .i64 i]
structure Fl where
  a : Bool
  b : Bool
  c : Bool
  d : Bool
def nodL (t : Fl) (n : Nd) : List HV := [.bool n.leaf, .imm t.a (n.ents.map entL), .imm t.b (n.kids.map kidL), .imm t.c (n.pivs.map keyL), .imm t.d (n.msgs.map msgL)]
def Nd.none : Nd := ⟨false, [], [], [], []⟩

/-- Right sizes. -/
def okK (k : Bs) : Prop := k.length ≤ 8
def okV (v : Bs) : Prop := v.length ≤ 16
structure okM (m : Ms) : Prop where
  kind : -9223372036854775808 ≤ m.kind ∧ m.kind ≤ 9223372036854775807
  seq : m.seq < 18446744073709551616
  key : okK m.key
  val : okV m.val
  by_ : m.by_ < 18446744073709551616
structure okN (n : Nd) : Prop where
  ents : ∀ e ∈ n.ents, okK e.1 ∧ okV e.2
  pivs : ∀ k ∈ n.pivs, okK k
  msgs : ∀ m ∈ n.msgs, okM m
  few : n.ents.length ≤ 1000 ∧ n.kids.length ≤ 1000 ∧ n.pivs.length ≤ 1000 ∧ n.msgs.length ≤ 1000

section
variable {b k v : Bs}
theorem pad_len (n : Nat) (b : Bs) : (pad n b).length = n := by simp [pad]
theorem pad_eq {n : Nat} (h : b.length ≤ n) : pad n b = b ++ List.replicate (n - b.length) 0 := by
  unfold pad
  rw [List.take_append, List.take_of_length_le h, List.take_replicate, Nat.min_eq_left (by omega)]
theorem u8s_len (b : Bs) : (u8s b).length = b.length := by simp [u8s]
@[go_sem ↓, go_sem] theorem keyL_len (k : Bs) : (keyL k).length = 9 := by simp [keyL, u8s_len, pad_len]
@[go_sem ↓, go_sem] theorem valL_len (v : Bs) : (valL v).length = 17 := by simp [valL, u8s_len, pad_len]
theorem pad_inj {n : Nat} {a b : Bs} (ha : a.length ≤ n) (hl : a.length = b.length) (h : pad n a = pad n b) : a = b := by
  rw [pad_eq ha, pad_eq (hl ▸ ha)] at h
  exact (List.append_inj h hl).1
theorem u8s_inj {a b : Bs} (h : u8s a = u8s b) : a = b := by
  induction a generalizing b with
  | nil => cases b <;> simp [u8s] at h ⊢
  | cons x a ih =>
    cases b with
    | nil => simp [u8s] at h
    | cons y b =>
      simp only [u8s, List.map_cons, List.cons.injEq, HV.int.injEq, true_and] at h
      obtain ⟨h1, h2⟩ := h
      have : x = y := UInt8.toNat_inj.1 (by omega)
      rw [this, ih (by simpa [u8s] using h2)]
@[go_sem ↓, go_sem] theorem take_key (k : Bs) (r : List HV) : (keyL k ++ r).take 9 = keyL k := by rw [List.take_append_of_le_length (by rw [keyL_len]; omega), List.take_of_length_le (by rw [keyL_len]; omega)]
@[go_sem ↓, go_sem] theorem drop_key (k : Bs) (r : List HV) : (keyL k ++ r).drop 9 = r := by rw [List.drop_append_of_le_length (by rw [keyL_len]; omega), List.drop_of_length_le (by rw [keyL_len]; omega), List.nil_append]
@[go_sem ↓, go_sem] theorem take_val (v : Bs) (r : List HV) : (valL v ++ r).take 17 = valL v := by rw [List.take_append_of_le_length (by rw [valL_len]; omega), List.take_of_length_le (by rw [valL_len]; omega)]
@[go_sem ↓, go_sem] theorem drop_val (v : Bs) (r : List HV) : (valL v ++ r).drop 17 = r := by rw [List.drop_append_of_le_length (by rw [valL_len]; omega), List.drop_of_length_le (by rw [valL_len]; omega), List.nil_append]
@[go_sem ↓, go_sem] theorem take_key_all (k : Bs) : (keyL k).take 9 = keyL k := List.take_of_length_le (by rw [keyL_len]; omega)
@[go_sem ↓, go_sem] theorem take_val_all (v : Bs) : (valL v).take 17 = valL v := List.take_of_length_le (by rw [valL_len]; omega)
@[go_sem ↓, go_sem] theorem take1_key (k : Bs) : (keyL k).take 1 = [.int .i64 k.length] := _root_.id rfl
@[go_sem ↓, go_sem] theorem take1_val (k : Bs) : (valL k).take 1 = [.int .i64 k.length] := _root_.id rfl
@[go_sem ↓, go_sem] theorem drop1_key (k : Bs) : (keyL k).drop 1 = u8s (pad 8 k) := _root_.id rfl
@[go_sem ↓, go_sem] theorem drop1_val (k : Bs) : (valL k).drop 1 = u8s (pad 16 k) := _root_.id rfl
@[go_sem ↓, go_sem] theorem take_pad8 (k : Bs) : (u8s (pad 8 k)).take 8 = u8s (pad 8 k) := List.take_of_length_le (by simp [u8s_len, pad_len])
@[go_sem ↓, go_sem] theorem take_pad16 (k : Bs) : (u8s (pad 16 k)).take 16 = u8s (pad 16 k) := List.take_of_length_le (by simp [u8s_len, pad_len])
@[go_sem ↓, go_sem] theorem len_pad (n : Nat) (k : Bs) : (u8s (pad n k)).length = n := by simp [u8s_len, pad_len]
@[go_sem ↓, go_sem] theorem get0_key (k : Bs) : (keyL k)[0]? = some (.int .i64 k.length) := _root_.id rfl
@[go_sem ↓, go_sem] theorem get0_val (k : Bs) : (valL k)[0]? = some (.int .i64 k.length) := _root_.id rfl
theorem u8s_get {b : Bs} {i : Nat} {x : UInt8} (h : b[i]? = some x) : (u8s b)[i]? = some (.int .u8 x.toNat) := by simp [u8s, h]
@[go_sem ↓, go_sem] theorem entL_len (e : Bs × Bs) : (entL e).length = 26 := by simp [entL, keyL_len, valL_len]
@[go_sem ↓, go_sem] theorem take_ent_all (e : Bs × Bs) : (entL e).take 26 = entL e := List.take_of_length_le (by rw [entL_len]; omega)
@[go_sem ↓, go_sem] theorem msgL_len (m : Ms) : (msgL m).length = 29 := by simp [msgL, keyL_len, valL_len]
@[go_sem ↓, go_sem] theorem take_msg_all (e : Ms) : (msgL e).take 29 = msgL e := List.take_of_length_le (by rw [msgL_len]; omega)
end
theorem u8s_one (b : Bs) : ∀ y ∈ u8s b, HV.one y = true := by intro y hy; simp [u8s] at hy; obtain ⟨a, _, rfl⟩ := hy; rfl
theorem keyL_one (b : Bs) : ∀ y ∈ keyL b, HV.one y = true := by intro y hy; simp only [keyL, List.mem_cons] at hy; rcases hy with rfl | hy; rfl; exact u8s_one _ y hy
theorem valL_one (b : Bs) : ∀ y ∈ valL b, HV.one y = true := by intro y hy; simp only [valL, List.mem_cons] at hy; rcases hy with rfl | hy; rfl; exact u8s_one _ y hy
theorem entL_one (e : Bs × Bs) : ∀ y ∈ entL e, HV.one y = true := by intro y hy; simp only [entL, List.mem_append] at hy; rcases hy with hy | hy; exact keyL_one _ y hy; exact valL_one _ y hy
theorem msgL_one (m : Ms) : ∀ y ∈ msgL m, HV.one y = true := by
  intro y hy
  simp only [msgL, List.mem_cons, List.mem_append, List.not_mem_nil, or_false] at hy
  rcases hy with rfl | rfl | hy | hy | rfl
  · rfl
  · rfl
  · exact keyL_one _ y hy
  · exact valL_one _ y hy
  · rfl
@[go_sem ↓, go_sem] theorem ones_u8s (b : Bs) : ones (u8s b) = True := eq_true ((ones_iff _).2 (u8s_one b))
@[go_sem ↓, go_sem] theorem ones_key (b : Bs) : ones (keyL b) = True := eq_true ((ones_iff _).2 (keyL_one b))
@[go_sem ↓, go_sem] theorem ones_val (b : Bs) : ones (valL b) = True := eq_true ((ones_iff _).2 (valL_one b))
@[go_sem ↓, go_sem] theorem ones_ent (b : Bs × Bs) : ones (entL b) = True := eq_true ((ones_iff _).2 (entL_one b))
@[go_sem ↓, go_sem] theorem ones_msg (b : Ms) : ones (msgL b) = True := eq_true ((ones_iff _).2 (msgL_one b))
@[go_sem ↓, go_sem] theorem msg_kind (m : Ms) : (msgL m).take 1 = [.int .i64 m.kind] := _root_.id rfl
@[go_sem ↓, go_sem] theorem msg_kind' (m : Ms) : (msgL m)[0]? = some (.int .i64 m.kind) := _root_.id rfl
@[go_sem ↓, go_sem] theorem msg_seq (m : Ms) : ((msgL m).drop 1).take 1 = [.int .u64 m.seq] := _root_.id rfl
@[go_sem ↓, go_sem] theorem msg_seq' (m : Ms) : (msgL m)[1]? = some (.int .u64 m.seq) := _root_.id rfl
@[go_sem ↓, go_sem] theorem msg_key (m : Ms) : ((msgL m).drop 2).take 9 = keyL m.key := by
  have : (msgL m).drop 2 = keyL m.key ++ (valL m.val ++ [HV.int .u64 m.by_]) := rfl
  rw [this, take_key]
theorem msg_drop11 (m : Ms) : (msgL m).drop 11 = valL m.val ++ [HV.int .u64 m.by_] := by
  have : (msgL m).drop 11 = (keyL m.key ++ (valL m.val ++ [HV.int .u64 m.by_])).drop 9 := rfl
  rw [this, drop_key]
@[go_sem ↓, go_sem] theorem msg_val (m : Ms) : ((msgL m).drop 11).take 17 = valL m.val := by rw [msg_drop11, take_val]
@[go_sem ↓, go_sem] theorem msg_by (m : Ms) : ((msgL m).drop 28).take 1 = [HV.int .u64 m.by_] := by
  have : (msgL m).drop 28 = ((msgL m).drop 11).drop 17 := by rw [List.drop_drop]
  rw [this, msg_drop11, drop_val]; rfl
@[go_sem ↓, go_sem] theorem msg_by' (m : Ms) : (msgL m)[28]? = some (.int .u64 m.by_) := by
  have := msg_by m
  rw [List.take_one, List.head?_drop] at this
  cases h : (msgL m)[28]? with
  | none => rw [h] at this; cases this
  | some x => rw [h] at this; simpa using this
@[go_sem ↓, go_sem] theorem msg_keyn (m : Ms) : ((msgL m).drop 2).take 1 = [.int .i64 m.key.length] := _root_.id rfl
@[go_sem ↓, go_sem] theorem msg_valn (m : Ms) : ((msgL m).drop 11).take 1 = [.int .i64 m.val.length] := by rw [msg_drop11]; rfl
@[go_sem ↓, go_sem] theorem ent_keyn (e : Bs × Bs) : (entL e).take 1 = [.int .i64 e.1.length] := _root_.id rfl
@[go_sem ↓, go_sem] theorem ent_valn (e : Bs × Bs) : ((entL e).drop 9).take 1 = [.int .i64 e.2.length] := by rw [entL, drop_key]; rfl
@[go_sem ↓, go_sem] theorem ent_key (e : Bs × Bs) : (entL e).take 9 = keyL e.1 := take_key _ _
@[go_sem ↓, go_sem] theorem ent_val (e : Bs × Bs) : ((entL e).drop 9).take 17 = valL e.2 := by rw [entL, drop_key, take_val_all]
/-- The nodes' slots that name no piece. -/
theorem keyL_sc (n : Nat) (k : Bs) : ∀ x ∈ keyL k, Scoped n x := by intro x hx; simp [keyL, u8s] at hx; rcases hx with rfl | ⟨a, _, rfl⟩ <;> exact .int _ _
theorem valL_sc (n : Nat) (k : Bs) : ∀ x ∈ valL k, Scoped n x := by intro x hx; simp [valL, u8s] at hx; rcases hx with rfl | ⟨a, _, rfl⟩ <;> exact .int _ _
theorem entL_sc (n : Nat) (e : Bs × Bs) : ∀ x ∈ entL e, Scoped n x := by intro x hx; simp only [entL, List.mem_append] at hx; rcases hx with hx | hx; exact keyL_sc n _ x hx; exact valL_sc n _ x hx
theorem msgL_sc (n : Nat) (m : Ms) : ∀ x ∈ msgL m, Scoped n x := by
  intro x hx
  simp only [msgL, List.mem_cons, List.mem_append, List.not_mem_nil, or_false] at hx
  rcases hx with rfl | rfl | hx | hx | rfl
  · exact .int _ _
  · exact .int _ _
  · exact keyL_sc n _ x hx
  · exact valL_sc n _ x hx
  · exact .int _ _
theorem rows_sc {α : Type} (n : Nat) (t : Bool) (f : α → List HV) (l : List α) (h : ∀ a, ∀ x ∈ f a, Scoped n x) : Scoped n (.imm t (l.map f)) := by
  rw [scoped_imm]; intro r hr x hx; simp at hr; obtain ⟨a, _, rfl⟩ := hr; exact h a x hx
theorem nodL_sc (n : Nat) (t : Fl) (d : Nd) : ∀ x ∈ nodL t d, Scoped n x := by
  intro x hx
  simp only [nodL, List.mem_cons, List.not_mem_nil, or_false] at hx
  rcases hx with rfl | rfl | rfl | rfl | rfl
  · exact .bool _
  · exact rows_sc n _ _ _ (entL_sc n)
  · exact rows_sc n _ _ _ (fun a x hx => by simp [kidL] at hx; subst hx; exact .int _ _)
  · exact rows_sc n _ _ _ (keyL_sc n)
  · exact rows_sc n _ _ _ (msgL_sc n)
end Go.Mo
