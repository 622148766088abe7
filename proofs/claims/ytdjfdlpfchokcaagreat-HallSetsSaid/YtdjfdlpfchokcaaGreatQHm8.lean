/-
The cache: what is read of it.
No conditions.
-/
import Derived.Test.YtdjfdlpfchokcaaGreatQHm7
import Derived.Test.YtdjfdlpfchokcaaGreatQHm1
import Derived.Test.YtdjfdlpfchokcaaGreatQFactsA
import Derived.Test.YtdjfdlpfchokcaaGreatQFactsB
import Derived.Test.YtdjfdlpfchokcaaGreatQFactsC
import Derived.Test.YtdjfdlpfchokcaaGreatQFactsD
import Derived.Test.YtdjfdlpfchokcaaGreatQFactsE
import Derived.Test.YtdjfdlpfchokcaaGreatQRunH
import Derived.Test.YtdjfdlpfchokcaaGreatQHm6
set_option linter.unusedSectionVars false
set_option linter.unusedSimpArgs false
set_option linter.unusedVariables false
namespace Go.Ow
open Go Go.Eng Go.Mo
variable [Toks]
structure Fm where
 st : Int
 blk : Int
 pins : Int
 by_ : Int
 rf : Bool
 dy : Bool
 nd : Nd
 deriving DecidableEq
structure Sd where
 t : Int
 b : Int
 deriving DecidableEq
structure Ca where
 fs : List Fm
 line : List Sd
 loads : List Sd
 hand : Nat
def Fm.free : Fm := ⟨0, -1, 0, 0, false, false, Nd.none⟩
def Fm.has (b : Int) (f : Fm) : Bool := decide (f.blk = b) && (decide (f.st = 1) || decide (f.st = 2))
def isT (t : Int) : Bool := decide (0 ≤ t) && decide (t < 8)
def isB (b : Int) : Bool := decide (0 ≤ b) && decide (b < 256)
def sat (l : List Sd) (t : Int) : Option Nat := l.findIdx? fun s => decide (s.t = t)
def sleave (l : List Sd) (t : Int) : List Sd := l.filter fun s => decide (s.t ≠ t)
def tasksOf (l : List Sd) (b : Int) : List Int := (l.filter fun s => decide (s.b = b)).map Sd.t
def wtL (s : Sd) : List HV := [.int .i64 s.t, .int .i64 s.b, .bool (decide (s.b = -1))]
def frL (t : Fl) (f : Fm) : List HV := .int .i64 f.st :: .int .i64 f.blk :: .int .i64 (if f.st = 3 then f.by_ else -1) :: .int .i64 f.pins :: .bool f.rf :: .bool f.dy :: nodL t f.nd
def freeF (fs : List Fm) : Option Nat := fs.findIdx? fun f => decide (f.st = 0)
def turnL (l : List Sd) (t : Int) : Bool := l.head?.all fun s => decide (s.t = t)
def ixI : Option Nat → Int
 | some i => i
 | none => -1
namespace Ca
def find (c : Ca) (b : Int) : Option Nat := c.fs.findIdx? (Fm.has b)
def freeI (c : Ca) : Option Nat := freeF c.fs
def at_ (c : Ca) (i : Nat) : Fm := c.fs.getD i Fm.free
def turn (c : Ca) (t : Int) : Bool := turnL c.line t
def ask (c : Ca) (t b : Int) : Ca := if (sat c.line t).isNone then { c with line := c.line ++ [⟨t, b⟩] } else c
def leave (c : Ca) (t : Int) : Ca := { c with line := sleave c.line t }
def mayW (c : Ca) (t b : Int) : Bool := isT t && (sat c.loads t).isNone && (sat c.line t).all fun k => decide ((c.line.getD k ⟨0, 0⟩).b = b)
def takes (c : Ca) (t : Int) : Option Nat := if c.turn t then c.freeI else none
def put (c : Ca) (i : Nat) (f : Fm) : Ca := { c with fs := c.fs.set i f }
def pin (c : Ca) (t b : Int) : Ca × Int :=
 if isB b && c.mayW t b then
  match c.find b with
  | some i => let c1 := (c.put i { c.at_ i with pins := (c.at_ i).pins + 1, rf := true }).leave t
   if (c.at_ i).st = 2 then (c1, 1) else ({ c1 with loads := c1.loads ++ [⟨t, b⟩] }, 2)
  | none => match c.takes t with
   | some k => ((c.put k ⟨1, b, 1, t, true, false, Nd.none⟩).leave t, 3)
   | none => (c.ask t b, 4)
 else (c, 0)
def fill (c : Ca) (b : Int) (n : Nd) : Ca × List Int × Bool :=
 match c.find b with
 | some i => if (c.at_ i).st = 1 then ({ c.put i { c.at_ i with st := 2, nd := n } with loads := c.loads.filter fun s => decide (s.b ≠ b) }, tasksOf c.loads b, true) else (c, [], false)
 | none => (c, [], false)
def mine (t : Int) (f : Fm) : Bool := decide (f.st = 3) && decide (f.by_ = t)
def claims (c : Ca) (t : Int) : Nat := c.fs.countP (mine t)
def give (c : Ca) (t : Int) : Ca := { c with fs := c.fs.map fun f => if mine t f then Fm.free else f }
def name (c : Ca) (t b : Int) (n : Nd) : Ca × Bool :=
 if isB b && (c.find b).isNone then
  match c.fs.findIdx? (mine t) with
  | some k => (c.put k ⟨2, b, 0, 0, true, true, n⟩, true)
  | none => (c, false)
 else (c, false)
def ready (c : Ca) (b : Int) : Option Nat := (c.find b).filter fun i => decide ((c.at_ i).st = 2)
def unpin (c : Ca) (b : Int) : Ca × Bool :=
 match c.ready b with
 | some i => if (c.at_ i).pins = 0 then (c, false) else (c.put i { c.at_ i with pins := (c.at_ i).pins - 1 }, true)
 | none => (c, false)
def node (c : Ca) (b : Int) : Option Nd := (c.ready b).map fun i => (c.at_ i).nd
def set_ (c : Ca) (b : Int) (n : Nd) : Ca × Bool :=
 match c.ready b with
 | some i => (c.put i { c.at_ i with nd := n, dy := true }, true)
 | none => (c, false)
def can (f : Fm) : Bool := decide (f.st = 2) && decide (f.pins = 0)
def frees (c : Ca) : Nat := c.fs.countP fun f => decide (f.st = 0)
def may (c : Ca) (t : Int) : Bool :=
 isT t && (sat c.loads t).isNone && match sat c.line t with
  | some k => (decide (k = 0) && decide (0 < c.frees)) || (c.find (c.line.getD k ⟨0, 0⟩).b).isSome
  | none => true
end Ca
def sweepF (can : List Bool) (hand : Nat) : Nat → List Bool → Option Nat × List Bool
 | 0, ref => (none, ref)
 | m + 1, ref =>
  let k := (hand + (2 * can.length - (m + 1))) % can.length
  if can.getD k false then (if ref.getD k false then sweepF can hand m (ref.set k false) else (some k, ref)) else sweepF can hand m ref
def Ca.evict (c : Ca) : Ca × Option Fm :=
 let r := sweepF (c.fs.map Ca.can) c.hand (2 * c.fs.length) (c.fs.map Fm.rf)
 match r.1 with
 | some k => ({ c with fs := ((c.fs.zip r.2).map fun p => { p.1 with rf := p.2 }).set k Fm.free, hand := (k + 1) % c.fs.length }, some (c.at_ k))
 | none => (c, none)
structure MapOk (clock : Nat) (E : Ents) : Prop where
 keys : (E.map fun e => e.2.1).Nodup
 born : (E.map fun e => e.1).Nodup
 old : ∀ e ∈ E, e.1 < clock
theorem mget_put (x y : Int) (v : HV) (k : Nat) : ∀ E : Ents, mget x (mput y v k E) = if x = y then some v else mget x E
 | [] => by
  simp only [mput, mget]
  by_cases h : x = y
  ·simp [h]
  ·rw [if_neg h, if_neg (fun e => h e.symm)]
 | e :: E => by
  have ih := mget_put x y v k E
  simp only [mput]
  by_cases hy : e.2.1 = y
  ·rw [if_pos hy]
   simp only [mget]
   by_cases h : x = y
   ·simp [h]
   ·rw [if_neg h, if_neg (fun e => h e.symm), if_neg (fun e' => h (by rw [← e', hy]))]
  ·rw [if_neg hy]
   simp only [mget, ih]
   by_cases h : x = y
   ·subst h; simp [hy]
   ·simp [h]
theorem mget_none {x : Int} : ∀ {E : Ents}, x ∉ (E.map fun e => e.2.1) → mget x E = none
 | [], _ => rfl
 | e :: E, h => by
  simp only [List.map_cons, List.mem_cons, not_or] at h
  have hx : ¬ e.2.1 = x := fun e' => h.1 e'.symm
  simp only [mget, if_neg hx]
  exact mget_none h.2
theorem mget_del (x y : Int) : ∀ {E : Ents}, (E.map fun e => e.2.1).Nodup → mget x (mdel y E) = if x = y then none else mget x E
 | [], _ => by simp [mdel, mget]
 | e :: E, h => by
  rw [List.map_cons, List.nodup_cons] at h
  have ih := mget_del x y h.2
  simp only [mdel]
  by_cases hy : e.2.1 = y
  ·rw [if_pos hy]
   by_cases hx : x = y
   ·rw [if_pos hx, hx, ← hy]; exact mget_none h.1
   ·rw [if_neg hx]; simp only [mget]; rw [if_neg (fun e' => hx (by rw [← e', hy]))]
  ·rw [if_neg hy]
   simp only [mget, ih]
   by_cases hx : x = y
   ·subst hx; simp [hy]
   ·simp [hx]
theorem mem_mput {x : Int} {v : HV} {k : Nat} {e : Nat × Int × HV} : ∀ {E : Ents}, e ∈ mput x v k E → e ∈ E ∨ (e.2 = (x, v) ∧ (e.1 = k ∨ ∃ y, (e.1, x, y) ∈ E))
 | [], h => by simp [mput] at h; subst h; exact .inr ⟨rfl, .inl rfl⟩
 | a :: E, h => by
  simp only [mput] at h
  split at h
  ·rename_i hx
   rcases List.mem_cons.1 h with rfl | h
   ·exact .inr ⟨rfl, .inr ⟨a.2.2, by rw [← hx]; exact List.mem_cons_self ..⟩⟩
   ·exact .inl (List.mem_cons_of_mem _ h)
  ·rcases List.mem_cons.1 h with rfl | h
   ·exact .inl (List.mem_cons_self ..)
   ·rcases mem_mput h with h | ⟨h1, h2⟩
    ·exact .inl (List.mem_cons_of_mem _ h)
    ·refine .inr ⟨h1, ?_⟩
     rcases h2 with h2 | ⟨y, h2⟩
     ·exact .inl h2
     ·exact .inr ⟨y, List.mem_cons_of_mem _ h2⟩
theorem keys_mput (x : Int) (v : HV) (k : Nat) : ∀ E : Ents, (mput x v k E).map (fun e => e.2.1) = if (mget x E).isSome then E.map (fun e => e.2.1) else E.map (fun e => e.2.1) ++ [x]
 | [] => rfl
 | e :: E => by
  have ih := keys_mput x v k E
  simp only [mput, mget]
  split
  ·rename_i h; simp [h]
  ·rename_i h; simp only [List.map_cons, ih]; split <;> simp
theorem born_mput (x : Int) (v : HV) (k : Nat) : ∀ E : Ents, (mput x v k E).map (fun e => e.1) = if (mget x E).isSome then E.map (fun e => e.1) else E.map (fun e => e.1) ++ [k]
 | [] => rfl
 | e :: E => by
  have ih := born_mput x v k E
  simp only [mput, mget]
  split
  ·simp
  ·simp only [List.map_cons, ih]; split <;> simp
theorem mget_mem {x : Int} : ∀ {E : Ents}, mget x E = none → x ∉ (E.map fun e => e.2.1)
 | [], _ => by simp
 | e :: E, h => by
  simp only [mget] at h
  split at h
  ·cases h
  ·rename_i hx
   simp only [List.map_cons, List.mem_cons, not_or]
   exact ⟨fun e' => hx e'.symm, mget_mem h⟩
theorem MapOk.put {k : Nat} {E : Ents} (h : MapOk k E) (x : Int) (v : HV) : MapOk (if (mget x E).isSome then k else k + 1) (mput x v k E) := by
 refine ⟨?_, ?_, fun e he => ?_⟩
 ·rw [keys_mput]
  split
  ·exact h.keys
  ·rename_i hx
   rw [List.nodup_append]
   exact ⟨h.keys, by simp, fun a ha b hb => by simp at hb; subst hb; exact fun e => mget_mem (by simpa using hx) (e ▸ ha)⟩
 ·rw [born_mput]
  split
  ·exact h.born
  ·rw [List.nodup_append]
   refine ⟨h.born, by simp, fun a ha b hb => ?_⟩
   simp at hb; subst hb
   obtain ⟨e, he, rfl⟩ := List.mem_map.1 ha
   have := h.old e he; omega
 ·rcases mem_mput he with he | ⟨h1, h2⟩
  ·have := h.old e he; split <;> omega
  ·rcases h2 with h2 | ⟨y, h2⟩
   ·by_cases hx : (mget x E).isSome = true
    ·exfalso
     have hk := keys_mput x v k E
     have hb := born_mput x v k E
     rw [if_pos hx] at hb
     have : e.1 ∈ (mput x v k E).map fun e => e.1 := List.mem_map.2 ⟨e, he, rfl⟩
     rw [hb] at this
     obtain ⟨e', he', h3⟩ := List.mem_map.1 this
     have := h.old e' he'; omega
    ·rw [if_neg hx]; omega
   ·have := h.old _ h2; simp only at this; split <;> omega
theorem mdel_sub (x : Int) : ∀ E : Ents, List.Sublist (mdel x E) E
 | [] => .slnil
 | e :: E => by
  simp only [mdel]
  split
  ·exact List.sublist_cons_self ..
  ·exact (mdel_sub x E).cons_cons _
theorem MapOk.del {k : Nat} {E : Ents} (h : MapOk k E) (x : Int) : MapOk k (mdel x E) :=
 ⟨h.keys.sublist ((mdel_sub x E).map _), h.born.sublist ((mdel_sub x E).map _), fun e he => h.old e ((mdel_sub x E).subset he)⟩
theorem MapOk.nil : MapOk 0 [] := ⟨by simp, by simp, by simp⟩
theorem MapOk.get {k : Nat} {E : Ents} (h : MapOk k E) {n : Nat} {x : Int} {y : HV} (hm : (n, x, y) ∈ E) : mget x E = some y := by
 have hk := h.keys
 clear h
 induction E with
 | nil => cases hm
 | cons e E ih =>
  rw [List.map_cons, List.nodup_cons] at hk
  rcases List.mem_cons.1 hm with rfl | hm
  ·simp [mget]
  ·simp only [mget]
   have hx : ¬ e.2.1 = x := fun e' => hk.1 (by rw [e']; exact List.mem_map.2 ⟨_, hm, rfl⟩)
   rw [if_neg hx]
   exact ih hm hk.2
theorem mem_of_mget {x : Int} {y : HV} : ∀ {E : Ents}, mget x E = some y → ∃ n, (n, x, y) ∈ E
 | [], h => by cases h
 | e :: E, h => by
  simp only [mget] at h
  split at h
  ·rename_i hx; cases h; exact ⟨e.1, by rw [← hx]; exact List.mem_cons_self ..⟩
  ·obtain ⟨n, hn⟩ := mem_of_mget h; exact ⟨n, List.mem_cons_of_mem _ hn⟩
theorem next_intro {PS : PL} {n ver m mver clock : Nat} {k : IntKind} {E : Ents} {seen : List Nat} {K : HV → PL → Prop} (hi : getP PS n = .iter ver (.ref m mver) clock seen clock) (hm : getP PS m = .map mver clock k E)
  (h1 : ∀ b key y, (b, key, y) ∈ E → b ∉ seen → K (.tup [.bool true, .int k key, y]) (PS.set n (.iter ver (.ref m mver) clock (seen ++ [b]) clock))) (h2 : (∀ e ∈ E, e.1 ∈ seen) → K (.tup [.bool false]) PS) : hnext PS (.ref n ver) K := by
 simp only [hnext, hiterOf, hmapOf, hi, hm, true_and]
 refine ⟨fun i b key y hiy hb => h1 b key y (List.mem_of_getElem? hiy) hb, fun hall => h2 fun e he => ?_⟩
 obtain ⟨i, hi, rfl⟩ := List.getElem_of_mem he
 exact hall i _ _ _ (by rw [List.getElem?_eq_getElem hi])
theorem ment_of {E : Ents} {b : Nat} {key : Int} {y : HV} (h : (b, key, y) ∈ E) (hb : (E.map fun e => e.1).Nodup) : ment b E = some (key, y) := by
 induction E with
 | nil => cases h
 | cons e E ih =>
  rw [List.map_cons, List.nodup_cons] at hb
  rcases List.mem_cons.1 h with rfl | h
  ·simp [ment]
  ·have hx : ¬ e.1 = b := fun e' => hb.1 (by rw [e']; exact List.mem_map.2 ⟨_, h, rfl⟩)
   simp only [ment, if_neg hx]
   exact ih h hb.2
theorem entry_eq {PS : PL} {n ver m mver clock b : Nat} {k : IntKind} {E : Ents} {seen : List Nat} {K : HV → Prop} {key : Int} {y : HV} (hi : getP PS n = .iter ver (.ref m mver) clock (seen ++ [b]) clock) (hm : getP PS m = .map mver clock k E) (he : ment b E = some (key, y)) :
  hentry PS (.ref n ver) K = K (.tup [.int k key, y]) := by
 simp [hentry, hiterOf, hmapOf, hi, hm, he]
def unseen (E : Ents) (seen : List Nat) : Nat := (E.filter fun e => decide (e.1 ∉ seen)).length
theorem unseen_lt {E : Ents} {seen : List Nat} {b : Nat} {key : Int} {y : HV} (h : (b, key, y) ∈ E) (hb : b ∉ seen) : unseen E (seen ++ [b]) < unseen E seen := by
 unfold unseen
 induction E with
 | nil => cases h
 | cons e E ih =>
  have hle : (E.filter fun e => decide (e.1 ∉ seen ++ [b])).length ≤ (E.filter fun e => decide (e.1 ∉ seen)).length := by
   clear ih h
   induction E with
   | nil => simp
   | cons a E ih =>
    rw [List.filter_cons, List.filter_cons]
    by_cases h1 : a.1 ∈ seen
    ·simp [h1]; simpa using ih
    ·by_cases h2 : a.1 = b
     ·simp [h2, hb]; exact Nat.le_succ_of_le (by simpa using ih)
     ·simp [h1, h2]; simpa using ih
  rcases List.mem_cons.1 h with rfl | h
  ·rw [List.filter_cons, List.filter_cons]
   simp only [List.mem_append, List.mem_singleton, or_true, not_true, decide_false, Bool.false_eq_true, if_false, hb, not_false_eq_true, decide_true, if_true, List.length_cons]
   exact Nat.lt_succ_of_le (by simpa using hle)
  ·rw [List.filter_cons, List.filter_cons]
   have ih := ih h
   by_cases h1 : e.1 ∈ seen
   ·simp [h1]; simpa using ih
   ·by_cases h2 : e.1 = b
    ·simp [h2, hb]; exact Nat.lt_succ_of_lt (by simpa using ih)
    ·simp [h1, h2]; simpa using ih
structure Cr where
 fs : List Fm
 at_ : Int → Option Nat
 ld : Int → List Int
 line : List Sd
 hand : Nat
structure CaX where
 col : Nat → Nat
 pf : Nat
 vf : Nat
 ts : List (Fl × Fm)
 pa : Nat
 ka : Nat
 ea : Ents
 pl : Nat
 kl : Nat
 el : Ents
 o : Int → List Nat
 xl : HV
 ol : List Nat
def rowsF (ts : List (Fl × Fm)) : List (List HV) := ts.map fun p => frL p.1 p.2
structure CaAt (PS : PL) (n : Nat) (own : List Nat) (c : Cr) (X : CaX) : Prop where
 hn : getP PS n = .arr 0 5 [[.sl X.pf X.vf 0 c.fs.length none, .ref X.pa 0, .ref X.pl 0, X.xl, .int .i64 c.hand]] false
 hf : getP PS X.pf = .arr X.vf 11 (rowsF X.ts) true
 fs : X.ts.map Prod.snd = c.fs
 ne : c.fs ≠ []
 ha : getP PS X.pa = .map 0 X.ka .i64 X.ea
 oka : MapOk X.ka X.ea
 ma : ∀ b, mget b X.ea = (c.at_ b).map fun i => .int .i64 i
 hl : getP PS X.pl = .map 0 X.kl .i64 X.el
 okl : MapOk X.kl X.el
 ml : ∀ b, SlO PS 1 ((mget b X.el).getD (.imm true [])) (X.o b) ((c.ld b).map kidL)
 line : SlO PS 3 X.xl X.ol (c.line.map wtL)
 cn : X.col n = 0
 cf : X.col X.pf = 1
 ca : X.col X.pa = 2
 cl : X.col X.pl = 3
 co : ∀ q ∈ X.ol, X.col q = 4
 cb : ∀ b, ∀ q ∈ X.o b, X.col q = 5 + b.toNat ∧ 0 ≤ b
 mn : n ∈ own
 mf : X.pf ∈ own
 ma' : X.pa ∈ own
 ml' : X.pl ∈ own
 mo : ∀ q ∈ X.ol, q ∈ own
 mb : ∀ b, ∀ q ∈ X.o b, q ∈ own
 lt : ∀ q ∈ own, q < PS.length
def recol (col : Nat → Nat) (m k : Nat) : Nat → Nat := fun q => if q < m then col q else k
theorem recol_old {col : Nat → Nat} {m k q : Nat} (h : q < m) : recol col m k q = col q := if_pos h
theorem recol_new {col : Nat → Nat} {m k q : Nat} (h : m ≤ q) : recol col m k q = k := if_neg (by omega)
theorem Upd.col {own own' : List Nat} {PS PS' : PL} {col : Nat → Nat} {k : Nat} (h : Upd own PS PS' own') (hlt : ∀ q ∈ own, q < PS.length) (hc : ∀ q ∈ own, col q = k) : ∀ q ∈ own', recol col PS.length k q = k := fun q hq => by
 rcases h.2 q hq with h' | h'
 ·rw [recol_old (hlt q h')]; exact hc q h'
 ·exact recol_new h'
theorem getP_map_lt {PS : PL} {n v k : Nat} {kk : IntKind} {E : Ents} (h : getP PS n = .map v k kk E) : n < PS.length := by
 rcases Nat.lt_or_ge n PS.length with h' | h'
 ·exact h'
 ·unfold getP at h; simp [List.getD, List.getElem?_eq_none h'] at h
theorem getP_map_set {PS : PL} {n v k : Nat} {kk : IntKind} {E : Ents} (q : Piece) (h : getP PS n = .map v k kk E) : getP (PS.set n q) n = q := by
 have := getP_map_lt h
 simp [getP, List.getD, this]
section
variable {PS PS' : PL} {n : Nat} {own : List Nat} {c : Cr} {X : CaX}
theorem CaAt.n_f (h : CaAt PS n own c X) : n ≠ X.pf := fun e => by have := h.cn; rw [e, h.cf] at this; omega
theorem CaAt.n_a (h : CaAt PS n own c X) : n ≠ X.pa := fun e => by have := h.cn; rw [e, h.ca] at this; omega
theorem CaAt.n_l (h : CaAt PS n own c X) : n ≠ X.pl := fun e => by have := h.cn; rw [e, h.cl] at this; omega
theorem CaAt.f_a (h : CaAt PS n own c X) : X.pf ≠ X.pa := fun e => by have := h.cf; rw [e, h.ca] at this; omega
theorem CaAt.f_l (h : CaAt PS n own c X) : X.pf ≠ X.pl := fun e => by have := h.cf; rw [e, h.cl] at this; omega
theorem CaAt.a_l (h : CaAt PS n own c X) : X.pa ≠ X.pl := fun e => by have := h.ca; rw [e, h.cl] at this; omega
theorem CaAt.keep (h : CaAt PS n own c X) (hk : ∀ q ∈ own, getP PS' q = getP PS q) (hl : PS.length ≤ PS'.length) : CaAt PS' n own c X :=
 { h with
  hn := (hk _ h.mn).trans h.hn
  hf := (hk _ h.mf).trans h.hf
  ha := (hk _ h.ma').trans h.ha
  hl := (hk _ h.ml').trans h.hl
  ml := fun b => (h.ml b).keep fun q hq => hk q (h.mb b q hq)
  line := h.line.keep fun q hq => hk q (h.mo q hq)
  lt := fun q hq => Nat.lt_of_lt_of_le (h.lt q hq) hl }
theorem CaAt.app (h : CaAt PS n own c X) (l : PL) : CaAt (PS ++ l) n own c X := h.keep (fun q hq => getP_app' l (h.lt q hq)) (by simp)
theorem CaAt.ext (h : CaAt PS n own c X) (he : Ext [] PS PS') : CaAt PS' n own c X := h.keep (fun q hq => he.2 q (h.lt q hq) (by simp)) he.1
theorem Pre.map {n v k : Nat} {kk : IntKind} {E : Ents} (hp : Pre PS PS') (h : getP PS n = .map v k kk E) : getP PS' n = .map v k kk E := by
 rcases hp n with h' | h'
 ·rw [h] at h'; cases h'
 ·exact h'.trans h
theorem CaAt.pre (h : CaAt PS n own c X) (hp : Pre PS PS') : CaAt PS' n (own.filter fun q => decide (q < PS'.length)) c X :=
 { h with
  hn := hp.arr h.hn
  hf := hp.arr h.hf
  ha := Pre.map hp h.ha
  hl := Pre.map hp h.hl
  ml := fun b => (h.ml b).pre hp
  line := h.line.pre hp
  mn := by simp [h.mn, getP_lt (hp.arr h.hn)]
  mf := by simp [h.mf, getP_lt (hp.arr h.hf)]
  ma' := by simp [h.ma', getP_map_lt (Pre.map hp h.ha)]
  ml' := by simp [h.ml', getP_map_lt (Pre.map hp h.hl)]
  mo := fun q hq => by simp [h.mo q hq, (h.line.pre hp).lt q hq]
  mb := fun b q hq => by simp [h.mb b q hq, ((h.ml b).pre hp).lt q hq]
  lt := fun q hq => by simpa using (List.mem_filter.1 hq).2 }
def SameF (X X' : CaX) : Prop := X'.pf = X.pf ∧ X'.vf = X.vf ∧ X'.ts = X.ts
theorem SameF.refl (X : CaX) : SameF X X := ⟨rfl, rfl, rfl⟩
theorem SameF.trans {X Y Z : CaX} (h : SameF X Y) (k : SameF Y Z) : SameF X Z := ⟨k.1.trans h.1, k.2.1.trans h.2.1, k.2.2.trans h.2.2⟩
theorem rowsF_set (ts : List (Fl × Fm)) (i : Nat) (t : Fl) (f : Fm) : (rowsF ts).set i (frL t f) = rowsF (ts.set i (t, f)) := by simp [rowsF, List.map_set]
theorem CaAt.setF (h : CaAt PS n own c X) (i : Nat) (t : Fl) (f : Fm) : CaAt (PS.set X.pf (.arr X.vf 11 ((rowsF X.ts).set i (frL t f)) true)) n own { c with fs := c.fs.set i f } { X with ts := X.ts.set i (t, f) } :=
 have hne : ∀ q, q ≠ X.pf → getP (PS.set X.pf (.arr X.vf 11 ((rowsF X.ts).set i (frL t f)) true)) q = getP PS q := fun q hq => getP_set_ne _ hq.symm
 { h with
  hn := by rw [hne _ h.n_f]; simpa using h.hn
  hf := by rw [getP_set_eq _ h.hf, rowsF_set]
  fs := by simp [List.map_set, h.fs]
  ne := by simpa using h.ne
  ha := (hne _ h.f_a.symm).trans h.ha
  hl := (hne _ h.f_l.symm).trans h.hl
  ml := fun b => (h.ml b).keep fun q hq => hne q fun e => by have := h.cb b q hq; rw [e, h.cf] at this; omega
  line := h.line.keep fun q hq => hne q fun e => by have := h.co q hq; rw [e, h.cf] at this; omega
  lt := fun q hq => by simpa using h.lt q hq }
theorem CaAt.setL (h : CaAt PS n own c X) {xl : HV} {ol : List Nat} {l : List Sd} (hs : SlO PS' 3 xl ol (l.map wtL)) (hu : Upd X.ol PS PS' ol) (hd : Nat) :
  ∃ own' X', CaAt (PS'.set n (.arr 0 5 [[.sl X.pf X.vf 0 c.fs.length none, .ref X.pa 0, .ref X.pl 0, xl, .int .i64 hd]] false)) n own' { c with line := l, hand := hd } X' ∧ SameF X X' ∧ Upd own PS (PS'.set n (.arr 0 5 [[.sl X.pf X.vf 0 c.fs.length none, .ref X.pa 0, .ref X.pl 0, xl, .int .i64 hd]] false)) own' := by
 have hlo : ∀ q ∈ X.ol, q < PS.length := fun q hq => h.lt q (h.mo q hq)
 have hg : ∀ q, q < PS.length → X.col q ≠ 4 → getP PS' q = getP PS q := fun q hq hc => hu.1.2 q hq fun hm => hc (h.co q hm)
 have hn' : getP PS' n = _ := (hg n (h.lt n h.mn) (by rw [h.cn]; omega)).trans h.hn
 have hq : ∀ q, q < PS.length → X.col q ≠ 4 → q ≠ n → getP (PS'.set n (.arr 0 5 [[.sl X.pf X.vf 0 c.fs.length none, .ref X.pa 0, .ref X.pl 0, xl, .int .i64 hd]] false)) q = getP PS q := fun q h1 h2 h3 => (getP_set_ne _ h3.symm).trans (hg q h1 h2)
 have hol : ∀ q ∈ ol, q ≠ n := fun q hq e => by
  rcases hu.2 q hq with h1 | h1
  ·have := h.co q h1; rw [e, h.cn] at this; omega
  ·have := h.lt n h.mn; omega
 refine ⟨own ++ ol, { X with xl := xl, ol := ol, col := recol X.col PS.length 4 }, { h with
  hn := getP_set_eq _ hn'
  hf := (hq _ (h.lt _ h.mf) (by rw [h.cf]; omega) h.n_f.symm).trans h.hf
  ha := (hq _ (h.lt _ h.ma') (by rw [h.ca]; omega) h.n_a.symm).trans h.ha
  hl := (hq _ (h.lt _ h.ml') (by rw [h.cl]; omega) h.n_l.symm).trans h.hl
  ml := fun b => (h.ml b).keep fun q hq' => hq q (h.lt q (h.mb b q hq')) (by have := h.cb b q hq'; omega) (fun e => by have := h.cb b q hq'; rw [e, h.cn] at this; omega)
  line := hs.keep fun q hq => getP_set_ne _ (hol q hq).symm
  cn := (recol_old (h.lt _ h.mn)).trans h.cn
  cf := (recol_old (h.lt _ h.mf)).trans h.cf
  ca := (recol_old (h.lt _ h.ma')).trans h.ca
  cl := (recol_old (h.lt _ h.ml')).trans h.cl
  co := hu.col hlo h.co
  cb := fun b q hq => by show recol _ _ _ q = _ ∧ _; rw [recol_old (h.lt q (h.mb b q hq))]; exact h.cb b q hq
  mn := List.mem_append_left _ h.mn
  mf := List.mem_append_left _ h.mf
  ma' := List.mem_append_left _ h.ma'
  ml' := List.mem_append_left _ h.ml'
  mo := fun q hq => List.mem_append_right _ hq
  mb := fun b q hq => List.mem_append_left _ (h.mb b q hq)
  lt := fun q hq => by
   rw [List.length_set]
   rcases List.mem_append.1 hq with hq | hq
   ·exact Nat.lt_of_lt_of_le (h.lt q hq) hu.1.1
   ·exact hs.lt q hq }, ⟨rfl, rfl, rfl⟩, ?_, fun q hq => ?_⟩
 ·exact (hu.1.mono fun q hq => h.mo q hq).since (Ext.set PS' n _) (by simp [h.mn])
 ·rcases List.mem_append.1 hq with hq | hq
  ·exact .inl hq
  ·rcases hu.2 q hq with h1 | h1
   ·exact .inl (h.mo q h1)
   ·exact .inr h1
theorem CaAt.setHand (h : CaAt PS n own c X) (hd : Nat) : CaAt (PS.set n (.arr 0 5 [[.sl X.pf X.vf 0 c.fs.length none, .ref X.pa 0, .ref X.pl 0, X.xl, .int .i64 hd]] false)) n own { c with hand := hd } X :=
 have hne : ∀ q Q, q ≠ n → getP (PS.set n Q) q = getP PS q := fun q Q hq => getP_set_ne _ hq.symm
 { h with
  hn := getP_set_eq _ h.hn
  hf := (hne _ _ h.n_f.symm).trans h.hf
  ha := (hne _ _ h.n_a.symm).trans h.ha
  hl := (hne _ _ h.n_l.symm).trans h.hl
  ml := fun b => (h.ml b).keep fun q hq => hne q _ fun e => by have := h.cb b q hq; rw [e, h.cn] at this; omega
  line := h.line.keep fun q hq => hne q _ fun e => by have := h.co q hq; rw [e, h.cn] at this; omega
  lt := fun q hq => by simpa using h.lt q hq }
theorem CaAt.setA (h : CaAt PS n own c X) (b : Int) (i : Nat) : ∃ X', CaAt (PS.set X.pa (.map 0 (if (mget b X.ea).isSome then X.ka else X.ka + 1) .i64 (mput b (.int .i64 i) X.ka X.ea))) n own { c with at_ := fun b' => if b' = b then some i else c.at_ b' } X' ∧ SameF X X' :=
 have hne : ∀ q Q, q ≠ X.pa → getP (PS.set X.pa Q) q = getP PS q := fun q Q hq => getP_set_ne _ hq.symm
 ⟨{ X with ka := if (mget b X.ea).isSome then X.ka else X.ka + 1, ea := mput b (.int .i64 i) X.ka X.ea }, { h with
  hn := (hne _ _ h.n_a).trans h.hn
  hf := (hne _ _ h.f_a).trans h.hf
  ha := getP_map_set _ h.ha
  oka := h.oka.put b _
  ma := fun b' => by
   rw [mget_put]
   simp only
   split
   ·rfl
   ·exact h.ma b'
  hl := (hne _ _ h.a_l.symm).trans h.hl
  ml := fun b => (h.ml b).keep fun q hq => hne q _ fun e => by have := h.cb b q hq; rw [e, h.ca] at this; omega
  line := h.line.keep fun q hq => hne q _ fun e => by have := h.co q hq; rw [e, h.ca] at this; omega
  lt := fun q hq => by simpa using h.lt q hq }, ⟨rfl, rfl, rfl⟩⟩
theorem CaAt.delA (h : CaAt PS n own c X) (b : Int) : ∃ X', CaAt (PS.set X.pa (.map 0 X.ka .i64 (mdel b X.ea))) n own { c with at_ := fun b' => if b' = b then none else c.at_ b' } X' ∧ SameF X X' :=
 have hne : ∀ q Q, q ≠ X.pa → getP (PS.set X.pa Q) q = getP PS q := fun q Q hq => getP_set_ne _ hq.symm
 ⟨{ X with ea := mdel b X.ea }, { h with
  hn := (hne _ _ h.n_a).trans h.hn
  hf := (hne _ _ h.f_a).trans h.hf
  ha := getP_map_set _ h.ha
  oka := h.oka.del b
  ma := fun b' => by
   rw [mget_del _ _ h.oka.keys]
   simp only
   split
   ·rfl
   ·exact h.ma b'
  hl := (hne _ _ h.a_l.symm).trans h.hl
  ml := fun b => (h.ml b).keep fun q hq => hne q _ fun e => by have := h.cb b q hq; rw [e, h.ca] at this; omega
  line := h.line.keep fun q hq => hne q _ fun e => by have := h.co q hq; rw [e, h.ca] at this; omega
  lt := fun q hq => by simpa using h.lt q hq }, ⟨rfl, rfl, rfl⟩⟩
theorem CaAt.setD (h : CaAt PS n own c X) (b : Int) (hb : 0 ≤ b) {y : HV} {o : List Nat} {l : List Int} (hs : SlO PS' 1 y o (l.map kidL)) (hu : Upd (X.o b) PS PS' o) :
  ∃ own' X', CaAt (PS'.set X.pl (.map 0 (if (mget b X.el).isSome then X.kl else X.kl + 1) .i64 (mput b y X.kl X.el))) n own' { c with ld := fun b' => if b' = b then l else c.ld b' } X' ∧ SameF X X' ∧ Upd own PS (PS'.set X.pl (.map 0 (if (mget b X.el).isSome then X.kl else X.kl + 1) .i64 (mput b y X.kl X.el))) own' := by
 have hlo : ∀ q ∈ X.o b, q < PS.length := fun q hq => h.lt q (h.mb b q hq)
 have hg : ∀ q, q < PS.length → X.col q ≠ 5 + b.toNat → getP PS' q = getP PS q := fun q hq hc => hu.1.2 q hq fun hm => hc (h.cb b q hm).1
 have hl' : getP PS' X.pl = _ := (hg _ (h.lt _ h.ml') (by rw [h.cl]; omega)).trans h.hl
 have hq : ∀ q Q, q < PS.length → X.col q ≠ 5 + b.toNat → q ≠ X.pl → getP (PS'.set X.pl Q) q = getP PS q := fun q Q h1 h2 h3 => (getP_set_ne _ h3.symm).trans (hg q h1 h2)
 have hol : ∀ q ∈ o, q ≠ X.pl := fun q hq e => by
  rcases hu.2 q hq with h1 | h1
  ·have := (h.cb b q h1).1; rw [e, h.cl] at this; omega
  ·have := h.lt _ h.ml'; omega
 refine ⟨own ++ o, { X with kl := if (mget b X.el).isSome then X.kl else X.kl + 1, el := mput b y X.kl X.el, o := fun b' => if b' = b then o else X.o b', col := recol X.col PS.length (5 + b.toNat) }, { h with
  hn := (hq _ _ (h.lt _ h.mn) (by rw [h.cn]; omega) h.n_l).trans h.hn
  hf := (hq _ _ (h.lt _ h.mf) (by rw [h.cf]; omega) h.f_l).trans h.hf
  ha := (hq _ _ (h.lt _ h.ma') (by rw [h.ca]; omega) h.a_l).trans h.ha
  hl := getP_map_set _ hl'
  okl := h.okl.put b _
  ml := fun b' => by
   simp only [mget_put]
   by_cases hbb : b' = b
   ·simp only [if_pos hbb]
    exact hs.keep fun q hq => getP_set_ne _ (hol q hq).symm
   ·simp only [if_neg hbb]
    exact (h.ml b').keep fun q hq' => hq q _ (h.lt q (h.mb b' q hq')) (by have := h.cb b' q hq'; omega) (fun e => by have := h.cb b' q hq'; rw [e, h.cl] at this; omega)
  line := h.line.keep fun q hq' => hq q _ (h.lt q (h.mo q hq')) (by rw [h.co q hq']; omega) (fun e => by have := h.co q hq'; rw [e, h.cl] at this; omega)
  cn := (recol_old (h.lt _ h.mn)).trans h.cn
  cf := (recol_old (h.lt _ h.mf)).trans h.cf
  ca := (recol_old (h.lt _ h.ma')).trans h.ca
  cl := (recol_old (h.lt _ h.ml')).trans h.cl
  co := fun q hq => (recol_old (h.lt q (h.mo q hq))).trans (h.co q hq)
  cb := fun b' q hq' => by
   simp only at hq'
   by_cases hbb : b' = b
   ·rw [if_pos hbb] at hq'
    rw [hbb]
    exact ⟨hu.col hlo (fun q hq => (h.cb b q hq).1) q hq', hb⟩
   ·rw [if_neg hbb] at hq'
    simp only
    rw [recol_old (h.lt q (h.mb b' q hq'))]
    exact h.cb b' q hq'
  mn := List.mem_append_left _ h.mn
  mf := List.mem_append_left _ h.mf
  ma' := List.mem_append_left _ h.ma'
  ml' := List.mem_append_left _ h.ml'
  mo := fun q hq => List.mem_append_left _ (h.mo q hq)
  mb := fun b' q hq' => by
   simp only at hq'
   by_cases hbb : b' = b
   ·rw [if_pos hbb] at hq'; exact List.mem_append_right _ hq'
   ·rw [if_neg hbb] at hq'; exact List.mem_append_left _ (h.mb b' q hq')
  lt := fun q hq => by
   rw [List.length_set]
   rcases List.mem_append.1 hq with hq | hq
   ·exact Nat.lt_of_lt_of_le (h.lt q hq) hu.1.1
   ·exact hs.lt q hq }, ⟨rfl, rfl, rfl⟩, ?_, fun q hq => ?_⟩
 ·exact (hu.1.mono fun q hq => h.mb b q hq).since (Ext.set PS' _ _) (by simp [h.ml'])
 ·rcases List.mem_append.1 hq with hq | hq
  ·exact .inl hq
  ·rcases hu.2 q hq with h1 | h1
   ·exact .inl (h.mb b q h1)
   ·exact .inr h1
theorem CaAt.delD (h : CaAt PS n own c X) (b : Int) : ∃ X', CaAt (PS.set X.pl (.map 0 X.kl .i64 (mdel b X.el))) n own { c with ld := fun b' => if b' = b then [] else c.ld b' } X' ∧ SameF X X' ∧ (∀ q ∈ X.o b, q ∉ X'.ol ∧ ∀ b', q ∉ X'.o b') ∧ X'.pa = X.pa ∧ X'.pl = X.pl :=
 have hne : ∀ q Q, q ≠ X.pl → getP (PS.set X.pl Q) q = getP PS q := fun q Q hq => getP_set_ne _ hq.symm
 ⟨{ X with el := mdel b X.el, o := fun b' => if b' = b then [] else X.o b' }, { h with
  hn := (hne _ _ h.n_l).trans h.hn
  hf := (hne _ _ h.f_l).trans h.hf
  ha := (hne _ _ h.a_l).trans h.ha
  hl := getP_map_set _ h.hl
  okl := h.okl.del b
  ml := fun b' => by
   simp only [mget_del _ _ h.okl.keys]
   by_cases hbb : b' = b
   ·simp only [if_pos hbb]
    exact SlO.nil _ _
   ·simp only [if_neg hbb]
    exact (h.ml b').keep fun q hq => hne q _ fun e => by have := h.cb b' q hq; rw [e, h.cl] at this; omega
  line := h.line.keep fun q hq => hne q _ fun e => by have := h.co q hq; rw [e, h.cl] at this; omega
  cb := fun b' q hq' => by
   simp only at hq'
   by_cases hbb : b' = b
   ·rw [if_pos hbb] at hq'; cases hq'
   ·rw [if_neg hbb] at hq'; exact h.cb b' q hq'
  mb := fun b' q hq' => by
   simp only at hq'
   by_cases hbb : b' = b
   ·rw [if_pos hbb] at hq'; cases hq'
   ·rw [if_neg hbb] at hq'; exact h.mb b' q hq'
  lt := fun q hq => by simpa using h.lt q hq }, ⟨rfl, rfl, rfl⟩, ⟨fun q hq => ⟨fun hq' => by have := (h.cb b q hq).1; have := h.co q hq'; omega, fun b' hq' => by
   simp only at hq'
   by_cases hbb : b' = b
   ·rw [if_pos hbb] at hq'; cases hq'
   ·rw [if_neg hbb] at hq'
    have h1 := h.cb b q hq
    have h2 := h.cb b' q hq'
    omega⟩, rfl, rfl⟩⟩
theorem CaAt.drop (h : CaAt PS n own c X) {q : Nat} (h1 : q ≠ n) (h2 : q ≠ X.pf) (h3 : q ≠ X.pa) (h4 : q ≠ X.pl) (h5 : q ∉ X.ol) (h6 : ∀ b, q ∉ X.o b) : CaAt (PS.set q .dead) n (own.filter fun p => decide (p ≠ q)) c X :=
 have hne : ∀ p, p ≠ q → getP (PS.set q .dead) p = getP PS p := fun p hp => getP_set_ne _ hp.symm
 { h with
  hn := (hne _ h1.symm).trans h.hn
  hf := (hne _ h2.symm).trans h.hf
  ha := (hne _ h3.symm).trans h.ha
  hl := (hne _ h4.symm).trans h.hl
  ml := fun b => (h.ml b).keep fun p hp => hne p fun e => h6 b (e ▸ hp)
  line := h.line.keep fun p hp => hne p fun e => h5 (e ▸ hp)
  mn := by simp [h.mn, h1.symm]
  mf := by simp [h.mf, h2.symm]
  ma' := by simp [h.ma', h3.symm]
  ml' := by simp [h.ml', h4.symm]
  mo := fun p hp => by simp [h.mo p hp]; exact fun e => h5 (e ▸ hp)
  mb := fun b p hp => by simp [h.mb b p hp]; exact fun e => h6 b (e ▸ hp)
  lt := fun p hp => by simpa using h.lt p (List.mem_filter.1 hp).1 }
end
@[go_sem ↓, go_sem] theorem ones_wt (a : Sd) : ones (wtL a) = True := eq_true ((ones_iff _).2 (by intro y hy; simp [wtL] at hy; rcases hy with rfl | rfl | rfl <;> rfl))
@[go_sem ↓, go_sem] theorem wtL_len (a : Sd) : (wtL a).length = 3 := _root_.id rfl
@[go_sem ↓, go_sem] theorem wt_all (a : Sd) : (wtL a).take 3 = wtL a := _root_.id rfl
@[go_sem ↓, go_sem] theorem wt_t (a : Sd) : (wtL a).take 1 = [.int .i64 a.t] := _root_.id rfl
@[go_sem ↓, go_sem] theorem wt_b (a : Sd) : ((wtL a).drop 1).take 1 = [.int .i64 a.b] := _root_.id rfl
@[go_sem ↓, go_sem] theorem zF : (List.replicate 4 (HV.int .i64 0) ++ List.replicate 3 (HV.bool false) ++ List.replicate 4 (HV.imm true [])) = [.int .i64 0, .int .i64 0, .int .i64 0, .int .i64 0, .bool false, .bool false, .bool false, .imm true [], .imm true [], .imm true [], .imm true []] := _root_.id rfl
theorem rowsF_get {ts : List (Fl × Fm)} {i : Nat} {f : Fm} (h : (ts.map Prod.snd)[i]? = some f) : ∃ t, ts[i]? = some (t, f) ∧ (rowsF ts)[i]? = some (frL t f) := by
 rw [List.getElem?_map] at h
 cases hi : ts[i]? with
 | none => rw [hi] at h; cases h
 | some p => rw [hi] at h; cases h; exact ⟨p.1, rfl, by simp [rowsF, hi]⟩
theorem findIdx?_found {α : Type} {p : α → Bool} {l : List α} {i : Nat} (hi : i < l.length) (h : p l[i] = true) (hu : ∀ j a, j < i → l[j]? = some a → p a = false) : l.findIdx? p = some i := by
 rw [List.findIdx?_eq_some_iff_getElem]
 exact ⟨hi, h, fun j hj => by simpa using hu j l[j] hj (by simp)⟩
theorem findIdx?_not {α : Type} {p : α → Bool} {l : List α} (hu : ∀ j a, j < l.length → l[j]? = some a → p a = false) : l.findIdx? p = none := by
 rw [List.findIdx?_eq_none_iff]
 intro x hx
 obtain ⟨j, hj, rfl⟩ := List.getElem_of_mem hx
 exact hu j _ hj (by simp)
section
variable {PS : PL} {n : Nat} {own : List Nat} {c : Cr} {X : CaX}
theorem CaAt.row (h : CaAt PS n own c X) {i : Nat} (hi : i < c.fs.length) : ∃ t, X.ts[i]? = some (t, c.fs[i]) ∧ (rowsF X.ts)[i]? = some (frL t c.fs[i]) := rowsF_get (by rw [h.fs]; simp [hi])
theorem CaAt.rne (h : CaAt PS n own c X) : ¬ rowsF X.ts = [] := fun e => h.ne (by rw [← h.fs]; unfold rowsF at e; rw [List.map_eq_nil_iff] at e; rw [e]; rfl)
theorem CaAt.rows_len (h : CaAt PS n own c X) : (rowsF X.ts).length = c.fs.length := by rw [← h.fs]; simp [rowsF]
end
end Go.Ow
namespace Go.Proofs.YtdjfdlpfchokcaaGreat
open Go Go.Eng Go.Ow
open Go.Mo hiding SlO SlR Sees Upd isT
variable [Toks]
set_option maxRecDepth 20000
attribute [local irreducible] hvc hops hop hplan hdrawP hval1 hopD HLoop
theorem ca_task (t : Int) : Pure Tryz.prog 91 [.int .i64 t] (.bool (isT t)) := by
 intro PS
 refine enter_91 (by unfold Tryz.f91; exact rfl) ?_
 unfold isT
 by_cases h : 0 ≤ t
 ·simp only [go_sem, seval, h, Bool.true_and]
 ·simp only [go_sem, seval, h, Bool.false_and]
theorem ca_block (t : Int) : Pure Tryz.prog 52 [.int .i64 t] (.bool (isB t)) := by
 intro PS
 refine enter_52 (by unfold Tryz.f52; exact rfl) ?_
 unfold isB
 by_cases h : 0 ≤ t
 ·simp only [go_sem, seval, h, Bool.true_and]
 ·simp only [go_sem, seval, h, Bool.false_and]
theorem ca_stands_fn (PS : PL) (m v : Nat) (x : Int) (a : Sd) (hm : getP PS m = .arr v 1 [[.int .i64 x]] false) : HCall Tryz.prog 124 [.agg (wtL a), .ptr m v 0 0] PS fun r PS' => r = .bool (decide (a.t = x)) ∧ PS' = PS := by
 refine HCall.data (.bool _) ?_
 refine enter_124 (by unfold Tryz.f124; exact rfl) ?_
 have hx : ∀ l, getP (PS ++ l) m = .arr v 1 [[.int .i64 x]] false := fun l => by rw [getP_app' l (getP_lt hm), hm]
 simp only [go_sem, seval, hx]
 exact Ext.app _ _
theorem ca_ixf (PS : PL) (l : List Sd) (x : Int) (y : HV) (m v : Nat) (hl : l.length ≤ 1000) (h : Sees PS 3 y (l.map wtL)) (hm : getP PS m = .arr v 1 [[.int .i64 x]] false) :
  HCall Tryz.prog 123 [y, .func (.func 124) [] [.ptr m v 0 0]] PS fun r PS' => r = .int .i64 (ixI (sat l x)) ∧ PS' = PS := by
 refine HCall.data (.int _ _) ?_
 have hmx : maxLen = 9223372036854775807 := rfl
 refine enter_123 (by unfold Tryz.f123; exact rfl) ?_
 simp only [go_sem, seval, h.len, List.length_map]
 intro _
 refine pend_intro (loop_rule (α := Nat) [false, false, false, false, true, true, false, false, false, true, true, true, true, true, true, true, true, true, true] (fun i => [(8, .int .i64 i)]) (fun i => l.length - i) (fun i PS' => (i ≤ l.length ∧ ∀ j a, j < i → l[j]? = some a → decide (a.t = x) = false) ∧ PS' = PS) 0 ⟨⟨Nat.zero_le _, fun j a h => absurd h (Nat.not_lt_zero _)⟩, rfl⟩ ?_ ?_)
 ·simp only [go_sem, seval, Int.natCast_zero]
 ·intro i PS' hr
  obtain ⟨⟨hi, hu⟩, rfl⟩ := hr
  by_cases hlt : i < l.length
  ·have ha1 : l[i]? = some l[i] := by simp [hlt]
   have hg : (l.map wtL)[i]? = some (wtL l[i]) := by rw [List.getElem?_map, ha1]; rfl
   simp only [go_sem, seval, hlt, h.len, h.ix hg, h.ld hg, List.length_map]
   refine pend_intro ((ca_stands_fn _ _ _ _ _ hm).mono ?_)
   rintro _ _ ⟨rfl, rfl⟩
   by_cases hx : l[i].t = x
   ·simp only [go_sem, seval, hx]
    have : sat l x = some i := findIdx?_found hlt (by simp [hx]) hu
    rw [this]
    exact ⟨rfl, Ext.refl _⟩
   ·simp only [go_sem, seval, hx]
    refine ⟨by omega, i + 1, by omega, ⟨by omega, fun j a hj hja => ?_⟩, by simp⟩
    by_cases hji : j < i
    ·simpa using hu j a hji hja
    ·have : j = i := by omega
     subst this; rw [ha1] at hja; cases hja; simpa using hx
  ·simp only [go_sem, seval, hlt, List.length_map]
   have : sat l x = none := findIdx?_not (fun j a hj => hu j a (by omega))
   rw [this]
   exact ⟨rfl, Ext.refl _⟩
section
variable {PS : PL} {n : Nat} {own : List Nat} {c : Cr} {X : CaX}
theorem ca_stands (h : CaAt PS n own c X) (t : Int) (hl : c.line.length ≤ 1000) : HCall Tryz.prog 90 [.ptr n 0 0 0, .int .i64 t] PS fun r PS' => r = .int .i64 (ixI (sat c.line t)) ∧ PS' = PS := by
 refine HCall.data (.int _ _) ?_
 refine enter_90 (by unfold Tryz.f90; exact rfl) ?_
 have h' := h.app [.arr 0 1 [[.int .i64 t]] false]
 simp only [go_sem, seval, h'.hn]
 refine pend_intro ((ca_ixf _ c.line t X.xl PS.length 0 hl h'.line.sees (getP_last _ _)).mono ?_)
 rintro _ _ ⟨rfl, rfl⟩
 simp only [go_sem, seval]
 exact Ext.app _ _
theorem ca_free (h : CaAt PS n own c X) (t : Int) (hl : c.line.length ≤ 1000) (hf : c.fs.length ≤ 1000) : HCall Tryz.prog 56 [.ptr n 0 0 0, .int .i64 t] PS fun r PS' => r = (match (if turnL c.line t then freeF c.fs else none) with | some k => .ptr X.pf X.vf k 0 | none => .cst (.pointer none)) ∧ PS' = PS := by
 have hmx : maxLen = 9223372036854775807 := rfl
 have hs := h.line.sees
 refine enter_56 (by unfold Tryz.f56; exact rfl) ?_
 cases hline : c.line with
 | nil =>
  rw [hline] at hs
  simp only [go_sem, seval, h.hn, h.hf, hs.len, List.length_map, List.length_nil, List.map_nil]
  intro _
  have ht : turnL [] t = true := rfl
  rw [if_pos ht]
  refine fun _ => pend_intro (loop_rule (α := Nat) [false, false, false, false, true, true, false, false, false, false, false, false, false, false, false, false, false, false, false, false, false, false, false, false, false, false, false, false, false, true, true, true, true, true, true, true, true, true, true, true, true, true, true, true, true, true, true] (fun i => [(28, .int .i64 i)]) (fun i => c.fs.length - i) (fun i PS' => (i ≤ c.fs.length ∧ ∀ j a, j < i → c.fs[j]? = some a → decide (a.st = 0) = false) ∧ PS' = PS) 0 ⟨⟨Nat.zero_le _, fun j a h => absurd h (Nat.not_lt_zero _)⟩, rfl⟩ ?_ ?_)
  ·simp only [go_sem, seval, Int.natCast_zero]
  ·intro i PS' hr
   obtain ⟨⟨hi, hu⟩, rfl⟩ := hr
   by_cases hlt : i < c.fs.length
   ·obtain ⟨u, h1, h2⟩ := h.row hlt
    have ha1 : c.fs[i]? = some c.fs[i] := by simp [hlt]
    by_cases hx : c.fs[i].st = 0
    ·simp only [go_sem, seval, h.hn, h.hf, hlt, h2, h.rne, frL, nodL, hx]
     have : freeF c.fs = some i := findIdx?_found hlt (by simp [hx]) hu
     rw [this]
    ·simp only [go_sem, seval, h.hn, h.hf, hlt, h2, h.rne, frL, nodL, hx]
     refine ⟨by omega, i + 1, by omega, ⟨by omega, fun j a hj hja => ?_⟩, by simp⟩
     by_cases hji : j < i
     ·simpa using hu j a hji hja
     ·have : j = i := by omega
      subst this; rw [ha1] at hja; cases hja; simpa using hx
   ·simp only [go_sem, seval, hlt]
    have : freeF c.fs = none := findIdx?_not (fun j a hj => hu j a (by omega))
    rw [this]
 | cons a l =>
  have hg : (c.line.map wtL)[0]? = some (wtL a) := by rw [hline]; rfl
  have hll : (0 : Int) < ((l.length + 1 : Nat) : Int) := by omega
  rw [hline] at hs hg
  by_cases hat : a.t = t
  ·have ht : turnL (a :: l) t = true := by simp [turnL, hat]
   rw [ht]
   simp only [go_sem, seval, h.hn, h.hf, hs.len, List.length_map, List.length_cons, hll, hs.ix0 hg, hs.ld hg, hs.fld hg, hat]
   intro _
   refine fun _ => pend_intro (loop_rule (α := Nat) [false, false, false, false, true, true, false, false, false, false, false, false, false, false, false, false, false, false, false, false, false, false, false, false, false, false, false, false, false, true, true, true, true, true, true, true, true, true, true, true, true, true, true, true, true, true, true] (fun i => [(28, .int .i64 i)]) (fun i => c.fs.length - i) (fun i PS' => (i ≤ c.fs.length ∧ ∀ j a, j < i → c.fs[j]? = some a → decide (a.st = 0) = false) ∧ PS' = PS) 0 ⟨⟨Nat.zero_le _, fun j a h => absurd h (Nat.not_lt_zero _)⟩, rfl⟩ ?_ ?_)
   ·simp only [go_sem, seval, Int.natCast_zero]
   ·intro i PS' hr
    obtain ⟨⟨hi, hu⟩, rfl⟩ := hr
    by_cases hlt : i < c.fs.length
    ·obtain ⟨u, h1, h2⟩ := h.row hlt
     have ha1 : c.fs[i]? = some c.fs[i] := by simp [hlt]
     by_cases hx : c.fs[i].st = 0
     ·simp only [go_sem, seval, h.hn, h.hf, hlt, h2, h.rne, frL, nodL, hx]
      have : freeF c.fs = some i := findIdx?_found hlt (by simp [hx]) hu
      rw [this]
     ·simp only [go_sem, seval, h.hn, h.hf, hlt, h2, h.rne, frL, nodL, hx]
      refine ⟨by omega, i + 1, by omega, ⟨by omega, fun j a hj hja => ?_⟩, by simp⟩
      by_cases hji : j < i
      ·simpa using hu j a hji hja
      ·have : j = i := by omega
       subst this; rw [ha1] at hja; cases hja; simpa using hx
    ·simp only [go_sem, seval, hlt]
     have : freeF c.fs = none := findIdx?_not (fun j a hj => hu j a (by omega))
     rw [this]
  ·have ht : turnL (a :: l) t = false := by simp [turnL, hat]
   rw [ht]
   simp only [go_sem, seval, h.hn, h.hf, hs.len, List.length_map, List.length_cons, hll, hs.ix0 hg, hs.ld hg, hs.fld hg, hat]
theorem ca_place (h : CaAt PS n own c X) (b : Int) : HCall Tryz.prog 54 [.ptr n 0 0 0, .int .i64 b] PS fun r PS' => r = .int .i64 (ixI (c.at_ b)) ∧ PS' = PS := by
 refine enter_54 (by unfold Tryz.f54; exact rfl) ?_
 cases hb : c.at_ b with
 | none =>
  have := h.ma b
  rw [hb] at this
  simp only [go_sem, seval, h.hn, h.ha, this]
  rfl
 | some i =>
  have := h.ma b
  rw [hb] at this
  simp only [go_sem, seval, h.hn, h.ha, this]
  rfl
def waitsB (c : Cr) (X : CaX) (t : Int) : Bool := X.el.any fun e => (c.ld e.2.1).contains t
def ixOf (l : List Int) (x : Int) : Option Nat := l.findIdx? fun y => decide (y = x)
theorem ixOf_mem (l : List Int) (x : Int) : (ixOf l x).isSome = l.contains x := by
 unfold ixOf
 rw [List.findIdx?_isSome]
 induction l with
 | nil => rfl
 | cons a l ih => rw [List.any_cons, ih, List.contains_cons]; congr 1; by_cases h : a = x <;> simp [h]; exact fun e => h e.symm
theorem index_se (PS : PL) (l : List Int) (x : Int) (y : HV) (h : Sees PS 1 y (l.map kidL)) : HCall Tryz.prog 76 [y, .int .i64 x] PS fun r PS' => r = .int .i64 (ixI (ixOf l x)) ∧ PS' = PS := by
 refine HCall.data (.int _ _) ?_
 have hmx : maxLen = 9223372036854775807 := rfl
 refine enter_76 (by unfold Tryz.f76; exact rfl) ?_
 simp only [go_sem, seval, h.len, List.length_map]
 intro _
 refine pend_intro (loop_rule (α := Nat) [false, false, false, false, true, true, false, false, false, true, true, true, true, true, true, true, true, true, true] (fun i => [(8, .int .i64 i)]) (fun i => l.length - i) (fun i PS' => (i ≤ l.length ∧ ∀ j a, j < i → l[j]? = some a → decide (a = x) = false) ∧ PS' = PS) 0 ⟨⟨Nat.zero_le _, fun j a h => absurd h (Nat.not_lt_zero _)⟩, rfl⟩ ?_ ?_)
 ·simp only [go_sem, seval, Int.natCast_zero]
 ·intro i PS' hr
  obtain ⟨⟨hi, hu⟩, rfl⟩ := hr
  by_cases hlt : i < l.length
  ·have ha1 : l[i]? = some l[i] := by simp [hlt]
   have hg : (l.map kidL)[i]? = some [.int .i64 l[i]] := by rw [List.getElem?_map, ha1]; rfl
   by_cases hx : l[i] = x
   ·subst hx
    simp only [go_sem, seval, hlt, h.len, h.ix hg, h.ld hg, List.length_map]
    have : ixOf l l[i] = some i := findIdx?_found hlt (by simp) hu
    rw [this]
    exact ⟨rfl, Ext.refl _⟩
   ·have hx' : ¬ x = l[i] := fun h => hx h.symm
    simp only [go_sem, seval, hlt, h.len, h.ix hg, h.ld hg, List.length_map, hx, hx']
    refine ⟨by omega, i + 1, by omega, ⟨by omega, fun j a hj hja => ?_⟩, by simp⟩
    by_cases hji : j < i
    ·simpa using hu j a hji hja
    ·have : j = i := by omega
     subst this; rw [ha1] at hja; cases hja; simpa using hx
  ·simp only [go_sem, seval, hlt, List.length_map]
   have : ixOf l x = none := findIdx?_not (fun j a hj => hu j a (by omega))
   rw [this]
   exact ⟨rfl, Ext.refl _⟩
theorem contains_se (PS : PL) (l : List Int) (x : Int) (y : HV) (h : Sees PS 1 y (l.map kidL)) : HCall Tryz.prog 74 [y, .int .i64 x] PS fun r PS' => r = .bool (l.contains x) ∧ PS' = PS := by
 refine enter_74 (by unfold Tryz.f74; exact rfl) ?_
 simp only [go_sem, seval]
 refine pend_intro ((index_se PS l x y h).mono ?_)
 rintro r PS' ⟨rfl, rfl⟩
 simp only [go_sem, seval]
 rw [← ixOf_mem]
 cases ixOf l x with
 | none => rfl
 | some i =>
  have : (0 : Int) ≤ i := by omega
  show HV.bool (decide ((0 : Int) ≤ i)) = _
  rw [decide_eq_true this]; rfl
theorem ca_waits (h : CaAt PS n own c X) (t : Int) : HCall Tryz.prog 92 [.ptr n 0 0 0, .int .i64 t] PS fun r PS' => r = .bool (waitsB c X t) ∧ PS' = PS := by
 have hmx : maxLen = 9223372036854775807 := rfl
 refine HCall.data (.bool _) ?_
 refine enter_92 (by unfold Tryz.f92; exact rfl) ?_
 simp only [go_sem, seval, h.hn, h.hl]
 refine pend_intro (loop_rule (α := List Nat) [false, false, false, false, true, false, true, false, false, false, false, false, true, true, true, true, true, true, true] (fun _ => []) (unseen X.el) (fun seen PS' => PS' = PS ++ [.iter 0 (.ref X.pl 0) X.kl seen X.kl] ∧ ∀ e ∈ X.el, e.1 ∈ seen → (c.ld e.2.1).contains t = false) [] ⟨rfl, by simp⟩ ?_ ?_)
 ·simp only [go_sem, seval]
 ·intro seen PS' hr
  obtain ⟨rfl, hu⟩ := hr
  have h' := fun s => h.app [.iter 0 (.ref X.pl 0) X.kl s X.kl]
  have hl := fun s => getP_last PS (.iter 0 (.ref X.pl 0) X.kl s X.kl)
  simp only [go_sem, seval, (h' seen).hn, (h' seen).hl, hl]
  refine next_intro (hl seen) (h' seen).hl (fun b key y hm hb => ?_) (fun hall => ?_)
  ·rw [set_last]
   have hy := h.okl.get hm
   have hs := ((h' (seen ++ [b])).ml key).sees
   rw [hy, Option.getD_some] at hs
   simp only [go_sem, seval, entry_eq (hl (seen ++ [b])) (h' _).hl (ment_of hm h.okl.born)]
   refine pend_intro ((contains_se _ _ t y hs).mono ?_)
   rintro _ _ ⟨rfl, rfl⟩
   cases hc : (c.ld key).contains t with
   | true =>
    simp only [go_sem, seval]
    have : waitsB c X t = true := List.any_eq_true.2 ⟨_, hm, hc⟩
    rw [this]
    exact ⟨rfl, Ext.app _ _⟩
   | false =>
    simp only [go_sem, seval]
    have hnew : ∀ e ∈ X.el, e.1 ∈ seen ++ [b] → (c.ld e.2.1).contains t = false := fun e he hes => by
     rcases List.mem_append.1 hes with h1 | h1
     ·exact hu e he h1
     ·simp at h1
      have h2 := ment_of (b := e.1) (key := e.2.1) (y := e.2.2) he h.okl.born
      rw [h1, ment_of hm h.okl.born] at h2
      cases h2
      exact hc
    refine ⟨seen ++ [b], unseen_lt hm hb, rfl, ?_⟩
    simpa using hnew
  ·simp only [go_sem, seval]
   have : waitsB c X t = false := List.any_eq_false.2 fun e he => by rw [hu e he (hall e he)]; simp
   rw [this]
   exact ⟨rfl, Ext.app _ _⟩
theorem ca_frame (h : CaAt PS n own c X) (b st : Int) (hi : ∀ i, c.at_ b = some i → i < c.fs.length) : HCall Tryz.prog 60 [.ptr n 0 0 0, .int .i64 b, .int .i64 st] PS fun r PS' => r = (match (c.at_ b).filter (fun i => decide ((c.fs.getD i Fm.free).st = st)) with | some k => .ptr X.pf X.vf k 0 | none => .cst (.pointer none)) ∧ PS' = PS := by
 refine enter_60 (by unfold Tryz.f60; exact rfl) ?_
 simp only [go_sem, seval]
 refine pend_intro ((ca_place h b).mono ?_)
 rintro _ _ ⟨rfl, rfl⟩
 cases hb : c.at_ b with
 | none =>
  simp only [go_sem, seval, ixI]
  rfl
 | some i =>
  have hlt := hi i hb
  obtain ⟨u, h1, h2⟩ := h.row hlt
  have hgd : c.fs.getD i Fm.free = c.fs[i] := by simp [List.getD, hlt]
  have hnn : ¬ (i : Int) < 0 := by omega
  by_cases hx : c.fs[i].st = st
  ·simp only [go_sem, seval, ixI, h.hn, h.hf, h2, frL, nodL, hlt, hnn, hx, h.rne]
   rw [Option.filter_some, hgd]; simp [hx]
  ·simp only [go_sem, seval, ixI, h.hn, h.hf, h2, frL, nodL, hlt, hnn, hx, h.rne]
   rw [Option.filter_some, hgd]; simp [hx]
theorem ca_ready (h : CaAt PS n own c X) (b : Int) (hi : ∀ i, c.at_ b = some i → i < c.fs.length) : HCall Tryz.prog 63 [.ptr n 0 0 0, .int .i64 b] PS fun r PS' => r = .bool ((c.at_ b).filter (fun i => decide ((c.fs.getD i Fm.free).st = 2))).isSome ∧ PS' = PS := by
 refine enter_63 (by unfold Tryz.f63; exact rfl) ?_
 simp only [go_sem, seval]
 refine pend_intro ((ca_frame h b 2 hi).mono ?_)
 rintro _ _ ⟨rfl, rfl⟩
 cases hb : (c.at_ b).filter (fun i => decide ((c.fs.getD i Fm.free).st = 2)) with
 | none =>
  simp only [go_sem, seval]
 | some i =>
  simp only [go_sem, seval, h.hf, h.rne]
theorem ca_frees (h : CaAt PS n own c X) (hf : c.fs.length ≤ 1000) : HCall Tryz.prog 37 [.ptr n 0 0 0] PS fun r PS' => r = .int .i64 (c.fs.countP fun f => decide (f.st = 0)) ∧ PS' = PS := by
 have hmx : maxLen = 9223372036854775807 := rfl
 refine HCall.data (.int _ _) ?_
 refine enter_37 (by unfold Tryz.f37; exact rfl) ?_
 simp only [go_sem, seval, h.hn, h.hf]
 intro _
 refine pend_intro (loop_rule (α := Nat) [false, false, false, false, false, true, false, false, false, false, false, false, true, true, true, true, true, true, true, true, true] (fun i => [(11, .int .i64 i), (3, .int .i64 ((c.fs.take i).countP fun f => decide (f.st = 0)))]) (fun i => c.fs.length - i) (fun i PS' => (i ≤ c.fs.length) ∧ Ext [] PS PS' ∧ CaAt PS' n own c X) 0 ⟨Nat.zero_le _, Ext.refl _, h⟩ ?_ ?_)
 ·simp only [go_sem, seval, Int.natCast_zero, List.take_zero, List.countP_nil]
 ·rintro i PS1 ⟨hi, he, h⟩
  by_cases hlt : i < c.fs.length
  ·obtain ⟨u, h1, h2⟩ := h.row hlt
   have hcl : (c.fs.take i).countP (fun f => decide (f.st = 0)) ≤ 1000 := Nat.le_trans (List.countP_le_length) (by simp; omega)
   have hst : (c.fs.take (i + 1)).countP (fun f => decide (f.st = 0)) = (c.fs.take i).countP (fun f => decide (f.st = 0)) + if c.fs[i].st = 0 then 1 else 0 := by
    rw [List.take_succ_eq_append_getElem hlt, List.countP_append]; simp [List.countP_cons]
   by_cases hx : c.fs[i].st = 0
   ·simp only [go_sem, seval, h.hn, h.hf, h2, frL, nodL, hlt, hx, h.rne, List.length_replicate]
    refine ⟨⟨by omega, by omega⟩, ⟨by omega, by omega⟩, i + 1, by omega, ⟨by omega, he.trans (Ext.app _ _), h.app _⟩, ?_⟩
    rw [hst, if_pos hx]; simp
   ·simp only [go_sem, seval, h.hn, h.hf, h2, frL, nodL, hlt, hx, h.rne, List.length_replicate]
    refine ⟨⟨by omega, by omega⟩, i + 1, by omega, ⟨by omega, he.trans (Ext.app _ _), h.app _⟩, ?_⟩
    rw [hst, if_neg hx]; simp
  ·simp only [go_sem, seval, hlt]
   have : c.fs.take i = c.fs := List.take_of_length_le (by omega)
   rw [this]
   exact ⟨rfl, he⟩
theorem ca_line (h : CaAt PS n own c X) (hl : c.line.length ≤ 1000) : HCall Tryz.prog 44 [.ptr n 0 0 0] PS fun r PS' => r = .imm (decide ((c.line.map Sd.t).map kidL = [])) ((c.line.map Sd.t).map kidL) ∧ PS' = PS := by
 have hmx : maxLen = 9223372036854775807 := rfl
 refine Bld.done (s := 1) (by intro l hl y hy; simp at hl; obtain ⟨a, _, rfl⟩ := hl; simp [kidL] at hy; subst hy; exact .int _ _) ?_
 refine enter_44 (by unfold Tryz.f44; exact rfl) ?_
 have hs := h.line.sees
 simp only [go_sem, seval, h.hn, hs.len, List.length_map]
 intro _
 refine pend_intro (loop_rule (α := Nat × HV) [false, false, false, false, false, true, false, false, false, false, false, false, true, true, true, true, true, true, true, true, true] (fun b => [(11, .int .i64 b.1), (3, b.2)]) (fun b => c.line.length - b.1) (fun b PS' => b.1 ≤ c.line.length ∧ Bld PS PS' 1 b.2 (((c.line.take b.1).map Sd.t).map kidL)) (0, .imm true []) ⟨Nat.zero_le _, Bld.nil 1 (Ext.refl _)⟩ ?_ ?_)
 ·simp only [go_sem, seval, Int.natCast_zero]
 ·rintro ⟨i, y⟩ PS1 ⟨hi, hb⟩
  simp only at hi hb
  have h' := h.ext hb.ext
  have hs := h'.line.sees
  by_cases hlt : i < c.line.length
  ·have ha1 : c.line[i]? = some c.line[i] := by simp [hlt]
   have hg : (c.line.map wtL)[i]? = some (wtL c.line[i]) := by rw [List.getElem?_map, ha1]; rfl
   simp only [go_sem, seval, hlt, h'.hn, hs.len, hs.ix hg, hs.ld hg, List.length_map]
   refine ⟨by simp, (hb.more _).app (by simp) (by simp) (by simp [hroom]; omega) fun v PS2 hb2 => ?_⟩
   refine ⟨⟨by omega, by omega⟩, (i + 1, v), by simp only; omega, ⟨by simp only; omega, ?_⟩, .inl rfl, rfl⟩
   have e : ((c.line.take (i + 1)).map Sd.t).map kidL = ((c.line.take i).map Sd.t).map kidL ++ [[.int .i64 c.line[i].t]] := by rw [List.take_succ_eq_append_getElem hlt]; simp only [List.map_append, List.map_cons, List.map_nil, kidL]
   simp only
   rw [e]; exact hb2
  ·simp only [go_sem, seval, hlt]
   have : c.line.take i = c.line := List.take_of_length_le (by omega)
   rw [this] at hb
   exact hb
theorem sat_lt {l : List Sd} {t : Int} {k : Nat} (h : sat l t = some k) : ∃ hk : k < l.length, l[k].t = t := by
 obtain ⟨hk, h1, _⟩ := List.findIdx?_eq_some_iff_getElem.1 h
 exact ⟨hk, by simpa using h1⟩
theorem wt_fits (a w : Sd) : hfitAll [(0, 1), (1, 1), (2, 0)] (wtL a) (wtL w) := by
 intro p hp
 simp only [List.mem_cons, List.not_mem_nil, or_false] at hp
 rcases hp with rfl | rfl | rfl
 ·exact (rfl : IntKind.i64 = IntKind.i64)
 ·exact (rfl : IntKind.i64 = IntKind.i64)
 ·exact trivial
theorem wt_cmp (a w : Sd) : hcmp [(0, 1), (1, 1), (2, 0)] (wtL a) (wtL w) = (decide (a.t = w.t) && (decide (a.b = w.b) && ((decide (a.b = -1) == decide (w.b = -1)) && true))) := rfl
theorem ca_may (h : CaAt PS n own c X) (w : Sd) (hl : c.line.length ≤ 1000) : HCall Tryz.prog 53 [.ptr n 0 0 0, .agg (wtL w)] PS fun r PS' => r = .bool (isT w.t && !waitsB c X w.t && (sat c.line w.t).all fun k => decide ((c.line.getD k ⟨0, 0⟩).b = w.b)) ∧ PS' = PS := by
 have hmx : maxLen = 9223372036854775807 := rfl
 refine HCall.data (.bool _) ?_
 refine enter_53 (by unfold Tryz.f53; exact rfl) ?_
 simp only [go_sem, seval]
 have h := h.app [.arr 0 3 [wtL w] false]
 have hw := getP_last PS (.arr 0 3 [wtL w] false)
 refine pend_intro ((ca_stands h w.t hl).mono ?_)
 rintro _ _ ⟨rfl, rfl⟩
 simp only [go_sem, seval, hw]
 refine pend_intro ((ca_task w.t).to ?_)
 cases ht : isT w.t with
 | false =>
  simp only [go_sem, seval, Bool.false_and]
  exact Ext.app _ _
 | true =>
  simp only [go_sem, seval, hw]
  refine pend_intro (Reads.to (fun PS2 hp => ca_waits (h.pre hp) w.t) ?_)
  cases hb : waitsB c X w.t with
  | true =>
   simp only [go_sem, seval, Bool.not_true, Bool.and_false, Bool.false_and]
   exact Ext.app _ _
  | false =>
   cases hk : sat c.line w.t with
   | none =>
    simp only [go_sem, seval, ixI, Option.all_none, Bool.and_true, Bool.not_false]
    exact Ext.app _ _
   | some k =>
    obtain ⟨hk1, hk2⟩ := sat_lt hk
    have hs := h.line.sees
    have ha1 : c.line[k]? = some c.line[k] := by simp [hk1]
    have hg : (c.line.map wtL)[k]? = some (wtL c.line[k]) := by rw [List.getElem?_map, ha1]; rfl
    have hnn : ¬ (k : Int) < 0 := by omega
    simp only [go_sem, seval, ixI, hnn, h.hn, hs.ix hg, hs.ld hg, hw]
    refine ⟨wt_fits _ _, ?_, Ext.app _ _⟩
    have hgd : c.line.getD k ⟨0, 0⟩ = c.line[k] := by simp [List.getD, hk1]
    rw [Option.all_some, hgd]
    by_cases hbb : c.line[k].b = w.b
    ·rw [wt_cmp]; simp [hbb, hk2]
    ·rw [wt_cmp]; simp [hbb, hk2]
theorem ca_May (h : CaAt PS n own c X) (t : Int) (hl : c.line.length ≤ 1000) (hf : c.fs.length ≤ 1000) : HCall Tryz.prog 86 [.ptr n 0 0 0, .int .i64 t] PS fun r PS' => r = .bool (isT t && !waitsB c X t && match sat c.line t with | some k => (decide (k = 0) && decide (0 < c.fs.countP fun f => decide (f.st = 0))) || (c.at_ (c.line.getD k ⟨0, 0⟩).b).isSome | none => true) ∧ PS' = PS := by
 have hmx : maxLen = 9223372036854775807 := rfl
 refine enter_86 (by unfold Tryz.f86; exact rfl) ?_
 simp only [go_sem, seval]
 refine pend_intro ((ca_task t).call ?_)
 cases ht : isT t with
 | false => simp only [go_sem, seval, Bool.false_and]
 | true =>
  simp only [go_sem, seval]
  refine pend_intro ((ca_waits h t).mono ?_)
  rintro _ _ ⟨rfl, rfl⟩
  cases hb : waitsB c X t with
  | true => simp only [go_sem, seval, Bool.not_true, Bool.and_false, Bool.false_and]
  | false =>
   simp only [go_sem, seval]
   refine pend_intro ((ca_stands h t hl).mono ?_)
   rintro _ _ ⟨rfl, rfl⟩
   cases hk : sat c.line t with
   | none => simp only [go_sem, seval, ixI, Bool.and_true, Bool.not_false]
   | some k =>
    obtain ⟨hk1, hk2⟩ := sat_lt hk
    have hs := h.line.sees
    have ha1 : c.line[k]? = some c.line[k] := by simp [hk1]
    have hg : (c.line.map wtL)[k]? = some (wtL c.line[k]) := by rw [List.getElem?_map, ha1]; rfl
    have hnn : ¬ (k : Int) < 0 := by omega
    by_cases hk0 : k = 0
    ·subst hk0
     simp only [go_sem, seval, ixI, hnn, h.hn, Int.natCast_zero]
     refine pend_intro ((ca_frees h hf).mono ?_)
     rintro _ _ ⟨rfl, rfl⟩
     have hg0 : (c.line.map wtL)[0]? = some (wtL c.line[0]) := hg
     have hgd : c.line.getD 0 ⟨0, 0⟩ = c.line[0] := by simp [List.getD, hk1]
     have hkk : (0 : Nat) = 0 := rfl
     by_cases hm : 0 < c.fs.countP fun f => decide (f.st = 0)
     ·have hm' : (0 : Int) < ((c.fs.countP fun f => decide (f.st = 0) : Nat) : Int) := by omega
      simp only [go_sem, seval, hm', hm, Bool.true_and, Bool.true_or, Bool.not_false, Bool.and_true]
     ·have hm' : ¬ (0 : Int) < ((c.fs.countP fun f => decide (f.st = 0) : Nat) : Int) := by omega
      simp only [go_sem, seval, hm', hm, h.hn, hs.ix0 hg0, hs.ld hg0, hs.fld hg0]
      refine pend_intro ((ca_place h _).mono ?_)
      rintro _ _ ⟨rfl, rfl⟩
      cases hz : c.at_ (c.line[0]).b with
      | none => simp only [go_sem, seval, ixI, hgd, hz, hm, Bool.false_or, Bool.and_true, Bool.and_false, Bool.false_and, Option.isSome_none, Bool.not_false, Bool.true_and]
      | some z =>
       have hz' : (0 : Int) ≤ z := by omega
       simp only [go_sem, seval, ixI, hgd, hz, hz', hm, Option.isSome_some, Bool.false_and, Bool.and_false, Bool.or_true, Bool.not_false, Bool.true_and]
    ·have hk0' : ¬ (k : Int) = 0 := by omega
     have hgd : c.line.getD k ⟨0, 0⟩ = c.line[k] := by simp [List.getD, hk1]
     simp only [go_sem, seval, ixI, hnn, hk0, hk0', h.hn, hs.ix hg, hs.ld hg, hs.fld hg]
     refine pend_intro ((ca_place h _).mono ?_)
     rintro _ _ ⟨rfl, rfl⟩
     cases hz : c.at_ (c.line[k]).b with
     | none => simp only [go_sem, seval, ixI, hgd, hz, hk0, Bool.false_or, Bool.and_true, Bool.and_false, Bool.false_and, Option.isSome_none, Bool.not_false, Bool.true_and]
     | some z =>
      have hz' : (0 : Int) ≤ z := by omega
      simp only [go_sem, seval, ixI, hgd, hz, hz', hk0, Option.isSome_some, Bool.false_and, Bool.and_false, Bool.or_true, Bool.not_false, Bool.true_and]
end
@[go_sem ↓, go_sem] theorem zO : (List.replicate 3 (HV.int .i64 0) ++ List.replicate 3 (HV.bool false) ++ List.replicate 5 (HV.imm true []) ++ [HV.int .i64 0] ++ [HV.imm true []]) = [.int .i64 0, .int .i64 0, .int .i64 0, .bool false, .bool false, .bool false, .imm true [], .imm true [], .imm true [], .imm true [], .imm true [], .int .i64 0, .imm true []] := _root_.id rfl
theorem rows_ent (l : List (Bs × Bs)) : ∀ r ∈ l.map entL, r.length = 26 := by intro r hr; simp at hr; obtain ⟨a, b, _, rfl⟩ := hr; exact entL_len _
theorem rows_kid (l : List Int) : ∀ r ∈ l.map kidL, r.length = 1 := by intro r hr; simp at hr; obtain ⟨a, _, rfl⟩ := hr; rfl
theorem rows_key (l : List Bs) : ∀ r ∈ l.map keyL, r.length = 9 := by intro r hr; simp at hr; obtain ⟨a, _, rfl⟩ := hr; exact keyL_len _
theorem rows_msg (l : List Ms) : ∀ r ∈ l.map msgL, r.length = 29 := by intro r hr; simp at hr; obtain ⟨a, _, rfl⟩ := hr; exact msgL_len _
def frO (f : Fm) : List HV := .int .i64 f.st :: .int .i64 f.blk :: .int .i64 f.pins :: .bool f.rf :: .bool f.dy :: (nodL ⟨false, false, false, false⟩ f.nd ++ [.imm true [], .int .i64 (-1), .imm true []])
def Fl.no : Fl := ⟨false, false, false, false⟩
theorem sc_kid {k : Nat} (i : Int) : ∀ x ∈ kidL i, Scoped k x := by intro x hx; simp [kidL] at hx; subst hx; exact .int _ _
theorem ca_own (t : Fl) (n : Nd) (ok : okN n) : Pure Tryz.prog 61 [.agg (nodL t n)] (.agg (nodL Fl.no n)) := by
 refine Pure.of_ext (sc_nod _ _) fun PS => ?_
 obtain ⟨f1, f2, f3, f4⟩ := ok.few
 refine enter_61 (by unfold Tryz.f61; exact rfl) ?_
 simp only [go_sem, seval, nodL]
 refine pend_intro (Reads.to (fun PS2 hp => HCall.copy (scoped_imm.1 (sc_rows false entL n.ents sc_ent)) (cl_ent_imm _ t.a _ (rows_ent _) (by simp [hroom]; omega))) ?_)
 simp only [go_sem, seval, nodL]
 refine pend_intro (Reads.to (fun PS2 hp => HCall.copy (scoped_imm.1 (sc_rows false kidL n.kids sc_kid)) (cl_int_imm _ t.b _ (rows_kid _) (by simp [hroom]; omega))) ?_)
 simp only [go_sem, seval, nodL]
 refine pend_intro (Reads.to (fun PS2 hp => HCall.copy (scoped_imm.1 (sc_rows false keyL n.pivs sc_key)) (cl_key_imm _ t.c _ (rows_key _) (by simp [hroom]; omega))) ?_)
 simp only [go_sem, seval, nodL]
 refine pend_intro (Reads.to (fun PS2 hp => HCall.copy (scoped_imm.1 (sc_rows false msgL n.msgs sc_msg)) (cl_msg_imm _ t.d _ (rows_msg _) (by simp [hroom]; omega))) ?_)
 simp only [go_sem, seval, nodL]
 exact ⟨rfl, Ext.app _ _⟩
section
variable {PS : PL} {n : Nat} {own : List Nat} {c : Cr} {X : CaX}
theorem ca_node (h : CaAt PS n own c X) (b : Int) (hi : ∀ i, c.at_ b = some i → i < c.fs.length) (ok : ∀ f ∈ c.fs, okN f.nd) : HCall Tryz.prog 32 [.ptr n 0 0 0, .int .i64 b] PS fun r PS' => r = (match (c.at_ b).filter (fun i => decide ((c.fs.getD i Fm.free).st = 2)) with | some k => .tup [.agg (nodL Fl.no (c.fs.getD k Fm.free).nd), .bool true] | none => .tup [.agg (nodL ⟨true, true, true, true⟩ Nd.none), .bool false]) ∧ PS' = PS := by
 cases hb : (c.at_ b).filter (fun i => decide ((c.fs.getD i Fm.free).st = 2)) with
 | none =>
  refine HCall.data (scoped_tup.2 (by simp; exact ⟨sc_nod _ _, .bool _⟩)) ?_
  refine enter_32 (by unfold Tryz.f32; exact rfl) ?_
  simp only [go_sem, seval]
  have h' := fun l => h.app l
  refine pend_intro ((ca_frame (h' _) b 2 hi).mono ?_)
  rintro _ _ ⟨rfl, rfl⟩
  rw [hb]
  simp only [go_sem, seval]
  exact ⟨rfl, Ext.app _ _⟩
 | some i =>
  refine HCall.data (scoped_tup.2 (by simp; exact ⟨sc_nod _ _, .bool _⟩)) ?_
  refine enter_32 (by unfold Tryz.f32; exact rfl) ?_
  simp only [go_sem, seval]
  have h' := fun l => h.app l
  refine pend_intro ((ca_frame (h' _) b 2 hi).mono ?_)
  rintro _ _ ⟨rfl, rfl⟩
  have hi' := Option.filter_eq_some_iff.1 hb
  have hlt := hi i hi'.1
  obtain ⟨u, h1, h2⟩ := h.row hlt
  have hgd : c.fs.getD i Fm.free = c.fs[i] := by simp [List.getD, hlt]
  rw [hb]
  have oki := ok _ (List.getElem_mem hlt)
  simp only [go_sem, seval, (h' _).hf, h.rne, h2, frL, nodL, hgd]
  refine pend_intro ((ca_own u _ oki).call ?_)
  simp only [go_sem, seval, nodL]
  exact ⟨by simp only [hgd, nodL], Ext.app _ _⟩
theorem ca_Frames (h : CaAt PS n own c X) (hf : c.fs.length ≤ 1000) (ok : ∀ f ∈ c.fs, okN f.nd) : HCall Tryz.prog 42 [.ptr n 0 0 0] PS fun r PS' => Bld PS PS' 13 r (c.fs.map frO) := by
 have hmx : maxLen = 9223372036854775807 := rfl
 refine enter_42 (by unfold Tryz.f42; exact rfl) ?_
 simp only [go_sem, seval, h.hn, h.hf]
 intro _
 refine pend_intro (loop_rule (α := Nat × HV) [false, false, false, false, false, true, false, false, false, false, false, false, true, true, true, true, true, true, true, true, true, true, true, true, true, true, true, true, true, true, true, true, true] (fun b => [(11, .int .i64 b.1), (3, b.2)]) (fun b => c.fs.length - b.1) (fun b PS' => b.1 ≤ c.fs.length ∧ Bld PS PS' 13 b.2 ((c.fs.take b.1).map frO)) (0, .imm true []) ⟨Nat.zero_le _, Bld.nil 13 (Ext.refl _)⟩ ?_ ?_)
 ·simp only [go_sem, seval, Int.natCast_zero]
 ·rintro ⟨i, y⟩ PS1 ⟨hi, hb⟩
  simp only at hi hb
  have h' := h.ext hb.ext
  by_cases hlt : i < c.fs.length
  ·obtain ⟨u, h1, h2⟩ := h'.row hlt
   have oki := ok _ (List.getElem_mem hlt)
   simp only [go_sem, seval, hlt, h'.hn, h'.hf, h2, h'.rne, frL, nodL, List.length_replicate]
   refine pend_intro ((ca_own u _ oki).to ?_)
   simp only [go_sem, seval, nodL]
   have e : (c.fs.take (i + 1)).map frO = (c.fs.take i).map frO ++ [frO c.fs[i]] := by rw [List.take_succ_eq_append_getElem hlt]; simp only [List.map_append, List.map_cons, List.map_nil]
   have hll : ((c.fs.take i).map frO).length ≤ 1000 := by simp; omega
   refine ⟨by simp, (hb.more _).app (by simp) (by simp) (by simp only [hroom, List.length_cons, List.length_nil]; omega) fun v PS2 hb2 => ?_⟩
   refine ⟨⟨by omega, by omega⟩, (i + 1, v), by simp only; omega, ⟨by simp only; omega, ?_⟩, .inl rfl, rfl⟩
   simp only
   rw [e]; exact hb2
  ·simp only [go_sem, seval, hlt]
   have : c.fs.take i = c.fs := List.take_of_length_le (by omega)
   rw [this] at hb
   exact hb
theorem ca_placeF (h : CaAt PS n own c X) (hf : c.fs.length ≤ 1000) (k : Nat) (hk : k < c.fs.length) : HCall Tryz.prog 58 [.ptr n 0 0 0, .ptr X.pf X.vf k 0] PS fun _ PS' => ∃ X', CaAt PS' n own { c with at_ := fun b => if b = c.fs[k].blk then some k else c.at_ b } X' ∧ SameF X X' ∧ Upd own PS PS' own := by
 have hmx : maxLen = 9223372036854775807 := rfl
 refine enter_58 (by unfold Tryz.f58; exact rfl) ?_
 simp only [go_sem, seval, h.hn, h.hf]
 intro _
 refine pend_intro (loop_rule (α := Nat) [false, false, false, false, true, false, false, false, false, false, false, true, true, true, true, true, true, true, true, true, true, true, true, true, true, true, true, true, true, true, true] (fun b => [(10, .int .i64 b)]) (fun b => c.fs.length - b) (fun i PS' => i ≤ c.fs.length ∧ Upd own PS PS' own ∧ ∃ X', CaAt PS' n own (if i ≤ k then c else { c with at_ := fun b => if b = c.fs[k].blk then some k else c.at_ b }) X' ∧ SameF X X') 0 ⟨Nat.zero_le _, .refl _ _, X, by simpa using h, rfl, rfl, rfl⟩ ?_ ?_)
 ·simp only [go_sem, seval, Int.natCast_zero]
 ·rintro i PS1 ⟨hi, hu, X1, h1, e1, e2, e3⟩
  by_cases hlt : i < c.fs.length
  ·by_cases hik : i = k
   ·subst hik
    rw [if_pos (Nat.le_refl _)] at h1
    obtain ⟨u, h2, h3⟩ := h1.row hlt
    have hn := h1.hn
    have hf1 := h1.hf
    rw [e1, e2] at hn hf1
    simp only [go_sem, seval, hlt, hn, hf1, h3, h1.rne, frL, nodL, h1.ha]
    obtain ⟨X2, h4, f1⟩ := h1.setA c.fs[i].blk i
    refine ⟨⟨by omega, by omega⟩, i + 1, by omega, ⟨by omega, hu.trans ⟨(Ext.set PS1 _ _).mono (by simp [h1.ma']), fun m hm => .inl hm⟩, X2, ?_, SameF.trans ⟨e1, e2, e3⟩ f1⟩, rfl⟩
    rw [if_neg (show ¬ i + 1 ≤ i by omega)]
    exact h4
   ·have hn : getP PS1 n = .arr 0 5 [[.sl X.pf X.vf 0 c.fs.length none, .ref X1.pa 0, .ref X1.pl 0, X1.xl, .int .i64 c.hand]] false := by
     have := h1.hn
     rw [e1, e2] at this
     split at this <;> exact this
    have hf1 := h1.hf
    rw [e1, e2] at hf1
    have hl1 := h1.rows_len
    have hl2 : (if i ≤ k then c else { c with at_ := fun b => if b = c.fs[k].blk then some k else c.at_ b }).fs = c.fs := by split <;> rfl
    rw [hl2] at hl1
    obtain ⟨r, hr⟩ : ∃ r, (rowsF X1.ts)[i]? = some r := ⟨_, List.getElem?_eq_getElem (by omega)⟩
    have hrl : r.length = 11 := by
     obtain ⟨p, _, rfl⟩ := List.mem_map.1 (List.mem_of_getElem? hr)
     rfl
    simp only [go_sem, seval, hlt, hn, hf1, hr, hrl, h1.rne, hik]
    refine ⟨⟨by omega, by omega⟩, i + 1, by omega, ⟨by omega, hu, X1, ?_, e1, e2, e3⟩, rfl⟩
    by_cases hlk : i < k
    ·rw [if_pos (show i ≤ k by omega)] at h1
     rw [if_pos (show i + 1 ≤ k by omega)]
     exact h1
    ·rw [if_neg (show ¬ i ≤ k by omega)] at h1
     rw [if_neg (show ¬ i + 1 ≤ k by omega)]
     exact h1
  ·simp only [go_sem, seval, hlt]
   rw [if_neg (by omega)] at h1
   exact ⟨X1, h1, ⟨e1, e2, e3⟩, hu⟩
end
theorem del_wt (PS : PL) (l : List Sd) (i : Nat) (q ver : Nat) (pre sp : List (List HV)) (hi : i < l.length) (hl : l.length ≤ 1000) (hq : getP PS q = .arr ver 3 (pre ++ (l.map wtL ++ sp)) true) :
  HCall Tryz.prog 93 [.sl q ver pre.length l.length none, .int .i64 i, .int .i64 ((i : Int) + 1)] PS fun r PS' => r = .sl q ver pre.length (l.length - 1) none ∧ ∃ sp', sp' ≠ [] ∧ PS' = PS.set q (.arr ver 3 (pre ++ ((l.eraseIdx i).map wtL ++ sp')) true) := by
 have hmx : maxLen = 9223372036854775807 := rfl
 refine enter_93 (by unfold Tryz.f93; exact rfl) ?_
 have hne : ¬ (pre ++ (l.map wtL ++ sp) = []) := by cases l with | nil => simp at hi | cons a l => simp
 have h1 : ¬ (i : Int) = i + 1 := by omega
 have h2 : ((i : Int) + 1).toNat = i + 1 := by omega
 have ht : List.take (l.length - (i + 1)) (List.drop (pre.length + (i + 1)) (pre ++ (l.map wtL ++ sp))) = (l.drop (i + 1)).map wtL := rows_mid wtL pre l sp (i + 1) (by omega)
 have hle : (pre ++ (l.map wtL ++ sp)).length = pre.length + (l.length + sp.length) := by simp
 obtain ⟨z, sp1, hz⟩ := rows_del wtL pre l sp hi
 have hx : ∀ Q, getP (PS.set q Q) q = Q := fun Q => getP_set_eq Q hq
 have hdl : ((l.drop (i + 1)).map wtL).length = l.length - (i + 1) := by simp
 simp only [go_sem, seval, hq, hne, h1, h2, ht, hle, hdl]
 intro _
 refine ⟨by omega, by omega, fun _ => ⟨by omega, by omega, by omega, by omega, .inr ⟨by omega, ?_⟩⟩⟩
 have h3 : ¬ (pre ++ ((l.eraseIdx i).map wtL ++ z :: sp1) = []) := by simp
 rw [ht]
 have hln : (pre ++ ((l.eraseIdx i).map wtL ++ z :: sp1)).length = pre.length + (l.length - 1 + (sp1.length + 1)) := by simp [List.length_eraseIdx, hi]
 have hsl : pre.length + (l.length + sp.length) = (pre ++ ((l.eraseIdx i).map wtL ++ z :: sp1)).length := by rw [← hz, splice_len]; simp; simp; omega
 rw [hln] at hsl
 simp only [go_sem, seval, hx, hz, hdl, h3, ht, hle, hln]
 have e1 : i + (l.length - (i + 1)) = l.length - 1 := by omega
 have e2 : l.length - (l.length - 1) = 1 := by omega
 rw [e1, e2]
 refine ⟨by omega, fun _ => ⟨by omega, by omega, by omega, rfl, ?_⟩⟩
 have l1 : pre.length + (l.length - 1) = (pre ++ (l.eraseIdx i).map wtL).length := by simp [List.length_eraseIdx, hi]
 rw [← List.append_assoc pre, l1, splice_app', List.set_set, List.append_assoc]
 refine ⟨_, ?_, rfl⟩
 simp
theorem rows_wt (l : List Sd) : ∀ r ∈ l.map wtL, r.length = 3 := by intro r hr; simp at hr; obtain ⟨a, _, rfl⟩ := hr; rfl
theorem del_line (PS : PL) (l : List Sd) (i : Nat) (x : HV) (own : List Nat) (hi : i < l.length) (hl : l.length ≤ 1000) (h : SlO PS 3 x own (l.map wtL)) :
  HCall Tryz.prog 93 [x, .int .i64 i, .int .i64 ((i : Int) + 1)] PS fun r PS' => ∃ own', SlO PS' 3 r own' ((l.eraseIdx i).map wtL) ∧ Upd own PS PS' own' := by
 rcases h.1 with ⟨rfl, h0, rfl⟩ | ⟨q, ver, pre, sp, rfl, hg, hne, rfl⟩
 ·have : l = [] := by simpa using h0
  subst this; simp at hi
 ·rw [List.length_map]
  refine (del_wt PS l i q ver pre sp hi hl hg).mono ?_
  rintro r PS' ⟨rfl, sp', hsp, rfl⟩
  have e : l.length - 1 = ((l.eraseIdx i).map wtL).length := by simp [List.length_eraseIdx, hi]
  rw [e]
  exact ⟨[q], ⟨.inr ⟨q, ver, pre, sp', rfl, getP_set_eq _ hg, by simp [hsp], rfl⟩, rows_wt _⟩, Ext.set PS q _, fun m hm => .inl hm⟩
section
variable {PS : PL} {n : Nat} {own : List Nat} {c : Cr} {X : CaX}
theorem ca_leave (h : CaAt PS n own c X) (t : Int) (hl : c.line.length ≤ 1000) (hd : Diff (c.line.map Sd.t)) : HCall Tryz.prog 55 [.ptr n 0 0 0, .int .i64 t] PS fun _ PS' => ∃ own' X', CaAt PS' n own' { c with line := sleave c.line t } X' ∧ SameF X X' ∧ Upd own PS PS' own' := by
 refine enter_55 (by unfold Tryz.f55; exact rfl) ?_
 simp only [go_sem, seval]
 refine pend_intro ((ca_stands h t hl).mono ?_)
 rintro _ PS ⟨rfl, rfl⟩
 cases hk : sat c.line t with
 | none =>
  have e : sleave c.line t = c.line := by
   unfold sleave sat at *
   rw [List.findIdx?_eq_none_iff] at hk
   exact List.filter_eq_self.2 fun a ha => by simpa using hk a ha
  simp only [go_sem, seval, ixI]
  rw [e]
  exact ⟨own, X, h, .refl _, .refl _ _⟩
 | some k =>
  obtain ⟨hk1, hk2⟩ := sat_lt hk
  have hkk : (0 : Int) ≤ k := by omega
  have e : sleave c.line t = c.line.eraseIdx k := filter_erase Sd.t t c.line k c.line[k] hd (by simp [hk1]) hk2
  simp only [go_sem, seval, ixI, hkk, h.hn]
  refine ⟨⟨by omega, by omega⟩, pend_intro ((del_line PS c.line k X.xl X.ol hk1 hl h.line).mono ?_)⟩
  rintro r PS1 ⟨ol, hs, hu⟩
  have hn1 : getP PS1 n = _ := (hu.1.2 n (h.lt n h.mn) fun hm => by have := h.co n hm; rw [h.cn] at this; omega).trans h.hn
  simp only [go_sem, seval, hn1, hst_one hs.one]
  rw [e]
  obtain ⟨own', X', h2, h3, h4⟩ := h.setL hs hu c.hand
  exact ⟨own', X', h2, h3, h4⟩
theorem ca_ask (h : CaAt PS n own c X) (w : Sd) (hl : c.line.length ≤ 999) : HCall Tryz.prog 57 [.ptr n 0 0 0, .agg (wtL w)] PS fun _ PS' => ∃ own' X', CaAt PS' n own' { c with line := if (sat c.line w.t).isNone then c.line ++ [w] else c.line } X' ∧ SameF X X' ∧ Upd own PS PS' own' := by
 refine enter_57 (by unfold Tryz.f57; exact rfl) ?_
 simp only [go_sem, seval]
 have h0 := h
 have h := h.app [.arr 0 3 [wtL w] false]
 have hw := getP_last PS (.arr 0 3 [wtL w] false)
 have hu0 : Upd own PS (PS ++ [.arr 0 3 [wtL w] false]) own := ⟨(Ext.app _ _).mono (by simp), fun m hm => .inl hm⟩
 refine pend_intro ((ca_stands h w.t (by omega)).mono ?_)
 rintro _ _ ⟨rfl, rfl⟩
 cases hk : sat c.line w.t with
 | some k =>
  have hkk : ¬ (k : Int) < 0 := by omega
  simp only [go_sem, seval, ixI, hkk, Option.isNone_some]
  exact ⟨own, X, h, .refl _, hu0⟩
 | none =>
  simp only [go_sem, seval, ixI, h.hn, hw, Option.isNone_none]
  refine ⟨by simp [wtL], h.line.app (by simp [wtL]) (by simp) (by simp [hroom]; omega) fun x' PS1 ol hs hu h1 => ?_⟩
  have hn1 : getP PS1 n = _ := (hu.1.2 n (h.lt n h.mn) fun hm => by have := h.co n hm; rw [h.cn] at this; omega).trans h.hn
  simp only [go_sem, seval, hn1, hst_one h1]
  have hs' : SlO PS1 3 x' ol ((c.line ++ [w]).map wtL) := by simpa using hs
  obtain ⟨own', X', h2, h3, h4⟩ := h.setL hs' hu c.hand
  exact ⟨own', X', h2, h3, hu0.trans h4⟩
end
end Go.Proofs.YtdjfdlpfchokcaaGreat
namespace Go.Ow
open Go Go.Eng Go.Mo
variable [Toks]
abbrev Ca.raw (c : Ca) : Cr := ⟨c.fs, c.find, tasksOf c.loads, c.line, c.hand⟩
def CaP (PS : PL) (n : Nat) (own : List Nat) (c : Ca) : Prop := ∃ X, CaAt PS n own c.raw X
structure okC (B : Int) (c : Ca) : Prop where
 len : c.fs.length ≤ 64
 one : 1 ≤ c.fs.length
 nd : ∀ f ∈ c.fs, okN f.nd
 fit : ∀ f ∈ c.fs, f.dy = true → nodFits f.nd
 pins : ∀ f ∈ c.fs, 0 ≤ f.pins ∧ f.pins ≤ B
 blk : ∀ (b : Int) (i j : Nat), (∃ f : Fm, c.fs[i]? = some f ∧ f.has b = true) → (∃ f : Fm, c.fs[j]? = some f ∧ f.has b = true) → i = j
 blkB : ∀ f ∈ c.fs, f.st = 1 ∨ f.st = 2 → isB f.blk = true
 no : ∀ f ∈ c.fs, f.st ≠ 1 → f.st ≠ 2 → f.blk = -1
 st : ∀ f ∈ c.fs, f.st = 0 ∨ f.st = 1 ∨ f.st = 2 ∨ f.st = 3
 line : Diff (c.line.map Sd.t)
 lineT : ∀ s ∈ c.line, isT s.t = true ∧ (s.b = -1 ∨ isB s.b = true)
 loads : Diff (c.loads.map Sd.t)
 loadsT : ∀ s ∈ c.loads, isT s.t = true ∧ isB s.b = true
 hand : c.hand < c.fs.length
 ld : ∀ f ∈ c.fs, f.st = 1 → f.dy = false
theorem isT_iff {t : Int} : isT t = true ↔ 0 ≤ t ∧ t < 8 := by simp [isT]
theorem isB_iff {t : Int} : isB t = true ↔ 0 ≤ t ∧ t < 256 := by simp [isB]
theorem okC.line_len {B : Int} {c : Ca} (h : okC B c) : c.line.length ≤ 8 := by
 have := diff_len 8 (c.line.map Sd.t) h.line fun t ht => by
  obtain ⟨s, hs, rfl⟩ := List.mem_map.1 ht
  exact isT_iff.1 (h.lineT s hs).1
 simpa using this
theorem okC.loads_len {B : Int} {c : Ca} (h : okC B c) : c.loads.length ≤ 8 := by
 have := diff_len 8 (c.loads.map Sd.t) h.loads fun t ht => by
  obtain ⟨s, hs, rfl⟩ := List.mem_map.1 ht
  exact isT_iff.1 (h.loadsT s hs).1
 simpa using this
theorem tasksOf_len (l : List Sd) (b : Int) : (tasksOf l b).length ≤ l.length := by unfold tasksOf; rw [List.length_map]; exact List.length_filter_le ..
theorem find_some {c : Ca} {b : Int} {i : Nat} (h : c.find b = some i) : ∃ hi : i < c.fs.length, (c.fs[i]).has b = true := by
 obtain ⟨hi, h1, _⟩ := List.findIdx?_eq_some_iff_getElem.1 h
 exact ⟨hi, h1⟩
theorem find_lt {c : Ca} {b : Int} {i : Nat} (h : c.raw.at_ b = some i) : i < c.raw.fs.length := (find_some h).1
theorem find_none {c : Ca} {b : Int} (h : c.find b = none) : ∀ f ∈ c.fs, f.has b = false := List.findIdx?_eq_none_iff.1 h
theorem has_iff {b : Int} {f : Fm} : f.has b = true ↔ f.blk = b ∧ (f.st = 1 ∨ f.st = 2) := by simp [Fm.has]
theorem at_eq {c : Ca} {i : Nat} (h : i < c.fs.length) : c.at_ i = c.fs[i] := by simp [Ca.at_, List.getD, h]
section
variable {α : Type} {p : α → Bool} {l : List α} {i : Nat} {x : α}
theorem fi_same (h : i < l.length) (hp : p x = p l[i]) : (l.set i x).findIdx? p = l.findIdx? p := by
 induction l generalizing i with
 | nil => simp at h
 | cons a l ih =>
  cases i with
  | zero => simp at hp; simp [List.findIdx?_cons, hp]
  | succ i =>
   simp at hp h
   simp [List.findIdx?_cons, ih h hp]
theorem fi_new (h : i < l.length) (hn : l.findIdx? p = none) (hp : p x = true) : (l.set i x).findIdx? p = some i := by
 rw [List.findIdx?_eq_some_iff_getElem]
 refine ⟨by simpa using h, by simpa using hp, fun j hj => ?_⟩
 rw [List.getElem_set_ne (by omega)]
 simpa using List.findIdx?_eq_none_iff.1 hn _ (List.getElem_mem _)
theorem fi_gone (h : i < l.length) (hu : ∀ j (hj : j < l.length), p l[j] = true → j = i) (hp : p x = false) : (l.set i x).findIdx? p = none := by
 rw [List.findIdx?_eq_none_iff]
 intro y hy
 obtain ⟨j, hj, rfl⟩ := List.getElem_of_mem hy
 rw [List.getElem_set]
 split
 ·exact hp
 ·rename_i hij
  have hj' : j < l.length := by simpa using hj
  cases hc : p l[j] with
  | false => rfl
  | true => exact absurd (hu j hj' hc).symm hij
end
theorem find_same {c : Ca} {i : Nat} {f : Fm} (h : i < c.fs.length) (h1 : f.blk = c.fs[i].blk) (h2 : f.st = 1 ∨ f.st = 2 ↔ c.fs[i].st = 1 ∨ c.fs[i].st = 2) : (fun b => (c.put i f).find b) = c.find := by
 funext b
 refine fi_same h ?_
 have := has_iff (b := b) (f := f)
 have h3 := has_iff (b := b) (f := c.fs[i])
 cases h4 : f.has b <;> cases h5 : (c.fs[i]).has b <;> simp_all
theorem find_new {c : Ca} {i : Nat} {f : Fm} {b : Int} (h : i < c.fs.length) (h1 : f.has b = true) (h0 : c.fs[i].st ≠ 1 ∧ c.fs[i].st ≠ 2) (hn : c.find b = none) : (fun b' => (c.put i f).find b') = fun b' => if b' = b then some i else c.find b' := by
 funext b'
 by_cases hb : b' = b
 ·subst hb; rw [if_pos rfl]; exact fi_new h hn h1
 ·rw [if_neg hb]
  refine fi_same h ?_
  have e1 : f.has b' = false := by
   cases h4 : f.has b' with
   | false => rfl
   | true => exact absurd ((has_iff.1 h4).1.symm.trans (has_iff.1 h1).1) hb
  have e2 : (c.fs[i]).has b' = false := by
   cases h4 : (c.fs[i]).has b' with
   | false => rfl
   | true => rcases (has_iff.1 h4).2 with h5 | h5 <;> simp_all
  rw [e1, e2]
theorem find_gone {c : Ca} {B : Int} (ok : okC B c) {i : Nat} {f : Fm} {b : Int} (h : i < c.fs.length) (h1 : c.fs[i].has b = true) (h0 : f.st ≠ 1 ∧ f.st ≠ 2) : (fun b' => (c.put i f).find b') = fun b' => if b' = b then none else c.find b' := by
 funext b'
 have e1 : f.has b' = false := by
  cases h4 : f.has b' with
  | false => rfl
  | true => rcases (has_iff.1 h4).2 with h5 | h5 <;> simp_all
 by_cases hb : b' = b
 ·subst hb; rw [if_pos rfl]
  exact fi_gone h (fun j hj hp => ok.blk b' j i ⟨_, by simp [hj], hp⟩ ⟨_, by simp [h], h1⟩) e1
 ·rw [if_neg hb]
  refine fi_same h ?_
  have e2 : (c.fs[i]).has b' = false := by
   cases h4 : (c.fs[i]).has b' with
   | false => rfl
   | true => exact absurd ((has_iff.1 h4).1.symm.trans (has_iff.1 h1).1) hb
  rw [e1, e2]
theorem pin_some {c : Ca} {t b : Int} {i : Nat} (hb : isB b = true) (hm : c.mayW t b = true) (hp : c.find b = some i) (hi : i < c.fs.length) : c.pin t b = (if c.fs[i].st = 2 then ((c.put i { c.fs[i] with pins := c.fs[i].pins + 1, rf := true }).leave t, 1) else ({ (c.put i { c.fs[i] with pins := c.fs[i].pins + 1, rf := true }).leave t with loads := c.loads ++ [⟨t, b⟩] }, 2)) := by
 have e := at_eq hi
 unfold Ca.pin
 rw [hb, hm, hp]
 simp only [Bool.and_self, if_true, e]
 rfl
theorem tasksOf_add (l : List Sd) (t b : Int) : tasksOf (l ++ [⟨t, b⟩]) = fun b' => if b' = b then tasksOf l b ++ [t] else tasksOf l b' := by
 funext b'
 unfold tasksOf
 rw [List.filter_append, List.map_append]
 by_cases h : b' = b
 ·subst h; simp
 ·have : ¬ b = b' := fun e => h e.symm
  simp [h, this]
theorem tasksOf_del (l : List Sd) (b : Int) : tasksOf (l.filter fun s => decide (s.b ≠ b)) = fun b' => if b' = b then [] else tasksOf l b' := by
 funext b'
 unfold tasksOf
 rw [List.filter_filter]
 by_cases h : b' = b
 ·subst h
  rw [if_pos rfl, List.map_eq_nil_iff, List.filter_eq_nil_iff]
  intro s _; simp
 ·rw [if_neg h]
  congr 1
  refine List.filter_congr fun s _ => ?_
  by_cases h1 : s.b = b'
  ·simp [h1, h]
  ·simp [h1]
theorem waits_iff {PS : PL} {n : Nat} {own : List Nat} {c : Cr} {X : CaX} (h : CaAt PS n own c X) (t : Int) : (X.el.any fun e => (c.ld e.2.1).contains t) = true ↔ ∃ b, t ∈ c.ld b := by
 rw [List.any_eq_true]
 constructor
 ·rintro ⟨e, he, hc⟩
  exact ⟨e.2.1, List.contains_iff_mem.1 hc⟩
 ·rintro ⟨b, hb⟩
  cases hm : mget b X.el with
  | none =>
   have := h.ml b
   rw [hm, Option.getD_none] at this
   rcases this.1 with ⟨_, h0, _⟩ | ⟨q, _, _, _, h0, _⟩
   ·have : c.ld b = [] := by simpa using h0
    rw [this] at hb; cases hb
   ·cases h0
  | some y =>
   obtain ⟨k, hk⟩ := mem_of_mget hm
   exact ⟨_, hk, List.contains_iff_mem.2 hb⟩
theorem sat_isSome (l : List Sd) (t : Int) : (sat l t).isSome = true ↔ t ∈ l.map Sd.t := by
 unfold sat
 rw [List.findIdx?_isSome, List.any_eq_true, List.mem_map]
 constructor
 ·rintro ⟨s, hs, h⟩; exact ⟨s, hs, by simpa using h⟩
 ·rintro ⟨s, hs, rfl⟩; exact ⟨s, hs, by simp⟩
theorem mem_tasksOf {l : List Sd} {t : Int} : (∃ b, t ∈ tasksOf l b) ↔ t ∈ l.map Sd.t := by
 unfold tasksOf
 constructor
 ·rintro ⟨b, hb⟩
  obtain ⟨s, hs, rfl⟩ := List.mem_map.1 hb
  exact List.mem_map.2 ⟨s, (List.mem_filter.1 hs).1, rfl⟩
 ·intro h
  obtain ⟨s, hs, rfl⟩ := List.mem_map.1 h
  exact ⟨s.b, List.mem_map.2 ⟨s, List.mem_filter.2 ⟨hs, by simp⟩, rfl⟩⟩
theorem waits_sat {PS : PL} {n : Nat} {own : List Nat} {c : Ca} {X : CaX} (h : CaAt PS n own c.raw X) (t : Int) : (X.el.any fun e => (c.raw.ld e.2.1).contains t) = (sat c.loads t).isSome := by
 have h1 := waits_iff h t
 have h2 := sat_isSome c.loads t
 have h3 : (∃ b, t ∈ c.raw.ld b) ↔ t ∈ c.loads.map Sd.t := mem_tasksOf
 exact Bool.eq_iff_iff.2 (h1.trans (h3.trans h2.symm))
theorem CaP.put {PS : PL} {n : Nat} {own : List Nat} {c : Ca} {X : CaX} (h : CaAt PS n own c.raw X) (i : Nat) (t : Fl) (f : Fm) (hf : (fun b => (c.put i f).find b) = c.find) : CaP (PS.set X.pf (.arr X.vf 11 ((rowsF X.ts).set i (frL t f)) true)) n own (c.put i f) :=
 ⟨{ X with ts := X.ts.set i (t, f) }, by
  have h5 := h.setF i t f
  have key : CaAt (PS.set X.pf (.arr X.vf 11 ((rowsF X.ts).set i (frL t f)) true)) n own ⟨c.fs.set i f, fun b => (c.put i f).find b, tasksOf c.loads, c.line, c.hand⟩ { X with ts := X.ts.set i (t, f) } := by rw [hf]; exact h5
  exact key⟩
end Go.Ow
