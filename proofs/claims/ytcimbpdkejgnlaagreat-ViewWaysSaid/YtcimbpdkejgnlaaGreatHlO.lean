/-
  Runs that know texts by name.
  No conditions.
-/
import Derived.Test.YtcimbpdkejgnlaaGreatHlA
namespace Go.Eng
open Go Go.Mo
set_option linter.unusedSectionVars false
variable [Toks]
theorem Sub.tup {l r : List HV} (h : SubL l r) : Sub (.tup l) (.tup r) := by
  intro M e w v hv
  obtain ⟨h1, h2⟩ := h.get
  cases hv with
  | tup _ vs hl hh =>
    refine .tup _ vs (by omega) fun i y u hy hu => ?_
    obtain ⟨x, h3, h4⟩ := h2 i y hy
    exact h4 _ _ _ _ (hh i x u h3 hu)
def toksL : Nat → Nat → List HV
  | _, 0 => []
  | off, n + 1 => .tok .u8 off :: toksL (off + 1) n
theorem subTok : ∀ (l : Bs) (off : Nat), (∀ i, i < l.length → Toks.num (off + i) = ((l.getD i 0).toNat : Int)) → SubL (u8s l) (toksL off l.length) ∧ SubL (toksL off l.length) (u8s l)
  | [], _, _ => ⟨trivial, trivial⟩
  | b :: l, off, h => by
    have h0 : Toks.num off = (b.toNat : Int) := h 0 (by simp)
    obtain ⟨h1, h2⟩ := subTok l (off + 1) fun i hi => by
      have := h (i + 1) (by simpa using hi)
      rw [show off + 1 + i = off + (i + 1) by omega, this]
      simp
    exact ⟨⟨Sub.tok h0, h1⟩, ⟨Sub.untok h0, h2⟩⟩
noncomputable def keyT : List HV := [.tok .i64 (nat_lit 0), .tok .u8 (nat_lit 10), .tok .u8 (nat_lit 11), .tok .u8 (nat_lit 12), .tok .u8 (nat_lit 13), .tok .u8 (nat_lit 14), .tok .u8 (nat_lit 15), .tok .u8 (nat_lit 16), .tok .u8 (nat_lit 17)]
noncomputable def valT : List HV := [.tok .i64 (nat_lit 1), .tok .u8 (nat_lit 20), .tok .u8 (nat_lit 21), .tok .u8 (nat_lit 22), .tok .u8 (nat_lit 23), .tok .u8 (nat_lit 24), .tok .u8 (nat_lit 25), .tok .u8 (nat_lit 26), .tok .u8 (nat_lit 27), .tok .u8 (nat_lit 28), .tok .u8 (nat_lit 29), .tok .u8 (nat_lit 30), .tok .u8 (nat_lit 31), .tok .u8 (nat_lit 32), .tok .u8 (nat_lit 33), .tok .u8 (nat_lit 34), .tok .u8 (nat_lit 35)]
noncomputable def isEmp (args : List HV) : Bool :=
  match args with
  | [.imm _ []] => true
  | [.sl _ _ _ 0 _] => true
  | _ => false
/-- What is made of nothing is told as data. -/
noncomputable def orcE (o : EC) : EC := fun g args m => bif isEmp args then bnd (o g args m) (dat m) else o g args m
theorem orcE_ok {P : Program} {o : EC} (ho : ECOk P o) : ECOk P (orcE o) := by
  intro g args m L h
  unfold orcE at h
  cases hb : isEmp args
  · rw [hb] at h; exact ho g args m L h
  · rw [hb] at h
    have h : bnd (o g args m) (dat m) = some L := h
    rw [bnd_some] at h
    obtain ⟨L1, h1, h2⟩ := h
    exact dat_h h2 (ho g args m L1 h1)
noncomputable def oText (i : Nat) (sk : Bool) (T : List HV) (args : List HV) (m : Mem) : Option (List RM) :=
  match args with
  | [.stok j] => on (Nat.beq j i && sk) (some [(.tup [.agg T, .int .i64 (.ofNat (nat_lit 0))], m)])
  | _ => none
noncomputable def oChk (T : List HV) (sk : Bool) (args : List HV) (m : Mem) : Option (List RM) :=
  match args with
  | [.agg l] => on (sk && lBeq (vBeq 9) l T) (some [(.bool true, m)])
  | _ => none
noncomputable def oPl (k' : Int) (args : List HV) (m : Mem) : Option (List RM) :=
  match args with
  | [.tok .i64 i, .int .i64 (.ofNat n)] => bif Nat.beq i 3 && Nat.beq n 99 then some [(.tok .i64 (nat_lit 2), m)] else bif Nat.beq i 5 && Nat.beq n 4 then fI k' fun k' => some [(.int .i64 k', m)] else none
  | _ => none
end Go.Eng
namespace Go.Proofs.YtcimbpdkejgnlaaGreat
open Go Go.Eng Go.Mo
set_option linter.unusedSectionVars false
variable [Toks]
set_option maxRecDepth 100000
theorem trueG {ec : EC} (hec : ECOk Tryz.prog ec) {g : FuncId} {args : List HV} {d fuel : Nat} (h : allTrue (acall Tryz.prog ec ecov epl fuel d g args ⟨.emp, 0⟩) = true) : HCall Tryz.prog g args [] fun r _ => r = .bool true := by
  cases hc : acall Tryz.prog ec ecov epl fuel d g args ⟨.emp, 0⟩ with
  | none => rw [hc] at h; cases h
  | some L =>
    rw [hc] at h
    have h : rAll isTrue L = true := h
    rw [rAll_eq] at h
    refine (acall_h mixed' hec covers d g args ⟨.emp, 0⟩ L hc).mono ?_
    rintro r PS ⟨x, hx, rfl, rfl⟩
    have := List.all_eq_true.1 h x hx
    obtain ⟨v, m⟩ := x
    unfold isTrue at this
    split at this
    · rename_i b m heq; cases heq; rw [this]
    · cases this
end Go.Proofs.YtcimbpdkejgnlaaGreat
