/-
  Runs that know texts by name; the examples of the law of houses, run.
  No conditions.
-/
import Derived.Test.YtmnhpggplblbgaaGreatHlB
import Derived.Test.YtmnhpggplblbgaaGreatHlT
namespace Go.Eng
open Go Go.Mo
set_option linter.unusedSectionVars false
variable [Toks]
theorem Sub.tup {l r : List HV} (h : SubL l r) : Sub (.tup l) (.tup r) := by
  intro M e w v hv
  obtain ⟨h1, h2⟩ := h.get
  cases hv with
  | tup _ vs hl hh =>
    refine .tup _ vs (by omega) fun i y u hy hu => ?_
    obtain ⟨x, h3, h4⟩ := h2 i y hy
    exact h4 _ _ _ _ (hh i x u h3 hu)
def toksL : Nat → Nat → List HV
  | _, 0 => []
  | off, n + 1 => .tok .u8 off :: toksL (off + 1) n
theorem subTok : ∀ (l : Bs) (off : Nat), (∀ i, i < l.length → Toks.num (off + i) = ((l.getD i 0).toNat : Int)) → SubL (u8s l) (toksL off l.length) ∧ SubL (toksL off l.length) (u8s l)
  | [], _, _ => ⟨trivial, trivial⟩
  | b :: l, off, h => by
    have h0 : Toks.num off = (b.toNat : Int) := h 0 (by simp)
    obtain ⟨h1, h2⟩ := subTok l (off + 1) fun i hi => by
      have := h (i + 1) (by simpa using hi)
      rw [show off + 1 + i = off + (i + 1) by omega, this]
      simp
    exact ⟨⟨Sub.tok h0, h1⟩, ⟨Sub.untok h0, h2⟩⟩
noncomputable def keyT : List HV := [.tok .i64 (nat_lit 0), .tok .u8 (nat_lit 10), .tok .u8 (nat_lit 11), .tok .u8 (nat_lit 12), .tok .u8 (nat_lit 13), .tok .u8 (nat_lit 14), .tok .u8 (nat_lit 15), .tok .u8 (nat_lit 16), .tok .u8 (nat_lit 17)]
noncomputable def valT : List HV := [.tok .i64 (nat_lit 1), .tok .u8 (nat_lit 20), .tok .u8 (nat_lit 21), .tok .u8 (nat_lit 22), .tok .u8 (nat_lit 23), .tok .u8 (nat_lit 24), .tok .u8 (nat_lit 25), .tok .u8 (nat_lit 26), .tok .u8 (nat_lit 27), .tok .u8 (nat_lit 28), .tok .u8 (nat_lit 29), .tok .u8 (nat_lit 30), .tok .u8 (nat_lit 31), .tok .u8 (nat_lit 32), .tok .u8 (nat_lit 33), .tok .u8 (nat_lit 34), .tok .u8 (nat_lit 35)]
/-- What the names are names of. -/
structure HlOk (key val : Bs) (k' : Int) (sk sv : Bool) : Prop where
  s0 : Toks.str 0 = key
  s1 : Toks.str 1 = val
  n0 : Toks.num 0 = (key.length : Int)
  n1 : Toks.num 1 = (val.length : Int)
  bk : ∀ i, i < 8 → Toks.num (10 + i) = (((pad 8 key).getD i 0).toNat : Int)
  bv : ∀ i, i < 16 → Toks.num (20 + i) = (((pad 16 val).getD i 0).toNat : Int)
  n2 : Toks.num 2 = Toks.num 3 % 99
  n5 : Toks.num 5 % 4 = k'
  hk : sk = true → key.length ≤ 8
  hv : sv = true → val.length ≤ 16
section
variable {key val : Bs} {k' : Int} {sk sv : Bool}
theorem HlOk.kS (h : HlOk key val k' sk sv) : SubL (keyL key) keyT ∧ SubL keyT (keyL key) := by
  have := subTok (pad 8 key) 10 (by rw [pad_len]; exact h.bk)
  rw [pad_len] at this
  exact ⟨⟨Sub.tok h.n0, this.1⟩, ⟨Sub.untok h.n0, this.2⟩⟩
theorem HlOk.vS (h : HlOk key val k' sk sv) : SubL (valL val) valT ∧ SubL valT (valL val) := by
  have := subTok (pad 16 val) 20 (by rw [pad_len]; exact h.bv)
  rw [pad_len] at this
  exact ⟨⟨Sub.tok h.n1, this.1⟩, ⟨Sub.untok h.n1, this.2⟩⟩
end
noncomputable def isEmp (args : List HV) : Bool :=
  match args with
  | [.imm _ []] => true
  | [.sl _ _ _ 0 _] => true
  | _ => false
/-- What is made of nothing is told as data. -/
noncomputable def orcE (o : EC) : EC := fun g args m => bif isEmp args then bnd (o g args m) (dat m) else o g args m
theorem orcE_ok {P : Program} {o : EC} (ho : ECOk P o) : ECOk P (orcE o) := by
  intro g args m L h
  unfold orcE at h
  cases hb : isEmp args
  · rw [hb] at h; exact ho g args m L h
  · rw [hb] at h
    have h : bnd (o g args m) (dat m) = some L := h
    rw [bnd_some] at h
    obtain ⟨L1, h1, h2⟩ := h
    exact dat_h h2 (ho g args m L1 h1)
noncomputable def oText (i : Nat) (sk : Bool) (T : List HV) (args : List HV) (m : Mem) : Option (List RM) :=
  match args with
  | [.stok j] => on (Nat.beq j i && sk) (some [(.tup [.agg T, .int .i64 (.ofNat (nat_lit 0))], m)])
  | _ => none
noncomputable def oChk (T : List HV) (sk : Bool) (args : List HV) (m : Mem) : Option (List RM) :=
  match args with
  | [.agg l] => on (sk && lBeq (vBeq 9) l T) (some [(.bool true, m)])
  | _ => none
noncomputable def oPl (k' : Int) (args : List HV) (m : Mem) : Option (List RM) :=
  match args with
  | [.tok .i64 i, .int .i64 (.ofNat n)] => bif Nat.beq i 3 && Nat.beq n 99 then some [(.tok .i64 (nat_lit 2), m)] else bif Nat.beq i 5 && Nat.beq n 4 then fI k' fun k' => some [(.int .i64 k', m)] else none
  | _ => none
end Go.Eng
namespace Go.Proofs.YtmnhpggplblbgaaGreat
open Go Go.Eng Go.Mo
set_option linter.unusedSectionVars false
variable [Toks]
set_option maxRecDepth 100000
theorem trueG {ec : EC} (hec : ECOk Tryz.prog ec) {g : FuncId} {args : List HV} {d fuel : Nat} (h : allTrue (acall Tryz.prog ec ecov epl fuel d g args ⟨.emp, 0⟩) = true) : HCall Tryz.prog g args [] fun r _ => r = .bool true := by
  cases hc : acall Tryz.prog ec ecov epl fuel d g args ⟨.emp, 0⟩ with
  | none => rw [hc] at h; cases h
  | some L =>
    rw [hc] at h
    have h : rAll isTrue L = true := h
    rw [rAll_eq] at h
    refine (acall_h mixed' hec covers d g args ⟨.emp, 0⟩ L hc).mono ?_
    rintro r PS ⟨x, hx, rfl, rfl⟩
    have := List.all_eq_true.1 h x hx
    obtain ⟨v, m⟩ := x
    unfold isTrue at this
    split at this
    · rename_i b m heq; cases heq; rw [this]
    · cases this
theorem awake22_run : HCall Tryz.prog 44 [] [] fun r _ => r = .bool true := trueG (orcE_ok orc_ok) (fuel := 100000) (d := 60) (by kernel_rfl)
theorem awake22 : Pure Tryz.prog 44 [] (.bool true) := Pure.of_nil (by simp) (.bool _) awake22_run
section
variable {key val : Bs} {k' : Int} {sk sv : Bool} {args : List HV} {m : Mem} {L : List RM}
theorem oKof_h (h : HlOk key val k' sk sv) (ho : oText 0 sk keyT args m = some L) : HCall Tryz.prog 294 args m.pl fun v PS => ∃ x ∈ L, v = x.1 ∧ PS = x.2.pl := by
  unfold oText at ho
  split at ho
  · simp only [on_some, Bool.and_eq_true, beq_eq', Option.some.injEq] at ho
    obtain ⟨⟨rfl, h2⟩, rfl⟩ := ho
    refine HCall.res (HCall.sub (args := [.str key]) ⟨Sub.unstok h.s0, trivial⟩ ((key_of key (h.hk h2)).way (m := m))) ?_
    rintro x PS ⟨y, hy, rfl, rfl⟩
    cases List.mem_singleton.1 hy
    exact ⟨_, Sub.tup (r := [.agg keyT, .int .i64 (.ofNat 0)]) ⟨Sub.agg h.kS.1, Sub.refl _, trivial⟩, _, List.mem_singleton.2 rfl, rfl, rfl⟩
  · cases ho
theorem oVof_h (h : HlOk key val k' sk sv) (ho : oText 1 sv valT args m = some L) : HCall Tryz.prog 295 args m.pl fun v PS => ∃ x ∈ L, v = x.1 ∧ PS = x.2.pl := by
  unfold oText at ho
  split at ho
  · simp only [on_some, Bool.and_eq_true, beq_eq', Option.some.injEq] at ho
    obtain ⟨⟨rfl, h2⟩, rfl⟩ := ho
    refine HCall.res (HCall.sub (args := [.str val]) ⟨Sub.unstok h.s1, trivial⟩ ((value_of val (h.hv h2)).way (m := m))) ?_
    rintro x PS ⟨y, hy, rfl, rfl⟩
    cases List.mem_singleton.1 hy
    exact ⟨_, Sub.tup (r := [.agg valT, .int .i64 (.ofNat 0)]) ⟨Sub.agg h.vS.1, Sub.refl _, trivial⟩, _, List.mem_singleton.2 rfl, rfl, rfl⟩
  · cases ho
theorem oKch_h (h : HlOk key val k' sk sv) (ho : oChk keyT sk args m = some L) : HCall Tryz.prog 333 args m.pl fun v PS => ∃ x ∈ L, v = x.1 ∧ PS = x.2.pl := by
  unfold oChk at ho
  split at ho
  · simp only [on_some, Bool.and_eq_true, Option.some.injEq] at ho
    obtain ⟨⟨h2, h3⟩, rfl⟩ := ho
    rw [lBeq_eq _ _ (vBeq_eq 9) h3]
    exact HCall.sub (args := [.agg (keyL key)]) ⟨Sub.agg h.kS.2, trivial⟩ ((key_check key (h.hk h2)).way (m := m))
  · cases ho
theorem oVch_h (h : HlOk key val k' sk sv) (ho : oChk valT sv args m = some L) : HCall Tryz.prog 334 args m.pl fun v PS => ∃ x ∈ L, v = x.1 ∧ PS = x.2.pl := by
  unfold oChk at ho
  split at ho
  · simp only [on_some, Bool.and_eq_true, Option.some.injEq] at ho
    obtain ⟨⟨h2, h3⟩, rfl⟩ := ho
    rw [lBeq_eq _ _ (vBeq_eq 9) h3]
    exact HCall.sub (args := [.agg (valL val)]) ⟨Sub.agg h.vS.2, trivial⟩ ((val_check val (h.hv h2)).way (m := m))
  · cases ho
theorem oPl_h (h : HlOk key val k' sk sv) (ho : oPl k' args m = some L) : HCall Tryz.prog 38 args m.pl fun v PS => ∃ x ∈ L, v = x.1 ∧ PS = x.2.pl := by
  unfold oPl at ho
  split at ho
  · rename_i i n
    cases hb : Nat.beq i 3 && Nat.beq n 99
    · rw [hb] at ho
      simp only [cond_false] at ho
      cases hc : Nat.beq i 5 && Nat.beq n 4
      · rw [hc] at ho; cases ho
      · rw [hc] at ho
        simp only [cond_true, fI_eq, Option.some.injEq] at ho
        subst ho
        simp only [Bool.and_eq_true, beq_eq'] at hc
        obtain ⟨rfl, rfl⟩ := hc
        have := (place_ (Toks.num 5) 4 (by decide) (by decide)).way (m := m)
        rw [h.n5] at this
        exact HCall.sub (args := [.int .i64 (Toks.num 5), .int .i64 4]) ⟨Sub.untok rfl, Sub.refl _, trivial⟩ this
    · rw [hb] at ho
      simp only [cond_true, Option.some.injEq] at ho
      subst ho
      simp only [Bool.and_eq_true, beq_eq'] at hb
      obtain ⟨rfl, rfl⟩ := hb
      refine HCall.res (HCall.sub (args := [.int .i64 (Toks.num 3), .int .i64 99]) ⟨Sub.untok rfl, Sub.refl _, trivial⟩ ((place_ (Toks.num 3) 99 (by decide) (by decide)).way (m := m))) ?_
      rintro x PS ⟨y, hy, rfl, rfl⟩
      cases List.mem_singleton.1 hy
      exact ⟨_, Sub.tok h.n2, _, List.mem_singleton.2 rfl, rfl, rfl⟩
  · cases ho
noncomputable def orcH (k' : Int) (sk sv : Bool) : EC := fun g args m =>
  bif Nat.beq g 294 then oText 0 sk keyT args m else
  bif Nat.beq g 295 then oText 1 sv valT args m else
  bif Nat.beq g 333 then oChk keyT sk args m else
  bif Nat.beq g 334 then oChk valT sv args m else
  bif Nat.beq g 38 then oPl k' args m else
  bif Nat.beq g 44 then (match args with | [] => some [(.bool true, m)] | _ => none) else orcE orc g args m
theorem orcH_ok (h : HlOk key val k' sk sv) : ECOk Tryz.prog (orcH k' sk sv) := by
  intro g args m L ho
  unfold orcH at ho
  rcases cond_some ho with ⟨hg, ho⟩ | ho
  · rw [beq_eq'.1 hg]; exact oKof_h h ho
  rcases cond_some ho with ⟨hg, ho⟩ | ho
  · rw [beq_eq'.1 hg]; exact oVof_h h ho
  rcases cond_some ho with ⟨hg, ho⟩ | ho
  · rw [beq_eq'.1 hg]; exact oKch_h h ho
  rcases cond_some ho with ⟨hg, ho⟩ | ho
  · rw [beq_eq'.1 hg]; exact oVch_h h ho
  rcases cond_some ho with ⟨hg, ho⟩ | ho
  · rw [beq_eq'.1 hg]; exact oPl_h h ho
  rcases cond_some ho with ⟨hg, ho⟩ | ho
  · rw [beq_eq'.1 hg]
    split at ho
    · cases ho; exact awake22.way
    · cases ho
  · exact orcE_ok orc_ok _ _ _ _ ho
end
end Go.Proofs.YtmnhpggplblbgaaGreat
