/-
  A hall laid by hand, looked at: a key by name, or one that is known.
  No conditions.
-/
import Derived.Test.YtcimbpdkejgnlaaGreatWoA
import Derived.Test.YtcimbpdkejgnlaaGreatHlT
import Derived.Test.YtcimbpdkejgnlaaGreatRunQ
import Derived.Test.YtcimbpdkejgnlaaGreatRunFa
namespace Go.Eng
open Go Go.Mo
/-- Numbers by their base names: 0: the key's length; 3: the number; from 10 on: the key's bytes. -/
def vwB (key : List UInt8) (v : Int) : Nat → Int
  | 0 => key.length
  | 3 => v
  | n => if n < 18 then (((key ++ List.replicate 8 0).take 8).getD (n - 10) 0).toNat else 0
def vwLo (nl bl : Int) : Nat → Int
  | 0 => nl
  | 3 => -9223372036854775808
  | 10 => bl
  | _ => 0
def vwHi (nh bh : Int) : Nat → Int
  | 0 => nh
  | 3 => 9223372036854775807
  | 10 => bh
  | _ => 255
structure VwIn (key : List UInt8) (v nl nh bl bh : Int) : Prop where
  k : nl ≤ key.length ∧ (key.length : Int) ≤ nh
  b : bl ≤ vwB key v 10 ∧ vwB key v 10 ≤ bh
  v : -9223372036854775808 ≤ v ∧ v ≤ 9223372036854775807
theorem vwRng {key : List UInt8} {v nl nh bl bh : Int} (h : VwIn key v nl nh bl bh) (n : Nat) : vwLo nl bl n ≤ vwB key v n ∧ vwB key v n ≤ vwHi nh bh n := by
  have b : ∀ y : UInt8, (0 : Int) ≤ (y.toNat : Int) ∧ (y.toNat : Int) ≤ 255 := fun y => ⟨by omega, by have := y.toNat_lt; omega⟩
  by_cases h10 : n = 10
  · subst h10; exact h.b
  unfold vwB
  split
  · exact h.k
  · exact h.v
  · have e1 : vwLo nl bl n = 0 := by unfold vwLo; split <;> first | contradiction | rfl
    have e2 : vwHi nh bh n = 255 := by unfold vwHi; split <;> first | contradiction | rfl
    rw [e1, e2]
    split
    · exact b _
    · omega
@[reducible] def vwT (key : List UInt8) (v nl nh bl bh : Int) (h : VwIn key v nl nh bl bh) : Toks where
  num n := vwB key v n
  str _ := []
  lo n := vwLo nl bl n
  hi n := vwHi nh bh n
  plus _ _ := none
  sum _ _ := none
  conv i _ := some i
  slen _ := none
  ord _ _ := none
  rem _ _ := none
  rng n := vwRng h n
  plus_ok i b j hj := by cases hj
  sum_ok i j l hl := by cases hl
  conv_ok i k j hj := by cases hj; rfl
  slen_ok i j hj := by cases hj
  ord_ok i j o h := by cases h
  rem_ok i b r' hr := by cases hr
set_option linter.unusedSectionVars false
variable [Toks]
noncomputable def keyC : List HV := [.int .i64 (.ofNat (nat_lit 1)), .int .u8 (.ofNat (nat_lit 99)), .int .u8 (.ofNat (nat_lit 0)), .int .u8 (.ofNat (nat_lit 0)), .int .u8 (.ofNat (nat_lit 0)), .int .u8 (.ofNat (nat_lit 0)), .int .u8 (.ofNat (nat_lit 0)), .int .u8 (.ofNat (nat_lit 0)), .int .u8 (.ofNat (nat_lit 0))]
theorem keyC_eq : keyC = keyL [99] := rfl
/-- What the names are names of. -/
structure VwOk (key : Bs) (v : Int) (s : Int) : Prop where
  n0 : Toks.num 0 = (key.length : Int)
  bk : ∀ i, i < 8 → Toks.num (10 + i) = (((pad 8 key).getD i 0).toNat : Int)
  n3 : Toks.num 3 = v
  hk : key.length ≤ 8
  hs : cmpB [99] key = s
theorem VwOk.kS {key : Bs} {v s : Int} (h : VwOk key v s) : SubL (keyL key) keyT ∧ SubL keyT (keyL key) := by
  have := subTok (pad 8 key) 10 (by rw [pad_len]; exact h.bk)
  rw [pad_len] at this
  exact ⟨⟨Sub.tok h.n0, this.1⟩, ⟨Sub.untok h.n0, this.2⟩⟩
noncomputable def oKeyV (args : List HV) (m : Mem) : Option (List RM) :=
  match args with
  | [.tok .i64 i] => bif Nat.beq i 3 then some [(.agg keyT, m)] else none
  | _ => none
noncomputable def oCmpV (s : Int) (args : List HV) (m : Mem) : Option (List RM) :=
  match args with
  | [.agg l, .agg r] => on (lBeq (vBeq 9) l keyC && lBeq (vBeq 9) r keyT) (fI s fun s => some [(.int .i64 s, m)])
  | _ => none
end Go.Eng
namespace Go.Proofs.YtcimbpdkejgnlaaGreat
open Go Go.Eng Go.Mo
set_option linter.unusedSectionVars false
set_option maxRecDepth 100000
section
variable [Toks]
theorem trueF {ec : EC} (hec : ECOk Tryz.prog ec) {g : FuncId} {args : List HV} {d fuel : Nat} (h : allTrue (acallS Tryz.prog ec ecov erf etb epl fuel d g args ⟨.emp, 0⟩) = true) : HCall Tryz.prog g args [] fun r _ => r = .bool true := by
  cases hc : acallS Tryz.prog ec ecov erf etb epl fuel d g args ⟨.emp, 0⟩ with
  | none => rw [hc] at h; cases h
  | some L =>
    rw [hc] at h
    have h : rAll isTrue L = true := h
    rw [rAll_eq] at h
    refine (acallS_h mixed' hec covers d g args ⟨.emp, 0⟩ L hc).mono ?_
    rintro r PS ⟨x, hx, rfl, rfl⟩
    have := List.all_eq_true.1 h x hx
    obtain ⟨v, m⟩ := x
    unfold isTrue at this
    split at this
    · rename_i b m heq; cases heq; rw [this]
    · cases this
theorem awake26_run : HCall Tryz.prog 42 [] [] fun r _ => r = .bool true := trueF orcS_ok (fuel := 100000) (d := 60) (by kernel_rfl)
theorem awake26 : Pure Tryz.prog 42 [] (.bool true) := Pure.of_nil (by simp) (.bool _) awake26_run
variable {key : Bs} {v s : Int} {args : List HV} {m : Mem} {L : List RM}
theorem oKeyV_h (h : VwOk key v s) (hp : Pure Tryz.prog 29 [.int .i64 v] (.agg (keyL key))) (ho : oKeyV args m = some L) : HCall Tryz.prog 29 args m.pl fun v PS => ∃ x ∈ L, v = x.1 ∧ PS = x.2.pl := by
  unfold oKeyV at ho
  split at ho
  · rename_i i
    rcases cond_some ho with ⟨hb, ho⟩ | ho
    · cases ho
      rw [beq_eq'.1 hb]
      refine HCall.res (HCall.sub (args := [.int .i64 v]) ⟨Sub.untok h.n3, trivial⟩ (hp.way (m := m))) ?_
      rintro x PS ⟨y, hy, rfl, rfl⟩
      cases List.mem_singleton.1 hy
      exact ⟨_, Sub.agg h.kS.1, _, List.mem_singleton.2 rfl, rfl, rfl⟩
    · cases ho
  · cases ho
theorem oCmpV_h (h : VwOk key v s) (ho : oCmpV s args m = some L) : HCall Tryz.prog 265 args m.pl fun v PS => ∃ x ∈ L, v = x.1 ∧ PS = x.2.pl := by
  unfold oCmpV at ho
  split at ho
  · simp only [on_some, Bool.and_eq_true, fI_eq, Option.some.injEq] at ho
    obtain ⟨⟨h2, h3⟩, rfl⟩ := ho
    rw [lBeq_eq _ _ (vBeq_eq 9) h2, lBeq_eq _ _ (vBeq_eq 9) h3, keyC_eq]
    have := (key_cmp [99] key (by simp [okK]) h.hk).way (m := m)
    rw [h.hs] at this
    exact HCall.sub (args := [.agg (keyL [99]), .agg (keyL key)]) ⟨Sub.refl _, Sub.agg h.kS.2, trivial⟩ this
  · cases ho
noncomputable def orcV (s : Int) : EC := fun g args m =>
  bif Nat.beq g 29 then oKeyV args m else
  bif Nat.beq g 265 then oCmpV s args m else
  bif Nat.beq g 42 then (match args with | [] => some [(.bool true, m)] | _ => none) else orcS g args m
theorem orcV_ok (h : VwOk key v s) (hp : Pure Tryz.prog 29 [.int .i64 v] (.agg (keyL key))) : ECOk Tryz.prog (orcV s) := by
  intro g args m L ho
  unfold orcV at ho
  rcases cond_some ho with ⟨hg, ho⟩ | ho
  · rw [beq_eq'.1 hg]; exact oKeyV_h h hp ho
  rcases cond_some ho with ⟨hg, ho⟩ | ho
  · rw [beq_eq'.1 hg]; exact oCmpV_h h ho
  rcases cond_some ho with ⟨hg, ho⟩ | ho
  · rw [beq_eq'.1 hg]
    split at ho
    · cases ho; exact awake26.way
    · cases ho
  · exact orcS_ok _ _ _ _ ho
/-- The key is one that is known. -/
noncomputable def oKeyC (args : List HV) (m : Mem) : Option (List RM) :=
  match args with
  | [.tok .i64 i] => bif Nat.beq i 3 then some [(.agg keyC, m)] else none
  | _ => none
noncomputable def orcVC : EC := fun g args m =>
  bif Nat.beq g 29 then oKeyC args m else
  bif Nat.beq g 42 then (match args with | [] => some [(.bool true, m)] | _ => none) else orcS g args m
theorem orcVC_ok (h3 : Toks.num 3 = v) (hp : Pure Tryz.prog 29 [.int .i64 v] (.agg (keyL [99]))) : ECOk Tryz.prog orcVC := by
  intro g args m L ho
  unfold orcVC at ho
  rcases cond_some ho with ⟨hg, ho⟩ | ho
  · rw [beq_eq'.1 hg]
    unfold oKeyC at ho
    split at ho
    · rename_i i
      rcases cond_some ho with ⟨hb, ho⟩ | ho
      · cases ho
        rw [beq_eq'.1 hb, keyC_eq]
        exact HCall.sub (args := [.int .i64 v]) ⟨Sub.untok h3, trivial⟩ (hp.way (m := m))
      · cases ho
    · cases ho
  rcases cond_some ho with ⟨hg, ho⟩ | ho
  · rw [beq_eq'.1 hg]
    split at ho
    · cases ho; exact awake26.way
    · cases ho
  · exact orcS_ok _ _ _ _ ho
end
theorem vwOk {key : Bs} {v nl nh bl bh s : Int} (h : VwIn key v nl nh bl bh) (hk : key.length ≤ 8) (hs : cmpB [99] key = s) : @VwOk (vwT key v nl nh bl bh h) key v s := by
  letI : Toks := vwT key v nl nh bl bh h
  refine ⟨rfl, ?_, rfl, hk, hs⟩
  intro i hi
  have : i = 0 ∨ i = 1 ∨ i = 2 ∨ i = 3 ∨ i = 4 ∨ i = 5 ∨ i = 6 ∨ i = 7 := by omega
  rcases this with rfl | rfl | rfl | rfl | rfl | rfl | rfl | rfl <;> rfl
end Go.Proofs.YtcimbpdkejgnlaaGreat
