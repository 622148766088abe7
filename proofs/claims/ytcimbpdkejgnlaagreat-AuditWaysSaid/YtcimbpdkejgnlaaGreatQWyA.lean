/-
  The law AuditWays, run: what the runs know; two numbers by name.
  No conditions.
-/
import Derived.Test.YtcimbpdkejgnlaaGreatQRunR
import Derived.Test.YtcimbpdkejgnlaaGreatQRunQ
import Derived.Test.YtcimbpdkejgnlaaGreatQDm
import Derived.Test.YtcimbpdkejgnlaaGreatQFactsK
set_option linter.unusedSectionVars false
set_option linter.unusedSimpArgs false
set_option linter.unusedVariables false
namespace Go.Proofs.YtcimbpdkejgnlaaGreat
open Go Go.Eng Go.Mo
variable [Toks]
set_option maxRecDepth 100000
theorem trueG {ec : EC} (hec : ECOk Tryz.prog ec) {g : FuncId} {args : List HV} {d fuel : Nat} (h : allTrue (acall Tryz.prog ec ecov epl fuel d g args ⟨.emp, 0⟩) = true) : HCall Tryz.prog g args [] fun r _ => r = .bool true := by
  cases hc : acall Tryz.prog ec ecov epl fuel d g args ⟨.emp, 0⟩ with
  | none => rw [hc] at h; cases h
  | some L =>
    rw [hc] at h
    have h : rAll isTrue L = true := h
    rw [rAll_eq] at h
    refine (acall_h mixed' hec covers d g args ⟨.emp, 0⟩ L hc).mono ?_
    rintro r PS ⟨x, hx, rfl, rfl⟩
    have := List.all_eq_true.1 h x hx
    obtain ⟨v, m⟩ := x
    unfold isTrue at this
    split at this
    · rename_i b m heq; cases heq; rw [this]
    · cases this
end Go.Proofs.YtcimbpdkejgnlaaGreat
namespace Go.Proofs.YtcimbpdkejgnlaaGreat
open Go Go.Eng Go.Mo
variable [Toks]
set_option maxRecDepth 20000
attribute [local irreducible] hvc hops hop hplan hdrawP hval1 hopD HLoop
theorem isnan_pure (y : Int) : Pure Tryz.prog 399 [.int .i64 y] (.bool false) := by
  intro PS
  refine enter_399 (by unfold Tryz.f399; exact rfl) ?_
  simp only [go_sem, seval, -List.reduceReplicate]
theorem less_pure (x y : Int) : Pure Tryz.prog 333 [.int .i64 x, .int .i64 y] (.bool (decide (x < y))) := by
  intro PS
  refine enter_333 (by unfold Tryz.f333; exact rfl) ?_
  simp only [go_sem, seval, -List.reduceReplicate]
  refine pend_intro ((isnan_pure x).call ?_)
  simp only [go_sem, seval, -List.reduceReplicate]
end Go.Proofs.YtcimbpdkejgnlaaGreat
namespace Go.Mo
open Go Go.Eng
/-- An element goes down to its place. -/
def bub : Nat → List Int → List Int
  | 0, l => l
  | j + 1, l => if l.getD (j + 1) 0 < l.getD j 0 then bub j ((l.set (j + 1) (l.getD j 0)).set j (l.getD (j + 1) 0)) else l
def srt : Nat → Nat → List Int → List Int
  | 0, _, l => l
  | f + 1, i, l => srt f (i + 1) (bub i l)
end Go.Mo
namespace Go.Proofs.YtcimbpdkejgnlaaGreat
open Go Go.Eng Go.Mo
variable [Toks]
set_option maxRecDepth 20000
attribute [local irreducible] hvc hops hop hplan hdrawP hval1 hopD HLoop
theorem set_own {PS : PL} {q : Nat} {p : Piece} (h : getP PS q = p) (hp : p ≠ .dead := by simp) : PS.set q p = PS := by
  have := getP_some h hp
  apply List.ext_getElem?
  intro i
  rw [List.getElem?_set]
  by_cases hi : q = i
  · subst hi
    have hl := (List.getElem?_eq_some_iff.1 this).1
    rw [if_pos rfl, if_pos hl, this]
  · simp [hi]
theorem ins_sort (PS : PL) (l : List Int) (q ver : Nat) (o : Bool) (c : Option Nat) (hl : l.length ≤ 12) (h0 : 0 < l.length) (hq : getP PS q = .arr ver 1 (l.map kidL) o) :
    HCall Tryz.prog 327 [.sl q ver 0 l.length c, .int .i64 0, .int .i64 l.length] PS fun _ PS' => PS' = PS.set q (.arr ver 1 ((srt (l.length - 1) 1 l).map kidL) o) := by
  refine enter_327 (by unfold Tryz.f327; exact rfl) ?_
  simp only [go_sem, seval, -List.reduceReplicate]
  refine pend_intro (loop_rule (α := Nat × List Int) [false, false, false, false, false, false, false, true, false, false, true, true, true, true, true, true, true, true, true, true, true, true, true, true, true, true, true, true, true, true, true, true, true, true, true, true, true, true, true, true, true, true, true, true, true, true, true, true, true] (fun p => [(6, .int .i64 p.1)]) (fun p => l.length - p.1) (fun p PS' => (1 ≤ p.1 ∧ p.1 ≤ l.length ∧ p.2.length = l.length ∧ srt (l.length - p.1) p.1 p.2 = srt (l.length - 1) 1 l) ∧ PS' = PS.set q (.arr ver 1 (p.2.map kidL) o)) (1, l) ⟨⟨Nat.le_refl _, h0, rfl, rfl⟩, ?_⟩ ?_ ?_)
  · exact (set_own hq).symm
  · simp only [go_sem, seval, -List.reduceReplicate, Int.natCast_one]
  · rintro ⟨i, l1⟩ PS' ⟨⟨h1, h2, h3, h4⟩, rfl⟩
    simp only at h1 h2 h3 h4
    have hq1 : getP (PS.set q (.arr ver 1 (l1.map kidL) o)) q = .arr ver 1 (l1.map kidL) o := getP_set_eq _ hq
    by_cases hlt : (i : Int) < l.length
    · have nx : srt (l.length - i) i l1 = srt (l.length - (i + 1)) (i + 1) (bub i l1) := by
        rw [show l.length - i = l.length - (i + 1) + 1 by omega]; rfl
      simp only [go_sem, seval, -List.reduceReplicate, hlt]
      refine pend_intro (loop_rule (α := Nat × List Int) [false, false, false, false, false, false, false, false, false, false, false, false, false, false, false, false, true, true, true, true, true, true, true, true, true, true, true, true, true, true, true, true, true, true, true, true, true, true, true, true, true, true, true, true, true, true, true, true, true] (fun p => [(7, .int .i64 p.1)]) (fun p => p.1) (fun p PS' => (p.1 ≤ i ∧ p.2.length = l.length ∧ bub p.1 p.2 = bub i l1) ∧ PS' = PS.set q (.arr ver 1 (p.2.map kidL) o)) (i, l1) ⟨⟨Nat.le_refl _, h3, rfl⟩, rfl⟩ ?_ ?_)
      · simp only [go_sem, seval, -List.reduceReplicate]
      · rintro ⟨j, l2⟩ PS' ⟨⟨g1, g2, g3⟩, rfl⟩
        simp only at g1 g2 g3
        have hq2 : getP (PS.set q (.arr ver 1 (l2.map kidL) o)) q = .arr ver 1 (l2.map kidL) o := getP_set_eq _ hq
        by_cases hj : (0 : Int) < j
        · obtain ⟨k, rfl⟩ : ∃ k, j = k + 1 := ⟨j - 1, by omega⟩
          have hk1 : k + 1 < l2.length := by omega
          have e1 : l2[k + 1]? = some (l2.getD (k + 1) 0) := by simp [List.getD, hk1]
          have e0 : l2[k]? = some (l2.getD k 0) := by simp [List.getD, show k < l2.length by omega]
          have m1 : (l2.map kidL)[k + 1]? = some (kidL (l2.getD (k + 1) 0)) := by rw [List.getElem?_map, e1]; rfl
          have m0 : (l2.map kidL)[k]? = some (kidL (l2.getD k 0)) := by rw [List.getElem?_map, e0]; rfl
          have ek : ((k + 1 : Nat) : Int) - 1 = (k : Int) := by omega
          simp only [go_sem, seval, -List.reduceReplicate, hj, hq2, ek, m1, m0, kidL]
          refine ⟨by omega, by omega, by omega, pend_intro ((less_pure _ _).call ?_)⟩
          by_cases hx : l2.getD (k + 1) 0 < l2.getD k 0
          · have hy : ∀ Q, getP (PS.set q Q) q = Q := fun Q => getP_set_eq Q hq
            have m0' : ∀ x, ((l2.map kidL).set (k + 1) x)[k]? = some (kidL (l2.getD k 0)) := fun x => by rw [List.getElem?_set_ne (by omega)]; exact m0
            have m1' : ∀ x, ((l2.map kidL).set (k + 1) x)[k + 1]? = some x := fun x => by rw [List.getElem?_set]; simp; omega
            have ek0 : 0 + (k : Int).toNat = k := by omega
            simp only [go_sem, seval, -List.reduceReplicate, hx, hq2, hy, List.set_set, ek, ek0, m1, m0, m0', m1', kidL]
            exact ⟨by omega, by omega, by omega, by omega, by omega, by omega, by omega, (k, (l2.set (k + 1) (l2.getD k 0)).set k (l2.getD (k + 1) 0)), by simp only; omega, ⟨⟨by simp only; omega, by simp [g2], by simp only; rw [← g3, bub, if_pos hx]⟩, by simp [List.map_set, kidL]⟩, rfl⟩
          · simp only [go_sem, seval, -List.reduceReplicate, hx]
            have hb : bub (k + 1) l2 = l2 := by rw [bub, if_neg hx]
            exact ⟨by omega, (i + 1, l2), by simp only; omega, ⟨⟨by simp only; omega, by simp only; omega, g2, by simp only; rw [← h4, nx, ← g3, hb]⟩, rfl⟩, by simp⟩
        · simp only [go_sem, seval, -List.reduceReplicate, hj]
          have hj0 : j = 0 := by omega
          subst hj0
          exact ⟨by omega, (i + 1, l2), by simp only; omega, ⟨⟨by simp only; omega, by simp only; omega, g2, by simp only; rw [← h4, nx, ← g3]; rfl⟩, rfl⟩, by simp⟩
    · simp only [go_sem, seval, -List.reduceReplicate, hlt]
      have e : l.length - i = 0 := by omega
      rw [e] at h4
      rw [← h4]; rfl
theorem pdq_sort (PS : PL) (l : List Int) (q ver : Nat) (o : Bool) (c : Option Nat) (lim : Int) (hl : l.length ≤ 12) (h0 : 0 < l.length) (hq : getP PS q = .arr ver 1 (l.map kidL) o) :
    HCall Tryz.prog 237 [.sl q ver 0 l.length c, .int .i64 0, .int .i64 l.length, .int .i64 lim] PS fun _ PS' => PS' = PS.set q (.arr ver 1 ((srt (l.length - 1) 1 l).map kidL) o) := by
  have h12 : (l.length : Int) ≤ 12 := by omega
  refine enter_237 (by unfold Tryz.f237; exact rfl) ?_
  simp only [go_sem, seval, -List.reduceReplicate, h12, Int.sub_zero]
  refine pend_intro (loop_rule (α := Unit) [false, false, false, false, false, false, false, false, false, false, true, true, true, true, true, true, true, true, true, true, true, true, true, true, true, true, true, true, true, true, true, true, true, true, true, true, true, true, true, true, true, true, true, true, true, true, true, true, true, true, true, true, true, true, true, true, true, true, true, true, true, true, true, true, true, true, true, true, true, true, true, true, true, true, true, true, true, true, true, true, true, true, true, true, true, true, true, true, true, true, true, true, true, true, true, true, true, true, true, true, true, true, true, true, true, true, true, true, true, true, true, true, true, true, true, true, true, true, true, true, true, true, true, true, true, true, true, true, true, true, true, true, true, true] (fun _ => [(2, .int .i64 l.length), (1, .int .i64 0), (3, .int .i64 lim), (8, .bool true), (9, .bool true)]) (fun _ => 0) (fun _ PS' => PS' = PS) () rfl ?_ ?_)
  · simp only [go_sem, seval, -List.reduceReplicate]
  · rintro _ PS' rfl
    simp only [go_sem, seval, -List.reduceReplicate, h12, Int.sub_zero]
    refine ⟨by omega, pend_intro ((ins_sort _ l q ver o c hl h0 hq).mono ?_)⟩
    rintro r PS' rfl
    simp only [go_sem, seval, -List.reduceReplicate]
    done
noncomputable def isI (k : Int) (l : Option (List RM)) : Bool :=
  match l with
  | some [(.int .i64 n, _)] => iEq n k
  | _ => false
theorem runI {g : FuncId} {args : List HV} {d fuel : Nat} {k : Int} (h : isI k (acall Tryz.prog orc ecov epl fuel d g args ⟨.emp, 0⟩) = true) : HCall Tryz.prog g args [] fun r _ => r = .int .i64 k := by
  cases hc : acall Tryz.prog orc ecov epl fuel d g args ⟨.emp, 0⟩ with
  | none => rw [hc] at h; cases h
  | some L =>
    rw [hc] at h
    refine (acall_h mixed' orc_ok covers d g args ⟨.emp, 0⟩ L hc).mono ?_
    rintro r PS ⟨x, hx, rfl, rfl⟩
    unfold isI at h
    split at h
    · rename_i n m heq
      cases heq
      cases List.mem_singleton.1 hx
      rw [iEq_of h]
    · cases h
theorem bits_len (n : Nat) (h : n ≤ 12) : ∃ k : Int, Pure Tryz.prog 238 [.int .u64 n] (.int .i64 k) := by
  have run : ∀ (n : Nat) (k : Int), isI k (acall Tryz.prog orc ecov epl 1000 20 238 [.int .u64 n] ⟨.emp, 0⟩) = true → ∃ k : Int, Pure Tryz.prog 238 [.int .u64 n] (.int .i64 k) := fun n k hr =>
    ⟨k, Pure.of_nil (by simp; exact .int _ _) (.int _ _) (runI hr)⟩
  have : n = 0 ∨ n = 1 ∨ n = 2 ∨ n = 3 ∨ n = 4 ∨ n = 5 ∨ n = 6 ∨ n = 7 ∨ n = 8 ∨ n = 9 ∨ n = 10 ∨ n = 11 ∨ n = 12 := by omega
  rcases this with rfl | rfl | rfl | rfl | rfl | rfl | rfl | rfl | rfl | rfl | rfl | rfl | rfl
  · exact run _ 0 (by kernel_rfl)
  · exact run _ 1 (by kernel_rfl)
  · exact run _ 2 (by kernel_rfl)
  · exact run _ 2 (by kernel_rfl)
  · exact run _ 3 (by kernel_rfl)
  · exact run _ 3 (by kernel_rfl)
  · exact run _ 3 (by kernel_rfl)
  · exact run _ 3 (by kernel_rfl)
  · exact run _ 4 (by kernel_rfl)
  · exact run _ 4 (by kernel_rfl)
  · exact run _ 4 (by kernel_rfl)
  · exact run _ 4 (by kernel_rfl)
  · exact run _ 4 (by kernel_rfl)
theorem sort_int (PS : PL) (l : List Int) (q ver : Nat) (o : Bool) (c : Option Nat) (hl : l.length ≤ 12) (h0 : 0 < l.length) (hq : getP PS q = .arr ver 1 (l.map kidL) o) :
    HCall Tryz.prog 130 [.sl q ver 0 l.length c] PS fun r PS' => r = .tup [] ∧ PS' = PS.set q (.arr ver 1 ((srt (l.length - 1) 1 l).map kidL) o) := by
  obtain ⟨k, hk⟩ := bits_len l.length hl
  refine enter_130 (by unfold Tryz.f130; exact rfl) ?_
  simp only [go_sem, seval, -List.reduceReplicate, hq]
  refine fun _ => ⟨by omega, pend_intro (hk.call ?_)⟩
  simp only [go_sem, seval, -List.reduceReplicate]
  refine pend_intro ((pdq_sort _ l q ver o c k hl h0 hq).mono ?_)
  rintro r PS' rfl
  simp only [go_sem, seval, -List.reduceReplicate]
  done
end Go.Proofs.YtcimbpdkejgnlaaGreat
namespace Go.Eng
open Go Go.Mo
variable [Toks]
noncomputable def oLess (args : List HV) (m : Mem) : Option (List RM) :=
  match args with
  | [.int .i64 a, .int .i64 b] => fB (iLt a b) fun r => some [(.bool r, m)]
  | _ => none
noncomputable def oRow1 (r : List HV) : Option Int :=
  match r with
  | [.int .i64 n] => some n
  | _ => none
noncomputable def oInts : List (List HV) → Option (List Int)
  | [] => some []
  | r :: E => bnd (oRow1 r) fun n => bnd (oInts E) fun l => some (n :: l)
theorem oInts_h : ∀ (E : List (List HV)) (l : List Int), oInts E = some l → E = l.map kidL
  | [], l, h => by cases h; rfl
  | r :: E, l, h => by
    simp only [oInts, bnd_some] at h
    obtain ⟨n, h0, l', h1, h2⟩ := h
    cases h2
    unfold oRow1 at h0
    split at h0
    · cases h0; rw [oInts_h E l' h1]; rfl
    · cases h0
noncomputable def oSrt (args : List HV) (m : Mem) : Option (List RM) :=
  match args with
  | [.sl q ver 0 len c] => (match m.get q with
    | .arr ver' 1 E o => bnd (oInts E) fun l => on (Nat.beq ver ver' && Nat.beq len l.length && Nat.ble l.length 12 && Nat.blt 0 l.length) (fLL ((srt (l.length - 1) 1 l).map kidL) fun E' => m.set q (.arr ver' 1 E' o) fun m' => some [(.tup [], m')])
    | _ => none)
  | _ => none
end Go.Eng
namespace Go.Proofs.YtcimbpdkejgnlaaGreat
open Go Go.Eng Go.Mo
set_option maxRecDepth 100000
section
variable [Toks]
variable {args : List HV} {m : Mem} {L : List RM}
theorem oSrt_h (ho : oSrt args m = some L) : HCall Tryz.prog 130 args m.pl fun v PS => ∃ x ∈ L, v = x.1 ∧ PS = x.2.pl := by
  unfold oSrt at ho
  split at ho
  · rename_i q ver len c
    split at ho
    · rename_i ver' E o hg
      simp only [bnd_some, on_some, Bool.and_eq_true, beq_eq', ble_le, blt_lt, fLL_eq] at ho
      obtain ⟨l, h1, ⟨⟨⟨rfl, rfl⟩, h2⟩, h3⟩, h4⟩ := ho
      obtain ⟨m2, h5, h6⟩ := Mem.set_some h4
      cases h6
      have hg' : getP m.pl q = .arr ver 1 (l.map kidL) o := by rw [Mem.get_eq, hg, oInts_h E l h1]
      refine (sort_int m.pl l q ver o c h2 h3 hg').mono ?_
      rintro r PS ⟨rfl, rfl⟩
      exact ⟨_, List.mem_singleton.2 rfl, rfl, h5.symm⟩
    · cases ho
  · cases ho
theorem oLess_h (ho : oLess args m = some L) : HCall Tryz.prog 333 args m.pl fun v PS => ∃ x ∈ L, v = x.1 ∧ PS = x.2.pl := by
  unfold oLess at ho
  split at ho
  · rename_i a b
    simp only [fB_eq, Option.some.injEq] at ho
    subst ho
    have := (less_pure a b).way (m := m)
    rw [iLt_eq] at this
    exact this
  · cases ho
noncomputable def orcW : EC := fun g args m =>
  bif Nat.beq g 130 then oSrt args m else
  bif Nat.beq g 333 then oLess args m else
  bif Nat.beq g 72 then (match args with | [] => some [(.bool true, m)] | _ => none) else orcS g args m
theorem orcW_ok : ECOk Tryz.prog orcW := by
  intro g args m L ho
  unfold orcW at ho
  rcases cond_some ho with ⟨hg, ho⟩ | ho
  · rw [beq_eq'.1 hg]; exact oSrt_h ho
  rcases cond_some ho with ⟨hg, ho⟩ | ho
  · rw [beq_eq'.1 hg]; exact oLess_h ho
  rcases cond_some ho with ⟨hg, ho⟩ | ho
  · rw [beq_eq'.1 hg]
    split at ho
    · cases ho; exact awake27.way
    · cases ho
  · exact orcS_ok _ _ _ _ ho
noncomputable def dsW (g : FuncId) : Bool := Nat.beq g 39 || Nat.beq g 20 || Nat.beq g 92
noncomputable def orcWD : EC := orcD Tryz.prog orcW ecov epl 100000 60 dsW 2
theorem orcWD_ok : ECOk Tryz.prog orcWD := orcD_ok mixed' orcW_ok covers 2
end
/-- Two numbers by name: their bounds, and how they lie. -/
abbrev wyT (u v lu lv : Int) (c : Option Ordering) (hu : lu ≤ u ∧ u ≤ 255) (hv : lv ≤ v ∧ v ≤ 255) (hc : ∀ o, c = some o → compare u v = o) : Toks where
  num i := bif Nat.beq i 0 then u else v
  str _ := []
  lo i := bif Nat.beq i 0 then lu else lv
  hi _ := 255
  plus _ _ := none
  sum _ _ := none
  conv i _ := some i
  slen _ := none
  ord i j := bif Nat.beq i 0 && Nat.beq j 1 then c else bif Nat.beq i 1 && Nat.beq j 0 then c.map Ordering.swap else none
  rem _ _ := none
  rng i := by
    cases h : Nat.beq i 0
    · exact hv
    · exact hu
  plus_ok _ _ _ h := by cases h
  sum_ok _ _ _ h := by cases h
  conv_ok _ _ _ h := by cases h; rfl
  slen_ok _ _ h := by cases h
  ord_ok i j o h := by
    cases h1 : (Nat.beq i 0 && Nat.beq j 1)
    · rw [h1] at h
      cases h2 : (Nat.beq i 1 && Nat.beq j 0)
      · rw [h2] at h; cases h
      · rw [h2] at h
        rw [Bool.and_eq_true] at h2
        obtain rfl := Nat.eq_of_beq_eq_true h2.1
        obtain rfl := Nat.eq_of_beq_eq_true h2.2
        cases c with
        | none => cases h
        | some c =>
          cases h
          show compare v u = c.swap
          rw [← hc c rfl]
          exact Std.OrientedCmp.eq_swap
    · rw [h1] at h
      rw [Bool.and_eq_true] at h1
      obtain rfl := Nat.eq_of_beq_eq_true h1.1
      obtain rfl := Nat.eq_of_beq_eq_true h1.2
      exact hc o h
  rem_ok _ _ _ h := by cases h
end Go.Proofs.YtcimbpdkejgnlaaGreat
