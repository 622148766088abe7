/-
  The calls that the hall's laws know: numbers by rest, also of numbers of which only the rest is known; that the law's examples hold.
  No conditions.
-/
import Derived.Test.YthmjdhonafnabaaGreatRunJ
import Derived.Test.YthmjdhonafnabaaGreatRunP
import Derived.Test.YthmjdhonafnabaaGreatRunK
namespace Go.Proofs.YthmjdhonafnabaaGreat
open Go Go.Eng
set_option maxRecDepth 100000
theorem awake17_run : HCall Tryz.prog 9 [] [] fun r _ => r = .bool true := true_of (fuel := 100000) (d := 60) (by kernel_rfl)
theorem awake17 : Pure Tryz.prog 9 [] (.bool true) := Pure.of_nil (by simp) (.bool _) awake17_run
/-- A number by rest: of one whose rest is known; of one of which nothing is known: all of them. -/
noncomputable def oPlace (args : List HV) (m : Mem) : Option (List RM) :=
  match args with
  | [.any .i64 q r, .int .i64 (.ofNat (n + 1))] =>
    (match q with
    | .ofNat q => bif Nat.beq q (n + 1) then on (Nat.ble n 1000) (some [(.int .i64 r, m)])
      else on (Nat.beq q 1 && Nat.ble n 1000) (some ((List.range (n + 1)).map fun i => (.int .i64 (.ofNat i), m)))
    | _ => none)
  | _ => none
theorem oPlace_h {args : List HV} {m : Mem} {L : List RM} (h : oPlace args m = some L) : HCall Tryz.prog 16 args m.pl fun v PS => ∃ x ∈ L, v = x.1 ∧ PS = x.2.pl := by
  unfold oPlace at h
  split at h
  · rename_i q r n
    split at h
    · rename_i q
      rcases cond_some h with ⟨hq, h⟩ | h
      · have hq := beq_eq'.1 hq
        simp only [on_some, ble_le] at h
        obtain ⟨hn, h⟩ := h
        cases h
        refine HCall.any (pre := []) fun v hv => ((place_ v (n + 1 : Nat) (by omega) (by omega)) m.pl).mono ?_
        rintro _ _ ⟨rfl, rfl⟩
        refine ⟨_, List.mem_singleton.2 rfl, ?_, rfl⟩
        rw [← hv, hq]
        rfl
      · simp only [on_some, Bool.and_eq_true, ble_le] at h
        obtain ⟨⟨_, hn⟩, h⟩ := h
        cases h
        refine HCall.any (pre := []) fun v _ => ((place_ v (n + 1 : Nat) (by omega) (by omega)) m.pl).mono ?_
        rintro _ _ ⟨rfl, rfl⟩
        have h1 := Int.emod_nonneg v (b := ((n + 1 : Nat) : Int)) (by omega)
        have h2 := Int.emod_lt_of_pos v (b := ((n + 1 : Nat) : Int)) (by omega)
        refine ⟨_, List.mem_map.2 ⟨(v % ((n + 1 : Nat) : Int)).toNat, List.mem_range.2 (by omega), rfl⟩, ?_, rfl⟩
        show HV.int _ _ = HV.int _ _
        congr 1
        exact (Int.toNat_of_nonneg h1).symm
    · cases h
  · cases h
noncomputable def orc17 : EC := fun g args m =>
  bif Nat.beq g 16 then oPlace args m else
  bif Nat.beq g 9 then (match args with | [] => some [(.bool true, m)] | _ => none) else orc g args m
theorem orc17_ok : ECOk Tryz.prog orc17 := by
  intro g args m L h
  unfold orc17 at h
  rcases cond_some h with ⟨hg, h⟩ | h
  · rw [beq_eq'.1 hg]; exact oPlace_h h
  rcases cond_some h with ⟨hg, h⟩ | h
  · rw [beq_eq'.1 hg]
    split at h
    · cases h; exact awake17.way
    · cases h
  · exact orc_ok _ _ _ _ h
theorem true17 {g : FuncId} {args : List HV} {d fuel : Nat} (h : allTrue (acall Tryz.prog orc17 ecov epl fuel d g args ⟨.emp, 0⟩) = true) : HCall Tryz.prog g args [] fun r _ => r = .bool true := by
  cases hc : acall Tryz.prog orc17 ecov epl fuel d g args ⟨.emp, 0⟩ with
  | none => rw [hc] at h; cases h
  | some L =>
    rw [hc] at h
    have h : rAll isTrue L = true := h
    rw [rAll_eq] at h
    refine (acall_h mixed' orc17_ok covers d g args ⟨.emp, 0⟩ L hc).mono ?_
    rintro r PS ⟨x, hx, rfl, rfl⟩
    have := List.all_eq_true.1 h x hx
    obtain ⟨v, m⟩ := x
    unfold isTrue at this
    split at this
    · rename_i b m heq; cases heq; rw [this]
    · cases this
end Go.Proofs.YthmjdhonafnabaaGreat
