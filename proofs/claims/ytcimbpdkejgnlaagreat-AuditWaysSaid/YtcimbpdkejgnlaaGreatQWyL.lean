/-
  Runs of AuditWays: the blocks that are reached are told sorted, whatever the order in which the map tells them.
  No conditions.
-/
import Derived.Test.YtcimbpdkejgnlaaGreatQWyK
set_option linter.unusedSectionVars false
set_option linter.unusedSimpArgs false
set_option linter.unusedVariables false
namespace Go.Proofs.YtcimbpdkejgnlaaGreat
open Go Go.Eng Go.Mo
set_option maxRecDepth 100000
variable [Toks]
noncomputable def ndB : List Nat → Bool
  | [] => true
  | a :: l => rAll (fun b => !Nat.beq a b) l && ndB l
theorem ndB_h : ∀ {l : List Nat}, ndB l = true → l.Nodup
  | [], _ => List.nodup_nil
  | a :: l, h => by
    simp only [ndB, Bool.and_eq_true, rAll_eq] at h
    refine List.nodup_cons.2 ⟨fun ha => ?_, ndB_h h.2⟩
    have := List.all_eq_true.1 h.1 a ha
    simp [Nat.beq_refl] at this
noncomputable def oReach (m : Mem) (r : RM) : Option (List Int) :=
  match r with
  | (.ref n ver, m') => (match m'.get n with
    | .map ver' _ .i64 E => on (Nat.beq ver ver' && Nat.ble m.n m'.n && oldSame m m' m.n && ndB (seenOf E)) (some (keysOf E))
    | _ => none)
  | _ => none
noncomputable def oBlk (rc : List HV → Mem → Option (List RM)) (args : List HV) (m : Mem) : Option (List RM) :=
  match args with
  | [x] => bnd (rc [x] m) fun L => (match L with
    | [r] => bnd (oReach m r) fun ks => on (Nat.blt 0 ks.length && Nat.ble ks.length 12) (fLL ((srt (ks.length - 1) 1 ks).map kidL) fun E => some [(.imm false E, m)])
    | _ => none)
  | _ => none
theorem oReach_h {m : Mem} {r : RM} {ks : List Int} (h : oReach m r = some ks) : ∃ n ver clock E, r.1 = .ref n ver ∧ getP r.2.pl n = .map ver clock .i64 E ∧ Ext [] m.pl r.2.pl ∧ keysOf E = ks ∧ (seenOf E).Nodup := by
  unfold oReach at h
  split at h
  · rename_i n ver m'
    split at h
    · rename_i ver' c E hg
      simp only [on_some, Bool.and_eq_true, beq_eq', ble_le, Option.some.injEq] at h
      obtain ⟨⟨⟨⟨rfl, h2⟩, h3⟩, h4⟩, rfl⟩ := h
      refine ⟨n, ver, c, E, rfl, by rw [Mem.get_eq, hg], ⟨by rw [Mem.len, Mem.len]; exact h2, fun q hq _ => ?_⟩, rfl, ndB_h h4⟩
      rw [Mem.len] at hq
      exact oldSame_h _ h3 q hq
    · cases h
  · cases h
theorem oBlk_h {rc : List HV → Mem → Option (List RM)} {args : List HV} {m : Mem} {L : List RM}
    (hrc : ∀ args m L, rc args m = some L → HCall Tryz.prog 129 args m.pl fun v PS => ∃ x ∈ L, v = x.1 ∧ PS = x.2.pl)
    (ho : oBlk rc args m = some L) : HCall Tryz.prog 39 args m.pl fun v PS => ∃ x ∈ L, v = x.1 ∧ PS = x.2.pl := by
  unfold oBlk at ho
  split at ho
  · rename_i x
    rw [bnd_some] at ho
    obtain ⟨L1, h1, ho⟩ := ho
    split at ho
    · rename_i r
      simp only [bnd_some, on_some, Bool.and_eq_true, blt_lt, ble_le, fLL_eq, Option.some.injEq] at ho
      obtain ⟨ks, h2, ⟨h3, h4⟩, rfl⟩ := ho
      refine (blocks_ (ks := ks) (k' := srt (ks.length - 1) 1 ks) ((hrc _ _ _ h1).mono ?_) h3 h4 fun l hp => ?_).mono ?_
      · rintro v PS ⟨y, hy, rfl, rfl⟩
        cases List.mem_singleton.1 hy
        exact oReach_h h2
      · have hl : 0 < l.length := by rw [hp.length_eq]; exact h3
        exact srt_of (hp.trans (srt_ok ks h3).1.symm) hl (srt_ok ks h3).2
      · rintro v PS ⟨rfl, rfl⟩
        exact ⟨_, List.mem_singleton.2 rfl, rfl, rfl⟩
    · cases ho
  · cases ho
noncomputable def dsW2 (g : FuncId) : Bool := Nat.beq g 20 || Nat.beq g 92
noncomputable def orcR : EC := orcD Tryz.prog orcW ecov epl 100000 60 dsW2 2
theorem orcR_ok : ECOk Tryz.prog orcR := orcD_ok mixed' orcW_ok covers 2
noncomputable def orcF : EC := fun g args m => bif Nat.beq g 39 then oBlk (fun args m => acall Tryz.prog orcR ecov epl 100000 60 129 args m) args m else orcR g args m
theorem orcF_ok : ECOk Tryz.prog orcF := by
  intro g args m L ho
  unfold orcF at ho
  rcases cond_some ho with ⟨hg, ho⟩ | ho
  · rw [beq_eq'.1 hg]
    exact oBlk_h (fun args m L h => acall_h mixed' orcR_ok covers 60 129 args m L h) ho
  · exact orcR_ok _ _ _ _ ho
end Go.Proofs.YtcimbpdkejgnlaaGreat
