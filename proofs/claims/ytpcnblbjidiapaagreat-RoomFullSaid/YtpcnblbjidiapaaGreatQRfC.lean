/-
What the run of RoomFull asks for: by contracts.
The law RoomFull where no numbers come in: run.
The law RoomFull: of any numbers; the slice that comes in.
No conditions.
-/
import Derived.Test.YtpcnblbjidiapaaGreatQHm4
import Derived.Test.YtpcnblbjidiapaaGreatQRfB
import Derived.Test.YtpcnblbjidiapaaGreatQRunQ1
import Derived.SizedLaws
set_option linter.unusedSectionVars false
set_option linter.unusedSimpArgs false
set_option linter.unusedVariables false
namespace Go.Proofs.YtpcnblbjidiapaaGreat
open Go Go.Eng Go.Ow
open Go.Mo
set_option maxRecDepth 100000
theorem Pure.res [Toks] {P : Program} {f : FuncId} {args : List HV} {x y : HV} (h : Pure P f args x) (s : Sub x y) : Pure P f args y := fun PS => HCall.res (h PS) (by
  rintro _ _ ⟨rfl, rfl⟩
  exact ⟨y, s, rfl, rfl⟩)
theorem Pure.sub [Toks] {P : Program} {f : FuncId} {args args' : List HV} {x : HV} (h : Pure P f args x) (s : SubL args' args) : Pure P f args' x := fun PS => HCall.sub s (h PS)
def full (l : List Int) : List Int := 0 :: 8 :: 16 :: l
noncomputable def rows3 (l : List Int) : List (List HV) := (entsOf ((full l).take 80)).map entL
theorem flat_ints {L : List HV} (h : ∀ x ∈ L, ∃ k n, x = .int k n) : ∀ x ∈ L, Flat x := fun x hx => by
  obtain ⟨k, n, rfl⟩ := h x hx; exact .int _ _
theorem ent_ints (e : Bs × Bs) : ∀ x ∈ entL e, ∃ k n, x = HV.int k n := by
  intro x hx
  have u : ∀ b : Bs, ∀ x ∈ u8s b, ∃ k n, x = HV.int k n := fun b x hx => by
    obtain ⟨y, _, rfl⟩ := List.mem_map.1 hx; exact ⟨_, _, rfl⟩
  rcases List.mem_append.1 hx with hx | hx
  · rcases List.mem_cons.1 hx with rfl | hx
    · exact ⟨_, _, rfl⟩
    · exact u _ x hx
  · rcases List.mem_cons.1 hx with rfl | hx
    · exact ⟨_, _, rfl⟩
    · exact u _ x hx
theorem flat_map {α : Type} (f : α → List HV) (l : List α) (h : ∀ a, ∀ x ∈ f a, ∃ k n, x = HV.int k n) : Flat (.imm false (l.map f)) := by
  refine .imm _ _ fun i r k x hi hk => ?_
  obtain ⟨a, _, rfl⟩ := List.mem_map.1 (List.mem_of_getElem? hi)
  obtain ⟨j, n, rfl⟩ := h a x (List.mem_of_getElem? hk)
  exact .int _ _
theorem rf_in (l : List Int) (h0 : l ≠ []) (hl : l.length ≤ 17592186044413) : RfIn (l.map kidL) (rows3 l) where
  n1 := by simpa using h0
  s1 := fun r hr => by obtain ⟨a, _, rfl⟩ := List.mem_map.1 hr; rfl
  l1 := by rwa [List.length_map]
  f1 := flat_map _ _ fun a x hx => by simp [kidL] at hx; exact ⟨_, _, hx⟩
  h3 := by
    letI : Toks := Toks.of (fun _ => 0) (fun _ => [])
    have h1 := entsOf_two ((16 :: l).take 78)
    have h2 := (entsOf_ok ((full l).take 80)).few
    have h3 : ((full l).take 80).length ≤ 80 := List.length_take_le ..
    rw [rows3, List.length_map]
    exact ⟨h1, by omega⟩
  f3 := flat_map _ _ ent_ints
theorem rf_ok (l : List Int) (h : RfIn (l.map kidL) (rows3 l)) : @RfOk (rfT _ _ h) := by
  letI T : Toks := rfT _ _ h
  have hne : rows3 l ≠ [] := fun e => by have := h.h3.1; rw [e] at this; simp at this
  have hd : decide (rows3 l = []) = false := decide_eq_false hne
  have e2 : Toks.rows 2 = (full l).map kidL := rfl
  have e3 : Toks.rows 3 = rows3 l := rfl
  have ok := leafOf_ok (full l)
  have un3 : Sub (.nam 3) (.imm false (rows3 l)) := Sub.unnam rfl e3
  have lf : ∀ a b c, Sub (.agg [.bool true, .nam 3, .imm a [], .imm b [], .imm c []]) (.agg (nodL ⟨false, a, b, c⟩ (leafOf (full l)))) := fun a b c =>
    Sub.agg ⟨Sub.refl _, un3, Sub.refl _, Sub.refl _, Sub.refl _, trivial⟩
  refine ⟨?_, fun a b c => ?_, fun a b c a' b' c' => ?_, ?_, awake19⟩
  · have h1 := gen_leaf false (full l)
    have h2 : Pure Tryz.prog 7 [.nam 2] (.agg (nodL ⟨decide (rows3 l = []), true, true, true⟩ (leafOf (full l)))) := Pure.sub h1 ⟨Sub.unnam rfl e2, trivial⟩
    rw [hd] at h2
    exact Pure.res h2 (Sub.agg ⟨Sub.refl _, Sub.nam rfl e3, Sub.refl _, Sub.refl _, Sub.refl _, trivial⟩)
  · have h1 := node_fits ⟨false, a, b, c⟩ _ ok.1
    rw [tt_true ok.2] at h1
    exact Pure.sub h1 ⟨lf a b c, trivial⟩
  · have h1 := rnode_same ⟨false, a, b, c⟩ ⟨false, a', b', c'⟩ (leafOf (full l)) (leafOf (full l)) ok.1
    rw [decide_eq_true rfl] at h1
    exact Pure.sub h1 ⟨lf a b c, lf a' b' c', trivial⟩
  · have h1 : Pure Tryz.prog 101 [.imm false (rows3 l)] (.imm false (rows3 l)) := fun PS => HCall.copy (fun r hr y hy => (by
        obtain ⟨a, _, rfl⟩ := List.mem_map.1 hr; obtain ⟨k, n, rfl⟩ := ent_ints a y hy; exact .int _ _)) (cl_ent_imm PS false (rows3 l) (fun r hr => by obtain ⟨a, _, rfl⟩ := List.mem_map.1 hr; exact entL_len a) (by have := h.h3.2; simp [hroom]; omega))
    exact Pure.res (Pure.sub h1 ⟨un3, trivial⟩) (Sub.nam rfl e3)
/-- The law, whatever the numbers, none apart. -/
theorem full_more (l : List Int) (k : Bool) (h0 : l ≠ []) (hl : l.length ≤ 17592186044413) : ∃ T : Toks, @HCall T Tryz.prog 3 [.imm false (l.map kidL), .bool k] [] fun r _ => r = .bool true := by
  have h := rf_in l h0 hl
  refine ⟨rfT _ _ h, ?_⟩
  letI T : Toks := rfT _ _ h
  have e1 : Toks.rows 1 = l.map kidL := rfl
  have ok := rf_ok l h
  cases k
  · exact HCall.sub (args := [.nam 1, .bool false]) ⟨Sub.nam rfl e1, Sub.refl _, trivial⟩ (rf_false _ _ h ok)
  · exact HCall.sub (args := [.nam 1, .bool true]) ⟨Sub.nam rfl e1, Sub.refl _, trivial⟩ (rf_true _ _ h ok)
end Go.Proofs.YtpcnblbjidiapaaGreat
namespace Go.Proofs.YtpcnblbjidiapaaGreat
open Go Go.Eng
set_option maxRecDepth 100000
variable [Toks]
noncomputable def orcR0 : EC := fun g args m => bif Nat.beq g 17 then (match args with | [] => some [(.bool true, m)] | _ => none) else orcS g args m
theorem orcR0_ok : ECOk Tryz.prog orcR0 := by
  intro g args m L ho
  unfold orcR0 at ho
  rcases cond_some ho with ⟨hg, ho⟩ | ho
  · rw [beq_eq'.1 hg]
    split at ho
    · cases ho; exact awake19.way
    · cases ho
  · exact orcS_ok _ _ _ _ ho
noncomputable def orcR0D : EC := orcD Tryz.prog orcR0 ecov epl 100000 60 dsRf 1
theorem orcR0D_ok : ECOk Tryz.prog orcR0D := orcD_ok mixed' orcR0_ok covers 1
theorem none_true : HCall Tryz.prog 3 [.imm false [], .bool true] [] fun r _ => r = .bool true := trueRf orcR0D_ok (fuel := 100000) (d := 60) (by kernel_rfl)
theorem none_false : HCall Tryz.prog 3 [.imm false [], .bool false] [] fun r _ => r = .bool true := trueRf orcR0D_ok (fuel := 100000) (d := 60) (by kernel_rfl)
end Go.Proofs.YtpcnblbjidiapaaGreat
namespace Go.Proofs.YtpcnblbjidiapaaGreat
open Go Go.Eng Go.RowKit Go.WideShapes Go.ChangeShapes Go.Deep
open Go.Mo
theorem full_ (l : List Int) (k : Bool) (hl : l.length ≤ 17592186044413) : ∃ T : Toks, @HCall T Tryz.prog 3 [.imm false (l.map kidL), .bool k] [] fun r _ => r = .bool true := by
  by_cases h0 : l = []
  · subst h0
    refine ⟨Toks.of (fun _ => 0) (fun _ => []), ?_⟩
    letI : Toks := Toks.of (fun _ => 0) (fun _ => [])
    cases k
    · exact none_false
    · exact none_true
  · exact full_more l k h0 hl
theorem ints_any {T T' : Toks} {M : Nat → Prop} {e : List Pos} {w : World} {t : Bool} {l : List Int} {v : Value} (h : @VRel T M e w (.imm t (l.map kidL)) v) : @VRel T' M e w (.imm t (l.map kidL)) v := by
  cases h with
  | imm _ _ a c b o sz val hc hm ht hn ha hb hsz h1c hcell hval =>
    refine .imm t _ a c b o sz val hc hm ht hn ha hb hsz h1c hcell fun i r k z hi hk => ?_
    obtain ⟨n, _, rfl⟩ := List.mem_map.1 (List.mem_of_getElem? hi)
    have h1 := hval i _ k z hi hk
    have hz := List.mem_of_getElem? hk
    simp only [kidL, List.mem_cons, List.not_mem_nil, or_false] at hz
    subst hz
    generalize val i k = u at h1
    cases h1
    exact .int _ _
theorem ints_len {T : Toks} {M : Nat → Prop} {e : List Pos} {w : World} {t : Bool} {l : List Int} {a : Option Addr} {n c : Nat} (h : @VRel T M e w (.imm t (l.map kidL)) (.slice a n c)) : n = l.length := by
  cases h with
  | imm => rw [List.length_map]
theorem int_rows : ∀ E : List (List HV), (∀ r ∈ E, ∃ n, r = kidL n) → ∃ l : List Int, E = l.map kidL
  | [], _ => ⟨[], rfl⟩
  | r :: E, h => by
    obtain ⟨n, rfl⟩ := h r (by simp)
    obtain ⟨l, rfl⟩ := int_rows E fun r hr => h r (by simp [hr])
    exact ⟨n :: l, rfl⟩
theorem int_size : Tryz.prog.bytesOf 3 = 8 := by kernel_rfl
theorem open_ints {H : Type} {enc : TypeId × Value → H} {w : World} {base fuel : Nat} {held : Bool} {cs : List Value} {x : DataW H × List MemPlace} (h : DataW.trod enc Tryz.prog w base (fun _ => true) held fuel 22 cs = some x) :
    ∃ (v : Value) (l : List Int), cs = [v] ∧ (∀ T : Toks, @VRel T M0 [] w (.imm false (l.map kidL)) v) ∧
      ∀ (ts : List TypeId) (ds : List (DataW H)) (j : Nat), ts[j]? = some 22 → ds[j]? = some x.1 → (DataW.weightsEach Tryz.prog ts ds).all (· ≤ reachBytes) = true → l.length ≤ 17592186044413 := by
  letI : Toks := Toks.of (fun _ => 0) (fun _ => [])
  obtain ⟨v, E, h1, h2, h3, _⟩ := vrel_rows (sz := 1) Tryz.underlying22 (by kernel_rfl) (by omega) h (fun r => ∃ n, r = kidL n) fun n cs' y hl hy => by
    obtain ⟨z, _, rfl⟩ := row_int Tryz.underlying3 hy
    exact ⟨_, rfl, ⟨z, rfl⟩, one_row (.int _ _) rfl⟩
  obtain ⟨l, rfl⟩ := int_rows E h3
  refine ⟨v, l, h1, fun T => ints_any h2, fun ts ds j ht hd hs => ?_⟩
  rcases open_slice Tryz.underlying22 h with ⟨h4, _⟩ | ⟨a, len, cap, m, n, D, Pl, h4, _, _, _, _, rfl, _⟩
  · rw [h1] at h4
    cases h4
    have := ints_len h2
    omega
  · rw [h1] at h4
    cases h4
    have hn := ints_len h2
    have := sized_slice hs ht hd Tryz.underlying22
    rw [int_size, List.length_map, List.length_range] at this
    unfold reachBytes at this
    omega
end Go.Proofs.YtpcnblbjidiapaaGreat
