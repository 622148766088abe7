/-
  Regions that draw their order: every order, and a plan of the orders that matter.
  No conditions.
-/
import Derived.Test.YtmnhpggplblbgaaGreatEngU
import Derived.Orders
namespace Go.Eng
open Go
set_option linter.unusedSectionVars false
variable [Toks]
set_option linter.unusedSimpArgs false

/-- Under a guard. -/
def hgd (ops : Array Oper) (o : Oper) (fr : Fr) (A B : Prop) : Prop :=
  match o.guard with
  | none => A
  | some (j, want) => hguard want A B (guardVal ops fr j)
def hstep (P : Program) (pu : Pu) (ops : Array Oper) (i : Nat) (K : Fr → PL → Prop) (fr : Fr) (PS : PL) : Prop :=
  match ops[i]? with
  | none => K fr PS
  | some o => hgd ops o fr (hopD P pu o fr PS fun v PS' => K (hput fr o.dst v) PS') (K (hput fr o.dst (.cst undef)) PS)
abbrev Chk := Nat → Fr → PL → Prop
def hany (P : Program) (pu : Pu) (ops : Array Oper) (chk : Chk) (K : Fr → PL → Prop) : Nat → Array Bool → Fr → PL → Prop
  | 0, listed, fr, PS => Region.ready .any ops listed = [] ∧ K fr PS
  | n + 1, listed, fr, PS => (Region.ready .any ops listed = [] → K fr PS) ∧
      ∀ i ∈ Region.ready .any ops listed, hstep P pu ops i (fun fr PS => chk i fr PS ∧ hany P pu ops chk K n (listed.setIfInBounds i true) fr PS) fr PS
/-- A value is still what it was. -/
def hsame (o : Oper) (fr : Fr) (v : HV) : Prop :=
  match o.dst with
  | some d => v = get fr d
  | none => True
def hv1 (P : Program) (pu : Pu) (ops : Array Oper) (o : Oper) (fr : Fr) (PS : PL) (K : HV → Prop) : Prop := hgd ops o fr (hval1 P pu o fr PS K) (K (.cst undef))
def hre (P : Program) (pu : Pu) (ops : Array Oper) (i : Nat) (fr : Fr) (PS : PL) : Prop :=
  match ops[i]? with
  | none => True
  | some o => hv1 P pu ops o fr PS (hsame o fr)

section
variable {P : Program} {pu : Pu} {ops : Array Oper} {PS PS' : PL} {fr fr' : Fr} {o : Oper} {chk chk' : Chk} {K : Fr → PL → Prop}
theorem hgd_mono {A B A' B' : Prop} (ha : A → A') (hb : B → B') (h : hgd ops o fr A B) : hgd ops o fr A' B' := by
  unfold hgd at *
  split at h
  · exact ha h
  · rename_i j want _
    generalize guardVal ops fr j = u at *
    cases u with
    | bool b => exact ⟨fun e => ha (h.1 e), fun e => hb (h.2 e)⟩
    | cst v => cases v <;> first | exact h.elim | exact hb h
    | _ => exact h.elim
theorem hstep_mono {i : Nat} {K K' : Fr → PL → Prop} (hk : ∀ fr PS, K fr PS → K' fr PS) (h : hstep P pu ops i K fr PS) : hstep P pu ops i K' fr PS := by
  unfold hstep at *
  split at h
  · exact hk _ _ h
  · exact hgd_mono (hopD_mono fun v PS' _ => hk _ _) (hk _ _) h
theorem hany_chk (hc : ∀ j fr PS, chk j fr PS → chk' j fr PS) : ∀ (n : Nat) (listed : Array Bool) (fr : Fr) (PS : PL), hany P pu ops chk K n listed fr PS → hany P pu ops chk' K n listed fr PS
  | 0, _, _, _, h => h
  | n + 1, _, _, _, h => ⟨h.1, fun i hi => hstep_mono (fun fr PS hk => ⟨hc _ _ _ hk.1, hany_chk hc n _ fr PS hk.2⟩) (h.2 i hi)⟩
theorem hany_done {n : Nat} {listed : Array Bool} (hr : Region.ready .any ops listed = []) (h : K fr PS) : hany P pu ops chk K n listed fr PS := by
  cases n with
  | zero => exact ⟨hr, h⟩
  | succ n => exact ⟨fun _ => h, fun i hi => by rw [hr] at hi; cases hi⟩

theorem ev_looks {dst : Option Tmp} {v : HV} (h : ∀ d, dst = some d → d ∉ o.looksAt ops) : ∀ x ∈ o.op.operands, ev (hput fr dst v) x = ev fr x := fun x hx =>
  ev_put fun d hd hxd => h d hd (by
    subst hxd
    exact List.mem_append_left _ (List.mem_filterMap.2 ⟨.tmp d, by simpa using hx, rfl⟩))
theorem guard_looks {dst : Option Tmp} {v : HV} {j : Nat} {want : Bool} (hg : o.guard = some (j, want)) (h : ∀ d, dst = some d → d ∉ o.looksAt ops) : guardVal ops (hput fr dst v) j = guardVal ops fr j := by
  cases dst with
  | none => rfl
  | some d =>
    unfold guardVal
    cases ht : (ops[j]?).bind (·.dst) with
    | none => rfl
    | some t =>
      have hne : d ≠ t := fun e => h d rfl (by subst e; simp [Oper.looksAt, hg, ht])
      simp [get, hput, List.getD, List.getElem?_set_ne hne]
theorem hgd_put {dst : Option Tmp} {v : HV} {A B : Prop} (h : ∀ d, dst = some d → d ∉ o.looksAt ops) : hgd ops o (hput fr dst v) A B = hgd ops o fr A B := by
  unfold hgd
  split
  · rfl
  · rename_i j want hg; rw [guard_looks hg h]
theorem hopD_put {dst : Option Tmp} {v : HV} {K : HV → PL → Prop} (h : ∀ d, dst = some d → d ∉ o.looksAt ops) : hopD P pu o (hput fr dst v) PS K = hopD P pu o fr PS K := hopD_congr (ev_looks h)
theorem hval1_put {dst : Option Tmp} {v : HV} {K : HV → Prop} (hc : clsD pu o ≤ 2) (h : ∀ d, dst = some d → d ∉ o.looksAt ops) : hval1 P pu o (hput fr dst v) PS K = hval1 P pu o fr PS K := hval1_congr hc (ev_looks h)
theorem hv1_put {dst : Option Tmp} {v : HV} {K : HV → Prop} (hc : clsD pu o ≤ 2) (h : ∀ d, dst = some d → d ∉ o.looksAt ops) : hv1 P pu ops o (hput fr dst v) PS K = hv1 P pu ops o fr PS K := by
  unfold hv1; rw [hgd_put h, hval1_put hc h]
theorem hv1_mono {K K' : HV → Prop} (hk : ∀ v, K v → K' v) (h : hv1 P pu ops o fr PS K) : hv1 P pu ops o fr PS K' := hgd_mono (hval1_mono hk) (hk _) h
theorem hv1_kept {c : Nat} (hc : clsD pu o ≤ 2) (hcomp : compat (clsD pu o) c = true) (hk : Kept c PS PS') {K : HV → Prop} (h : hv1 P pu ops o fr PS K) : hv1 P pu ops o fr PS' K := hgd_mono (hval1_kept hc hcomp hk) id h
theorem hv1_wit {K : HV → Prop} (h : hv1 P pu ops o fr PS K) : ∃ z, hv1 P pu ops o fr PS (fun v => v = z) ∧ K z := by
  unfold hv1 hgd at *
  split at h
  · exact hval1_wit h
  · rename_i j want _
    generalize guardVal ops fr j = u at *
    cases u with
    | bool b =>
      by_cases hb : b = want
      · obtain ⟨z, h1, h2⟩ := hval1_wit (h.1 hb)
        exact ⟨z, ⟨fun _ => h1, fun hn => absurd hb hn⟩, h2⟩
      · exact ⟨.cst undef, ⟨fun hn => absurd hn hb, fun _ => rfl⟩, h.2 hb⟩
    | cst v => cases v <;> first | exact h.elim | exact ⟨.cst undef, rfl, h⟩
    | _ => exact h.elim

/-- What is listed waits for what is listed; but for X, which are listed from the beginning, and for which nothing else waits. -/
structure DownX (X : Nat → Bool) (ops : Array Oper) (listed : Array Bool) : Prop where
  sub : ∀ j, X j = true → listed.getD j true = true
  out : ∀ (j : Nat) (o : Oper), ops[j]? = some o → X j = false → ∀ e ∈ o.after, Region.binds .any e = true → X e.on = false
  dn : ∀ (j : Nat) (o : Oper), ops[j]? = some o → X j = false → listed.getD j false = true → ∀ e ∈ o.after, Region.binds .any e = true → listed.getD e.on false = true
/-- These wait for i, through others. -/
def Waits (ops : Array Oper) (i : Nat) (R : Nat → Bool) : Prop := ∀ (X : Nat → Bool) (listed : Array Bool), DownX X ops listed → ∀ (j : Nat) (o : Oper), ops[j]? = some o → X j = false → (∀ e ∈ o.after, Region.binds .any e = true → listed.getD e.on false = true) → R j = true → listed.getD i false = true
theorem DownX.set {X : Nat → Bool} {i : Nat} {listed : Array Bool} (hd : DownX X ops listed) (hi : i ∈ Region.ready .any ops listed) : DownX X ops (listed.setIfInBounds i true) := by
  refine ⟨fun j hj => ?_, hd.out, ?_⟩
  · by_cases hij : i = j
    · subst hij
      simp only [Array.getD_eq_getD_getElem?, Array.getElem?_setIfInBounds]
      by_cases h : i < listed.size <;> simp [h]
    · rw [getD_set_ne true hij]; exact hd.sub j hj
  intro j o ho hX hl e he hb
  by_cases hij : i = j
  · subst hij
    obtain ⟨_, o', ho', hall⟩ := mem_ready.1 hi
    rw [ho] at ho'; cases ho'
    exact getD_set_true (hall e he hb)
  · rw [getD_set_ne false hij] at hl
    exact getD_set_true (hd.dn j o ho hX hl e he hb)

theorem hput_idem (fr : Fr) (d : Option Tmp) (v u : HV) : hput (hput fr d v) d u = hput fr d u := by
  cases d with
  | none => rfl
  | some d => simp [hput]

/-- What only computes may be done first. -/
theorem hany_first {X : Nat → Bool} {i : Nat} {oi : Oper} {S : List Nat} {z : HV} {R : Nat → Bool} (hR : Waits ops i R) (hi : ops[i]? = some oi) (hc : clsD pu oi ≤ 2) (hinv : ∀ j fr PS v, chk j (hput fr oi.dst v) PS → chk j fr PS) (hchi : ∀ fr PS, chk i fr PS) (hself : ∀ j ∈ S, ∀ d, oi.dst = some d → d ∉ oi.looksAt ops) :
    ∀ (n : Nat) (listed : Array Bool) (fr : Fr) (PS : PL), DownX X ops listed →
      (∀ j oj, ops[j]? = some oj → j ≠ i → listed.getD j true = false → R j = true ∨ (oi.apart ops oj = true ∧ (compat (clsD pu oi) (clsD pu oj) = true ∨ j ∈ S))) →
      i ∈ Region.ready .any ops listed → hv1 P pu ops oi fr PS (fun v => hput fr oi.dst v = hput fr oi.dst z) →
      hany P pu ops (fun j fr PS => chk j fr PS ∧ (j ∈ S → hre P pu ops i fr PS)) K n (listed.setIfInBounds i true) (hput fr oi.dst z) PS → hany P pu ops chk K (n + 1) listed fr PS := by
  intro n
  induction n with
  | zero =>
    intro listed fr PS hd hap hr hv H
    refine ⟨fun h0 => (by rw [h0] at hr; cases hr), fun j hj => ?_⟩
    by_cases hji : j = i
    · subst hji
      unfold hstep
      simp only [hi]
      refine hgd_mono (fun hh => ?_) (fun hh => ?_) hv
      · exact hval1_hopD hc (hval1_mono (fun v hv => by rw [hv]; exact ⟨hchi _ _, H⟩) hh)
      · rw [hh]; exact ⟨hchi _ _, H⟩
    · have := ready_mono hj hji
      rw [H.1] at this; cases this
  | succ n ih =>
    intro listed fr PS hd hap hr hv H
    refine ⟨fun h0 => (by rw [h0] at hr; cases hr), fun j hj => ?_⟩
    by_cases hji : j = i
    · subst hji
      have H' := hany_chk (chk' := chk) (fun j fr PS h => h.1) _ _ _ _ H
      unfold hstep
      simp only [hi]
      refine hgd_mono (fun hh => ?_) (fun hh => ?_) hv
      · exact hval1_hopD hc (hval1_mono (fun v hv => by rw [hv]; exact ⟨hchi _ _, H'⟩) hh)
      · rw [hh]; exact ⟨hchi _ _, H'⟩
    · have Hj := H.2 j (ready_mono hj hji)
      obtain ⟨hl0, oj, hoj, hall⟩ := mem_ready.1 hj
      obtain ⟨hi0, _⟩ := mem_ready.1 hr
      have hlt : i < ops.size := (Array.getElem?_eq_some_iff.1 hi).1
      have hcond := hap j oj hoj hji hl0
      have hnr : ¬ R j = true := fun h => by
        have hXj : X j = false := by
          cases hx : X j with
          | false => rfl
          | true => have := hd.sub j hx; rw [hl0] at this; cases this
        have := hR X listed hd j oj hoj hXj hall h
        have hi0' : listed.getD i false = false := by
          simp only [Array.getD_eq_getD_getElem?] at hi0 ⊢
          cases hx : listed[i]? with
          | none => rfl
          | some b => rw [hx] at hi0; simpa using hi0
        rw [hi0'] at this; cases this
      obtain ⟨hapart, hcs⟩ := hcond.resolve_left hnr
      obtain ⟨h1, h2, h3⟩ := Oper.apart_spec hapart
      have h2' : ∀ d, oj.dst = some d → oi.dst ≠ some d := fun d hd hn => h2 d hn hd
      have step : ∀ (v : HV) (PS' : PL), Kept (clsD pu oj) PS PS' →
          ((chk j (hput (hput fr oi.dst z) oj.dst v) PS' ∧ (j ∈ S → hre P pu ops i (hput (hput fr oi.dst z) oj.dst v) PS')) ∧
            hany P pu ops (fun j fr PS => chk j fr PS ∧ (j ∈ S → hre P pu ops i fr PS)) K n ((listed.setIfInBounds i true).setIfInBounds j true) (hput (hput fr oi.dst z) oj.dst v) PS') →
          chk j (hput fr oj.dst v) PS' ∧ hany P pu ops chk K (n + 1) (listed.setIfInBounds j true) (hput fr oj.dst v) PS' := by
        rintro v PS' hkept ⟨⟨hk1, hk2⟩, hk3⟩
        rw [hput_comm fr z v h2] at hk1 hk2 hk3
        refine ⟨hinv _ _ _ _ hk1, ih _ _ _ (hd.set hj) ?_ (ready_mono hr (Ne.symm hji)) ?_ ?_⟩
        · intro k ok hk hki hkl
          refine hap k ok hk hki ?_
          by_cases hjk : j = k
          · subst hjk
            have hsz : j < listed.size := by
              rcases Nat.lt_or_ge j listed.size with h' | h'
              · exact h'
              · simp [Array.getElem?_eq_none h'] at hl0
            simp [hsz] at hkl
          · rwa [getD_set_ne true hjk] at hkl
        · rcases hcs with hcomp | hS
          · rw [hv1_put hc h3]
            refine hv1_kept hc hcomp hkept (hv1_mono (fun u hu => ?_) hv)
            rw [hput_comm fr v u h2', hu, hput_comm fr v z h2']
          · have hh := hk2 hS
            unfold hre at hh
            simp only [hi] at hh
            by_cases hin : ∃ d, oi.dst = some d ∧ d < fr.length
            · obtain ⟨d, hd', hdl⟩ := hin
              have hl1 : d < (hput fr oj.dst v).length := by cases oj.dst <;> simpa [hput] using hdl
              rw [hv1_put hc (hself j hS)] at hh
              refine hv1_mono (fun u hu => ?_) hh
              unfold hsame at hu
              rw [hd'] at hu ⊢
              simp only [hput] at hu ⊢
              have : get ((hput fr oj.dst v).set d z) d = z := by simp [get, List.getD, hl1]
              unfold hput at this
              rw [hu, this]
            · have hset : ∀ (f : Fr) u, f.length = fr.length → hput f oi.dst u = f := fun f u hf => by
                cases hdd : oi.dst with
                | none => rfl
                | some d =>
                  have : f.length ≤ d := by rw [hf]; exact Nat.le_of_not_lt fun h' => hin ⟨d, hdd, h'⟩
                  simp [hput, List.set_eq_of_length_le this]
              have hlen : (hput fr oj.dst v).length = fr.length := by cases oj.dst <;> simp [hput]
              rw [hset _ z hlen] at hh
              exact hv1_mono (fun u _ => by rw [hset _ u hlen, hset _ z hlen]) hh
        · rwa [Array.setIfInBounds_comm _ _ (Ne.symm hji)] at hk3
      unfold hstep at Hj ⊢
      simp only [hoj] at Hj ⊢
      rw [hgd_put h1, hopD_put h1] at Hj
      exact hgd_mono (hopD_mono fun v PS' hk => step v PS' hk) (step (.cst undef) PS ⟨fun _ => rfl, fun _ => .refl PS, fun _ => (Pre.refl PS).shp⟩) Hj
end
end Go.Eng
