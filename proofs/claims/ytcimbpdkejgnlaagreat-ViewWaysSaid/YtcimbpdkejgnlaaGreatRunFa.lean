/-
  Runs of functions with loops over functions, and of functions that call yield.
  No conditions.
-/
import Derived.Test.YtcimbpdkejgnlaaGreatRunF
import Derived.Test.YtcimbpdkejgnlaaGreatEngWd
namespace Go.Eng
open Go
set_option linter.unusedSectionVars false
variable [Toks]
set_option linter.unusedSimpArgs false

section
variable (P : Program) (ec : EC) (tbf : FuncId → Nat → List Row) (plf : FuncId → Nat → Plan) (fuel : Nat)
noncomputable def yEndP (n ver : Nat) (h : HX) (m : Mem) (q : Piece) : Option (List RM) :=
  match q with
  | .rnd ver' .busy none lf ps c1 c2 g => on (Nat.beq ver ver') (m.set n (.rnd ver (stOf (jumpOf h)) (jumpOf h) lf ps c1 c2 g) fun m => some [(.bool (jumpOf h).isNone, m)])
  | _ => none
noncomputable def yEnd (n ver : Nat) (x : RX) : Option (List RM) :=
  match x with
  | (h, _, m) => yEndP n ver h m (m.get n)
noncomputable def yBodyP (n ver : Nat) (c2 : Code) (g : Nat) (f : FT) (m : Mem) (q : Piece) : Option (List RM) :=
  match q with
  | .rnd ver' .ready none lf ps a b g' => on (Nat.beq ver ver') (m.set n (.rnd ver .busy none lf ps a b g') fun m2 => bndL (evalF P ec (plf g) m.n fuel c2 f m2) (yEnd n ver))
  | _ => none
noncomputable def yBody (n ver : Nat) (c2 : Code) (g : Nat) (x : RX) : Option (List RM) :=
  match x with
  | (.normal, f, m) => yBodyP P ec plf fuel n ver c2 g f m (m.get n)
  | _ => none
noncomputable def yOk (ver ver' : Nat) (xs : List HV) (ps : List Tmp) (c1 c2 : Code) (g : Nat) : Bool :=
  Nat.beq ver ver' && Nat.beq xs.length ps.length && plainC c1 && plainC c2 && plansOk [] (tbf g) (plf g) c1 && plansOk [] (tbf g) (plf g) c2
noncomputable def yRnd (n ver : Nat) (xs : List HV) (m : Mem) (q : Piece) : Option (List RM) :=
  match q with
  | .rnd ver' .ready none lf ps c1 c2 g => on (yOk tbf plf ver ver' xs ps c1 c2 g) (FT.of lf.length (putAll ps xs lf) fun f => bndL (evalF P ec (plf g) m.n fuel c1 f m) (yBody P ec plf fuel n ver c2 g))
  | _ => none
noncomputable def yOp (mk : Bool) (o : Oper) (g : Nat → HV) (m : Mem) : Option (List RM) :=
  match o.op with
  | .call ⟨.value f, args, _⟩ => (match eV g f with
    | .ref n ver => fLH (args.toList.map (eV g)) fun xs => yRnd P ec tbf plf fuel n ver xs m (m.get n)
    | _ => bif mk then eOpB P ec o g m else eOp P ec o g m)
  | _ => bif mk then eOpB P ec o g m else eOp P ec o g m
noncomputable def yOps (mk : Bool) (ops : Array Oper) {α : Type} : List Oper → FT → Mem → (FT → Mem → Option (List α)) → Option (List α)
  | [], f, m, K => K f m
  | o :: os, f, m, K => bnd (eDo ops o f) fun b => bif b then bndL (yOp P ec tbf plf fuel mk o f.get m) fun r => f.put o.dst r.1 fun f => yOps mk ops os f r.2 K else f.put o.dst (.cst undef) fun f => yOps mk ops os f m K
noncomputable def evalY (pl : Nat → Plan) (n0 : Nat) : Nat → Code → FT → Mem → Option (List RX)
  | 0, _, _, _ => none
  | _ + 1, .skip, f, m => some [(.normal, f, m)]
  | _ + 1, .region id ops draw, f, m => bif draw then bndL (bnd (drawF P ec ops (pl id) f m) fun l => some (eMrg n0 m.n l)) kPair else yOps P ec tbf plf fuel (isMk (pl id)) ops ops.toList f m kSkip
  | n + 1, .seq x y, f, m => bndL (evalY pl n0 n x f m) (kThen' (evalY pl n0 n y))
  | n + 1, .cond c x y, f, m => (match eV f.get c with | .bool true => evalY pl n0 n x f m | .bool false => evalY pl n0 n y f m | _ => none)
  | n + 1, .block id c, f, m => bndL (evalY pl n0 n c f m) (kOut id)
  | n + 1, .loop c, f, m => bndL (evalY pl n0 n c f m) (kThen' (evalY pl n0 n (.loop c)))
  | _ + 1, .exit id, f, m => some [(.exit id, f, m)]
  | _ + 1, .label _, f, m => some [(.normal, f, m)]
  | _ + 1, .goto l, f, m => some [(.goto l, f, m)]
  | _ + 1, .ret, f, m => some [(.ret, f, m)]
  | _ + 1, _, _, _ => none
noncomputable def sEndP (n : Nat) (f : FT) (m : Mem) (q : Piece) : Option (List RX) :=
  match q with
  | .rnd ver .ready none _ _ _ _ _ => on (Nat.beq ver 0) (m.set n .dead fun m => some [(.normal, f, m)])
  | .rnd ver .done (some .ret) _ _ _ _ _ => on (Nat.beq ver 0) (m.set n .dead fun m => some [(.ret, f, m)])
  | .rnd ver .done (some (.exit id)) _ _ _ _ _ => on (Nat.beq ver 0) (m.set n .dead fun m => some [(.exit id, f, m)])
  | _ => none
noncomputable def sEnd (n : Nat) (f : FT) (r : RM) : Option (List RX) :=
  match r with
  | (_, m) => sEndP n f m (m.get n)
noncomputable def evalS (pl : Nat → Plan) (gl : Nat) : Code → FT → Mem → Option (List RX)
  | .rangeFunc fo ps c1 c2, f, m => bnd (hfun (eV f.get fo)) fun q => fN q.1 fun q1 => on (callable P q1) (m.push (.rnd 0 .ready none f.fr ps.toList c1 c2 gl) fun m1 => fLH (q.2.1 ++ ([.ref m.n 0] ++ q.2.2)) fun l => bndL (ec q1 l m1) (sEnd m.n f))
  | .seq x y, f, m => bndL (evalS pl gl x f m) (kThen' (evalS pl gl y))
  | .cond c x y, f, m => (match eV f.get c with | .bool true => evalS pl gl x f m | .bool false => evalS pl gl y f m | _ => none)
  | .block id c, f, m => bndL (evalS pl gl c f m) (kOut id)
  | c, f, m => evalY P ec tbf plf fuel pl m.n fuel c f m
end
section
variable {P : Program} {ec : EC} {tbf : FuncId → Nat → List Row} {plf : FuncId → Nat → Plan} {fuel : Nat}
theorem yEnd_h {n ver : Nat} {L : List RM} {C : HV → PL → Prop} {h : HX} {f : FT} {m : Mem} (hx : yEnd n ver (h, f, m) = some L) (hk : ∀ r ∈ L, C r.1 r.2.pl) : hrndEnd n ver C h m.pl (getP m.pl n) := by
  rw [Mem.get_eq]
  simp only [yEnd] at hx
  generalize m.get n = q at hx
  unfold yEndP at hx
  split at hx
  · rw [on_some] at hx
    obtain ⟨h1, h2⟩ := hx
    obtain rfl := beq_eq'.1 h1
    obtain ⟨m', h3, h4⟩ := Mem.set_some h2
    cases h4
    refine ⟨rfl, ?_⟩
    rw [← h3]
    exact hk _ (List.mem_singleton.2 rfl)
  · cases hx
theorem yRnd_h (hec : ECOk P ec) {n ver : Nat} {xs : List HV} {m : Mem} {L : List RM} {C : HV → PL → Prop} (h : yRnd P ec tbf plf fuel n ver xs m (m.get n) = some L) (hk : ∀ r ∈ L, C r.1 r.2.pl) : hyield P [] (hop2 P) n ver xs m.pl C (getP m.pl n) := by
  rw [Mem.get_eq]
  generalize m.get n = q at h
  unfold yRnd at h
  split at h
  · rename_i ver' lf ps c1 c2 g
    rw [on_some] at h
    obtain ⟨h1, h2⟩ := h
    simp only [yOk, Bool.and_eq_true, beq_eq'] at h1
    obtain ⟨⟨⟨⟨⟨rfl, h3⟩, h4⟩, h5⟩, h6⟩, h7⟩ := h1
    obtain ⟨f, hf, h8⟩ := FT.of_some h2
    refine ⟨rfl, h3, h4, h5, tbf g, plf g, h6, h7, ?_⟩
    have hfr : f.fr = putAll ps xs lf := by
      rw [hf]
      unfold hframe
      have : (putAll ps xs lf).length = lf.length := by
        have : ∀ (l : List (Tmp × HV)) (fr : Fr), (l.foldl (fun fr p => fr.set p.1 p.2) fr).length = fr.length := by
          intro l
          induction l with
          | nil => intro fr; rfl
          | cons a l ih => intro fr; rw [List.foldl_cons, ih]; simp
        exact this _ _
      rw [this]; simp
    rw [← hfr, Mem.len]
    obtain ⟨L1, h9, h10⟩ := bndL_some h8
    rw [evalF_eq] at h9
    refine eval_h hec c1 _ _ _ _ h9 _ ?_
    rintro ⟨hx, f1, m1⟩ hr
    obtain ⟨L2, h11, h12⟩ := h10 _ hr
    cases hx <;> simp only [yBody] at h11 <;> try (cases h11; done)
    show hrndBody ver n _ m1.pl (getP m1.pl n)
    rw [Mem.get_eq]
    generalize m1.get n = q1 at h11
    unfold yBodyP at h11
    split at h11
    · rw [on_some] at h11
      obtain ⟨h13, h14⟩ := h11
      obtain rfl := beq_eq'.1 h13
      obtain ⟨m2, h15, h16⟩ := Mem.set_some h14
      refine ⟨rfl, ?_⟩
      rw [← h15, Mem.len]
      obtain ⟨L3, h17, h18⟩ := bndL_some h16
      rw [evalF_eq] at h17
      refine eval_h hec c2 _ _ _ _ h17 _ ?_
      rintro ⟨hx, f3, m3⟩ hr3
      obtain ⟨L4, h19, h20⟩ := h18 _ hr3
      exact yEnd_h h19 fun r hr => hk r (h12 r (h20 r hr))
    · cases h11
  · cases h
theorem yOp_h (hec : ECOk P ec) {mk : Bool} {o : Oper} {f : FT} {m : Mem} {L : List RM} {C : HV → PL → Prop} (h : yOp P ec tbf plf fuel mk o f.get m = some L) (hk : ∀ r ∈ L, C r.1 r.2.pl) : hopY P [] (hop2 P) o f.fr m.pl C := by
  have base : (bif mk then eOpB P ec o f.get m else eOp P ec o f.get m) = some L → hop2 P o f.fr m.pl C := by
    intro h
    cases mk
    · exact .inl (eOp_h hec h hk)
    · exact eOpB_h hec h hk
  unfold yOp at h
  unfold hopY
  split at h
  · rename_i fo args ts ho
    simp only [ho]
    unfold hcallY
    rw [eV_ev]
    split at h
    · rename_i n ver hv
      rw [hv]
      rw [fLH_eq] at h
      simp only [eV_map]
      exact yRnd_h hec h hk
    · rename_i hv
      have hb := base h
      cases hx : eV f.get fo with
      | ref n ver => exact absurd hx (hv n ver)
      | _ => exact hb
  · rename_i ho
    have hb := base h
    split
    · rename_i fo args ts ho2
      exact absurd ho2 (ho _ _ _)
    · exact hb
theorem yOps_h (hec : ECOk P ec) {mk : Bool} {ops : Array Oper} {α : Type} {C : Fr → PL → Prop} {K : FT → Mem → Option (List α)} : ∀ (l : List Oper) (f : FT) (m : Mem) (L : List α), yOps P ec tbf plf fuel mk ops l f m K = some L → (∀ f m L', K f m = some L' → (∀ x ∈ L', x ∈ L) → C f.fr m.pl) → hops (hopY P [] (hop2 P)) ops l C f.fr m.pl
  | [], f, m, L, h, hK => hK f m L h fun _ h => h
  | o :: os, f, m, L, h, hK => by
    simp only [yOps, bnd_some] at h
    obtain ⟨b, h1, h2⟩ := h
    have main : b = true → hopY P [] (hop2 P) o f.fr m.pl fun v PS' => hops (hopY P [] (hop2 P)) ops os C (hput f.fr o.dst v) PS' := by
      rintro rfl
      simp only [cond_true] at h2
      obtain ⟨R, h3, h4⟩ := bndL_some h2
      refine yOp_h hec h3 ?_
      rintro ⟨v, m'⟩ hr
      obtain ⟨L', h5, h6⟩ := h4 _ hr
      obtain ⟨f', h7, h8⟩ := FT.put_some h5
      rw [← h7]
      exact yOps_h hec os _ _ L' h8 fun f m L2 e hs => hK f m L2 e fun x hx => h6 x (hs x hx)
    have skip : b = false → hops (hopY P [] (hop2 P)) ops os C (hput f.fr o.dst (.cst undef)) m.pl := by
      rintro rfl
      simp only [cond_false] at h2
      obtain ⟨f', h5, h6⟩ := FT.put_some h2
      rw [← h5]
      exact yOps_h hec os _ _ L h6 hK
    unfold eDo at h1
    simp only [hops]
    split at h1 <;> rename_i hg <;> simp only [hg]
    · cases h1; exact main rfl
    · rw [gvE_eq]; exact eGuard_h h1 main skip
theorem kThen_h {r : SF} {Q : HX → Fr → PL → Prop} {Y : Fr → PL → Prop} {L : List RX} {x : RX} (h : kThen' r x = some L) (hy : ∀ f m L', r f m = some L' → (∀ z ∈ L', z ∈ L) → Y f.fr m.pl) (hq : ∀ z ∈ L, Q z.1 z.2.1.fr z.2.2.pl) : HX.then Y Q x.1 x.2.1.fr x.2.2.pl := by
  obtain ⟨hx, f, m⟩ := x
  cases hx
  · exact hy f m L h fun _ h => h
  all_goals (simp only [kThen', kThen] at h; cases h; exact hq _ (List.mem_singleton.2 rfl))
theorem kOut_h {id : Nat} {Q : HX → Fr → PL → Prop} {L : List RX} {x : RX} (h : kOut id x = some L) (hq : ∀ z ∈ L, Q z.1 z.2.1.fr z.2.2.pl) : HX.inBlock id Q x.1 x.2.1.fr x.2.2.pl := by
  obtain ⟨hx, f, m⟩ := x
  cases hx <;> simp only [kOut] at h
  case exit id' =>
    cases h
    have hq' := hq _ (List.mem_singleton.2 rfl)
    show (if id' = id then Q .normal f.fr m.pl else Q (.exit id') f.fr m.pl)
    cases hb : Nat.beq id' id
    · have : id' ≠ id := fun e => by rw [beq_eq'.2 e] at hb; cases hb
      rw [if_neg this]; rw [hb] at hq'; exact hq'
    · rw [if_pos (beq_eq'.1 hb)]; rw [hb] at hq'; exact hq'
  all_goals (cases h; exact hq _ (by simp))
theorem evalY_h (hec : ECOk P ec) {pl : Nat → Plan} {n0 : Nat} : ∀ (c : Code) (n : Nat) (f : FT) (m : Mem) (L : List RX), evalY P ec tbf plf fuel pl n0 n c f m = some L →
    ∀ Q : HX → Fr → PL → Prop, (∀ r ∈ L, Q r.1 r.2.1.fr r.2.2.pl) → hvc (hopY P [] (hop2 P)) (drawW n0 (drawBy P [] pl)) c Q f.fr m.pl := by
  intro c
  induction c with
  | skip => intro n f m L h Q hq; cases n <;> simp only [evalY] at h <;> cases h; exact hq (.normal, f, m) (by simp)
  | region id ops draw =>
    intro n f m L h Q hq
    cases n <;> simp only [evalY] at h
    · cases h
    · cases draw with
      | true =>
        simp only [cond_true] at h
        obtain ⟨r, h1, h2⟩ := bndL_some h
        rw [bnd_some] at h1
        obtain ⟨l, h1, h5⟩ := h1
        cases h5
        rw [drawF_eq] at h1
        refine eDraw_h (C := fun fr PS => ∃ fr' PS', SW n0 fr PS fr' PS' ∧ Q .normal fr' PS') hec _ _ _ _ h1 fun x hx => ?_
        obtain ⟨y, hy, hs⟩ := eMrg_h (n0 := n0) (n1 := m.n) l x hx
        obtain ⟨r', h3, h4⟩ := h2 y hy
        obtain ⟨yf, ym⟩ := y
        cases h3
        exact ⟨_, _, hs, hq (.normal, yf, ym) (h4 _ (List.mem_singleton.2 rfl))⟩
      | false =>
        simp only [cond_false] at h
        refine yOps_h (C := Q .normal) hec _ _ _ _ h fun f1 m1 L' hk hs => ?_
        cases hk; exact hq (.normal, f1, m1) (hs _ (List.mem_singleton.2 rfl))
  | seq x y ihx ihy =>
    intro n f m L h Q hq
    cases n <;> simp only [evalY] at h
    · cases h
    · obtain ⟨r, h1, h2⟩ := bndL_some h
      refine ihx _ _ _ _ h1 _ fun z hz => ?_
      obtain ⟨r', h3, h4⟩ := h2 _ hz
      exact kThen_h (Y := fun fr PS => hvc (hopY P [] (hop2 P)) (drawW n0 (drawBy P [] pl)) y Q fr PS) h3 (fun f1 m1 L' h5 h6 => ihy _ _ _ _ h5 Q fun r hr => hq r (h4 r (h6 r hr))) fun r hr => hq r (h4 r hr)
  | cond c x y ihx ihy =>
    intro n f m L h Q hq
    cases n <;> simp only [evalY] at h
    · cases h
    · simp only [hvc, eV_ev]
      split at h
      · rename_i hc; rw [hc]; exact ⟨fun _ => ihx _ _ _ _ h Q hq, fun e => (by cases e)⟩
      · rename_i hc; rw [hc]; exact ⟨fun e => (by cases e), fun _ => ihy _ _ _ _ h Q hq⟩
      · cases h
  | block id c ih =>
    intro n f m L h Q hq
    cases n <;> simp only [evalY] at h
    · cases h
    · obtain ⟨r, h1, h2⟩ := bndL_some h
      refine ih _ _ _ _ h1 _ fun z hz => ?_
      obtain ⟨r', h3, h4⟩ := h2 _ hz
      exact kOut_h h3 fun r hr => hq r (h4 r hr)
  | loop c ih =>
    intro n f m L h Q hq
    refine ⟨fun k fr PS => ∃ f1 m1 L1, fr = FT.fr f1 ∧ PS = Mem.pl m1 ∧ evalY P ec tbf plf fuel pl n0 k (.loop c) f1 m1 = some L1 ∧ ∀ r ∈ L1, Q r.1 r.2.1.fr r.2.2.pl, ⟨n, f.fr, m.pl, Weak.refl _ _, f, m, L, rfl, rfl, h, hq⟩, ?_⟩
    rintro k fr PS ⟨f1, m1, L1, rfl, rfl, hk, hq1⟩
    cases k <;> simp only [evalY] at hk
    · cases hk
    · rename_i k
      obtain ⟨r, h1, h2⟩ := bndL_some hk
      refine ih _ _ _ _ h1 _ fun z hz => ?_
      obtain ⟨r', h3, h4⟩ := h2 _ hz
      exact kThen_h (Y := fun fr1 PS1 => ∃ m fr2 PS2, m < k + 1 ∧ Weak fr1 PS1 fr2 PS2 ∧ _) h3 (fun f2 m2 L' h5 h6 => ⟨k, f2.fr, m2.pl, Nat.lt_succ_self _, Weak.refl _ _, f2, m2, L', rfl, rfl, h5, fun r hr => hq1 r (h4 r (h6 r hr))⟩) fun r hr => hq1 r (h4 r hr)
  | exit id => intro n f m L h Q hq; cases n <;> simp only [evalY] at h <;> cases h; exact hq (.exit id, f, m) (by simp)
  | scope c ih => intro n f m L h Q hq; cases n <;> simp only [evalY] at h <;> cases h
  | label l => intro n f m L h Q hq; cases n <;> simp only [evalY] at h <;> cases h; exact hq (.normal, f, m) (by simp)
  | goto l => intro n f m L h Q hq; cases n <;> simp only [evalY] at h <;> cases h; exact hq (.goto l, f, m) (by simp)
  | ret => intro n f m L h Q hq; cases n <;> simp only [evalY] at h <;> cases h; exact hq (.ret, f, m) (by simp)
  | rangeFunc f ps x y _ _ => intro n f m L h Q hq; cases n <;> simp only [evalY] at h <;> cases h
  | refuse s => intro n f m L h Q hq; cases n <;> simp only [evalY] at h <;> cases h
theorem evalS_h (hec : ECOk P ec) {pl : Nat → Plan} {gl : Nat} : ∀ (c : Code) (f : FT) (m : Mem) (L : List RX), evalS P ec tbf plf fuel pl gl c f m = some L →
    ∀ Q : HX → Fr → PL → Prop, (∀ r ∈ L, Q r.1 r.2.1.fr r.2.2.pl) → hvcF P gl (hopY P [] (hop2 P)) (drawBy P [] pl) c Q f.fr m.pl := by
  intro c
  induction c with
  | rangeFunc fo ps c1 c2 _ _ =>
    intro f m L h Q hq
    simp only [evalS, bnd_some] at h
    obtain ⟨⟨g, f1, k1⟩, h1, h2⟩ := h
    rw [fN_eq, on_some] at h2
    obtain ⟨h3, h4⟩ := h2
    obtain ⟨m1, h5, h6⟩ := Mem.push_some h4
    rw [fLH_eq] at h6
    obtain ⟨L1, h7, h8⟩ := bndL_some h6
    show hrf P gl f.fr m.pl ps c1 c2 Q (hfun (ev f.fr fo))
    rw [eV_ev, h1]
    refine ⟨h3, ?_⟩
    rw [← h5, Mem.len]
    refine (hec _ _ _ _ h7).mono ?_
    rintro v PS ⟨⟨v', m2⟩, hr, rfl, rfl⟩
    obtain ⟨L2, h9, h10⟩ := h8 _ hr
    show hrfEnd m.n f.fr Q m2.pl (getP m2.pl m.n)
    rw [Mem.get_eq]
    simp only [sEnd] at h9
    generalize m2.get m.n = q at h9
    unfold sEndP at h9
    split at h9 <;> first | (cases h9; done) | skip
    all_goals
      rw [on_some] at h9
      obtain ⟨h11, h12⟩ := h9
      obtain rfl := beq_eq'.1 h11
      obtain ⟨m3, h13, h14⟩ := Mem.set_some h12
      cases h14
      refine ⟨rfl, ?_⟩
      rw [← h13]
      exact hq _ (h10 _ (List.mem_singleton.2 rfl))
  | seq x y ihx ihy =>
    intro f m L h Q hq
    simp only [evalS] at h
    obtain ⟨r, h1, h2⟩ := bndL_some h
    refine ihx _ _ _ h1 _ fun z hz => ?_
    obtain ⟨r', h3, h4⟩ := h2 _ hz
    exact kThen_h (Y := fun fr PS => hvcF P gl (hopY P [] (hop2 P)) (drawBy P [] pl) y Q fr PS) h3 (fun f1 m1 L' h5 h6 => ihy _ _ _ h5 Q fun r hr => hq r (h4 r (h6 r hr))) fun r hr => hq r (h4 r hr)
  | cond c x y ihx ihy =>
    intro f m L h Q hq
    simp only [evalS] at h
    simp only [hvcF, eV_ev]
    split at h
    · rename_i hc; rw [hc]; exact ⟨fun _ => ihx _ _ _ h Q hq, fun e => (by cases e)⟩
    · rename_i hc; rw [hc]; exact ⟨fun e => (by cases e), fun _ => ihy _ _ _ h Q hq⟩
    · cases h
  | block id c ih =>
    intro f m L h Q hq
    simp only [evalS] at h
    obtain ⟨r, h1, h2⟩ := bndL_some h
    refine ih _ _ _ h1 _ fun z hz => ?_
    obtain ⟨r', h3, h4⟩ := h2 _ hz
    exact kOut_h h3 fun r hr => hq r (h4 r hr)
  | _ =>
    intro f m L h Q hq
    simp only [evalS] at h
    have := evalY_h hec _ _ _ _ _ h Q hq
    simp only [hvcF]
    rw [Mem.len]
    exact this
end
/-- Functions with loops over functions, or that call yield: told by a table. -/
noncomputable def sBody (P : Program) (ec : EC) (tbf : FuncId → Nat → List Row) (pl : FuncId → Nat → Plan) (fuel : Nat) (g : FuncId) (args : List HV) (m : Mem) (fn : Func) : Option (List RM) :=
  bnd fn.body fun c => on (plainF c) (FT.of fn.ntmps args fun f => bnd (bndL (evalS P ec tbf pl fuel (pl g) g c f m) (eEnd P fn.results.toList)) fun l => some (eUni m.n l))
noncomputable def sText (P : Program) (ec : EC) (cov : FuncId → Bool) (tbf : FuncId → Nat → List Row) (pl : FuncId → Nat → Plan) (fuel : Nat) (g : FuncId) (args : List HV) (m : Mem) : Option (List RM) :=
  on (cov g) (bnd P.funcs[g]? (sBody P ec tbf pl fuel g args m))
noncomputable def acallS (P : Program) (orc : EC) (cov rf : FuncId → Bool) (tbf : FuncId → Nat → List Row) (pl : FuncId → Nat → Plan) (fuel : Nat) (d : Nat) : EC :=
  Nat.rec (motive := fun _ => EC) (fun _ _ _ => none) (fun _ ec g args m => aOr (orc g args m) (bif rf g then sText P ec cov tbf pl fuel g args m else aText P ec cov pl fuel g args m)) d
section
variable {P : Program} {ec : EC} {cov : FuncId → Bool} {tbf : FuncId → Nat → List Row} {pl : FuncId → Nat → Plan} {fuel : Nat}
theorem eEnd_h {fn : Func} {C : HV → PL → Prop} {L1 : List RM} {x : RX} (h : eEnd P fn.results.toList x = some L1) (hk : ∀ r ∈ L1, C r.1 r.2.pl) : hret P fn.results.toList C x.1 x.2.1.fr x.2.2.pl := by
  obtain ⟨hx, f, m⟩ := x
  cases hx <;> simp only [eEnd] at h <;> try (cases h; done)
  all_goals
    rw [bnd_some] at h
    obtain ⟨l, h1, h2⟩ := h
    rw [fLH_eq] at h2
    cases h2
    exact eResl_h _ l _ h1 (eResv_h (hk _ (List.mem_singleton.2 rfl)))
theorem aText_h (hm : P.follows .mixedOrders = true) (hec : ECOk P ec) (hc : Covers P cov pl) {g : FuncId} {args : List HV} {m : Mem} {L : List RM} (h : aText P ec cov pl fuel g args m = some L) : HCall P g args m.pl fun v PS => ∃ r ∈ L, v = r.1 ∧ PS = r.2.pl := by
  unfold aText at h
  rw [on_some, bnd_some] at h
  obtain ⟨h1, fn, hfn, h2⟩ := h
  unfold aBody at h2
  rw [bnd_some] at h2
  obtain ⟨c, hb, h3⟩ := h2
  obtain ⟨f, hf, h4⟩ := FT.of_some h3
  rw [bnd_some] at h4
  obtain ⟨l, h5, h6⟩ := h4
  cases h6
  refine eUni_h ?_
  obtain ⟨L1, h7, h8⟩ := bndL_some h5
  obtain ⟨tb, hp⟩ := hc g fn c h1 hfn hb
  refine hcall_of_plansB tb (pl g) [] hm hfn hb hp ?_
  rw [← hf, Mem.len]
  rw [kText_eq] at h7
  refine eText_h hec c _ _ _ _ h7 _ fun x hx => ?_
  obtain ⟨L2, h9, h10⟩ := h8 x hx
  exact eEnd_h h9 fun r hr => ⟨r, h10 r hr, rfl, rfl⟩
theorem sText_h (hm : P.follows .mixedOrders = true) (hec : ECOk P ec) (hc : Covers P cov pl) {g : FuncId} {args : List HV} {m : Mem} {L : List RM} (h : sText P ec cov tbf pl fuel g args m = some L) : HCall P g args m.pl fun v PS => ∃ r ∈ L, v = r.1 ∧ PS = r.2.pl := by
  unfold sText at h
  rw [on_some, bnd_some] at h
  obtain ⟨h1, fn, hfn, h2⟩ := h
  unfold sBody at h2
  rw [bnd_some] at h2
  obtain ⟨c, hb, h3⟩ := h2
  rw [on_some] at h3
  obtain ⟨hpf, h3⟩ := h3
  obtain ⟨f, hf, h4⟩ := FT.of_some h3
  rw [bnd_some] at h4
  obtain ⟨l, h5, h6⟩ := h4
  cases h6
  refine eUni_h ?_
  obtain ⟨L1, h7, h8⟩ := bndL_some h5
  obtain ⟨tb, hp⟩ := hc g fn c h1 hfn hb
  refine hcall_of_plansF (gl := g) hop2_sound tb (pl g) [] hm hfn hb hpf hp ?_
  rw [← hf]
  refine evalS_h hec c _ _ _ h7 _ fun x hx => ?_
  obtain ⟨L2, h9, h10⟩ := h8 x hx
  exact eEnd_h h9 fun r hr => ⟨r, h10 r hr, rfl, rfl⟩
theorem acallS_h {orc : EC} {rf : FuncId → Bool} (hm : P.follows .mixedOrders = true) (ho : ECOk P orc) (hc : Covers P cov pl) : ∀ d, ECOk P (acallS P orc cov rf tbf pl fuel d) := by
  intro d
  induction d with
  | zero => intro g args m L h; cases h
  | succ d ih =>
    intro g args m L h
    have h : aOr (orc g args m) (bif rf g then sText P (acallS P orc cov rf tbf pl fuel d) cov tbf pl fuel g args m else aText P (acallS P orc cov rf tbf pl fuel d) cov pl fuel g args m) = some L := h
    unfold aOr at h
    split at h
    · rename_i r hr
      cases h
      exact ho _ _ _ _ hr
    · cases hr : rf g
      · rw [hr] at h; exact aText_h hm ih hc h
      · rw [hr] at h; exact sText_h hm ih hc h
end
end Go.Eng
