/-
  All operations as one abstract meaning; it holds of the model; a function's contract from its text.
  No conditions.
-/
import Derived.Test.YtmnhpggplblbgaaGreatEngMa
namespace Go.Eng
open Go
set_option linter.unusedSectionVars false
variable [Toks]
set_option linter.unusedSimpArgs false

def hconvert (P : Program) (PS : PL) (s d : TypeId) (x : HV) (K : HV → Prop) : Prop :=
  match x with
  | .str l => (match P.underlying d with
    | some (.slice _) => hstrb P s d l K
    | _ => hconv P PS s d (.str l) K)
  | x => hconv P PS s d x K
def hmki (P : Program) (t : TypeId) (x : HV) (K : HV → Prop) : Prop :=
  match P.underlying t with
  | some (.interface _) => False
  | some _ => K (.iface t x)
  | none => False
def isNilSl : Operand → Bool
  | .const (.slice none 0 0) => true
  | _ => false
/-- A slice against nil: where it is empty, either. -/
def hslnil (P : Program) (PS : PL) (op : BinOp) (t : TypeId) (x : HV) (K : HV → Prop) : Prop :=
  (∃ e, P.underlying t = some (.slice e)) ∧ (match x with
    | .imm _ E => (E = [] → hbt op true K ∧ hbt op false K) ∧ (E ≠ [] → hbt op false K)
    | .sl n ver _ len _ => hver (getP PS n) ver ∧ (len = 0 → hbt op true K ∧ hbt op false K) ∧ (len ≠ 0 → hbt op false K)
    | _ => False)
def hbinO (P : Program) (PS : PL) (op : BinOp) (t : TypeId) (x : HV) (yo : Operand) (y : HV) (K : HV → Prop) : Prop :=
  if isNilSl yo then hslnil P PS op t x K else hbin P PS op t x y K
def hbuiltin (P : Program) (b : Builtin) (ts : List TypeId) (xs : List HV) (PS : PL) (K : HV → PL → Prop) : Prop :=
  match b, ts, xs with
  | .len, [t], [x] => hlen P PS t x (fun v => K v PS)
  | .append, [t, t2], [x, y] => happ P PS t t2 x y K
  | .copy, [t, _], [x, y] => hcopy P PS t x y K
  | .clear, [t], [x] => hclear P PS t x K
  | .delete, t :: _, [m, x] => hmapdel PS m x K (mapZ P t)
  | .min, _, xs => hminmax false (fun v => K v PS) xs
  | .max, _, xs => hminmax true (fun v => K v PS) xs
  | _, _, _ => False
/-- What an interface holds, where it is of a type (no interface). -/
def hassV (P : Program) (t : TypeId) (ok : Bool) (K : HV → Prop) : HV → Prop
  | .iface t' y => if t' = t then K (if ok then .tup [y, .bool true] else y) else ok = true ∧ (match (P.info? t).bind (·.zero) with | some z => K (.tup [zv z, .bool false]) | none => False)
  | _ => False
def hassert (P : Program) (t : TypeId) (x : HV) (ok : Bool) (K : HV → Prop) : Option TypeDesc → Prop
  | none => False
  | some (.interface _) => False
  | some _ => hassV P t ok K x
/-- A method of a value in an interface: its function, that takes the value itself. -/
def hmeth (P : Program) (t : TypeId) (nm : String) : Option FuncId :=
  match P.info? t with
  | some i => (match i.methods.find? (·.name == nm) with
    | some m => if m.path.isEmpty then (match m.func, P.underlying t with
      | some (_, true), some (.pointer _) => m.func.map (·.1)
      | some (_, true), _ => none
      | some (_, false), some (.pointer _) => none
      | some (f, false), some _ => some f
      | _, _ => none) else none
    | none => none)
  | none => none
def hinvoke (P : Program) (nm : String) (x : HV) (args : List HV) (PS : PL) (K : HV → PL → Prop) : Prop :=
  match x with
  | .iface t y => (match hmeth P t nm with
    | some g => callable P g = true ∧ HCall P g (y :: args) PS K
    | none => False)
  | _ => False
def hop (P : Program) : HOp := fun o fr PS K =>
  match o.op with
  | .move x => K (ev fr x) PS
  | .assign x => K (ev fr x) PS
  | .pick c x y => hpick (ev fr c) (ev fr x) (ev fr y) (fun v => K v PS)
  | .load t x => hload PS (ev fr x) (fun v => K v PS) (tsz P t)
  | .nilCheck x => hnil PS (ev fr x) (fun v => K v PS)
  | .binOp op t x y _ => hbinO P PS op t (ev fr x) y (ev fr y) (fun v => K v PS)
  | .unOp op _ x => hun op (ev fr x) (fun v => K v PS)
  | .convert s d x => hconvert P PS s d (ev fr x) (fun v => K v PS)
  | .fieldAddr s x f => hfield PS (ev fr x) (fun v => K v PS) (fldOf P s f)
  | .field t x f => hfieldv P t (ev fr x) f (fun v => K v PS)
  | .indexAddr t x i => hindexAddr P PS t (ev fr x) (ev fr i) (fun v => K v PS)
  | .index t x i => hindex P t (ev fr x) (ev fr i) (fun v => K v PS)
  | .extract x i => hext (ev fr x) i (fun v => K v PS)
  | .slice t x l h m => hslice P PS t (ev fr x) (l.map (ev fr)) (h.map (ev fr)) (m.map (ev fr)) (fun v => K v PS)
  | .build t ps => hbuild P t (ps.toList.map fun p => (p.1, ev fr p.2)) (fun v => K v PS)
  | .buildSlice t n ps => hbsl n (ps.toList.map fun p => (p.1, ev fr p.2)) (fun v => K v PS) (mkOf P t)
  | .makeInterface t x => hmki P t (ev fr x) (fun v => K v PS)
  | .makeFunc fn f c => K (.func fn (f.toList.map (ev fr)) (c.toList.map (ev fr))) PS
  | .alloc t => halloc P t PS K
  | .box _ x => hbox (ev fr x) PS K
  | .store t x y => hstore PS (ev fr x) (ev fr y) (fun PS' => K .junk PS') (tsz P t)
  | .makeSlice t l c => hmake PS (ev fr l) (ev fr c) K (mkOf P t)
  | .makeMap t none => hmkmap PS K (mapK P t)
  | .lookup t m x ok => hlookup PS (ev fr m) (ev fr x) ok (fun v => K v PS) (mapZ P t)
  | .mapUpdate t m x y => hmapset PS (ev fr m) (ev fr x) (ev fr y) (fun PS' => K .junk PS') (mapZ P t)
  | .range t m => hrange PS (ev fr m) K (mapZ P t)
  | .next it false => hnext PS (ev fr it) K
  | .entry it => hentry PS (ev fr it) (fun v => K v PS)
  | .call ⟨.builtin b, args, ts⟩ => hbuiltin P b ts.toList (args.toList.map (ev fr)) PS K
  | .call ⟨.value f, args, _⟩ => hcallv P (args.toList.map (ev fr)) PS K (hfun (ev fr f))
  | .call ⟨.invoke r nm, args, _⟩ => hinvoke P nm (ev fr r) (args.toList.map (ev fr)) PS K
  | .typeAssert x _ t ok => hassert P t (ev fr x) ok (fun v => K v PS) (P.underlying t)
  | _ => False

section
variable {P : Program} {F : Nat → Prop} {e e0 : List Pos} {D D0 : Nat → Nat → Prop} {PS PS' : PL} {w w0 w' : World} {fr : Fr} {a : Act} {o : Oper} {K : HV → PL → Prop} {Q : Exit → Act → World → Prop} {M : Nat → Prop}

theorem hclear_sound {t ty : TypeId} {x : HV} {u : Value} (hr : Rel F e D PS w) (hx : VRel (Mut F D) e w x u) (hc : hclear P PS t x K) :
    ∃ z r PS' e' D' w', (Builtin.clear_ #[t] ty #[u]).run P w = .ok r w' ∧ Rel F e' D' PS' w' ∧ Tr e D w e' D' w' ∧ VRel (Mut F D') e' w' z r ∧ K z PS' := by
  unfold hclear at hc
  cases hm : mkOf P t with
  | none => rw [hm] at hc; exact hc.elim
  | some q =>
    obtain ⟨s, b, z⟩ := q
    rw [hm] at hc
    obtain ⟨el, ti, zv, hu, hi, hz, rfl, rfl, hzs, hs0, rfl, h1⟩ := mkOf_some hm
    obtain ⟨ad, c, PS', e', w', rfl, hst, hnone, hrel, htr, hK⟩ := hput2_sound hr hx (vs := fun len => (madeCells zv.cells (len * ti.size)).toList) (fun len => made_rows zv.cells hzs hs0 h1 len) (fun len => by simp) hc
    refine ⟨_, .tuple #[], PS', e', D, w', ?_, hrel, htr, .tup [] #[] rfl (by simp), hK⟩
    cases ad with
    | none =>
      obtain ⟨rfl, h0⟩ := hnone rfl
      simp [Builtin.clear_, run_underlying hu]
    | some a =>
      have hst' := hst P a rfl
      cases hl : hsllen x with
      | zero =>
        rw [hl] at hst'
        have : (madeCells zv.cells (0 * ti.size)).toList = [] := List.eq_nil_of_length_eq_zero (by simp [size_madeCells])
        rw [this, storeCells_nil] at hst'
        injection hst' with _ hw
        subst hw
        simp [Builtin.clear_, run_underlying hu]
      | succ n =>
        rw [hl] at hst'
        have hzr : (zeroValue el).run P w = .ok zv w := by simp [zeroValue, typeInfo, hi, hz]
        have hzc : Builtin.zeroCells zv.cells (n + 1) = madeCells zv.cells ((n + 1) * ti.size) := by rw [← hzs]; rfl
        simp [Builtin.clear_, run_underlying hu, hzr, hzc, hst']

theorem hstrb_sound {s d : TypeId} {l : List UInt8} {K : HV → Prop} (hr : Rel F e D PS w) (hc : hstrb P s d l K) :
    ∃ z r w', (convert s d (.string ⟨l.toArray⟩)).run P w = .ok r w' ∧ Rel F e D PS w' ∧ Tr e D w e D w' ∧ VRel (Mut F D) e w' z r ∧ K z := by
  unfold hstrb at hc
  split at hc
  · rename_i el hd
    obtain ⟨hu, he, hle, hK⟩ := hc
    have hrun := Lib.run_convert_string_bytes w s d el ⟨l.toArray⟩ hu hd he
    have hsz : (⟨l.toArray⟩ : ByteArray).size = l.length := by simp [ByteArray.size]
    have htr : Tr e D w e D (Lib.bytesWorld w el ⟨l.toArray⟩) := ⟨rfl, rfl, rfl, by rw [Lib.bytesWorld_size]; omega, fun b hb _ => Lib.bytesWorld_at_old w el _ b hb, fun i b h => .inl ⟨i, h⟩, .refl e⟩
    have hrel : Rel F e D PS (Lib.bytesWorld w el ⟨l.toArray⟩) :=
      hr.next htr hr.len (fun i b hb => ⟨(hr.out i b hb).1, by rw [Lib.bytesWorld_size]; have := (hr.out i b hb).2.1; omega, (hr.out i b hb).2.2⟩) hr.apart (fun i q p hq hp => .inl ⟨hq, hp, fun _ => Iff.rfl, fun b hb => Lib.bytesWorld_at_old w el _ b (hr.out i b hb).2.1⟩)
    have hnm : ¬ Mut F D w.heap.size := by
      rintro (hx | ⟨j, hx⟩)
      · exact Nat.lt_irrefl _ (hr.fore _ hx)
      · exact Nat.lt_irrefl _ (hr.out j _ hx).2.1
    have hrows : RowsIn (Mut F D) e (Lib.bytesWorld w el ⟨l.toArray⟩) 1 (bytesRows l) (l.map fun b => Value.int .u8 b.toNat) :=
      ⟨by simp [bytesRows], by simp [bytesRows], by simp [Value.oneCell'], fun i r k y hi hk => by
        simp only [bytesRows, List.getElem?_map] at hi
        cases hb : l[i]? with
        | none => rw [hb] at hi; cases hi
        | some b =>
          rw [hb] at hi; cases hi
          cases k with
          | zero => simp at hk; subst hk; exact ⟨.int .u8 b.toNat, by simp [hb], .int _ _⟩
          | succ k => simp at hk⟩
    have hnew := Lib.bytesWorld_at_new w el ⟨l.toArray⟩
    have hcs : Lib.bytesCells w el ⟨l.toArray⟩ = ((l.map fun b => Value.int .u8 b.toNat) ++ List.replicate (grownCap w l.length 0 el - l.length) (Value.int .u8 0)).toArray := by
      apply Array.ext'
      simp [Lib.bytesCells, hsz]
    rw [hcs] at hnew
    have hge := grownCap_ge w l.length 0 el
    have hgm := grownCap_le_maxLen w l.length 0 el (by simp [maxLen]; omega)
    have hv := imm_of_rows (b := w.heap.size) (c := grownCap w l.length 0 el) hrows hnew hnm false (by simpa [bytesRows] using hge) hgm (by simp)
    rw [hsz] at hrun
    have hbl : (bytesRows l).length = l.length := by simp [bytesRows]
    rw [hbl] at hv
    exact ⟨_, _, _, hrun, hrel, htr, hv, hK⟩
  · exact hc.elim

theorem opt_rel (hf : FRel (Mut F D) e w fr a.tmps) (x : Option Operand) : (∀ y v, x.map (ev fr) = some y → x.map a.eval = some v → VRel (Mut F D) e w y v) ∧ (x.map (ev fr)).isSome = (x.map a.eval).isSome := by
  cases x with
  | none => exact ⟨by simp, rfl⟩
  | some x => exact ⟨by simp; exact ev_rel hf x, rfl⟩

theorem args_rel (hf : FRel (Mut F D) e w fr a.tmps) (xs : Array Operand) : FRel (Mut F D) e w (xs.toList.map (ev fr)) (xs.map a.eval) := by
  refine ⟨by simp, fun i y v hy hv => ?_⟩
  rw [List.getElem?_map] at hy
  rw [Array.getElem?_map] at hv
  have he : xs.toList[i]? = xs[i]? := by simp
  rw [he] at hy
  cases hx : xs[i]? with
  | none => rw [hx] at hy; cases hy
  | some x => rw [hx] at hy hv; cases hy; cases hv; exact ev_rel hf x
theorem FRel.append {f g : Fr} {t u : Array Value} (h : FRel M e w f t) (k : FRel M e w g u) : FRel M e w (f ++ g) (t ++ u) := by
  refine ⟨by simp [h.1, k.1], fun i x v hi hv => ?_⟩
  by_cases hl : i < f.length
  · rw [List.getElem?_append_left hl] at hi
    rw [Array.getElem?_append_left (by rw [← h.1]; exact hl)] at hv
    exact h.2 i x v hi hv
  · rw [List.getElem?_append_right (by omega)] at hi
    rw [Array.getElem?_append_right (by rw [← h.1]; omega), ← h.1] at hv
    exact k.2 _ x v hi hv

theorem callable_run {g : FuncId} (h : callable P g = true) (args : Array Value) (w : World) : (callFunc g args).run P w = .ok (.enter g args) w := by
  unfold callable at h
  cases hg : P.funcs[g]? with
  | none => rw [hg] at h; cases h
  | some fn =>
    rw [hg] at h
    simp only [Bool.and_eq_true, bne_iff_ne, ne_eq] at h
    have hb : fn.body.isNone = false := by cases hb : fn.body <;> simp_all
    simp [callFunc, hg, h.1, hb]
    intro hn; rw [hn] at h; simp at h

theorem hfun_sound {x : HV} {u : Value} {g : FuncId} {f c : List HV} (hx : VRel M e w x u) (h : hfun x = some (g, f, c)) : ∃ fs cs, u = .func (.func g) fs cs ∧ FRel M e w f fs ∧ FRel M e w c cs := by
  unfold hfun at h
  split at h
  · cases h; cases hx; exact ⟨_, _, rfl, ⟨rfl, by simp⟩, ⟨rfl, by simp⟩⟩
  · cases h
    cases hx with
    | func fn f c fs cs h1 h2 h3 h4 => exact ⟨fs, cs, rfl, ⟨h1.symm, h3⟩, ⟨h2.symm, h4⟩⟩
  · cases h

theorem map_one {α β : Type} {f : α → β} {l : List α} {x : β} (h : l.map f = [x]) : ∃ y, l = [y] ∧ f y = x := by
  match l, h with
  | [y], h => exact ⟨y, rfl, by simpa using h⟩
theorem map_two {α β : Type} {f : α → β} {l : List α} {x y : β} (h : l.map f = [x, y]) : ∃ x' y', l = [x', y'] ∧ f x' = x ∧ f y' = y := by
  match l, h with
  | [x', y'], h => exact ⟨x', y', rfl, by simp at h; exact h.1, by simp at h; exact h.2⟩
theorem hslnil_sound (hr : Rel F e D PS w) {op : BinOp} {t : TypeId} {x : HV} {u : Value} {K : HV → Prop} (px py : Operand) (hx : VRel (Mut F D) e w x u) (hc : hslnil P PS op t x K) :
    ∃ z r, (do eqGuard op t px py u (.slice none 0 0); binOp op t u (.slice none 0 0) : Sem Value).run P w = .ok r w ∧ VRel (Mut F D) e w z r ∧ K z := by
  obtain ⟨⟨el, hu⟩, hc⟩ := hc
  have nn : ∀ (l c : Nat), hbt op true K → ∃ z r, (do eqGuard op t px py (.slice none l c) (.slice none 0 0); binOp op t (.slice none l c) (.slice none 0 0) : Sem Value).run P w = .ok r w ∧ VRel (Mut F D) e w z r ∧ K z := by
    intro l c h
    have he : ∀ d, (Op.equalIn (d + 1) t (.slice none l c) (.slice none 0 0)).run P w = .ok true w := by
      intro d; simp only [Op.equalIn, Sem.run_bind, run_underlying hu, Result.andThen_ok]; rfl
    exact hbt_sound px py (eqGuard_plain (by simp) (by simp)) (by simp [binOp, Op.equal, Op.maxDepth, he 9999]) (by simp [binOp, Op.equal, Op.maxDepth, he 9999]) h
  have ss : ∀ (a : Addr) (l c : Nat), hbt op false K → ∃ z r, (do eqGuard op t px py (.slice (some a) l c) (.slice none 0 0); binOp op t (.slice (some a) l c) (.slice none 0 0) : Sem Value).run P w = .ok r w ∧ VRel (Mut F D) e w z r ∧ K z := by
    intro a l c h
    have he : ∀ d, (Op.equalIn (d + 1) t (.slice (some a) l c) (.slice none 0 0)).run P w = .ok false w := by
      intro d; simp only [Op.equalIn, Sem.run_bind, run_underlying hu, Result.andThen_ok]; rfl
    exact hbt_sound px py (eqGuard_plain (by simp) (by simp)) (by simp [binOp, Op.equal, Op.maxDepth, he 9999]) (by simp [binOp, Op.equal, Op.maxDepth, he 9999]) h
  have main : ∀ (a : Option Addr) (l c : Nat), l ≤ c → (a = none → c = 0) → (l = 0 → hbt op true K ∧ hbt op false K) → (l ≠ 0 → hbt op false K) →
      ∃ z r, (do eqGuard op t px py (.slice a l c) (.slice none 0 0); binOp op t (.slice a l c) (.slice none 0 0) : Sem Value).run P w = .ok r w ∧ VRel (Mut F D) e w z r ∧ K z := by
    intro a l c hlc hn h0 h1
    by_cases hl : l = 0
    · cases a with
      | none => exact nn l c (h0 hl).1
      | some a => exact ss a l c (h0 hl).2
    · cases a with
      | none => have := hn rfl; omega
      | some a => exact ss a l c (h1 hl)
  split at hc
  · rename_i tt E
    cases hx with
    | imm _ _ a c b o sz val hcc hm ht hn ha hb hsz h1c hcell hval =>
      exact main a _ c hcc hn (fun h => hc.1 (List.eq_nil_of_length_eq_zero h)) (fun h => hc.2 (by rintro rfl; exact h rfl))
  · rename_i n ver i len cp
    obtain ⟨hv, h0, h1⟩ := hc
    obtain ⟨a, c, rfl, hlc, hn⟩ := sl_nil hr hx hv
    exact main a len c hlc hn h0 h1
  · exact hc.elim
theorem hassert_sound {xt t : TypeId} {x : HV} {u : Value} {ok : Bool} {K : HV → Prop} (hx : VRel M e w x u) (hc : hassert P t x ok K (P.underlying t)) :
    ∃ z r, (Instr.typeAssert u xt t ok).run P w = .ok r w ∧ VRel M e w z r ∧ K z := by
  cases hu : P.underlying t with
  | none => rw [hu] at hc; exact hc.elim
  | some d =>
    rw [hu] at hc
    have hni : ∀ q, d ≠ .interface q := by rintro q rfl; exact hc.elim
    have hc' : hassV P t ok K x := by
      cases d <;> first | exact hc.elim | exact hc
    clear hc
    unfold hassV at hc'
    split at hc'
    · rename_i t' y
      cases hx with
      | iface _ _ v hv =>
        by_cases ht : t' = t
        · rw [if_pos ht] at hc'
          have hrun : (Instr.typeAssert (.iface t' v) xt t ok).run P w = .ok (if ok then .tuple #[v, .bool true] else v) w := by
            unfold Instr.typeAssert
            simp only [Sem.run_bind, run_underlying hu, Result.andThen_ok]
            cases d <;> first | exact absurd rfl (hni _) | (simp only [if_pos ht, Sem.run_pure])
          cases ok
          · exact ⟨y, v, hrun, hv, hc'⟩
          · refine ⟨.tup [y, .bool true], .tuple #[v, .bool true], hrun, .tup _ _ rfl ?_, hc'⟩
            intro i a b ha hb
            rcases i with _ | _ | i
            · simp at ha hb; subst ha; subst hb; exact hv
            · simp at ha hb; subst ha; subst hb; exact .bool _
            · simp at ha
        · rw [if_neg ht] at hc'
          obtain ⟨rfl, hc'⟩ := hc'
          split at hc'
          · rename_i z hz
            obtain ⟨ti, hi, hz'⟩ := Option.bind_eq_some_iff.1 hz
            have hzr : (zeroValue t).run P w = .ok z w := by simp [zeroValue, typeInfo, hi, hz']
            have hrun : (Instr.typeAssert (.iface t' v) xt t true).run P w = .ok (.tuple #[z, .bool false]) w := by
              unfold Instr.typeAssert
              simp only [Sem.run_bind, run_underlying hu, Result.andThen_ok]
              cases d <;> first | exact absurd rfl (hni _) | (simp only [if_neg ht, if_true, Sem.run_bind, hzr, Result.andThen_ok, Sem.run_pure])
            refine ⟨.tup [zv z, .bool false], .tuple #[z, .bool false], hrun, .tup _ _ rfl ?_, hc'⟩
            intro i a b ha hb
            rcases i with _ | _ | i
            · simp at ha hb; subst ha; subst hb; exact zv_rel M e w z
            · simp at ha hb; subst ha; subst hb; exact .bool _
            · simp at ha
          · exact hc'.elim
    · exact hc'.elim
theorem hmeth_run {t : TypeId} {nm : String} {g : FuncId} (h : hmeth P t nm = some g) (v : Value) (w : World) (n : Nat) : (method (n + 1) t v nm).run P w = .ok (g, v) w := by
  unfold hmeth at h
  split at h
  · rename_i i hi
    split at h
    · rename_i m hm
      split at h
      · rename_i hp
        have hpn : m.path.toList = [] := by simpa using hp
        have ht : (typeInfo t).run P w = .ok i w := by simp [typeInfo, hi]
        unfold method
        simp only [Sem.run_bind, ht, Result.andThen_ok, hm, hpn, follow, Sem.run_pure]
        cases hf : m.func with
        | none => rw [hf] at h; cases h
        | some q =>
          obtain ⟨f, b⟩ := q
          rw [hf] at h
          cases hu : P.underlying t with
          | none => rw [hu] at h; cases b <;> cases h
          | some d =>
            rw [hu] at h
            cases b <;> cases d <;> simp only [Option.map_some, Option.some.injEq, reduceCtorEq] at h <;> subst h <;> simp [receiverAt, run_underlying hu, Place.get]
      · cases h
    · cases h
  · cases h
theorem hop_sound : OpSound P (hop P) := by
  intro o fr PS K F e0 D0 w0 a w Q hc hst
  have hst0 := hst
  obtain ⟨hd, e, D, hr, hf, ht⟩ := hst
  obtain ⟨dst, op, ty, pos, after, guard⟩ := o
  have val : ∀ {y : HV} {v : Value}, (execOp a.eval ⟨dst, op, ty, pos, after, guard⟩).run P w = .ok (.value v) w → VRel (Mut F D) e w y v → K y PS →
      (⟨dst, op, ty, pos, after, guard⟩ : Oper).wp P a w (fun a' w' => ∃ v PS', K v PS' ∧ St F e0 D0 w0 (hput fr dst v) PS' a' w') Q :=
    fun h1 h2 h3 => wp_of_value hd hf ht h1 hr (.refl _ _ _) h2 h3
  cases op with
  | move x => exact val (by simp [execOp]) (ev_rel hf x) hc
  | assign x => exact val (by simp [execOp]) (ev_rel hf x) hc
  | pick c x y =>
    have hcv := ev_rel hf c
    simp only [hop] at hc
    generalize ev fr c = cv at hc hcv
    generalize hce : a.eval c = u at hcv
    cases cv with
    | bool b =>
      cases hcv
      cases b
      · exact val (by simp [execOp, hce, asBool]) (ev_rel hf y) (hc.2 rfl)
      · exact val (by simp [execOp, hce, asBool]) (ev_rel hf x) (hc.1 rfl)
    | _ => exact hc.elim
  | load t x =>
    obtain ⟨y, v, h1, h2, h3⟩ := hload_sound (P := P) (t := t) (K := fun v => K v PS) hr (ev_rel hf x) hc
    exact val (by simp [execOp, h1]) h2 h3
  | nilCheck x =>
    obtain ⟨y, v, h1, h2, h3⟩ := hnil_sound (P := P) (K := fun v => K v PS) hr (ev_rel hf x) hc a.eval ⟨dst, .nilCheck x, ty, pos, after, guard⟩ x rfl rfl
    exact val h1 h2 h3
  | binOp op t x y t2 =>
    have : ∃ z r, (do eqGuard op t x y (a.eval x) (a.eval y); binOp op t (a.eval x) (a.eval y) : Sem Value).run P w = .ok r w ∧ VRel (Mut F D) e w z r ∧ K z PS := by
      simp only [hop, hbinO] at hc
      split at hc
      · rename_i hy
        unfold isNilSl at hy
        split at hy
        · exact hslnil_sound hr x _ (ev_rel hf x) hc
        · cases hy
      · exact hbin_sound (P := P) (K := fun v => K v PS) hr x y (ev_rel hf x) (ev_rel hf y) hc
    obtain ⟨z, v, h1, h2, h3⟩ := this
    exact val (by simp only [execOp]; rw [Sem.run_bind, h1]; simp) h2 h3
  | unOp op t x =>
    obtain ⟨y, v, h1, h2, h3⟩ := hun_sound (P := P) (K := fun v => K v PS) (ev_rel hf x) hc
    exact val (by simp [execOp, h1]) h2 h3
  | convert s d x =>
    have hx := ev_rel hf x
    simp only [hop] at hc
    generalize ev fr x = xv at hc hx
    have main : hconv P PS s d xv (fun v => K v PS) → (⟨dst, .convert s d x, ty, pos, after, guard⟩ : Oper).wp P a w (fun a' w' => ∃ v PS', K v PS' ∧ St F e0 D0 w0 (hput fr dst v) PS' a' w') Q := fun hc => by
      obtain ⟨y, v, h1, h2, h3⟩ := hconv_sound (P := P) (K := fun v => K v PS) hr hx hc
      exact val (by simp [execOp, h1]) h2 h3
    unfold hconvert at hc
    split at hc
    · rename_i l
      split at hc
      · rename_i el hd2
        generalize hxe : a.eval x = u at hx
        cases hx
        obtain ⟨z, r, w', h1, h2, h3, h4, h5⟩ := hstrb_sound (K := fun v => K v PS) hr hc
        exact wp_of_value hd hf ht (by simp [execOp, hxe, h1]) h2 h3 h4 h5
      · exact main hc
    · exact main hc
  | fieldAddr s x f =>
    obtain ⟨y, v, h1, h2, h3⟩ := hfield_sound (P := P) (t := s) (f := f) (K := fun v => K v PS) hr (ev_rel hf x) hc
    exact val (by simp [execOp, h1]) h2 h3
  | field t x f =>
    obtain ⟨y, v, h1, h2, h3⟩ := hfieldv_sound (P := P) (K := fun v => K v PS) (ev_rel hf x) hc
    exact val (by simp [execOp, h1]) h2 h3
  | indexAddr t x i =>
    obtain ⟨y, v, h1, h2, h3⟩ := hindexAddr_sound (P := P) (K := fun v => K v PS) hr (ev_rel hf x) (ev_rel hf i) hc
    exact val (by simp [execOp, h1]) h2 h3
  | index t x i =>
    obtain ⟨y, v, h1, h2, h3⟩ := hindex_sound (P := P) (K := fun v => K v PS) (ev_rel hf x) (ev_rel hf i) hc
    exact val (by simp [execOp, h1]) h2 h3
  | extract x i =>
    obtain ⟨y, v, h1, h2, h3⟩ := hext_sound (P := P) (K := fun v => K v PS) (ev_rel hf x) hc
    exact val (by simp [execOp, h1]) h2 h3
  | slice t x l h m =>
    obtain ⟨y, v, h1, h2, h3⟩ := hslice_sound (P := P) (K := fun v => K v PS) hr (ev_rel hf x) (opt_rel hf l).1 (opt_rel hf l).2 (opt_rel hf h).1 (opt_rel hf h).2 (opt_rel hf m).1 (opt_rel hf m).2 hc
    exact val (by simp [execOp, h1]) h2 h3
  | build t ps =>
    obtain ⟨y, v, h1, h2, h3⟩ := hbuild_sound (P := P) (w := w) (M := Mut F D) (e := e) (t := t) (K := fun v => K v PS) (ps := ps.toList.map fun (p : Nat × Operand) => (p.1, ev fr p.2)) (vs := ps.map fun p => (p.1, a.eval p.2)) (by simp) (by
      intro j p q hp hq
      rw [List.getElem?_map] at hp
      rw [Array.getElem?_map] at hq
      have he : ps.toList[j]? = ps[j]? := by simp
      rw [he] at hp
      cases hx : ps[j]? with
      | none => rw [hx] at hp; cases hp
      | some y => rw [hx] at hp hq; cases hp; cases hq; exact ⟨rfl, ev_rel hf y.2⟩) hc
    exact val (by simp [execOp, h1]) h2 h3
  | buildSlice t n ps => exact hbsl_sound rfl hst0 hc
  | makeInterface t x =>
    simp only [hop, hmki] at hc
    split at hc
    · exact hc.elim
    · rename_i d hn hu
      refine val (y := .iface t (ev fr x)) (v := .iface t (a.eval x)) ?_ (.iface t _ _ (ev_rel hf x)) hc
      cases d <;> simp [execOp, Instr.makeInterface, run_underlying hu] <;> simp_all
    · exact hc.elim
  | makeFunc fn f c =>
    exact val (v := .func fn (f.map a.eval) (c.map a.eval)) (by simp [execOp, Instr.makeFunc]) (.func fn _ _ _ _ (args_rel hf f).1.symm (args_rel hf c).1.symm (args_rel hf f).2 (args_rel hf c).2) hc
  | alloc t => exact halloc_sound rfl hst0 hc
  | box t x => exact hbox_sound rfl hst0 hc
  | store t x y => exact hstore_sound rfl hst0 hc
  | makeSlice t l c => exact hmake_sound rfl hst0 hc
  | makeMap t r =>
    cases r with
    | some r => exact hc.elim
    | none =>
      obtain ⟨y, v, PS', e', D', w', h1, h2, h3, h4, h5⟩ := hmkmap_sound (P := P) (t := t) (K := K) hr hc
      exact wp_of_value hd hf ht (by simp only [execOp, Option.map_none, Sem.run_bind, h1, Result.andThen_ok, Sem.run_pure]) h2 h3 h4 h5
  | lookup t m x ok =>
    obtain ⟨y, v, h1, h2, h3⟩ := hlookup_sound (P := P) (t := t) (ok := ok) (K := fun v => K v PS) hr (ev_rel hf m) (ev_rel hf x) hc
    exact val (by simp [execOp, h1]) h2 h3
  | mapUpdate t m x y =>
    obtain ⟨PS', w', h1, h2, h3, h4⟩ := hmapset_sound (P := P) (t := t) (K := fun PS' => K .junk PS') hr (ev_rel hf m) (ev_rel hf x) (ev_rel hf y) hc
    exact wp_of_skip hd hf ht (by simp [execOp, h1]) h2 h3 h4
  | range t m =>
    obtain ⟨y, v, PS', e', D', w', h1, h2, h3, h4, h5⟩ := hrange_sound (P := P) (t := t) (K := K) hr (ev_rel hf m) hc
    exact wp_of_value hd hf ht (by simp [execOp, h1]) h2 h3 h4 h5
  | next it str =>
    cases str with
    | true => exact hc.elim
    | false =>
      obtain ⟨y, v, PS', w', h1, h2, h3, h4, h5⟩ := hnext_sound (P := P) (ty := ty) (K := K) hr (ev_rel hf it) hc
      exact wp_of_value hd hf ht (by simp [execOp, h1]) h2 h3 h4 h5
  | entry it =>
    obtain ⟨y, v, h1, h2, h3⟩ := hentry_sound (P := P) (K := fun v => K v PS) hr (ev_rel hf it) hc
    exact val (by simp [execOp, h1]) h2 h3
  | call c =>
    obtain ⟨callee, args, ts⟩ := c
    cases callee with
    | builtin b =>
      obtain ⟨args⟩ := args
      obtain ⟨ts⟩ := ts
      simp only [hop] at hc
      have fin : ∀ (s : Sem Value) {z : HV} {r : Value} {PS' : PL} {e' : List Pos} {D' : Nat → Nat → Prop} {w' : World}, (∀ consts, builtin b ⟨ts⟩ ty consts (args.map a.eval).toArray = (do pure (.value (← s)) : Sem Next)) →
          s.run P w = .ok r w' → Rel F e' D' PS' w' → Tr e D w e' D' w' → VRel (Mut F D') e' w' z r → K z PS' → (⟨dst, .call ⟨.builtin b, ⟨args⟩, ⟨ts⟩⟩, ty, pos, after, guard⟩ : Oper).wp P a w (fun a' w' => ∃ v PS', K v PS' ∧ St F e0 D0 w0 (hput fr dst v) PS' a' w') Q := by
        intro s z r PS' e' D' w' h0 h1 h2 h3 h4 h5
        refine wp_of_value hd hf ht ?_ h2 h3 h4 h5
        have : ∃ consts, (execOp a.eval ⟨dst, .call ⟨.builtin b, ⟨args⟩, ⟨ts⟩⟩, ty, pos, after, guard⟩) = builtin b ⟨ts⟩ ty consts (args.map a.eval).toArray :=
          ⟨_, by simp [execOp, resolve, invoke, bind, Sem.bind, pure]; rfl⟩
        obtain ⟨consts, this⟩ := this
        rw [this, h0, Sem.run_bind, h1]
        simp
      unfold hbuiltin at hc
      split at hc
      · rename_i t x hx
        obtain ⟨y, rfl, rfl⟩ := map_one hx
        obtain ⟨z, r, h1, h2, h3⟩ := hlen_sound (P := P) (t := t) (ty := ty) (K := fun v => K v PS) hr (ev_rel hf y) hc
        exact fin _ (fun _ => rfl) h1 hr (.refl _ _ _) h2 h3
      · rename_i t t2 x y hx
        obtain ⟨x', y', rfl, rfl, rfl⟩ := map_two hx
        obtain ⟨z, r, PS', e', D', w', h1, h2, h3, h4, h5⟩ := happ_sound (P := P) (t := t) (t2 := t2) (ty := ty) (K := K) hr (ev_rel hf x') (ev_rel hf y') hc
        exact fin _ (fun _ => rfl) h1 h2 h3 h4 h5
      · rename_i t t2 x y hx
        obtain ⟨x', y', rfl, rfl, rfl⟩ := map_two hx
        obtain ⟨z, r, PS', e', D', w', h1, h2, h3, h4, h5⟩ := hcopy_sound (P := P) (t := t) (t2 := t2) (ty := ty) (K := K) hr (ev_rel hf x') (ev_rel hf y') hc
        exact fin _ (fun _ => rfl) h1 h2 h3 h4 h5
      · rename_i t x hx
        obtain ⟨x', rfl, rfl⟩ := map_one hx
        obtain ⟨z, r, PS', e', D', w', h1, h2, h3, h4, h5⟩ := hclear_sound (P := P) (t := t) (ty := ty) (K := K) hr (ev_rel hf x') hc
        exact fin _ (fun _ => rfl) h1 h2 h3 h4 h5
      · rename_i t ts0 x y hx
        obtain ⟨x', y', rfl, rfl, rfl⟩ := map_two hx
        obtain ⟨PS', w', h1, h2, h3, h4⟩ := hmapdel_sound (P := P) (t := t) (ty := ty) (ts := ⟨t :: ts0⟩) (K := K) hr (by simp) (ev_rel hf x') (ev_rel hf y') hc
        exact fin _ (fun _ => rfl) h1 h2 h3 (.tup [] #[] rfl (by simp)) h4
      · have hmm : ∃ k p q x y, args = [x, y] ∧ a.eval x = .int k p ∧ a.eval y = .int k q ∧ K (.int k (if q < p then q else p)) PS := by
          unfold hminmax at hc
          split at hc
          · rename_i k p k' q hx
            obtain ⟨rfl, h⟩ := hc
            obtain ⟨x, y, rfl, hx1, hy1⟩ := map_two hx
            have h1 := ev_rel hf x
            have h2 := ev_rel hf y
            rw [hx1] at h1; rw [hy1] at h2
            generalize hu : a.eval x = u at h1
            generalize hv : a.eval y = v at h2
            cases h1; cases h2
            exact ⟨_, _, _, x, y, rfl, hu, hv, by simpa using h⟩
          · exact hc.elim
        obtain ⟨k, p, q, x, y, rfl, h1, h2, hK⟩ := hmm
        exact fin _ (z := .int k (if q < p then q else p)) (r := .int k (if q < p then q else p)) (fun _ => rfl) (by simp [Builtin.min_, Builtin.min2, h1, h2]) hr (.refl _ _ _) (.int _ _) hK
      · have hmm : ∃ k p q x y, args = [x, y] ∧ a.eval x = .int k p ∧ a.eval y = .int k q ∧ K (.int k (if q > p then q else p)) PS := by
          unfold hminmax at hc
          split at hc
          · rename_i k p k' q hx
            obtain ⟨rfl, h⟩ := hc
            obtain ⟨x, y, rfl, hx1, hy1⟩ := map_two hx
            have h1 := ev_rel hf x
            have h2 := ev_rel hf y
            rw [hx1] at h1; rw [hy1] at h2
            generalize hu : a.eval x = u at h1
            generalize hv : a.eval y = v at h2
            cases h1; cases h2
            exact ⟨_, _, _, x, y, rfl, hu, hv, by simpa using h⟩
          · exact hc.elim
        obtain ⟨k, p, q, x, y, rfl, h1, h2, hK⟩ := hmm
        exact fin _ (z := .int k (if q > p then q else p)) (r := .int k (if q > p then q else p)) (fun _ => rfl) (by simp [Builtin.max_, Builtin.max2, h1, h2]) hr (.refl _ _ _) (.int _ _) hK
      · exact hc.elim
    | value f =>
      simp only [hop] at hc
      cases hfn : hfun (ev fr f) with
      | none => rw [hfn] at hc; exact hc.elim
      | some q =>
        obtain ⟨g, f1, c1⟩ := q
        rw [hfn] at hc
        obtain ⟨hcl, hcall⟩ := hc
        obtain ⟨fs, cs, hfe, hfs, hcs⟩ := hfun_sound (ev_rel hf f) hfn
        have hrun : (execOp a.eval ⟨dst, .call ⟨.value f, args, ts⟩, ty, pos, after, guard⟩).run P w = .ok (.enter g (fs ++ args.map a.eval ++ cs)) w := by
          simp [execOp, resolve, hfe, Deferred.ofValue, invoke, callable_run hcl]
        unfold Oper.wp
        rw [hrun, Oper.upon_enter]
        have := hcall F e D w (fs ++ args.map a.eval ++ cs) hr (by rw [Array.append_assoc]; exact hfs.append ((args_rel hf args).append hcs))
        refine this.mono ?_
        rintro en w' ⟨v, x, PS', e', D', rfl, hK, hr', ht', hv⟩
        refine ⟨x, PS', hK, ?_, e', D', hr', hf.puts ht' hv, ht.trans ht'⟩
        cases dst <;> exact hd
    | invoke r nm =>
      simp only [hop] at hc
      have hx := ev_rel hf r
      unfold hinvoke at hc
      split at hc
      · rename_i t y hxe
        rw [hxe] at hx
        generalize hre : a.eval r = u at hx
        cases hx with
        | iface _ _ v hv =>
          split at hc
          · rename_i g hg
            obtain ⟨hcl, hcall⟩ := hc
            have hrun : (execOp a.eval ⟨dst, .call ⟨.invoke r nm, args, ts⟩, ty, pos, after, guard⟩).run P w = .ok (.enter g (#[v] ++ args.map a.eval)) w := by
              have hm := hmeth_run hg v w (P.types.size + Made.depth - 1)
              have hd0 : 0 < Made.depth := by decide
              have hd1 : P.types.size + Made.depth - 1 + 1 = P.types.size + Made.depth := by omega
              rw [hd1] at hm
              have hx0 : (#[Value.iface t v] ++ args.map a.eval)[0]? = some (.iface t v) := by rw [Array.getElem?_append_left (by simp)]; rfl
              have hx1 : (#[Value.iface t v] ++ args.map a.eval).extract 1 (#[Value.iface t v] ++ args.map a.eval).size = args.map a.eval := by
                apply Array.ext'
                simp [List.take_of_length_le]
              simp only [execOp, resolve, hre, Sem.run_bind, Sem.run_pure, Result.andThen_ok, invoke, hx0, hx1, callMethod, run_program, hm, callable_run hcl]
            unfold Oper.wp
            rw [hrun, Oper.upon_enter]
            have := hcall F e D w (#[v] ++ args.map a.eval) hr (FRel.append (f := [y]) (t := #[v]) ⟨rfl, fun i b c hb hc => by
              rcases i with _ | i
              · simp at hb hc; subst hb; subst hc; exact hv
              · simp at hb⟩ (args_rel hf args))
            refine this.mono ?_
            rintro en w' ⟨v, x, PS', e', D', rfl, hK, hr', ht', hv⟩
            refine ⟨x, PS', hK, ?_, e', D', hr', hf.puts ht' hv, ht.trans ht'⟩
            cases dst <;> exact hd
          · exact hc.elim
      · exact hc.elim
  | typeAssert x xt t ok =>
    obtain ⟨y, v, h1, h2, h3⟩ := hassert_sound (P := P) (xt := xt) (K := fun v => K v PS) (ev_rel hf x) hc
    exact val (by simp [execOp, h1]) h2 h3
  | _ => exact hc.elim
end
end Go.Eng
