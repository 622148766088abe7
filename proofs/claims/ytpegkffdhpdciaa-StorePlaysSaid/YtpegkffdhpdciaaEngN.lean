/-
  All operations as one abstract meaning; it holds of the model; a function's contract from its text.
  No conditions.
-/
import Derived.Test.YtpegkffdhpdciaaEngM
namespace Go.Eng
open Go
set_option linter.unusedSimpArgs false

def hconvert (P : Program) (PS : PL) (s d : TypeId) (x : HV) (K : HV → Prop) : Prop :=
  match x with
  | .str l => (match P.underlying d with
    | some (.slice _) => hstrb P s d l K
    | _ => hconv P PS s d (.str l) K)
  | x => hconv P PS s d x K
def hmki (P : Program) (t : TypeId) (x : HV) (K : HV → Prop) : Prop :=
  match P.underlying t with
  | some (.interface _) => False
  | some _ => K (.iface t x)
  | none => False
def hbuiltin (P : Program) (b : Builtin) (ts : List TypeId) (xs : List HV) (PS : PL) (K : HV → PL → Prop) : Prop :=
  match b, ts, xs with
  | .len, [t], [x] => hlen P PS t x (fun v => K v PS)
  | .append, [t, t2], [x, y] => happ P PS t t2 x y K
  | .copy, [t, _], [x, y] => hcopy P PS t x y K
  | .clear, [t], [x] => hclear P PS t x K
  | .min, _, xs => hminmax false (fun v => K v PS) xs
  | .max, _, xs => hminmax true (fun v => K v PS) xs
  | _, _, _ => False
def hop (P : Program) : HOp := fun o fr PS K =>
  match o.op with
  | .move x => K (ev fr x) PS
  | .assign x => K (ev fr x) PS
  | .pick c x y => hpick (ev fr c) (ev fr x) (ev fr y) (fun v => K v PS)
  | .load t x => hload PS (ev fr x) (fun v => K v PS) (tsz P t)
  | .nilCheck x => hnil PS (ev fr x) (fun v => K v PS)
  | .binOp op t x y _ => hbin P PS op t (ev fr x) (ev fr y) (fun v => K v PS)
  | .unOp op _ x => hun op (ev fr x) (fun v => K v PS)
  | .convert s d x => hconvert P PS s d (ev fr x) (fun v => K v PS)
  | .fieldAddr s x f => hfield PS (ev fr x) (fun v => K v PS) (fldOf P s f)
  | .field t x f => hfieldv P t (ev fr x) f (fun v => K v PS)
  | .indexAddr t x i => hindexAddr P PS t (ev fr x) (ev fr i) (fun v => K v PS)
  | .index t x i => hindex P t (ev fr x) (ev fr i) (fun v => K v PS)
  | .extract x i => hext (ev fr x) i (fun v => K v PS)
  | .slice t x l h m => hslice P PS t (ev fr x) (l.map (ev fr)) (h.map (ev fr)) (m.map (ev fr)) (fun v => K v PS)
  | .build t ps => hbuild P t (ps.toList.map fun p => (p.1, ev fr p.2)) (fun v => K v PS)
  | .buildSlice t n ps => hbsl n (ps.toList.map fun p => (p.1, ev fr p.2)) (fun v => K v PS) (mkOf P t)
  | .makeInterface t x => hmki P t (ev fr x) (fun v => K v PS)
  | .makeFunc fn f c => K (.func fn (f.toList.map (ev fr)) (c.toList.map (ev fr))) PS
  | .alloc t => halloc P t PS K
  | .box _ x => hbox (ev fr x) PS K
  | .store t x y => hstore PS (ev fr x) (ev fr y) (fun PS' => K .junk PS') (tsz P t)
  | .makeSlice t l c => hmake PS (ev fr l) (ev fr c) K (mkOf P t)
  | .call ⟨.builtin b, args, ts⟩ => hbuiltin P b ts.toList (args.toList.map (ev fr)) PS K
  | .call ⟨.value f, args, _⟩ => hcallv P (args.toList.map (ev fr)) PS K (hfun (ev fr f))
  | _ => False

section
variable {P : Program} {F : Nat → Prop} {e e0 : List Pos} {D D0 : Nat → Nat → Prop} {PS PS' : PL} {w w0 w' : World} {fr : Fr} {a : Act} {o : Oper} {K : HV → PL → Prop} {Q : Exit → Act → World → Prop} {M : Nat → Prop}

theorem hclear_sound {t ty : TypeId} {x : HV} {u : Value} (hr : Rel F e D PS w) (hx : VRel (Mut F D) e w x u) (hc : hclear P PS t x K) :
    ∃ z r PS' e' D' w', (Builtin.clear_ #[t] ty #[u]).run P w = .ok r w' ∧ Rel F e' D' PS' w' ∧ Tr e D w e' D' w' ∧ VRel (Mut F D') e' w' z r ∧ K z PS' := by
  unfold hclear at hc
  cases hm : mkOf P t with
  | none => rw [hm] at hc; exact hc.elim
  | some q =>
    obtain ⟨s, b, z⟩ := q
    rw [hm] at hc
    obtain ⟨el, ti, zv, hu, hi, hz, rfl, rfl, hzs, hs0, rfl, h1⟩ := mkOf_some hm
    obtain ⟨ad, c, PS', e', w', rfl, hst, hnone, hrel, htr, hK⟩ := hput2_sound hr hx (vs := fun len => (madeCells zv.cells (len * ti.size)).toList) (fun len => made_rows zv.cells hzs hs0 h1 len) (fun len => by simp) hc
    refine ⟨_, .tuple #[], PS', e', D, w', ?_, hrel, htr, .tup [] #[] rfl (by simp), hK⟩
    cases ad with
    | none =>
      obtain ⟨rfl, h0⟩ := hnone rfl
      simp [Builtin.clear_, run_underlying hu]
    | some a =>
      have hst' := hst P a rfl
      cases hl : hsllen x with
      | zero =>
        rw [hl] at hst'
        have : (madeCells zv.cells (0 * ti.size)).toList = [] := List.eq_nil_of_length_eq_zero (by simp [size_madeCells])
        rw [this, storeCells_nil] at hst'
        injection hst' with _ hw
        subst hw
        simp [Builtin.clear_, run_underlying hu]
      | succ n =>
        rw [hl] at hst'
        have hzr : (zeroValue el).run P w = .ok zv w := by simp [zeroValue, typeInfo, hi, hz]
        have hzc : Builtin.zeroCells zv.cells (n + 1) = madeCells zv.cells ((n + 1) * ti.size) := by rw [← hzs]; rfl
        simp [Builtin.clear_, run_underlying hu, hzr, hzc, hst']

theorem hstrb_sound {s d : TypeId} {l : List UInt8} {K : HV → Prop} (hr : Rel F e D PS w) (hc : hstrb P s d l K) :
    ∃ z r w', (convert s d (.string ⟨l.toArray⟩)).run P w = .ok r w' ∧ Rel F e D PS w' ∧ Tr e D w e D w' ∧ VRel (Mut F D) e w' z r ∧ K z := by
  unfold hstrb at hc
  split at hc
  · rename_i el hd
    obtain ⟨hu, he, hle, hK⟩ := hc
    have hrun := Lib.run_convert_string_bytes w s d el ⟨l.toArray⟩ hu hd he
    have hsz : (⟨l.toArray⟩ : ByteArray).size = l.length := by simp [ByteArray.size]
    have htr : Tr e D w e D (Lib.bytesWorld w el ⟨l.toArray⟩) := ⟨rfl, rfl, rfl, by rw [Lib.bytesWorld_size]; omega, fun b hb _ => Lib.bytesWorld_at_old w el _ b hb, fun i b h => .inl ⟨i, h⟩, .refl e⟩
    have hrel : Rel F e D PS (Lib.bytesWorld w el ⟨l.toArray⟩) :=
      hr.next htr hr.len (fun i b hb => ⟨(hr.out i b hb).1, by rw [Lib.bytesWorld_size]; have := (hr.out i b hb).2.1; omega, (hr.out i b hb).2.2⟩) hr.apart (fun i q p hq hp => .inl ⟨hq, hp, fun _ => Iff.rfl, fun b hb => Lib.bytesWorld_at_old w el _ b (hr.out i b hb).2.1⟩)
    have hnm : ¬ Mut F D w.heap.size := by
      rintro (hx | ⟨j, hx⟩)
      · exact Nat.lt_irrefl _ (hr.fore _ hx)
      · exact Nat.lt_irrefl _ (hr.out j _ hx).2.1
    have hrows : RowsIn (Mut F D) e (Lib.bytesWorld w el ⟨l.toArray⟩) 1 (bytesRows l) (l.map fun b => Value.int .u8 b.toNat) :=
      ⟨by simp [bytesRows], by simp [bytesRows], by simp [Value.oneCell'], fun i r k y hi hk => by
        simp only [bytesRows, List.getElem?_map] at hi
        cases hb : l[i]? with
        | none => rw [hb] at hi; cases hi
        | some b =>
          rw [hb] at hi; cases hi
          cases k with
          | zero => simp at hk; subst hk; exact ⟨.int .u8 b.toNat, by simp [hb], .int _ _⟩
          | succ k => simp at hk⟩
    have hnew := Lib.bytesWorld_at_new w el ⟨l.toArray⟩
    have hcs : Lib.bytesCells w el ⟨l.toArray⟩ = ((l.map fun b => Value.int .u8 b.toNat) ++ List.replicate (grownCap w l.length 0 el - l.length) (Value.int .u8 0)).toArray := by
      apply Array.ext'
      simp [Lib.bytesCells, hsz]
    rw [hcs] at hnew
    have hge := grownCap_ge w l.length 0 el
    have hgm := grownCap_le_maxLen w l.length 0 el (by simp [maxLen]; omega)
    have hv := imm_of_rows (b := w.heap.size) (c := grownCap w l.length 0 el) hrows hnew hnm false (by simpa [bytesRows] using hge) hgm (by simp)
    rw [hsz] at hrun
    have hbl : (bytesRows l).length = l.length := by simp [bytesRows]
    rw [hbl] at hv
    exact ⟨_, _, _, hrun, hrel, htr, hv, hK⟩
  · exact hc.elim

theorem opt_rel (hf : FRel (Mut F D) e w fr a.tmps) (x : Option Operand) : (∀ y v, x.map (ev fr) = some y → x.map a.eval = some v → VRel (Mut F D) e w y v) ∧ (x.map (ev fr)).isSome = (x.map a.eval).isSome := by
  cases x with
  | none => exact ⟨by simp, rfl⟩
  | some x => exact ⟨by simp; exact ev_rel hf x, rfl⟩

theorem args_rel (hf : FRel (Mut F D) e w fr a.tmps) (xs : Array Operand) : FRel (Mut F D) e w (xs.toList.map (ev fr)) (xs.map a.eval) := by
  refine ⟨by simp, fun i y v hy hv => ?_⟩
  rw [List.getElem?_map] at hy
  rw [Array.getElem?_map] at hv
  have he : xs.toList[i]? = xs[i]? := by simp
  rw [he] at hy
  cases hx : xs[i]? with
  | none => rw [hx] at hy; cases hy
  | some x => rw [hx] at hy hv; cases hy; cases hv; exact ev_rel hf x
theorem FRel.append {f g : Fr} {t u : Array Value} (h : FRel M e w f t) (k : FRel M e w g u) : FRel M e w (f ++ g) (t ++ u) := by
  refine ⟨by simp [h.1, k.1], fun i x v hi hv => ?_⟩
  by_cases hl : i < f.length
  · rw [List.getElem?_append_left hl] at hi
    rw [Array.getElem?_append_left (by rw [← h.1]; exact hl)] at hv
    exact h.2 i x v hi hv
  · rw [List.getElem?_append_right (by omega)] at hi
    rw [Array.getElem?_append_right (by rw [← h.1]; omega), ← h.1] at hv
    exact k.2 _ x v hi hv

theorem callable_run {g : FuncId} (h : callable P g = true) (args : Array Value) (w : World) : (callFunc g args).run P w = .ok (.enter g args) w := by
  unfold callable at h
  cases hg : P.funcs[g]? with
  | none => rw [hg] at h; cases h
  | some fn =>
    rw [hg] at h
    simp only [Bool.and_eq_true, bne_iff_ne, ne_eq] at h
    have hb : fn.body.isNone = false := by cases hb : fn.body <;> simp_all
    simp [callFunc, hg, h.1, hb]
    intro hn; rw [hn] at h; simp at h

theorem hfun_sound {x : HV} {u : Value} {g : FuncId} {f c : List HV} (hx : VRel M e w x u) (h : hfun x = some (g, f, c)) : ∃ fs cs, u = .func (.func g) fs cs ∧ FRel M e w f fs ∧ FRel M e w c cs := by
  unfold hfun at h
  split at h
  · cases h; cases hx; exact ⟨_, _, rfl, ⟨rfl, by simp⟩, ⟨rfl, by simp⟩⟩
  · cases h
    cases hx with
    | func fn f c fs cs h1 h2 h3 h4 => exact ⟨fs, cs, rfl, ⟨h1.symm, h3⟩, ⟨h2.symm, h4⟩⟩
  · cases h

theorem map_one {α β : Type} {f : α → β} {l : List α} {x : β} (h : l.map f = [x]) : ∃ y, l = [y] ∧ f y = x := by
  match l, h with
  | [y], h => exact ⟨y, rfl, by simpa using h⟩
theorem map_two {α β : Type} {f : α → β} {l : List α} {x y : β} (h : l.map f = [x, y]) : ∃ x' y', l = [x', y'] ∧ f x' = x ∧ f y' = y := by
  match l, h with
  | [x', y'], h => exact ⟨x', y', rfl, by simp at h; exact h.1, by simp at h; exact h.2⟩
theorem hop_sound : OpSound P (hop P) := by
  intro o fr PS K F e0 D0 w0 a w Q hc hst
  have hst0 := hst
  obtain ⟨hd, e, D, hr, hf, ht⟩ := hst
  obtain ⟨dst, op, ty, pos, after, guard⟩ := o
  have val : ∀ {y : HV} {v : Value}, (execOp a.eval ⟨dst, op, ty, pos, after, guard⟩).run P w = .ok (.value v) w → VRel (Mut F D) e w y v → K y PS →
      (⟨dst, op, ty, pos, after, guard⟩ : Oper).wp P a w (fun a' w' => ∃ v PS', K v PS' ∧ St F e0 D0 w0 (hput fr dst v) PS' a' w') Q :=
    fun h1 h2 h3 => wp_of_value hd hf ht h1 hr (.refl _ _ _) h2 h3
  cases op with
  | move x => exact val (by simp [execOp]) (ev_rel hf x) hc
  | assign x => exact val (by simp [execOp]) (ev_rel hf x) hc
  | pick c x y =>
    have hcv := ev_rel hf c
    simp only [hop] at hc
    generalize ev fr c = cv at hc hcv
    generalize hce : a.eval c = u at hcv
    cases cv with
    | bool b =>
      cases hcv
      cases b
      · exact val (by simp [execOp, hce, asBool]) (ev_rel hf y) (hc.2 rfl)
      · exact val (by simp [execOp, hce, asBool]) (ev_rel hf x) (hc.1 rfl)
    | _ => exact hc.elim
  | load t x =>
    obtain ⟨y, v, h1, h2, h3⟩ := hload_sound (P := P) (t := t) (K := fun v => K v PS) hr (ev_rel hf x) hc
    exact val (by simp [execOp, h1]) h2 h3
  | nilCheck x =>
    obtain ⟨y, v, h1, h2, h3⟩ := hnil_sound (P := P) (K := fun v => K v PS) hr (ev_rel hf x) hc a.eval ⟨dst, .nilCheck x, ty, pos, after, guard⟩ x rfl rfl
    exact val h1 h2 h3
  | binOp op t x y t2 =>
    obtain ⟨z, v, h1, h2, h3⟩ := hbin_sound (P := P) (K := fun v => K v PS) hr x y (ev_rel hf x) (ev_rel hf y) hc
    exact val (by simp only [execOp]; rw [Sem.run_bind, h1]; simp) h2 h3
  | unOp op t x =>
    obtain ⟨y, v, h1, h2, h3⟩ := hun_sound (P := P) (K := fun v => K v PS) (ev_rel hf x) hc
    exact val (by simp [execOp, h1]) h2 h3
  | convert s d x =>
    have hx := ev_rel hf x
    simp only [hop] at hc
    generalize ev fr x = xv at hc hx
    have main : hconv P PS s d xv (fun v => K v PS) → (⟨dst, .convert s d x, ty, pos, after, guard⟩ : Oper).wp P a w (fun a' w' => ∃ v PS', K v PS' ∧ St F e0 D0 w0 (hput fr dst v) PS' a' w') Q := fun hc => by
      obtain ⟨y, v, h1, h2, h3⟩ := hconv_sound (P := P) (K := fun v => K v PS) hr hx hc
      exact val (by simp [execOp, h1]) h2 h3
    unfold hconvert at hc
    split at hc
    · rename_i l
      split at hc
      · rename_i el hd2
        generalize hxe : a.eval x = u at hx
        cases hx
        obtain ⟨z, r, w', h1, h2, h3, h4, h5⟩ := hstrb_sound (K := fun v => K v PS) hr hc
        exact wp_of_value hd hf ht (by simp [execOp, hxe, h1]) h2 h3 h4 h5
      · exact main hc
    · exact main hc
  | fieldAddr s x f =>
    obtain ⟨y, v, h1, h2, h3⟩ := hfield_sound (P := P) (t := s) (f := f) (K := fun v => K v PS) hr (ev_rel hf x) hc
    exact val (by simp [execOp, h1]) h2 h3
  | field t x f =>
    obtain ⟨y, v, h1, h2, h3⟩ := hfieldv_sound (P := P) (K := fun v => K v PS) (ev_rel hf x) hc
    exact val (by simp [execOp, h1]) h2 h3
  | indexAddr t x i =>
    obtain ⟨y, v, h1, h2, h3⟩ := hindexAddr_sound (P := P) (K := fun v => K v PS) hr (ev_rel hf x) (ev_rel hf i) hc
    exact val (by simp [execOp, h1]) h2 h3
  | index t x i =>
    obtain ⟨y, v, h1, h2, h3⟩ := hindex_sound (P := P) (K := fun v => K v PS) (ev_rel hf x) (ev_rel hf i) hc
    exact val (by simp [execOp, h1]) h2 h3
  | extract x i =>
    obtain ⟨y, v, h1, h2, h3⟩ := hext_sound (P := P) (K := fun v => K v PS) (ev_rel hf x) hc
    exact val (by simp [execOp, h1]) h2 h3
  | slice t x l h m =>
    obtain ⟨y, v, h1, h2, h3⟩ := hslice_sound (P := P) (K := fun v => K v PS) hr (ev_rel hf x) (opt_rel hf l).1 (opt_rel hf l).2 (opt_rel hf h).1 (opt_rel hf h).2 (opt_rel hf m).1 (opt_rel hf m).2 hc
    exact val (by simp [execOp, h1]) h2 h3
  | build t ps =>
    obtain ⟨y, v, h1, h2, h3⟩ := hbuild_sound (P := P) (w := w) (M := Mut F D) (e := e) (t := t) (K := fun v => K v PS) (ps := ps.toList.map fun (p : Nat × Operand) => (p.1, ev fr p.2)) (vs := ps.map fun p => (p.1, a.eval p.2)) (by simp) (by
      intro j p q hp hq
      rw [List.getElem?_map] at hp
      rw [Array.getElem?_map] at hq
      have he : ps.toList[j]? = ps[j]? := by simp
      rw [he] at hp
      cases hx : ps[j]? with
      | none => rw [hx] at hp; cases hp
      | some y => rw [hx] at hp hq; cases hp; cases hq; exact ⟨rfl, ev_rel hf y.2⟩) hc
    exact val (by simp [execOp, h1]) h2 h3
  | buildSlice t n ps => exact hbsl_sound rfl hst0 hc
  | makeInterface t x =>
    simp only [hop, hmki] at hc
    split at hc
    · exact hc.elim
    · rename_i d hn hu
      refine val (y := .iface t (ev fr x)) (v := .iface t (a.eval x)) ?_ (.iface t _ _ (ev_rel hf x)) hc
      cases d <;> simp [execOp, Instr.makeInterface, run_underlying hu] <;> simp_all
    · exact hc.elim
  | makeFunc fn f c =>
    exact val (v := .func fn (f.map a.eval) (c.map a.eval)) (by simp [execOp, Instr.makeFunc]) (.func fn _ _ _ _ (args_rel hf f).1.symm (args_rel hf c).1.symm (args_rel hf f).2 (args_rel hf c).2) hc
  | alloc t => exact halloc_sound rfl hst0 hc
  | box t x => exact hbox_sound rfl hst0 hc
  | store t x y => exact hstore_sound rfl hst0 hc
  | makeSlice t l c => exact hmake_sound rfl hst0 hc
  | call c =>
    obtain ⟨callee, args, ts⟩ := c
    cases callee with
    | builtin b =>
      obtain ⟨args⟩ := args
      obtain ⟨ts⟩ := ts
      simp only [hop] at hc
      have fin : ∀ (s : Sem Value) {z : HV} {r : Value} {PS' : PL} {e' : List Pos} {D' : Nat → Nat → Prop} {w' : World}, (∀ consts, builtin b ⟨ts⟩ ty consts (args.map a.eval).toArray = (do pure (.value (← s)) : Sem Next)) →
          s.run P w = .ok r w' → Rel F e' D' PS' w' → Tr e D w e' D' w' → VRel (Mut F D') e' w' z r → K z PS' → (⟨dst, .call ⟨.builtin b, ⟨args⟩, ⟨ts⟩⟩, ty, pos, after, guard⟩ : Oper).wp P a w (fun a' w' => ∃ v PS', K v PS' ∧ St F e0 D0 w0 (hput fr dst v) PS' a' w') Q := by
        intro s z r PS' e' D' w' h0 h1 h2 h3 h4 h5
        refine wp_of_value hd hf ht ?_ h2 h3 h4 h5
        have : ∃ consts, (execOp a.eval ⟨dst, .call ⟨.builtin b, ⟨args⟩, ⟨ts⟩⟩, ty, pos, after, guard⟩) = builtin b ⟨ts⟩ ty consts (args.map a.eval).toArray :=
          ⟨_, by simp [execOp, resolve, invoke, bind, Sem.bind, pure]; rfl⟩
        obtain ⟨consts, this⟩ := this
        rw [this, h0, Sem.run_bind, h1]
        simp
      unfold hbuiltin at hc
      split at hc
      · rename_i t x hx
        obtain ⟨y, rfl, rfl⟩ := map_one hx
        obtain ⟨z, r, h1, h2, h3⟩ := hlen_sound (P := P) (t := t) (ty := ty) (K := fun v => K v PS) hr (ev_rel hf y) hc
        exact fin _ (fun _ => rfl) h1 hr (.refl _ _ _) h2 h3
      · rename_i t t2 x y hx
        obtain ⟨x', y', rfl, rfl, rfl⟩ := map_two hx
        obtain ⟨z, r, PS', e', D', w', h1, h2, h3, h4, h5⟩ := happ_sound (P := P) (t := t) (t2 := t2) (ty := ty) (K := K) hr (ev_rel hf x') (ev_rel hf y') hc
        exact fin _ (fun _ => rfl) h1 h2 h3 h4 h5
      · rename_i t t2 x y hx
        obtain ⟨x', y', rfl, rfl, rfl⟩ := map_two hx
        obtain ⟨z, r, PS', e', D', w', h1, h2, h3, h4, h5⟩ := hcopy_sound (P := P) (t := t) (t2 := t2) (ty := ty) (K := K) hr (ev_rel hf x') (ev_rel hf y') hc
        exact fin _ (fun _ => rfl) h1 h2 h3 h4 h5
      · rename_i t x hx
        obtain ⟨x', rfl, rfl⟩ := map_one hx
        obtain ⟨z, r, PS', e', D', w', h1, h2, h3, h4, h5⟩ := hclear_sound (P := P) (t := t) (ty := ty) (K := K) hr (ev_rel hf x') hc
        exact fin _ (fun _ => rfl) h1 h2 h3 h4 h5
      · have hmm : ∃ k p q x y, args = [x, y] ∧ a.eval x = .int k p ∧ a.eval y = .int k q ∧ K (.int k (if q < p then q else p)) PS := by
          unfold hminmax at hc
          split at hc
          · rename_i k p k' q hx
            obtain ⟨rfl, h⟩ := hc
            obtain ⟨x, y, rfl, hx1, hy1⟩ := map_two hx
            have h1 := ev_rel hf x
            have h2 := ev_rel hf y
            rw [hx1] at h1; rw [hy1] at h2
            generalize hu : a.eval x = u at h1
            generalize hv : a.eval y = v at h2
            cases h1; cases h2
            exact ⟨_, _, _, x, y, rfl, hu, hv, by simpa using h⟩
          · exact hc.elim
        obtain ⟨k, p, q, x, y, rfl, h1, h2, hK⟩ := hmm
        exact fin _ (z := .int k (if q < p then q else p)) (r := .int k (if q < p then q else p)) (fun _ => rfl) (by simp [Builtin.min_, Builtin.min2, h1, h2]) hr (.refl _ _ _) (.int _ _) hK
      · have hmm : ∃ k p q x y, args = [x, y] ∧ a.eval x = .int k p ∧ a.eval y = .int k q ∧ K (.int k (if q > p then q else p)) PS := by
          unfold hminmax at hc
          split at hc
          · rename_i k p k' q hx
            obtain ⟨rfl, h⟩ := hc
            obtain ⟨x, y, rfl, hx1, hy1⟩ := map_two hx
            have h1 := ev_rel hf x
            have h2 := ev_rel hf y
            rw [hx1] at h1; rw [hy1] at h2
            generalize hu : a.eval x = u at h1
            generalize hv : a.eval y = v at h2
            cases h1; cases h2
            exact ⟨_, _, _, x, y, rfl, hu, hv, by simpa using h⟩
          · exact hc.elim
        obtain ⟨k, p, q, x, y, rfl, h1, h2, hK⟩ := hmm
        exact fin _ (z := .int k (if q > p then q else p)) (r := .int k (if q > p then q else p)) (fun _ => rfl) (by simp [Builtin.max_, Builtin.max2, h1, h2]) hr (.refl _ _ _) (.int _ _) hK
      · exact hc.elim
    | value f =>
      simp only [hop] at hc
      cases hfn : hfun (ev fr f) with
      | none => rw [hfn] at hc; exact hc.elim
      | some q =>
        obtain ⟨g, f1, c1⟩ := q
        rw [hfn] at hc
        obtain ⟨hcl, hcall⟩ := hc
        obtain ⟨fs, cs, hfe, hfs, hcs⟩ := hfun_sound (ev_rel hf f) hfn
        have hrun : (execOp a.eval ⟨dst, .call ⟨.value f, args, ts⟩, ty, pos, after, guard⟩).run P w = .ok (.enter g (fs ++ args.map a.eval ++ cs)) w := by
          simp [execOp, resolve, hfe, Deferred.ofValue, invoke, callable_run hcl]
        unfold Oper.wp
        rw [hrun, Oper.upon_enter]
        have := hcall F e D w (fs ++ args.map a.eval ++ cs) hr (by rw [Array.append_assoc]; exact hfs.append ((args_rel hf args).append hcs))
        refine this.mono ?_
        rintro en w' ⟨v, x, PS', e', D', rfl, hK, hr', ht', hv⟩
        refine ⟨x, PS', hK, ?_, e', D', hr', hf.puts ht' hv, ht.trans ht'⟩
        cases dst <;> exact hd
    | invoke r m => exact hc.elim
  | _ => exact hc.elim
end
end Go.Eng
